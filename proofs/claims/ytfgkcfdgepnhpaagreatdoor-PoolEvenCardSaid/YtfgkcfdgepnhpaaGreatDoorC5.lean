/- The program, walked: part 5. No condition. -/
import Derived.Test.YtfgkcfdgepnhpaaGreatDoorC4
set_option linter.unusedSimpArgs false
set_option linter.unusedVariables false
set_option maxRecDepth 100000
set_option maxHeartbeats 4000000
open Go.Proofs.Tryz renaming prog → QP
variable {c : Nat → Nat} {w : Go.World}
namespace Go.Eng
open Go.RowKit Go.Proofs Go.Proofs.Tryz
variable {α:Type}{k m n i life:Nat}{s:List UInt8}{css:List (List Value)}{l:List Int}{w' h N:World}{cs news b:List Value}{c' j:Nat→Nat}{va a y:Value}{d A:TypeId}{e:List Nat}{f K:Operand}{g:Option (Nat×Bool)}{o:Array Edge}{p:Int}{q:List (List Int)}{r:Value→World→Prop}{u:List (Int×Int)}{v:String}{x:List Bool}{z:CO}{B:Bool}{C:List CV}{F:CS}{H:Program}{J:Option (Rec×List UInt8)}{P:List Rec}{R:IntKind}{S:FuncId}{T:Option Nat}{U:List Gs}{W:Tx}{X:World→Prop}{Y:List (List Rec)}{encs:α→List Value}{Qjq:List α→α→(Nat→Nat)→World→Prop}{Fin:List α→Prop}{t:List α}
open List (replicate)
theorem ox{pa pj :Nat}{vG u:Value}{P:HQ}{x:CV}{t:Tx}{K:List Nat}(U:AI c w 90 k (Dq pa pj a y vG P) 101)(o:BW c w pa F)(hs:Small P.s)(c8:0<n∧n≤12)(e1:0<m∧m≤2048)(hp:GR n m F)(hc:F.BC≤1000000000)
 (hu:Bu Bx c w K u x.Ad)(hK:BB K BX=true)(hi:i<x.Ad.length)(c9:∀q∈x.Ad,(-1≤q.1∧q.1<12)∧0≤q.2∧q.2<64)(c7:Nb ⟨x.id,i,x.gen,t⟩=true)(ht:t.length=P.s.size):
 Calls QP 105 #[P1 k, .agg #[I x.id,I x.len,I x.gen,u],I i,St t] w (Bt fun v w'=>∃c',Mv c w c' w' BX∧∃a7 e,BW c' w' pa a7∧fa n m P.s x i t F a7 e∧v=I e):=by
 have hJ:=BE.start c w BX;replace U:=U.Oc (J:=BX) Z;replace o:=o.Mz (K:=BX);replace hu:=hu.Dt hK;generalize Bw c BX=c0 at hJ U o hu;have f:=hu.AB.AD;have f:=hu.AB.small;obtain⟨g,R⟩:∃g,g=BZ P.s:=⟨_,Z⟩;have f:g≤3:=by rw[R,BZ,Ca];have:=hs.2.2.2.2;omega
 obtain⟨q,f⟩:∃q,q=x.Ad[i]:=⟨_,Z⟩;have b0:x.Ad[i]?=some q:=by rw[dd hi,f]
 have r:=c9 q (by rw[f];exact mv hi);obtain⟨z,l⟩:∃z:Nat,q.2*(g:Int)=(z:Nat):=⟨(q.2*(g:Int)).toNat,by have:=Aef r.2.1 (Ad3 g);omega⟩;have r:z≤189:=by
  have C:q.2*(g:Int)≤63*3:=Int.mul_le_mul G G G G;omega
 have r:=(Co hu hi AO).1;rw[←f] at r;obtain⟨L,b3⟩:∃L,L=Gb ⟨x.id,i,x.gen,t⟩:=⟨_,Z⟩;have b8:L.length=g∧∀vT∈L,vT.length=64:=by
  have C:=Na ⟨x.id,i,x.gen,t⟩;rw[←b3] at C;refine⟨C.1.trans ?_,C.2⟩;show Ca t.length=g
  rw[ht,R];rfl
 refine AY 54 #[.tmp 8] func105 Z<|Q<|Fa c0 105 fun w1 b5 c1 f Bv=>?_;refine V Z<|Q<|E (Aa Cl Z)<|E (Al CH Z Bv.AE Z)<|M Z<|E (BJ DL hu.D.AB Z Z Z G G)<|E (DT Dj Z r.D.DF Z) ?_;refine EK c1 109 JU fun w2 f c2 r a6=>Av (Am Dj Z Z a6 Z Z Bg) ?_;rintro _ r ⟨a6,r⟩;refine Ah<|Ag<|Q<|E (Aa Dy Z)<|E (Al AF Z Bv.D.AE Z)<|M Z<|E (Aa NO Z)<|E (Al AF Z Bv.D.AE Z)<|M Z<|E (By (cells:=#[I x.id,I i,I x.gen,St t]) Z Ao) ?_;refine ve (Ac c2 8 (Ab sw Z (XG (s:=⟨x.id,i,x.gen,t⟩) c7))) ?_;rintro a8 r ⟨r,r,a1,r⟩;replace r:=r.Du a1;rw[←b3] at r;have a1:=r.AA;have a1:=r.AD;refine E (BN Ch) ?_;refine M Z<|Ah<|An<|AG (σ:=Nat) (fun p=>[(0,P1 k),(9,P1 f),(25,a8),(26,I L.length),(27,I p)]) (fun p w'=>p≤L.length∧∃c' a7,BE c w BX c' w'∧AI c' w' 0 k (Dq pa pj a y vG P) 101∧AI c' w' 109 f [I q.1,I q.2] 125∧AJ c' w' 8 9 1 a8 L.length (L.map St)∧BW c' w' pa a7∧IK n m p F a7∧eE a7 q.1 (1024+q.2*(g:Int)) L p∧∀f s',Ih P.s q f s'→Bp a7 f s'=Bp F f s') (fun p=>L.length-p) 0 AL ⟨Wm _,_,_,hJ.D,U.D,a6.D,r,o.D,IK.refl hp,fun j t c6=>by omega,fun _ _ _=>rfl⟩ ?_;rintro p a1 ⟨O,b7,A1,hJ,U,a6,r,o,a1,c4,b9⟩;refine Q<|E (AX Z Z)<|Ah<|Ag<|BA Z (fun b1=>?_) fun b1=>?_
 ·have b4:p<L.length:=G;have b1:=b8.2 _ (mv b4);have b6:DG _ _ [8] (Bz a8 1 p) [St L[p]]:=r.nw (by rw[Aah,dd b4];rfl);have c3:=a1.pw.wf c8 G (by have:=a1.Mt;omega);obtain⟨T,hT⟩:∃T,T=L[p]:=⟨_,Z⟩;rw[←hT] at b1 b6;have b2:=a1.pw.write (d:=q.1) (s:=1024+q.2*(g:Int)+p) b1;refine As<|Ag<|An<|Q<|M Z<|E (BS Ch r Z Z G G)<|E (Cc CQ Z b6.DF)<|za Z ?_;refine V Z<|Ag<|AM b7 BX [0,0,0,1,0,1,0,1,0,0,0,1,0,0,0,0,0,2,0] [0,1,2,3,4,5,6,7,8,9,10,11,12,13,14,15,16,17,18] fun a8 a8 a8=>?_;refine Bm Z Z<|AN Z (Ak Z)<|AN Z (Aa NN Z)<|vc Z a8.kp (U.D.kb LK Z Z)<|AN Z (Aa Ct Z)<|vc Z a8.kp (a6.D.kb AF Z Z)<|AN Z (Aa GP Z)<|vc Z a8.kp (a6.D.kb AF Z Z)<|Bm Z Z<|AN Z (Ak Z)<|AN Z (Aa Ut Z)<|vc Z a8.kp (U.D.kb AF Z Z) ?_;rw[←R,l];refine AN Z (HK (m:=q.2) (n:=(g:Int)) Z Z (by rw[l];omega) (by rw[l];omega))<|AN Z (Bc Z Z (by rw[l];omega) (by rw[l];omega))<|Bm Z Z<|AN Z (Bc Z Z (by rw[l];omega) (by rw[l];omega))<|Bm Z Z ?_;refine Db Z (Ab sx Z (Xt (d:=q.1) (s:=1024+q.2*(g:Int)+p) (t:=T) o.D c3)) ?_;rintro b1 b1 ⟨b1,b1,⟨o,rfl⟩⟩;refine a8.Bl b1 fun a8=>Ir Z Z<|AP ?_;refine Ag ?_;obtain⟨A2,a8⟩:∃A2,A2=(Er A1 q.1 (1024+q.2*(g:Int)+p) T).1:=⟨_,Z⟩;obtain⟨e,b1⟩:∃e,e=(Er A1 q.1 (1024+q.2*(g:Int)+p) T).2:=⟨_,Z⟩;rw[←a8] at o;rw[←b1];rw[←a8,←b1] at b2;obtain⟨a8,g2,b1,c5,b6⟩:=b2;have b7:IK n m (p+1) F A2:=⟨a8,by have:=a1.Mt;omega,fun p↦(b1 p).trans (a1.liveQ p)⟩;have c3:∀f s',Ih P.s q f s'→Bp A2 f s'=Bp F f s':=fun f s' h↦by
   rw[b6,ss (by
    rintro⟨_,b2,a8⟩;rcases h with h|h|h
    ·exact h b2
    ·rw[←R,l] at h;rw[l] at a8;omega
    rw[←R,Ahd,Int.one_mul,l] at h;rw[l] at a8;omega)]
   exact b9 f s' h
  refine cg<|M Z<|E (BK Z Z)<|Ah<|BA Z (fun f=>?_) fun f=>?_
  ·refine Q<|M Z<|V Z<|Af Z Z ?_;refine⟨_,hJ.D.out,A2,e,BW.Ih o hJ.D,⟨b7.more (by rw[←R];omega),fun b1 f C b2↦?_,fun b1 _ C↦absurd C G,fun b1 f↦?_⟩,Z⟩
   ·rw[b0] at f;injection f with f;subst f;rw[←a1.liveQ] at C;rw[←R,Ahd,Int.one_mul,l] at b2;obtain⟨b2,e0⟩:=gy (s:=1024+q.2*(g:Int)+p) a1.pw C (by rw[l];omega) (by rw[l];omega);rw[c5,zm b2,zm e0]
   rw[b0] at f;injection f with f;subst f;exact c3
  have b2:e=0:=G;have C:eE A2 q.1 (1024+q.2*(g:Int)) L (p+1):=fun j vT c6 hy↦by
   rw[b6];rcases Aab j p with h|h
   ·rw[ss (by rintro⟨_,_,a8⟩;omega)];exact c4 j vT h hy
   have:j=p:=G;subst this;rw[zm ⟨b2,Z,Z⟩,hT];rw[dd b4] at hy;injection hy with hy;rw[hy]
  refine As<|cg<|E (Bc Z Z Ai Ai)<|M Z<|Ah ?_;rw[l] at C;exact⟨p+1,AL,⟨G,_,_,hJ.D,U.D,a6.D,r.D,o,b7,C,c3⟩,G⟩
 have g:p=L.length:=G;subst g;refine Az Z<|Q<|V Z<|Af Z Z ?_;refine⟨_,hJ.out,A1,0,BW.Ih o hJ,⟨a1.more (by rw[←R];omega),fun _ _ _ _↦rfl,fun b1 f _↦?_,fun b1 f↦?_⟩,Z⟩
 ·rw[b0] at f;injection f with f;subst f;have a8:=cr _ (kM _) c4;rw[Abi,b8.1] at a8;rw[←R,a8,b3]
 rw[b0] at f;injection f with f;subst f;exact b9
structure zi (c0:Nat→Nat) (w0:World) (d:Nat→Nat) (B:World) (b3 b5 b6 b7 p pa pj n m:Nat) (vS vT vG fv:Value) (P:HQ) (T:Gs×Nat→Tx) (L pre:List (Gs×Nat)):Prop where
 old:BE c0 w0 Hg d B
 b3:AI d B 103 b3 [P1 p] 34
 b5:AI d B 105 b5 [fv] 116
 b6:AI d B 106 b6 [I 0] 44
 a:∃A,DM d B p pa pj vS vT vG {P with A:=A}∧IK n m (3*pre.length) P.A A∧zE m P.s T P.A A L pre
 v:∃vdd,AI d B 107 b7 [vdd] 23∧AJ d B 97 3 1 vdd pre.length ((pre.map fun q=>(Jm q).1).map I)
theorem zi.D{c0:Nat→Nat}{d f:Nat→Nat}{B':World}{b5 b6 b7 p pa pj :Nat}{vG g:Value}{P:HQ}{T:Gs×Nat→Tx}{L pre:List (Gs×Nat)}(w0:zi c0 h d N k b5 b6 b7 p pa pj n m a y vG g P T L pre)(Mjq:Mv d N f B' e:=by exact Go.Eng.KU)(l:AU e 0=false:=by rfl)(hi:BB (103::105::106::107::97::DA) e=true:=by rfl):zi c0 h f B' k b5 b6 b7 p pa pj n m a y vG g P T L pre:=by
 obtain⟨A,i,j⟩:=w0.a;obtain⟨t,o,r⟩:=w0.v;exact⟨w0.old.D Mjq l,w0.b3.D Mjq (BD hi Bb),w0.b5.D Mjq (BD hi Bb),w0.b6.D Mjq (BD hi Bb),⟨A,i.D Mjq (CC hi Bb),j⟩,⟨t,o.D Mjq (BD hi Bb),r.D Mjq (BD hi Bb)⟩⟩
theorem RN{pa pj :Nat}{vG:Value}{P:HQ}{b9:FuncId}{tc:Array Value}{L:List (Gs×Nat)}{T:Gs×Nat→Tx}(C:DM c w k pa pj a y vG P)(hs:Small P.s)(e9:0<n∧n≤12)(e8:0<m∧m≤2048)(h4:GR n m P.A)(hc:P.A.BC≤900000000)(j4:L.length≤1000)
 (h9:Aj QP S=true)(j1:Aj QP b9=true)(hit:LH QP S b vJ [128] [76,0,94] L (Bw c Hg) w)
 (j2:∀c1 w1,BE c w Hg c1 w1→∀q∈L,Calls QP b9 (#[.agg (CL q.1).toArray,I q.2]++tc) w1 (Bt fun v w'=>AZ w1 w'∧v=St (T q)))
 (h0:∀q∈L,Bu Bx (Bw c Hg) w [0] q.1.2.v q.1.1.Ad)(e3:∀q∈L,qU P.s T q):
 Calls QP 42 #[P1 k, .func (.func S) #[] b.toArray, .func (.func b9) #[] tc] w (Bt fun v w'=>∃c',Mv c w c' w' Hg∧∃a8 f e,DM c' w' k pa pj a y vG {P with A:=a8,failed:=f}∧IK n m (4*L.length) P.A a8∧v=I e∧((∀q∈L,Vx m P.s P.A q)→(L.map Jm).Nodup→e=0∧f=P.failed∧(∀q∈L,Ow P.s T a8 q)∧∀d t,(∀q∈L,Ih P.s (Jm q) d t)→Bp a8 d t=Bp P.A d t)):=by
 have hJ:=BE.start c w Hg;replace C:=C.Dt (K:=Hg);have g:BZ P.s≤3:=by rw[BZ,Ca];have:=hs.2.2.2.2;omega
 refine AY 53 #[.cell 6 44] func42 Z ?_;generalize b0:Bw c Hg=c0 at hJ C hit h0;refine Q<|Mn c0 103 fun w1 b3 c1 a6 AR=>?_;refine Mn c1 105 fun w2 b5 c2 g Bv=>?_;refine EK c2 106 Uy fun j b6 j R o=>Ah<|Q<|EK j 107 ub fun a7 b7 a1 J U=>Ah<|Ag<|Ag ?_;have j:AJ _ _ 97 3 1 (.slice none 0 0) 0 []:=Br a1 a7 _ _ _;have e0:zi c w a1 a7 b3 b5 b6 b7 k pa pj n m a y vG (.func (.func b9) #[] tc) P T L []:=⟨((((hJ.D a6).D g).D R).D J),(((AR.D g).D R).D J),((Bv.D R).D J),(o.D J),⟨P.A,((((C.D a6).D g).D R).D J),IK.refl h4,⟨fun _ _ q e3=>by simp at e3,fun _ _ _=>rfl⟩⟩,_,U,j⟩;refine cg<|M Z<|Ah<|An<|EJ (α:=Gs×Nat) (encs:=vJ) (κ:=[128]) (F:=[76,0,94]) (L:=L)
  (fun pre d B=>zi c w d B b3 b5 b6 b7 k pa pj n m a y vG (.func (.func b9) #[] tc) P T L pre) [] (fun _ d B=>BE c w Hg d B∧∃A e f,DM d B k pa pj a y vG {P with A:=A,failed:=f}∧IK n m (4*L.length) P.A A∧AI d B 106 b6 [I e] 44∧¬∀q∈L,Vx m P.s P.A q) [60,61,62,63,90,97,106,107,108] Z Z h9 hit.D Z (fun _=>rfl) Bb Z
  (fun s d A J B h m=>h.D m) (fun k hp=>by simp at hp) (fun s d A J B ⟨J,a8,e,f,R,a1,a6,a7⟩ m=>⟨J.D m,a8,e,f,R.D m,a1,a6.D m,a7⟩)
  e0 ?_ ?_ ?_ ?_
 ·clear e0 hJ C AR Bv o U j hit;rintro l pre ⟨vT,i⟩ d B ⟨hJ,AR,Bv,o,⟨A1,C,R,c5⟩,j3,U,j⟩ e2;have hK:=Acc.refl d B [60,61,62,63,90,97,106,107,108];have c8:(vT,i)∈L:=e2.subset (Abr _ (pv.2 Z));have J:=vT.2.one;have a1:=e3 _ c8;have a6:i<vT.1.Ad.length:=a1.lt;have hu:Bu Bx d B [0] vT.2.v vT.1.Ad:=EA.D (h0 _ c8) (b0▸hJ.nA) Z;obtain⟨r,J⟩:∃r,r=vT.1.Ad[i]'a1.lt:=⟨_,Z⟩;have j0:Jm (vT,i)=r:=by rw[J,Jm];show(vT.1.Ad[i]?).getD _=_;rw[dd a1.lt];rfl
  have e7:DG d B [0] (Bz vT.2.v 2 i) [I r.1,I r.2]:=by
   rw[J];exact(Co hu a6 AO).1
  have J:pre.length+1≤L.length:=by
   have J:=e2.length_le;rwa [ft] at J
  refine Q<|EK d 108 HF fun J b8 a7 c7 c6=>?_;refine Av (Am Cn Z Z c6 Z Z Bg) ?_;rintro _ J ⟨c6,e1⟩;refine Ah<|cg<|V Z<|⟨_,hK.D,?_⟩;intro A2 g;have hK:=Acc.refl a7 A2 [60,61,62,63,90,97,106,107,108];obtain⟨b4,b0,b2,b1⟩:=(((C.D c7).D e1).D g);have J:AI a7 A2 90 k (Dq pa pj a y vG P) 101:=b4;have a6:BW a7 A2 pa A1:=b0;have c4:Dz a7 A2 pj pa P.J:=b2;have c3:eb a7 A2 [94] a y vG P.b:=b1;replace j:=((j.D c7).D e1).D g;have h2:=j.AD;have h3:=j.AA;refine An<|Ag<|Ag<|AM a7 [60,61,62,63] [1,1,0,1,1,0,2,2,0] [0,1,2,3,4,5,6,7,8] fun g g g=>?_;have e5:=AR;have e6:=Bv;have h6:=o;have h7:=U;have e1:=c6;have h8:=J;have c7:=e7;refine vc Z g.kp (e5.D.kb SQ Z Z)<|vc Z g.kp (e1.D.kn Cn Z Z)<|Bm Z Z<|vc Z g.kp (e6.D.kb ua Z Z)<|vc Z g.kp (e1.D.kn Cn Z Z)<|Bm Z Z<|Db Z (Ac a7 1 (DV Z j1 Z (j2 _ _ hJ.D _ c8))) ?_;rintro a7 a7 ⟨a7,a7,e4,rfl⟩;refine g.Bl a7 fun g=>?_;refine Db Z (Ab wQ Z (ox (x:=vT.1) (u:=vT.2.v) (i:=i) (t:=T (vT,i)) J.D a6.D hs e9 e8 R.pw (by have:=R.Mt;omega) hu.D Z a1.lt a1.slot a1.may a1.len)) ?_;rintro a7 a7 ⟨e4,h5,⟨A3,e,a6,a7,rfl⟩⟩;refine g.Bl h5 fun g=>Ir Z Z<|AP ?_;refine Ag ?_;have e1:IK n m (3*(pre.length+1)) P.A A3:=(R.tr a7.lay).more G;refine cg<|M Z<|E (BK Z Z)<|Ah<|BA Z (fun e5=>?_) fun e5=>?_
  ·refine Q<|E (Al SQ Z AR.D.AE Z)<|E (Ak Z)<|E (Aa QC Z)<|Av (Ap IW Z Z ra ra J.D Z) ?_;rintro _ e5 ⟨J,e5⟩;refine Ah<|Q<|M Z<|Av (Ap KF Z Z ra ra o.D Z) ?_;rintro _ e5 ⟨o,e5⟩;refine Ah<|FK Z ?_;exact⟨_,hK.D,hJ.D,A3,e,true,⟨J.D,a6.D,c4.D,c3.D⟩,e1.more G,o,fun h=>absurd (fb (h _ c8) R.liveQ a1.lt a7) G⟩
  have c8:e=0:=G;subst c8;refine As<|AM e4 [97] [1,0,1,0,0,0,1,2,2,3] [0,1,2,3,4,5,6,7,8,9] fun c8 c8 g=>?_;have c7:=e7;refine vc Z g.kp (U.D.kb BQ Z Z)<|AN Z (Aa Cl Z)<|vc Z g.kp (c6.D.kb CH Z Z)<|Bm Z Z<|AN Z (Cv DL) ?_
  first|refine AN Z (Aa Ct Z) ?_|refine AN Z (Bn Ct Z) ?_
  refine vc Z g.kp (fun W c6=>Cc AF Z ((c7.D.zB (i:=0) Z).kp c6 Z).DF)<|Db Z (AH e4 136 BM Z Z Z Z Z) ?_;rintro _ c6 ⟨c6,c6,rfl,c8,c6⟩;refine g.Bl c8 fun g=>Db Z (Ax BM Z Z j.D (Aw underlying23 c6.AE.AT Z Bg) Fh Fg) ?_;rintro c8 c8 ⟨c8,c8,j⟩;refine g.Bl c8 fun g=>?_;have h2:=j.AD;have h3:=j.AA;refine LG Z (Ap BQ Z Z ra ra U.D Z) ?_;rintro _ c6 ⟨U,c6⟩;try replace g:=g.tr c6 Z
  refine AP ?_;refine⟨_,hK.D,hJ.D,AR.D,Bv.D,o.D,⟨A3,⟨J.D,a6.D,c4.D,c3.D⟩,?_,c5.snoc e2 a1.lt a7⟩,_,U,?_⟩
  ·rw[ft];exact e1
  replace j:=j.D c6;rw[ft,Aaf,Aaf,Adb,j0];exact j
 ·clear e0 hJ C AR Bv o U j hit;rintro Djq d B ⟨hJ,AR,Bv,o,⟨A1,C,R,c5⟩,j3,U,j⟩ a1;obtain⟨b4,b0,b2,b1⟩:=C;have J:AI d B 90 k (Dq pa pj a y vG P) 101:=b4;have a6:BW d B pa A1:=b0;have c4:Dz d B pj pa P.J:=b2;have c3:eb d B [94] a y vG P.b:=b1;have h2:=j.AD;have h3:=j.AA;have a7:=j.dz (m:=(L.map fun q=>(Jm q).1).length) (by rw[kr]);refine Q<|E (Al SQ Z AR.AE Z)<|E (Al BQ Z U.AE Z) ?_;refine ve (Ab wR Z (js (l:=L.map fun q↦(Jm q).1) J a6 e9 e8 R.pw (by have:=R.Mt;omega) a7 (by rw[kr];omega))) ?_;rintro j j ⟨j,b0,⟨A3,e,a6,a7,U,c6,rfl⟩⟩;refine V Z<|Ag<|AM j [] [1,1,0,0,1,0,0,0,0,0,0,3] [0,1,2,3,4,5,6,7,8,9,10,11] fun j j g=>?_;refine vc Z g.kp (AR.D.kb SQ Z Z)<|vc Z g.kp (AR.D.kb SQ Z Z)<|AN Z (Ak Z)<|AN Z (Aa QC Z)<|vc Z g.kp (J.D.kb IW Z Z)<|Bm Z Z ?_;apply JV false 2 _ g.kp Mq
  ·intro b1;refine Bm Z Z<|AN Z (BK Z Z) ?_;exact po 2
  refine AN Z (Ak Z)<|AN Z (Aa QC Z)<|LG Z (Ap IW Z Z ra ra J.D Z) ?_;rintro _ b1 ⟨J,b1⟩;refine AP ?_;refine Q<|M Z<|Av (Ap KF Z Z ra ra o.D Z) ?_;rintro _ g ⟨o,b2⟩;refine Ah ?_;obtain⟨g,b4⟩:=((((a1.D b0).D j).D b1).D b2).take;refine GF Z Z g (IR KF Z o.D.AE Z) ?_;refine⟨_,hJ.D.out,A3,P.failed|| !decide (e=0),e,DM.out (P:={P with A:=A3,failed:=P.failed|| !decide (e=0)}) ⟨J.D,a6.D,c4.D,c3.D⟩ hJ.D,(R.tr a7).more ?_,Z,fun hg a6=>?_⟩
  ·rw[kr];omega
  have J:=c6 fun d hd=>by
   obtain⟨q,j,rfl⟩:=Aag.1 hd;rw[R.liveQ];exact(hg q j).1
  refine⟨J,by rw[J];simp,fun q j=>?_,fun d t J=>(U d t).trans (c5.2 d t J)⟩;rw[Ow,Np fun s'=>U _ s'];exact c5.1 hg a6 q j
 ·intro k hp;simp at hp
 rintro Djq pre d B ⟨hJ,A1,e,f,C,R,o,j⟩ a1;skip;obtain⟨g,b4⟩:=a1.take;refine GF Z Z g (IR KF Z o.D.AE Z) ?_;exact⟨_,hJ.D.out,A1,f,e,C.D.out hJ.D,R,Z,fun h _=>absurd h j⟩
structure vf (n m:Nat) (P:HQ) (L:List Nt) (A:CS) (J:Jl) (b:Bk) (e:Int):Prop where
 lay:HP n m 6156 P.A A
 j:Ta n J
 used:J.used≤P.J.used+24+EL (L.map Fv)
 may:Ek P.s b=true
 De:b.De=[]
 new:(e≠0∧b=P.b)∨(e=0∧b=Da P.b L)
 jq:Ek P.s (Da P.b L)=true→Pk n P.A→P.J.failed=false→e=0∧J.failed=false
 life:J.life=P.J.life
 jx:e=0→∀LL hav,JX n hav P.A P.J LL→(∀k,k<n→hav k=true→BG P.A k=true)→JX n hav A J (LL++[L.map Fv])
theorem VV{pj :Nat}{vG u:Value}{P:HQ}{L:List Nt}{K:List Nat}(c4:DM c w k i pj a y vG P)(hs:Small P.s)(h1:0<n∧n≤12)(e9:1024≤m∧m≤2048)(e3:GR n m P.A)(hc:P.A.BC≤900000000)(e7:Ta n P.J)(b2:Ek P.s P.b=true)(ht:P.b.De=[])
 (h:Bu FG c w K u (L.map Fv))(hK:BB K DA=true)(h3:1≤L.length∧L.length≤500)(h0:∀r∈L,FT (Fv r)=true)(e6:∀r∈L,ZE r)(h4:P.b.Ae.length+L.length≤900∧P.b.AQ.length+L.length≤900)(e8:P.J.used+24+EL (L.map Fv)≤32704):
 Calls QP 46 #[P1 k,u] w (Bt fun v w'=>∃c',Mv c w c' w' DA∧∃e1 J' e2 e a1 a6 U,DM c' w' k i pj a1 a6 U {P with A:=e1,J:=J',b:=e2}∧vf n m P L e1 J' e2 e∧v=I e):=by
 have hJ:=BE.start c w DA;replace c4:=c4.Dt (K:=DA);have R:Bu FG (Bw c DA) w [0] u (L.map Fv):=h.Dt hK;generalize Bw c DA=c0 at hJ c4 R;obtain⟨pa,j,o,g⟩:=c4;have f:=R.AB.AD;have f:=g.s.AB;have f:=g.t.AB;have f:=g.g.AB;have b6:=JF b2;have b4:=IE b2;have b1:∀x∈P.b.Ae,x.Ad.length≤1000:=fun x hx=>by
  have a7:=(CI (IC b2 x hx).1).2.2.2.2.1;have:=hs.2.1;have:=hs.2.2.1;omega
 have b0:∀x∈P.b.AQ,x.list.length≤100000:=fun x hx=>by
  obtain⟨_,g2,C,C,_⟩:=Oi (El b2).2.2.1 x hx;rw[C,BI];have a7:=Afb (x.len.toNat+P.s.k*P.s.size-1) (P.s.k*P.s.size);have a8:P.s.k*P.s.size≤3*120:=WO hs.2.1 hs.2.2.2.2;omega
 have C:HO vG:=XY (by rw[ht] at f;exact f);refine AY 67 #[.tmp 4] func46 Z<|Q<|V Z<|Q<|M Z<|E (Ak Z)<|E (Aa DK Z)<|E (ES Fy Z pa.AE (Aat Z)) ?_;refine ve (Ab wz Z (gP (c:=c0) g.s.AB g.t.AB g.g.AB C ⟨G,G,by rw[ht];simp⟩ b1 b0)) ?_;rintro f w1 ⟨c1,C,⟨a1,a6,U,YS,YT,rfl,f⟩⟩;have c8:=f.s.AD;have c9:=f.t.AD;have e0:=f.g.AD;refine EK c1 120 Uz fun w2 b5 c2 b0 Bv=>Av (Am Fy Z Z Bv Z Z Bg) ?_;rintro _ b1 ⟨Bv,b1⟩;refine Ah<|Ag<|Ag ?_;have b3:=(((R.D C).D b0).D b1).AB.small;rw[kr] at b3;have C:(L.map Fv).length=L.length:=kr _;refine cg<|M Z<|E (BN GQ) ?_;refine M Z<|Ah<|An<|AG (σ:=Nat) (fun p=>[(0,P1 k),(1,u),(5,P1 b5),(15,u),(16,I (L.map Fv).length),(17,I p)]) (fun p w'=>p≤L.length∧∃c' a1 a6 U YS YT,BE c w DA c' w'∧AI c' w' 90 k (Dq i pj a y vG P) 101∧BW c' w' i P.A∧Dz c' w' pj i P.J∧eb c' w' [94] a y vG P.b∧Bu FG c' w' [0] u (L.map Fv)∧AI c' w' 120 b5 [a1,a6,U,I (Da P.b (L.take p)).next] 58∧ND c' w' a1 a6 U (Da P.b (L.take p)) YS YT) (fun p=>L.length-p) 0 AL ⟨Wm _,_,a1,a6,U,YS,YT,hJ.D,pa.D,j.D,o.D,g.D,R.D,Bv,f.D⟩ ?_;rintro p e4 ⟨O,b9,a1,a6,U,YS,YT,hJ,pa,j,o,g,R,Bv,f⟩;obtain⟨b,b0⟩:∃b,b=Da P.b (L.take p):=⟨_,Z⟩;have C:=Pc b6 b4 (L.take p);rw[←b0] at C Bv f;obtain⟨c5,c6,b1,b3,c7⟩:=C
 rw[kL] at b1 b3;refine Q<|E (AX Z Z)<|Ah<|Ag<|BA Z (fun C=>?_) fun C=>?_
 ·have b1:p<L.length:=G;have C:p<(L.map Fv).length:=by rw[kr];exact b1
  obtain⟨cs,b6,b3,b8⟩:=Vl R C;rw[Ac0] at b3;obtain⟨vl,vs,c3,C,b4,_⟩:=b3.AB;have e5:=C.AD;have e5:=b4.AD;have e5:=C.AA;have C:=b4.AA;subst c3;refine As<|Ag<|An<|Q<|E (BJ GQ R.AB Z Z Z G (by rw[kr];omega))<|E (DT Df Z b6.DF Z) ?_;refine EK b9 107 Kw fun C b7 C C C=>Av (Am Df Z Z C Z Z Bg) ?_;rintro _ b4 ⟨C,b4⟩;refine Ah<|Q<|E (Ba Df Z C.AE Z)<|ve (Ab wj Z (qW Bv.D f.D c5 c6 ⟨G,G⟩ b3.D Z (e6 _ (mv b1)))) ?_;rintro C C ⟨C,C,⟨rfl,b6,b8,b3,b4,Bv,f⟩⟩;refine V Z<|Q<|M Z<|E (BK Z Z)<|Ah<|Cz Z (fun C=>?_) fun C=>?_
  ·exact absurd C AO
  refine As<|cg<|E (Bc Z Z Ai Ai)<|M Z<|Ah ?_;rw[b0,←Vz P.b b1] at Bv f;exact⟨p+1,AL,⟨G,_,b6,b8,U,b3,b4,hJ.D,pa.D,j.D,o.D,g.D,R.D,Bv,f⟩,G⟩
 have C:p=L.length:=G;subst C;rw[Abi] at b0;have c8:=f.s.AD;have c9:=f.t.AD;have e0:=f.g.AD;have b4:=f.yY G;have b6:=f.yZ G;have b8:b.De=[]:=c7.trans ht;have b3:Bu Wo b9 e4 [125] U b.De:=f.g.Gl (by rw[b8];simp) (fun t ht=>by rw[b8] at ht;cases ht);refine Az Z<|Ag<|Ag<|AM b9 [] [0,0,0,1,1,2,0] [0,1,2,3,4,5,6] fun f C b1=>?_;refine Bm Z Z<|AN Z (Ak Z)<|AN Z (Aa FR Z)<|vc Z b1.kp (fun W f=>ES CP Z (pa.D.kp f Z).AE (Aat Z))<|vc Z b1.kp (Bv.D.kn Fy Z Z)<|Db Z (Ac b9 1 (Ab wm Z (gX hs.ok b4.D.AB b6.D.AB b3.D.AB b8))) ?_;rintro f f ⟨f,f,b9,rfl⟩;refine b1.Bl f fun b1=>AN Z (BL Z)<|AP ?_;refine BA Z (fun b1=>?_) fun b1=>?_
 ·have b9:¬Ek P.s (Da P.b L)=true:=by rw[←b0];simpa using b1
  refine Q<|V Z<|Af Z Z ?_;exact⟨_,hJ.D.out,P.A,P.J,P.b,2,a,y,vG,DM.out ⟨pa.D,j.D,o.D,g.D⟩ hJ.D,⟨(HP.refl e3).more G,e7,G,b2,ht, .inl ⟨by decide,Z⟩,fun h=>absurd h b9,Z,fun e=>(by cases e)⟩,Z⟩
 have h2:Ek P.s (Da P.b L)=true:=by rw[←b0];simpa using b1
 have c3:∀r∈L.map Fv,FT r=true:=fun r b1=>by
  obtain⟨vT,hy,rfl⟩:=Aag.1 b1;exact h0 vT hy
 have b9:∀r∈L.map Fv,r.list.length≤1048576∧r.Bo.length≤1048576:=fun r b1=>by
  obtain⟨vT,hy,rfl⟩:=Aag.1 b1;have a7:=e6 vT hy;cases vT with
  |RE x=>exact⟨by show 2≤_;omega,by have:=a7.2;show x.Ad.length≤_;omega⟩
  |TH d n l=>exact⟨by have:=a7.2.2;show l.length≤_;omega,by show 0≤_;omega⟩
 refine As<|Q<|M Z<|E (Ak Z)<|E (Aa av Z)<|E (Al Gx Z pa.D.AE Z)<|M Z<|ve (Ab wS Z (ov o.D j.D e7 h1 e9 e3 hc R.D Z ⟨G,G⟩ c3 b9 e8)) ?_;rintro R R ⟨R,R,⟨A2,b9,e,j,o,c3,e0,c9,rfl,c6,c5,c8,c7⟩⟩;refine V Z<|Ag<|Q<|M Z<|E (BO Z Z)<|Ah<|Cz Z (fun b1=>?_) fun b1=>?_
 ·exact absurd (by simpa using b1) c5
 refine As<|Ag<|Q<|M Z<|E (BO Z Z)<|Ah<|BA Z (fun b1=>?_) fun b1=>?_
 ·have e5:e=0:=G;have e4:Ek P.s b=true:=by rw[b0];exact h2
  refine cg<|M Z<|E (Ba Fy Z Bv.D.AE Z)<|E (Ak Z)<|E (Aa DK Z)<|Av (Us Fy Z Z pa.D Z (Aat Z) Bg) ?_;rintro _ b1 ⟨c5,b1⟩;refine Ah<|Q<|M Z<|V Z<|Af Z Z ?_;replace hJ:=(((hJ.D C).D f).D R).D b1;replace pa:=((pa.D C).D f).D R;replace g:=((g.D C).D f).D R;replace b4:=(((b4.D C).D f).D R).D b1;replace b6:=(((b6.D C).D f).D R).D b1;replace b3:=(((b3.D C).D f).D R).D b1;replace j:=j.D b1;replace o:=o.D b1
  first
  |exact⟨_,BE.out hJ.Fe,A2,b9,b,e,a1,a6,U,DM.out ⟨⟨c5.AE,FJ c5.BF⟩,j.Fe,o.Fe,⟨b4.Fe,b6.Fe,b3.Fe⟩⟩ hJ.Fe,⟨c3,e0,c9,e4,b8, .inr ⟨e5,b0⟩,fun a7 a8 b1=>c6 a8 b1,c8,c7⟩,Z⟩
  |exact⟨_,hJ.out,A2,b9,P.b,e,a,y,vG,DM.out ⟨pa,j,o,g⟩ hJ,⟨c3,e0,c9,b2,ht, .inl ⟨G,Z⟩,fun a7 a8 b1=>c6 a8 b1,c8,c7⟩,Z⟩
 refine As<|Q<|M Z<|V Z<|Af Z Z ?_;replace hJ:=((hJ.D C).D f).D R;replace pa:=((pa.D C).D f).D R;replace g:=((g.D C).D f).D R;replace b4:=((b4.D C).D f).D R;replace b6:=((b6.D C).D f).D R;replace b3:=((b3.D C).D f).D R
 first
 |exact⟨_,BE.out hJ.Fe,A2,b9,b,e,a1,a6,U,DM.out ⟨⟨c5.AE,FJ c5.BF⟩,j.Fe,o.Fe,⟨b4.Fe,b6.Fe,b3.Fe⟩⟩ hJ.Fe,⟨c3,e0,c9,e4,b8, .inr ⟨e5,b0⟩,fun a7 a8 b1=>c6 a8 b1,c8,c7⟩,Z⟩
 |exact⟨_,hJ.out,A2,b9,P.b,e,a,y,vG,DM.out ⟨pa,j,o,g⟩ hJ,⟨c3,e0,c9,b2,ht, .inl ⟨G,Z⟩,fun a7 a8 b1=>c6 a8 b1,c8,c7⟩,Z⟩
def EP(n:Nat)(P:HQ):List (List Int):=Ce P.n n (P.b.Ae.flatMap (·.Ad))
structure oy (n m:Nat) (P:HQ) (t d:Tx):Prop where
 f:P.failed=false
 j:P.J.failed=false
 vK:Pk n P.A
 ok:∀pre,Fz (Cu n P.A) (Ce P.n n (P.b.Ae.flatMap (·.Ad))) (P.s.k+P.s.m) pre→pre.length=BI P.s t.length→Vp P.b.AQ d=none→P.b.AQ.length<60→P.b.next+(BI P.s t.length:Nat)≤1073741824→(∀x∈Dr P.s P.b.next t pre,∀q∈x.Ad,BG P.A q.1=true∧1024+(q.2+1)*(BZ P.s:Nat)≤m)∧((Dr P.s P.b.next t pre).flatMap (·.Ad)).Nodup∧Ek P.s (Da P.b (Es P.s P.b.next t pre d))=true
def zj(n:Nat)(P:HQ)(t d:Tx)(e:Int):Prop:=(e=4∧(Vp P.b.AQ d).isSome=true)∨(e=2∧(60≤P.b.AQ.length∨1073741824<P.b.next+(BI P.s t.length:Nat)))∨∃p f,Fz (Cu n P.A) (Ce P.n n (P.b.Ae.flatMap (·.Ad))) (P.s.k+P.s.m) p∧p.length<BI P.s t.length∧NA (Cu n P.A) (Em (Ce P.n n (P.b.Ae.flatMap (·.Ad))) p) [] (P.s.k+P.s.m) e f
structure ZN (n m:Nat) (P:HQ) (t d:Tx) (A:CS) (J:Jl) (b:Bk) (f:Bool) (e:Int):Prop where
 lay:IK n m 8000 P.A A
 j:Ta n J
 used:J.used≤P.J.used+3200
 may:Ek P.s b=true
 De:b.De=[]
 size:b.Ae.length≤P.b.Ae.length+41
 exact:oy n m P t d→(e≠0∧zj n P t d e∧A=P.A∧J=P.J∧b=P.b∧f=P.failed)∨(e=0∧f=false∧J.failed=false∧∃pre,Fz (Cu n P.A) (Ce P.n n (P.b.Ae.flatMap (·.Ad))) (P.s.k+P.s.m) pre∧pre.length=BI P.s t.length∧Vp P.b.AQ d=none∧b=Da P.b (Es P.s P.b.next t pre d)∧Qc P.s P.b.next t pre A∧
  (∀d' t',1024≤t'→(∀x∈Dr P.s P.b.next t pre,∀q∈x.Ad,Ih P.s q d' t')→Bp A d' t'=Bp P.A d' t')∧(∀LL hav,JX n hav P.A P.J LL→(∀k,k<n→hav k=true→BG P.A k=true)→JX n hav A J (LL++[(Es P.s P.b.next t pre d).map Fv]))∧J.used≤P.J.used+24+EL ((Es P.s P.b.next t pre d).map Fv)∧J.life=P.J.life)
theorem ZN.none{P:HQ}{d:Tx}(f:GR n m P.A)(i:Ta n P.J)(g:Ek P.s P.b=true)(ht:P.b.De=[])(hx:oy n m P W d→p≠0∧zj n P W d p):ZN n m P W d P.A P.J P.b P.failed p:=
 ⟨(IK.refl f).more G,i,G,g,ht,G,fun h=> .inl ⟨(hx h).1,(hx h).2,Z,Z,Z,Z⟩⟩
theorem oz(y:Gs):(Ov y y.1.Ad.length).map Jm=y.1.Ad:=by
 refine Ab6 (by simp[Ov]) fun i j f=>?_;have g:i<y.1.Ad.length:=by simpa using f
 simp[Ov,Jm,dd g]
theorem da(h:U.map (·.1)=C):(HC U).map Jm=C.flatMap (·.Ad):=by
 subst h;rw[HC,List.map_flatMap,List.flatMap_map];congr 1;funext y;exact oz y
theorem db{p pa pj n m:Nat}{vS vT vG:Value}{P:HQ}{t d:Tx}(h2:DM c w p pa pj vS vT vG P)(hs:Small P.s)(k1:0<n∧n≤12)(o9:1024≤m∧m≤2048)(e0:GR n m P.A)(u2:P.n≤64)(hc:P.A.BC≤800000000)(e4:Ta n P.J)(a6:Ek P.s P.b=true)(ht:P.b.De=[])
 (hd:d.length=32)(x9:t.length≤40)(a52:P.b.Ae.length≤800)(a23:P.J.used+3224≤32704):
 Calls QP 15 #[P1 p,St t, .agg #[I 4,I t.length,St [],St d, .slice none 0 0, .slice none 0 0]] w (Bt fun v w'=>∃c',Mv c w c' w' Hg∧∃l1 J' l3 f e k8 k9 k7,DM c' w' p pa pj k8 k9 k7 {P with A:=l1,J:=J',b:=l3,failed:=f}∧ZN n m P t d l1 J' l3 f e∧v=I e):=by
 have hJ:=BE.start c w Hg;replace h2:=h2.Dt (K:=Hg);generalize a42:Bw c Hg=c0 at hJ h2;have j0:=(El a6).1;simp only[Fb,kg,pn] at j0;have a44:=Ox hs t.length;have a53:=(El a6).2.2.2.1;have w9:=XZ (d:=d) (n:=t.length) (l:=[]) hd G Bb Bb;obtain⟨a63,a01,a64,a65,a02⟩:=id hs;refine AY 135 #[.tmp 6] func15 Z<|Q<|Fa c0 105 fun w1 b5 c1 s3 Bv=>?_;refine V Z<|Ag<|Ag ?_;have x5:UA w1 [I 4,I t.length,St [],St d, .slice none 0 0, .slice none 0 0] (Mu d (t.length:Nat) []):=⟨_,_,Z,FC.nil Cg _ _,FC.nil Bx _ _,⟨by show-9223372036854775808≤(4:Int);omega,by show(4:Int)≤_;omega⟩,⟨by show _≤((t.length:Nat):Int);omega,by show((t.length:Nat):Int)≤_;omega⟩,by show 0≤_;omega,by show d.length≤_;omega⟩;obtain⟨U,c4,c5,i⟩:=(h2.D s3);have y6:=i.s.AB.AD;have y7:=i.t.AB.AD;have y8:=i.g.AB.AD;refine cg<|E (Aa Gg Z)<|E (Al AF Z Bv.AE Z)<|E (BK Z Z)<|M Z ?_;apply AW true 3 _ CK
 ·intro a50;refine wo<|E (Aa Gg Z)<|wo<|E (Al AF Z Bv.AE Z)<|wo<|E (BK Z Z) ?_;exact EQ 3
 refine M Z ?_;apply BU c1 false 3 false CK
 ·intro a45 r7;refine wo<|E (Ba Df Z Bv.AE Z)<|wo<|ve (Ac c1 1 (Ab tU Z (dN x5))) ?_;rintro a73 w2 ⟨c2,a33,a55,rfl⟩;rw[w9];refine wo<|E (BL Z) ?_;exact BV 3 r7.D
 intro b00 q6 s7;refine M Z ?_;apply AW false 5 _ CK
 ·intro a46;refine wo<|E (Aa Hl Z)<|wo<|E (Al AF Z Bv.D.AE Z)<|wo<|M Z<|wo<|E (Ey underlying9 Z)<|wo<|E (BK Z Z) ?_;exact EQ 5
 refine M Z ?_;apply BU q6 false 4 false CK
 ·intro a48 r9;refine wo<|E (Aa DE Z)<|wo<|E (Al BQ Z Bv.D.AE Z)<|wo<|E (BN BM) ?_;refine wo<|E (CM Z Z) ?_;exact BV 4 r9
 intro b01 q7 s8;refine M Z ?_;apply BU q7 false 3 (decide (2000<(t.length:Int))) CK
 ·intro a49 s0;refine wo<|M Z<|wo<|E (Ey underlying9 Z)<|wo<|E (CM Z Z) ?_;exact BV 3 s0
 intro b02 l5 s9;refine Ah<|Cz Z (fun o5=>?_) fun o5=>?_
 ·exfalso;simp at o5;omega
 refine As<|Ag<|AM l5 [] [0,0,0,1,0,1,2,0,0,0,0,0] [0,1,2,3,4,5,6,7,8,9,10,11] fun b03 u0 o=>?_;have o3:=Bv;have o4:=U;refine Bm Z Z<|AN Z (Ak Z)<|AN Z (Aa DK Z)<|vc Z o.kp (fun W j5=>ES Fy Z (o4.D.kp j5 Z).AE (Aat Z))<|AN Z (Aa JS Z)<|vc Z o.kp (o3.D.kb CQ Z Z)<|Db Z (Ac l5 1 (Ab pH Z (OW (n:=P.b.next) (d:=d) i.D.t.AB y6 y7 y8 (IE a6)))) ?_;rintro a74 b04 ⟨q8,n4,a56,rfl⟩;refine o.Bl n4 fun o=>Bm Z Z<|AN Z (Aq Z Z)<|AN Z (Aq Z Z)<|Ir Z Z<|Ir Z Z<|AP ?_;clear o3 o4;clear o;refine Ag<|An<|Ag ?_;replace i:=((((i.D s7).D s8).D s9).D u0).D n4;have a51:=i.s;have x8:=i.t;refine cg<|M Z<|ve (Ac q8 1 (Ab wq Z (Vw ⟨pa,pj,vS,vT,vG,⟨U.D,c4.D,c5.D,i⟩⟩))) ?_;rintro a75 b05 ⟨j3,u1,a57,rfl⟩;refine V Z<|BA Z (fun j9=>?_) fun j9=>?_
 ·refine Q<|V Z<|Af Z Z ?_;exact⟨_,hJ.D.out,P.A,P.J,P.b,P.failed,10,vS,vT,vG,DM.out ⟨U.D,c4.D,c5.D,i.D⟩ hJ.D,ZN.none e0 e4 a6 ht fun h=>by rw[h.f,h.j] at j9;simp at j9,Z⟩
 refine Q<|M Z<|V Z<|BA Z (fun h5=>?_) fun h5=>?_
 ·refine Q<|V Z<|Af Z Z ?_;exact⟨_,hJ.D.out,P.A,P.J,P.b,P.failed,4,vS,vT,vG,DM.out ⟨U.D,c4.D,c5.D,i.D⟩ hJ.D,ZN.none e0 e4 a6 ht fun _=>⟨by decide, .inl ⟨Z,by simpa using h5⟩⟩,Z⟩
 have x8:=(i.D u1).t;refine Ag<|AM j3 [] [0,0,0,0,1,0,0,0,0,0,0,0,1,0,0,0,1,0,0,2,0,0,0,0] [0,1,2,3,4,5,6,7,8,9,10,11,12,13,14,15,16,17,18,19,20,21,22,23] fun b06 a39 o=>?_;refine Bm Z Z<|AN Z (Ak Z)<|AN Z (Aa DK Z)<|AN Z (Aa Ev Z)<|vc Z o.kp (U.D.kb HI Z Z)<|AN Z (BN Ge) ?_;refine AN Z (Dh Z Z)<|Bm Z Z ?_;apply Dc j3 false 14 (decide (1073741824<P.b.next+(BI P.s t.length:Nat))) o.kp Mq
 ·intro a47 r8;refine Bm Z Z<|AN Z (Ak Z)<|AN Z (Aa DK Z)<|AN Z (Aa Ik Z)<|vc Z o.kp (U.D.kb AF Z Z)<|Bm Z Z<|AN Z (Ak Z)<|AN Z (Aa FR Z)<|vc Z o.kp (fun W j5=>ES CP Z (U.D.kp j5 Z).AE (Aat Z))<|Bm Z Z<|AN Z (Ey underlying9 Z)<|Db Z (Ac j3 1 (Ab tV Z (Zx (s:=P.s) (n:=t.length) hs.ok G))) ?_;rintro a76 a81 ⟨a11,s4,a54,rfl⟩;refine o.Bl s4 fun o=>AN Z (Bc Z Z Ai Ai)<|AN Z (CM Z Z) ?_;exact Dd 14 r8.D
 intro a82 a12 a26;refine Ir Z Z<|AP ?_;clear o;refine BA Z (fun o6=>?_) fun o6=>?_
 ·refine Q<|V Z<|Af Z Z ?_;exact⟨_,hJ.D.out,P.A,P.J,P.b,P.failed,2,vS,vT,vG,DM.out ⟨U.D,c4.D,c5.D,i.D⟩ hJ.D,ZN.none e0 e4 a6 ht fun _=>⟨by decide, .inr (.inl ⟨Z,G⟩)⟩,Z⟩
 refine As<|Q<|M Z<|M Z<|ve (Ab zW Z (cN ⟨U.D,c4.D,c5.D,i.D⟩ hs k1 e0 u2 G G G)) ?_;rintro a77 a83 ⟨q0,a27,⟨vl,vt,e,e2,rfl⟩⟩;obtain⟨F,hF⟩:∃F,F=Ce P.n n (P.b.Ae.flatMap (·.Ad)):=⟨_,Z⟩;rw[←hF] at e2;have h0:F.length=n:=by rw[hF,Hb]
 have r6:eA P.n F:=by rw[hF];exact ML
 have a00:vl.oneCell'=true∧vl.cells=#[vl]∧vt.oneCell'=true∧vt.cells=#[vt]:=by
  rcases e2 with⟨_,rfl,rfl,_⟩|⟨_,_,_,_,_,_,_,R,_,j1,_⟩
  ·exact⟨Z,Z,Z,Z⟩
  exact⟨R.AD,R.AA,j1.AD,j1.AA⟩
 obtain⟨a59,a60,a61,a62⟩:=a00;refine M Z<|E (Aq Z Z)<|E (Aq Z Z)<|E (Aq Z Z)<|EK q0 110 pM fun a84 a05 q1 l9 j7=>?_;refine za Z<|Av (Ap lI Z Z ra ra j7 Z) ?_;rintro _ a85 ⟨j7,n0⟩;refine V Z<|Ag<|Q<|M Z<|E (BK Z Z)<|Ah<|BA Z (fun u7=>?_) fun u7=>?_
 ·refine Q<|M Z<|V Z<|Af Z Z<|⟨_,hJ.D.out,P.A,P.J,P.b,P.failed,e,vS,vT,vG,DM.out ⟨U.D,c4.D,c5.D,i.D⟩ hJ.D,ZN.none e0 e4 a6 ht fun h=>?_,Z⟩;replace e2:=(e2.D l9).D n0;rcases e2 with⟨k2,_,_,y9,p7,j,c3,e5⟩|⟨a20,_⟩
  ·rw[hF] at j e5;exact⟨k2, .inr (.inr ⟨y9,p7,j,c3,e5⟩)⟩
  omega
 have k3:Vp P.b.AQ d=none:=by cases x2:Vp P.b.AQ d with|none=>rfl|some k=>rw[x2] at h5;simp at h5
 obtain⟨k2,_⟩|⟨w3,pre,Y,a80,c6,c7,u3,R,c8,j1,y0⟩:=((e2.D l9).D n0)
 case inl=>exact absurd G k2
 subst w3;have h6:=DC n P.A;have e9:∀l∈F,∀y∈l,0≤y∧y<64:=fun l hl y hy=>by have:=(r6 l hl).2.1 y hy;omega
 have h9:0≤P.b.next∧P.b.next+(BI P.s t.length:Nat)≤1073741824:=⟨j0.1,by simp at o6;omega⟩;have a7:Y.map (·.1)=Dr P.s P.b.next t pre:=u3;have p1:=ze hs c6 c7 (by rw[h6,h0]) G e9 h9 a7;have n7:Y.length=BI P.s t.length:=by have:=Aao List.length a7;rw[kr,Ee] at this;exact this
 obtain⟨a40,x0,p0,a24⟩:=cE (next:=P.b.next) (d:=d) hs c6 c7 (by rw[h6,h0]) G e9 h9 hd x9;have j6:∀y∈Y,(0≤y.1.id∧y.1.id≤1073741824)∧(1≤y.1.len∧y.1.len≤360)∧y.1.gen=0∧y.1.Ad.length=P.s.k+P.s.m∧∀p∈y.1.Ad,(0≤p.1∧p.1<12)∧0≤p.2∧p.2<64:=fun y hy=>by
  have e5:y.1∈Dr P.s P.b.next t pre:=by rw[←a7];exact Aag.2 ⟨y,hy,Z⟩
  obtain⟨k,O,hx⟩:=JJ e5;obtain⟨c9,g2,l6,r2,l7,l8⟩:=RF (next:=P.b.next) hs c6 c7 (by rw[h6,h0]) G e9 O;rw[←hx] at c9 g2 l6 r2 l7 l8;have a43:P.s.k*P.s.size≤3*120:=WO a01 a02;exact⟨G,G,g2,l7,fun p hp=>by have:=l8 p hp;omega⟩
 have n6:∀y∈Y,Go.Eng.Int64 y.1.id∧Go.Eng.Int64 y.1.len∧Go.Eng.Int64 y.1.gen:=fun y hy=>by
  obtain⟨c9,g2,l6,_⟩:=j6 y hy;exact⟨⟨G,G⟩,⟨G,G⟩,G,G⟩
 have n8:∀y∈Y,y.1.Ad.length=P.s.k+P.s.m:=fun y hy=>(j6 y hy).2.2.2.1;have a25:(HC Y).length≤200:=by
  rw[cB n8,n7];exact rX (WO (by omega:BI P.s t.length≤40) (by omega:P.s.k+P.s.m≤5)) G
 obtain⟨e7,e8,rfl,_,_⟩:=R.own.len;refine As<|Q<|M Z<|E (Ak Z)<|E (Aa DK Z)<|E (Aa Ik Z)<|E (Al AF Z U.D.AE Z)<|EK q1 112 QN fun a86 a07 q2 a28 j8=>?_;refine Av (Ap AF Z Z ra ra j8 Z) ?_;rintro _ a87 ⟨j8,a29⟩;refine Ah<|Ag<|Q<|M Z<|M Z<|ve (Ac q2 76 (Ab wv Z (cu))) ?_;rintro a66 a88 ⟨a13,a30,y2,⟨p9,rfl,w4,r5⟩⟩;have u6:AI _ _ 76 p9 [.slice e7 Y.length e8] 54:=⟨r5,y2 _ w4⟩;refine E (Dn Z) ?_;refine ve (Ab wu Z (RN (L:=HC Y) (T:=nJ P.s P.b.next t) ⟨U.D,c4.D,c5.D,i.D⟩ hs k1 ⟨G,o9.2⟩ e0 G G sc zX (nL u6 R.D c8.D n6 G (fun y hy↦by have:=n8 y hy;omega)) (nM j7.D j8.D j1.D y0.D ⟨j0.1,j0.2⟩ G p1) (fun q b1↦(c8.D.el q.1 (MK.1 b1).1).Dt Z) (fun q b1↦(p1 q b1).1))) ?_;rintro a67 a89 ⟨a14,a31,⟨A1,f1,q9,b7,e1,rfl,p3⟩⟩;refine V Z<|Q<|M Z<|E (BK Z Z)<|Ah<|BA Z (fun v7=>?_) fun v7=>?_
 ·refine Q<|M Z<|V Z<|Af Z Z<|⟨_,hJ.D.out,A1,P.J,P.b,f1,q9,vS,vT,vG,b7.out hJ.D,⟨e1.more G,e4,G,a6,ht,G,fun h=>?_⟩,Z⟩;obtain⟨k5,k6,_⟩:=h.ok pre (by rw[←hF];exact c6) c7 k3 G h9.2;exact absurd (p3 (cC a7 k5) (by rw[da a7];exact k6)).1 G
 refine As<|Q<|V Z<|Ag<|Q<|M Z<|E (Tv Di R.D Z)<|M Z<|Ah<|An<|AG (σ:=Nat×Value) (fun a8=>[(0,P1 p),(5,P1 b5),(14,a8.2),(110, .slice e7 Y.length e8),(111,I Y.length),(112,I a8.1)]) (fun a8 w'=>a8.1≤Y.length∧∃c' b4 l0,BE c w Hg c' w'∧DM c' w' p pa pj vS vT vG {P with A:=A1,failed:=f1}∧AJ c' w' 140 115 4 (.slice e7 Y.length e8) Y.length (Y.flatMap CL)∧uO c' w' Y∧AI c' w' 105 b5 [I 4,I t.length,St [],St d,l0, .slice none 0 0] 52∧AJ c' w' 146 3 1 l0 a8.1 ((Jn P.b.next a8.1).map I)∧AJ c' w' 147 52 6 a8.2 b4.length (b4.flatMap MJ)∧gY c' w' [149] b4∧b4.map (·.1)=((Dr P.s P.b.next t pre).take a8.1).map TF) (fun a8=>Y.length-a8.1) (0, .slice none 0 0) AL ⟨Nat.zero_le _,_,[],_,hJ.D,b7,R.D,c8.D,Bv.D,Br _ _ _ _ _,Br _ _ _ _ _,⟨fun z g=>by simp at g,fun z g=>by simp at g⟩,Z⟩ ?_;clear hJ b7 R c8 Bv;rintro⟨k,a72⟩ a04 ⟨O,j4,b4,l0,hJ,b7,R,c8,Bv,a1,g,e3,e6⟩;dsimp only at O a1 g e6;have z1:=a1.AD;have z6:=a1.AA;have z7:=g.AD;have z8:=g.AA;have a41:b4.length=k:=by
  have:=Aao List.length e6;rw[kr,kr,kL,Ee] at this;omega
 refine Q<|E (AX Z Z)<|Ah<|Ag<|BA Z (fun v8=>?_) fun v8=>?_
 ·have k0:k<Y.length:=G;obtain⟨y,hy⟩:∃y,y=Y[k]:=⟨_,Z⟩;have k4:y∈Y:=by rw[hy];exact mv k0
  have u9:DG j4 a04 [140] (Bz (.slice e7 Y.length e8) 4 k) (CL y):=by rw[hy];exact R.elem (fun x=>EW x) AO k0
  have hu:=c8.el y k4;have a58:=y.2.one;have y3:=j6 y k4;refine As<|Ag<|An<|Q<|E (BS Di R Z Z G G)<|E (DT Cn Z u9.DF Z) ?_;refine EK j4 116 HF fun a90 a10 q3 a32 h4=>Av (Am Cn Z Z h4 Z Z Bg) ?_;rintro _ a91 ⟨h4,a34⟩;refine Ah<|Q<|M Z<|E (Ba Cn Z h4.AE Z)<|ve (Ac q3 149 (Ab wx Z (Vu (x:=y.1) hu.D.AB G))) ?_;rintro a68 a92 ⟨q4,a35,p4,⟨a78,a79,rfl,h7,h8⟩⟩;replace h7:=h7.Du p4;replace h8:=h8.Du p4;obtain⟨j2,d1,rfl,_⟩:=h7.own.len;obtain⟨p6,d2,rfl,_⟩:=h8.own.len;refine ve (AH q4 219 GQ Z Z Z Z Z) ?_;rintro _ a93 ⟨a06,a15,rfl,a36,o0⟩;refine ve (Ax GQ Z Z g.D (Aw underlying94 o0.AE.AT Z Bg) Fh Fg) ?_;rintro a69 a94 ⟨q5,a37,g⟩;clear o0;have z7:=g.AD;have z8:=g.AA;refine V Z<|cg<|E (Aa DE Z)<|E (Al BQ Z Bv.D.AE Z)<|E (Aa Dy Z)<|E (Al AF Z h4.D.AE Z)<|ve (AH q5 225 BM Z Z Z Z Z) ?_;rintro _ a95 ⟨a08,a16,rfl,s5,o1⟩;refine ve (Ax BM Z Z a1.D (Aw underlying23 o1.AE.AT Z Bg) Fh Fg) ?_;rintro a70 a96 ⟨a17,s6,a1⟩;clear o1;have z1:=a1.AD;have z6:=a1.AA;refine E (Aa DE Z)<|Av (Ap BQ Z Z ra ra Bv.D Z) ?_;rintro _ a97 ⟨Bv,n1⟩;refine Ah<|cg<|E (Bc Z Z Ai Ai)<|M Z<|Ah ?_;have h1:(Dr P.s P.b.next t pre)[k]?=some y.1:=by rw[←a7,Aah,dd k0,hy];rfl
  have hid:y.1.id=P.b.next+(k:Nat):=by
   rw[Lr G] at h1;injection h1 with e;rw[←e];rfl
  have o7:k<(Dr P.s P.b.next t pre).length:=by rw[Ee];omega
  refine⟨(k+1,_),AL,⟨by dsimp only;omega,_,b4++[(TF y.1,⟨.slice j2 2 d1,Z⟩,⟨.slice p6 y.1.Ad.length d2,Z⟩)],_,hJ.D,b7.D,R.D,c8.D,Bv,?_,?_,?_,?_⟩,by show Y.length-(k+1)<Y.length-k;omega⟩
  ·replace a1:=a1.D n1;dsimp only;rw[jy,List.map_append,←hid];exact a1
  ·replace g:=((g.D s5).D s6).D n1;dsimp only;rw[List.length_append,List.flatMap_append];exact g
  ·refine⟨fun z b3=>?_,fun z b3=>?_⟩
   ·rcases Aac.1 b3 with h|h
    ·exact e3.D.l z h
    rw[pv.1 h];exact EA.more (Jg (l:=[y.1.len,y.1.gen]) h7.D (by show 2≤_;omega) (fun p hp=>by
     have:=n6 y k4;simp only[Aak,Acx,Ae3] at hp;rcases hp with rfl|rfl
     ·exact this.2.1
     exact this.2.2)) Z
   rcases Aac.1 b3 with h|h
   ·exact e3.D.s z h
   rw[pv.1 h];exact Jf h8.D (by show y.1.Ad.length≤_;omega) (fun p hp=>by have:=y3.2.2.2.2 p hp;exact⟨⟨G,G⟩,G,G⟩)
  dsimp only;rw[List.map_append,e6,List.take_succ_eq_append_getElem o7,List.map_append];rw[List.getElem?_eq_getElem o7] at h1;injection h1 with e;rw[e];rfl
 have r1:k=Y.length:=G;subst r1;rw[vq (by rw[Ee];omega)] at e6;obtain⟨j2,d1,rfl,_⟩:=a1.own.len;have w5:=Kn P.b.next Y.length;have w6:∀x∈Jn P.b.next Y.length,0≤x∧x≤1073741824:=fun x hx=>by have:=VA hx;omega
 refine Az Z<|Q<|M Z<|M Z<|E (Ba Df Z Bv.AE Z)<|ve (AH j4 232 GQ Z Z Z Z Z) ?_;rintro _ a98 ⟨a09,a18,rfl,n2,o2⟩;refine ve (Ax GQ Z Z g.D (Aw underlying94 o2.AE.AT Z Bg) Fh Fg) ?_;rintro a03 p5 ⟨l4,n3,g⟩;clear o2;obtain⟨b9,h3⟩:∃b9,b9=b4++[(Mu d (t.length:Nat) (Jn P.b.next Y.length),⟨.slice j2 Y.length d1,rfl⟩,⟨.slice none 0 0,rfl⟩)]:=⟨_,Z⟩;have y4:AJ l4 p5 147 52 6 a03 b9.length (b9.flatMap MJ):=by rw[h3,ft,Aan];exact g
 have n9:b9.map (·.1)=(Es P.s P.b.next t pre d).map Fv:=by rw[h3,Aaf,e6,Ya,n7];rfl
 replace e3:=(e3.D n2).D n3;have x4:gY l4 p5 [146,149] b9:=by
  rw[h3];refine⟨fun z b3=>?_,fun z b3=>?_⟩
  ·rcases Aac.1 b3 with h|h
   ·exact EA.more (e3.l z h) Z
   rw[pv.1 h];exact EA.more (rb (l:=Jn P.b.next Y.length) (((a1.D n2).D n3).dz w5.symm) G (fun p hp=>by have:=w6 p hp;exact⟨G,G⟩)) Z
  rcases Aac.1 b3 with h|h
  ·exact e3.s z h
  rw[pv.1 h];exact fun w' _ _=>FC.nil Bx _ _
 have u4:∀z∈b9,Go.Eng.Int64 z.1.Ar∧Go.Eng.Int64 z.1.id∧z.1.name.length≤140737488355328∧z.1.AK.length≤140737488355328:=fun z b3=>by
  have j:z.1∈(Es P.s P.b.next t pre d).map Fv:=by rw[←n9];exact Aag.2 ⟨z,b3,Z⟩
  obtain⟨r,x3,w0⟩:=Aag.1 j;rw[←w0];exact cD (p0 r x3)
 have n5:=ZG y4 x4 u4 (by rw[h3,ft];simp;omega);rw[n9] at n5;have r4:A1.BC≤900000000:=by have:=e1.Mt;omega
 have x6:P.b.Ae.length+(Es P.s P.b.next t pre d).length≤900:=G;have x7:P.b.AQ.length+(Es P.s P.b.next t pre d).length≤900:=G;refine ve (Ab wy Z (VV (P:={P with A:=A1,failed:=f1}) (L:=Es P.s P.b.next t pre d) b7.D hs k1 o9 e1.pw r4 e4 a6 ht n5 Z ⟨G,G⟩ x0 p0 ⟨x6,x7⟩ (by show P.J.used+24+_≤_;omega))) ?_;rintro a71 a99 ⟨a19,a38,⟨A2,l2,b2,r0,k8,k9,k7,b7,C,rfl⟩⟩;refine V Z<|Af Z Z ?_;have w7:=Pc (JF a6) (IE a6) (Es P.s P.b.next t pre d);refine⟨_,hJ.D.out,A2,l2,b2,f1,r0,k8,k9,k7,b7.out hJ.D,⟨(e1.tr C.lay.toS).more G,C.j,?_,C.may,C.De,?_,fun h=> .inr ?_⟩,Z⟩
 ·have j:=C.used;have c3:l2.used≤P.J.used+24+EL ((Es P.s P.b.next t pre d).map Fv):=j;omega
 ·rcases C.new with⟨_,j⟩|⟨_,j⟩
  ·rw[show b2=P.b from j];omega
  rw[show b2=Da P.b (Es P.s P.b.next t pre d) from j];have:=w7.2.2.1;omega
 obtain⟨k5,k6,y5⟩:=h.ok pre (by rw[←hF];exact c6) c7 k3 G h9.2;obtain⟨_,hf,y1,w8⟩:=p3 (cC a7 k5) (by rw[da a7];exact k6);obtain⟨c9,g2⟩:=C.jq y5 (h.vK.congr e1.liveQ) h.j;have p2:∀x∈Dr P.s P.b.next t pre,∀q∈x.Ad,0≤q.2:=fun x hx q b1=>by
  obtain⟨k,O,rfl⟩:=JJ hx;exact((RF (next:=P.b.next) hs c6 c7 (by rw[h6,h0]) G e9 O).2.2.2.2.2 q b1).2.1
 have o8:∀b6 b8,(∀x∈Dr P.s P.b.next t pre,∀q∈x.Ad,Ih P.s q b6 b8)→Bp A1 b6 b8=Bp P.A b6 b8:=fun b6 b8 b0=>w8 b6 b8 fun q b1=>by
  obtain⟨j,c3⟩:=MK.1 b1;exact b0 q.1.1 (by rw[←a7];exact Aag.2 ⟨q.1,j,Z⟩) _ (cA c3)
 refine⟨c9,hf.trans h.f,g2,pre,by rw[←hF];exact c6,c7,k3,C.new.elim (fun b0=>absurd c9 b0.1) (fun b0=>b0.2),(jw a7 y1).keep C.lay.keep p2,fun b6 b8 b0 r3=>?_,fun p8 u5 x1 hv=>?_,C.used,C.life⟩
 ·rw[C.lay.keep b6 b8 b0];exact o8 b6 b8 r3
 refine C.jx c9 p8 u5 (x1.keep (fun _ _ b0=>b0) fun k s' j c3 e5 a21=>o8 _ _ fun x hx q b1=> .inr (.inl ?_)) fun k j c3=>by rw[show BG A1 k=BG P.A k from e1.liveQ k];exact hv k j c3
 have a22:0≤q.2*(BZ P.s:Nat):=Aef (p2 x hx q b1) (Ad3 _);omega
theorem oA{w:World}{C:List FI}(i j:Nat)(h:AZ w w')(l:CJ w' w.heap.size d 1 a n b)(J:w.heap.size≤k)(o:Oe w' k C):∃c',Mv c w c' w' []∧AJ c' w' i d 1 a n b∧Ly c' w' j k C:=by
 refine⟨fun f=>if f<w.heap.size then c f else if f=k then j else i,⟨h.os,h.tape,h.output,h.size,fun f O=>by simp[O],fun f O _=>h.block f O⟩,⟨l.Eu (Wm _),fun f O=>?_⟩,o,?_⟩
 ·have p:=(l.lt f O).1;have r:f≠k:=fun p=>by
   obtain⟨t,clock,t,_⟩:=o;rcases l.2 with⟨_,A,rfl⟩|⟨g,cap,I,I,rfl,_,hg,_,_,_,_,_,LF⟩
   ·rw[Iq] at O;cases O
   rw[Bh LF] at O;injection O with O;have I:g=f:=O;rw[I,p,t] at hg;cases hg
  show(if f<w.heap.size then c f else if f=k then j else i)=i
  rw[ss G,ss r]
 show(if k<w.heap.size then c k else if k=k then j else i)=j
 rw[ss G,zm Z]
section
variable {c:Nat→Nat} {w:World} {p:Nat} {A:CS} {d:Int}
theorem VW{g f:List (List FI)}(R:FU c w 62 9 b g)(t:FV c w 63 e f)(i:0<n)(j:n≤1048576):Calls QP 30 #[I n] w (Bt fun u w'=>∃c',Mv c w c' w' []∧∃lv f,u= .agg #[.bool true,lv, .map (some f)]∧
 AJ c' w' 62 9 1 lv (Ep n).l.length ((Ep n).l.map St)∧Ly c' w' 63 f (Ep n).cache∧(∀(k:Nat) (u:Value) (l:List FI) (vs:Nat),b[k]?=some u→g[k]?=some l→u.rowOf=some vs→lv.rowOf≠some vs)∧∀u∈e,f≠u):=
 (ml i j).mono fun ms w' ⟨u,hu,r,lv,f,j,g,i,J⟩=>by
  obtain⟨c',C,o,p⟩:=oA (c:=c) 62 63 r i g J;refine⟨u,hu,c',C,lv,f,j,?_,p,R.newRow fun k O=>(i.lt k O).1,t.uv g⟩;rw[show(Ep n).l.length=n from Iz,show(Ep n).l.map St=replicate n (St dY) from List.map_replicate];exact o
theorem dc(h:BW c w p A)(C:SX A):Calls QP 12 #[.pointer (some ⟨p,0,none⟩),I d] w (Bt fun u w'=>∃c',Mv c w c' w' BX∧BW c' w' p (Ec A d).1∧u=I (Ec A d).2):=by
 have g:=h;obtain⟨v,X,i,f⟩:=h;have hJ:=BE.start c w BX;replace i:=i.Dt (J:=BX) Z;replace f:=f.Dt;replace g:=g.Dt;obtain⟨j,cp,rfl,j,j⟩:=f.form;have j:=f.len;generalize Bw c BX=c0 at hJ i f g;refine AY 20 #[.tmp 4] func12 Z<|Q<|V Z<|Ag<|Q<|M Z<|M Z<|ve (Ac c0 1 (Ab hW Z (Si g))) ?_;rintro j w1 ⟨c1,l,j,rfl⟩;refine E (BL Z)<|Ah<|BA Z (fun j=>?_) fun j=>?_
 ·refine Q<|V Z ?_;refine Af Z Z ?_;exact⟨_,hJ.D.out,by simpa[Ec,j] using(g.D l).out (hJ.D l),by simp[Ec,j]⟩
 obtain⟨k,rfl,O⟩:=Zl j;have o:=C.sec;refine As<|Ag<|AM c1 [61] [0,0,0,1,0,0,0,0,1,2,0,3] [0,1,2,3,4,5,6,7,8,9,10,11] fun w2 t g=>?_;refine Bm Z Z<|AN Z (Ak Z)<|AN Z (Aa GH Z)<|vc Z g.kp (i.D.kb Lk Z Z)<|Bm Z Z<|Bm Z Z<|AN Z (Ak Z)<|AN Z (Aa QB Z)<|vc Z g.kp (i.D.kb AF Z Z)<|Db Z (Ab tT Z (VW f.D.rows f.D.maps o.1 G)) ?_;rintro o o ⟨o,o,⟨lv,r,rfl,a1,r,R,U⟩⟩;refine g.Bl o fun g=>AN Z (BS PD f.D.own Z Z G G) ?_;refine LG Z ((Rf (k:=k) (x1:= .tmp 19) (y:= .tmp 18) (x':=Ep A.CU) fE f.D O Z Z Z a1 r R U)) ?_;rintro _ r ⟨r,r,f⟩;try replace g:=g.tr r Z
 refine AP ?_;refine Q<|V Z<|Af Z Z ?_;replace hJ:=(((hJ.D l).D t).D o).D r;exact⟨_,hJ.out,by simp only[Ec,j,Afo];exact⟨_,_,((((i.D l).D t).D o).D r).out hJ Z,f.out hJ⟩,by simp[Ec,j]⟩
theorem oB(h:BW c w p A)(R:SX A):Calls QP 11 #[.pointer (some ⟨p,0,none⟩),I d] w (Bt fun u w'=>∃c',Mv c w c' w' BX∧BW c' w' p (Jp A d).1∧u=I (Jp A d).2):=by
 have i:=h;obtain⟨v,X,j,f⟩:=h;have hJ:=BE.start c w BX;replace j:=j.Dt (J:=BX) Z;replace f:=f.Dt;replace i:=i.Dt;have l:=f.len;have l:=R.many;obtain⟨g,cp,rfl,l,l⟩:=f.own.CT G;generalize Bw c BX=c0 at hJ j f i;refine AY 27 #[.tmp 4] func11 Z<|Q<|V Z<|Ag<|Q<|M Z<|M Z<|ve (Ac c0 1 (Ab hW Z (Si i))) ?_;rintro l w1 ⟨c1,o,l,rfl⟩;refine E (BL Z)<|Ah<|BA Z (fun l=>?_) fun l=>?_
 ·refine Q<|V Z ?_;refine Af Z Z ?_;exact⟨_,hJ.D.out,by simpa[Jp,l] using(i.D o).out (hJ.D o),by simp[Jp,l]⟩
 obtain⟨k,rfl,O⟩:=Zl l;have r:=R.sec;refine As<|Ag<|AM c1 [61] [0,0,0,1,0,0,0,0,1,2,0,3] [0,1,2,3,4,5,6,7,8,9,10,11] fun w2 C i=>?_;refine Bm Z Z<|AN Z (Ak Z)<|AN Z (Aa GH Z)<|vc Z i.kp (j.D.kb Lk Z Z)<|Bm Z Z<|Bm Z Z<|AN Z (Ak Z)<|AN Z (Aa QB Z)<|vc Z i.kp (j.D.kb AF Z Z)<|Db Z (Ab tT Z (VW f.D.rows f.D.maps r.1 G)) ?_;rintro r r ⟨r,r,⟨lv,U,rfl,a7,t,a1,a6⟩⟩;refine i.Bl r fun i=>AN Z (BS PD f.D.own Z Z G G) ?_;refine LG Z ((Rf (k:=k) (x1:= .tmp 19) (y:= .tmp 18) (x':=Ep A.CU) fE f.D O Z Z Z a7 t a1 a6)) ?_;rintro _ t ⟨t,t,f⟩;try replace i:=i.tr t Z
 refine AP ?_;refine Ag ?_;have i:(X.set k (true,lv,U)).length=X.length:=Yy;have i:k<X.length:=G;have a1:=TU (x:=(true,lv,U)) i;have U:=TU (x:=Ep A.CU) O;have i:(⟨g,k*3,none⟩:Addr)=(Bz (.slice (some ⟨g,0,none⟩) X.length cp) 3 (k:Int).toNat).add 0:=by simp[Bz,add_lit]
 refine cg<|M Z<|E (Ak Z)<|E (Aa GH Z)<|E (Al Lk Z j.D.AE Z)<|M Z<|E (BS PD f.own Z Z G G) ?_
 first|refine E (Aa TM Z) ?_|refine E (Bn TM Z) ?_
 refine Av ((Zk (x1:= .tmp 26) IW f a1 U Z (by rw[i];rfl) Z)) ?_;rintro _ i ⟨i,i,f⟩;rw[List.set_set,List.set_set] at f;refine Ah<|Q<|V Z<|Af Z Z ?_;replace hJ:=((((hJ.D o).D C).D r).D t).D i;exact⟨_,hJ.out,by simp only[Jp,l,Afo];exact⟨_,_,(((((j.D o).D C).D r).D t).D i).out hJ Z,f.out hJ⟩,by simp[Jp,l]⟩
end
section
variable {c:Nat→Nat} {w:World} {p:Nat} {A:CS} {d:Int}
end
section
variable {c c':Nat→Nat} {w:World} (hc:∀k i,i≠0→c k=i→c' k=i)
include hc
theorem AI.kR(h:AI c w i k cs d)(f:i≠0:=by decide):AI c' w i k cs d:=⟨h.AE,hc _ _ f h.BF⟩
theorem AJ.kR(h:AJ c w i d k a n b)(f:i≠0:=by decide):AJ c' w i d k a n b:=⟨h.own,fun size O=>hc _ _ f (h.BF size O)⟩
theorem Ly.kR{C:List FI}(h:Ly c w i k C)(f:i≠0:=by decide):Ly c' w i k C:=⟨h.obj,hc _ _ f h.BF⟩
theorem FU.kR{L:List (List FI)}(h:FU c w i d b L)(f:i≠0:=by decide):FU c' w i d b L:=⟨h.len,fun j v l g o=>(h.row j v l g o).kR hc f,h.apart⟩
theorem FV.kR{L:List (List FI)}(h:FV c w i e L)(f:i≠0:=by decide):FV c' w i e L:=⟨h.len,fun j v l g o=>(h.row j v l g o).kR hc f,h.apart⟩
theorem Cm.kR{X:List DX}{Djq:List UW}(h:Cm c w a X Djq):Cm c' w a X Djq:=⟨h.liveQ,h.own.kR hc,h.rows.kR hc,h.maps.kR hc⟩
end
theorem BE.tv{c:Nat→Nat}{w:World}(w0:BE j h [] c w):∀k i,i≠0→c k=i→back j h c k=i:=fun k i f O=>by
 unfold back;split
 ·rename_i g;rw[w0.BF k g] at O;exact absurd O.symm f
 ·exact O
theorem Cm.snoc{X:List DX}{Djq:List UW}{x:UW}(f:X.map (·.1)=Djq.map (·.liveQ))(g:AJ c w 61 84 3 a (X.length+1) (X.flatMap bl++[.bool x.liveQ,y, .map (some m)]))
 (i:FU c w 62 9 (X.map (·.2.1)) (Djq.map (·.l)))(o:FV c w 63 (X.map (·.2.2)) (Djq.map (·.cache)))(C:AJ c w 62 9 1 y x.l.length (x.l.map St))(p:Ly c w 63 m x.cache)
 (r:∀(j:Nat) (u:Value) (l:List FI) (b:Nat),(X.map (·.2.1))[j]?=some u→(Djq.map (·.l))[j]?=some l→u.rowOf=some b→y.rowOf≠some b)(t:∀u∈X.map (·.2.2),m≠u):Cm c w a (X++[(x.liveQ,y,m)]) (Djq++[x]):=by
 refine⟨by simp[f],?_,?_,?_⟩
 ·rw[ft,Aan];exact g
 ·rw[Aaf,Aaf];exact i.snoc C r
 rw[Aaf,Aaf];exact o.snoc p t
theorem rq{n s:Int}:Calls QP 26 #[I n,I s] w (Bt fun u w'=>∃c',Mv c w c' w' []∧
 ((∃k j p:Nat,n=k∧s=j∧(1≤k∧k≤12∧1≤j∧j≤2048)∧u= .tuple #[.pointer (some ⟨p,0,none⟩),I 0]∧BW c' w' p (Pg k j))∨(¬(1≤n∧n≤12∧1≤s∧s≤2048)∧u= .tuple #[.pointer none,I 1]))):=by
 have hJ:=BE.start c w [];generalize Bw c []=c0 at hJ;refine AY 40 #[.tmp 4, .tmp 5] func26 Z<|Q<|za Z<|V Z<|Ag<|Q<|M Z<|E (AX Z Z)<|M Z ?_;apply AW false 2 _ CK
 ·intro f;refine wo<|M Z<|wo<|E (CM Z Z) ?_;exact EQ 2
 refine M Z ?_;apply AW false 2 _ CK
 ·intro f;refine wo<|M Z<|wo<|E (AX Z Z) ?_;exact EQ 2
 refine M Z ?_;apply AW false 2 _ CK
 ·intro f;refine wo<|M Z<|wo<|E (CM Z Z) ?_;exact EQ 2
 refine Ah<|BA Z (fun f=>?_) fun f=>?_
 ·refine Q<|za Z<|V Z ?_;refine BR Z Z Z ?_;exact⟨_,hJ.out, .inr ⟨G,Z⟩⟩
 obtain⟨k,rfl⟩:∃k:Nat,n=k:=⟨n.toNat,G⟩;obtain⟨j,rfl⟩:∃j:Nat,s=j:=⟨s.toNat,G⟩;refine As<|Q<|M Z<|E (By (cells:=#[.slice none 0 0,I j, .bool false,I (-1),I 0]) Z Ao) ?_;refine Fa c0 60 fun w1 f c1 g g=>?_;refine V Z<|Ag<|Q<|M Z<|M Z<|Ah<|An<|AG (σ:=Nat) (fun i=>[(1,I j),(6, .pointer (some ⟨f,0,none⟩)),(24,I k),(25,I i)]) (fun i w'=>i≤k∧∃c' v X,BE c w [] c' w'∧AI c' w' 60 f [v,I j, .bool false,I (-1),I 0] 88∧Cm c' w' v X (replicate i (Ep j))) (fun i=>k-i) 0 AL ⟨G,_,_,[],hJ.D,g,⟨Z,Br _ _ _ _ _,FU.nil,FV.nil⟩⟩ ?_;rintro i f ⟨hi,f,v,X,hJ,g,J,l,R,U⟩;have o:X.length=i:=by have:=Aao List.length J;simpa using this
 have o:=l.AD;have o:=l.AA;refine Q<|E (AX Z Z)<|Ah<|Ag<|BA Z (fun o=>?_) fun o=>?_
 ·refine As<|Ag<|An ?_;refine AM f [61] [0,0,0,0,1,0,2,2,2,0,0,3] [0,1,2,3,4,5,6,7,8,9,10,11] fun w2 a1 f=>Bm Z Z<|Bm Z Z<|AN Z (Ak Z)<|AN Z (Aa GH Z)<|vc Z f.kp (g.D.kb Lk Z Z)<|Bm Z Z<|Db Z (Ab tT Z (VW R.D U.D G G)) ?_;rintro o o ⟨o,C,⟨lv,r,rfl,a6,a7,a8,b0⟩⟩;refine f.Bl C fun f=>?_;have r:=a6.AD;refine Db Z (AH o 134 PD Z Z Z Z Z) ?_;rintro _ o ⟨o,o,rfl,r,o⟩;refine f.Bl r fun f=>Db Z (Ax PD Z Z l.D (Aw underlying86 o.AE.AT Z Bg) Fh Fg) ?_;rintro t t ⟨t,t,l⟩;refine f.Bl t fun f=>?_;have o:=l.AD;have q5:=l.AA;refine AN Z (Ak Z)<|AN Z (Aa GH Z)<|LG Z (Ap Lk Z Z ra ra g.D Z) ?_;rintro _ o ⟨g,o⟩;try replace f:=f.tr o Z
  refine AP ?_;refine cg<|E (Bc Z Z Ai Ai)<|M Z<|Ah ?_;refine⟨i+1,AL,⟨G,_,_,_,hJ.D,g,by rw[Adp];exact Cm.snoc J (l.D o) (((((R.D a1).D C).D r).D t).D o) (((((U.D a1).D C).D r).D t).D o) (((a6.D r).D t).D o) (((a7.D r).D t).D o) a8 b0⟩,G⟩
 have e:i=k:=G;subst e;refine Az Z<|Q<|M Z<|za Z<|V Z<|BR Z Z Z ?_;exact⟨_,hJ.out, .inl ⟨i,j,_,Z,Z,G,Z,_,_,g.kR hJ.tv,(Cm.mk J l R U).kR hJ.tv⟩⟩
theorem Qg{P:Program}{env:Env}{t:TypeId}{a:Option Addr}(ht:P.underlying t=some (.pointer (P.pointee t)))(hx:BY env f=some (.pointer a)):DP P env w (.binOp .eql t f (.const (.pointer none)) A) d (.bool a.isNone):=fun _ x l ty pos o g=>by
 have i:=Agk (P:=P) w t a ht;have j:x.eval (.const (.pointer none))= .pointer none:=rfl;simp[execOp,l.eval hx,eqGuard,binOp,i,j]
theorem oC(U:1≤n∧n≤12)(R:1≤m∧m≤2048):Calls QP 26 #[I n,I m] w (Bt fun u w'=>∃c',Mv c w c' w' []∧∃p,BW c' w' p (Pg n m)∧u= .tuple #[P1 p,I 0]):=
 (rq (c:=c) (w:=w) (n:=n) (s:=m)).mono fun e w' ⟨v,t,c',r,h⟩=>by
  rcases h with⟨k,j,p,f,C,J,l,o⟩|⟨f,_⟩
  ·have g:n=k:=G;have i:m=j:=G;subst g;subst i;exact⟨v,t,c',r,p,o,l⟩
  ·exact absurd G f
theorem VX{s:CO}{N:Nat}(hs:Small s∧s.size≤9)(t:s.k+s.m≤n∧n≤8)(l:3≤N∧N≤12):
 Calls QP 8 #[.agg (DB s).toArray,I n,I N] w (Bt fun u w'=>∃c',Mv c w c' w' BX∧∃A p pa pj j,DM c' w' p pa pj (.slice none 0 0) (.slice none 0 0) (.slice none 0 0) ⟨s,N,A,j,Nf,(-1,-1),false⟩∧HP n (1024+N*Ca s.size) 20000 (Pg n (1024+N*Ca s.size)) A∧Ta n j∧j.used=24∧j.failed=false∧j.life≤3000000000∧JX n (fun _=>true) A j [[]]∧u= .tuple #[P1 pa,P1 p]):=by
 have hJ:=BE.start c w BX;generalize Bw c BX=c0 at hJ;obtain⟨f,_⟩:=id hs.1;have g:Ca s.size≤2:=by unfold Ca;omega
 have r:=PH s.size;have f:(N:Int)*((Ca s.size:Nat):Int)=((N*Ca s.size:Nat):Int):=by rw[Acf]
 have o:N*Ca s.size≤24:=by have:=WO l.2 g;omega
 have i:1≤N*Ca s.size:=Ae5 G r;obtain⟨Mjq,g⟩:∃Mjq,Mjq=N*Ca s.size:=⟨_,Z⟩;rw[←g] at o i;refine AY 46 #[.tmp 6, .tmp 7] func8 Z<|Q<|Fa c0 103 fun w1 b3 c1 i AR=>?_;refine za Z<|V Z<|Q<|M Z<|M Z<|E (Aa DO Z)<|E (Al AF Z AR.AE Z)<|ve (Ac c1 1 (Ab zR Z (jF (z:=s.size) G))) ?_;rintro i w2 ⟨c2,i,i,rfl⟩;refine E (HK (m:=(N:Int)) (n:=(Ca s.size:Nat)) Z Z (by rw[f];omega) (by rw[f];omega)) ?_;rw[f,←g];have f:(1024:Int)+(Mjq:Int)=((1024+Mjq:Nat):Int):=G;refine E (Bc Z Z G G) ?_;rw[f];refine ve (Ab zQ Z (oC (c:=c2) (n:=n) (m:=1024+Mjq) G G)) ?_;rintro v20 f ⟨f,g,⟨pa,g,rfl⟩⟩;refine M Z<|E (Aq Z Z)<|E (Aq Z Z)<|za Z<|V Z<|Ag<|Q<|M Z<|ve (Ac f 1 (Ab YL Z (KR 0))) ?_;rintro f f ⟨f,f,f,rfl⟩;refine E (BK Z Z)<|M Z ?_;apply AW false 2 _ CK
 ·intro C;refine wo<|M Z<|wo<|E (Qg underlying33 Z) ?_;exact EQ 2
 refine Ah<|Cz Z (fun f=>?_) fun f=>?_
 ·simp at f
 refine As<|Q<|M Z<|E (Ba CP Z AR.D.AE Z)<|M Z ?_;refine ve (Ab zS Z (ow (m:=1024+Mjq) g.D hs.1 t G G mr (by show 0≤_;omega) (fun k O↦Ve O) (fun d q hd f↦mu hd G))) ?_;rintro f f ⟨g,f,⟨A1,p,pj,j,f,i,J,hu,hf,o,r,rfl⟩⟩;refine M Z<|E (Aq Z Z)<|E (Aq Z Z)<|za Z<|V Z<|Ag<|Q<|M Z<|ve (Ac g 1 (Ab YL Z (KR 0))) ?_;rintro g g ⟨g,g,g,rfl⟩;refine E (BK Z Z)<|M Z ?_;apply AW false 2 _ CK
 ·intro C;refine wo<|M Z<|wo<|E (Qg underlying34 Z) ?_;exact EQ 2
 refine Ah<|Cz Z (fun g=>?_) fun g=>?_
 ·simp at g
 refine As<|Q<|M Z<|M Z<|za Z<|V Z<|BR Z Z Z ?_;exact⟨_,hJ.D.out,A1,p,pa,pj,j,⟨f.D.AE.EO hJ.D,BW.Ih f.D.arr hJ.D,Dz.EO f.D.kP hJ.D,⟨fun w' _ _=>FC.nil DS _ _,fun w' _ _=>FC.nil Ie _ _,fun w' _ _=>FC.nil Wo _ _⟩⟩,i,J,hu,hf,o,r,Z⟩
theorem de{P:HQ}(hp:WA c w k P)(hs:Small P.s)(r:Ek P.s P.b=true)(ht:P.b.De=[])(hl:P.b.Ae.length≤1000):
 Calls QP 17 #[P1 k] w (Bt fun u w'=>∃c',Mv c w c' w' []∧∃l o i,eb c' w' [121,122,123,124,125] l o i P.b∧u= .agg #[l,o,i,I P.b.next]):=by
 obtain⟨pa,pj,vS,vT,vG,j⟩:=hp;have g:=DD.start c w DA;replace j:=j.Dt (K:=DA);generalize Bw c DA=c0 at g j;obtain⟨C,f,f,f⟩:=j;have j:=f.s.AB.AD;have j:=f.t.AB.AD;have j:=f.g.AB.AD;have j:=f.g.AB;have R:HO vG:=XY (by rw[ht] at j;exact j);have j:=(El r).2.2.2.1;have U:∀x∈P.b.Ae,x.Ad.length≤1000:=fun x hx=>by
  have j:=(CI (IC r x hx).1).2.2.2.2.1;have:=hs.2.1;have:=hs.2.2.1;omega
 have J:∀x∈P.b.AQ,x.list.length≤100000:=fun x hx=>by
  obtain⟨_,g2,j,j,_⟩:=Oi (El r).2.2.1 x hx;rw[j];have:=Ox hs x.len.toNat
  omega
 refine AY 8 #[.cell 2 58] func17 Z<|Q<|EK c0 102 Uz fun w1 b2 c1 j j=>?_;refine Ah<|Q<|M Z<|E (Ak Z)<|E (Aa DK Z)<|E (ES Fy Z C.D.AE (Aat Z)) ?_;refine ve (Ab wz Z (gP (c:=c1) f.D.s.AB f.D.t.AB f.D.g.AB R ⟨G,G,by rw[ht];simp⟩ U J)) ?_;rintro f w2 ⟨c2,f,⟨l,o,i,YS,YT,rfl,f⟩⟩;have C:=f.s.AD;have C:=f.t.AD;have C:=f.g.AD;have R:=f.yY G;have U:=f.yZ G;have J:Bu Wo _ _ [125] i P.b.De:=f.g.Gl (by rw[ht];simp) (fun t C=>by rw[ht] at C;cases C);refine Av (Am Fy Z Z j.D Z Z Bg) ?_;rintro _ f ⟨j,f⟩;refine Ah<|FH Z (DZ Fy Z j.AE Z) ?_;exact⟨_,g.D.out,l,o,i,⟨EA.more (cY R.D g.D.eD) Z,EA.more (cY U.D g.D.eD) Z,EA.more (EA.EO J.D g.D.eD) Z⟩,Z⟩
def jX(k m:Nat)(hv:List Nat):Mx:=Me (Hr k m) (HG (IY (Hr k m) hv))
def zk(k m:Nat)(hv:List Nat):Bool:=((List.range k).all fun q=>Nat.beq ((Hr k m).row (hv.getD q 0)).length k)&&(List.range (k+m)).all fun i=>Nat.beq ((jX k m hv).row i).length k&&(List.range k).all fun q=>(List.range 8).all fun b=>
 Nat.beq (HD (fun j=>HD (cM q b) ((Hr k m).row (hv.getD j 0)) 0 0) ((jX k m hv).row i) 0 0).toNat (HD (cM q b) ((Hr k m).row i) 0 0).toNat
def vg(k m:Nat):Bool:=((List.range (k+m)).all fun i=>Nat.beq ((Hr k m).row i).length k)&&(List.range k).all fun i=>(List.range k).all fun q=>(List.range 8).all fun b=>Nat.beq (HD (cM q b) ((Hr k m).row i) 0 0).toNat (cM q b i).toNat
def oD(k m:Nat):Bool:=vg k m&&(Tb k (List.range' 0 (k+m))).all (zk k m)
theorem oE:((List.range 3).all fun k=>(List.range 3).all fun m=>oD (k+1) m)=true:=Ao
theorem ZO(h:Small z):oD z.k z.m=true:=by
 obtain⟨a,b,c,_⟩:=h;have f:=Aae.1 oE (z.k-1) (Aax.2 G);have g:=Aae.1 f z.m (Aax.2 G);rwa [show z.k-1+1=z.k by omega] at g
theorem oF{a b:UInt8}(h:Nat.beq a.toNat b.toNat=true):a=b:=Af4 (Aai h)
theorem oG(c:UInt8):JA 0 c=0:=by
 have h:=cJ 0 0 c;rw[show(0:UInt8)^^^0=0 from Z] at h;rw[h];simp
theorem OB:∀(r:List UInt8) (k:Nat),HD (fun _=>0) r k 0=0
 |[],_=>rfl
 |c::r,k=>by rw[HD,oG];exact OB r (k+1)
theorem WK{x:Nat→UInt8}(h:∀q,x q=0)(r:List UInt8)(k:Nat):HD x r k 0=0:=by
 rw[show x=fun _=>0 from funext h];exact OB r k
theorem zl:(0:UInt8)=0^^^0:=rfl
theorem RO(x y:Nat→UInt8)(r:List UInt8)(k:Nat):HD (fun q=>x q^^^y q) r k 0=HD x r k 0^^^HD y r k 0:=by
 conv=>lhs;rw[zl]
 exact cK x y r k 0 0
theorem Yo{Mjq:Mx}{l:List Tx}(hi:i<Mjq.r)(o:0<l.length)(hl:∀x∈l,x.length=n)(C:(Mjq.row i).length≤l.length):((JB Mjq l).getD i []).length=n∧∀j,j<n→((JB Mjq l).getD i []).getD j 0=HD (fun q=>(l.getD q []).getD j 0) (Mjq.row i) 0 0:=by
 have g:∀q,q<l.length→(l.getD q []).length=n:=fun q g=>by
  rw[hk,dd g];exact hl _ (mv g)
 have e:(JB Mjq l).getD i []=Ga (fun k=>l.getD k []) (Mjq.row i) 0 (replicate (l.getD 0 []).length 0):=by
  rw[JB,hk,Aah,Adu hi];rfl
 rw[e];obtain⟨p,r⟩:=VG (f:=fun k=>l.getD k []) (n:=n) (Mjq.row i) 0 (replicate (l.getD 0 []).length 0) (fun q _ h=>g q G) (by rw[Iz];exact g 0 o);refine⟨p,fun j t=>?_⟩;rw[r j t];congr 1;simp only[hk,Ady];split<;>rfl
theorem oH{l:List Tx}(h:i<l.length):l[i]=l.getD i []:=by rw[hk,dd h];rfl
theorem df(Mjq:Mx)(l:List Tx):(JB Mjq l).length=Mjq.r:=by simp[JB]
theorem ho{b:Tx}(i:W.length=n)(l:b.length=n)(h:∀j,j<n→W.getD j 0=b.getD j 0):W=b:=by
 refine Ab6 (i.trans l.symm) fun j f g=>?_;have:=h j G;rwa [Oz f,Oz g] at this
section
variable {s:CO} {u:Tx}
theorem Ue(hs:Small s)(hi:i<s.k+s.m):((Hr s.k s.m).row i).length=s.k:=by
 have h:=ZO hs;simp only[oD,vg,kg] at h;exact Aai (Aae.1 h.1.1 i (Aax.2 hi))
theorem RP(hs:Small s)(hu:u.length≤s.k*s.size)(hi:i<s.k+s.m):((Mg s (DR s u)).getD i []).length=s.size∧∀j,j<s.size→((Mg s (DR s u)).getD i []).getD j 0=HD (fun q=>((DR s u).getD q []).getD j 0) ((Hr s.k s.m).row i) 0 0:=by
 obtain⟨f,g⟩:=MF hu;exact Yo (Mjq:=Hr s.k s.m) hi (by have:=hs.1;omega) g (by rw[Ue hs hi,f];exact kM _)
theorem rr(hs:Small s)(hu:u.length≤s.k*s.size):(Mg s (DR s u)).take s.k=DR s u:=by
 obtain⟨g,t⟩:=MF hu;have f:=(ZF hs hu).1;refine Ab6 (by rw[kL,f,g];omega) fun i l f=>?_;have g:i<s.k:=by rw[kL] at l;omega
 have hc:=ZO hs;simp only[oD,vg,kg] at hc;obtain⟨l,o⟩:=RP (i:=i) hs hu G;have p:((Mg s (DR s u)).take s.k)[i]=(Mg s (DR s u)).getD i []:=by rw[List.getElem_take,oH]
 have r:=oH f;rw[p];refine ho l (t _ (mv f)) fun j l=>?_;rw[o j l,r];refine nR (k:=s.k) (F:=fun x=>HD x ((Hr s.k s.m).row i) 0 0) (Gjq:=fun x=>x i) (fun x y=>RO x y _ _) (fun x y=>rfl) (OB _ _) Z (fun x y h=>JL _ _ _ fun q _ f=>h q (by rw[Ue hs G] at f;omega)) (fun x y h=>h i g) (fun q b l f=>?_) _;exact oF (Aae.1 (Aae.1 (Aae.1 hc.1.2 i (Aax.2 g)) q (Aax.2 l)) b (Aax.2 f))
theorem vi{L:List Tx}(hs:Small s)(hu:u.length≤s.k*s.size)(ht:x.length=s.k+s.m)(hc:(Dl s.k 0 x).length=s.k)(R:∀i∈Dl s.k 0 x,L.getD i []=(Mg s (DR s u)).getD i []):Sf s L x=some (Mg s (DR s u)):=by
 have f:=hs.1;have g:=ZO hs;simp only[oD,kg] at g;have r:=Ru x s.k 0 hc;rw[ht] at r;have f:=Aae.1 g.2 _ r;rw[Sf,ss G];congr 1;generalize Dl s.k 0 x=hv at hc R f;simp only[zk,kg] at f;obtain⟨c1,c2⟩:=f;obtain⟨f,f⟩:=MF hu;have f:(hv.map fun i=>L.getD i [])=hv.map fun i=>(Mg s (DR s u)).getD i []:=Abw R;rw[f];have C:∀q,q<s.k→hv.getD q 0<s.k+s.m:=fun q f=>by
  rcases Aab (hv.getD q 0) (s.k+s.m) with h|h
  ·exact h
  have t:=Aai (Aae.1 c1 q (Aax.2 f));have g:((Hr s.k s.m).row (hv.getD q 0)).length=0:=by
   rw[Mx.row,kL,kK];obtain⟨r,g2,I⟩:=Sl hs;have J:(Hr s.k s.m).l.length=(s.k+s.m)*s.k:=by rw[I,r,g2]
   have r:(s.k+s.m)*s.k≤hv.getD q 0*(Hr s.k s.m).c:=by rw[g2];exact WN _ h
   omega
  omega
 have U:∀q,q<s.k→(hv.map fun i=>(Mg s (DR s u)).getD i []).getD q []=(Mg s (DR s u)).getD (hv.getD q 0) []:=fun q f=>by
  have r:q<hv.length:=G;simp only[hk,Aah,dd r];rfl
 have r:=(ZF hs hu).1;refine Ab6 (by rw[df,r];rfl) fun i t g=>?_;have hi:i<s.k+s.m:=G;have r:=Aae.1 c2 i (Aax.2 hi);rw[kg] at r;have I:=Aai r.1;obtain⟨a7,a8⟩:=Yo (Mjq:=jX s.k s.m hv) (l:=hv.map fun i=>(Mg s (DR s u)).getD i []) (n:=s.size) (i:=i) hi (by rw[kr];omega) (fun o hx=>by
  obtain⟨q,f,rfl⟩:=Acz.1 hx;rw[kr] at f;rw[oH,U q G];exact(RP hs hu (C q G)).1) (by rw[kr,I];omega)
 obtain⟨a1,a6⟩:=RP (i:=i) hs hu hi;rw[oH t,oH g];refine ho a7 a1 fun j t=>?_;refine(a8 j t).trans ((?_:_=_).trans (a6 j t).symm);have a1:HD (fun q=>((hv.map fun i=>(Mg s (DR s u)).getD i []).getD q []).getD j 0) ((jX s.k s.m hv).row i) 0 0=HD (fun q=>HD (fun p=>((DR s u).getD p []).getD j 0) ((Hr s.k s.m).row (hv.getD q 0)) 0 0) ((jX s.k s.m hv).row i) 0 0:=by
  refine JL _ _ _ fun q _ f=>?_;rw[I] at f;rw[U q G];exact(RP hs hu (C q G)).2 j t
 rw[a1];refine nR (k:=s.k) (F:=fun o=>HD (fun q=>HD o ((Hr s.k s.m).row (hv.getD q 0)) 0 0) ((jX s.k s.m hv).row i) 0 0) (Gjq:=fun o=>HD o ((Hr s.k s.m).row i) 0 0) (fun o y=>?_) (fun o y=>RO o y _ _) (WK (fun q=>OB _ _) _ _) (OB _ _) (fun o y h=>?_) (fun o y h=>JL _ _ _ fun q _ g=>h q (by rw[Ue hs hi] at g;omega)) (fun q b f t=>?_) _
 ·rw[show(fun q=>HD (fun p=>o p^^^y p) ((Hr s.k s.m).row (hv.getD q 0)) 0 0)=fun q=>HD o ((Hr s.k s.m).row (hv.getD q 0)) 0 0^^^HD y ((Hr s.k s.m).row (hv.getD q 0)) 0 0 from funext fun q=>RO o y _ _];exact RO _ _ _ _
 ·refine JL _ _ _ fun q _ g=>?_;rw[I] at g;refine JL _ _ _ fun p _ J=>h p ?_;rw[Ue hs (C q G)] at J;omega
 exact oF (Aae.1 (Aae.1 r.2 q (Aax.2 f)) b (Aax.2 t))
theorem Yp(n:Nat)(l:Tx):∀k,((List.range k).map fun i=>(l.drop (i*n)).take n).flatten=l.take (k*n)
 |0=>by simp
 |k+1=>by
  rw[Abf,Aaf,Ac6,Yp n l k,Aad,Aa2,List.take_add];simp
theorem oI(hs:Small s)(f:1≤u.length)(hu:u.length≤s.k*s.size):Pt s ((Mg s (DR s u)).take s.k) (u.length:Nat)=some u:=by
 have hf:(DR s u).flatten=u++replicate (s.k*s.size-u.length) 0:=by
  rw[DR,Yp,vq (by rw[ft,Iz];omega)]
 rw[rr hs hu,Pt,hf,TJ,zm,Aco];refine⟨G,G,?_⟩;rw[Ahn];simp[HJ]
end
def tw(s:CO)(u:Tx)(i:Nat):Tx:=(Mg s (DR s u)).getD i []
def Mb(A:CS)(s:CO)(q:Int×Int):Option (List Tx):=Dk A q.1 (1024+q.2*(BZ s:Nat)) (BZ s)
theorem MN{x:CV}{q:Int×Int}(f:x.Ad[i]?=some q):Dp F z x i=(match Mb F z q with
 |none=>([],false)
 |some l=>if Ja l x.id x.gen (i:Nat)=2 then match Hy l with
  |none=>([],false)
  |some h=>(h.text,decide (h.text.length=z.size))
  else([],false)):=by rw[Dp,f];rfl
structure IF (A:CS) (s:CO) (x:CV) (u:Tx):Prop where
 len:x.len=(u.length:Nat)
 sz:1≤u.length∧u.length≤s.k*s.size
 pc:∀(i:Nat) (q:Int×Int),x.Ad[i]?=some q→Mb A s q=some (Gb ⟨x.id,i,x.gen,tw s u i⟩)∨(q.1=0∧Dp A s x i=([],false))
section
variable {A B:CS} {s:CO} {x:CV} {u:Tx}
theorem IF.keep(h:IF A s x u)(O:∀q∈x.Ad,Mb B s q=Mb A s q):IF B s x u:=⟨h.len,h.sz,fun i q f=>by
 have e:=O q (Lx f);have g:Dp B s x i=Dp A s x i:=by rw[MN f,MN f,e]
 rw[e,g];exact h.pc i q f⟩
theorem rs(hs:Small s)(hu:u.length≤s.k*s.size)(hi:i<s.k+s.m):(tw s u i).length=s.size:=(RP hs hu hi).1
theorem VY{q:Int×Int}(hs:Small s)(f:Dg s x=true)(hu:u.length≤s.k*s.size)(j:x.Ad[i]?=some q)(h:Mb A s q=some (Gb ⟨x.id,i,x.gen,tw s u i⟩)):Dp A s x i=(tw s u i,true):=by
 obtain⟨g,g,_,_,g,_⟩:=CI f;have f:=(kJ.1 j).1;have hl:=rs (i:=i) hs hu G;have g:Nb ⟨x.id,i,x.gen,tw s u i⟩=true:=by
  obtain⟨f,f,f,f,f⟩:=id hs;simp only[Nb,kg,pn];rw[hl];omega
 have f:=aL _ g;have l:=UQ _ g;dsimp only at f;rw[MN j,h];dsimp only;rw[if_pos f,l];dsimp only;rw[hl,decide_eq_true Z]
theorem IF.read(h:IF A s x u)(hs:Small s)(j:Dg s x=true){q:Int×Int}(f:x.Ad[i]?=some q):Dp A s x i=(tw s u i,true)∨(q.1=0∧Dp A s x i=([],false)):=
 (h.pc i q f).imp (fun g=>VY hs j h.sz.2 f g) id
theorem Sz:∀(bs:List Bool) (k i:Nat),k≤bs.countP (·=true)→(Dl k i bs).length=k
 |[],k,i,h=>by simp at h;subst h;rfl
 |b::r,k,i,h=>by
  rw[Dl];split
  ·rename_i g;rw[SG,Sz r (k-1) (i+1) (by rw[Ag9,g.1] at h;simp only[decide_true,Afo] at h;omega)];omega
  ·rename_i g;rcases Aa6 k with f|f
   ·subst f;exact Nat.le_zero.1 (My r 0 (i+1))
   ·have j:b=false:=by cases b with|true=>exact absurd ⟨Z,f⟩ g|false=>rfl
    subst j;exact Sz r k (i+1) (by rw[Ag9] at h;simpa using h)
theorem ZP:∀(bs:List Bool) (k i:Nat),∀j∈Dl k i bs,i≤j∧bs[j-i]?=some true
 |[],k,i,j,h=>by simp[Dl] at h
 |b::r,k,i,j,h=>by
  rw[Dl] at h;split at h
  ·rename_i l;rcases Aak.1 h with rfl|h
   ·rw[Acl];exact⟨kM _,by rw[l.1];rfl⟩
   ·obtain⟨g,f⟩:=ZP r (k-1) (i+1) j h;exact⟨G,by rw[show j-i=(j-(i+1))+1 by omega];exact f⟩
  ·obtain⟨g,f⟩:=ZP r k (i+1) j h;exact⟨G,by rw[show j-i=(j-(i+1))+1 by omega];exact f⟩
theorem jY{l:List Bool}{j:Nat}(h:∀(i:Nat) (b:Bool),l[i]?=some b→i≠j→b=true):l.length≤l.countP (·=true)+1:=by
 induction l generalizing j with
 |nil=>simp
 |cons b r o=>
  rw[Ag9,SG];cases j with
  |zero=>
   have:r.countP (·=true)=r.length:=List.countP_eq_length.2 fun x hx=>by
    obtain⟨i,hi⟩:=Aba hx;simpa using h (i+1) x (by simpa using hi) G
   omega
  |succ j=>
   have f:=h 0 b Z G;have:=o (j:=j) fun i b g hi=>h (i+1) b (by simpa using g) G;subst f;simp only[decide_true,Afo];omega
theorem IF.whole(h:IF A s x u)(hs:Small s)(a8:1≤s.m)(t:Dg s x=true):JG A s x=some (Mg s (DR s u)):=by
 obtain⟨_,_,_,_,f,r,_⟩:=JM.1 t;have hg:(Hd A s x).length=s.k+s.m:=by simp[Hd]
 have I:∀(i:Nat),i<s.k+s.m→(Hd A s x)[i]?=some (Dp A s x i).2:=fun i hi=>by rw[Hd,Aah,Adu hi];rfl
 obtain⟨j,a7⟩:∃j:Nat,∀(i:Nat) (q:Int×Int),x.Ad[i]?=some q→q.1=0→i=j:=by
  by_cases C:∃(j:Nat) (q:Int×Int),x.Ad[j]?=some q∧q.1=0
  ·obtain⟨j,p,hp,U⟩:=C;refine⟨j,fun i q f o=>?_⟩;obtain⟨J,rfl⟩:=kJ.1 f;obtain⟨R,rfl⟩:=kJ.1 hp;have a1:=Aal.1 r;rcases Aet i j with r|a6|r
   ·exact absurd (o.trans U.symm) (a1 i j J R r G)
   ·exact a6
   exact absurd (U.trans o.symm) (a1 j i R J r G)
  exact⟨0,fun i q f o=>absurd ⟨i,q,f,o⟩ C⟩
 have r:∀(i:Nat),i<s.k+s.m→i≠j→Dp A s x i=(tw s u i,true):=fun i hi o=>by
  have f:=dd (l:=x.Ad) (i:=i) G;rcases h.read hs t f with g|⟨g,_⟩
  ·exact g
  exact absurd (a7 i _ f g) o
 have f:=jY (l:=Hd A s x) (j:=j) fun i b f o=>by
  have hi:i<s.k+s.m:=by have:=(kJ.1 f).1;omega
  rw[I i hi,r i hi o] at f;injection f with f;exact f.symm
 rw[JG];refine vi hs h.sz.2 hg (Sz _ _ _ G) fun i hi=>?_;obtain⟨_,g2⟩:=ZP _ _ _ i hi;rw[Ag2] at g2;have f:i<s.k+s.m:=by have:=(kJ.1 g2).1;omega
 rw[I i f] at g2;injection g2 with g2;rw[KC,hk,Aah,Adu f];rcases h.read hs t (dd (l:=x.Ad) (i:=i) G) with g|⟨_,g⟩
 ·show(Dp A s x i).1=_;rw[g];rfl
 rw[g] at g2;cases g2
def ZQ(A:CS)(s:CO)(S:List CV)(ids:List Int)(f:List Tx):Prop:=f.length=ids.length∧∀(j:Nat) (id:Int) (u:Tx),ids[j]?=some id→f[j]?=some u→∃x∈S,x.id=id∧IF A s x u
theorem ZQ.tail{u:Tx}{f:List Tx}(h:ZQ A s C (p::l) (u::f)):(∃x∈C,x.id=p∧IF A s x u)∧ZQ A s C l f:=
 ⟨h.2 0 p u Z Z,by simpa using h.1,fun j i v g r=>h.2 (j+1) i v (by simpa using g) (by simpa using r)⟩
theorem hq{b:Bk}(hs:Small s)(l:1≤s.m)(j:Lt s b):∀(ids:List Int) (f:List Tx) (t:Tx),ZQ A s b.Ae ids f→TE A s b t ids=some (t++f.flatten)
 |[],f,t,h=>by
  have:f=[]:=rY (by simpa using h.1);subst this;simp[TE]
 |id::r,[],t,h=>by simp[ZQ] at h
 |id::r,u::f,t,h=>by
  obtain⟨⟨x,hx,rfl,g⟩,o⟩:=h.tail;obtain⟨i,hi⟩:=Aba hx;have p:=RJ j.eN hi;have C:=(j.Bl x hx).1;have I:OP A s b x.id=some u:=by
   rw[OP,p];dsimp only;rw[hi];dsimp only;rw[g.whole hs l C];dsimp only;rw[g.len];exact oI hs g.sz.1 g.sz.2
  rw[TE,I];dsimp only;rw[hq hs l j r f _ o,List.flatten_cons,List.append_assoc]
structure Hq (A:CS) (s:CO) (b:Bk) (K:List (Tx×Tx)):Prop where
 len:b.AQ.length=K.length
 each:∀p∈K,∃e∈b.AQ,e.AK=p.1∧∃us,us.flatten=p.2∧ZQ A s b.Ae e.list us
 free:∀x∈b.Ae,x.id∈b.AQ.flatMap (·.list)
theorem ru{l:List KA}(h:l.Pairwise fun a c=>Op.bytesLess a.AK c.AK=true){e:KA}(f:e∈l)(hi:Vp l e.AK=some i):l[i]?=some e:=by
 obtain⟨o,t,_⟩:=WM.1 hi;obtain⟨j,C⟩:=Aba f;obtain⟨p,rfl⟩:=kJ.1 C;have hd:l[i].AK=l[j].AK:=by simpa using t
 have r:=Aal.1 h;rcases Aet i j with g|f|g
 ·have:=r i j o p g;rw[hd,IB] at this;cases this
 ·subst f;exact dd _
 ·have:=r j i p o g;rw[hd,IB] at this;cases this
theorem oJ{l:List KA}{e:KA}(f:e∈l):∃i,Vp l e.AK=some i:=by
 cases h:Vp l e.AK with
 |some i=>exact⟨i,Z⟩
 |none=>exact absurd (Abq.1 h e f) Bb
theorem Hq.text{b:Bk}{K:List (Tx×Tx)}(h:Hq A s b K)(hs:Small s)(j:1≤s.m)(f:Lt s b){p:Tx×Tx}(hp:p∈K):Ny A s b p.1=(p.2,0):=by
 obtain⟨e,g,hd,r,hu,l⟩:=h.each p hp;obtain⟨i,hi⟩:=oJ g;have o:=ru f.ord g hi;rw[Ny,←hd];rw[show(b.AQ.findIdx? fun x=>x.AK==e.AK)=some i from hi];dsimp only;rw[o];dsimp only;rw[hq hs j f _ r [] l];dsimp only;rw[List.nil_append,hu]
theorem jZ{b:Bk}{d:Tx}(g:Lt s b)(hd:d.length≠32):Ny A s b d=([],3):=by
 rw[Ny,show(b.AQ.findIdx? fun e=>e.AK==d)=none from Abq.2 fun e i=>by
  have:=(g.dx e i).1;cases f:e.AK==d with
  |false=>rfl
  |true=>rw[Ad1] at f;rw[f] at this;exact absurd this hd]
theorem ZQ.keep{S':List CV}{f:List Tx}(h:ZQ A s C l f)(O:∀x∈C,∀u,IF A s x u→∃y∈S',y.id=x.id∧IF B s y u):ZQ B s S' l f:=⟨h.1,fun j id u g i=>by
 obtain⟨x,hx,hid,ids⟩:=h.2 j id u g i;obtain⟨y,hy,o,p⟩:=O x hx u ids;exact⟨y,hy,o.trans hid,p⟩⟩
theorem Hq.keep{b:Bk}{K:List (Tx×Tx)}(h:Hq A s b K){S':List CV}{g:List Tg}{nx:Int}(O:∀x∈b.Ae,∀u,IF A s x u→∃y∈S',y.id=x.id∧IF B s y u)(hf:∀y∈S',∃x∈b.Ae,x.id=y.id):Hq B s ⟨S',b.AQ,g,nx⟩ K:=⟨h.len,fun p hp=>by
 obtain⟨e,i,hd,j,hu,f⟩:=h.each p hp;exact⟨e,i,hd,j,hu,f.keep O⟩,fun y hy=>by
 obtain⟨x,hx,hid⟩:=hf y hy;rw[←hid];exact h.free x hx⟩
theorem Hq.bc{b:Bk}{K:List (Tx×Tx)}(h:Hq A s b K)(O:∀x∈b.Ae,∀u,IF A s x u→IF B s x u):Hq B s b K:=
 h.keep (S':=b.Ae) (g:=b.De) (nx:=b.next) (fun x hx u f=>⟨x,hx,Z,O x hx u f⟩) fun y hy=>⟨y,hy,Z⟩
end
section
variable {A B:CS} {s:CO} {b:Bk} {K:List (Tx×Tx)}
theorem Uf{x:CV}(f:Dg s x=true){q:Int×Int}(g:q∈x.Ad):0≤q.2:=by
 have h:=(CI f).2.2.2.2.2 q g;simp only[Ki,Aa3,kg,pn] at h;omega
theorem VZ{q:Int×Int}(g:0≤q.2)(h:∀t,1024≤t→1024+q.2*(BZ s:Nat)≤t→t<1024+q.2*(BZ s:Nat)+(BZ s:Nat)→Bp B q.1 t=Bp A q.1 t):Mb B s q=Mb A s q:=by
 have i:0≤q.2*(BZ s:Nat):=Aef g (Ad3 _);exact Sy _ fun t f g2=>h t G f g2
theorem Hq.kP(h:Hq A s b K)(g:Lt s b)(O:∀d t,1024≤t→Bp B d t=Bp A d t):Hq B s b K:=
 h.bc fun x hx u i=>i.keep fun q j=>VZ (Uf (g.Bl x hx).1 j) fun t f _ _=>O _ t f
theorem Hq.add{d:Tx}{pre:List OZ}(h:Hq A s b K)(hs:Small s)(R:Lt s b)(hp:Fz x (Ce k m (b.Ae.flatMap (·.Ad))) (s.k+s.m) pre)(hl:x.length=m)(b0:pre.length=BI s W.length)(a1:Vp b.AQ d=none)
 (a6:Qc s b.next W pre B)(O:∀I f,1024≤f→(∀liveQ∈Dr s b.next W pre,∀q∈liveQ.Ad,Ih s q I f)→Bp B I f=Bp A I f):Hq B s (Da b (Es s b.next W pre d)) (K++[(d,W)]):=by
 have l:0<s.k*s.size:=Ae5 hs.1 hs.2.2.2.1;obtain⟨g,g,a7⟩:=LZ (next:=b.next) hp hl b0;rw[fold_add (fun y hy=>(R.Bl y hy).2) a1];have o:(b.AQ.take (Mh b.AQ d)++Sw s b W d::b.AQ.drop (Mh b.AQ d)).Perm (Sw s b W d::b.AQ):=by
  have:=List.perm_middle (a:=Sw s b W d) (l₁:=b.AQ.take (Mh b.AQ d)) (l₂:=b.AQ.drop (Mh b.AQ d));rwa [Aas] at this
 have a8:∀liveQ∈b.Ae,∀u,IF A s liveQ u→IF B s liveQ u:=fun liveQ hx u J=>J.keep fun q C=>VZ (Uf (R.Bl liveQ hx).1 C) fun f g g2 U=>O _ f g fun y hy r g=>Sx (fun e=>by
  subst e;exact(a7 q (Ab5.2 ⟨y,hy,g⟩)).1 (Ab5.2 ⟨liveQ,hx,C⟩)) g2 U
 refine⟨by dsimp only;rw[o.length_eq,List.length_cons,h.len,List.length_append];rfl,fun p g=>?_,fun liveQ hx=>?_⟩
 ·rcases Aac.1 g with g|g
  ·obtain⟨e,a7,hd,b1,hu,U⟩:=h.each p g;exact⟨e,o.mem_iff.2 (Aaw _ a7),hd,b1,hu,U.keep fun liveQ hx u J=>⟨liveQ,Abj _ hx,Z,a8 liveQ hx u J⟩⟩
  rw[pv.1 g];refine⟨Sw s b W d,o.mem_iff.2 Aau,Z,EU s W,eP l W,by rw[(GM s l W).1];exact(Kn _ _).symm,fun j id u g J=>?_⟩;have U:j<BI s W.length:=by have:=(kJ.1 J).1;rwa [(GM s l W).1] at this
  have hx:(Dr s b.next W pre)[j]?=some (Mi s b.next W pre j):=Lr U;have hu:(EU s W).getD j []=u:=by rw[hk,J];rfl
  refine⟨Mi s b.next W pre j,Abr _ (Lx hx),?_,by show((((EU s W).getD j []).length:Nat):Int)=_;rw[hu],(GM s l W).2 u (Lx J),fun i q C=> .inl ?_⟩
  ·rw[show(Sw s b W d).list=Jn b.next (BI s W.length) from Z,Jn,Aah,Adu U] at g;injection g with g
  have g:=a6 j _ hx i q C;rw[tw,←hu];exact g
 dsimp only;rw[(o.flatMap_right _).mem_iff,List.flatMap_cons,List.mem_append];rcases List.mem_append.1 hx with hx|hx
 ·exact .inr (h.free liveQ hx)
 obtain⟨N,g,rfl⟩:=JJ hx;left;show b.next+(N:Int)∈Jn b.next (BI s W.length)
 exact Aag.2 ⟨N,Aax.2 g,Z⟩
theorem kc:0<BZ s:=PH _
theorem fc{f:Int}(h:∀t,(Bp A p t).2≠0):∀k,0<k→Dk A p f k=none
 |0,g=>absurd g G
 |k+1,_=>by
  rw[Dk];cases Dk A p f k with
  |none=>rfl
  |some l=>dsimp only;rw[if_neg (h _)]
theorem Wa{d f:Int}:∀k,(∀t,f≤t→t<f+(k:Nat)→Bp A d t=(zT,0))→Dk A d f k=some (replicate k zT)
 |0,_=>rfl
 |k+1,h=>by
  rw[Dk,Wa k (fun t g i=>h t g G),h _ G G,Adp];rfl
theorem take_zero{k:Nat}:Hy (replicate k zT)=none:=by
 rw[Hy];split
 ·rfl
 ·split
  ·rfl
  ·split
   ·rename_i r t i;exfalso;have f:=Aao List.flatten i.2;rw[SS] at f;obtain⟨R,p⟩:=PM (UK (replicate k zT).flatten (QW (replicate k zT).flatten));rw[p] at f;have j:∀y∈(replicate k zT).flatten,y=0:=fun y hy=>by
     obtain⟨l,hl,g⟩:=Afv.1 hy;rw[Ack hl] at g;exact Ack (n:=64) g
    have o:=j 83 (by rw[←f];simp);cases o
   ·rfl
theorem fe{b c:Int}:Ja (replicate k zT) p b c≠2:=by
 rw[Ja,take_zero];dsimp only;split<;>decide
theorem IF.gone{x:CV}(h:IF A s x W)(r:Dg s x=true)(hd:∀(d t:Int),d≠0→Bp B d t=Bp A d t)(f:(∀t,(Bp B 0 t).2≠0)∨∀t,1024≤t→t<(m:Int)→Bp B 0 t=(zT,0))(hx:∀q∈x.Ad,q.2<(n:Nat))(U:1024+n*BZ s≤m):IF B s x W:=⟨h.len,h.sz,fun i q l=>by
 by_cases j:q.1=0
 ·right;refine⟨j,?_⟩;have o:=Lx l;have C:=Uf r o;rw[MN l,Mb,j];rcases f with f|f
  ·rw[fc f _ kc]
  have p:(q.2+1)*(BZ s:Nat)≤(n:Nat)*(BZ s:Nat):=Int.mul_le_mul_of_nonneg_right (by have:=hx q o;omega) G;have J:0≤q.2*(BZ s:Nat):=Int.mul_nonneg C (Int.natCast_nonneg _);rw[Int.add_mul,Int.one_mul] at p;have R:((n*BZ s:Nat):Int)=(n:Nat)*(BZ s:Nat):=Int.natCast_mul _ _;rw[Wa _ fun t I g2=>f t G G];dsimp only;rw[if_neg fe]
 rcases h.pc i q l with g|⟨g,_⟩
 ·left;rw[←g];exact Np (fun t=>hd _ t j) _
 exact absurd g j⟩
end
def NE(x:CV)(i:Nat)(q:Int×Int):CV:={x with Ad:=x.Ad.set i q}
theorem Tp{s:CO}{S S':List CV}(hl:S'.length=S.length)(h:∀(j:Nat) (p:j<S'.length) (t:j<S.length),S'[j].id=S[j].id∧S'[j].len=S[j].len):∀{r:List Int} {left:Int},Fc s S' left r=Fc s S left r
 |[],_=>rfl
 |a::r,left=>by
  have i:Ib S' a=Ib S a:=by
   cases f:Ib S a with
   |none=>
    refine Abq.2 fun y hy=>?_;obtain⟨j,g,rfl⟩:=Acz.1 hy;have:=Abq.1 f S[j] (mv _);rwa [(h j g G).1]
   |some k=>
    obtain⟨O,o,l⟩:=WM.1 f;refine WM.2 ⟨G,by rw[(h k G O).1];exact o,fun j g=>?_⟩;rw[(h j G G).1];exact l j g
  rw[Fc,Fc,i];cases f:Ib S a with
  |none=>rfl
  |some k=>
   have O:=(List.findIdx?_eq_some_iff_getElem.1 f).1;dsimp only;rw[List.getElem?_eq_getElem O,List.getElem?_eq_getElem (show k<S'.length by omega)];dsimp only;rw[(h k G O).2,Tp hl h]
section
variable {A B:CS} {s:CO} {b:Bk} {K:List (Tx×Tx)} {k i:Nat} {x:CV} {q:Int×Int}
structure Qh (b:Bk) (k i:Nat) (x:CV) (q:Int×Int):Prop where
 at_:b.Ae[k]?=some x
 lt:i<x.Ad.length
 no:∀p∈x.Ad,p.1≠q.1
 new:q∉b.Ae.flatMap (·.Ad)
 slot:(0≤q.1∧q.1<12)∧0≤q.2∧q.2<64
theorem Qh.lt'(h:Qh b k i x q):k<b.Ae.length:=(kJ.1 h.at_).1
theorem Qh.mem(h:Qh b k i x q):x∈b.Ae:=Lx h.at_
theorem Qh.Ug(_:Qh b k i x q){p:Int×Int}(hp:p∈(NE x i q).Ad):p∈x.Ad∨p=q:=Aa4 hp
theorem hr(f:Lt s b)(h:Qh b k i x q):Da b [Nt.RE (NE x i q)]={b with Ae:=b.Ae.set k (NE x i q)}:=by
 show jm b (NE x i q)=_
 have g:=RJ f.eN h.at_;have C:Ic b.Ae:=fun i j hi r p=>Aal.1 f.eN i j hi r p;have t:=Iw C g
 have I:=(f.Bl x h.mem).2;have l:Ib b.Ae (NE x i q).id=some k:=g
 have o:Pw b.Ae (NE x i q).id=k:=t;rw[jm,l,o];show Bk.mk (b.Ae.set k (NE x i q)) _ _ _=_
 congr 1;show max b.next (x.id+1)=b.next
 omega
theorem ZR(h:Qh b k i x q)(j:Nat)(g:j<(b.Ae.set k (NE x i q)).length)(l:j<b.Ae.length):(b.Ae.set k (NE x i q))[j].id=b.Ae[j].id∧(b.Ae.set k (NE x i q))[j].len=b.Ae[j].len:=by
 rw[Adc];split
 ·rename_i e;subst e;obtain⟨_,f⟩:=kJ.1 h.at_;rw[f];exact⟨Z,Z⟩
 ·exact⟨Z,Z⟩
theorem hz(h:Qh b k i x q):(b.Ae.set k (NE x i q)).flatMap (·.Ad)=(b.Ae.take k).flatMap (·.Ad)++((NE x i q).Ad++(b.Ae.drop (k+1)).flatMap (·.Ad)):=by
 rw[Acg,zm h.lt',Aan,Aaa]
theorem hA(h:Qh b k i x q):b.Ae.flatMap (·.Ad)=(b.Ae.take k).flatMap (·.Ad)++(x.Ad++(b.Ae.drop (k+1)).flatMap (·.Ad)):=by
 obtain⟨O,f⟩:=kJ.1 h.at_;have:b.Ae=b.Ae.take k++x::b.Ae.drop (k+1):=by rw[←f,←Aav O,Aas]
 conv=>lhs;rw[this]
 rw[Aan,Aaa]
theorem kd(g:Lt s b)(h:Qh b k i x q):Lt s {b with Ae:=b.Ae.set k (NE x i q)}:=by
 have hx:=g.Bl x h.mem;obtain⟨J,R,a1,a6,a7,U,a8⟩:=JM.1 hx.1;have I:(NE x i q).Ad.Pairwise fun a c=>a.1≠-1∨c.1≠-1→a.1≠c.1∨(c.1=-1):=by
  refine Aal.2 fun a c f hc t _=>?_;by_cases j:(NE x i q).Ad[c].1=-1
  ·exact .inr j
  left;have o:a<x.Ad.length:=by rwa [show(NE x i q).Ad.length=x.Ad.length from Yy] at f
  have lc:c<x.Ad.length:=by rwa [show(NE x i q).Ad.length=x.Ad.length from Yy] at hc
  have l:(NE x i q).Ad[a]=if i=a then q else x.Ad[a]:=Adc ..
  have gc:(NE x i q).Ad[c]=if i=c then q else x.Ad[c]:=Adc ..
  rw[gc] at j;rw[l,gc];split
  ·rename_i e;rw[ss G];exact fun l=>h.no _ (mv lc) l.symm
  split
  ·exact h.no _ (mv o)
  rename_i C l;rw[ss l] at j;exact Aal.1 U a c o lc t j
 have U:Dg s (NE x i q)=true:=JM.2 ⟨J,R,a1,a6,(Yy).trans a7,I.imp fun j hc=>(j (.inr hc)).resolve_right hc,fun p hp=>by
  rcases h.Ug hp with hp|rfl
  ·exact a8 p hp
  have:=h.slot;simp only[Ki,Aa3,kg,pn];omega⟩
 have J:∀y∈b.Ae.set k (NE x i q),y∈b.Ae∨y=NE x i q:=fun y hy=>Aa4 hy;refine⟨g.next,fun y hy=>?_,?_,?_,fun e R=>?_,g.ord,g.ids,g.zC⟩
 ·rcases J y hy with hy|rfl
  ·exact g.Bl y hy
  exact⟨U,hx.2⟩
 ·refine List.pairwise_iff_getElem.2 fun a c f hc t=>?_;dsimp only at f hc⊢;have o:a<b.Ae.length:=by rwa [List.length_set] at f
  have lc:c<b.Ae.length:=by rwa [Yy] at hc
  rw[(ZR h a f o).1,(ZR h c hc lc).1];exact Aal.1 g.eN a c o lc t
 ·have f:=g.free;dsimp only;rw[hz h];have t:=h.new;rw[hA h] at f t;simp only[List.mem_append,not_or] at t;obtain⟨o,U,J⟩:=List.pairwise_append.1 f;obtain⟨f,f,a1⟩:=List.pairwise_append.1 U;refine List.pairwise_append.2 ⟨o,List.pairwise_append.2 ⟨?_,f,fun p hp r f o=>?_⟩,fun p hp r f o=>?_⟩
  ·exact I.imp fun j hc e=>by
    have:=j (.inr G);rw[e] at this;omega
  ·rcases h.Ug hp with hp|rfl
   ·exact a1 p hp r f o
   exact fun e=>t.2.2 (e▸f)
  rcases Aac.1 f with f|f
  ·rcases h.Ug f with f|rfl
   ·exact J p hp r (Abj _ f) o
   exact fun e=>t.1 (e▸hp)
  exact J p hp r (Abr _ f) o
 obtain⟨C,l,f,j,o⟩:=g.dx e R;exact⟨C,l,f,j,by dsimp only;rw[Tp List.length_set (ZR h)];exact o⟩
theorem Hq.move(h:Hq A s b K)(hs:Small s)(I:Lt s b)(hv:Qh b k i x q)(hg:(Dp A s x i).2=true)(a1:Mb B s q=some (Gb ⟨x.id,i,x.gen,(Dp A s x i).1⟩))(O:∀t l,1024≤l→Ih s q t l→Bp B t l=Bp A t l):Hq B s {b with Ae:=b.Ae.set k (NE x i q)} K:=by
 have o:∀y∈b.Ae,∀p∈y.Ad,Mb B s p=Mb A s p:=fun y hy p hp=>VZ (Uf (I.Bl y hy).1 hp) fun l C g2 f=>O _ l C (Sx (fun e=>by
  subst e;exact hv.new (Ab5.2 ⟨y,hy,hp⟩)) g2 f)
 refine h.keep (fun y hy u r=>?_) fun y hy=>?_
 ·have U:=r.keep (o y hy);obtain⟨j,o⟩:=Aba hy;by_cases R:j=k
  ·subst R;rw[hv.at_] at o;injection o with o;subst o;refine⟨NE x i q,Lx (Acv hv.lt'),Z,r.len,r.sz,fun j p hp=>?_⟩;by_cases J:j=i
   ·subst J;have f:(x.Ad.set j q)[j]?=some p:=hp;rw[Acv hv.lt] at f;injection f with f;subst f;left;rw[a1];rcases r.read hs (I.Bl x hv.mem).1 (dd hv.lt) with g|⟨_,g⟩
    ·rw[g];rfl
    rw[g] at hg;cases hg
   have f:(x.Ad.set i q)[j]?=some p:=hp;rw[Ac1 (fun e=>J e.symm)] at f;rcases U.pc j p f with g|⟨C,g2⟩
   ·exact .inl g
   refine .inr ⟨C,?_⟩;rw[MN hp];rw[MN f] at g2;exact g2
  exact⟨y,Lx (i:=j) (by rw[Ac1 (fun e=>R e.symm)];exact o),Z,U⟩
 rcases Aa4 hy with hy|rfl
 ·exact⟨y,hy,Z⟩
 exact⟨x,hv.mem,Z⟩
end
def dg(f:Nat):Nat:=(f-6)*(f-6)+(6-f)*(6-f)
theorem vj(h:k≤12):dg k≤36:=by
 have:∀k:Fin 13,dg k.1≤36:=by decide
 exact this ⟨k,G⟩
theorem oK{c:Nat}(h:k+2≤c)(hc:c≤12):dg (k+1)+dg (c-1)+2≤dg k+dg c:=by
 have:∀c k:Fin 13,k.1+2≤c.1→dg (k.1+1)+dg (c.1-1)+2≤dg k.1+dg c.1:=by decide
 exact this ⟨c,G⟩ ⟨k,G⟩ h
def OC(f:Nat→Nat):Nat→Nat
 |0=>0
 |n+1=>OC f n+f n
theorem Wb{f g:Nat→Nat}:∀{n:Nat},(∀d,d<n→f d=g d)→OC f n=OC g n
 |0,_=>rfl
 |n+1,h=>by rw[OC,OC,Wb fun d hd=>h d G,h n G]
theorem Wc{f g:Nat→Nat}{e:Nat}:∀{n:Nat},e<n→(∀d,d<n→d≠e→f d=g d)→OC f n+g e=OC g n+f e
 |0,h,_=>absurd h G
 |n+1,h,hd=>by
  by_cases i:e=n
  ·subst i;rw[OC,OC,Wb fun d l=>hd d G G];omega
  ·have:=Wc (n:=n) G fun d l o=>hd d G o;rw[OC,OC,hd n G (fun j=>i j.symm)];omega
theorem hB{f:Nat→Nat}{m:Nat}:∀{n:Nat},(∀d,d<n→f d≤m)→OC f n≤n*m
 |0,_=>by simp[OC]
 |n+1,h=>by
  have:=hB (n:=n) fun d hd=>h d G;have:=h n G;rw[OC,Aad,Aa2];omega
def dh(F:List (List Int))(n:Nat):Nat:=OC (fun d=>dg (FE F d)) n
theorem filter_one(o:l.Nodup){p p':Int→Bool}{z:Int}(f:z∈l)(i:p z=false)(j:p' z=true)(h:∀y,y≠z→p' y=p y):(l.filter p').length=(l.filter p).length+1:=by
 induction l with
 |nil=>simp at f
 |cons a l C=>
  obtain⟨g,r⟩:=Afc.1 o;rcases Aak.1 f with rfl|f
  ·have e:l.filter p'=l.filter p:=Aea fun y hy=>h y fun e=>g (e▸hy);rw[Afy,Afy,zm j,ss (by rw[i];decide),e,SG]
  ·have t:a≠z:=fun e=>g (e▸f);have e:=h a t;have:=C r f;rw[Afy,Afy,e];split
   ·rw[SG,SG,this]
   ·exact this
theorem Wd(n:Nat):(He n).Nodup:=Ab4.2 ((Sr n).imp fun h=>by omega)
theorem We:p∈He n↔0≤p∧p<(n:Int):=by
 rw[He,Aag];constructor
 ·rintro⟨k,O,rfl⟩;have:=Aax.1 O;omega
 ·intro h;exact⟨p.toNat,Aax.2 G,G⟩
theorem IG(hd:n<m):FE (Ce k m u) n=((He k).filter fun a=> !u.contains ((n:Int),a)).length:=by
 rw[FE,hk,Pb hd];rfl
theorem oL{s:CO}{b:Bk}{r N:Nat}{x:CV}(b7:Lt s b)(h:Qh b k i x ((r:Int),p))(b0:(x.Ad[i]?).map (·.1)=some (m:Int))(b1:m<n)(U:r<n)(c1:N≤12)(b8:∀a∈b.Ae.flatMap (·.Ad),0≤a.2∧a.2<(N:Int))(b6:0≤p∧p<(N:Int))
 (hd:FE (Ce N n (b.Ae.flatMap (·.Ad))) m+2≤FE (Ce N n (b.Ae.flatMap (·.Ad))) r):dh (Ce N n ((b.Ae.set k (NE x i ((r:Int),p))).flatMap (·.Ad))) n+2≤dh (Ce N n (b.Ae.flatMap (·.Ad))) n:=by
 have a7:m≠r:=fun e=>by subst e;omega
 obtain⟨o,R,C⟩:=Abm.1 b0;have b2:o∈x.Ad:=Lx R;have b4:o∈b.Ae.flatMap (·.Ad):=Ab5.2 ⟨x,h.mem,b2⟩;have c0:=b8 o b4;have a8:o.1=(m:Int):=C
 have b9:∀a:Int×Int,0≤a.1→(a∈(b.Ae.set k (NE x i ((r:Int),p))).flatMap (·.Ad)↔(a∈b.Ae.flatMap (·.Ad)∧a≠o)∨a=((r:Int),p)):=fun a J=>by
  have KG:=b7.free;rw[hz h];rw[hA h] at KG⊢;obtain⟨_,f2,f3⟩:=Abp.1 KG;obtain⟨f4,_,f6⟩:=Abp.1 f2;have C:=h.lt;have I:x.Ad[i]=o:=by rw[dd C] at R;injection R
  simp only[Aac];constructor
  ·rintro(hp|hp|hp)
   ·exact .inl ⟨.inl hp,fun e=>f3 a hp o (Abj _ b2) G e⟩
   ·have a1:a∈x.Ad.set i ((r:Int),p):=hp;obtain⟨j,R,rfl⟩:=Acz.1 a1;rw[Adc] at J⊢;split
    ·exact .inr Z
    rename_i b3;have a1:j<x.Ad.length:=by rwa [Yy] at R
    refine .inl ⟨.inr (.inl (mv a1)),fun e=>?_⟩;have b5:=Aal.1 f4;rcases Nat.lt_or_gt_of_ne b3 with a6|a6
    ·exact b5 i j C a1 a6 (by rw[ss b3] at J;exact J) (by rw[I,e])
    exact b5 j i a1 C a6 (by rw[I];omega) (by rw[I,e])
   exact .inl ⟨.inr (.inr hp),fun e=>f6 o b2 a hp J e.symm⟩
  rintro(⟨hp|hp|hp,a1⟩|rfl)
  ·exact .inl hp
  ·refine .inr (.inl ?_);obtain⟨j,R,rfl⟩:=Acz.1 hp;have J:i≠j:=fun e=>a1 (by subst e;exact I);exact Lx (l:=x.Ad.set i ((r:Int),p)) (i:=j) (by rw[Ac1 J];exact dd R)
  ·exact .inr (.inr hp)
  exact .inr (.inl (Lx (l:=x.Ad.set i ((r:Int),p)) (i:=i) (Acv C)))
 have R:∀(d:Nat) (y:Int),((b.Ae.set k (NE x i ((r:Int),p))).flatMap (·.Ad)).contains ((d:Int),y)=(decide (((d:Int),y)∈b.Ae.flatMap (·.Ad)∧((d:Int),y)≠o)||decide (((d:Int),y)=((r:Int),p))):=fun d y=>by
  rw[Adn,Af7,b9 _ (by show(0:Int)≤(d:Int);omega)];simp
 have b2:((r:Int),p)∉b.Ae.flatMap (·.Ad):=h.new;obtain⟨C,a1⟩:∃g,g=fun d=>dg (FE (Ce N n (b.Ae.flatMap (·.Ad))) d):=⟨_,Z⟩;obtain⟨g2,a6⟩:∃g,g=fun d=>dg (FE (Ce N n ((b.Ae.set k (NE x i ((r:Int),p))).flatMap (·.Ad))) d):=⟨_,Z⟩;have b3:FE (Ce N n ((b.Ae.set k (NE x i ((r:Int),p))).flatMap (·.Ad))) m=FE (Ce N n (b.Ae.flatMap (·.Ad))) m+1:=by
  rw[IG b1,IG b1];have I:((m:Int),o.2)=o:=Prod.ext a8.symm Z;refine filter_one (Wd N) (z:=o.2) (We.2 c0) ?_ ?_ fun y hy=>?_
  ·rw[I];simpa using b4
  ·rw[R,I];have:¬(o=((r:Int),p)):=fun e=>a7 (by have:=Aao Prod.fst e;rw[a8] at this;omega);simp[this]
  rw[R];have I:((m:Int),y)≠o:=fun e=>hy (by rw[←e]);have J:((m:Int),y)≠((r:Int),p):=fun e=>a7 (by have:=Aao Prod.fst e;omega);simp[I,J]
 have b4:FE (Ce N n (b.Ae.flatMap (·.Ad))) r=FE (Ce N n ((b.Ae.set k (NE x i ((r:Int),p))).flatMap (·.Ad))) r+1:=by
  rw[IG U,IG U];refine filter_one (Wd N) (z:=p) (We.2 b6) ?_ ?_ fun y hy=>?_
  ·rw[R];simp
  ·simpa using b2
  rw[R];have I:((r:Int),y)≠o:=fun e=>a7 (by have:=Aao Prod.fst e;rw[a8] at this;omega);have J:((r:Int),y)≠((r:Int),p):=fun e=>hy (by have:=Aao Prod.snd e;exact this);simp[I,J]
 have b4:∀d,d<n→d≠m→d≠r→g2 d=C d:=fun d hd b0 b2=>by
  rw[a1,a6];dsimp only;rw[IG hd,IG hd];congr 2;refine List.filter_congr fun y _=>?_;rw[R];have I:((d:Int),y)≠o:=fun e=>b0 (by have:=congrArg Prod.fst e;rw[a8] at this;omega);have J:((d:Int),y)≠((r:Int),p):=fun e=>b2 (by have:=congrArg Prod.fst e;omega);simp[I,J]
 obtain⟨I,J⟩:∃g:Nat→Nat,g=fun d=>if d=m then g2 d else C d:=⟨_,Z⟩
 have b2:=Wc (f:=I) (g:=C) (e:=m) b1 fun d _ hd=>by rw[J];dsimp only;rw[if_neg hd]
 have b5:=Wc (f:=g2) (g:=I) (e:=r) U fun d hd a8=>by
  rw[J];dsimp only;split
  ·rfl
  rename_i R;exact b4 d hd R a8
 have R:I m=g2 m:=by rw[J];exact zm Z
 have a8:I r=C r:=by rw[J];exact ss (fun e=>a7 e.symm)
 rw[R] at b2;rw[a8] at b5;have I:FE (Ce N n (b.Ae.flatMap (·.Ad))) r≤12:=by
  rw[IG U];have:=Aa0 (fun y=> !(b.Ae.flatMap (·.Ad)).contains ((r:Int),y)) (He N);rw[ME] at this;omega
 have J:=oK hd I;have I:C m=dg (FE (Ce N n (b.Ae.flatMap (·.Ad))) m):=by rw[a1]
 have I:C r=dg (FE (Ce N n (b.Ae.flatMap (·.Ad))) r):=by rw[a1]
 have C:g2 m=dg (FE (Ce N n (b.Ae.flatMap (·.Ad))) m+1):=by rw[a6];dsimp only;rw[b3]
 have v4:g2 r=dg (FE (Ce N n (b.Ae.flatMap (·.Ad))) r-1):=by rw[a6];dsimp only;rw[show FE (Ce N n ((b.Ae.set k (NE x i ((r:Int),p))).flatMap (·.Ad))) r=FE (Ce N n (b.Ae.flatMap (·.Ad))) r-1 by omega]
 show OC _ n+2≤OC _ n
 rw[←a1,←a6];omega
theorem rv{x:CV}{vt:Value}{q:Int×Int}(hu:Rd Bx w a x.Ad)(hi:Rd Cg w y [(i:Int)])(ht:Rd Bx w vt [q])(R:i<x.Ad.length)(C:Ki q=true)(J:q.1≠-1):
 Calls QP 202 #[.agg #[I x.id,I x.len,I x.gen,a], .agg #[I x.id,y,vt]] w (Bt fun v w'=>AZ w w'∧v= .bool true):=by
 have f:=DD.start (fun _=>0) w [];have g:=hu.AD;have g:=hi.AD;have t1:=ht.AD;have g:=hu.small;have g:=hi.small;have t2:=ht.small;replace hu:Bu Bx (Bw (fun _=>0) []) w [0] a x.Ad:=Rd.Du hu (fun k O=>rfl);replace hi:Bu Cg (Bw (fun _=>0) []) w [0] y [(i:Int)]:=Rd.Du hi (fun k O=>rfl);replace ht:Bu Bx (Bw (fun _=>0) []) w [0] vt [q]:=Rd.Du ht (fun k O=>rfl);generalize Bw (fun _=>0) []=c0 at f hu hi ht;refine AY 71 #[.tmp 4] func202 Z<|Q<|Fa c0 102 fun w1 b2 c1 g g=>?_;refine Fa c1 103 fun w2 b3 c2 l AR=>?_;refine V Z<|Ag<|Q<|E (Aa fJ Z)<|E (Al AF Z AR.AE Z)<|E (Aa Dy Z)<|E (Al AF Z g.D.AE Z)<|E (BK Z Z)<|M Z ?_;apply AW false 7 _ CK
 ·intro l;refine wo<|E (Aa MX Z)<|wo<|E (Al BQ Z AR.AE Z)<|wo<|E (BN BM) ?_;refine wo<|E (Aa QA Z)<|wo<|E (Al CH Z AR.AE Z)<|wo<|E (BN DL) ?_;refine wo<|E (BK Z Z) ?_;exact EQ 7
 refine Ah<|Cz Z (fun l=>?_) fun l=>?_
 ·exfalso;simp at l
 refine As<|Ag<|Q<|E (Aa MX Z)<|E (Al BQ Z AR.AE Z)<|E (BN BM) ?_;refine M Z<|Ah<|An<|AG (σ:=Nat) (fun k=>[(2,P1 b2),(3,P1 b3),(4, .bool false),(22,y),(23,I [(i:Int)].length),(24,I k)]) (fun k w'=>k≤1∧∃c',DD (fun _=>0) w [] c' w'∧Bu Bx c' w' [0] a x.Ad∧Bu Cg c' w' [0] y [(i:Int)]∧Bu Bx c' w' [0] vt [q]∧AI c' w' 102 b2 [I x.id,I x.len,I x.gen,a] 115∧AI c' w' 103 b3 [I x.id,y,vt] 61) (fun k=>1-k) 0 AL ⟨Wm _,_,f.D,hu.D,hi.D,ht.D,g.D,AR⟩ ?_;rintro k l ⟨O,p,f,hu,hi,ht,g,AR⟩;refine Q<|E (AX Z Z)<|Ah<|Ag<|BA Z (fun l=>?_) fun l=>?_
 ·have o:k=0:=by simp at l;omega
  subst o;obtain⟨l,o⟩:=Co hi (show 0<[(i:Int)].length by simp) AO;have o:=(Co ht (show 0<[q].length by simp) AO).1;have r:=o;have t:=hu.AB.small;rw[show[(i:Int)][0]=(i:Int) from Z] at l;rw[show[q][0]=q from Z] at o r;have t:=l;refine As<|Ag<|An<|Q<|M Z<|E (Cv BM) ?_;refine E (Cc AF Z l.DF)<|za Z<|V Z<|Q<|M Z<|E (AX Z Z)<|M Z ?_;apply AW false 5 _ CK
  ·intro l;refine wo<|M Z<|wo<|E (Aa Cl Z)<|wo<|E (Al CH Z g.AE Z)<|wo<|E (BN DL) ?_;refine wo<|E (Dh Z Z) ?_;exact EQ 5
  refine M Z ?_;apply AW false 12 _ CK
  ·intro l;refine wo<|M Z<|wo<|E (CM Z Z)<|wo<|M Z ?_;apply AW true 8 _ CK
   ·intro l;refine wo<|M Z<|wo<|E (Aa MX Z)<|wo<|E (Al BQ Z AR.AE Z)<|wo<|M Z<|wo<|E (Gu Z Z Ai Ai)<|wo<|E (BJ BM hi.AB Z Z Z G G) ?_;rw[show(((0:Nat):Int)-1).toNat=0 by omega];refine wo<|E (Cc AF Z t.DF)<|wo<|E (Gw Z Z) ?_;exact EQ 8
   exact EQ 4
  refine M Z ?_;apply BU p false 7 false CK
  ·intro l l;refine wo<|E (Aa QA Z)<|wo<|E (Al CH Z AR.AE Z)<|wo<|M Z<|wo<|E (Cv DL) ?_;refine wo<|E (DT Dj Z o.DF Z)<|wo<|ve (Ac p 1 (Ab sC Z (bO (x:=q)))) ?_;rintro o o ⟨o,o,o,rfl⟩;rw[C];refine wo<|E (BL Z) ?_;exact BV 7 l.D
  intro l l l;refine M Z ?_;apply AW false 7 _ CK
  ·intro l;refine wo<|E (Aa QA Z)<|wo<|E (Al CH Z AR.D.AE Z)<|wo<|M Z<|wo<|E (Cv DL) ?_;refine wo<|E (Bn Ct Z)<|wo<|E (FF AF Z r.D.DF Z)<|wo<|E (BO Z Z) ?_;exact EQ 7
  refine Ah<|Cz Z (fun l=>?_) fun l=>?_
  ·exfalso;simp[J] at l;omega
  refine As<|cg<|E (Bc Z Z Ai Ai)<|M Z<|Ah ?_;exact⟨1,AL,⟨kM _,_,f.D,hu.D,hi.D,ht.D,g.D,AR.D⟩,G⟩
 refine Az Z<|Q<|V Z<|Af Z Z ?_;exact⟨f.below,Z⟩
theorem oM{x:CV}{U vt:Value}{q:Int×Int}(hs:Small z)(hu:Rd Bx w a x.Ad)(c3:Dg z x=true)(hi:Rd Cg w U [(i:Int)])(ht:Rd Bx w vt [q])(R:i<x.Ad.length)(h2:(0≤q.1∧q.1<12)∧0≤q.2∧q.2<64)(e2:∀p∈x.Ad,p.1≠q.1):
 Calls QP 125 #[.agg (DB z).toArray, .agg #[I x.id,I x.len,I x.gen,a], .agg #[I x.id,U,vt]] w (Bt fun v w'=>∃c',Mv c w c' w' []∧∃c4 h1,v= .tuple #[.agg #[I x.id,I x.len,I x.gen,c4],h1,I 0]∧c4.oneCell'=true∧Bu Bx c' w' [153] c4 (x.Ad.set i q)):=by
 have g:=DD.start c w [];have f:=hu.AD;have f:=hi.AD;have t1:=ht.AD;replace hu:Bu Bx (Bw c []) w [0] a x.Ad:=Rd.Du hu (fun k O=>rfl);replace hi:Bu Cg (Bw c []) w [0] U [(i:Int)]:=Rd.Du hi (fun k O=>rfl);replace ht:Bu Bx (Bw c []) w [0] vt [q]:=Rd.Du ht (fun k O=>rfl);generalize Bw c []=c0 at g hu hi ht;obtain⟨f,f,f,f,f⟩:=id hs;obtain⟨f,f,f,f,f,o⟩:=CI c3;have e8:∀p∈x.Ad,(-1≤p.1∧p.1<12)∧0≤p.2∧p.2<64:=fun p hp=>by
  have f:=o p hp;simp only[Ki,Aa3,kg,pn] at f;omega
 have C:Ki q=true:=by simp only[Ki,Aa3,kg,pn];omega
 have e7:KB [] (x.Ad.set i q)=true:=by
  refine Qf.2 ⟨fun x hx f y hy=>(by cases hy),Aal.2 fun u c f hc t l=>?_⟩;obtain⟨_,_,_,_,_,o,_⟩:=JM.1 c3;have r:u<x.Ad.length:=by rwa [Yy] at f
  have lc:c<x.Ad.length:=by rwa [Yy] at hc
  rw[Adc] at l;rw[Adc,Adc];split
  ·rw[ss G];exact fun f=>e2 _ (mv lc) f.symm
  split
  ·exact e2 _ (mv r)
  rename_i J f;rw[ss f] at l;exact Aal.1 o u c r lc t l
 refine AY 66 #[.cell 6 115, .tmp 7, .tmp 8] func125 Z<|Q<|Fa c0 103 fun w1 b3 c1 c5 AR=>?_;refine Fa c1 104 fun w2 b4 c2 c6 Bd=>?_;refine Fa c2 105 fun f b5 f c7 Bv=>?_;refine EK f 106 HF fun f b6 f c8 l=>za Z<|V Z<|Ag<|Q<|E (Ba CP Z AR.D.AE Z)<|E (Ba Cn Z Bd.D.AE Z)<|ve (Ac f 1 (Ab lx Z (Vn hs.ok hu.D.AB))) ?_;rintro f f ⟨o,c9,f,rfl⟩;rw[c3];refine E (BL Z)<|M Z ?_;apply BU o false 4 false CK
 ·intro f r;refine wo<|E (Ba Cn Z Bd.D.AE Z)<|wo<|E (Ba Hj Z Bv.D.AE Z)<|wo<|ve (Ac o 1 (Ab xR Z (rv hu.D.AB hi.D.AB ht.D.AB R C G))) ?_;rintro o o ⟨o,o,o,rfl⟩;refine wo<|E (BL Z) ?_;exact BV 4 r.D
 intro o r e0;refine Ah<|Cz Z (fun o=>?_) fun o=>?_
 ·exact absurd o AO
 refine As<|Q<|E (Aa Cl Z)<|E (Al CH Z Bd.D.AE Z)<|ve (Ac r 153 (Ab Tw Z (EX hu.D.AB G))) ?_;rintro o o ⟨r,e1,o,f⟩;replace f:=f.Du o;obtain⟨o,t,rfl,_⟩:=f.own.len;refine E (Aa Cl Z)<|Av (Ap CH Z Z ra ra Bd.D Z) ?_;rintro _ C ⟨Bd,b7⟩;refine Ah<|Ag<|Ag ?_;have KG:AJ r C 154 125 2 (.slice none 0 0) 0 []:=Br _ _ _ _ _;obtain⟨a1,r⟩:∃a1,a1=Value.slice o x.Ad.length t:=⟨_,Z⟩;replace f:=f.D b7;rw[←r] at f Bd;refine cg<|E (Aa MX Z)<|E (Al BQ Z Bv.D.AE Z)<|E (BN BM) ?_;refine M Z<|Ah<|An<|AG (σ:=Nat×Value×List (Int×Int)) (fun o=>[(4,P1 b4),(5,P1 b5),(6,P1 b6),(7,o.2.1),(8,I 0),(27,U),(28,I [(i:Int)].length),(29,I o.1)]) (fun o w'=>o.1≤1∧∃c' r,DD c w [] c' w'∧(r.length=x.Ad.length∧(o.1=0→r=x.Ad)∧o.2.2.length≤o.1∧(o.1=1→r=x.Ad.set i q))∧Bu Cg c' w' [0] U [(i:Int)]∧Bu Bx c' w' [0] vt [q]∧AI c' w' 104 b4 [I x.id,I x.len,I x.gen,a1] 115∧AI c' w' 105 b5 [I x.id,U,vt] 61∧AI c' w' 106 b6 [I 0,I 0,I 0, .slice none 0 0] 115∧AJ c' w' 153 125 2 a1 r.length (r.flatMap FX)∧AJ c' w' 154 125 2 o.2.1 o.2.2.length (o.2.2.flatMap FX)) (fun o=>1-o.1) (0, .slice none 0 0,[]) AL ⟨Nat.zero_le _,_,x.Ad,g.D,⟨Z,fun _=>rfl,Nat.le_refl _,fun h=>(by cases h)⟩,hi.D,ht.D,Bd,Bv.D,l.D,f,KG⟩ ?_;rintro⟨k,e5,b0⟩ e6 ⟨O,a6,r,g,⟨e9,o,r,e3⟩,hi,ht,Bd,Bv,l,f,KG⟩;dsimp only at O o r e3 KG;have h0:=f.AD;have r:=f.AA;have r:=KG.AD;have r:=KG.AA;refine Q<|E (AX Z Z)<|Ah<|Ag<|BA Z (fun b8=>?_) fun b8=>?_
 ·have r:k=0:=by simp at b8;omega
  subst r;obtain rfl:=o Z;have r:=(Co hi (show 0<[(i:Int)].length by simp) AO).1;have b9:=(Co ht (show 0<[q].length by simp) AO).1;rw[show[(i:Int)][0]=(i:Int) from Z] at r;rw[show[q][0]=q from Z] at b9;have o:DG a6 e6 [153] (Bz a1 2 i) [I x.Ad[i].1,I x.Ad[i].2]:=f.elem (fun _=>rfl) AO R;have t:=o;obtain⟨b1,C⟩:∃b1,b1=x.Ad[i].1:=⟨_,Z⟩;obtain⟨b2,J⟩:∃b2,b2=x.Ad[i].2:=⟨_,Z⟩;rw[←C,←J] at o t;refine As<|Ag<|An<|Q<|M Z<|E (Cv BM) ?_;refine E (Cc AF Z r.DF)<|za Z<|V Z<|Ag<|Q<|E (Aa Cl Z)<|E (Al CH Z Bd.AE Z)<|M Z<|E (BS DL f Z Z G G)<|E (Bn Ct Z)<|E (FF AF Z o.DF Z)<|E (BK Z Z)<|Ah ?_;refine BA Z (fun o=>?_) fun o=>?_
  ·refine cg<|M Z<|E (Aa Cl Z)<|E (Al CH Z Bd.AE Z)<|M Z<|E (BS DL f Z Z G G)<|E (DT Dj Z t.DF Z) ?_;refine ve (AH a6 147 DL Z Z Z Z Z) ?_;rintro _ o ⟨o,o,rfl,C,o⟩;refine ve (Ax DL Z Z KG.D (Aw underlying50 o.AE.AT Z Bg) Fh Fg) ?_;rintro e4 r ⟨r,J,KG⟩;refine V Z<|AM r [153] [0,1,0,0,1,0,0,1,0,3] [0,1,2,3,4,5,6,7,8,9] fun o r o=>?_;refine AN Z (Aa Cl Z)<|vc Z o.kp (Bd.D.kb CH Z Z)<|Bm Z Z<|AN Z (Aa QA Z)<|vc Z o.kp (Bv.D.kb CH Z Z)<|Bm Z Z<|AN Z (Cv DL) ?_;refine vc Z o.kp (b9.D.ka Dj Z Z)<|AN Z (BS DL f.D Z Z G G) ?_;replace hu:=(((((((hu.D c5).D c6).D c7).D c8).D c9).D e0).D e1).D b7;replace f:=((f.D C).D J).D r;refine LG Z ((Jc (x:= .tmp 57) (y:= .tmp 56) Dj f (j:=i) R (by rw[TJ];rfl) Z Z (fun a hu↦by simp only[Aak,Acx,Ae3] at hu;rcases hu with rfl|rfl<;>rfl))) ?_;rintro _ t ⟨t,t,f⟩;try replace o:=o.tr t Z
   have a8:=ts (q:=q) f R;have a7:(x.Ad.set i q).length=x.Ad.length:=Yy;refine AP ?_;refine cg<|E (Bc Z Z Ai Ai)<|M Z<|Ah ?_;replace g:=(((g.D C).D J).D r).D t;replace hi:=(((hi.D C).D J).D r).D t;replace ht:=(((ht.D C).D J).D r).D t;replace Bd:=(((Bd.D C).D J).D r).D t;replace Bv:=(((Bv.D C).D J).D r).D t;replace l:=(((l.D C).D J).D r).D t;replace KG:=(KG.D r).D t
   first
   |exact⟨(1,e4,b0++[(b1,b2)]),AL,⟨Nat.le_refl _,_,x.Ad.set i q,g,⟨a7,fun h=>(by cases h),by dsimp only;rw[List.length_append,List.length_singleton];omega,fun _=>rfl⟩,hi,ht,Bd,Bv,l,a8,by dsimp only;rw[List.length_append,List.flatMap_append];exact KG⟩,by show 1-1<1-0;omega⟩
   |exact⟨(1,e5,b0),AL,⟨Nat.le_refl _,_,x.Ad.set i q,g,⟨a7,fun h=>(by cases h),by dsimp only;omega,fun _=>rfl⟩,hi,ht,Bd,Bv,l,a8,KG⟩,by show 1-1<1-0;omega⟩
  refine As<|AM a6 [153] [0,1,0,0,1,0,0,1,0,3] [0,1,2,3,4,5,6,7,8,9] fun r r o=>?_;refine AN Z (Aa Cl Z)<|vc Z o.kp (Bd.D.kb CH Z Z)<|Bm Z Z<|AN Z (Aa QA Z)<|vc Z o.kp (Bv.D.kb CH Z Z)<|Bm Z Z<|AN Z (Cv DL) ?_;refine vc Z o.kp (b9.D.ka Dj Z Z)<|AN Z (BS DL f.D Z Z G G) ?_;replace hu:=(((((((hu.D c5).D c6).D c7).D c8).D c9).D e0).D e1).D b7;replace f:=f.D r;refine LG Z ((Jc (x:= .tmp 57) (y:= .tmp 56) Dj f (j:=i) R (by rw[TJ];rfl) Z Z (fun a hu↦by simp only[Aak,Acx,Ae3] at hu;rcases hu with rfl|rfl<;>rfl))) ?_;rintro _ t ⟨t,t,f⟩;try replace o:=o.tr t Z
  have a8:=ts (q:=q) f R;have a7:(x.Ad.set i q).length=x.Ad.length:=Yy;refine AP ?_;refine cg<|E (Bc Z Z Ai Ai)<|M Z<|Ah ?_;replace g:=(g.D r).D t;replace hi:=(hi.D r).D t;replace ht:=(ht.D r).D t;replace Bd:=(Bd.D r).D t;replace Bv:=(Bv.D r).D t;replace l:=(l.D r).D t;replace KG:=(KG.D r).D t
  first
  |exact⟨(1,e4,b0++[(b1,b2)]),AL,⟨Nat.le_refl _,_,x.Ad.set i q,g,⟨a7,fun h=>(by cases h),by dsimp only;rw[List.length_append,List.length_singleton];omega,fun _=>rfl⟩,hi,ht,Bd,Bv,l,a8,by dsimp only;rw[List.length_append,List.flatMap_append];exact KG⟩,by show 1-1<1-0;omega⟩
  |exact⟨(1,e5,b0),AL,⟨Nat.le_refl _,_,x.Ad.set i q,g,⟨a7,fun h=>(by cases h),by dsimp only;omega,fun _=>rfl⟩,hi,ht,Bd,Bv,l,a8,KG⟩,by show 1-1<1-0;omega⟩
 have o:k=1:=by simp at b8;omega
 subst o;obtain rfl:=e3 Z;have o:Bu Bx a6 e6 [153] a1 (x.Ad.set i q):=Jf f (by rw[e9];omega) (fun p hp=>by
  rcases Aa4 hp with h|h
  ·have:=e8 p h;exact⟨⟨G,G⟩,G,G⟩
  rw[h];exact⟨⟨G,G⟩,G,G⟩)
 refine Az Z<|Ag<|Q<|E (Aa Cl Z)<|E (Al CH Z Bd.AE Z)<|ve (Ac a6 1 (Ab sB Z (XI o.AB))) ?_;rintro f f ⟨f,f,f,rfl⟩;rw[e7];refine E (BL Z)<|Ah<|Cz Z (fun f=>?_) fun f=>?_
 ·exact absurd f AO
 refine As<|Q<|E (Ba Cn Z Bd.D.AE Z)<|M Z<|Av (Am Cn Z Z l.D Z Z Bg) ?_;rintro _ f ⟨l,f⟩;refine za Z<|V Z<|Ml Z (DZ Cn Z l.AE Z) (FD.tmp Z) (FD.tmp Z) ?_;exact⟨_,g.D.out,_,_,Z,h0,EA.EO o.D g.D.eD⟩
structure ry (n m:Nat) (P:HQ) (x:CV) (i:Nat) (q:Int×Int):Prop where
 liveQ:BG P.A q.1=true
 room:1024+(q.2+1)*(BZ P.s:Nat)≤m
 may:Ek P.s (Da P.b [Nt.RE (NE x i q)])=true
 vK:Pk n P.A
 j:P.J.failed=false
structure vm (P:HQ) (x:CV) (i:Nat) (q:Int×Int) (t:Tx) (A:CS) (J:Jl) (b:Bk) (f bq:Bool) (e:Int):Prop where
 e:e=0∧bq=true∧f=P.failed∧J.failed=false
 b:b=Da P.b [Nt.RE (NE x i q)]
 w:Mb A P.s q=some (Gb ⟨x.id,i,x.gen,t⟩)
 k:∀d' t',1024≤t'→Ih P.s q d' t'→Bp A d' t'=Bp P.A d' t'
 used:J.used≤P.J.used+97
theorem Yq{x:CV}{vt:Value}{q:Int×Int}(hs:Small z)(hu:Bu Bx c w e a x.Ad)(l:Dg z x=true)(hi:Rd Cg w y [(i:Int)])(ht:Rd Bx w vt [q])(j:i<x.Ad.length)(r:(0≤q.1∧q.1<12)∧0≤q.2∧q.2<64)(o:∀p∈x.Ad,p.1≠q.1):
 Calls QP 125 #[.agg (DB z).toArray, .agg #[I x.id,I x.len,I x.gen,a], .agg #[I x.id,y,vt]] w (Bt fun v w'=>∃c',Mv c w c' w' []∧∃f t,v= .tuple #[.agg #[I x.id,I x.len,I x.gen,f],t,I 0]∧f.oneCell'=true∧Bu Bx c' w' [153] f (x.Ad.set i q)):=oM (c:=c) hs hu.AB l hi ht j r o
theorem ff{pa pj :Nat}{vG u b9 vt vl:Value}{P:HQ}{x:CV}{q:Int×Int}{Ojq:List Tx}{K:List Nat}(c3:DM c w k pa pj a y vG P)(hs:Small P.s)(e8:0<n∧n≤12)(e7:1024≤m∧m≤2048)(h5:GR n m P.A)(hc:P.A.BC≤800000000)(h0:Ta n P.J)(b1:Ek P.s P.b=true)(ht:P.b.De=[])(h9:P.b.Ae.length≤800)(h8:P.J.used+97≤32704)
 (hu:Bu Bx c w [94] u x.Ad)(hi:Bu Cg c w K b9 [(i:Int)])(R:Bu Bx c w K vt [q])(hO:Bu DQ c w K vl Ojq)(hK:BB K Hg=true)(hx:Dg P.s x=true)(e0:i<x.Ad.length)(e1:(0≤q.1∧q.1<12)∧0≤q.2∧q.2<64)(e9:∀k∈x.Ad,k.1≠q.1)(e5:Ojq.length=P.s.k+P.s.m∧(Ojq.getD i []).length=P.s.size):
 Calls QP 62 #[P1 k, .agg #[I x.id,I x.len,I x.gen,u], .agg #[I x.id,b9,vt],vl] w (Bt fun v w'=>∃c',Mv c w c' w' Hg∧∃c7 J' c8 f e3 e c5 c6 c4,DM c' w' k pa pj c5 c6 c4 {P with A:=c7,J:=J',b:=c8,failed:=f}∧RG n m P c7 J' c8∧v= .tuple #[.bool e3,I e]∧(ry n m P x i q→vm P x i q (Ojq.getD i []) c7 J' c8 f e3 e)):=by
 have hJ:=BE.start c w Hg;have g:=hu.AB.AD;have g:=hi.AB.AD;have t1:=R.AB.AD;have g:=hO.AB.AD;have g:=hO.AB.AA;replace c3:=c3.Dt (K:=Hg);replace hu:=iP (L:=Hg) hu Z;replace hi:=hi.Dt hK;replace R:=R.Dt hK;replace hO:=hO.Dt hK;generalize g:Bw c Hg=c0 at hJ c3 hu hi R hO;obtain⟨g,g,j,j,j⟩:=id hs;obtain⟨o,o,o,o,o,h1⟩:=CI hx;have o:P.s.k*P.s.size≤3*120:=WO g j;obtain⟨a6,a7,b0,a8⟩:=c3;refine AY 45 #[.tmp 8, .tmp 9] func62 Z<|Q<|Fa c0 105 fun w1 b5 c1 g Bv=>?_;refine Fa c1 106 fun w2 b6 c2 g a1=>?_;refine Mn c2 107 fun g b7 C g b3=>?_;refine za Z<|V Z<|Ag<|WC.mono (N:=(fun b4 w'=>∃(c':Nat→Nat) (j:Value) (U:Nat),Sub [(4000000, .tuple #[]),(0,P1 k),(6,P1 b6),(7,P1 b7),(8, .bool false),(9,I 0),(10,P1 U),(12,I 0)] b4∧j.oneCell'=true∧Bu Bx c' w' [153] j (x.Ad.set i q)∧BE c w Hg c' w'∧AI c' w' 90 k (Dq pa pj a y vG P) 101∧BW c' w' pa P.A∧Dz c' w' pj pa P.J∧eb c' w' [94] a y vG P.b∧Bu Cg c' w' [0] b9 [(i:Int)]∧Bu DQ c' w' [0] vl Ojq∧AI c' w' 106 b6 [I x.id,b9,vt] 61∧AI c' w' 107 b7 [vl] 37∧AI c' w' 110 U [I x.id,I x.len,I x.gen,j] 115)) ?_ ?_
 ·refine EB C [] [0,0,0,1,1,1,2,0,0,0,0,2,3,0,0] (.Au 0 (.Au 1 (.Au 2 (.Au 3 (.Au 4 (.Au 5 (.two 6 (.Au 7 (.Au 8 (.Au 9 (.Au 10 (.one 11 (.one 12 (.Au 13 (.Au 14 .nil)))))))) 11 (.one 6 (.Au 7 (.Au 8 (.Au 9 (.Au 10 (.one 12 (.Au 13 (.Au 14 .nil))))))))))))))) fun g g g=>?_;refine Cd Z (Cf Z)<|Cd Z (Ak Z)<|Cd Z (Aa FR Z)<|Cj Z Z Z g.kp (fun W o=>ES CP Z (a6.D.kp o Z).AE (Aat Z)) Z<|Cj Z Z Z g.kp (Bv.D.kn Cn Z Z) Z<|Cj Z Z Z g.kp (a1.D.kn Hj Z Z) Z<|Ck ?_ ?_
  ·refine EM Z (Ab sg Z (Yq (x:=x) hs hu.D hx hi.D.AB R.D.AB e0 e1 e9)) ?_;rintro e2 o ⟨o,c9,⟨j,e4,rfl,b8,t⟩⟩;refine g.Bl c9 fun g=>Cd Z (Cf Z)<|Cd Z (Aq Z Z)<|Cd Z (Aq Z Z)<|Cd Z (Aq Z Z)<|EZ Z (CB o 110 HF) ?_;rintro _ o ⟨U,o,rfl,c9,o⟩;refine g.Bl c9 fun g=>AV<|Bj Z Z Z (Am Cn Z Z o Z Z Bg) ?_;rintro _ c9 ⟨o,c9⟩;refine Cd Z (CG Z)<|Cd Z (CG Z)<|Bs ?_;exact⟨_,j,_,AL,b8,t.D,hJ.D,a6.D,a7.D,b0.D,a8.D,hi.D,hO.D,a1.D,b3.D,o⟩
  refine EM Z (CB C 110 HF) ?_;rintro _ C ⟨U,C,rfl,C,o⟩;refine g.Bl C fun g=>EZ Z (Ab sg Z (Yq (x:=x) hs hu.D hx hi.D.AB R.D.AB e0 e1 e9)) ?_;rintro e2 C ⟨C,C,⟨j,e4,rfl,b8,t⟩⟩;refine g.Bl C fun g=>Cd Z (Cf Z)<|Cd Z (Aq Z Z)<|Cd Z (Aq Z Z)<|Cd Z (Aq Z Z)<|AV<|Bj Z Z Z (Am Cn Z Z o.D Z Z Bg) ?_;rintro _ g ⟨o,g⟩;refine Cd Z (CG Z)<|Cd Z (CG Z)<|Bs ?_;exact⟨_,j,_,AL,b8,t.D,hJ.D,a6.D,a7.D,b0.D,a8.D,hi.D,hO.D,a1.D,b3.D,o⟩
 clear hJ a6 a7 b0 a8 hu hi R hO Bv a1 b3;rintro b4 e2 ⟨c9,j,U,g,b8,t,hJ,a6,a7,b0,a8,hi,hO,a1,b3,o⟩;refine DN g<|Ag<|Q<|M Z<|E (BK Z Z)<|Ah<|Cz Z (fun g=>?_) fun g=>?_
 ·exact absurd g AO
 obtain⟨C,b4⟩:∃C,C=x.Ad.set i q:=⟨_,Z⟩;have g:C.length=x.Ad.length:=by rw[b4,Yy]
 have e6:∀r∈C,(-1≤r.1∧r.1<12)∧0≤r.2∧r.2<64:=fun r g=>by
  rw[b4] at g;rcases Aa4 g with g|g
  ·have e4:=h1 r g;simp only[Ki,Aa3,kg,pn] at e4;omega
  rw[g];omega
 rw[←b4] at t;obtain⟨vT,hy⟩:∃vT:Gs,vT=(⟨x.id,x.len,x.gen,C⟩,⟨j,b8⟩):=⟨_,Z⟩;have e4:AI c9 e2 110 U (CL vT) 115:=by rw[hy];exact o
 have U:∀r∈cH vT [(i:Int)],r=(vT,i):=fun r g=>by
  have o:cH vT [(i:Int)]=[(vT,i)]:=rfl;rw[o] at g;exact pv.1 g
 have o:vT.1.Ad=C:=by rw[hy]
 have h2:∀r∈cH vT [(i:Int)],qU P.s (fun q=>Ojq.getD q.2 []) r:=fun r g=>by
  rw[U r g];refine⟨by show i<vT.1.Ad.length;rw[o];omega,fun h1 h3=>?_,?_,e5.2⟩
  ·have b8:h1∈vT.1.Ad:=h3;rw[o] at b8;have:=e6 h1 b8;omega
  rw[hy];simp only[Nb,kg,pn];have:=e5.2;omega
 have b8:(cH vT [(i:Int)]).length=1:=kr _;refine As<|Q<|E (Dn Z)<|V Z<|Ag<|Q<|M Z<|M Z<|E (Dn Z) ?_;have b8:Bu Cg (Bw c9 Hg) e2 [0] b9 [(i:Int)]:=hi.Dt Z;have h1:Bu Bx (Bw c9 Hg) e2 [0] j C:=t.Dt Z;refine ve (Ab wu Z (RN (L:=cH vT [(i:Int)]) (T:=fun q↦Ojq.getD q.2 []) ⟨a6,a7,b0,a8⟩ hs e8 ⟨G,e7.2⟩ h5 G G xc xd (nN (a1.Oc Z) (e4.Oc Z) b8 (fun a1 j↦by rw[pv.1 j];omega)) (uP b3 hO (fun a1 j↦by rw[pv.1 j];omega)) (fun r g↦by rw[U r g,hy];exact h1) h2)) ?_;rintro j b3 ⟨a7,j,⟨A1,f1,a8,a6,a1,rfl,c9⟩⟩;replace t:=t.D j;have b0:Bu Bx a7 b3 [153] vT.2.v vT.1.Ad:=by rw[hy];exact t
 have j:vT.1.Ad.length=P.s.k+P.s.m:=by rw[hy];show C.length=_;omega
 have h1:∀q∈vT.1.Ad,(-1≤q.1∧q.1<12)∧0≤q.2∧q.2<64:=by rw[hy];exact e6
 have j:vT.1.id=x.id∧vT.1.len=x.len∧vT.1.gen=x.gen:=by rw[hy];exact⟨Z,Z,Z⟩
 have j:=vT.2.one;have j:Jm (vT,i)=q:=by
  show(vT.1.Ad[i]?).getD (0,0)=q
  rw[o,b4,Acv e0];rfl
 have e6:ry n m P x i q→a8=0∧f1=P.failed∧Mb A1 P.s q=some (Gb ⟨x.id,i,x.gen,Ojq.getD i []⟩)∧∀o t,Ih P.s q o t→Bp A1 o t=Bp P.A o t:=fun h=>by
  obtain⟨e2,g2,b3,b8⟩:=c9 (fun r g=>by rw[U r g,Vx,j];exact⟨h.liveQ,h.room⟩) (by rw[show cH vT [(i:Int)]=[(vT,i)] from Z];simp);refine⟨e2,g2,?_,fun o t c9=>b8 o t fun r g=>by rw[U r g,j];exact c9⟩;have U:=b3 (vT,i) (by rw[show cH vT [(i:Int)]=[(vT,i)] from Z];exact pv.2 Z);rw[Ow,j] at U;rw[Mb,U,hy]
 refine V Z<|Q<|M Z<|E (BK Z Z)<|Ah<|BA Z (fun j=>?_) fun j=>?_
 ·refine Q<|M Z<|za Z<|V Z<|BR Z Z Z ?_;exact⟨_,hJ.D.out,A1,P.J,P.b,f1,false,a8,a,y,vG,a6.out hJ.D,⟨a1.more G,h0,G,b1,ht,G⟩,Z,fun h=>absurd (e6 h).1 G⟩
 refine As<|Ag<|Q<|M Z<|E (Ba Cn Z e4.D.AE Z)<|ve (Ac a7 149 (Ab wx Z (Vu (x:=vT.1) b0.AB G))) ?_;rintro j j ⟨C,j,j,⟨a7,a7,rfl,a8,b0⟩⟩;replace a8:=a8.Du j;replace b0:=b0.Du j;obtain⟨j,d1,rfl,_⟩:=a8.own.len;obtain⟨h2,d2,rfl,_⟩:=b0.own.len;refine ve (AH C 147 GQ Z Z Z Z Z) ?_;rintro _ h7 ⟨h3,h4,rfl,e4,C⟩;have h6:=C.own (n:=1) (size:=6) Z AO;obtain⟨a7,C⟩:∃a7:List pq,a7=[(TF vT.1,⟨.slice j 2 d1,rfl⟩,⟨.slice h2 vT.1.Ad.length d2,rfl⟩)]:=⟨_,Z⟩;have h2:gY h4 h7 [146,149] a7:=by
  rw[C];refine⟨fun z j=>?_,fun z j=>?_⟩
  ·rw[pv.1 j];exact EA.more (Jg (l:=[vT.1.len,vT.1.gen]) (a8.D e4) (by show 2≤_;omega) (fun r g=>by
    simp only[Aak,Acx,Ae3] at g;rcases g with rfl|rfl
    ·exact⟨G,G⟩
    exact⟨G,G⟩)) Z
  rw[pv.1 j];exact Jf (b0.D e4) (by show vT.1.Ad.length≤_;omega) (fun r g=>by have:=h1 r g;exact⟨⟨G,G⟩,G,G⟩)
 have b0:ZE (Nt.RE vT.1):=⟨G,G⟩;have a8:=ZG (v:= .slice (some ⟨h3,0,none⟩) 1 1) (by rw[C];exact h6) h2 (fun z j=>by rw[C] at j;rw[pv.1 j];exact cD b0) (by rw[C];simp);have j:a7.map (·.1)=[Nt.RE vT.1].map Fv:=by rw[C];rfl
 rw[j] at a8;have a7:FT (TF vT.1)=true:=cz (by simp only[Fb,kg,pn];omega) (by simp only[Fb,kg,pn];omega) (by simp only[Fb,kg,pn];omega) G (fun r g=>by
  have:=h1 r g;simp only[Gi,Aa1,Aay];omega)
 have j:EL ([Nt.RE vT.1].map Fv)≤73:=by
  have j:EL ([Nt.RE vT.1].map Fv)=Jq (TF vT.1):=by simp[EL,Fv]
  rw[j,bp];omega
 have C:A1.BC≤900000000:=by have:=a1.Mt;omega
 have e4:=(El b1).2.2.2.1;refine ve (Ab wy Z (VV (P:={P with A:=A1,failed:=f1}) (L:=[Nt.RE vT.1]) a6.D hs e8 e7 a1.pw C h0 b1 ht a8 Z ⟨by simp,by simp⟩ (fun r g↦by rw[pv.1 g];exact a7) (fun r g↦by rw[pv.1 g];exact b0) ⟨by show P.b.Ae.length+1≤_;omega,by show P.b.AQ.length+1≤_;omega⟩ (by show P.J.used+24+_≤_;omega))) ?_;rintro g g ⟨g,g,⟨A2,C,b2,a7,c5,c6,c4,a6,g,rfl⟩⟩;refine V Z<|Ag ?_;have a8:=Pc (JF b1) (IE b1) [Nt.RE vT.1];have b0:RG n m P A2 C b2:=by
  refine⟨(a1.tr g.lay.toS).more G,g.j,?_,g.may,g.De,?_⟩
  ·have h1:C.used≤P.J.used+24+EL ([Nt.RE vT.1].map Fv):=g.used;omega
  rcases g.new with⟨_,j⟩|⟨_,j⟩
  ·rw[show b2=P.b from j];omega
  rw[show b2=Da P.b [Nt.RE vT.1] from j];exact a8.2.2.1
 have e4:vT.1=NE x i q:=by rw[hy,b4];rfl
 have a8:ry n m P x i q→a7=0∧vm P x i q (Ojq.getD i []) A2 C b2 f1 true 0:=fun h=>by
  obtain⟨e2,g2,b3,b8⟩:=e6 h;obtain⟨U,b4⟩:=g.jq (by show Ek P.s (Da P.b [Nt.RE vT.1])=true;rw[e4];exact h.may) (h.vK.congr a1.liveQ) h.j;have a1:0≤q.2*(BZ P.s:Nat):=Aef e1.2.1 (Ad3 _);refine⟨U,⟨Z,Z,g2,b4⟩,?_,?_,fun o t a1 c9=>(g.lay.keep o t a1).trans (b8 o t c9),?_⟩
  ·rcases g.new with⟨j,_⟩|⟨_,j⟩
   ·exact absurd U j
   rw[←e4];exact j
  ·rw[←b3];exact Oy g.lay.keep G _
  have h1:C.used≤P.J.used+24+EL ([Nt.RE vT.1].map Fv):=g.used;omega
 refine cg<|M Z<|E (BK Z Z)<|Ah<|BA Z (fun g=>?_) fun g=>?_
 ·refine Q<|M Z<|za Z<|V Z<|BR Z Z Z ?_;exact⟨_,hJ.D.out,A2,C,b2,f1,false,a7,c5,c6,c4,a6.out hJ.D,b0,Z,fun h=>absurd (a8 h).1 G⟩
 refine As<|Q<|za Z<|V Z<|BR Z Z Z ?_;exact⟨_,hJ.D.out,A2,C,b2,f1,true,0,c5,c6,c4,a6.out hJ.D,b0,Z,fun h=>(a8 h).2⟩
theorem Wf{liveQ:List Bool}{F:List (List Int)}:∀i,(CE liveQ F i).2.2=true→liveQ.getD (CE liveQ F i).1 false=true∧liveQ.getD (CE liveQ F i).2.1 false=true
 |0,h=>by simp[CE] at h
 |i+1,h=>by
  have f:=Wf (liveQ:=liveQ) (F:=F) i;rw[CE] at h⊢;split at h
  ·rename_i hl;rw[if_pos hl];dsimp only;generalize CE liveQ F i=r at f;obtain⟨a,b,o⟩:=r;dsimp only at f⊢;refine⟨?_,?_⟩
   ·split
    ·exact hl
    rename_i g;cases o with
    |false=>simp at g
    |true=>exact(f Z).1
   split
   ·exact hl
   rename_i g;cases o with
   |false=>simp at g
   |true=>exact(f Z).2
  rename_i hl;rw[ss hl];exact f h
theorem Qi(h:(Cu n F).getD k false=true):k<n∧BG F k=true:=by
 rw[hk,Cu,Aah] at h;rcases Aab k n with hd|hd
 ·rw[Adu hd] at h;exact⟨hd,h⟩
 ·rw[Aam (by rw[Aap];exact hd)] at h;cases h
theorem vn(h:(i:Int)=VJ u p):∃d,u[i]?=some d∧d.1=p:=by
 rw[VJ,NC] at h;split at h
 ·rename_i k O;obtain⟨g,j,_⟩:=WM.1 O;have:i=k:=G;subst this;exact⟨u[i],dd g,by simpa using j⟩
 ·omega
theorem vo(h:VJ u p<0):∀d∈u,d.1≠p:=by
 rw[VJ,NC] at h;split at h
 ·omega
 ·rename_i O;intro d hp;have:=Abq.1 O d hp;simpa using this
structure kh (n:Nat) (P:HQ) (k i e1 e2:Nat) (x:CV) (a:Int):Prop where
 sh:Ix (Cu n P.A) (EP n P) P.b.Ae=some k
 at_:P.b.Ae[k]?=some x
 d2:e2=(CE (Cu n P.A) (EP n P) (Cu n P.A).length).2.1
 d1:e1=(CE (Cu n P.A) (EP n P) (Cu n P.A).length).1
 i:(i:Int)=VJ x.Ad e1
 a:((EP n P).getD e2 [])[0]?=some a
theorem kh.facts{f:Nat}{P:HQ}{x:CV}(h:kh n P k i m f x p)(J:P.n≤64)(R:0<n∧n≤12):FE (EP n P) m+2≤FE (EP n P) f∧(m<n∧f<n)∧(i<x.Ad.length∧(x.Ad[i]?).map (·.1)=some (m:Int))∧(∀a∈x.Ad,a.1≠(f:Int))∧(((0≤(f:Int)∧(f:Int)<12)∧0≤p∧p<64)∧p<(P.n:Int))∧BG P.A f=true∧((f:Int),p)∉P.b.Ae.flatMap (·.Ad):=by
 obtain⟨j,t,l,o,C,r⟩:=h;rw[Ix,←l,←o] at j;split at j
 ·cases j
 rename_i hc;rw[Ae1,Aa1] at hc;obtain⟨c1,c2⟩:=hc;obtain⟨I,g2,_⟩:=WM.1 j;obtain⟨_,hx⟩:=kJ.1 t;rw[hx,HT,kg,pn,pn] at g2;have j:=Wf _ (by simpa using c1);rw[←l,←o] at j;obtain⟨t,_⟩:=Qi j.1;obtain⟨l,I⟩:=Qi j.2;obtain⟨a,hp,o⟩:=vn C;rw[EP,hk,Pb l,Ada] at r;have j:=Lx r;rw[Acr] at j;have r:=We.1 j.1;refine⟨by simp at c2;omega,⟨t,l⟩,⟨(kJ.1 hp).1,by rw[hp,←o];rfl⟩,vo g2.2,⟨⟨⟨G,G⟩,G,G⟩,G⟩,I,fun l=>?_⟩;have:(P.b.Ae.flatMap (·.Ad)).contains ((f:Int),p)=true:=by rw[Af7];exact l
 rw[this] at j;simp at j
structure oN (n m:Nat) (P:HQ):Prop where
 f:P.failed=false
 j:P.J.failed=false
 vK:Pk n P.A
 room:1024+P.n*BZ P.s≤m
theorem kh.mov{o f:Nat}{P:HQ}{x:CV}(h:kh n P k i o f x p)(a:P.n≤64)(r:0<n∧n≤12)(l:Lt P.s P.b)(ht:P.b.De=[])(j:oN n m P):Qh P.b k i x ((f:Int),p)∧ry n m P x i ((f:Int),p):=by
 obtain⟨_,_,f3,f4,f5,f6,f7⟩:=h.facts a r;have g:Qh P.b k i x ((f:Int),p):=⟨h.at_,f3.1,f4,f7,f5.1⟩;refine⟨g,f6,?_,?_,j.vK,j.j⟩
 ·have t:(p+1)*(BZ P.s:Nat)≤(P.n:Nat)*(BZ P.s:Nat):=Ad0 G G;have C:((P.n*BZ P.s:Nat):Int)=(P.n:Nat)*(BZ P.s:Nat):=Acf _ _;have:=j.room;show 1024+(p+1)*(BZ P.s:Nat)≤(m:Int)
  omega
 rw[hr l g];exact(Jh (b:={P.b with Ae:=P.b.Ae.set k (NE x i ((f:Int),p))}) ht).2 (kd l g)
def zn(n:Nat)(P:HQ)(A:CS)(J:Jl)(b:Bk)(f g:Bool)(e:Int):Prop:=e=0∧((g=false∧A=P.A∧J=P.J∧b=P.b∧f=P.failed)∨(g=true∧∃k i l j x a,kh n P k i l j x a∧(Dp P.A P.s x i).2=true∧vm P x i ((j:Int),a) (Dp P.A P.s x i).1 A J b f g e))
theorem hC(A:CS)(s:CO){n:Nat}:∀{S:List CV},(∀x∈S,x.Ad.length=n)→Qd A s S≤S.length*n
 |[],_=>Wm _
 |x::S,h=>by
  have g:=hC A s (S:=S) fun y hy=>h y (Aaw _ hy);have f:=Aa0 (fun i=>(Dp A s x i).2) (List.range x.Ad.length);rw[Aap,h x Aau] at f;have e:Qd A s (x::S)=((List.range x.Ad.length).filter fun i=>(Dp A s x i).2).length+Qd A s S:=by
   rw[Qd,Aaa,ft];rfl
  rw[e,SG,Aad,Aa2,h x Aau];omega
def tz:Tx:=[110,111,110,101]
theorem ki{pj :Nat}{vG b1 b2:Value}{P:HQ}{K:List (Tx×Tx)}(b0:DM c w k i pj a y vG P)(hs:Small P.s)(e2:1≤P.s.m)(b8:0<n∧n≤12)(e6:1024≤m∧m≤2048)(R:GR n m P.A)(c5:P.n≤64)(hc:P.A.BC≤900000000)(a6:Ek P.s P.b=true)(ht:P.b.De=[])(hl:P.b.Ae.length≤1000)(hK:Hq P.A P.s P.b K)(hd:Rd DQ w b1 (K.map (·.1)))(hx:Rd DQ w b2 (K.map (·.2))):
 Calls QP 22 #[P1 k, .agg #[b1,b2], .agg (DB P.s).toArray,I P.n,P1 i] w (Bt fun u w'=>∃c',Mv c w c' w' []∧u= .bool true):=by
 have U:=DD.start c w DA;have f:=hd.AD;have f:=hx.AD;replace b0:=b0.Dt (K:=DA);replace hd:=hd.mL (c:=c) DA;replace hx:=hx.mL (c:=c) DA;generalize Bw c DA=c0 at U b0 hd hx;obtain⟨j,g,o,l⟩:=b0;have a8:=(Jh ht).1 a6;have b4:SX P.A:=R.wf b8 ⟨G,e6.2⟩ G;have e3:=hK.len;obtain⟨f,f,f,f,f⟩:=id hs;have f:∀x∈P.b.Ae,x.Ad.length=P.s.k+P.s.m:=fun x hx=>(CI (a8.Bl x hx).1).2.2.2.2.1;have r:=hC P.A P.s f;have f:P.b.Ae.length*(P.s.k+P.s.m)≤1000*5:=WO hl G;have b9:(P.b.Ae.length:Int)*((P.s.k:Int)+(P.s.m:Int))=((P.b.Ae.length*(P.s.k+P.s.m):Nat):Int):=by rw[Acf,Acs]
 have f:=a8.zC;have c7:=DC n P.A;have f:(K.map (·.1)).length=K.length:=kr _;have f:(K.map (·.2)).length=K.length:=kr _;refine AY 106 #[.tmp 10] func22 Z<|Q<|Fa c0 106 fun w1 b6 c1 f t=>?_;refine Fa c1 107 fun w2 b7 c2 f b5=>?_;refine V Z<|Q<|M Z<|ve (Ab we Z (de ⟨i,pj,a,y,vG,⟨j.D,g.D,o.D,l.D⟩⟩ hs a6 ht hl)) ?_;rintro f f ⟨f,r,⟨e0,e1,c9,⟨C,J,a1⟩,rfl⟩⟩;have r:=C.AB.AD;have e8:=J.AB.AD;have c8:=a1.AB.AD;refine EK f 111 Uz fun f c3 b3 f r=>Av (Am Fy Z Z r Z Z Bg) ?_;rintro _ f ⟨r,f⟩;refine Ah<|Ag<|Ag<|AM b3 [] [1,1,2,0,0,0,1,0,0,1,0,0,0,0,0,2,0,1,0,0,1,0,1,0,0,0,0,0,0,2,0,2,0,0,0,1,2,0,0,0] [0,1,2,3,4,5,6,7,8,9,10,11,12,13,14,16,17,18,19,20,21,22,23,24,15,25,26,27,28,30,29,31,32,33,34,35,36,37,38,39] fun f f f=>?_;have e5:=j;have c6:=t;have a7:=r;refine vc Z f.kp (b5.D.kn CP Z Z)<|vc Z f.kp (a7.D.kn Fy Z Z)<|Db Z (Ac b3 1 (Ab aad Z (jM hs C.D.AB J.D.AB a1.D.AB a8 ht hl))) ?_;rintro b3 b3 ⟨b3,c4,e4,rfl⟩;refine f.Bl c4 fun f=>AN Z (BL Z)<|Bm Z Z ?_;apply Dc b3 false 7 _ f.kp Mq
 ·intro e7 b3;refine AN Z (Aa Ev Z)<|vc Z f.kp (a7.D.kb HI Z Z)<|AN Z (BN Ge) ?_;refine AN Z (Aa TL Z)<|vc Z f.kp (c6.D.kb Eh Z Z)<|AN Z (BN Ch) ?_;refine AN Z (BK Z Z) ?_;exact Dd 7 b3
 intro c4 c4 e4;refine Bm Z Z ?_;replace f:=f.tr e4 Z;apply Dc c4 false 12 _ f.kp Mq
 ·intro e4 e4;refine Bm Z Z<|AN Z (Aa CA Z)<|vc Z f.kp (a7.D.kb Ei Z Z)<|AN Z (BN Di) ?_;refine AN Z (Aa CN Z)<|vc Z f.kp (b5.D.kb AF Z Z)<|AN Z (Aa Hk Z)<|vc Z f.kp (b5.D.kb AF Z Z)<|AN Z (Bc Z Z Ai Ai)<|AN Z (HK (m:=(P.b.Ae.length:Int)) (n:=(P.s.k:Int)+(P.s.m:Int)) Z Z (by rw[b9];omega) (by rw[b9];omega)) ?_;rw[b9];refine Db Z (Ac c4 1 (Ab tS Z (ZC ⟨i,pj,a,y,vG,⟨j.D,g.D,o.D,l.D⟩⟩ hs G))) ?_;rintro b5 b5 ⟨b5,b5,b9,rfl⟩;refine f.Bl b5 fun f=>AN Z (BK Z Z) ?_;exact Dd 12 e4.D
 intro b5 b5 b9;refine Bm Z Z ?_;replace f:=f.tr b9 Z;apply Dc b5 false 5 _ f.kp Mq
 ·intro b9 b9;refine Bm Z Z<|Bm Z Z<|Db Z (Ac b5 1 (Ab wg Z (cF ⟨i,pj,a,y,vG,⟨j.D,g.D,o.D,l.D⟩⟩ hs R b4 a6 hl))) ?_;rintro b5 b5 ⟨b5,c4,e4,rfl⟩;refine f.Bl c4 fun f=>Db Z (Ac b5 1 (Ab tS Z (ZC ⟨i,pj,a,y,vG,⟨j.D,g.D,o.D,l.D⟩⟩ hs G))) ?_;rintro b5 b5 ⟨b5,b5,c4,rfl⟩;refine f.Bl b5 fun f=>AN Z (CM Z Z) ?_;exact Dd 5 b9.D
 intro b5 b5 b9;refine Bm Z Z ?_;replace f:=f.tr b9 Z;apply Dc b5 false 4 _ f.kp Mq
 ·intro b9 b9;refine vc Z f.kp (a7.D.kn Fy Z Z)<|Db Z (Ac b5 1 (Ab aae Z (jQ C.D.AB J.D.AB c8 hK.free))) ?_;rintro b5 b5 ⟨b5,b5,c4,rfl⟩;refine f.Bl b5 fun f=>AN Z (BN BM) ?_;refine AN Z (CM Z Z) ?_;exact Dd 4 b9.D
 intro b5 b5 b5;refine AP ?_;refine Cz Z (fun a7=>?_) fun a7=>?_
 ·exfalso;simp[e3] at a7;omega
 refine As<|Ag<|Q<|V Z<|An<|AG (σ:=Nat) (fun pa=>[(0,P1 k),(3,I P.n),(4,P1 i),(6,P1 b6),(7,P1 b7),(10, .bool false),(11,P1 c3),(12,I pa)]) (fun pa w'=>pa≤K.length∧∃c',DD c w DA c' w'∧AI c' w' 90 k (Dq i pj a y vG P) 101∧BW c' w' i P.A∧Dz c' w' pj i P.J∧eb c' w' [94] a y vG P.b∧Bu DQ c' w' (0::DA) b1 (K.map (·.1))∧Bu DQ c' w' (0::DA) b2 (K.map (·.2))∧AI c' w' 106 b6 [b1,b2] 39∧AI c' w' 111 c3 [e0,e1,c9,I P.b.next] 58∧Bu DS c' w' [121,122,123,124,125] e0 P.b.Ae∧Bu Ie c' w' [121,122,123,124,125] e1 P.b.AQ∧Bu Wo c' w' [121,122,123,124,125] c9 P.b.De) (fun pa=>K.length-pa) 0 AL ⟨Wm _,_,U.D,j.D,g.D,o.D,l.D,hd.D,hx.D,t.D,r.D,C.D,J.D,a1.D⟩ ?_;rintro pa a7 ⟨hi,a7,U,j,g,o,l,hd,hx,t,r,C,J,a1⟩;refine Ag<|Q<|M Z<|E (Aa TL Z)<|E (Al Eh Z t.AE Z)<|E (BN Ch) ?_;refine E (AX Z Z)<|Ah<|BA Z (fun b5=>?_) fun b5=>?_
 ·have c3:pa<K.length:=G;have b5:=(Co hd (show pa<(K.map (·.1)).length by omega) AO).1;have b9:=(Co hx (show pa<(K.map (·.2)).length by omega) AO).1;rw[Ac0] at b5 b9;have c4:=hK.text hs e2 a8 (mv c3);refine As<|Ag<|An<|Q<|M Z<|E (Aa TL Z)<|E (Al Eh Z t.AE Z)<|M Z<|E (Cv Ch) ?_;refine E (Cc CQ Z b5.DF)<|ve (Ac a7 1 (Ab tQ Z (Vt (d:=K[pa].1) ⟨i,pj,a,y,vG,⟨j,g,o,l⟩⟩ hs R b4 a6))) ?_;rintro b5 b5 ⟨b5,c3,c3,rfl⟩;rw[c4];refine M Z<|E (Aq Z Z)<|E (Aq Z Z)<|za Z<|V Z<|Q<|M Z<|ve (Ac b5 1 (Ab YL Z (KR 0))) ?_;rintro b5 b5 ⟨b5,b5,b5,rfl⟩;refine E (BK Z Z)<|M Z ?_;apply AW false 7 _ CK
  ·intro b5;refine wo<|M Z<|wo<|E (Aa fG Z)<|wo<|E (Al Eh Z t.D.AE Z)<|wo<|M Z<|wo<|E (Cv Ch) ?_;refine wo<|E (Cc CQ Z b9.D.DF)<|wo<|E (tJ Z Z) ?_;exact EQ 7
  refine Ah<|Cz Z (fun b5=>?_) fun b5=>?_
  ·exfalso;simp at b5
  refine As<|cg<|M Z<|E (Bc Z Z Ai Ai)<|V Z ?_;exact⟨pa+1,AL,⟨G,_,U.D,j.D,g.D,o.D,l.D,hd.D,hx.D,t.D,r.D,C.D,J.D,a1.D⟩,G⟩
 refine Az Z<|Q<|M Z<|ve (Ac a7 1 (Ab tQ Z (Vt (d:=tz) ⟨i,pj,a,y,vG,⟨j,g,o,l⟩⟩ hs R b4 a6))) ?_;rintro t t ⟨t,J,J,rfl⟩;rw[jZ (s:=P.s) (b:=P.b) (d:=tz) a8 AO];refine M Z<|E (Aq Z Z)<|E (Aq Z Z)<|za Z<|V Z<|Ag<|AM t [] [0,2,0,0,0,2,1,0,2,0,2,2,0,0] [0,1,2,3,4,6,7,9,5,8,10,11,12,13] fun J J f=>?_;refine Bm Z Z<|Db Z (Ac t 1 (Ab YL Z (KR 3))) ?_;rintro t t ⟨t,J,a1,rfl⟩;refine f.Bl J fun f=>AN Z (BO Z Z)<|Bm Z Z ?_;apply Dc t true 8 true f.kp Mq
 ·intro e7 b3;refine Bm Z Z<|vc Z f.kp (r.D.kn Fy Z Z)<|Bm Z Z<|Bm Z Z<|Db Z (Ab pJ Z (No ⟨i,pj,a,y,vG,⟨j.D,g.D,o.D,l.D⟩⟩ R b8.2 c5 G)) ?_;rintro j j ⟨l,o,⟨j,j,j,rfl⟩⟩;refine f.Bl o fun f=>?_;obtain⟨o,o,_⟩:=id j.row;have r:=j.kQ.AD;have g2:=o.AD;refine Db Z (Ac l 8 (Ab tP Z (VP g.D ⟨R.len,b8.2⟩))) ?_;rintro g g ⟨o,g,r,l⟩;refine f.Bl g fun f=>?_;replace l:=l.Du r;have g:Bu DW _ _ [8] _ (Cu n P.A):=MG (by rw[c7];exact l) G;have l:=g.AB.AD;have l:=g.AB.AA;refine Db Z (Ab pG Z (VO (c:=o) (b:=P.b) (n:=P.n) (liveQ:=Cu n P.A) C.D.AB e8 c8 g.AB G c5)) ?_;rintro g g ⟨l,o,⟨g,g,g,rfl⟩⟩;refine f.Bl o fun f=>?_;rw[c7] at g;obtain⟨o,o,_⟩:=id g.row;have r:=g.kQ.AD;have r:=o.AD;refine Db Z (Ac l 1 (Ab aaf Z (eW (j.D.uK G).AB (j.D.tm (by rw[Hb];omega)).AB (g.uK G).AB (g.tm (by rw[Hb];omega)).AB))) ?_;rintro g g ⟨g,g,j,rfl⟩;refine f.Bl g fun f=>?_;exact Dd 8 b3.D
 intro g g g;refine Ir Z Z<|AP ?_;refine Af Z Z ?_;exact⟨_,U.D.out,Z⟩
theorem di{P:HQ}{d:Tx}(hs:Small P.s)(i:Lt P.s P.b)(ht:P.b.De=[])(p:P.n≤64)(r:n≤12)(f:oN n m P)(hd:d.length=32)(J:W.length≤2000):oy n m P W d:=
 ⟨f.f,f.j,f.vK,fun pre hp j g hf C=>by
  obtain⟨l,o,R⟩:=LZ (next:=P.b.next) hp (DC n P.A) j;refine⟨fun x hx q I=>?_,l,?_⟩
  ·obtain⟨_,e,l,o,o,U,U⟩:=R q (Ab5.2 ⟨x,hx,I⟩);have I:(q.2+1)*(BZ P.s:Nat)≤(P.n:Nat)*(BZ P.s:Nat):=Ad0 G G;have I:((P.n*BZ P.s:Nat):Int)=(P.n:Nat)*(BZ P.s:Nat):=Acf _ _;have:=f.room;exact⟨by rw[l];exact(Qi o).2,G⟩
  exact(Jh (by rw[fold_add (fun y hy=>(i.Bl y hy).2) g];exact ht)).2 (nY hs i p hp (DC n P.A) r j hd g hf C J)⟩
theorem hD{liveQ:List Bool}{F:List (List Int)}{km:Nat}{pre:List OZ}(hp:Fz liveQ F km pre)(hl:liveQ.length=F.length)(d:Nat):∀k,k≤pre.length→(F.getD d []).length≤((Em F (pre.take k)).getD d []).length+k
 |0,_=>by simp[Em]
 |k+1,O=>by
  have t:=hD hp hl d k G;have j:k<pre.length:=G;obtain⟨_,_,g2⟩:=hp k pre[k] (dd j);rw[pk j,Qb];by_cases hd:d∈pre[k].2.2.1
  ·rcases g2 with⟨f,_⟩|⟨f,_⟩|⟨_,Djq,g,i,r⟩
   ·simp at f
   ·simp at f
   ·have l:(pre[k].2.2.1).Nodup:=by rw[i];exact(g.nodup_iff.2 (Ot _ _ _ _)).sublist (Aev _ _)
    have o:d∈Gd liveQ (Em F (pre.take k)) [] liveQ.length:=g.mem_iff.1 (by rw[i] at hd;exact Aca hd);have p:=(MH.1 o).1;rw[eL l hd (by rw[Pa];omega),List.length_tail];omega
  ·rw[TW _ _ _ hd];omega
theorem kj{g:List Nat}(hs:NA x q [] k p g)(h:k≤(Gd x q [] x.length).length):p=0:=by
 rcases hs with⟨_,f,_⟩|⟨_,f,_⟩|⟨i,_⟩
 ·exfalso;have:Gd x q [] x.length=((List.range x.length).filter (Nz x [])).filter fun d=> !(q.getD d []).isEmpty:=by
   rw[Agy,Gd];exact Aea fun d _=>by rw[TV,Bool.and_comm]
  rw[this] at h;have j:=Aa0 (fun d=> !(q.getD d []).isEmpty) ((List.range x.length).filter (Nz x []));rw[WG] at f;omega
 ·omega
 ·exact i
theorem dj{A:CS}{s:CO}{n:Nat}:∀{S:List CV},(∀x∈S,x.Ad.length=n∧∀i,i<n→(Dp A s x i).2=true)→Qd A s S=S.length*n
 |[],_=>by simp[Qd]
 |x::S,h=>by
  have g:=dj (S:=S) fun y hy=>h y (Aaw _ hy);obtain⟨f,j⟩:=h x Aau;have e:Qd A s (x::S)=((List.range x.Ad.length).filter fun i=>(Dp A s x i).2).length+Qd A s S:=by
   rw[Qd,Aaa,ft];rfl
  rw[e,g,SG,Aad,Aa2,List.filter_eq_self.2 fun i hi=>j i (by rw[←f];exact Aax.1 hi),Aap,f];omega
theorem hE(s:CO):Lt s Nf:=⟨by show 0≤(0:Int)∧(0:Int)≤_;omega,fun x h=>(by cases h),List.Pairwise.nil,List.Pairwise.nil,fun x h=>(by cases h),List.Pairwise.nil,List.Pairwise.nil,Wm _⟩
theorem tA(A:CS)(s:CO):Hq A s Nf []:=⟨Z,fun p h=>(by cases h),fun x h=>(by cases h)⟩
def Qo:CO:=⟨1,1,4⟩
def dA:Tx:=[97,98,99,100,101]
theorem Jk:Small Qo:=⟨by decide,by decide,by decide,by decide,by decide⟩
theorem ZS:BI Qo dA.length=2:=by decide
theorem rz:BZ Qo=1:=by decide
theorem vp{J:CS}{j J':Jl}{g:Bk}(b3:1027≤m)(hl:∀k:Nat,k<2→BG F k=true)(b1:j.failed=false)(h:ZN 2 m ⟨Qo,3,F,j,Nf,(-1,-1),false⟩ dA (GV 0) J J' g B p):p=0∧g.De=[]∧Lt Qo g∧Hq J Qo g [(GV 0,dA)]∧g.Ae.length=2∧Qd J Qo g.Ae=4:=by
 have a6:Cu 2 F=[true,true]:=by
  show[BG F ((0:Nat):Int),BG F ((1:Nat):Int)]=_
  rw[hl 0 G,hl 1 G]
 have o:Pk 2 F:=by
  have:CR (fun k:Nat=>BG F k) 2=[0,1]:=by
   show[0,1].filter (fun k:Nat=>BG F k)=_
   rw[Ac2 (by exact hl 0 G),Ac2 (by exact hl 1 G)];rfl
  rw[Pk,this];decide
 have C:oN 2 m ⟨Qo,3,F,j,Nf,(-1,-1),false⟩:=⟨Z,b1,o,by show 1024+3*BZ Qo≤m;rw[rz];omega⟩;have hF:Ce 3 2 ([]:List (Int×Int))=[He 3,He 3]:=Ss 3 2;rcases h.exact (di Jk (hE _) rfl (by show(3:Nat)≤64;decide) AO C (VQ 0) AO) with⟨a7,o,_⟩|⟨b0,_,_,pre,b2,C,U,a1,R,O,_⟩
 ·exfalso;rcases o with⟨_,o⟩|⟨_,o|o⟩|⟨e,I,hp,C,hs⟩
  ·cases o
  ·exact absurd (show 60≤0 from o) AO
  ·have I:(1073741824:Int)<0+(BI Qo dA.length:Nat):=o;rw[ZS] at I;omega
  refine a7 (kj hs ?_);dsimp only at hp C hs⊢;rw[a6] at hp⊢;rw[ZS] at C;have a6:∀d,d<2→((Em (Ce 3 2 (Nf.Ae.flatMap (·.Ad))) e).getD d []).isEmpty=false:=fun d hd=>by
   have o:=hD hp Z d e.length (kM _);rw[Abi] at o;have a7:((Ce 3 2 (Nf.Ae.flatMap (·.Ad))).getD d []).length=3:=by
    rw[show Nf.Ae.flatMap (·.Ad)=[] from Z,hF];rcases Aab d 1 with I|I
    ·have:d=0:=G;subst this;rfl
    have:d=1:=G;subst this;rfl
   rw[a7] at o;cases I:(Em (Ce 3 2 (Nf.Ae.flatMap (·.Ad))) e).getD d [] with
   |nil=>rw[I] at o;simp at o;omega
   |cons a r=>rfl
  have:Gd [true,true] (Em (Ce 3 2 (Nf.Ae.flatMap (·.Ad))) e) [] 2=[0,1]:=by
   show[0,1].filter _=_
   have a7:TV [true,true] (Em (Ce 3 2 (Nf.Ae.flatMap (·.Ad))) e) [] 0=true:=by rw[TV,a6 0 G];rfl
   have a8:TV [true,true] (Em (Ce 3 2 (Nf.Ae.flatMap (·.Ad))) e) [] 1=true:=by rw[TV,a6 1 G];rfl
   rw[Ac2 a7,Ac2 a8];rfl
  show 1+1≤(Gd _ _ _ 2).length
  rw[this];decide
 dsimp only at a1 R O U
 have a6:=(Jh h.De).1 h.may;have a7:=fold_add (s:=Qo) (t:=dA) (d:=GV 0) (pre:=pre) (b:=Nf) (fun y hy=>(by cases hy)) U
 have a8:g.Ae=Dr Qo Nf.next dA pre:=by rw[a1,a7];rfl
 have a7:g.Ae.length=2:=by rw[a8,Ee,ZS]
 refine⟨b0,h.De,a6,?_,a7,?_⟩
 ·rw[a1];exact(tA F Qo).add (K:=[]) Jk (hE _) b2 (DC 2 F) C U R O
 rw[dj (n:=2),a7];intro x hx;have U:=(a6.Bl x hx).1;have C:x.Ad.length=2:=(CI U).2.2.2.2.1;refine⟨C,fun i hi=>?_⟩;rw[a8] at hx;obtain⟨k,C⟩:=Aba hx;have I:=dd (l:=x.Ad) (i:=i) G;have o:=R k x C i _ I;have R:k<BI Qo dA.length:=by have:=(kJ.1 C).1;rwa [Ee] at this
 have C:=GM Qo AO dA;have a1:((EU Qo dA).getD k []).length≤Qo.k*Qo.size:=by
  rw[hk,dd (by rw[C.1];exact R)];exact(C.2 _ (mv _)).2
 rw[VY (u:=(EU Qo dA).getD k []) Jk U a1 I o]
theorem oO{b:Bk}(f:Lt Qo b)(O:Hq F Qo b [(GV 0,dA)]):Ny F Qo b (GV 0)=(dA,0):=O.text Jk AO f (p:=(GV 0,dA)) (pv.2 rfl)
theorem kk{q:Nat}{P:HQ}(hp:WA c w k P)(hs:Small P.s)(f:GR n m P.A)(g:SX P.A)(i:Ek P.s P.b=true)(hl:P.b.Ae.length≤1000)(j:Qd P.A P.s P.b.Ae=q):Calls QP 25 #[P1 k] w (Bt fun u w'=>AZ w w'∧u=I q):=by
 subst j;exact cF hp hs f g i hl
theorem oP{q:Nat}{P:HQ}(hp:WA c w k P)(hs:Small P.s)(hl:P.b.Ae.length≤100000)(f:P.b.Ae.length*(P.s.k+P.s.m)=q):Calls QP 24 #[P1 k] w (Bt fun u w'=>AZ w w'∧u=I q):=by
 subst f;exact ZC hp hs hl
theorem fg:Calls QP 7 #[] w (Bt fun v w'=>AZ w w'∧v= .bool true):=by
 obtain⟨c,hO,f⟩:=Ay w;have l:Ca Qo.size=1:=by decide
 refine AY 52 #[.tmp 0] func7 Z<|Q<|V Z<|Q<|E (By (cells:=#[I Qo.k,I Qo.m,I Qo.size]) Z Ao) ?_;refine ve (Ab pf8 Z (VX (c:=c) (s:=Qo) (n:=2) (N:=3) ⟨Jk,by decide⟩ AO AO)) ?_;rintro f w1 ⟨c1,f,⟨i,p,pa,pj,j,g,f,o,hu,hf,r,_,rfl⟩⟩;rw[l] at f;have l:i.BC≤20000:=by have a6:=f.Mt;have l:(Pg 2 (1024+3*1)).BC=0:=rfl;omega
 have hl:∀k:Nat,k<2→BG i k=true:=fun k O=>by rw[f.liveQ];exact Ve O
 refine M Z<|E (Aq Z Z)<|E (Aq Z Z)<|za Z<|V Z<|Ag<|Q<|M Z<|E (Qg underlying33 Z)<|M Z ?_;apply AW false 2 _ CK
 ·intro l;refine wo<|M Z<|wo<|E (Qg underlying34 Z) ?_;exact EQ 2
 refine Ah<|Cz Z (fun l=>?_) fun l=>?_
 ·simp at l
 refine As<|Q<|ve (GD c1 8 EE Z Z Ai Ai Ai) ?_;rintro r w2 ⟨c2,l,l⟩;have hv:AJ _ _ 8 5 1 r 32 (AS (GV 0)):=l;refine E (Ij underlying74 underlying9 underlying5 Z hv.own)<|V Z<|Q<|M Z<|M Z<|E (By (cells:=#[I 4,I dA.length,St [],St (GV 0), .slice none 0 0, .slice none 0 0]) Z Ao) ?_;refine ve (Ab wc Z (db (t:=dA) (d:=GV 0) g.D Jk AO (m:=1027) AO f.pw (by show(3:Nat)≤64;decide) (by show i.BC≤_;omega) o ((Jh Z).2 (hE Qo)) Z (VQ 0) AO (by show 0≤800;omega) (by show j.used+3224≤_;omega))) ?_;rintro f f ⟨C,f,⟨A1,r,b1,f1,f,f,f,f,g,f,rfl⟩⟩;obtain⟨l,g2,R,U,o,a1⟩:=vp AO hl hf f;subst l;have l:=f.lay.pw;have a7:=f.lay.Mt;have o:SX A1:=l.wf AO AO (by have a6:A1.BC≤i.BC+8000:=a7;omega);refine V Z<|Q<|M Z<|M Z<|ve (Ac C 1 (Ab tQ Z (Vt (d:=GV 0) ⟨_,_,_,_,_,g⟩ Jk l o f.may))) ?_;rintro i i ⟨i,C,C,rfl⟩;rw[show Ny ({s:=Qo,n:=3,A:=A1,J:=r,b:=b1,at_:=(-1,-1),failed:=f1}:HQ).A Qo b1 (GV 0)=(dA,0) from oO R U];refine M Z<|E (Aq Z Z)<|E (Aq Z Z)<|za Z<|V Z<|Q<|M Z<|ve (Ac i 1 (Ab YL Z (KR 0))) ?_;rintro i i ⟨i,r,r,rfl⟩;refine E (BO Z Z)<|M Z ?_;apply BU i true 3 true CK
 ·intro r r;refine wo<|M Z<|wo<|ve (Ac i 1 (Ab YL Z (KR 0))) ?_;rintro i i ⟨i,i,i,rfl⟩;refine wo<|E (BO Z Z) ?_;exact BV 3 r.D
 intro i i r;refine M Z ?_;apply BU i true 2 true CK
 ·intro i i;refine wo<|M Z<|wo<|E (YD Z Z) ?_;exact BV 2 i
 intro i i r;refine M Z ?_;apply BU i true 3 true CK
 ·intro r r;refine wo<|M Z<|wo ?_;refine ve (Ac i 1 (Ab tS Z (oP (q:=4) ⟨_,_,_,_,_,g.D⟩ Jk (by show b1.Ae.length≤_;omega) (by show b1.Ae.length*2=4;omega)))) ?_;rintro i i ⟨i,i,i,rfl⟩;refine wo<|E (BO Z Z) ?_;exact BV 3 r.D
 intro i i r;refine M Z ?_;apply BU i true 3 true CK
 ·intro r r;refine wo<|M Z<|wo ?_;refine ve (Ac i 1 (Ab wg Z (kk (q:=4) ⟨_,_,_,_,_,g.D⟩ Jk l o f.may (by show b1.Ae.length≤_;omega) a1))) ?_;rintro f f ⟨f,f,f,rfl⟩;refine wo<|E (BO Z Z) ?_;exact BV 3 r.D
 intro f f f;refine V Z<|Af Z Z ?_;exact⟨hO.D.below,Z⟩
def SA(liveQ:List Bool)(F:List (List Int))(S:List CV)(c:Nat→Nat)(w:World)(a:Int)(f vt:Value)(e:Int):Prop:=(e≠0∧Ix liveQ F S=none)∨(e=0∧∃(k:Nat) (x:CV) (i d:Nat) (at_:Int),Ix liveQ F S=some k∧S[k]?=some x∧d=(CE liveQ F liveQ.length).2.1∧(i:Int)=VJ x.Ad (CE liveQ F liveQ.length).1∧(F.getD d [])[0]?=some at_∧a=x.id∧Bu Cg c w [198,208] f [(i:Int)]∧Bu Bx c w [198,208] vt [((d:Int),at_)])
theorem SA.D{c:Nat→Nat}{w:World}{vt:Value}{K:Int}(h:SA x q C c w p y vt K)(m:Mv c w c' w' e:=by exact Go.Eng.KU)(hi:BB [198,208] e=true:=by rfl):SA x q C c' w' p y vt K:=by
 rcases h with h|⟨g,k,liveQ,i,d,at_,j,l,o,a,r,t,S,I⟩
 ·exact .inl h
 ·exact .inr ⟨g,k,liveQ,i,d,at_,j,l,o,a,r,t,S.D m hi,I.D m hi⟩
theorem dk{vF:Value}{liveQ:List Bool}(hs:z.ok)(a8:Rd DS w a C)(b9:Rd DW w y liveQ)(hF:Rd KQ w vF q)(e5:1≤liveQ.length∧liveQ.length≤12)(hl:q.length=liveQ.length)(c9:∀l∈q,oa l)(e4:∀x∈C,Dg z x=true)(e7:Ic C):
 Calls QP 58 #[.agg (DB z).toArray,a, .agg #[y,vF]] w (Bt fun u w'=>∃c',Mv c w c' w' []∧∃vS R vt e,u= .tuple #[.agg #[I vS,R,vt],I e]∧(R.oneCell'=true∧vt.oneCell'=true)∧SA liveQ q C c' w' vS R vt e):=by
 have f:=b9.AD;have f:=hF.AD;have f:=a8.AD;have f:=a8.small;have hO:=BE.start c w [];have J:=b9.mL (c:=c) [];have hf:=hF.mL (c:=c) [];have o:=a8.mL (c:=c) [];generalize Bw c []=c0 at hO J hf o;refine AY 112 #[.cell 6 61, .tmp 7] func58 Z<|Q<|Fa c0 103 fun w1 b3 c1 f AR=>?_;refine Fa c1 105 fun w2 b5 c2 f Bv=>?_;refine EK c2 106 MY fun f b6 f g g=>V Z<|Ag<|Q<|E (Ba CP Z AR.D.AE Z)<|ve (Ac f 1 (Ab YM Z (KP hs))) ?_;rintro f f ⟨f,j,j,rfl⟩;refine E (BL Z)<|M Z ?_;apply BU f false 3 false CK
 ·intro e1 b8;refine wo<|E (Ba IU Z Bv.D.AE Z)<|wo<|ve (Ac f 1 (Ab wX Z (jO J.D.AB hf.D.AB e5 hl c9))) ?_;rintro f f ⟨f,f,f,rfl⟩;refine wo<|E (BL Z) ?_;exact BV 3 b8.D
 intro f f f;refine Ah<|Fw Z<|As<|Ag<|Q<|M Z<|E (BN Di) ?_;refine M Z<|Ah<|An<|AG (σ:=Nat) (fun k=>[(1,a),(3,P1 b3),(5,P1 b5),(6,P1 b6),(7,I 0),(25,a),(26,I C.length),(27,I k)]) (fun k w'=>k≤C.length∧∃c',BE c w [] c' w'∧Bu DW c' w' [0] y liveQ∧Bu KQ c' w' [0] vF q∧Bu DS c' w' [0] a C∧AI c' w' 103 b3 (DB z) 29∧AI c' w' 105 b5 [y,vF] 67∧AI c' w' 106 b6 [I 0, .slice none 0 0, .slice none 0 0] 61) (fun k=>C.length-k) 0 AL ⟨Wm _,_,hO.D,J.D,hf.D,o.D,AR.D,Bv.D,g.D⟩ ?_;rintro k h1 ⟨O,a7,hO,J,hf,o,AR,Bv,g⟩;refine Q<|E (AX Z Z)<|Ah<|Ag<|BA Z (fun f=>?_) fun f=>?_
 ·have S:k<C.length:=G;obtain⟨u,f,r,c4,c5,c6⟩:=GK o S;have U:=e4 _ (mv S);obtain⟨x,hx⟩:∃x,x=C[k]:=⟨_,Z⟩;rw[←hx] at f r U c4 c5 c6;have e9:=r.AB.AD;have h0:=r.AB.AA;obtain⟨j,t,_⟩:=GK o (show k-1<C.length by omega);obtain⟨vL,hy⟩:∃vL,vL=C[k-1]:=⟨_,Z⟩;rw[←hy] at t;have j:k=0∨vL.id<x.id:=(Aa6 k).imp id fun j↦by rw[hx,hy];exact e7 (k-1) k G S G
  refine As<|Ag<|An<|Q<|M Z<|E (Cv Di) ?_;refine E (DT Cn Z f.DF Z)<|EK a7 109 HF fun f f p f j=>?_;refine za Z<|Av (Am Cn Z Z j Z Z Bg) ?_;rintro _ f ⟨j,f⟩;refine Ah<|Ag<|AM p [] [1,1,2,0,0,0,0,0,0,1,0,0,0,0,0,1,0,0,0] [0,1,2,3,4,5,6,7,8,9,10,11,12,13,14,15,16,17,18] fun f f f=>?_;refine vc Z f.kp (AR.D.kn CP Z Z)<|vc Z f.kp (j.D.kn Cn Z Z)<|Db Z (Ac p 1 (Ab lx Z (Vn hs r.D.AB))) ?_;rintro p p ⟨p,a1,a6,rfl⟩;refine f.Bl a1 fun f=>?_;rw[U];refine AN Z (BL Z)<|Bm Z Z ?_;apply Dc p false 13 _ f.kp Mq
  ·intro U U;refine Bm Z Z<|AN Z (CM Z Z)<|Bm Z Z ?_;apply Dc p true 9 (decide (x.id≤vL.id)) f.kp Mq
   ·intro e6 a1;have p:0<k:=G;refine AN Z (Aa Dy Z)<|vc Z f.kp (j.D.kb AF Z Z)<|Bm Z Z<|Bm Z Z<|AN Z (Gu Z Z Ai Ai)<|AN Z (Ky Di o.D Z Z G G) ?_;rw[show((k:Int)-1).toNat=k-1 by omega];refine AN Z (Bn Dy Z)<|vc Z f.kp (t.D.kf AF Z Z)<|AN Z (Gw Z Z) ?_;exact Dd 9 a1
   intro j j j;exact Dd 4 U.D
  intro j j j;refine AP ?_;refine Cz Z (fun j=>?_) fun j=>?_
  ·exact absurd j (by simp;omega)
  refine As<|cg<|E (Bc Z Z Ai Ai)<|M Z<|Ah ?_;exact⟨k+1,AL,⟨G,_,hO.D,J.D,hf.D,o.D,AR.D,Bv.D,g.D⟩,G⟩
 refine Az Z<|Q<|E (Ba IU Z Bv.AE Z)<|ve (Ac a7 1 (Ab wY Z (eO J.AB hf.AB hl G))) ?_;rintro j j ⟨c8,U,j,rfl⟩;obtain⟨t,b0⟩:=RI liveQ q liveQ.length;obtain⟨p,b1⟩:∃p,p=(CE liveQ q liveQ.length).1:=⟨_,Z⟩;obtain⟨j,b2⟩:∃j,j=(CE liveQ q liveQ.length).2.1:=⟨_,Z⟩;obtain⟨a6,e2⟩:∃a6,a6=(CE liveQ q liveQ.length).2.2:=⟨_,Z⟩;rw[←b1] at t;rw[←b2] at b0;rw[←b1,←b2,←e2];have e3:p<q.length:=G;have b7:j<q.length:=G;obtain⟨t,e0,b4⟩:=HR (hf.D U) e3;obtain⟨c7,c3,t⟩:=HR (hf.D U) b7;obtain⟨f1,U⟩:∃f1,f1=q[p]:=⟨_,Z⟩;obtain⟨f2,b0⟩:∃f2,f2=q[j]:=⟨_,Z⟩;have e8:FE q p=f1.length:=by rw[←Ji e3,U]
 have e3:FE q j=f2.length:=by rw[←Ji b7,b0]
 rw[←U] at b4;rw[←b0] at t;have U:Ix liveQ q C=if(!a6||decide ((f2.length:Int)-f1.length<2))=true then none else C.findIdx? (HT p j):=by rw[Ix,←b1,←b2,←e2,e8,e3]
 have a6:=b4.AB.AD;have a6:=t.AB.AD;have a6:=b4.AB.small;have a6:=t.AB.small;refine M Z<|E (Aq Z Z)<|E (Aq Z Z)<|E (Aq Z Z)<|za Z<|za Z<|V Z<|Ag<|Ag<|AM c8 [] [0,0,0,0,1,0,0,1,0,0,1,0,0,1,0,0,0,0] [0,1,2,3,4,5,6,7,8,9,10,11,12,13,14,15,16,17] fun a6 e2 f=>?_;have a6:=Bv;have e3:=g;refine Bm Z Z<|AN Z (BL Z)<|Bm Z Z ?_;apply Dc c8 false 14 (decide ((f2.length:Int)-f1.length<2)) f.kp Mq
 ·intro e6 a1;refine AN Z (Aa Cq Z)<|vc Z f.kp (a6.D.kb Ea Z Z)<|Bm Z Z<|AN Z (Cv FZ) ?_;refine vc Z f.kp (c3.D.ke BQ Z)<|AN Z (BN BM) ?_;refine AN Z (Aa Cq Z)<|vc Z f.kp (a6.D.kb Ea Z Z)<|Bm Z Z<|AN Z (Cv FZ) ?_;refine vc Z f.kp (e0.D.ke BQ Z)<|AN Z (BN BM) ?_;refine AN Z (Gu Z Z Ai Ai)<|AN Z (AX Z Z) ?_;exact Dd 14 a1
 intro a1 a1 c8;refine AP ?_;refine BA Z (fun a1=>?_) fun a1=>?_
 ·rw[zm (by simpa using a1)] at U;refine Q<|E (By (cells:=#[.int .i64 0, .slice none 0 0, .slice none 0 0]) Z Ao) ?_;refine Av (Am Hj Z Z g.D Z Z Bg) ?_;rintro _ a6 ⟨g,a6⟩;refine V Z<|DI Z (DZ Hj Z g.AE Z) (FD.tmp Z) ?_;exact⟨_,hO.D.D.out,_,_,_,_,Z,⟨Z,Z⟩, .inl ⟨by decide,U⟩⟩
 rw[ss (by simpa using a1)] at U;have a6:2≤f2.length:=by first|omega|(simp at a1<;>omega)
 have a1:=c3;have a6:=(Co ((t.D e2).D c8) (show 0<f2.length by omega) AO).1;refine As<|Ag<|Q<|M Z<|E (BN Di) ?_;refine M Z<|Ah<|An<|AG (σ:=Nat) (fun k=>[(5,P1 b5),(6,P1 b6),(7,I 0),(10,I p),(11,I j),(78,a),(79,I C.length),(80,I k)]) (fun k w'=>(k≤C.length∧∀x∈C.take k,HT p j x=false)∧∃c',BE c w [] c' w'∧Bu KQ c' w' [0] vF q∧Bu Cg c' w' [0] c7 f2∧DG c' w' [0] (Bz vF 1 j) [c7]∧DG c' w' [0] (Bz c7 1 0) [I f2[0]]∧Bu DS c' w' [0] a C∧AI c' w' 105 b5 [y,vF] 67∧AI c' w' 106 b6 [I 0, .slice none 0 0, .slice none 0 0] 61) (fun k=>C.length-k) 0 AL ⟨⟨Wm _,by simp⟩,_,hO.D,hf.D,t.D,a1.D,a6,o.D,Bv.D,g.D⟩ ?_;rintro k h1 ⟨⟨O,c7⟩,a7,hO,hf,t,a1,a6,o,Bv,g⟩;refine Q<|E (AX Z Z)<|Ah<|Ag<|BA Z (fun J=>?_) fun J=>?_
 ·have S:k<C.length:=G;obtain⟨u,J,r,c4,c5,c6⟩:=GK o S;obtain⟨x,hx⟩:∃x,x=C[k]:=⟨_,Z⟩;rw[←hx] at J r c4 c5 c6;have e9:=r.AB.AD;have h0:=r.AB.AA;refine As<|Ag<|An<|Q<|E (Cv Di) ?_;refine E (DT Cn Z J.DF Z)<|EK a7 114 HF fun J J a7 c3 J=>?_;refine Av (Am Cn Z Z J Z Z Bg) ?_;rintro _ b4 ⟨J,c5⟩;refine Ah<|Q<|E (Ba Cn Z J.AE Z)<|M Z<|ve (Ac a7 1 (Ab sd Z (tt (x:=x) r.D.AB))) ?_;rintro a7 a7 ⟨a7,c6,b4,rfl⟩;refine V Z<|Q<|M Z<|E (Dh Z Z)<|M Z ?_;apply BU a7 true 4 (decide (VJ x.Ad j<0)) CK
  ·intro e1 b8;refine wo<|E (Ba Cn Z J.D.AE Z)<|wo<|M Z<|wo<|ve (Ac a7 1 (Ab sd Z (tt (x:=x) r.D.AB))) ?_;rintro a7 a7 ⟨a7,a7,a7,rfl⟩;refine wo<|E (AX Z Z) ?_;exact BV 4 b8.D
  intro a7 b4 b8;refine Ah<|BA Z (fun c4=>?_) fun c4=>?_
  ·have a7:HT p j C[k]=true:=by rw[←hx,HT];simpa using c4
   rw[ha S a7 c7] at U;have c8:0≤VJ x.Ad p:=by rw[←hx,HT,kg] at a7;simpa using a7.1
   have e1:=od (l:=x.Ad) (d:=(p:Int));have c8:=((((r.D c3).D c5).D c6).D b8).AB.small;have r:=(c9 f2 (by rw[b0];exact mv b7)).2 f2[0] (mv _);obtain⟨i,hi⟩:∃i:Nat,(i:Int)=VJ x.Ad p:=⟨(VJ x.Ad p).toNat,G⟩;rw[←hi];refine Ag<|WC.mono (N:=(fun e w'=>∃(c':Nat→Nat) (R vt:Value),Sub [(4000000, .tuple #[]),(6,P1 b6),(7,I 0)] e∧BE c w [] c' w'∧AI c' w' 106 b6 [I x.id,R,vt] 61∧Bu Cg c' w' [198] R [(i:Int)]∧Bu Bx c' w' [208] vt [((j:Int),f2[0])])) ?_ ?_
   ·refine EB b4 [] [0,1,0,2,0,0,1,0,0,1,0,1,0,2,0,3,0] (.Au 0 (.Au 1 (.Au 2 (.Au 4 (.Au 5 (.Au 6 (.Au 7 (.Au 8 (.Au 9 (.Au 10 (.Au 11 (.Au 12 (.two 3 (.one 13 (.Au 14 (.one 15 (.Au 16 .nil)))) 13 (.one 3 (.Au 14 (.one 15 (.Au 16 .nil))))))))))))))))) fun r r f=>?_;refine Cd Z (Aa Dy Z)<|Cj Z Z Z f.kp (J.D.kb AF Z Z) Z<|Cd Z (Cf Z)<|Cd Z (Cf Z)<|Cd Z (Aa Cq Z)<|Cj Z Z Z f.kp (Bv.D.kb Ea Z Z) Z<|Cd Z (Cf Z)<|Cd Z (Cv FZ) ?_;refine Cj Z Z Z f.kp (a1.D.ke BQ Z) Z<|Cd Z (Cv BM) ?_;refine Cj Z Z Z f.kp (a6.D.ke AF Z) Z<|Cd Z (By (cells:=#[I j,I f2[0]]) Z Ao) ?_;refine Ck ?_ ?_
    ·refine EM Z (AH b4 198 BM Z Z Z Z Z) ?_;rintro _ r ⟨J,r,rfl,b8,c3⟩;refine f.Bl b8 fun f=>EZ Z (AH r 208 DL Z Z Z Z Z) ?_;rintro _ r ⟨r,b8,rfl,c5,b8⟩;refine f.Bl c5 fun f=>Cd Z (By (cells:=#[I x.id, .slice (some ⟨J,0,none⟩) 1 1, .slice (some ⟨r,0,none⟩) 1 1]) Z Ao) ?_;refine AV<|Bj Z Z Z (Am Hj Z Z g.D Z Z Bg) ?_;rintro _ c5 ⟨g,c5⟩;refine Cd Z (CG Z)<|Bs ?_;exact⟨_,_,_,AL,hO.D.D,g,(hb c3.D ⟨G,G⟩).D,(ZM b8.D ⟨⟨G,G⟩,G,G⟩).D⟩
    refine EM Z (AH b4 208 DL Z Z Z Z Z) ?_;rintro _ b4 ⟨r,b4,rfl,c5,b8⟩;refine f.Bl c5 fun f=>EZ Z (AH b4 198 BM Z Z Z Z Z) ?_;rintro _ b4 ⟨J,b4,rfl,b4,c3⟩;refine f.Bl b4 fun f=>Cd Z (By (cells:=#[I x.id, .slice (some ⟨J,0,none⟩) 1 1, .slice (some ⟨r,0,none⟩) 1 1]) Z Ao) ?_;refine AV<|Bj Z Z Z (Am Hj Z Z g.D Z Z Bg) ?_;rintro _ f ⟨g,f⟩;refine Cd Z (CG Z)<|Bs ?_;exact⟨_,_,_,AL,hO.D.D,g,(hb c3.D ⟨G,G⟩).D,(ZM b8.D ⟨⟨G,G⟩,G,G⟩).D⟩
   clear hO hf t a1 a6 o Bv g;rintro f f ⟨f,R,vt,J,hO,g,f,r⟩;refine DN J<|DI Z (DZ Hj Z g.AE Z) (FD.tmp Z) ?_;refine⟨_,hO.out,x.id,R,vt,0,Z,⟨f.AB.AD,r.AB.AD⟩, .inr ⟨Z,k,x,i,j,f2[0],U,by rw[hx];exact dd S,b2,by rw[←b1];exact hi,?_,Z,EA.more (EA.EO f hO) Z,EA.more (EA.EO r hO) Z⟩⟩;rw[hk,dd b7,Ada,←b0];exact dd _
  have a7:HT p j C[k]=false:=by rw[←hx,HT];simpa using c4
  refine As<|cg<|E (Bc Z Z Ai Ai)<|M Z<|Ah ?_;exact⟨k+1,AL,⟨⟨G,Ha c7 S a7⟩,_,hO.D,hf.D,t.D,a1.D,a6.D,o.D,Bv.D,g.D⟩,G⟩
 rw[gZ G c7] at U;refine Az Z<|Q<|E (By (cells:=#[.int .i64 0, .slice none 0 0, .slice none 0 0]) Z Ao) ?_;refine Av (Am Hj Z Z g Z Z Bg) ?_;rintro _ f ⟨g,f⟩;refine V Z<|DI Z (DZ Hj Z g.AE Z) (FD.tmp Z) ?_;exact⟨_,hO.D.D.out,_,_,_,_,Z,⟨Z,Z⟩, .inl ⟨by decide,U⟩⟩
theorem zo(k:Nat):(replicate k [St []]).flatten=(replicate k ([]:Tx)).map St:=by
 induction k with
 |zero=>rfl
 |succ k f=>rw[Abo,Abo,Abc,f];rfl
theorem OD{vF:Value}(hs:z.ok)(j:Bu DS c w e a C)(g:KD c w y vF x q)(p:1≤x.length∧x.length≤12)(hl:q.length=x.length)(i:∀l∈q,oa l)(o:∀liveQ∈C,Dg z liveQ=true)(r:Ic C):
 Calls QP 58 #[.agg (DB z).toArray,a, .agg #[y,vF]] w (Bt fun u w'=>∃c',Mv c w c' w' []∧∃vS f vt K,u= .tuple #[.agg #[I vS,f,vt],I K]∧(f.oneCell'=true∧vt.oneCell'=true)∧SA x q C c' w' vS f vt K):=
 dk (c:=c) hs j.AB (g.uK G).AB (g.tm G).AB p hl i o r
theorem dl{pa pj :Nat}{vG:Value}{P:HQ}(c2:DM c w k pa pj a y vG P)(hs:Small P.s)(b0:0<n∧n≤12)(h0:1024≤m∧m≤2048)(a1:GR n m P.A)(a6:P.n≤64)(hc:P.A.BC≤800000000)(c3:Ta n P.J)(U:Ek P.s P.b=true)(ht:P.b.De=[])(h5:P.b.Ae.length≤800)(h2:P.J.used+97≤32704):
 Calls QP 21 #[P1 k] w (Bt fun v w'=>∃c',Mv c w c' w' Hg∧∃c4 J' c5 f b6 e e6 e7 e5,DM c' w' k pa pj e6 e7 e5 {P with A:=c4,J:=J',b:=c5,failed:=f}∧RG n m P c4 J' c5∧v= .tuple #[.bool b6,I e]∧(oN n m P→zn n P c4 J' c5 f b6 e)):=by
 have hJ:=BE.start c w Hg;replace c2:=c2.Dt (K:=Hg);generalize g:Bw c Hg=c0 at hJ c2;obtain⟨g,g,g,g,g⟩:=id hs;have b5:=JF U;have h1:=(Jh ht).1 U;have e8:SX P.A:=a1.wf b0 ⟨G,h0.2⟩ G;have g:=c2;obtain⟨o,r,C,j⟩:=g;have h4:=j.s.AB.AD;have h6:=j.t.AB.AD;have h8:=j.g.AB.AD;have g:=DC n P.A;have b9:(EP n P).length=(Cu n P.A).length:=by rw[EP,Hb,g]
 have g:eA P.n (EP n P):=ML;refine AY 79 #[.tmp 2, .tmp 3] func21 Z<|Q<|za Z<|V Z<|Ag<|Q<|M Z<|ve (Ac c0 1 (Ab wq Z (Vw ⟨pa,pj,a,y,vG,⟨o,r,C,j⟩⟩))) ?_;rintro g w1 ⟨c1,g,g,rfl⟩;refine Ah<|BA Z (fun g=>?_) fun g=>?_
 ·refine Q<|za Z<|V Z<|BR Z Z Z ?_;exact⟨_,hJ.D.out,P.A,P.J,P.b,P.failed,false,10,a,y,vG,DM.out ⟨o.D,r.D,C.D,j.D⟩ hJ.D,RG.none a1 c3 U ht,Z,fun h=>by rw[h.f,h.j] at g;simp at g⟩
 refine As<|Ag<|WC.mono (N:=(fun c8 w'=>∃(c':Nat→Nat) (vS:Int) (R vt:Value) (e:Int) (b4:Nat),Sub [(4000000, .tuple #[]),(0,P1 k),(2, .bool false),(3,I 0),(4,P1 b4),(5,I e)] c8∧(R.oneCell'=true∧vt.oneCell'=true)∧SA (Cu n P.A) (EP n P) P.b.Ae c' w' vS R vt e∧BE c w Hg c' w'∧AI c' w' 90 k (Dq pa pj a y vG P) 101∧BW c' w' pa P.A∧Dz c' w' pj pa P.J∧eb c' w' [94] a y vG P.b∧AI c' w' 104 b4 [I vS,R,vt] 61)) ?_ ?_
 ·refine EB c1 [] [0,0,0,1,0,0,0,0,1,0,2,2,0,0,0,2,3,0] (.Au 0 (.Au 1 (.Au 2 (.Au 3 (.Au 4 (.Au 5 (.Au 6 (.Au 7 (.Au 8 (.Au 9 (.two 10 (.two 11 (.Au 12 (.Au 13 (.Au 14 (.one 15 (.one 16 (.Au 17 .nil)))))) 15 (.one 11 (.Au 12 (.Au 13 (.Au 14 (.one 16 (.Au 17 .nil))))))) 15 (.one 10 (.one 11 (.Au 12 (.Au 13 (.Au 14 (.one 16 (.Au 17 .nil)))))))))))))))))) fun w2 g g=>?_;refine Cd Z (Cf Z)<|Cd Z (Ak Z)<|Cd Z (Aa FR Z)<|Cj Z Z Z g.kp (fun W c7=>ES CP Z (o.D.kp c7 Z).AE (Aat Z)) Z<|Cd Z (Cf Z)<|Cd Z (Ak Z)<|Cd Z (Aa DK Z)<|Cd Z (Aa CA Z)<|Cj Z Z Z g.kp (o.D.kb Ei Z Z) Z<|Cd Z (Cf Z)<|Ck ?_ ?_
  ·refine EM Z (Ab pJ Z (No ⟨pa,pj,a,y,vG,⟨o.D,r.D,C.D,j.D⟩⟩ a1 b0.2 a6 G)) ?_;rintro e9 a7 ⟨e0,a8,⟨vL,vF,a7,rfl⟩⟩;refine g.Bl a8 fun g=>?_;have e3:=a7.kQ.AD;obtain⟨h3,c6,_⟩:=id a7.row;have e4:=c6.AD;have b7:KD _ _ vL vF (Cu n P.A) (EP n P):=a7;refine Ck ?_ ?_
   ·refine EM Z (Ab tW Z (OD hs.ok j.D.s b7 ⟨G,G⟩ b9 (fun l hl↦Lu a6 l hl) (fun x hx↦(IC U x hx).1) b5)) ?_;rintro c9 a8 ⟨e1,e2,⟨vS,R,vt,e,rfl,⟨b1,b3⟩,a8⟩⟩;refine g.Bl e2 fun g=>Cd Z (Cf Z)<|Cd Z (Aq Z Z)<|Cd Z (Aq Z Z)<|EZ Z (CB e1 104 MY) ?_;rintro _ e1 ⟨b4,e1,rfl,e1,Bd⟩;refine g.Bl e1 fun g=>AV<|Bj Z Z Z (Am Hj Z Z Bd Z Z Bg) ?_;rintro _ e1 ⟨Bd,e1⟩;refine Cd Z (CG Z)<|Bs ?_;exact⟨_,vS,R,vt,e,_,AL,⟨b1,b3⟩,a8.D,hJ.D,o.D,r.D,C.D,j.D,Bd⟩
   refine EM Z (CB e0 104 MY) ?_;rintro _ e0 ⟨b4,e0,rfl,e0,Bd⟩;refine g.Bl e0 fun g=>EZ Z (Ab tW Z (OD hs.ok j.D.s b7.D ⟨G,G⟩ b9 (fun l hl↦Lu a6 l hl) (fun x hx↦(IC U x hx).1) b5)) ?_;rintro c9 e0 ⟨e0,e0,⟨vS,R,vt,e,rfl,⟨b1,b3⟩,a8⟩⟩;refine g.Bl e0 fun g=>Cd Z (Cf Z)<|Cd Z (Aq Z Z)<|Cd Z (Aq Z Z)<|AV<|Bj Z Z Z (Am Hj Z Z Bd.D Z Z Bg) ?_;rintro _ e0 ⟨Bd,e0⟩;refine Cd Z (CG Z)<|Bs ?_;exact⟨_,vS,R,vt,e,_,AL,⟨b1,b3⟩,a8.D,hJ.D,o.D,r.D,C.D,j.D,Bd⟩
  refine EM Z (CB c1 104 MY) ?_;rintro _ e0 ⟨b4,e0,rfl,e0,Bd⟩;refine g.Bl e0 fun g=>EZ Z (Ab pJ Z (No ⟨pa,pj,a,y,vG,⟨o.D,r.D,C.D,j.D⟩⟩ a1 b0.2 a6 G)) ?_;rintro e9 e0 ⟨e0,e0,⟨vL,vF,a7,rfl⟩⟩;refine g.Bl e0 fun g=>?_;have e3:=a7.kQ.AD;obtain⟨h3,c6,_⟩:=id a7.row;have e4:=c6.AD;have b7:KD _ _ vL vF (Cu n P.A) (EP n P):=a7;refine EZ Z (Ab tW Z (OD hs.ok j.D.s b7 ⟨G,G⟩ b9 (fun l hl↦Lu a6 l hl) (fun x hx↦(IC U x hx).1) b5)) ?_;rintro c9 a7 ⟨a7,a7,⟨vS,R,vt,e,rfl,⟨b1,b3⟩,a8⟩⟩;refine g.Bl a7 fun g=>Cd Z (Cf Z)<|Cd Z (Aq Z Z)<|Cd Z (Aq Z Z)<|AV<|Bj Z Z Z (Am Hj Z Z Bd.D Z Z Bg) ?_;rintro _ a7 ⟨Bd,a7⟩;refine Cd Z (CG Z)<|Bs ?_;exact⟨_,vS,R,vt,e,_,AL,⟨b1,b3⟩,a8.D,hJ.D,o.D,r.D,C.D,j.D,Bd⟩
 clear hJ o r C j;rintro c8 a7 ⟨b9,vS,R,vt,e,b4,a7,⟨b1,b3⟩,a8,hJ,o,r,C,j,Bd⟩;refine DN a7<|Ag<|Q<|M Z<|E (BK Z Z)<|Ah<|BA Z (fun a7=>?_) fun a7=>?_
 ·refine Q<|za Z<|V Z<|BR Z Z Z ?_;exact⟨_,hJ.out,P.A,P.J,P.b,P.failed,false,0,a,y,vG,DM.out ⟨o,r,C,j⟩ hJ,RG.none a1 c3 U ht,Z,fun _=>⟨Z, .inl ⟨Z,Z,Z,Z,Z⟩⟩⟩
 obtain⟨b3,_⟩|⟨a7,p,x,i,b7,b1,c6,g2,c8,a7,c9,rfl,e4,h7⟩:=a8
 case inl=>exact absurd G b3
 obtain⟨b3,a8⟩:∃b3,b3=(CE (Cu n P.A) (EP n P) (Cu n P.A).length).1:=⟨_,Z⟩;rw[←a8] at a7;have e0:kh n P p i b3 b7 x b1:=⟨c6,g2,c8,a8,a7,c9⟩;obtain⟨f1,f2,f3,f4,f5,f6,f7⟩:=e0.facts a6 b0;have a8:=RJ h1.eN g2;have a7:p<P.b.Ae.length:=(kJ.1 g2).1;have c8:x=P.b.Ae[p]:=(kJ.1 g2).2.symm;have e2:Dg P.s x=true:=(IC U x (Lx g2)).1;have c6:=(CI e2).2.2.2.2.1;obtain⟨u,e3,hu,c6⟩:=GK j.s a7;rw[←c8] at e3 hu c6;have a7:=hu.AB.AD;have a7:=hu.AB.AA;have a7:=e4.AB.AD;have a7:=(Co e4 (show 0<[(i:Int)].length by simp) AO).1;have e1:=a7;rw[show[(i:Int)][0]=(i:Int) from Z] at a7 e1;refine As<|Ag<|AM b9 [] [0,0,0,1,0,1,2,0,0,0,0,0] [0,1,2,3,4,5,6,7,8,9,10,11] fun c6 c6 g=>?_;have c9:=o;have c8:=Bd;have e9:=a7;have h3:=e1;refine Bm Z Z<|AN Z (Ak Z)<|AN Z (Aa DK Z)<|vc Z g.kp (fun W c7=>ES Fy Z (c9.D.kp c7 Z).AE (Aat Z))<|AN Z (Aa fJ Z)<|vc Z g.kp (c8.D.kb AF Z Z)<|Db Z (Ac b9 1 (Ab ls Z (Lq (n:=P.b.next) (d:=x.id) j.D.s.AB h4 h6 h8 b5))) ?_;rintro b9 b9 ⟨c7,b9,h4,rfl⟩;refine g.Bl b9 fun g=>?_;rw[a8,Iw b5 a8];refine Bm Z Z<|AN Z (Aq Z Z)<|AN Z (Aq Z Z)<|Ir Z Z<|Ir Z Z<|AP ?_;refine Q<|M Z<|E (Ak Z)<|E (Aa DK Z)<|E (Aa CA Z)<|E (Al Ei Z o.D.AE Z)<|M Z<|E (BJ Di j.D.s.AB Z Z Z G G) ?_;refine E (DT Cn Z e3.D.DF Z)<|EK c7 108 HF fun a8 b8 b5 c7 a8=>?_;refine Av (Am Cn Z Z a8 Z Z Bg) ?_;rintro _ c8 ⟨a8,c8⟩;refine Ah<|Ag<|AM b5 [] [0,1,0,1,0,1,2,0,0,0,0,0] [0,1,2,3,4,5,6,7,8,9,10,11] fun c9 c9 g=>?_;refine Bm Z Z<|vc Z g.kp (a8.D.kn Cn Z Z)<|AN Z (Aa MX Z)<|vc Z g.kp (Bd.D.kb BQ Z Z)<|AN Z (Cv BM) ?_;refine vc Z g.kp (a7.D.ke AF Z)<|Db Z (Ac b5 1 (Ab tX Z (ZA (P:=P) (x:=x) (i:=i) ⟨pa,pj,a,y,vG,⟨o.D,r.D,C.D,j.D⟩⟩ hs.ok a1 e8 hu.D.AB e2 G))) ?_;rintro a7 a7 ⟨a7,b5,e3,rfl⟩;refine g.Bl b5 fun g=>Bm Z Z<|AN Z (Aq Z Z)<|AN Z (Aq Z Z)<|Ir Z Z<|Ir Z Z<|AP ?_;refine Ag<|Q<|M Z<|E (BL Z)<|Ah<|BA Z (fun g=>?_) fun g=>?_
 ·refine Q<|za Z<|V Z<|BR Z Z Z ?_;exact⟨_,hJ.D.out,P.A,P.J,P.b,P.failed,false,0,a,y,vG,DM.out ⟨o.D,r.D,C.D,j.D⟩ hJ.D,RG.none a1 c3 U ht,Z,fun _=>⟨Z, .inl ⟨Z,Z,Z,Z,Z⟩⟩⟩
 have e9:(Dp P.A P.s x i).2=true:=by simpa using g
 have g:=((((((hu.D c6).D b9).D c7).D c8).D c9).D b5).AB.small;obtain⟨t,e3⟩:∃t,t=(Dp P.A P.s x i).1:=⟨_,Z⟩;rw[←e3];have h6:t.length=P.s.size:=by rw[e3];exact XP e9
 refine As<|Q<|E (Aa Cl Z)<|E (Al CH Z a8.D.AE Z)<|E (BN DL) ?_;refine ve (GD a7 155 Ch Z Z Ai Ai Ai) ?_;rintro h8 g ⟨g,e8,a7⟩;rw[zo,TJ] at a7;refine V Z<|Q<|M Z<|E (Aa MX Z)<|E (Al BQ Z Bd.D.AE Z)<|E (Cv BM) ?_;refine E (Cc AF Z e1.D.DF)<|M Z<|E (BS Ch a7 Z Z G G) ?_;refine Av (MU CQ a7 Ai Z Z ra ra) ?_;rintro _ g ⟨a7,e1⟩;refine Ah<|Q<|M Z<|E (Ba Cn Z a8.D.AE Z)<|E (Ba Hj Z Bd.D.AE Z)<|M Z ?_;have g:(((replicate x.Ad.length ([]:Tx)).map St).set i (St t))=((replicate x.Ad.length ([]:Tx)).set i t).map St:=(Ab0 ..).symm;rw[TJ,g] at a7;obtain⟨g,hO⟩:∃g,g=(replicate x.Ad.length ([]:Tx)).set i t:=⟨_,Z⟩;rw[←hO] at a7;have h3:g.length=x.Ad.length:=by rw[hO,Yy,Iz]
 have a8:g.getD i []=t:=by rw[hO,hk,Acv (by rw[Iz];omega)];rfl
 have h4:=a7.dz (m:=g.length) h3.symm;have a7:Bu DQ _ _ [155,198,208] h8 g:=EA.more (Im h4 G (fun vT hy=>by
  rw[hO] at hy;rcases Aa4 hy with h|h
  ·rw[Ack h];simp
  rw[h];omega)) Z
 have h3:Bu Cg _ _ [155,198,208] R [(i:Int)]:=EA.more ((((((((e4.D c6).D b9).D c7).D c8).D c9).D b5).D e8).D e1).D Z;have R:Bu Bx _ _ [155,198,208] vt [((b7:Int),b1)]:=EA.more ((((((((h7.D c6).D b9).D c7).D c8).D c9).D b5).D e8).D e1).D Z;refine ve (Ab aac Z (ff (P:=P) (K:=[155,198,208]) (Ojq:=g) (i:=i) (q:=((b7:Int),b1)) ⟨o.D,r.D,C.D,j.D⟩ hs b0 h0 a1 hc c3 U ht h5 h2 hu.D h3 R a7 Z e2 f3.1 f5.1 f4 ⟨G,by rw[a8];exact h6⟩)) ?_;rintro g g ⟨g,g,⟨A2,g,b2,o,b6,j,e6,e7,e5,R,C,rfl,r⟩⟩;refine E (Aq Z Z)<|E (Aq Z Z)<|za Z<|V Z<|BR Z Z Z<|⟨_,hJ.D.out,A2,g,b2,o,b6,j,e6,e7,e5,R.out hJ.D,C,Z,fun h=>?_⟩;have g:=r (e0.mov a6 b0 h1 ht h).2;rw[a8,e3] at g;exact⟨g.e.1, .inr ⟨g.e.2.1,p,i,b3,b7,x,b1,e0,e9,g⟩⟩
theorem fh:((HS life).drop 8).take 8=be 8 (life:Int):=by
 have e:HS life=[115,105,108,111,32,108,111,103]++(be 8 (life:Int)++(be 8 ((TA (jH life):Nat):Int)++replicate 40 0)):=by simp[HS,jH,oo]
 rw[e,Ii (n:=8) (a:=[115,105,108,111,32,108,111,103]) Z,GU (Be _ _)]
theorem kl{j:Jl}{d s:Int}(U:Dz c w k m j)(f:BW c w m F)(C:SX F)(hl:1≤life∧life≤4611686018427387904)(r:Bp F d s=(HS life,0)):Calls QP 148 #[P1 k,I d,I s] w (Bt fun u w'=>AZ w w'∧u= .tuple #[I life,I 0]):=by
 obtain⟨g,vl,cs,i,hh,g⟩:=U;have g:=DD.start c w Dw;replace i:=i.Dt (J:=Dw) Z;replace f:=f.Mz (K:=Dw);have t:=Qe life;have R:Bi (be 8 (life:Int))=life:=GS G;generalize Bw c Dw=c0 at g i f;refine AY 37 #[.tmp 6, .tmp 7] func148 Z<|Q<|za Z<|V Z<|Q<|M Z<|E (Ak Z)<|E (Aa IV Z)<|E (Al LK Z i.AE Z)<|M Z<|M Z<|ve (Ac c0 1 (Ab fO Z (Ri (d:=d) (s:=s) f C))) ?_;rintro l w1 ⟨c1,l,o,rfl⟩;rw[show(Bp F d s).1=HS life by rw[r],show(Bp F d s).2=0 by rw[r]];refine M Z<|E (Aq Z Z)<|E (Aq Z Z)<|za Z<|V Z<|Ag<|Q<|M Z<|E (BK Z Z)<|Ah<|Cz Z (fun o=>?_) fun o=>?_
 ·exact absurd o AO
 refine As<|Q<|M Z<|E (Ip underlying9 Z Z Z G G (by rw[t];omega)) ?_;rw[show List.take ((16:Int).toNat-(8:Int).toNat) (List.drop (8:Int).toNat (HS life))=be 8 (life:Int) from fh];refine ve (Ac c1 1 (Ab KE Z (KY (be 8 (life:Int)) (by rw[Be];omega)))) ?_;rintro o w2 ⟨c2,o,t,rfl⟩;rw[R];refine E (EY underlying278 underlying3 Z G G)<|V Z<|Ag<|Q<|M Z<|E (AX Z Z)<|M Z ?_;replace g:=(g.D l).D o;replace i:=(i.D l).D o;replace f:=(f.D l).D o;apply TT false 4 (fun x w'=>x=false∧∃c',DD c w Dw c' w') CK ((fun h=>absurd h (by simp;omega)))
 ·intro i;refine wo<|M Z<|wo<|ve (Ac c2 1 (Ab lC Z (Yl (life:=life) G))) ?_;rintro i i ⟨i,i,i,rfl⟩;refine wo<|M Z<|wo<|E (tJ Z Z) ?_;exact Et ⟨_,Z,Sub.drop _ 4 _ Z Z,⟨by simp,_,g.D⟩⟩
 rintro x i ⟨rfl,i,g⟩;refine Ah<|Cz Z (fun i=>?_) fun i=>?_
 ·exact absurd i (by simp;omega)
 refine As<|Q<|M Z<|za Z<|V Z<|BR Z Z Z ?_;exact⟨g.below,Z⟩
theorem _root_.Go.Eng.DD.nA{c0 c:Nat→Nat}{w0 w:World}{J:List Nat}(h:DD c0 w0 J c w):Mv (Bw c0 J) w0 c w []:=⟨h.below.os,h.below.tape,h.below.output,h.below.size,h.BF,fun k O _=>h.below.block k O⟩
theorem _root_.Go.Eng.Oo.Bq{w0 w:World}{i b:Nat}{c c':Nat→Nat}{l:List UInt8}(h:Oo w0 i c w b l)(hc:∀k,w0.heap.size≤k→c' k=c k):Oo w0 i c' w b l:=by
 refine⟨h.is,?_,fun q v hv k O=>?_⟩
 ·have:w0.heap.size≤b:=by rcases h.is with⟨h,_⟩|⟨h,_⟩<;>exact h
  rw[hc b this];exact h.BF
 have one:∀f,Go.Lib.BuilderAtF 229 5 w0.heap.size b f (Go.Lib.byteCells l) w→w0.heap.size≤k:=by
  rintro f ⟨J,v',j,o,R⟩;rw[j] at hv;injection hv with hv;injection hv with hv;have:v'=v:=(by simpa using hv:f=q∧v'=v).2;subst this;obtain⟨_,p⟩:=o;rcases p with⟨rfl,_⟩|⟨g,cap,C,I,rfl,r,U,_⟩
  ·cases O
  injection O with O;subst O;exact r
 have t:w0.heap.size≤k:=by rcases h.is with h|h<;>exact one _ h
 rw[hc k t];exact h.row q v hv k O
theorem dm{c0:Nat→Nat}{w:World}{J:List Nat}(hO:CD h c w)(w0:Oo h i c w k s):∃c',DD c0 h J c' w∧Oo h i c' w k s:=
 ⟨fun b=>if b<h.heap.size then Bw c0 J b else c b,⟨hO.below,fun b O=>zm O⟩,w0.Bq fun b O=>ss G⟩
theorem fi{w:World}{l:List UInt8}(o:DD j h e c w)(w0:Oo h i c w k l)(hl:l.length+s.length≤1099511627776):Calls QP 144 #[P1 k,St s] w (Bt fun u w'=>u= .tuple #[I s.length, .nilIface]∧∃c',DD j h e c' w'∧Oo h i c' w' k (l++s)):=by
 have hO:CD h (fun b=>if b<h.heap.size then 0 else c b) w:=⟨o.below,fun b O=>zm O⟩;refine(XH hO (w0.Bq fun b O=>ss G) hl).mono fun J w' p=>?_;obtain⟨u,rfl,f,c',g,c0⟩:=p;exact⟨u,Z,f,dm g c0⟩
theorem dn{w:World}(f:DD j h e c w)(w0:Oo h i c w k s):Calls QP 146 #[P1 k] w (Bt fun u w'=>u=St s∧AZ h w'):=by
 have hO:CD h (fun b=>if b<h.heap.size then 0 else c b) w:=⟨f.below,fun b O=>zm O⟩;exact Vk hO (w0.Bq fun b O=>ss G)
theorem dp{C:Nat→Tx}{n:Nat}(hC:∀i,i<n→(C i).length=64):∀i,i≤n→((List.range i).flatMap C).length=64*i
 |0,_=>rfl
 |i+1,h=>by
  rw[Abf,Aan,ft,dp hC i G];simp only[Aaa,Afx,Aaz,hC i G];omega
theorem ko{d:Nat}{j:Jl}{hv:Int}{C:Nat→Tx}(U:Dz c w k m j)(o:BW c w m F)(b3:SX F)(hd:d<j.half.length)(b8:j.half.length≤12)(a7:j.half[d]?=some hv)(b9:0≤hv∧hv≤1)(hC:∀i,i<511→(C i).length=64∧Bp F d (512*hv+1+(i:Nat))=(C i,0)):
 Calls QP 150 #[P1 k,I d] w (Bt fun u w'=>AZ w w'∧u= .tuple #[St ((List.range 511).flatMap C),I 0]):=by
 have f:=DD.start c w Dw;replace U:=U.Dt (K:=Dw);replace o:=o.Mz (K:=Dw);generalize a6:Bw c Dw=c0 at f U o;obtain⟨g,vl,cs,t,hh,g⟩:=U;have b1:=dp (C:=C) (n:=511) fun i hi=>(hC i hi).1;have g:j.half[d]=hv:=by rw[dd hd] at a7;injection a7
 have R:=hh.XF hd;rw[g] at R;have b5:=t;have b2:=o;have b7:=hh;have b0:=R;refine AY 39 #[.tmp 4, .tmp 5] func150 Z<|Q<|za Z<|V Z<|Q<|EK c0 106 ga fun w1 b6 c1 g r=>?_;refine Ah<|Ag<|Ag ?_;replace f:=f.D g;have a8:w.heap.size≤b6:=by
  rcases Aab b6 w.heap.size with h|h
  ·have g:=f.D.BF _ h;rw[r.BF] at g;unfold Bw at g;split at g
   ·rename_i a1;rw[←g] at a1;cases a1
   cases g
  exact h
 obtain⟨g,a1,g⟩:=uD (i:=103) (l:=[]) (.inl ⟨a8,_,r.AE,⟨Z, .inl ⟨Z,Z⟩⟩,fun e=>by cases e⟩) f.D.below;obtain⟨a8,f,g⟩:=dm (c0:=c) (J:=Dw) a1 g;refine cg<|V Z<|An<|AG (σ:=Nat) (fun q=>[(0,P1 k),(1,I d),(6,P1 b6),(7,I ((q+1:Nat):Int))]) (fun q w'=>q≤511∧∃c',DD c w Dw c' w'∧Oo w 103 c' w' b6 ((List.range q).flatMap C)) (fun q=>511-q) 0 AL ⟨Wm _,_,f,g⟩ ?_;rintro q r ⟨b4,a1,f,g⟩;have r:=f.nA;rw[a6] at r;have t:=b5.D r;have o:=b2.D r;have hh:=b7.D r;have R:=b0.D r;refine Ag<|Q<|M Z<|E (AX Z Z)<|Ah<|BA Z (fun r=>?_) fun r=>?_
 ·have r:q<511:=G;obtain⟨b0,a6⟩:=hC q r;refine As<|Ag<|An<|Ag<|AM a1 [] [0,0,0,1,0,0,0,0,1,0,0,1,2,0,0,2,0,0,0,0,0] [0,1,2,3,4,5,6,7,8,9,10,11,13,12,14,15,16,17,18,19,20] fun w2 r r=>?_;refine Bm Z Z<|AN Z (Ak Z)<|AN Z (Aa IV Z)<|vc Z r.kp (t.D.kb LK Z Z)<|Bm Z Z<|Bm Z Z<|AN Z (Ak Z)<|AN Z (Aa Le Z)<|vc Z r.kp (t.D.kb BQ Z Z)<|Bm Z Z<|AN Z (BS BM hh.D Z Z G G)<|vc Z r.kp (R.D.ke AF Z)<|Bm Z Z ?_;refine Db Z (Ac a1 1 (Ab ay Z (MB (n:=hv) G))) ?_;rintro a1 a1 ⟨a1,b2,b5,rfl⟩;refine r.Bl b2 fun r=>AN Z (Bc Z Z G G) ?_;rw[show(512*hv+((q+1:Nat):Int))=512*hv+1+(q:Nat) by omega];refine Db Z (Ac a1 1 (Ab fO Z (Ri (d:=((d:Nat):Int)) (s:=512*hv+1+(q:Nat)) o.D b3))) ?_;rintro v30 a1 ⟨a1,a1,b2,rfl⟩;refine r.Bl a1 fun r=>?_;rw[show(Bp F d (512*hv+1+(q:Nat))).1=C q by rw[a6],show(Bp F d (512*hv+1+(q:Nat))).2=0 by rw[a6]];refine Bm Z Z<|AN Z (Aq Z Z)<|AN Z (Aq Z Z)<|Ir Z Z<|Ir Z Z<|AP ?_;refine Ag<|Q<|M Z<|E (BK Z Z)<|Ah<|Cz Z (fun r=>?_) fun r=>?_
  ·exact absurd r AO
  refine As<|cg<|M Z ?_;refine ve (Ab sk Z (fi (l:=(List.range q).flatMap C) (s:=C q) f.D g.D (by rw[b1 q b4,b0];omega))) ?_;rintro _ a6 ⟨rfl,a8,r,a1⟩;have f:=r;have g:=a1;refine Ah<|cg<|M Z<|E (Bc Z Z Ai Ai)<|V Z ?_;exact⟨q+1,AL,⟨G,_,f,by rw[Abf,Aan,show[q].flatMap C=C q by simp];exact g⟩,G⟩
 have e:q=511:=G;subst e;refine Az Z<|Q<|ve (Ab sm Z (dn f g)) ?_;rintro _ a6 ⟨rfl,f⟩;refine za Z<|V Z<|BR Z Z Z ?_;exact⟨f,Z⟩
theorem Wg(f:Gt w k [St s, .bool B] 398)(n:Int)(o:0≤n)(hs:s.length≤140737488355328):
 Calls QP 326 #[.pointer (some ⟨k,0,none⟩),I n] w (Bt fun v w'=>w.grownBy w' (some k)∧v=St (Kq s B n)∧Gt w' k [St (Mj s B n), .bool (CZ s B n)] 398):=by
 have hg:w.grownBy w (some k):=MR _ _;refine AY 38 #[.tmp 4] func326 Z<|Q<|V Z<|Ag<|Q<|M Z<|E (Ak Z)<|E (Aa NT Z)<|E (Al IW Z f Z)<|M Z ?_;apply AW false 7 _ CK
 ·intro r;refine wo<|M Z<|wo<|M Z<|wo<|E (Ak Z)<|wo<|E (Aa NS Z)<|wo<|E (Al CQ Z f Z)<|wo<|E (Ey underlying9 Z)<|wo<|E (CM Z Z) ?_;exact EQ 7
 refine Ah<|GO Z (fun g=>?_) fun g=>?_
 ·refine Q<|M Z<|E (Ak Z)<|E (Aa NT Z) ?_;refine Av (FN IW Z Z ra ra f Z) ?_;intro _ w1 i;replace f:=i.AE;replace hg:=i.grown;refine Ah<|Q<|V Z<|Af Z Z ?_;have e:CZ s B n=true:=g;refine⟨hg,by rw[Kq,e];rfl,?_⟩;rw[Mj,e];exact f
 refine As<|Ag ?_;have e:CZ s B n=false:=g;have p:n≤s.length:=by
  simp only[CZ,Aa1,Aay] at e;omega
 have l:B=false:=by
  simp only[CZ,Aa1] at e;exact e.1
 refine cg<|M Z<|E (Ak Z)<|E (Aa NS Z)<|E (Al CQ Z f Z)<|M Z<|E (IN underlying9 Z Z Ai Ai)<|V Z ?_;refine Q<|M Z<|M Z<|E (Ak Z)<|E (Aa NS Z)<|E (Al CQ Z f Z)<|M Z<|E (GB underlying9 Z Z Ai Ai) ?_;refine E (Ak Z)<|E (Aa NS Z)<|Av (FN CQ Z Z ra ra f Z) ?_;intro _ w2 j;replace f:=j.AE;replace hg:=j.grown;refine Ah<|Q<|M Z<|V Z<|Af Z Z ?_;refine⟨hg,by rw[Kq,e];rfl,?_⟩;subst l;rw[Mj,e];exact f
theorem Iy(j:Gt w k [St s, .bool B] 398)(n:Int)(i:0≤n)(o:n≤7)(hs:s.length≤140737488355328):
 Calls QP 325 #[.pointer (some ⟨k,0,none⟩),I n] w (Bt fun v w'=>w.grownBy w' (some k)∧v=I (minus (Bi (Kq s B n)))∧Gt w' k [St (Mj s B n), .bool (CZ s B n)] 398):=by
 have hl:=Zb s B n;have p:=HV (Kq s B n);have hp:256^(Kq s B n).length≤256^7:=Acm AO G;refine AY 14 #[.tmp 4] func325 Z<|Q<|V Z<|Q<|M Z<|M Z<|ve (Ab lH Z (Wg j n i hs)) ?_;rintro _ w1 ⟨hg,rfl,f⟩;refine ve (Ab KE Z (It _ G)) ?_;rintro _ w2 ⟨g,rfl⟩;replace f:=f.up g;replace hg:=Kc hg (.inl Z) (Lb g _);refine V Z<|Ag<|Q<|M Z<|E (BO Z Z)<|Ah<|BA Z (fun l=>?_) fun l=>?_
 ·refine Q<|V Z ?_;refine Af Z Z ?_;exact⟨hg,by rw[minus,zm G],f⟩
 refine As<|Q<|M Z<|E (EY underlying278 underlying3 Z G G)<|V Z ?_;refine Af Z Z ?_;exact⟨hg,by rw[minus,ss G],f⟩
def Rel(o:Option (Rec×List UInt8))(s:List UInt8)(bad:Bool)(p:Rec):Prop:=(bad=true∧o=none)∨(bad=false∧o=some (p,s))
theorem Lw(s:List UInt8)(n:Nat):(CZ s false n=true∧Gp n s=none)∨(CZ s false n=false∧Gp n s=some (Kq s false n,Mj s false n)∧n≤s.length∧(Mj s false n).length+n=s.length):=by
 unfold Kq Mj Gp;rcases Aab s.length n with h|h
 ·have e:CZ s false n=true:=by simp[CZ];omega
  exact .inl ⟨e,by rw[ss G]⟩
 have e:CZ s false n=false:=by simp[CZ];omega
 refine .inr ⟨e,by rw[zm h,e];rfl,h,?_⟩;rw[e];simp;omega
theorem ZT(φ:Nat→Int)(s:List UInt8):(CZ s false 4=true∧Kh φ s=none)∨(CZ s false 4=false∧Kh φ s=some (φ (Bi (Kq s false 4)),Mj s false 4)∧(Mj s false 4).length+4=s.length):=by
 unfold Kh;rcases Lw s 4 with⟨f,g⟩|⟨f,g,_,i⟩
 ·exact .inl ⟨f,by rw[g];rfl⟩
 ·exact .inr ⟨f,by rw[g];rfl,i⟩
theorem vr{φ:Nat→Int}{p:Rec}(h:Rel J s B p):Rel (J.bind (BT φ 105)) (Mj s B 4) (CZ s B 4) {p with id:=φ (Bi (Kq s B 4))}:=by
 rcases h with⟨rfl,rfl⟩|⟨rfl,rfl⟩
 ·exact .inl ⟨Z,Z⟩
 ·rcases ZT φ s with⟨f,g⟩|⟨f,g,_⟩
  ·exact .inl ⟨f,by simp[BT,g]⟩
  ·exact .inr ⟨f,by simp[BT,g]⟩
theorem rA{φ:Nat→Int}{p:Rec}(h:Rel J s B p):Rel (J.bind (BT φ 100)) (Mj s B 32) (CZ s B 32) {p with AK:=Kq s B 32}:=by
 rcases h with⟨rfl,rfl⟩|⟨rfl,rfl⟩
 ·exact .inl ⟨Z,Z⟩
 ·rcases Lw s 32 with⟨f,g⟩|⟨f,g,_⟩
  ·exact .inl ⟨f,by simp[BT,g]⟩
  ·exact .inr ⟨f,by simp only[Aa5,BT,g,Aa7];rfl⟩
theorem oQ{φ:Nat→Int}{p:Rec}(h:Rel J s B p):
 Rel (J.bind (BT φ 110)) (Mj (Mj s B 1) (CZ s B 1) (Bi (Kq s B 1))) (CZ (Mj s B 1) (CZ s B 1) (Bi (Kq s B 1))) {p with name:=Kq (Mj s B 1) (CZ s B 1) (Bi (Kq s B 1))}:=by
 rcases h with⟨rfl,rfl⟩|⟨rfl,rfl⟩
 ·exact .inl ⟨Z,Z⟩
 ·rcases Lw s 1 with⟨f,i⟩|⟨f,i,_⟩
  ·have g:CZ s false 1=true:=f;exact .inl ⟨by rw[g];rfl,by simp[BT,i]⟩
  ·have g:CZ s false 1=false:=f;have r:Gp 1 s=some (Kq s false 1,Mj s false 1):=i;rw[g];rcases Lw (Mj s false 1) (Bi (Kq s false 1)) with⟨j,l⟩|⟨j,l,_⟩
   ·exact .inl ⟨j,by simp[BT,r,l]⟩
   ·exact .inr ⟨j,by simp[BT,r,l]⟩
def LJ(φ:Nat→Int)(T:Option (Rec×List UInt8))(N:Nat)(s:List UInt8)(bad:Bool)(p:Rec):Prop:=
 (bad=true∧T=none)∨(bad=false∧T=(Jo φ N s).map fun z=>({p with list:=p.list++z.1},z.2))
theorem rB{φ:Nat→Int}{p:Rec}(h:Rel J s B p):LJ φ (J.bind (BT φ 108)) (Bi (Kq s B 4)) (Mj s B 4) (CZ s B 4) p:=by
 rcases h with⟨rfl,rfl⟩|⟨rfl,rfl⟩
 ·exact .inl ⟨Z,Z⟩
 ·rcases Lw s 4 with⟨f,g⟩|⟨f,g,_⟩
  ·exact .inl ⟨f,by simp[BT,g]⟩
  ·exact .inr ⟨f,by simp only[Aa5,BT,g];rfl⟩
theorem rC{φ:Nat→Int}{p:Rec}(h:LJ φ J (k+1) s false p):
 LJ φ J k (Mj s false 4) (CZ s false 4) {p with list:=p.list++[φ (Bi (Kq s false 4))]}:=by
 rcases h with⟨h,_⟩|⟨_,h⟩
 ·cases h
 rcases ZT φ s with⟨f,g⟩|⟨f,g,_⟩
 ·exact .inl ⟨f,by rw[h];simp[Jo,g]⟩
 refine .inr ⟨f,?_⟩;rw[h];simp only[Jo,g,Aa5,Option.map_map];congr 1;funext z;simp
theorem rD{φ:Nat→Int}{p:Rec}(h:LJ φ J k s B p)(g:B=false→k=0):Rel J s B p:=by
 rcases h with⟨h,f⟩|⟨h,f⟩
 ·exact .inl ⟨h,f⟩
 refine .inr ⟨h,?_⟩;rw[f,g h];simp[Jo]
def SJ(φ:Nat→Int)(T:Option (Rec×List UInt8))(N:Nat)(s:List UInt8)(bad:Bool)(p:Rec):Prop:=
 (bad=true∧T=none)∨(bad=false∧T=(Gq φ minus N s).map fun z=>({p with Bo:=p.Bo++z.1},z.2))
theorem rE{φ:Nat→Int}{p:Rec}(h:Rel J s B p):SJ φ (J.bind (BT φ 115)) (Bi (Kq s B 1)) (Mj s B 1) (CZ s B 1) p:=by
 rcases h with⟨rfl,rfl⟩|⟨rfl,rfl⟩
 ·exact .inl ⟨Z,Z⟩
 ·rcases Lw s 1 with⟨f,g⟩|⟨f,g,_⟩
  ·exact .inl ⟨f,by simp[BT,g]⟩
  ·exact .inr ⟨f,by simp only[Aa5,BT,g];rfl⟩
theorem rF{φ:Nat→Int}{p:Rec}(h:SJ φ J (k+1) s false p):
 SJ φ J k (Mj (Mj s false 4) (CZ s false 4) 4) (CZ (Mj s false 4) (CZ s false 4) 4) {p with Bo:=p.Bo++[(minus (Bi (Kq s false 4)),φ (Bi (Kq (Mj s false 4) (CZ s false 4) 4)))]}:=by
 rcases h with⟨h,_⟩|⟨_,h⟩
 ·cases h
 rcases ZT minus s with⟨g,f⟩|⟨g,f,_⟩
 ·exact .inl ⟨by rw[g];rfl,by rw[h];simp[Gq,f]⟩
 rw[g];rcases ZT φ (Mj s false 4) with⟨i,j⟩|⟨i,j,_⟩
 ·exact .inl ⟨i,by rw[h];simp[Gq,f,j]⟩
 refine .inr ⟨i,?_⟩;rw[h];simp only[Gq,f,j,Aa5,Option.map_map];congr 1;funext z;simp
theorem rG{φ:Nat→Int}{p:Rec}(h:SJ φ J k s B p)(g:B=false→k=0):Rel J s B p:=by
 rcases h with⟨h,f⟩|⟨h,f⟩
 ·exact .inl ⟨h,f⟩
 refine .inr ⟨h,?_⟩;rw[f,g h];simp[Gq]
theorem ZU(h:CZ s false 4=false):(Mj s false 4).length+4=s.length:=by
 rcases Lw s 4 with⟨f,_⟩|⟨_,_,_,g⟩
 ·rw[show CZ s false 4=true from f] at h;cases h
 ·exact g
theorem Wh(h:n<4294967296):minus n=n∨(minus n=-1∧n=4294967295):=by
 unfold minus;split
 ·exact .inr ⟨Z,by assumption⟩
 ·exact .inl Z
theorem Tq(h:n<256):minus n=n:=by unfold minus;rw[ss G]
theorem Wi(s:List UInt8)(bad:Bool):Bi (Kq s bad 4)<4294967296:=by
 have f:=HV (Kq s bad 4);have g:=Zb s bad 4;have:256^(Kq s bad 4).length≤256^4:=Acm AO G;omega
theorem oR(s:List UInt8)(bad:Bool):Bi (Kq s bad 1)<256:=by
 have f:=HV (Kq s bad 1);have g:=Zb s bad 1;have:256^(Kq s bad 1).length≤256^1:=Acm AO G;omega
theorem ZV(φ:Nat→Int)(l:List UInt8)(x:Rec×List UInt8)(j:Nat)(f:j<l.length):Dm φ (l.take (j+1)) x=(Dm φ (l.take j) x).bind (BT φ l[j].toNat):=by
 rw[pk f];simp only[Dm,List.foldlM_append,List.foldlM_cons,List.foldlM_nil];cases List.foldlM (fun x c=>BT φ c.toNat x) x (List.take j l) with
 |none=>rfl
 |some y=>
  show((BT φ l[j].toNat y).bind fun z=>some z)=BT φ l[j].toNat y
  cases BT φ l[j].toNat y<;>rfl
theorem oS{p:Rec}(h:Rel J s B p):J.bind QX=if B=false∧s=[]∧FT p=true then some p else none:=by
 rcases h with⟨rfl,rfl⟩|⟨rfl,rfl⟩
 ·simp
 ·simp[QX]
theorem dq(k:Int):(Cb k).length≤3:=by
 unfold Cb
 repeat' split
 all_goals decide
def q0(k:Int)(s:List UInt8):Option (Rec×List UInt8):=some (EV k,s)
def dr(φ:Nat→Int)(k:Int)(c:Nat)(o:Option (Rec×List UInt8)):Option (Rec×List UInt8):=if hasB k c then o.bind (BT φ c) else o
def q5(φ:Nat→Int)(k:Int)(s:List UInt8):Option (Rec×List UInt8):=dr φ k 115 (dr φ k 108 (dr φ k 100 (dr φ k 110 (dr φ k 105 (q0 k s)))))
abbrev TX:TypeId:=52
abbrev TI:TypeId:=3
abbrev rH:TypeId:=125
abbrev Nq(p:Rec)(vl vs:Value):List Value:=[I p.Ar,I p.id,St p.name,St p.AK,vl,vs]
abbrev RQ(l:List Int):List Value:=l.flatMap fun x=>[I x]
abbrev Nr(l:List (Int×Int)):List Value:=l.flatMap fun x=>[I x.1,I x.2]
structure XS (TR:TypeId) (K:Nat→Prop) (w0 w:World) (base bR bX:Nat) (s:List UInt8) (bad:Bool) (p:Rec) (vl vs:Value):Prop where
 hK:Below base w0 w
 BH:base≤w.heap.size
 ku:base≤bR
 tB:base≤bX
 ne:bR≠bX
 R:Gt w bR [St s, .bool bad] TR
 X:Gt w bX (Nq p vl vs) TX
 L:CJ w base TI 1 vl p.list.length (RQ p.list)
 S:CJ w base rH 2 vs p.Bo.length (Nr p.Bo)
 kv:∀k,vl.rowOf=some k→k≠bR∧k≠bX
 kw:∀k,vs.rowOf=some k→k≠bR∧k≠bX
 ZW:∀k,vl.rowOf=some k→vs.rowOf≠some k
 hF:∀k,K k→k<w0.heap.size∧w.heap[k]?=w0.heap[k]?
 zp:¬K bR
 vu:¬K bX
 tC:∀k,vl.rowOf=some k→¬K k
 tD:∀k,vs.rowOf=some k→¬K k
 vv:Go.Eng.Int64 p.Ar
 vM:Go.Eng.Int64 p.id
 vN:p.name.length≤1073741824
 TV:p.AK.length≤1073741824
 vw:∀x∈p.list,Go.Eng.Int64 x
 vx:∀x∈p.Bo,Go.Eng.Int64 x.1∧Go.Eng.Int64 x.2
section
variable {TR:TypeId} {K:Nat→Prop} {w0 w w' w'':World} {base bR bX:Nat} {s s':List UInt8} {bad bad':Bool} {p:Rec} {vl vs v':Value}
theorem XS.up(h:XS TR K w0 w base bR bX s bad p vl vs)(O:AZ w w'):XS TR K w0 w' base bR bX s bad p vl vs:=
 {h with hK:=h.hK.trans (O.mono h.BH),BH:=rX h.BH O.size,R:=h.R.up O,X:=h.X.up O,L:=h.L.up O,S:=h.S.up O
         hF:=fun k f=>⟨(h.hF k f).1,by rw[O.block k (Aaq (h.hF k f).1 h.hK.size),(h.hF k f).2]⟩}
theorem XS.rd(h:XS TR K w0 w base bR bX s bad p vl vs)(hg:w.grownBy w' (some bR))(i:Gt w' bR [St s', .bool bad'] TR):XS TR K w0 w' base bR bX s' bad' p vl vs:=
 have g:Below base w w':=DY hg h.BH (fun k e=>by injection e with e;have:=h.ku;omega)
 {h with
  hK:=h.hK.trans g,BH:=rX h.BH g.size,R:=i
  X:=h.X.grown hg (fun e=>h.ne (by injection e))
  L:=h.L.grown hg (fun k O e=>(h.kv k O).1 (by injection e with e;exact e.symm))
  S:=h.S.grown hg (fun k O e=>(h.kw k O).1 (by injection e with e;exact e.symm))
  hF:=fun k f=>⟨(h.hF k f).1,by rw[hg.block k (Aaq (h.hF k f).1 h.hK.size) (fun e=>by injection e with e;subst e;exact h.zp f),(h.hF k f).2]⟩}
theorem XS.other(h:XS TR K w0 w base bR bX s bad p vl vs)(f:HL w w' k cs d)(j:k≠bR)(l:k≠bX)(o:∀b,vl.rowOf=some b→b≠k)(r:∀b,vs.rowOf=some b→b≠k)(t:base≤k)(C:¬K k):XS TR K w0 w' base bR bX s bad p vl vs:=
 have i:Below base w w':=CX f t h.BH
 {h with
  hK:=h.hK.trans i,BH:=rX h.BH i.size
  R:=h.R.grown f.grown (fun e=>j (by injection e))
  X:=h.X.grown f.grown (fun e=>l (by injection e))
  L:=h.L.grown f.grown (fun b O e=>o b O (by injection e with e;exact e.symm))
  S:=h.S.grown f.grown (fun b O e=>r b O (by injection e with e;exact e.symm))
  hF:=fun b g=>⟨(h.hF b g).1,by rw[f.grown.block b (Aaq (h.hF b g).1 h.hK.size) (fun e=>by injection e with e;subst e;exact C g),(h.hF b g).2]⟩}
theorem XS.zb{p':Rec}(h:XS TR K w0 w base bR bX s bad p vl vs)(f:HL w w' bX (Nq p' vl vs) TX)(hl:p'.list=p.list)(hs:p'.Bo=p.Bo)(hi:Go.Eng.Int64 p'.id)(O:Go.Eng.Int64 p'.Ar)
 (j:p'.name.length≤1073741824)(hd:p'.AK.length≤1073741824):XS TR K w0 w' base bR bX s bad p' vl vs:=
 have i:Below base w w':=CX f h.tB h.BH
 {hK:=h.hK.trans i,BH:=rX h.BH i.size,ku:=h.ku,tB:=h.tB,ne:=h.ne
  R:=h.R.grown f.grown (fun e=>h.ne (by injection e with e;exact e.symm)),X:=f.AE
  L:=by rw[hl];exact h.L.grown f.grown (fun k O e=>(h.kv k O).2 (by injection e with e;exact e.symm))
  S:=by rw[hs];exact h.S.grown f.grown (fun k O e=>(h.kw k O).2 (by injection e with e;exact e.symm))
  hF:=fun k g=>⟨(h.hF k g).1,by rw[f.grown.block k (Aaq (h.hF k g).1 h.hK.size) (fun e=>by injection e with e;subst e;exact h.vu g),(h.hF k g).2]⟩
  zp:=h.zp,vu:=h.vu,tC:=h.tC,tD:=h.tD
  kv:=h.kv,kw:=h.kw,ZW:=h.ZW,vv:=O,vM:=hi,vN:=j,TV:=hd,vw:=by rw[hl];exact h.vw,vx:=by rw[hs];exact h.vx}
theorem XS.aaO{x:Int}(h:XS TR K w0 w base bR bX s bad p vl vs)(i:kN w w' base TI 1 vl v' (p.list.length+1) (RQ p.list++[I x]))(j:HL w' w'' bX (Nq p v' vs) TX)(hx:Go.Eng.Int64 x):
 XS TR K w0 w'' base bR bX s bad {p with list:=p.list++[x]} v' vs:=
 have l:Below base w w':=DY i.grown h.BH (fun k O=>(h.L.lt k O).1);have r:Below base w' w'':=CX j h.tB (rX h.BH l.size);have o:∀k,v'.rowOf=some k→vl.rowOf=some k∨k=w.heap.size:=fun k O=>by rcases i.at_ with e|e;exact .inl (e▸O);rw[O] at e;injection e with e;exact .inr e
 have J:=h.R.lt;have U:=h.X.lt
 {h with
  hK:=(h.hK.trans l).trans r,BH:=rX h.BH (rX l.size r.size)
  R:=(h.R.grown i.grown (fun e=>(h.kv bR e).1 Z)).grown j.grown (fun e=>h.ne (by injection e with e;exact e.symm))
  X:=j.AE
  L:=by
   have C:CJ w'' base TI 1 v' (p.list.length+1) (RQ p.list++[I x]):=i.own.grown j.grown (fun k O e=>by
    injection e with e;rcases o k O with f|f
    ·exact(h.kv k f).2 e.symm
    ·omega)
   simpa[RQ] using C
  S:=(h.S.grown i.grown (fun k O e=>h.ZW k e O)).grown j.grown (fun k O e=>(h.kw k O).2 (by injection e with e;exact e.symm))
  kv:=fun k O=>by
   rcases o k O with f|f
   ·exact h.kv k f
   ·exact⟨G,G⟩
  ZW:=fun k O e=>by
   rcases o k O with f|f
   ·exact h.ZW k f e
   ·have:=(h.S.lt k e).2;omega
  hF:=fun k g=>⟨(h.hF k g).1,by
   have t:=Aaq (h.hF k g).1 h.hK.size;rw[j.grown.block k (Aaq t l.size) (fun e=>by injection e with e;subst e;exact h.vu g),i.grown.block k t (fun e=>h.tC k e.symm g),(h.hF k g).2]⟩
  tC:=fun k O=>by
   rcases o k O with f|f
   ·exact h.tC k f
   ·intro g;have:=(h.hF k g).1;have:=h.hK.size;omega
  vw:=fun y hy=>by
   rcases Aac.1 hy with hy|hy
   ·exact h.vw y hy
   ·rw[pv.1 hy];exact hx}
theorem XS.aaP{x:Int×Int}(h:XS TR K w0 w base bR bX s bad p vl vs)(i:kN w w' base rH 2 vs v' (p.Bo.length+1) (Nr p.Bo++[I x.1,I x.2]))(j:HL w' w'' bX (Nq p vl v') TX)(hx:Go.Eng.Int64 x.1∧Go.Eng.Int64 x.2):
 XS TR K w0 w'' base bR bX s bad {p with Bo:=p.Bo++[x]} vl v':=
 have l:Below base w w':=DY i.grown h.BH (fun k O=>(h.S.lt k O).1);have r:Below base w' w'':=CX j h.tB (rX h.BH l.size);have o:∀k,v'.rowOf=some k→vs.rowOf=some k∨k=w.heap.size:=fun k O=>by rcases i.at_ with e|e;exact .inl (e▸O);rw[O] at e;injection e with e;exact .inr e
 have J:=h.R.lt;have U:=h.X.lt
 {h with
  hK:=(h.hK.trans l).trans r,BH:=rX h.BH (rX l.size r.size)
  R:=(h.R.grown i.grown (fun e=>(h.kw bR e).1 Z)).grown j.grown (fun e=>h.ne (by injection e with e;exact e.symm))
  X:=j.AE
  S:=by
   have C:CJ w'' base rH 2 v' (p.Bo.length+1) (Nr p.Bo++[I x.1,I x.2]):=i.own.grown j.grown (fun k O e=>by
    injection e with e;rcases o k O with f|f
    ·exact(h.kw k f).2 e.symm
    ·omega)
   simpa[Nr] using C
  L:=(h.L.grown i.grown (fun k O e=>h.ZW k O e)).grown j.grown (fun k O e=>(h.kv k O).2 (by injection e with e;exact e.symm))
  kw:=fun k O=>by
   rcases o k O with f|f
   ·exact h.kw k f
   ·exact⟨G,G⟩
  ZW:=fun k O e=>by
   rcases o k e with f|f
   ·exact h.ZW k O f
   ·have:=(h.L.lt k O).2;omega
  hF:=fun k g=>⟨(h.hF k g).1,by
   have t:=Aaq (h.hF k g).1 h.hK.size;rw[j.grown.block k (Aaq t l.size) (fun e=>by injection e with e;subst e;exact h.vu g),i.grown.block k t (fun e=>h.tD k e.symm g),(h.hF k g).2]⟩
  tD:=fun k O=>by
   rcases o k O with f|f
   ·exact h.tD k f
   ·intro g;have:=(h.hF k g).1;have:=h.hK.size;omega
  vx:=fun y hy=>by
   rcases Aac.1 hy with hy|hy
   ·exact h.vx y hy
   ·rw[pv.1 hy];exact hx}
theorem XS.step(h:XS TR K w0 w base bR bX s bad p vl vs)(hg:w.grownBy w' (some k))(o:k<w.heap.size)(f:k≠bR)(g:k≠bX)(i:∀b,vl.rowOf=some b→b≠k)(j:∀b,vs.rowOf=some b→b≠k)(r:base≤k):XS TR (fun b=>b=k) w' w' base bR bX s bad p vl vs:=
 have l:Below base w w':=DY hg h.BH (fun b e=>by injection e with e;omega)
 {h with
  hK:=Aar _ _,BH:=rX h.BH l.size
  R:=h.R.grown hg (fun e=>f (by injection e))
  X:=h.X.grown hg (fun e=>g (by injection e))
  L:=h.L.grown hg (fun b O e=>i b O (by injection e with e;exact e.symm))
  S:=h.S.grown hg (fun b O e=>j b O (by injection e with e;exact e.symm))
  hF:=fun b O=>⟨by rw[O];exact Aaq o l.size,Z⟩
  zp:=fun e=>f e.symm,vu:=fun e=>g e.symm,tC:=i,tD:=j}
theorem XS.zq(h:XS TR K w0 w base bR bX s bad p vl vs)(f:p.list.length≤140737488355328)(g:p.Bo.length≤140737488355328):UA w (Nq p vl vs) p:=
 ⟨vl,vs,Z,h.L.ld h.vw f,gb h.S h.vx g,h.vv,h.vM,by have:=h.vN;omega,by have:=h.TV;omega⟩
theorem mk0{k:Int}(BH:base≤w.heap.size)(ku:base≤bR)(tB:base≤bX)(ne:bR≠bX)(R:Gt w bR [St s, .bool bad] TR)(X:Gt w bX [I k,I 0,St [],St [], .slice none 0 0, .slice none 0 0] TX)(O:Go.Eng.Int64 k):
 XS TR (fun _=>False) w w base bR bX s bad (EV k) (.slice none 0 0) (.slice none 0 0):=
 {hK:=Aar _ _,BH:=BH,ku:=ku,tB:=tB,ne:=ne,R:=R,X:=X,L:=CJ.nil _ _ _ _,S:=CJ.nil _ _ _ _
  kv:=fun k O=>by simp[Value.rowOf] at O
  kw:=fun k O=>by simp[Value.rowOf] at O
  ZW:=fun k O=>by simp[Value.rowOf] at O
  hF:=fun k O=>O.elim,zp:=id,vu:=id
  tC:=fun k O=>by simp[Value.rowOf] at O
  tD:=fun k O=>by simp[Value.rowOf] at O
  vv:=O,vM:=⟨by simp[EV],by simp[EV]⟩,vN:=by simp[EV],TV:=by simp[EV],vw:=by simp[EV],vx:=by simp[EV]}
end
theorem Pd(h:n<4294967296):Go.Eng.Int64 (minus n):=by
 rcases Wh h with e|⟨e,_⟩
 ·rw[e];exact⟨G,G⟩
 ·rw[e];exact⟨by decide,by decide⟩
theorem oT{K:Nat→Prop}{p:Rec}{L c:Nat}(h:XS 398 K w w k n i s B p a y)(U:Rel J s B p)
 (j:s.length≤L)(c7:L≤1073741824)(C:p.list.length≤m)(o:p.Bo.length≤m)(c8:m≤17179869184):
 Calls QP 320 #[.pointer (some ⟨n,0,none⟩), .pointer (some ⟨i,0,none⟩), .int .i32 c] w (Bt fun _ w'=>∃s' bad' p' c1 c2,XS 398 K w w' k n i s' bad' p' c1 c2∧Rel (J.bind (BT minus c)) s' bad' p'∧s'.length≤L∧p'.list.length≤m+L+1∧p'.Bo.length≤m+L+1):=by
 refine AY 90 #[] func320 Z<|Q<|M Z<|Ah<|An<|Q<|E (BO Z Z)<|V Z<|BA Z (fun f=>?_) fun f=>?_
 ·obtain rfl:c=105:=G;refine cg<|M Z<|M Z<|ve (Ab Uw Z (Iy h.R 4 AO AO G)) ?_;rintro _ w1 ⟨hg,rfl,g⟩;replace h:=h.rd hg g;refine E (Ak Z) ?_
  first|refine E (Aa Hl Z) ?_|refine E (Bn Hl Z) ?_
  refine Av (FN AF Z Z Z Z h.X Z) ?_;rintro _ w2 t;have r:=h.zb (p':={p with id:=minus (Bi (Kq s B 4))}) t Z Z (Pd (Wi _ _)) h.vv h.vN h.TV;refine Ah<|⟨_,_,Z,Z,?_⟩;exact⟨Z,_,_,_,_,_,r,vr U,rX (KM _ _ _) j,by simp;omega,by simp;omega⟩
 refine Q<|E (BO Z Z)<|V Z<|BA Z (fun f=>?_) fun f=>?_
 ·obtain rfl:c=110:=G;refine cg<|M Z<|M Z<|M Z<|ve (Ab Uw Z (Iy h.R 1 AO AO G)) ?_;rintro _ w1 ⟨hg,rfl,g⟩;replace h:=h.rd hg g;have f:=KM s B 1;rw[Tq (oR s B)];refine ve (Ab lH Z (Wg h.R _ G G)) ?_;rintro _ w2 ⟨hg,rfl,g⟩;replace h:=h.rd hg g;have a7:=KM (Mj s B 1) (CZ s B 1) (Bi (Kq s B 1));have b5:=aI (Mj s B 1) (CZ s B 1) (Bi (Kq s B 1));refine E (Ak Z) ?_
  first|refine E (Aa MW Z) ?_|refine E (Bn MW Z) ?_
  refine Av (FN CQ Z Z Z Z h.X Z) ?_;rintro _ f t;have r:=h.zb (p':={p with name:=Kq (Mj s B 1) (CZ s B 1) (Bi (Kq s B 1))}) t Z Z h.vM h.vv (by simp;omega) h.TV;refine Ah<|⟨_,_,Z,Z,?_⟩;exact⟨Z,_,_,_,_,_,r,oQ U,G,by simp;omega,by simp;omega⟩
 refine Q<|E (BO Z Z)<|V Z<|BA Z (fun f=>?_) fun f=>?_
 ·obtain rfl:c=100:=G;refine cg<|M Z<|M Z<|ve (Ab lH Z (Wg h.R 32 AO G)) ?_;rintro _ w1 ⟨hg,rfl,g⟩;replace h:=h.rd hg g;have a7:=KM s B 32;have b5:=aI s B 32;refine E (Ak Z) ?_
  first|refine E (Aa JS Z) ?_|refine E (Bn JS Z) ?_
  refine Av (FN CQ Z Z Z Z h.X Z) ?_;rintro _ w2 t;have r:=h.zb (p':={p with AK:=Kq s B 32}) t Z Z h.vM h.vv h.vN (by simp;omega);refine Ah<|⟨_,_,Z,Z,?_⟩;exact⟨Z,_,_,_,_,_,r,rA U,G,by simp;omega,by simp;omega⟩
 refine Q<|E (BO Z Z)<|V Z<|BA Z (fun f=>?_) fun f=>?_
 ·obtain rfl:c=108:=G;refine Q<|M Z<|ve (Ab Uw Z (Iy h.R 4 AO AO G)) ?_;rintro _ w1 ⟨hg,rfl,g⟩;replace h:=h.rd hg g;have a7:=KM s B 4;have Bd:=Wi s B;refine V Z<|An ?_;have a6:=rB (φ:=minus) U;generalize J.bind (BT minus 108)=T at a6⊢;refine AG (σ:=Int×Nat×List UInt8×Bool×Rec×Value) (fun f=>[(0, .pointer (some ⟨n,0,none⟩)),(1, .pointer (some ⟨i,0,none⟩)),(6,I f.1)]) (fun f w'=>XS 398 K w w' k n i f.2.2.1 f.2.2.2.1 f.2.2.2.2.1 f.2.2.2.2.2 y∧LJ minus T f.2.1 f.2.2.1 f.2.2.2.1 f.2.2.2.2.1∧(f.2.2.2.1=false→(f.1=f.2.1∨(f.1<0∧f.2.2.1.length<4*f.2.1))∧-1-(L:Int)+f.2.2.1.length≤f.1∧f.2.2.2.2.1.list.length+f.2.2.1.length≤m+L)∧f.1≤4294967295∧f.2.2.1.length≤L∧f.2.2.2.2.1.list.length≤m+L+1∧f.2.2.2.2.1.Bo.length≤m) (fun f=>bif f.2.2.2.1 then 0 else f.2.2.1.length+1) (minus (Bi (Kq s B 4)),Bi (Kq s B 4),Mj s B 4,CZ s B 4,p,a) AL ⟨h,a6,fun _=>by rcases Wh Bd with e|⟨e,bX⟩<;>(refine⟨?_,?_,?_⟩<;>(dsimp only;omega)),by rcases Wh Bd with e|⟨e,bX⟩<;>(dsimp only;omega),by dsimp only;omega,by dsimp only;omega,o⟩ ?_;rintro⟨bR,N,s,B,p,a⟩ b6 ⟨h,a1,hJ,b3,j,C,o⟩;dsimp only at h a1 hJ b3 j C o⊢;have ku:=h.R;refine Ag<|Ag ?_;skip;refine cg<|M Z<|E (BK Z Z)<|M Z ?_;apply AW true 5 _ CK
  ·intro c0;refine wo<|M Z<|wo<|E (Ak Z)<|wo<|E (Aa NT Z)<|wo<|E (Al IW Z ku Z)<|wo<|E (BL Z) ?_;exact EQ 5
  refine Ah<|BA Z (fun b0=>?_) fun b0=>?_
  ·obtain⟨b9,b2⟩:=b0;subst b2;obtain⟨bX,bX,bX⟩:=hJ Z;refine As<|Ag<|An<|Fq (fun W=>Gt W i (Nq p a y) TX) [0,0,0,0,1,0,2,2,2,0,0,3] [0,1,2,3,4,5,6,7,8,9,10,11] mixed Ao ?_;replace h:=h.up (Aar _ _).drew;have hC:=h.X;generalize b6.drew=c5 at h hC⊢;refine Bm Z Z<|Bm Z Z<|AN Z (Ak Z)<|AN Z (Aa DE Z)<|qc Z Z Z hC (fun W a8=>Al BQ Z a8 Z) Z<|Bm Z Z<|Db Z (Ab Uw Z (Iy h.R 4 AO AO G)) ?_;rintro _ bX ⟨hg,rfl,g⟩;refine⟨fun hC=>hC.grown hg (fun e=>h.ne (by injection e)),?_⟩;replace h:=h.rd hg g;refine Db Z (FM BM Z Z Z Z Z) ?_;rintro _ c4 ⟨b7,rfl,R⟩;refine⟨fun hC=>hC.up R.below,?_⟩;replace h:=h.up R.below;refine Db Z (Fp BM Z Z h.L (Aw underlying23 R.AE.AT Z Bg) (by rw[HE];omega) G h.BH) ?_;intro b4 c3 bX;refine⟨fun hC=>hC.grown bX.grown (fun e=>(h.kv i e).2 Z),?_⟩;have b1:=h.X.grown bX.grown (fun e=>(h.kv i e).2 Z);refine AN Z (Ak Z)<|AN Z (Aa DE Z)<|LG Z (FN BQ Z Z bX.own.AA bX.own.AD b1 Z) ?_;rintro _ c6 t;have r:=h.aaO (x:=minus (Bi (Kq s false 4))) bX t (Pd (Wi _ _));refine AP<|cg<|M Z<|E (Gu Z Z Ai Ai)<|V Z ?_;obtain⟨Mjq,rfl⟩:∃Mjq,N=Mjq+1:=⟨N-1,G⟩;have a7:=KM s false 4;refine⟨(bR-1,Mjq,Mj s false 4,CZ s false 4,{p with list:=p.list++[minus (Bi (Kq s false 4))]},b4),AL,⟨r,rC a1,?_,?_,?_,?_,?_⟩,?_⟩
   ·intro l;have:=ZU l;dsimp only at l⊢;simp only[List.length_append,List.length_singleton];omega
   ·dsimp only;omega
   ·dsimp only;omega
   ·dsimp only;simp only[List.length_append,List.length_singleton];omega
   ·exact o
   cases e:CZ s false 4
   ·have:=ZU e;simp only[e,Ahl];omega
   simp only[e,cond_true,Ahl];omega
  refine Az Z<|⟨_,_,Z,Z,?_⟩;rw[Ac9] at b0;simp only[Ad4,Aay] at b0;exact⟨Z,_,_,_,_,_,h,rD a1 (fun l=>by subst l;have:=hJ Z;simp at b0;omega),j,C,G⟩
 refine Q<|E (BO Z Z)<|V Z<|BA Z (fun b0=>?_) fun b0=>?_
 ·obtain rfl:c=115:=G;refine Q<|M Z<|ve (Ab Uw Z (Iy h.R 1 AO AO G)) ?_;rintro _ w1 ⟨hg,rfl,g⟩;replace h:=h.rd hg g;have a7:=KM s B 1;have Bd:=oR s B;rw[Tq Bd];refine V Z<|An ?_;have a6:=rE (φ:=minus) U;generalize J.bind (BT minus 115)=T at a6⊢;refine AG (σ:=Nat×List UInt8×Bool×Rec×Value) (fun f=>[(0, .pointer (some ⟨n,0,none⟩)),(1, .pointer (some ⟨i,0,none⟩)),(7,I f.1)]) (fun f w'=>XS 398 K w w' k n i f.2.1 f.2.2.1 f.2.2.2.1 a f.2.2.2.2∧SJ minus T f.1 f.2.1 f.2.2.1 f.2.2.2.1∧f.1≤255∧f.2.1.length≤L∧f.2.2.2.1.Bo.length+f.1≤m+255∧f.2.2.2.1.list.length≤m∧(f.2.2.1=false→f.2.2.2.1.Bo.length+f.2.1.length≤m+L)∧f.2.2.2.1.Bo.length≤m+L+1) (fun f=>f.1) (Bi (Kq s B 1),Mj s B 1,CZ s B 1,p,y) AL ⟨h,a6,by dsimp only;omega,by dsimp only;omega,by dsimp only;omega,C,fun _=>by dsimp only;omega,by dsimp only;omega⟩ ?_;rintro⟨N,s,B,p,y⟩ b6 ⟨h,a1,b3,j,o,C,hJ,b6⟩;dsimp only at h a1 b3 j C o hJ b6⊢;have ku:=h.R;refine Ag<|Ag ?_;skip;refine cg<|M Z<|E (CM Z Z)<|M Z ?_;apply AW true 5 _ CK
  ·intro c0;refine wo<|M Z<|wo<|E (Ak Z)<|wo<|E (Aa NT Z)<|wo<|E (Al IW Z ku Z)<|wo<|E (BL Z) ?_;exact EQ 5
  refine Ah<|BA Z (fun a6=>?_) fun a6=>?_
  ·obtain⟨b9,b2⟩:=a6;subst b2;replace hJ:=hJ Z;have a7:=KM s false 4;have b5:=KM (Mj s false 4) (CZ s false 4) 4;refine As<|Ag<|An<|Q<|M Z<|ve (Ab Uw Z (Iy h.R 4 AO AO G)) ?_;rintro _ f ⟨hg,rfl,g⟩;replace h:=h.rd hg g;refine E (By (cells:=#[I (minus (Bi (Kq s false 4))),I 0]) Z Ao) ?_;refine ve (Js JU) ?_;rintro _ f ⟨b8,rfl,b0⟩;have f:=h.R.lt;have f:=h.X.lt;have f:=h.ku;have f:=b0.at_;have b3:∀base,a.rowOf=some base→base≠b8:=fun base O=>by have:=(h.L.lt base O).2;omega
   have a7:∀base,y.rowOf=some base→base≠b8:=fun base O=>by have:=(h.S.lt base O).2;omega
   have b2:¬K b8:=fun O=>by have:=(h.hF b8 O).1;have:=h.hK.size;omega
   replace h:=h.up b0.below;have f:=b0.AE;refine Av (Ff Dj Z Z f Z Z Bg) ?_;intro _ b0 b0;replace h:=h.other b0 G G (fun base O e=>b3 base O e) (fun base O e=>a7 base O e) G b2;replace f:=b0.AE;refine Ah<|Q<|M Z<|ve (Ab Uw Z (Iy h.R 4 AO AO G)) ?_;rintro _ b0 ⟨hg,rfl,g⟩;replace f:=f.grown hg (fun e=>by injection e with e;omega);replace h:=h.rd hg g;refine E (Aa GP Z)<|Av (FN AF Z Z Z Z f Z) ?_;rintro _ b0 g;replace h:=h.other g G G (fun base O e=>b3 base O e) (fun base O e=>a7 base O e) G b2;replace f:Gt b0 b8 [I (minus (Bi (Kq s false 4))),I (minus (Bi (Kq (Mj s false 4) (CZ s false 4) 4)))] 125:=g.AE;refine Ah<|Fq (fun W=>Gt W i (Nq p a y) TX∧Gt W b8 [I (minus (Bi (Kq s false 4))),I (minus (Bi (Kq (Mj s false 4) (CZ s false 4) 4)))] 125) [0,0,0,0,1,1,2,2,0,0,3] [0,1,2,3,4,5,6,7,8,9,10] mixed Ao ?_;replace h:=h.up (Aar _ _).drew;replace f:=f.up (Aar _ _).drew;have hC:=And.intro h.X f;generalize b0.drew=c5 at h f hC⊢;refine Bm Z Z<|Bm Z Z<|AN Z (Ak Z)<|AN Z (Aa Gh Z)<|qc Z Z Z hC (fun W a8=>Al CH Z a8.1 Z) Z<|qc Z Z Z hC (fun W a8=>Ba Dj Z a8.2 Z) Z<|Db Z (FM DL Z Z Z Z Z) ?_;rintro _ c4 ⟨b7,rfl,R⟩;refine⟨fun hC=>⟨hC.1.up R.below,hC.2.up R.below⟩,?_⟩;replace h:=h.up R.below;refine Db Z (Fp DL Z Z h.S (Aw underlying50 R.AE.AT Z Bg) (by rw[HE];omega) G h.BH) ?_;intro b4 c3 bX;refine⟨fun hC=>⟨hC.1.grown bX.grown (fun e=>(h.kw i e).2 Z),hC.2.grown bX.grown (fun e=>a7 b8 e Z)⟩,?_⟩;have b1:=h.X.grown bX.grown (fun e=>(h.kw i e).2 Z);refine AN Z (Ak Z)<|AN Z (Aa Gh Z)<|LG Z (FN CH Z Z bX.own.AA bX.own.AD b1 Z) ?_;rintro _ c6 t;have r:=h.aaP (x:=(minus (Bi (Kq s false 4)),minus (Bi (Kq (Mj s false 4) (CZ s false 4) 4)))) bX t ⟨Pd (Wi _ _),Pd (Wi _ _)⟩;refine AP<|cg<|M Z<|E (Gu Z Z Ai Ai)<|V Z ?_;obtain⟨Mjq,rfl⟩:∃Mjq,N=Mjq+1:=⟨N-1,G⟩;rw[show((Mjq+1:Nat):Int)-1=(Mjq:Int) by omega];refine⟨(Mjq,Mj (Mj s false 4) (CZ s false 4) 4,CZ (Mj s false 4) (CZ s false 4) 4,{p with Bo:=p.Bo++[(minus (Bi (Kq s false 4)),minus (Bi (Kq (Mj s false 4) (CZ s false 4) 4)))]},b4),AL,⟨r,rF a1,?_,?_,?_,?_,?_,?_⟩,?_⟩
   ·dsimp only;omega
   ·dsimp only;omega
   ·dsimp only;simp only[List.length_append,List.length_singleton];omega
   ·exact C
   ·intro l;dsimp only at l⊢;simp only[List.length_append,List.length_singleton];have f:CZ s false 4=false:=by
     cases e:CZ s false 4
     ·rfl
     rw[e] at l;cases l
    have:=ZU f;omega
   ·dsimp only;simp only[List.length_append,List.length_singleton];omega
   dsimp only;omega
  refine Az Z<|⟨_,_,Z,Z,?_⟩;rw[Ac9] at a6;simp only[Ad4,Aay] at a6;exact⟨Z,_,_,_,_,_,h,rG a1 (fun l=>by subst l;simp at a6;omega),j,G,b6⟩
 refine As<|⟨_,_,Z,Z,?_⟩;have e:BT minus c=fun x=>some x:=by
  funext x;unfold BT;split<;>first|rfl|omega
 exact⟨Z,_,_,_,_,_,h,by rw[e];cases J<;>exact U,j,G,G⟩
def rI(w:World)(base:Nat)(cs:List Value)(r:Rec):Prop:=∃vl vs,cs=[I r.Ar,I r.id,St r.name,St r.AK,vl,vs]∧CJ w base TI 1 vl r.list.length (RQ r.list)∧CJ w base rH 2 vs r.Bo.length (Nr r.Bo)∧
 (Go.Eng.Int64 r.Ar∧Go.Eng.Int64 r.id∧r.name.length≤140737488355328∧r.AK.length≤140737488355328)∧(∀x∈r.list,Go.Eng.Int64 x)∧(∀x∈r.Bo,Go.Eng.Int64 x.1∧Go.Eng.Int64 x.2)∧r.list.length≤140737488355328∧r.Bo.length≤140737488355328
theorem hG(w:World)(base:Nat):rI w base [I 0,I 0,St [],St [], .slice none 0 0, .slice none 0 0] (EV 0):=
 ⟨_,_,Z,CJ.nil _ _ _ _,CJ.nil _ _ _ _,⟨⟨by simp[EV],by simp[EV]⟩,⟨by simp[EV],by simp[EV]⟩,by simp[EV],by simp[EV]⟩,(fun _ h=>by cases h),(fun _ h=>by cases h),by simp[EV],by simp[EV]⟩
theorem oU(s:List UInt8)(hs:s.length≤1073741824):
 Calls QP 305 #[St s] w (Bt fun v w'=>Below w.heap.size w w'∧∃cs,v= .tuple #[.agg cs.toArray,I (if(EC minus s).isSome then 0 else 7)]∧rI w' w.heap.size cs ((EC minus s).getD (EV 0))):=by
 have hK:FY w w:=Bf w;refine AY 47 #[.cell 2 52, .tmp 3] func305 Z<|Q<|ve (Js Kw) ?_;rintro _ w1 ⟨b2,rfl,g⟩;have b1:=g.below;have f:=g.AE;refine V Z<|Ag<|Ag ?_;have i:=g.at_;obtain⟨B,g⟩:∃B,B=w1.heap.size:=⟨_,Z⟩;have BH:B≤w1.heap.size:=Ado g;replace hK:=hK.up b1;replace f:=f.fix;replace hK:=FY.fix hK;rw[←g] at f hK;refine cg<|M Z<|E (YD Z Z)<|Ah<|BA Z (fun i=>?_) fun i=>?_
 ·have l:s=[]:=by simpa using i
  refine Q<|E (By (cells:=#[I 0,I 0,St [],St [], .slice none 0 0, .slice none 0 0]) Z Ao) ?_;refine Av (Ff Df Z Z f.2 Z Z Bg) ?_;intro _ w2 g;have a7:=g.AE;have a6:Below w.heap.size w w2:=hK.1.trans (CX g G hK.1.size);refine V Z<|DI Z (DZ Df Z a7 Z) (FD.tmp Z) ?_;subst l;exact⟨a6,_,Z,hG _ _⟩
 obtain⟨kb,s,rfl⟩:∃k r,s=k::r:=by
  cases s with
  |nil=>simp at i
  |cons k r=>exact⟨k,r,Z⟩
 have i:s.length≤1073741823:=by simp at hs;omega
 refine As<|Ag<|WC.mono (N:=fun e w'=>∃l b4,Sub [(4000000, .tuple #[]),(2, .pointer (some ⟨b2,0,none⟩)),(4, .pointer (some ⟨b4,0,none⟩)),(5, .pointer (some ⟨l,0,none⟩))] e∧Gt w' l [St s, .bool false] 398∧Gt w' b4 [I kb.toNat,I 0,St [],St [], .slice none 0 0, .slice none 0 0] TX∧B≤l∧B≤b4∧l≠b4∧Tt B w' b2 [I 0,I 0,St [],St [], .slice none 0 0, .slice none 0 0] TX∧Tu B w w'∧B≤w'.heap.size) ?_ ?_
 ·refine SN (fun _=>True) [0,0,0,0,0,0,0,2,2,3,0] (.Au 0 (.Au 1 (.Au 2 (.Au 3 (.Au 4 (.Au 5 (.Au 6 (.two 7 (.one 8 (.one 9 (.Au 10 .nil))) 8 (.two 7 (.one 9 (.Au 10 .nil)) 9 (.one 7 (.Au 10 .nil))))))))))) mixed Ao ?_;have hd:Below B w1 w1.drew:=(Aar _ _).drew;replace f:=f.DH (hd);replace hK:=hK.DH (hd);replace BH:=rX BH (hd).size;generalize w1.drew=i at hd f hK BH⊢;refine Cd Z (Cf Z)<|Cd Z (Ks underlying9 Z Z AO Z) ?_;refine Cd Z (dF underlying5 underlying3 Z)<|Cd Z (By (cells:=#[I kb.toNat,I 0,St [],St [], .slice none 0 0, .slice none 0 0]) Z Ao) ?_;refine Cd Z (Cf Z) ?_;refine Cd Z (GB underlying9 Z Z AO (by simp;omega)) ?_;refine Cd Z (By (cells:=#[St s, .bool false]) Z Ao) ?_;refine Ck ?_ ?_
  ·refine EM Z (IQ Z) ?_;rintro _ b5 ⟨l,rfl,o⟩;refine⟨fun _=>trivial,?_⟩;have i:=o.AE;have b0:=i.lt;have a8:=o.at_;have R:B≤l:=G;replace f:=f.DH (o.below.mono BH);replace hK:=hK.DH (o.below.mono BH);replace BH:=rX BH (o.below.mono BH).size;refine AV ?_;refine EM Z (Js Kw) ?_;rintro _ b7 ⟨b4,rfl,J⟩;refine⟨fun _=>trivial,?_⟩;have Bd:=J.AE;have b3:=Bd.lt;have b6:=J.at_;have C:B≤b4:=G;have U:l≠b4:=G;replace f:=f.DH (J.below.mono BH);replace hK:=hK.DH (J.below.mono BH);replace BH:=rX BH (J.below.mono BH).size;replace i:=i.up J.below;refine AV ?_;refine Bj Z Z Z (Ff Df Z Z Bd Z Z Bg) ?_;intro _ a1 g;replace Bd:=g.AE;replace i:=i.grown g.grown (fun e=>U (by injection e with e;exact e.symm));replace f:=f.DH (CX g C BH);replace hK:=hK.DH (CX g C BH);replace BH:=rX BH (CX g C BH).size;refine Cd Z (CG Z) (Bs ?_);exact⟨l,b4,AL,i,Bd,R,C,U,f,hK,BH⟩
  refine EM Z (Js Kw) ?_;rintro _ b7 ⟨b4,rfl,J⟩;refine⟨fun _=>trivial,?_⟩;have Bd:=J.AE;have b3:=Bd.lt;have b6:=J.at_;have C:B≤b4:=G;replace f:=f.DH (J.below.mono BH);replace hK:=hK.DH (J.below.mono BH);replace BH:=rX BH (J.below.mono BH).size;refine Ck ?_ ?_
  ·refine EM Z (IQ Z) ?_;rintro _ b5 ⟨l,rfl,o⟩;refine⟨fun _=>trivial,?_⟩;have i:=o.AE;have b0:=i.lt;have a8:=o.at_;have R:B≤l:=G;have U:l≠b4:=G;replace f:=f.DH (o.below.mono BH);replace hK:=hK.DH (o.below.mono BH);replace BH:=rX BH (o.below.mono BH).size;replace Bd:=Bd.up o.below;refine AV ?_;refine Bj Z Z Z (Ff Df Z Z Bd Z Z Bg) ?_;intro _ a1 g;replace Bd:=g.AE;replace i:=i.grown g.grown (fun e=>U (by injection e with e;exact e.symm));replace f:=f.DH (CX g C BH);replace hK:=hK.DH (CX g C BH);replace BH:=rX BH (CX g C BH).size;refine Cd Z (CG Z) (Bs ?_);exact⟨l,b4,AL,i,Bd,R,C,U,f,hK,BH⟩
  refine Bj Z Z Z (Ff Df Z Z Bd Z Z Bg) ?_;intro _ a1 g;replace Bd:=g.AE;replace f:=f.DH (CX g C BH);replace hK:=hK.DH (CX g C BH);replace BH:=rX BH (CX g C BH).size;have b3:=Bd.lt;refine AV ?_;refine EM Z (IQ Z) ?_;rintro _ b5 ⟨l,rfl,o⟩;refine⟨fun _=>trivial,?_⟩;have i:=o.AE;have b0:=i.lt;have a8:=o.at_;have R:B≤l:=G;have U:l≠b4:=G;replace f:=f.DH (o.below.mono BH);replace hK:=hK.DH (o.below.mono BH);replace BH:=rX BH (o.below.mono BH).size;replace Bd:=Bd.up o.below;refine Cd Z (CG Z) (Bs ?_);exact⟨l,b4,AL,i,Bd,R,C,U,f,hK,BH⟩
 clear f hK BH;rintro _ o ⟨l,b4,o,i,Bd,R,C,J,f,hK,BH⟩;refine DN o ?_;refine Ag<|Q<|E (Aa Gg Z)<|E (Al AF Z Bd Z)<|ve (Ab sr Z (Xd kb.toNat)) ?_;rintro o w2 ⟨o,rfl⟩;replace f:=f.DH (o.mono BH);replace hK:=hK.DH (o.mono BH);replace i:=i.up o;replace Bd:=Bd.up o;replace BH:=rX BH o.size;have o:=mk0 (s:=s) (bad:=false) BH R C J i Bd ⟨G,by have:=kb.toNat_lt;omega⟩;refine ve (Pp underlying9 Z) ?_;rintro _ wr ⟨J,C,rfl,U,hit⟩;have b5:B≤C:=G;have b0:C≠l:=by have:=o.R.lt;omega
 have b3:C≠b4:=by have:=o.X.lt;omega
 replace f:=f.DH (J.mono BH);replace hK:=hK.DH (J.mono BH);replace BH:=rX BH J.size;replace U:C<wr.heap.size:=hit.lt;have a8:∃w0,XS 398 (fun k=>k=C) w0 wr B l b4 s false (EV kb.toNat) (.slice none 0 0) (.slice none 0 0):=⟨_,(o.up J).step (MR _ _) U b0 b3 (fun k O=>by simp[Value.rowOf] at O) (fun k O=>by simp[Value.rowOf] at O) b5⟩;have J:=dq kb.toNat
 refine Ah<|An ?_;refine AG (σ:=Nat×List UInt8×Bool×Rec×Value×Value) (fun _=>[(2, .pointer (some ⟨b2,0,none⟩)),(4, .pointer (some ⟨b4,0,none⟩)),(5, .pointer (some ⟨l,0,none⟩)),(22, .pointer (some ⟨C,0,none⟩))]) (fun o w'=>(∃w0,XS 398 (fun k=>k=C) w0 w' B l b4 o.2.1 o.2.2.1 o.2.2.2.1 o.2.2.2.2.1 o.2.2.2.2.2)∧Iter w' C (Cb kb.toNat) o.1∧Tt B w' b2 [I 0,I 0,St [],St [], .slice none 0 0, .slice none 0 0] TX∧Tu B w w'∧B≤w'.heap.size∧o.1≤(Cb kb.toNat).length∧Rel (Dm minus ((Cb kb.toNat).take o.1) (EV kb.toNat,s)) o.2.1 o.2.2.1 o.2.2.2.1∧o.2.1.length≤s.length∧o.2.2.2.1.list.length≤o.1*(s.length+1)∧o.2.2.2.1.Bo.length≤o.1*(s.length+1)) (fun o=>(Cb kb.toNat).length-o.1) (0,s,false,EV kb.toNat, .slice none 0 0, .slice none 0 0) AL ⟨a8,hit,f,hK,BH,by simp, .inr ⟨Z,Z⟩,by simp,by simp[EV],by simp[EV]⟩ ?_;rintro⟨j,t,bad,p,vl,vs⟩ c0 ⟨⟨w0,h⟩,hit,f,hK,BH,o,a8,b8,b6,b7⟩;dsimp only at h hit o a8 b8 b6 b7⊢;have i:=h.R;have Bd:=h.X;refine Q<|ve (Qv Z hit (Pr _)) ?_;rintro _ U ⟨J,rfl,b9⟩;replace h:=h.step J hit.lt b0 b3 h.tC h.tD b5;have o:Below B c0 U:=DY J BH (by simp;omega);replace f:=f.DH o;replace hK:=hK.DH o;replace BH:=Nat.le_trans BH o.size;replace i:=h.R;replace Bd:=h.X;refine E (li Z)<|Ah<|Ag<|BA Z (fun J=>?_) fun J=>?_
 ·replace hit:=b9 J;refine As<|An<|Q<|E (sa Z J)<|V Z<|cg<|M Z<|M Z ?_;have b9:j*(s.length+1)≤3*(s.length+1):=Nat.mul_le_mul_right _ G;refine ve (Ab yE Z (oT h a8 b8 G b6 b7 G)) ?_;rintro _ b3 ⟨c0,bad',b8,c1,c2,b0,b6,b7,b5,b5⟩;have b5:Iter b3 C (Cb kb.toNat) (j+1):=(b0.hF C Z).2.trans hit;have C:Below B U b3:=b0.hK;replace f:=f.DH C;replace hK:=hK.DH C;replace BH:=Nat.le_trans BH C.size;refine Ah ?_;exact⟨(j+1,c0,bad',b8,c1,c2),AL,⟨⟨_,b0⟩,b5,f,hK,BH,J,by rw[ZV _ _ _ _ J];exact b6,b7,by rw[Nat.succ_mul];omega,by rw[Nat.succ_mul];omega⟩,by dsimp only;omega⟩
 refine Az Z<|Ag<|Ag ?_;have b9:j*(s.length+1)≤3*(s.length+1):=WN _ G;have J:j=(Cb kb.toNat).length:=G;subst J;rw[vq (kM _)] at a8;have b0:=oS a8;refine cg<|M Z<|E (Ak Z)<|E (Aa NT Z)<|E (Al IW Z i Z)<|M Z ?_;apply AW false 5 _ CK
 ·intro J;refine wo<|M Z<|wo<|E (Ak Z)<|wo<|E (Aa NS Z)<|wo<|E (Al CQ Z i Z)<|wo<|E (tJ Z Z) ?_;exact EQ 5
 refine M Z ?_;apply GC false 3 (!FT p) CK
 ·intro J;have J:FY U U:=Bf _;refine wo<|E (Ba Df Z Bd Z)<|wo<|ve (Ab tU Z (dN (h.zq G G))) ?_;rintro a8 U ⟨o,rfl⟩;replace f:=f.DH (o.mono BH);replace hK:=hK.DH (o.mono BH);replace h:=h.up o;replace i:=i.up o;replace Bd:=Bd.up o;replace J:=J.up o;replace BH:=rX BH o.size;refine wo<|E (BL Z) ?_;exact Et ⟨Z,Sub.drop _ 3 _ Z Z,J⟩
 intro b3 C;replace f:=f.DH (C.mono BH);replace hK:=hK.DH (C.mono BH);replace h:=h.up C;replace i:=i.up C;replace Bd:=Bd.up C;replace BH:=rX BH C.size;refine Ah<|GO Z (fun i=>?_) fun i=>?_
 ·refine Q<|E (By (cells:=#[I 0,I 0,St [],St [], .slice none 0 0, .slice none 0 0]) Z Ao) ?_;refine Av (Ff Df Z Z f.2 Z Z Bg) ?_;intro _ a1 g;have a7:=g.AE;have a6:Below w.heap.size w a1:=hK.1.trans (CX g G hK.1.size);refine V Z<|DI Z (DZ Df Z a7 Z) (FD.tmp Z) ?_;have e:EC minus (kb::s)=none:=by
   simp only[EC];rw[b0,ss];rintro⟨rfl,rfl,e⟩;rw[e] at i;simp at i
  rw[e];exact⟨a6,_,Z,hG _ _⟩
 refine As<|Q<|E (Ba Df Z Bd Z) ?_;have o:=h.L.AD;have o:=h.S.AD;have o:b2<l:=Aaq f.1 R;refine Av (Ff Df Z Z f.2 Z Z Bg) ?_;intro _ a1 g;have a7:=g.AE;have a6:Below w.heap.size w a1:=hK.1.trans (CX g G hK.1.size);have l:rI a1 w.heap.size (Nq p vl vs) p:=⟨vl,vs,Z,(h.L.grown g.grown (fun k O e=>by have:=(h.L.lt k O).1;have:=f.1;injection e with e;omega)).Eu (by have:=b1.size;omega),(h.S.grown g.grown (fun k O e=>by have:=(h.S.lt k O).1;have:=f.1;injection e with e;omega)).Eu (by have:=b1.size;omega),⟨h.vv,h.vM,by have:=h.vN;omega,by have:=h.TV;omega⟩,h.vw,h.vx,G,G⟩;refine V Z<|DI Z (DZ Df Z a7 Z) (FD.tmp Z) ?_;have e:EC minus (kb::s)=some p:=by
  simp only[EC];rw[b0,zm];revert i;cases bad<;>cases t<;>cases FT p<;>simp
 rw[e];exact⟨a6,_,Z,l⟩
theorem kx{l:List UInt8}(h:l.length≤3):Bi l<16777216:=by
 have:=HV l;have:256^l.length≤256^3:=Acm AO h;omega
theorem Yr{l:List UInt8}(h:l.length≤4):Bi l<4294967296:=by
 have:=HV l;have:256^l.length≤256^4:=Acm AO h;omega
theorem AJ.dt{w:World}(hO:CD w c w')(h:AJ c w' i d k a n b)(hi:i≠0):CJ w' w.heap.size d k a n b:=by
 obtain⟨hl,f⟩:=h.own;refine⟨hl,?_⟩;rcases f with f|⟨g,cap,o,p,rfl,U,r,t,C,I,J,R,j⟩
 ·exact .inl f
 refine .inr ⟨g,cap,o,p,Z,?_,r,t,C,I,J,R,j⟩;rcases Aab g w.heap.size with hg|hg
 ·have l:=hO.BF g hg;rw[h.BF g (Bh j)] at l;exact(hi l).elim
 exact hg
theorem Qj(l:List UInt8)(hl:l.length≤8):
 Calls QP 199 #[St l] w (Bt fun v' w'=>AZ w w'∧v'=Wt (Bi l)):=by
 refine AY 18 #[.tmp 2] func199 Z<|Q<|V Z<|Ag<|Q<|M Z<|E (Ey underlying9 Z)<|M Z<|Ah<|An<|AG (σ:=Nat) (fun k=>[(0,St l),(2,Wt (Bi (l.take k))),(5,I l.length),(6,I k)]) (fun k w'=>k≤l.length∧w'=w) (fun k=>l.length-k) 0 AL ⟨G,Z⟩ ?_;rintro k p ⟨O,rfl⟩;refine Q<|E (AX Z Z)<|Ah<|Ag<|BA Z (fun j=>?_) fun j=>?_
 ·have f:k<l.length:=G;have o:=HV (l.take k);have g:Bi (l.take k)<72057594037927936:=by
   rw[Ur O] at o;have:256^k≤256^7:=Acm AO G;omega
  refine As<|Ag<|An<|Q<|M Z<|V Z<|cg ?_;refine M Z<|E (Uk Z Z g)<|M Z<|M Z<|E (Ks underlying9 Z Z G (show l[((k:Nat):Int).toNat]?=some l[k] by rw[TJ];exact dd f))<|E (OG underlying5 underlying278 Z)<|E (RW Z Z g l[k].toNat_lt)<|V Z ?_;refine cg<|E (Bc Z Z Ai Ai)<|M Z<|Ah ?_;have i:Bi (l.take (k+1))=Bi (l.take k)*256+l[k].toNat:=by rw[pk f,Jy]
  refine⟨k+1,?_,⟨f,Z⟩,G⟩;rw[i]
  repeat (first|exact Sub.nil _|refine Sub.cons Z ?_|refine WQ Z ?_)
 refine Az Z<|Q<|M Z<|V Z<|Af Z Z ?_;exact⟨Aar _ _,by rw[vq G]⟩
theorem ky(hs:s.length≤1073741824):Calls QP 272 #[St s] w (Bt fun v w'=>AZ w w'∧∃cs a1 f1 f2,v= .tuple #[.agg cs.toArray, .agg #[I f1,I f2], .bool (Hn s).isSome]∧rI w' w.heap.size cs a1∧∀r (k z:Nat),Hn s=some (r,k,z)→a1=r∧f1=k∧f2=z):=by
 obtain⟨c,hO,hc⟩:=Ay w;have g:=kx (l:=s.take 3) (by rw[kL];omega);have f:=Yr (l:=(s.drop 3).take 4) (by rw[kL];omega);obtain⟨n,o⟩:∃n,n=Bi (s.take 3):=⟨_,Z⟩;obtain⟨k,U⟩:∃k,k=Bi ((s.drop 3).take 4):=⟨_,Z⟩;rw[←o] at g;rw[←U] at f;refine AY 65 #[.cell 2 52, .cell 3 308, .tmp 4] func272 Z<|Q<|EK c 102 Kw fun w1 b2 c1 a8 f=>?_;refine EK c1 103 YQ fun w2 b3 c2 b5 AR=>V Z<|Ag<|Q<|M Z<|E (Ey underlying9 Z)<|E (AX Z Z)<|Ah<|BA Z (fun g=>?_) fun g=>?_
 ·refine Ag ?_;refine AM c2 [102] [2,1,2,3,0] [1,0,2,3,4] fun g g g=>vc Z g.kp (AR.D.kn Jz Z Z)<|Db Z (Cs (Ba Df Z f.D.AE Z)) ?_;rintro _ _ ⟨rfl,rfl⟩;refine⟨id,?_⟩;refine Kb Z Z Z (Am Df Z Z f.D Z Z Bg) ?_;rintro _ i ⟨f,i⟩;refine g.Bl i fun g=>LG Z (Am Jz Z Z AR.D Z Z Bg) ?_;rintro _ i ⟨AR,i⟩;try replace g:=g.tr i Z
  refine Ir Z Z<|AP ?_;refine Ml Z (DZ Df Z f.D.AE Z) (DZ Jz Z AR.AE Z) (FD.tmp Z) ?_;have e:Hn s=none:=by rw[Hn,zm G]
  rw[e];exact⟨hO.D.below,_,EV 0,0,0,Z,hG _ _,fun _ _ _ h=>by cases h⟩
 have i:15≤s.length:=G;refine As<|Q<|M Z<|E (IN underlying9 Z Z Ai Ai) ?_;refine ve (Ac c2 1 (Ab KE Z (Qj (s.take 3) (by rw[kL];omega)))) ?_;rintro i i ⟨i,b6,j,rfl⟩;rw[←o];refine E (EY underlying278 underlying3 Z G G)<|V Z<|Ag<|Ag ?_;obtain⟨x,hx⟩:∃x,x=TA (s.take (7+n)):=⟨_,Z⟩;obtain⟨y,hy⟩:∃y,y=Bi ((s.drop (7+n)).take 8):=⟨_,Z⟩;refine AM i [] [0,0,0,0,0,0,0,0,0,0,0,0,0,0,2,0,0,0,0,2,0,0] [0,1,2,3,4,5,6,7,8,9,10,11,12,13,15,16,17,18,14,19,20,21] fun j b7 g=>?_;have t:=f;have C:=AR;refine Bm Z Z<|AN Z (Ey underlying9 Z)<|Bm Z Z<|AN Z (Bc Z Z Ai Ai)<|AN Z (Bc Z Z Ai Ai)<|AN Z (AX Z Z)<|Bm Z Z ?_;apply Dc i false 14 (!decide ((y:Int)=(x:Int))) g.kp Mq
 ·intro j j;refine Bm Z Z<|Bm Z Z<|AN Z (Bc Z Z Ai Ai)<|Bm Z Z<|AN Z (Bc Z Z Ai Ai)<|AN Z (Bc Z Z Ai Ai)<|AN Z (Ip underlying9 Z Z Z G G G) ?_;rw[show((7:Int)+(n:Int)).toNat=7+n by omega,show((7:Int)+(n:Int)+8).toNat-(7+n)=8 by omega];refine Bm Z Z<|Bm Z Z<|AN Z (Bc Z Z Ai Ai)<|AN Z (IN underlying9 Z Z G G) ?_;rw[show((7:Int)+(n:Int)).toNat=7+n by omega];refine Db Z (Ac i 1 (Ab KE Z (Qj ((s.drop (7+n)).take 8) (by rw[kL];omega)))) ?_;rintro v30 i ⟨i,p,J,rfl⟩;refine g.Bl p fun g=>?_;rw[←hy];refine Db Z (Ac i 1 (Ab Uv Z (PG (s:=s.take (7+n)) (by rw[kL];omega)))) ?_;rintro i i ⟨i,i,p,rfl⟩;refine g.Bl i fun g=>?_;rw[←hx];refine AN Z (BK Z Z) ?_;exact Dd 14 j.D
 intro i j b0;refine AP ?_;refine BA Z (fun i=>?_) fun i=>?_
 ·refine Ag ?_;refine AM j [102] [2,1,2,3,0] [1,0,2,3,4] fun p p g=>vc Z g.kp (AR.D.kn Jz Z Z)<|Db Z (Cs (Ba Df Z f.D.AE Z)) ?_;rintro _ _ ⟨rfl,rfl⟩;refine⟨id,?_⟩;refine Kb Z Z Z (Am Df Z Z f.D Z Z Bg) ?_;rintro _ p ⟨f,p⟩;refine g.Bl p fun g=>LG Z (Am Jz Z Z AR.D Z Z Bg) ?_;rintro _ p ⟨AR,p⟩;try replace g:=g.tr p Z
  refine Ir Z Z<|AP ?_;refine Ml Z (DZ Df Z f.D.AE Z) (DZ Jz Z AR.AE Z) (FD.tmp Z) ?_;have e:Hn s=none:=by
   rw[Hn,ss G];by_cases g:s.length<15+Bi (s.take 3)
   ·rw[zm g]
   rw[ss g,ss];rw[←o] at g⊢;rw[←hx,←hy];intro g;simp[g] at i;omega
  rw[e];exact⟨hO.D.below,_,EV 0,0,0,Z,hG _ _,fun _ _ _ h=>by cases h⟩
 have g:15+n≤s.length:=by simp at i;omega
 have a7:y=x:=by simp at i;omega
 clear i;refine As<|Q<|M Z<|E (Ip underlying9 Z Z Z G G G) ?_;rw[show(7:Int).toNat-(3:Int).toNat=4 from Z,show(3:Int).toNat=3 from Z];refine ve (Ac j 1 (Ab KE Z (Qj ((s.drop 3).take 4) (by rw[kL];omega)))) ?_;rintro g g ⟨g,b1,i,rfl⟩;rw[←U];refine E (EY underlying278 underlying3 Z G G)<|M Z<|E (Bc Z Z Ai Ai)<|E (Bc Z Z Ai Ai)<|E (By (cells:=#[I k,I ((7:Int)+(n:Int)+8)]) Z Ao) ?_;refine Av (Am Jz Z Z AR.D Z Z Bg) ?_;rintro _ i ⟨AR,b4⟩;refine Ah<|Q<|M Z<|M Z<|E (Bc Z Z Ai Ai)<|E (Ip underlying9 Z Z Z G G G) ?_;rw[show((7:Int)+(n:Int)).toNat-(7:Int).toNat=n by omega,show(7:Int).toNat=7 from Z];refine ve (Ac g 5 (Ab yC Z (oU ((s.drop 7).take n) (by rw[kL,kK];omega)))) ?_;rintro g g ⟨j,a6,i,⟨cs,rfl,vl,vs,rfl,g,os,p,t,C,J,R⟩⟩;replace g:=g.Du i;replace os:=os.Du i;have i:=g.AD;have i:=os.AD;rw[Wv] at g os p t C J R⊢;have hf:Hn s=match EC plain ((s.drop 7).take n) with|none=>none|some r=>if k≤1073741824 then some (r,k,15+n) else none:=by
  rw[Hn,ss G,←o,ss G,←hx,←hy,zm a7,←U]<;>(cases EC plain ((s.drop 7).take n)<;>rfl)
 generalize EC plain ((s.drop 7).take n)=T at g os p t C J R hf⊢;refine M Z<|E (Aq Z Z)<|E (Aq Z Z)<|Av (Am Df Z Z f.D Z Z Bg) ?_;rintro _ a7 ⟨f,o⟩;refine V Z<|Ag ?_;obtain⟨q,U⟩:∃q,q=T.getD (EV 0):=⟨_,Z⟩;replace g:=g.D o;replace os:=os.D o;rw[←U] at f g os p t C J R⊢;have i:=Mv.drew j a7 [];refine Fq (fun W=>Gt W b2 [I q.Ar,I q.id,St q.name,St q.AK,vl,vs] 52∧Gt W b3 [I k,I ((7:Int)+(n:Int)+8)] 308) [1,1,0,0,0,0,1,2,0,2,3,0] [0,1,2,3,4,5,6,7,8,9,10,11] mixed Ao ?_;replace hO:=(((((((((hO.D a8).D b5).D b6).D b7).D b0).D b1).D b4).D a6).D o).D i;replace AR:=((AR.D a6).D o).D i;replace f:=f.D i;replace g:=g.D i;replace os:=os.D i;generalize a7.drew=o at i hO f AR g os⊢;refine vc Z ⟨f.AE,AR.AE⟩ (fun W i=>Ba Df Z i.1 Z)<|vc Z ⟨f.AE,AR.AE⟩ (fun W i=>Ba Jz Z i.2 Z)<|Bm Z Z<|AN Z (BO Z Z)<|Bm Z Z ?_;apply dL true 3 (Fb (k:Int)) (fun w'=>∃c',Acc j o [] c' w')
 case hl|hi|O|hg|hu|hv|hs|Hs|hd=>rfl
 case hC=>exact⟨f.AE,AR.AE⟩
 case hF=>exact fun _=>⟨_,Acc.refl _ _ _⟩
 case hT=>
  intro a6;simp only[Afh,Aeu];have a6:=Acc.refl j o [];refine AN Z (Aa QL Z)<|vc Z ⟨f.AE,AR.AE⟩ (fun W i=>Al AF Z i.2 Z)<|Db Z (Ac j 1 (Ab tZ Z (dT (k:Int)))) ?_;rintro i i ⟨i,i,j,rfl⟩;refine⟨fun _=>⟨(f.D i).AE,(AR.D i).AE⟩,?_⟩;exact AP ⟨Z,Sub.drop _ 3 _ Z Z,_,a6.D i⟩
 rintro i ⟨i,⟨i⟩⟩;refine Kb Z Z Z (Am Df Z Z f.D Z Z Bg) ?_;rintro _ i ⟨i,j⟩;replace f:=i;refine⟨fun _=>⟨f.AE,AR.D.AE⟩,?_⟩;refine LG Z (Am Jz Z Z AR.D Z Z Bg) ?_;rintro _ i ⟨i,j⟩;replace AR:=i;refine Ir Z Z<|AP<|Ml Z (DZ Df Z f.D.AE Z) (DZ Jz Z AR.AE Z) (FD.tmp Z) ?_;have f:Fb (k:Int)=decide (k≤1073741824):=by
  unfold Fb;rw[Adn,kg,pn,pn,pn];omega
 have hv:(Hn s).isSome=(T.isSome&&decide (k≤1073741824)):=by
  rw[hf];cases T with
  |none=>rfl
  |some r=>dsimp only;by_cases h:k≤1073741824<;>simp[h]
 rw[hv];refine⟨hO.D.below,_,q,(k:Int),(7:Int)+(n:Int)+8,?_,⟨vl,vs,Z,g.D.dt hO.D AO,os.D.dt hO.D AO,p,t,C,J,R⟩,?_⟩
 ·rw[f];cases T<;>rfl
 intro r f z h;rw[hf] at h;cases T with
 |none=>cases h
 |some a1=>
  dsimp only at h;split at h
  ·simp only[Abe,Ab1] at h;obtain⟨rfl,rfl,rfl⟩:=h;exact⟨U,Z,G⟩
  cases h
theorem ZX(h:Hn s=none∨(P≠[]∧Bi ((s.drop 3).take 4)≠m+P.length)):Gj (k+1) s P m n=(P,m,n):=by
 unfold Gj;cases ht:Hn s with
 |none=>rfl
 |some x=>
  obtain⟨r,f,z⟩:=x;dsimp only;rcases h with h|⟨hl,O⟩
  ·rw[ht] at h;cases h
  ·have i:f=Bi ((s.drop 3).take 4):=by
    unfold Hn at ht;split at ht
    ·cases ht
    ·split at ht
     ·cases ht
     ·split at ht
      ·cases g:EC plain ((s.drop 7).take (Bi (s.take 3))) with
       |none=>rw[g] at ht;cases ht
       |some j=>
        rw[g] at ht;dsimp only at ht;split at ht
        ·simp only[Abe,Ab1] at ht;exact ht.2.1.symm
        ·cases ht
      ·cases ht
   rw[ss];rw[ss hl,i];exact O
theorem Ns{f:Nat}{first bytes :Nat}{r:Rec}(h:Hn s=some (r,k,m))(O:P=[]∨k=first+P.length):Gj (f+1) s P first bytes=Gj f (s.drop m) (P++[r]) (if P=[] then k else first) (bytes+m):=by
 rw[Gj,h];dsimp only;rw[if_pos];rcases O with rfl|e
 ·simp
 ·by_cases hl:P=[]
  ·subst hl;simp
  ·rw[ss hl];exact e
def IH(c:Nat→Nat)(w:World)(css:List (List Value))(l:List Rec):Prop:=css.length=l.length∧∀(k:Nat) cs x,css[k]?=some cs→l[k]?=some x→∃vl vs,cs=[I x.Ar,I x.id,St x.name,St x.AK,vl,vs]∧AJ c w 5 TI 1 vl x.list.length (RQ x.list)∧AJ c w 5 rH 2 vs x.Bo.length (Nr x.Bo)∧
 (Go.Eng.Int64 x.Ar∧Go.Eng.Int64 x.id∧x.name.length≤140737488355328∧x.AK.length≤140737488355328)∧(∀y∈x.list,Go.Eng.Int64 y)∧(∀y∈x.Bo,Go.Eng.Int64 y.1∧Go.Eng.Int64 y.2)∧x.list.length≤140737488355328∧x.Bo.length≤140737488355328
theorem IH.D{c:Nat→Nat}{w:World}(h:IH c w css P)(m:Mv c w c' w' e:=by exact Go.Eng.KU)(hi:AU e 5=false:=by rfl):IH c' w' css P:=⟨h.1,fun k cs x f g=>by
 obtain⟨vl,vs,I,a,b,r⟩:=h.2 k cs x f g;exact⟨vl,vs,I,a.D m hi,b.D m hi,r⟩⟩
theorem oV(c:Nat→Nat)(w:World):IH c w [] []:=⟨Z,fun k cs x h=>by simp at h⟩
theorem IH.snoc{x:Rec}(h:IH c w css P)(vl:AJ c w 5 TI 1 a x.list.length (RQ x.list))(b:AJ c w 5 rH 2 y x.Bo.length (Nr x.Bo))
 (r:(Go.Eng.Int64 x.Ar∧Go.Eng.Int64 x.id∧x.name.length≤140737488355328∧x.AK.length≤140737488355328)∧(∀vs∈x.list,Go.Eng.Int64 vs)∧(∀vs∈x.Bo,Go.Eng.Int64 vs.1∧Go.Eng.Int64 vs.2)∧x.list.length≤140737488355328∧x.Bo.length≤140737488355328):
 IH c w (css++[[I x.Ar,I x.id,St x.name,St x.AK,a,y]]) (P++[x]):=by
 refine⟨by simp[h.1],fun k cs vs f g=>?_⟩;rcases Aet k css.length with O|O|O
 ·rw[Abh O] at f;rw[Abh (by rw[←h.1];exact O)] at g;exact h.2 k cs vs f g
 ·subst O;rw[Abb (kM _),Acl] at f;rw[h.1,Abb (kM _),Acl] at g;simp only[Afw,Abe] at f g;subst f;subst g;exact⟨a,y,Z,vl,b,r⟩
 rw[Aam (by simp;omega)] at f;cases f
def aaQ(c:Nat→Nat)(w:World)(cs:List Value)(x:Rec):Prop:=∃vl vs,cs=[I x.Ar,I x.id,St x.name,St x.AK,vl,vs]∧AJ c w 5 TI 1 vl x.list.length (RQ x.list)∧AJ c w 5 rH 2 vs x.Bo.length (Nr x.Bo)∧
 ((Go.Eng.Int64 x.Ar∧Go.Eng.Int64 x.id∧x.name.length≤140737488355328∧x.AK.length≤140737488355328)∧(∀y∈x.list,Go.Eng.Int64 y)∧(∀y∈x.Bo,Go.Eng.Int64 y.1∧Go.Eng.Int64 y.2)∧x.list.length≤140737488355328∧x.Bo.length≤140737488355328)
abbrev af:=List Value×Rec×Nat×Nat
def Fl(l:List af):Nat:=(l.map fun x=>x.2.2.2).sum
theorem Dx(l:List af)(cs:List Value)(q:Rec)(k z:Nat):Fl (l++[(cs,q,k,z)])=Fl l+z:=by simp[Fl]
def QF(s:List UInt8)(pre:List af)(x:af)(d:Nat→Nat)(A:World):Prop:=Hn (s.drop (Fl pre))=some (x.2.1,x.2.2.1,x.2.2.2)∧aaQ d A x.1 x.2.1∧(FT x.2.1=true∧x.2.2.1≤1073741824∧Fl pre+x.2.2.2≤s.length)
def vy(s:List UInt8)(L:List af):Prop:=Hn (s.drop (Fl L))=none
theorem kz(hs:s.length≤1073741824)(f:AI j h 70 k [St s] 9):
 aq QP 271 [.pointer (some ⟨k,0,none⟩)] (fun x:af=>[.agg x.1.toArray, .agg #[I x.2.2.1,I x.2.2.2]]) [70,53,54] [] (QF s) (vy s) j h:=by
 intro l J g c1 W K g hK U c0 hy o;have c0:∀i∈[70,53,54],AU K i=false:=fun i hi=>BD hK (by simpa using hi);replace f:=f.D g (c0 70 Bb);have hJ:JC (J []) [70,53,54] c1 W:=⟨o,fun _ _ _ _ w0 m=>U _ _ _ _ _ w0 m⟩;show Calls _ _ [_,_].toArray _ _
 refine AY 25 #[] func271 Z<|An<|AG (σ:=List af) (fun g=>[(0, .func (.yield l) #[] #[]),(1, .pointer (some ⟨k,0,none⟩))]) (fun g w'=>∃c',AI c' w' 70 k [St (s.drop (Fl g))] 9∧JC (J g) [70,53,54] c' w'∧Fl g≤s.length) (fun g=>s.length-Fl g) [] AL ⟨_,f,hJ,by simp[Fl]⟩ ?_;rintro pre g ⟨g,f,hJ,hp⟩;obtain⟨u,hu⟩:∃u,u=s.drop (Fl pre):=⟨_,Z⟩;have c0:u.length=s.length-Fl pre:=by rw[hu,kK]
 rw[←hu] at f;refine An<|Q<|E (Al CQ Z f.AE Z)<|ve (Ac g 5 (Ab yr Z (ky (s:=u) G))) ?_;rintro g w1 ⟨c1,C,g,⟨cs,q,f1,f2,rfl,⟨vl,vs,rfl,t,os,a6⟩,R⟩⟩;replace t:=t.Du g;replace os:=os.Du g;have g:=t.AD;have g:=os.AD;refine M Z<|E (Aq Z Z)<|E (Aq Z Z)<|E (Aq Z Z)<|EK c1 53 Kw fun w2 b3 c2 c0 AR=>?_;refine EK c2 54 YQ fun g b4 g o Bd=>Av (Am Df Z Z AR.D Z Z Bg) ?_;rintro _ g ⟨AR,p⟩;refine Av (Am Jz Z Z Bd.D Z Z Bg) ?_;rintro _ a1 ⟨Bd,g⟩;refine V Z<|Ag<|Ag ?_;rcases hT:Hn u with _|⟨r,b1,z⟩
 ·rw[Option.isSome_none];refine cg<|M Z<|E (BL Z)<|M Z ?_;replace f:=((((f.D C).D c0).D o).D p).D g;replace hJ:=((((hJ.D C).D c0).D o).D p).D g;replace t:=(((t.D c0).D o).D p).D g;replace os:=(((os.D c0).D o).D p).D g;replace AR:=AR.D g;apply YC false 5 true (fun w'=>a1=w')
  case hl|hg|hu|hv|hs|Hs|hd=>rfl
  case hF=>exact fun _=>rfl
  case hT=>exact fun w0=>absurd w0 AO
  rintro _ rfl;refine Ah<|GO Z (fun _=>?_) (fun w0=>absurd w0 AO);refine FK Z ?_;exact⟨_, .inl ⟨pre,by rw[vy,←hu];exact hT,hJ.AB⟩⟩
 rw[Option.isSome_some];obtain⟨rfl,rfl,rfl⟩:=R r b1 z hT;obtain⟨R,R,a7,a8⟩:=PL hT;refine cg<|M Z<|E (BL Z)<|M Z<|NF Z Z Z<|M Z<|NF Z Z Z<|E (Ba Df Z AR.D.AE Z)<|NF Z Z Z<|E (Ba Jz Z Bd.AE Z)<|NF Z Z Z ?_;obtain⟨R,R,a1⟩:=hy pre ([I q.Ar,I q.id,St q.name,St q.AK,vl,vs],q,b1,z) _ _ (((((hJ.D C).D c0).D o).D p).D g).AB ⟨by rw[←hu];exact hT,⟨vl,vs,Z,((((t.D c0).D o).D p).D g),((((os.D c0).D o).D p).D g),a6⟩,a7,a8,by dsimp only;omega⟩;refine ve (FQ Z Z a1) ?_;rintro _ b0 ⟨b,a8,rfl,t,a7,a6⟩;replace f:=((((f.D C).D c0).D o).D p).D g;replace AR:=AR.D g;replace f:=f.D t (BD R Bb);replace AR:=AR.D t (BD R Bb);replace Bd:=Bd.D t (BD R Bb);refine NF Z Z Z<|E (BL Z)<|La (by rfl) Z Z Z ?_;refine Ah<|BA Z (fun g=>?_) fun g=>?_
 ·refine FK Z ?_;exact⟨_, .inr ⟨_,a6 g⟩⟩
 have hJ:JC (J (pre++[([I q.Ar,I q.id,St q.name,St q.AK,vl,vs],q,b1,z)])) [70,53,54] a8 b0:=⟨a7 g,fun _ _ _ _ w0 m=>U _ _ _ _ _ w0 m⟩;refine As<|cg<|E (Al CQ Z f.AE Z)<|E (Aa Uu Z)<|E (Al AF Z Bd.AE Z)<|E (GB underlying9 Z Z Ai Ai) ?_;refine Av (Ap CQ Z Z ra ra f Z) ?_;rintro _ g ⟨f,g⟩;refine Ah ?_;exact⟨pre++[_],AL,⟨_,by rw[Dx,←Ab7,←hu];exact f,hJ.D,by rw[Dx];omega⟩,by rw[Dx];omega⟩
theorem rJ:
 Calls QP 225 #[St s] w (Bt fun u w'=>AZ w w'∧∃b1,u= .func (.func 271) #[] #[.pointer (some ⟨b1,0,none⟩)]∧w.heap.size≤b1∧Gt w' b1 [St s] 9):=by
 obtain⟨c,hO,hc⟩:=Ay w;refine AY 4 #[.tmp 2] func225 Z<|Q<|Mn c 101 fun w1 b1 c1 g f=>?_;refine V Z<|Q<|E (Dn Z)<|V Z<|Af Z Z<|⟨hO.D.below,_,Z,?_,f.AE⟩;rcases Aab b1 w.heap.size with h|h
 ·replace hO:=hO.D g;have:=hO.BF _ h;rw[f.BF] at this;cases this
 exact h
theorem Px{z:Nat}{r:Rec}(h:Hn s=some (r,k,z))(hl:P≠[])(O:k≠n+P.length):Gj (m+1) s P n i=(P,n,i):=by
 rw[Gj,h];dsimp only;rw[if_neg (by simp[hl,O])]
theorem _root_.Go.Eng.CD.acc{w0 w:World}(_:CD w0 c w)(K:List Nat):Acc c w K c w:=Acc.refl _ _ _
structure vO (w:World) (s:List UInt8) (pre:List af) (d:Nat→Nat) (A:World) (b2 b3 b4:Nat) (first:Nat):Prop where
 hO:CD w d A
 row:∃vl css,AI d A 102 b2 [vl] 94∧AJ d A 7 TX 6 vl pre.length css.flatten∧IH d A css (pre.map fun x=>x.2.1)
 AR:AI d A 103 b3 [I first] 3
 Bd:AI d A 104 b4 [I (Fl pre)] 3
 hf:first≤1073741824
 hp:Fl pre≤s.length
 hl:pre.length≤Fl pre
 KG:Ho s=Gj (s.length-Fl pre+1) (s.drop (Fl pre)) (pre.map fun x=>x.2.1) first (Fl pre)
theorem vO.D{w :World}{pre:List af}{d f:Nat→Nat}{b4 first:Nat}(w1:vO w s pre d h k n b4 first)(m:Mv d h f N e:=by exact Go.Eng.KU)(i:AU e 0=false:=by rfl)(j:AU e 102=false:=by rfl)(l:AU e 103=false:=by rfl)(o:AU e 104=false:=by rfl)(r:AU e 7=false:=by rfl)(p:AU e 5=false:=by rfl):vO w s pre f N k n b4 first:=
 ⟨w1.hO.D m i,let⟨vl,g,a,b,I⟩:=w1.row;⟨vl,g,a.D m j,b.D m r,I.D m p⟩,w1.AR.D m l,w1.Bd.D m o,w1.hf,w1.hp,w1.hl,w1.KG⟩
def zr(w:World)(s:List UInt8)(d:Nat→Nat)(A:World)(b2 b3 b4:Nat):Prop:=∃vl f l first bytes,CD w d A∧AI d A 102 b2 [vl] 94∧AJ d A 7 TX 6 vl l.length f.flatten∧IH d A f l∧AI d A 103 b3 [I (first:Nat)] 3∧AI d A 104 b4 [I (bytes:Nat)] 3∧Ho s=(l,first,bytes)
theorem zr.D{w :World}{d f:Nat→Nat}{b4:Nat}(w1:zr w s d h k n b4)(m:Mv d h f N e:=by exact Go.Eng.KU)(t:AU e 0=false:=by rfl)(C:AU e 102=false:=by rfl)(J:AU e 103=false:=by rfl)(R:AU e 104=false:=by rfl)(a1:AU e 7=false:=by rfl)(U:AU e 5=false:=by rfl):zr w s f N k n b4:=by
 obtain⟨vl,r,l,first,bytes,f,g,i,j,o,p,I⟩:=w1;exact⟨vl,r,l,first,bytes,f.D m t,g.D m C,i.D m a1,j.D m U,o.D m J,p.D m R,I⟩
theorem kA(hs:s.length≤1073741824):Calls QP 152 #[St s] w (Bt fun v w'=>AZ w w'∧∃c' vl css,v= .tuple #[vl,I ((Ho s).2.1:Nat),I ((Ho s).2.2:Nat)]∧AJ c' w' 7 TX 6 vl (Ho s).1.length css.flatten∧IH c' w' css (Ho s).1∧CD w c' w'):=by
 obtain⟨c,hO,hc⟩:=Ay w;refine AY 34 #[.cell 2 94, .cell 3 3, .cell 4 3] func152 Z<|Q<|EK c 102 uf fun w1 b2 c1 C g=>?_;refine EK c1 103 QN fun w2 b3 c2 j AR=>EK c2 104 QN fun i b4 i o Bd=>Ah<|Ag<|Q<|M Z<|ve (Ac i 70 (Ab xZ Z (rJ (s:=s)))) ?_;rintro i a1 ⟨t,i,R,⟨U,rfl,J,h6⟩⟩;have h8:AI t a1 70 U [St s] 9:=⟨h6,R _ J⟩;refine Ah<|WC.mono (N:=(fun e w'=>∃d Djq,Sub [(4000000, .tuple #[I' Djq]),(2, .pointer (some ⟨b2,0,none⟩)),(3, .pointer (some ⟨b3,0,none⟩)),(4, .pointer (some ⟨b4,0,none⟩))] e∧zr w s d w' b2 b3 b4∧Kv d w' Djq)) ?_ ?_
 ·refine An ?_;replace hO:=(((hO.D C).D j).D o).D i;replace g:=((g.D j).D o).D i;replace AR:=(AR.D o).D i;replace Bd:=Bd.D i;refine NK (α:=af) (encs:=fun x=>[.agg x.1.toArray, .agg #[I x.2.2.1,I x.2.2.2]]) (κ:=[70,53,54]) (F:=[]) (Qjq:=QF s) (Fin:=vy s)
   (fun pre d A=>∃first,vO w s pre d A b2 b3 b4 first) [(0,fun _ d A=>zr w s d A b2 b3 b4)] (fun _ _ _=>False) [102,103,104,105,106,7] Z Z yq (kz hs h8) Z (fun _=>rfl) Bb Z
   (fun _ d A c9 B ⟨f,h⟩ m=>⟨f,h.D m⟩) (fun p hp=>by simp only[pv] at hp;subst hp;exact fun _ d A c9 B h m=>h.D m) (fun s d A c9 B h _=>h.elim)
   ⟨0,hO,⟨_,[],g,Br _ _ _ _ _,oV _ _⟩,AR,Bd,G,by simp[Fl],by simp[Fl],Z⟩ ?_ ?_ ?_ ?_
  ·clear hO g AR Bd h8 h6;rintro l pre ⟨cs,r,k,z⟩ d A ⟨first,hO,⟨vl,css,g,i,b0⟩,AR,Bd,hf,hp,hl,KG⟩ ⟨hT,o,t,O,C⟩;dsimp only at hT o t O C;have t:=PL hT;obtain⟨a1,a6,rfl,h1,h2,h3⟩:=o;obtain⟨o,h0⟩:∃o,o=pre.map fun x=>x.2.1:=⟨_,Z⟩;have b7:o.length=pre.length:=by rw[h0,List.length_map]
   rw[←h0] at b0 KG;have a8:=Acc.refl d A [102,103,104,105,106,7];have j1:=i.AD;have cx:=i.AA;have t:=h1.AD;have t:=h2.AD;refine Q<|EK d 105 Kw fun t b5 t R Bv=>?_;refine Av (Am Df Z Z Bv Z Z Bg) ?_;rintro _ C ⟨Bv,U⟩;refine Ah<|cg<|EK t 106 YQ fun t b6 c8 C b9=>?_;refine Av (Am Jz Z Z b9 Z Z Bg) ?_;rintro _ t ⟨b9,J⟩;refine Ah<|⟨_,a8.D,?_⟩;intro A2 j;replace Bv:=((Bv.D C).D J).D j;replace Bv:AI _ _ 105 b5 [I r.Ar,I r.id,St r.name,St r.AK,a1,a6] 52:=Bv;replace b9:=b9.D j;replace b9:AI _ _ 106 b6 [I (k:Nat),I (z:Nat)] 308:=b9;have a8:=(((((hO.D R).D U).D C).D J).D j).acc [102,103,104,105,106,7];refine An<|Ag<|Q<|E (Al Hm Z g.D.AE Z)<|E (BN GQ) ?_;refine E (BO Z Z)<|Ah<|BA Z (fun t=>?_) fun t=>?_
   ·refine cg<|E (Aa QL Z)<|E (Al AF Z b9.AE Z) ?_;refine Av (Ap AF Z Z ra ra AR.D Z) ?_;rintro _ c4 ⟨AR,b1⟩;refine Ah<|Ag<|Q<|E (Aa QL Z)<|E (Al AF Z b9.D.AE Z)<|E (Al AF Z AR.AE Z)<|E (Al Hm Z g.D.AE Z)<|E (BN GQ) ?_;refine E (Bc Z Z Ai Ai)<|E (BK Z Z)<|Ah ?_;refine BA Z (fun h7=>?_) fun h7=>?_
    ·refine Az Z ?_;replace hO:=(((((hO.D R).D U).D C).D J).D j).D b1;replace g:=(((((g.D R).D U).D C).D J).D j).D b1;replace i:=(((((i.D R).D U).D C).D J).D j).D b1;replace b0:=(((((b0.D R).D U).D C).D J).D j).D b1;replace Bd:=(((((Bd.D R).D U).D C).D J).D j).D b1;replace a8:=a8.D b1
     first
     |(exfalso;omega)
     |(have e:Ho s=(o,first,Fl pre):=by rw[KG];exact Px hT (fun e=>by rw[e] at b7;simp at b7;omega) G);exact⟨_,a8,vl,css,o,first,Fl pre,hO,g,by rw[b7];exact i,b0,AR,Bd,e⟩
    refine As<|WC.mono (N:=(fun _ c4=>∃c9,Acc c8 A2 [102,103,104,105,106,7] c9 c4∧∃f9,vO w s (pre++[([I r.Ar,I r.id,St r.name,St r.AK,a1,a6],r,k,z)]) c9 c4 b2 b3 b4 f9)) ?_ ?_
    ·refine EB c8 [7,102] [2,1,2,2,1,0,1,0,2,3] (.Au 1 (.Au 4 (.Au 5 (.Au 6 (.Au 7 (.two 0 (.one 2 (.one 3 (.one 8 (.one 9 .nil)))) 2 (.one 0 (.one 3 (.one 8 (.one 9 .nil)))))))))) fun j2 a7 t=>?_;refine Cj Z Z Z t.kp (Bv.D.kn Df Z Z) Z<|Cj Z Z Z t.kp (Bd.D.kb AF Z Z) Z<|Cd Z (Aa Uu Z)<|Cj Z Z Z t.kp (b9.D.kb AF Z Z) Z<|Cd Z (Bc Z Z Ai Ai) ?_;refine Ck ?_ ?_
     ·refine EM Z (Cs (Al Hm Z g.D.AE Z)) ?_;rintro _ _ ⟨rfl,rfl⟩;refine⟨id,?_⟩;refine EZ Z (AH c8 125 GQ Z Z Z Z Z) ?_;rintro _ j3 ⟨h4,b8,rfl,c5,b8⟩;refine t.Bl c5 fun t=>EZ Z (Ax GQ Z Z i.D (Aw underlying94 b8.AE.AT Z Bg) Fh Fg) ?_;rintro j0 j4 ⟨c0,c7,i⟩;refine t.Bl c7 fun t=>?_;have h9:=i.AD;have h5:=i.AA;refine AV<|CY Z Z Z (Ap Hm Z Z ra ra g.D Z) ?_;rintro _ j5 ⟨g,c6⟩;refine t.Bl c6 fun t=>AV<|Bj Z Z Z (Ap AF Z Z ra ra Bd.D Z) ?_;rintro _ c0 ⟨Bd,e0⟩;refine Bs ?_;have e5:(css++[[I r.Ar,I r.id,St r.name,St r.AK,a1,a6]]).flatten=css.flatten++[I r.Ar,I r.id,St r.name,St r.AK,a1,a6]:=by simp
      have c0:((pre++[([I r.Ar,I r.id,St r.name,St r.AK,a1,a6],r,k,z)]):List af).length=pre.length+1:=by simp
      have c3:((pre++[([I r.Ar,I r.id,St r.name,St r.AK,a1,a6],r,k,z)]):List af).map (fun x=>x.2.1)=o++[r]:=by simp[h0]
      have e9:o=[]∨k=first+o.length:=by
       by_cases e2:o.length=0
       ·exact .inl (rY e2)
       right;omega
      have e8:=Ns (f:=s.length-Fl pre) (first:=first) (bytes:=Fl pre) hT e9;have e7:=Jb (s.length-Fl pre) (s.length-(Fl pre+z)+1) ((s.drop (Fl pre)).drop z) (o++[r]) (if o=[] then k else first) (Fl pre+z) (by rw[kK,kK];omega) (by rw[kK,kK];omega);rw[e8,e7,Ab7] at KG;have e6:=(((((((((((b0.D R).D U).D C).D J).D j).D b1).D a7).D c5).D c7).D c6).D e0).snoc (((((((((((h1.D R).D U).D C).D J).D j).D b1).D a7).D c5).D c7).D c6).D e0) (((((((((((h2.D R).D U).D C).D J).D j).D b1).D a7).D c5).D c7).D c6).D e0) h3;replace hO:=((((((((((hO.D R).D U).D C).D J).D j).D b1).D a7).D c5).D c7).D c6).D e0;replace a8:=(((((a8.D b1).D a7).D c5).D c7).D c6).D e0;replace i:=(i.D c6).D e0;replace g:=g.D e0;refine⟨_,a8,(if o=[] then k else first),hO,⟨_,css++[[I r.Ar,I r.id,St r.name,St r.AK,a1,a6]],g,by rw[e5,c0];exact i,by rw[c3];exact e6⟩,?_,by rw[Dx,Acs];exact Bd,by split<;>omega,by rw[Dx];omega,by rw[Dx,c0];omega,by rw[Dx,c3];exact KG⟩;replace AR:=((((AR.D a7).D c5).D c7).D c6).D e0
      first
      |(rw[zm (rY G)];exact AR)
      |(rw[ss (fun e=>by rw[e] at b7;simp at b7;omega)];exact AR)
     refine EM Z (AH c8 125 GQ Z Z Z Z Z) ?_;rintro _ e0 ⟨h4,e0,rfl,e3,b8⟩;refine t.Bl e3 fun t=>EZ Z (Cs (Al Hm Z g.D.AE Z)) ?_;rintro _ _ ⟨rfl,rfl⟩;refine⟨id,?_⟩;refine EZ Z (Ax GQ Z Z i.D (Aw underlying94 b8.AE.AT Z Bg) Fh Fg) ?_;rintro j0 e0 ⟨e0,e4,i⟩;refine t.Bl e4 fun t=>?_;have h9:=i.AD;have h5:=i.AA;refine AV<|CY Z Z Z (Ap Hm Z Z ra ra g.D Z) ?_;rintro _ e0 ⟨g,e0⟩;refine t.Bl e0 fun t=>AV<|Bj Z Z Z (Ap AF Z Z ra ra Bd.D Z) ?_;rintro _ e1 ⟨Bd,e1⟩;refine Bs ?_;have e5:(css++[[I r.Ar,I r.id,St r.name,St r.AK,a1,a6]]).flatten=css.flatten++[I r.Ar,I r.id,St r.name,St r.AK,a1,a6]:=by simp
     have c0:((pre++[([I r.Ar,I r.id,St r.name,St r.AK,a1,a6],r,k,z)]):List af).length=pre.length+1:=by simp
     have c3:((pre++[([I r.Ar,I r.id,St r.name,St r.AK,a1,a6],r,k,z)]):List af).map (fun x=>x.2.1)=o++[r]:=by simp[h0]
     have e9:o=[]∨k=first+o.length:=by
      by_cases e2:o.length=0
      ·exact .inl (rY e2)
      right;omega
     have e8:=Ns (f:=s.length-Fl pre) (first:=first) (bytes:=Fl pre) hT e9;have e7:=Jb (s.length-Fl pre) (s.length-(Fl pre+z)+1) ((s.drop (Fl pre)).drop z) (o++[r]) (if o=[] then k else first) (Fl pre+z) (by rw[kK,kK];omega) (by rw[kK,kK];omega);rw[e8,e7,Ab7] at KG;have e6:=(((((((((((b0.D R).D U).D C).D J).D j).D b1).D a7).D e3).D e4).D e0).D e1).snoc (((((((((((h1.D R).D U).D C).D J).D j).D b1).D a7).D e3).D e4).D e0).D e1) (((((((((((h2.D R).D U).D C).D J).D j).D b1).D a7).D e3).D e4).D e0).D e1) h3;replace hO:=((((((((((hO.D R).D U).D C).D J).D j).D b1).D a7).D e3).D e4).D e0).D e1;replace a8:=(((((a8.D b1).D a7).D e3).D e4).D e0).D e1;replace i:=(i.D e0).D e1;replace g:=g.D e1;refine⟨_,a8,(if o=[] then k else first),hO,⟨_,css++[[I r.Ar,I r.id,St r.name,St r.AK,a1,a6]],g,by rw[e5,c0];exact i,by rw[c3];exact e6⟩,?_,by rw[Dx,Acs];exact Bd,by split<;>omega,by rw[Dx];omega,by rw[Dx,c0];omega,by rw[Dx,c3];exact KG⟩;replace AR:=((((AR.D a7).D e3).D e4).D e0).D e1
     first
     |(rw[zm (rY G)];exact AR)
     |(rw[ss (fun e=>by rw[e] at b7;simp at b7;omega)];exact AR)
    rintro e3 c4 e4;exact e4
   refine As<|Ag<|Q<|E (Aa QL Z)<|E (Al AF Z b9.AE Z)<|E (Al AF Z AR.D.AE Z)<|E (Al Hm Z g.D.AE Z)<|E (BN GQ) ?_;refine E (Bc Z Z Ai Ai)<|E (BK Z Z)<|Ah ?_;refine BA Z (fun h7=>?_) fun h7=>?_
   ·refine Az Z ?_;replace hO:=((((hO.D R).D U).D C).D J).D j;replace g:=((((g.D R).D U).D C).D J).D j;replace i:=((((i.D R).D U).D C).D J).D j;replace b0:=((((b0.D R).D U).D C).D J).D j;replace AR:=((((AR.D R).D U).D C).D J).D j;replace Bd:=((((Bd.D R).D U).D C).D J).D j
    first
    |(exfalso;omega)
    |(have e:Ho s=(o,first,Fl pre):=by rw[KG];exact Px hT (fun e=>by rw[e] at b7;simp at b7;omega) G);exact⟨_,a8,vl,css,o,first,Fl pre,hO,g,by rw[b7];exact i,b0,AR,Bd,e⟩
   refine As<|WC.mono (N:=(fun _ c4=>∃c9,Acc c8 A2 [102,103,104,105,106,7] c9 c4∧∃f9,vO w s (pre++[([I r.Ar,I r.id,St r.name,St r.AK,a1,a6],r,k,z)]) c9 c4 b2 b3 b4 f9)) ?_ ?_
   ·refine EB c8 [7,102] [2,1,2,2,1,0,1,0,2,3] (.Au 1 (.Au 4 (.Au 5 (.Au 6 (.Au 7 (.two 0 (.one 2 (.one 3 (.one 8 (.one 9 .nil)))) 2 (.one 0 (.one 3 (.one 8 (.one 9 .nil)))))))))) fun b1 b1 t=>?_;refine Cj Z Z Z t.kp (Bv.D.kn Df Z Z) Z<|Cj Z Z Z t.kp (Bd.D.kb AF Z Z) Z<|Cd Z (Aa Uu Z)<|Cj Z Z Z t.kp (b9.D.kb AF Z Z) Z<|Cd Z (Bc Z Z Ai Ai) ?_;refine Ck ?_ ?_
    ·refine EM Z (Cs (Al Hm Z g.D.AE Z)) ?_;rintro _ _ ⟨rfl,rfl⟩;refine⟨id,?_⟩;refine EZ Z (AH c8 125 GQ Z Z Z Z Z) ?_;rintro _ b9 ⟨h4,b9,rfl,e0,b8⟩;refine t.Bl e0 fun t=>EZ Z (Ax GQ Z Z i.D (Aw underlying94 b8.AE.AT Z Bg) Fh Fg) ?_;rintro j0 b9 ⟨b9,e1,i⟩;refine t.Bl e1 fun t=>?_;have h9:=i.AD;have h5:=i.AA;refine AV<|CY Z Z Z (Ap Hm Z Z ra ra g.D Z) ?_;rintro _ b9 ⟨g,b9⟩;refine t.Bl b9 fun t=>AV<|Bj Z Z Z (Ap AF Z Z ra ra Bd.D Z) ?_;rintro _ c9 ⟨Bd,c9⟩;refine Bs ?_;have e5:(css++[[I r.Ar,I r.id,St r.name,St r.AK,a1,a6]]).flatten=css.flatten++[I r.Ar,I r.id,St r.name,St r.AK,a1,a6]:=by simp
     have c0:((pre++[([I r.Ar,I r.id,St r.name,St r.AK,a1,a6],r,k,z)]):List af).length=pre.length+1:=by simp
     have c3:((pre++[([I r.Ar,I r.id,St r.name,St r.AK,a1,a6],r,k,z)]):List af).map (fun x=>x.2.1)=o++[r]:=by simp[h0]
     have e9:o=[]∨k=first+o.length:=by
      by_cases e2:o.length=0
      ·exact .inl (rY e2)
      right;omega
     have e8:=Ns (f:=s.length-Fl pre) (first:=first) (bytes:=Fl pre) hT e9;have e7:=Jb (s.length-Fl pre) (s.length-(Fl pre+z)+1) ((s.drop (Fl pre)).drop z) (o++[r]) (if o=[] then k else first) (Fl pre+z) (by rw[kK,kK];omega) (by rw[kK,kK];omega);rw[e8,e7,Ab7] at KG;have e6:=((((((((((b0.D R).D U).D C).D J).D j).D b1).D e0).D e1).D b9).D c9).snoc ((((((((((h1.D R).D U).D C).D J).D j).D b1).D e0).D e1).D b9).D c9) ((((((((((h2.D R).D U).D C).D J).D j).D b1).D e0).D e1).D b9).D c9) h3;replace hO:=(((((((((hO.D R).D U).D C).D J).D j).D b1).D e0).D e1).D b9).D c9;replace a8:=((((a8.D b1).D e0).D e1).D b9).D c9;replace i:=(i.D b9).D c9;replace g:=g.D c9;refine⟨_,a8,(if o=[] then k else first),hO,⟨_,css++[[I r.Ar,I r.id,St r.name,St r.AK,a1,a6]],g,by rw[e5,c0];exact i,by rw[c3];exact e6⟩,?_,by rw[Dx,Acs];exact Bd,by split<;>omega,by rw[Dx];omega,by rw[Dx,c0];omega,by rw[Dx,c3];exact KG⟩;replace AR:=(((((((((AR.D R).D U).D C).D J).D j).D b1).D e0).D e1).D b9).D c9
     first
     |(rw[zm (rY G)];exact AR)
     |(rw[ss (fun e=>by rw[e] at b7;simp at b7;omega)];exact AR)
    refine EM Z (AH c8 125 GQ Z Z Z Z Z) ?_;rintro _ b9 ⟨h4,b9,rfl,b9,b8⟩;refine t.Bl b9 fun t=>EZ Z (Cs (Al Hm Z g.D.AE Z)) ?_;rintro _ _ ⟨rfl,rfl⟩;refine⟨id,?_⟩;refine EZ Z (Ax GQ Z Z i.D (Aw underlying94 b8.AE.AT Z Bg) Fh Fg) ?_;rintro j0 c8 ⟨c8,c8,i⟩;refine t.Bl c8 fun t=>?_;have h9:=i.AD;have h5:=i.AA;refine AV<|CY Z Z Z (Ap Hm Z Z ra ra g.D Z) ?_;rintro _ b8 ⟨g,b8⟩;refine t.Bl b8 fun t=>AV<|Bj Z Z Z (Ap AF Z Z ra ra Bd.D Z) ?_;rintro _ t ⟨Bd,t⟩;refine Bs ?_;have e5:(css++[[I r.Ar,I r.id,St r.name,St r.AK,a1,a6]]).flatten=css.flatten++[I r.Ar,I r.id,St r.name,St r.AK,a1,a6]:=by simp
    have c0:((pre++[([I r.Ar,I r.id,St r.name,St r.AK,a1,a6],r,k,z)]):List af).length=pre.length+1:=by simp
    have c3:((pre++[([I r.Ar,I r.id,St r.name,St r.AK,a1,a6],r,k,z)]):List af).map (fun x=>x.2.1)=o++[r]:=by simp[h0]
    have e9:o=[]∨k=first+o.length:=by
     by_cases e2:o.length=0
     ·exact .inl (rY e2)
     right;omega
    have e8:=Ns (f:=s.length-Fl pre) (first:=first) (bytes:=Fl pre) hT e9;have e7:=Jb (s.length-Fl pre) (s.length-(Fl pre+z)+1) ((s.drop (Fl pre)).drop z) (o++[r]) (if o=[] then k else first) (Fl pre+z) (by rw[kK,kK];omega) (by rw[kK,kK];omega);rw[e8,e7,Ab7] at KG;have e6:=((((((((((b0.D R).D U).D C).D J).D j).D b1).D b9).D c8).D b8).D t).snoc ((((((((((h1.D R).D U).D C).D J).D j).D b1).D b9).D c8).D b8).D t) ((((((((((h2.D R).D U).D C).D J).D j).D b1).D b9).D c8).D b8).D t) h3;replace hO:=(((((((((hO.D R).D U).D C).D J).D j).D b1).D b9).D c8).D b8).D t;replace a8:=((((a8.D b1).D b9).D c8).D b8).D t;replace i:=(i.D b8).D t;replace g:=g.D t;refine⟨_,a8,(if o=[] then k else first),hO,⟨_,css++[[I r.Ar,I r.id,St r.name,St r.AK,a1,a6]],g,by rw[e5,c0];exact i,by rw[c3];exact e6⟩,?_,by rw[Dx,Acs];exact Bd,by split<;>omega,by rw[Dx];omega,by rw[Dx,c0];omega,by rw[Dx,c3];exact KG⟩;replace AR:=(((((((((AR.D R).D U).D C).D J).D j).D b1).D b9).D c8).D b8).D t
    first
    |(rw[zm (rY G)];exact AR)
    |(rw[ss (fun e=>by rw[e] at b7;simp at b7;omega)];exact AR)
   rintro e3 c4 e4;exact e4
  ·clear hO g AR Bd h8 h6;rintro L Djq d B hF ⟨first,hO,⟨vl,css,g,i,b0⟩,AR,Bd,hf,hp,hl,KG⟩ j;exact⟨d,Djq,AL,⟨vl,css,_,first,Fl L,hO,g,by rw[kr];exact i,b0,AR,Bd,by rw[KG];exact ZX (.inl hF)⟩,j⟩
  ·intro p hp Djq pre d B h j;simp only[pv] at hp;subst hp;exact⟨_,Z,d,Djq,AL,h,j⟩
  exact fun _ _ _ _ h=>h.elim
 rintro e3 c4 ⟨t,Djq,o,⟨vl,css,l,first,bytes,hO,g,i,b0,AR,Bd,e⟩,j⟩;refine DN o ?_;have j1:=i.AD;have cx:=i.AA;refine Ag ?_;have a7:=Mv.drew t c4 [];refine Fq (fun W=>Gt W b2 [vl] 94∧Gt W b3 [I first] 3∧Gt W b4 [I bytes] 3) [1,1,1,2,2,3] [0,1,2,3,4,5] mixed Ao ?_;replace hO:=hO.D a7;replace g:=g.D a7;replace i:=i.D a7;replace b0:=b0.D a7;replace AR:=AR.D a7;replace Bd:=Bd.D a7;replace j:=j.D a7;generalize c4.drew=j2 at a7 hO g i b0 AR Bd j⊢;refine vc Z ⟨g.AE,AR.AE,Bd.AE⟩ (fun W o=>Al Hm Z o.1 Z)<|vc Z ⟨g.AE,AR.AE,Bd.AE⟩ (fun W o=>Al AF Z o.2.1 Z)<|vc Z ⟨g.AE,AR.AE,Bd.AE⟩ (fun W o=>Al AF Z o.2.2 Z)<|Kb Z Z Z (Ap Hm Z Z ra ra g Z) ?_;rintro _ j3 ⟨o,c5⟩;replace g:AI _ _ 102 b2 [vl] 94:=o;refine⟨fun _=>⟨g.AE,AR.D.AE,Bd.D.AE⟩,?_⟩;refine Kb Z Z Z (Ap AF Z Z ra ra AR.D Z) ?_;rintro _ j4 ⟨o,c7⟩;replace AR:=AR.D c5;replace AR:AI _ _ 103 b3 [I first] 3:=o;refine⟨fun _=>⟨g.D.AE,AR.AE,Bd.D.AE⟩,?_⟩;refine LG Z (Ap AF Z Z ra ra Bd.D Z) ?_;rintro _ j5 ⟨o,c6⟩;replace Bd:AI _ _ 104 b4 [I bytes] 3:=o;refine AP ?_;obtain⟨o,t⟩:=(((j.D c5).D c7).D c6).take;refine Up Z Z o (IR Hm Z g.D.AE Z) (IR AF Z AR.D.AE Z) (IR AF Z Bd.D.AE Z) ?_;rw[e];exact⟨hO.D.below,_,vl,css,Z,i.D,b0.D,hO.D⟩
def tE(c:Nat→Nat)(w:World)(i:Nat)(e:TypeId)(size:Nat)(v:Value)(n:Nat):Prop:=∃xs,AJ c w i e size v n xs
abbrev zs:={cs:List Value//cs.length=6∧∀u∈cs,u.oneCell'=true}
abbrev abv:Shape zs:=Shape.flat 6 (fun x=>x.1) (fun _=>True) (fun x=>x.2.1) (fun x=>x.2.2)
def rK(c:Nat→Nat)(w:World)(cs:List Value):Prop:=∃a b d e vl vs f g,cs=[a,b,d,e,vl,vs]∧tE c w 5 TI 1 vl f∧f≤140737488355328∧tE c w 5 rH 2 vs g∧g≤140737488355328
structure abQ (c:Nat→Nat) (w:World) (L:List zs):Prop where
 all:∀x∈L,rK c w x.1
abbrev aaR:TypeId:=9
abbrev vz(l:List (List UInt8)):List Value:=l.flatMap fun x=>[St x]
structure IS (w0 w:World) (base b5:Nat) (a:Rec) (vl vs vt:Value) (texts:List (List UInt8)):Prop where
 hK:Below base w0 w
 BH:base≤w.heap.size
 Bv:base≤b5
 X:Gt w b5 (Nq a vl vs) TX
 L:CJ w base TI 1 vl a.list.length (RQ a.list)
 S:CJ w base rH 2 vs a.Bo.length (Nr a.Bo)
 T:CJ w base aaR 1 vt texts.length (vz texts)
 kv:∀k,vl.rowOf=some k→k≠b5
 kw:∀k,vs.rowOf=some k→k≠b5
 neT:∀k,vt.rowOf=some k→k≠b5∧vl.rowOf≠some k∧vs.rowOf≠some k
 small:∀x∈texts,x.length≤1000000
section
variable {w0 w w':World} {base b5:Nat} {a:Rec} {vl vs vt vt':Value} {texts:List (List UInt8)}
end
theorem tF{w:World}(c:Nat→Nat)(h:AZ w w')(f:Nat→Nat):∃c',Mv c w c' w' []∧∀k,w.heap.size≤k→c' k=f k:=
 ⟨fun k=>if k<w.heap.size then c k else f k,⟨h.os,h.tape,h.output,h.size,fun k O=>zm O,fun k O _=>h.block k O⟩,fun k O=>ss (Nat.not_lt.2 O)⟩
theorem oW(hs:s.length≤1073741824):Calls QP 152 #[St s] w (Bt fun v w'=>∃c',Mv c w c' w' []∧∃vl css,v= .tuple #[vl,I ((Ho s).2.1:Nat),I ((Ho s).2.2:Nat)]∧AJ c' w' 7 TX 6 vl (Ho s).1.length css.flatten∧IH c' w' css (Ho s).1):=by
 refine(kA hs).mono fun e w' p=>?_;obtain⟨v,rfl,o,c1,vl,css,rfl,t,j,hO⟩:=p;obtain⟨c',m,hx⟩:=tF c o c1;have key:∀{i:Nat} {e:TypeId} {size n:Nat} {u:Value} {xs:List Value},i≠0→AJ c1 w' i e size u n xs→AJ c' w' i e size u n xs:=fun{i e size n u xs} hi h=>⟨h.own,fun k O=>by
  have f:=h.BF k O;rcases Aab k w.heap.size with g|g
  ·rw[hO.BF k g] at f;exact(hi f.symm).elim
  rw[hx k g,f]⟩
 refine⟨_,Z,c',m,vl,css,Z,key AO t,j.1,fun k cs x f l=>?_⟩;obtain⟨C,J,e,a,b,r⟩:=j.2 k cs x f l;exact⟨C,J,e,key AO a,key AO b,r⟩
section
variable {c:Cx} {B:List (Nat×EI)} {ops:Array Oper} {C:World→Prop} {Ar is:List Nat} {env:Env} {w:World} {N:EI}
theorem rL{l:List Nat}(q:Bool)(s:Nat)(R:Bool→World→Prop)(hC:C w){b:Bool}{p:Prop}{pos:String}{v:Operand}
 (h:zz c ops Ar env q s i l e k m n b p A pos o g f v)
 (hF:b= !q→∃x,R x w)
 (a6:p→WD c B ops C Ar (l.take s) ((k, .bool q)::env) w (fun tl w'=>∃x,look tl m=some (.bool x)∧Sub ((k, .bool q)::env) tl∧R x w'))
 (next:∀x w',R x w'→WD c B ops C Ar e ((n, .bool (bif q then b&&x else b||x))::env) w' N):WD c B ops C Ar l env w N:=by
 obtain⟨hl,hi,hs,O,hg,hu,hv,Hs,hd,hp⟩:=h;have hT:=fun tl:b=q=>a6 (hp▸tl);by_cases r:b=q
 ·refine gf s (fun tl w'=>∃x,(look tl m=some (.bool x)∧Sub ((k, .bool q)::env) tl∧R x w')) ?_ ?_
  ·intro a u;exact hT r a (u.sub (Sub.cons (by rw[hs,r]) (Sub.refl _)))
  rintro tl w' ⟨x,I,j,U⟩;rw[hl];have a1:Sub env tl:=NG (v:= .bool q) (by rw[hs,r]) j;have J:look tl k=some (.bool q):=j.II k _ (Ka (KJ hs));refine MZ (v:= .bool x) hi O (Gv a1 hg) hd (b:=q) (by simpa[BY] using J) ?_ ?_
  ·rw[hu];exact I
  have I:(bif q then b&&x else b||x)=x:=by subst r;cases b<;>simp
  have:=next x w' U
  rw[I] at this;exact fun a u=>this a (u.sub (ak a1))
 have r:b= !q:=by cases b<;>cases q<;>simp_all
 unfold UC at Hs;split at Hs
 ·rename_i tl U;have a7:=OJ _ _ _ _ U;have j:Sub ((k, .bool (!q))::env) tl:=Sub.drop _ _ _ a7 Hs;have a1:Sub env tl:=NG (v:= .bool (!q)) (by rw[hs,r]) j;have J:look tl k=some (.bool (!q)):=j.II k _ (Ka (KJ hs));have j:WD c B ops C Ar (l.take s++l.drop s) ((k, .bool (!q))::env) w N:=by
   refine QR hC _ _ _ U ?_;rw[hl];refine MZ (v:= .bool (!q)) hi O (Gv a1 hg) hd (b:= !q) (by simpa[BY] using J) ?_ ?_
   ·have:(if(!q)=true then f else v)=(if q then v else f):=by cases q<;>rfl
    rw[this,hv];rfl
   obtain⟨x,hx⟩:=hF r;have I:(bif q then b&&x else b||x)= !q:=by subst r;cases q<;>simp
   have:=next x w hx
   rw[I] at this;exact fun a u=>this a (u.sub (ak a1))
  rw[Aas] at j
  exact fun a u=>j a (u.sub (Sub.cons (by rw[hs,r]) (Sub.refl _)))
 cases Hs
end
def GA:Nat→List Tx→List (Nat×Tx)
 |_,[]=>[]
 |n,t::r=>(n,t)::GA (n+1) r
theorem u64_in(h:n<18446744073709551616):IntKind.u64.wrap (n:Int)=(n:Int):=by
 simp[IntKind.wrap,IntKind.signed,IntKind.bits];omega
theorem ZY:Calls QP 151 #[St W,I life] w (Bt fun u w'=>AZ w w'∧∃b1 b2,u= .func (.func 223) #[] #[P1 b1,P1 b2]∧w.heap.size≤b1∧w.heap.size≤b2∧b1≠b2∧Gt w' b1 [St W] 9∧Gt w' b2 [I life] 3):=by
 obtain⟨c,hO,hc⟩:=Ay w;refine AY 6 #[.tmp 4] func151 Z<|Q<|Mn c 102 fun w1 b2 c1 i f=>?_;refine Mn c1 103 fun w2 b3 c2 g AR=>?_;refine V Z<|Q<|E (Dn Z)<|V Z<|Af Z Z<|⟨hO.D.below,_,_,Z,?_,?_,?_,f.D.AE,AR.AE⟩
 ·rcases Aab b2 w.heap.size with h|h
  ·replace hO:=(hO.D i).D g;replace f:=f.D g;have:=hO.BF _ h;rw[f.BF] at this;cases this
  exact h
 ·rcases Aab b3 w.heap.size with h|h
  ·replace hO:=(hO.D i).D g;have:=hO.BF _ h;rw[AR.BF] at this;cases this
  exact h
 replace f:=f.D g;intro e;subst e;have:=f.BF;rw[AR.BF] at this;cases this
theorem WL{s:Tx}(hs:s.length≤1073741824)(c0:AI j h 70 k [St s] 9)(o:AI j h 71 m [I life] 3)(hl:life≤4611686018427387904):
 LH QP 223 [P1 k,P1 m] (fun x:Nat×Tx=>[I (x.1:Nat),St x.2]) [70] [71] (GA 0 (Ko life (s.length+1) 0 s)) j h:=by
 intro l J b7 c1 W K r hK b6 C hy R;have C:∀i∈[70,71],AU K i=false:=fun i hi=>BD hK (by simpa using hi);replace c0:=c0.D r (C 70 Bb);replace o:=o.D r (C 71 Bb);have hJ:JC (J []) [70] c1 W:=⟨R,fun _ _ _ _ w0 b2=>b6 _ _ _ _ _ w0 b2⟩;show Calls _ _ [_,_,_].toArray _ _
 refine AY 63 #[] func223 Z<|Q<|V Z<|An<|AG (σ:=Nat×List (Nat×Tx)×Tx) (fun r=>[(0, .func (.yield l) #[] #[]),(1,P1 k),(2,P1 m),(4,I (r.1:Nat))]) (fun r w'=>(r.1+r.2.2.length≤s.length∧GA 0 (Ko life (s.length+1) 0 s)=r.2.1++GA r.1 (Ko life (s.length+1-r.1) r.1 r.2.2))∧∃c',AI c' w' 70 k [St r.2.2] 9∧AI c' w' 71 m [I life] 3∧JC (J r.2.1) [70] c' w') (fun r=>r.2.2.length) (0,[],s) AL ⟨⟨by simp,Z⟩,_,c0,o,hJ⟩ ?_;rintro⟨n,pre,u⟩ r ⟨⟨R,C⟩,r,c0,o,hJ⟩;dsimp only at R C c0 hJ⊢;obtain⟨f,hf⟩:∃f,s.length+1-n=f+1:=⟨s.length-n,G⟩;rw[hf] at C;refine Ag<|Q<|E (Al CQ Z c0.AE Z)<|E (Ey underlying9 Z)<|E (Dh Z Z)<|Ah<|BA Z (fun R=>?_) fun R=>?_
 ·have hu:24≤u.length:=G;obtain⟨g,hg⟩:∃g,g=Bi ((u.drop 12).take 4):=⟨_,Z⟩;have R:g<4294967296:=by rw[hg];exact Yr (by rw[kL];omega)
  refine As<|Ag<|An<|Q<|E (Al CQ Z c0.AE Z)<|E (Ip underlying9 Z Z Z G G G) ?_;rw[show(16:Int).toNat-(12:Int).toNat=4 from Z,show(12:Int).toNat=12 from Z];refine ve (Ac r 1 (Ab KE Z (KY ((u.drop 12).take 4) (by rw[kL];omega)))) ?_;rintro r w1 ⟨c1,a6,r,rfl⟩;rw[←hg];refine E (EY underlying278 underlying3 Z G G)<|V Z<|Ag<|Ag ?_;obtain⟨R,b0⟩:∃R,R=Bi (u.take 8):=⟨_,Z⟩;obtain⟨z,b3⟩:∃z,z=Bi ((u.drop 8).take 4):=⟨_,Z⟩;refine AM c1 [] [0,1,0,0,0,0,1,0,2,1,0,0,0,0,1,0,2,0,0,0,0] [0,1,2,3,4,5,6,7,9,10,8,11,12,13,14,15,17,18,16,19,20] fun w2 a7 r=>Bm Z Z<|vc Z r.kp (c0.D.kb CQ Z Z)<|AN Z (Ey underlying9 Z)<|AN Z (Gu Z Z Ai Ai)<|AN Z (CM Z Z)<|Bm Z Z ?_;apply Dc c1 false 6 (!decide ((R:Int)=(life:Int))) r.kp Mq
  ·intro R R;refine vc Z r.kp (c0.D.kb CQ Z Z)<|AN Z (IN underlying9 Z Z G G) ?_;rw[show(8:Int).toNat=8 from Z];refine vc Z r.kp (o.D.kb AF Z Z)<|AN Z (JR underlying3 underlying278 Z) ?_;rw[u64_in (show life<18446744073709551616 by omega)];refine Db Z (Ac c1 1 (Ab KE Z (KY (u.take 8) (by rw[kL];omega)))) ?_;rintro U U ⟨U,U,a1,rfl⟩;refine r.Bl U fun r=>?_;rw[←b0];refine AN Z (BK Z Z) ?_;exact Dd 6 R.D
  intro R R U;refine Bm Z Z ?_;replace r:=r.tr U Z;apply Dc R false 6 (!decide ((z:Int)=(n:Int))) r.kp Mq
  ·intro a1 a1;refine vc Z r.kp (c0.D.kb CQ Z Z)<|AN Z (Ip underlying9 Z Z Z G G G) ?_;rw[show(12:Int).toNat-(8:Int).toNat=4 from Z,show(8:Int).toNat=8 from Z];refine Bm Z Z<|AN Z (JR underlying3 underlying278 Z) ?_;rw[u64_in (show n<18446744073709551616 by omega)];refine Db Z (Ac R 1 (Ab KE Z (KY ((u.drop 8).take 4) (by rw[kL];omega)))) ?_;rintro R R ⟨R,R,a8,rfl⟩;refine r.Bl R fun r=>?_;rw[←b3];refine AN Z (BK Z Z) ?_;exact Dd 6 a1.D
  intro a1 R a8;refine AP ?_;refine BA Z (fun r=>?_) fun r=>?_
  ·refine FK Z ?_;have e:Ko life (f+1) n u=[]:=by
    rw[Ko,ss G,zm (by rw[←hg,←b0,←b3];omega)]
   rw[e,GA,Aaz] at C;exact⟨_, .inl (by rw[C];exact((((hJ.D a6).D a7).D U).D a8).D.AB)⟩
  obtain⟨t,ht⟩:∃t,t=(u.drop 16).take g:=⟨_,Z⟩;obtain⟨p,hp⟩:∃p,p=Bi ((u.drop (16+g)).take 8):=⟨_,Z⟩;obtain⟨q,b4⟩:∃q,q=TA (u.take (16+g)):=⟨_,Z⟩;have r:g+24≤u.length:=G;have b8:p≠q→Ko life (f+1) n u=[]:=fun w0=>by
   rw[Ko,ss G,ss (by rw[←hg,←b0,←b3];omega),zm (by rw[←hg,←hp,←b4];exact w0)]
  have b5:p=q→Ko life (f+1) n u=t::Ko life f (n+1) (u.drop (24+g)):=fun w0=>by
   rw[Ko,ss G,ss (by rw[←hg,←b0,←b3];omega),ss (by rw[←hg,←hp,←b4];exact fun e=>e w0),←hg,←ht]
  refine As<|Q<|M Z<|E (Bc Z Z Ai Ai)<|V Z<|Ag<|Ag ?_;replace c0:=(((c0.D a6).D a7).D U).D a8;replace o:=(((o.D a6).D a7).D U).D a8;replace hJ:=(((hJ.D a6).D a7).D U).D a8;replace c0:=c0.D (c':=R) (w':=a1);replace o:=o.D (c':=R) (w':=a1);replace hJ:=hJ.D (c':=R) (w':=a1);have r:=Mv.drew R a1 [];refine Fq (fun W=>Gt W k [St u] 9) [1,0,0,0,0,2,1,0,0,2,0,0,0,0,1,0,0,2,0,0] [0,1,2,3,4,6,7,8,5,9,10,11,12,13,14,15,16,17,18,19] mixed Ao ?_;replace c0:=c0.D r;replace o:=o.D r;replace hJ:=hJ.D r;generalize a1.drew=U at r c0 o hJ⊢;refine vc Z c0.AE (fun W r=>Al CQ Z r Z)<|Bm Z Z<|Bm Z Z<|AN Z (Bc Z Z Ai Ai)<|AN Z (Ip underlying9 Z Z Z G G G) ?_;rw[show((16:Int)+(g:Int)+8).toNat-((16:Int)+(g:Int)).toNat=8 by omega,show((16:Int)+(g:Int)).toNat=16+g by omega];refine vc Z c0.AE (fun W r=>Al CQ Z r Z)<|Bm Z Z<|AN Z (IN underlying9 Z Z G G) ?_;rw[show((16:Int)+(g:Int)).toNat=16+g by omega];refine Db Z (Ac R 1 (Ab KE Z (KY ((u.drop (16+g)).take 8) (by rw[kL];omega)))) ?_;rintro _ R ⟨U,R,a1,rfl⟩;rw[←hp];refine⟨fun _=>c0.D.AE,?_⟩;refine Db Z (Ac U 1 (Ab Uv Z (PG (s:=u.take (16+g)) (by rw[kL];omega)))) ?_;rintro _ U ⟨a1,U,a6,rfl⟩;rw[←b4];refine⟨fun _=>c0.D.AE,?_⟩;refine AN Z (BK Z Z)<|Bm Z Z ?_;refine rL false 7 (fun x w'=>∃c',AI c' w' 70 k [St u] 9∧AI c' w' 71 m [I life] 3∧((p≠q∧JC (J pre) [70] c' w')∨(p=q∧x=true∧b7 (pre++[(n,t)]) c' w')∨(p=q∧x=false∧JC (J (pre++[(n,t)])) [70] c' w'))) c0.D.AE Mq (fun w0=>⟨false,a1,c0.D,o.D, .inl ⟨by intro e;rw[e] at w0;simp at w0,hJ.D⟩⟩) (fun a7=>?_) ?_
  ·have a1:p=q:=G;have a8:pre++[(n,t)]<+:GA 0 (Ko life (s.length+1) 0 s):=by
    rw[C,b5 a1,GA];exact⟨GA (n+1) (Ko life f (n+1) (u.drop (24+g))),by simp⟩
   obtain⟨a6,a6,b0⟩:=hy pre (n,t) _ _ ((hJ.D R).D U).AB a8;refine Bm Z Z<|Bm Z Z<|vc Z c0.D.AE (fun W r=>Al CQ Z r Z)<|Bm Z Z<|AN Z (Ip underlying9 Z Z Z G G G) ?_;rw[show((16:Int)+(g:Int)).toNat-(16:Int).toNat=g by omega,show(16:Int).toNat=16 from Z,←ht];refine Db Z (FQ Z Z b0) ?_;rintro _ r ⟨b,a8,rfl,r,b3,b0⟩;replace c0:=(c0.D R).D U;replace o:=(o.D R).D U;replace c0:=c0.D r (BD a6 Bb);replace o:=o.D r (BD a6 Bb);refine⟨fun _=>c0.AE,?_⟩;refine AN Z (BL Z)<|AP ⟨!b,Z,Sub.drop _ 7 _ Z Z,a8,c0,o,?_⟩;cases b with
   |true=>exact .inr (.inr ⟨a1,Z,⟨b3 Z,fun _ _ _ _ w0 b2=>b6 _ _ _ _ _ w0 b2⟩⟩)
   |false=>exact .inr (.inl ⟨a1,Z,b0 Z⟩)
  clear hJ c0 o;rintro x a8 ⟨a1,c0,o,U⟩;refine AP<|BA Z (fun R=>?_) fun R=>?_
  ·refine FK Z ?_;rcases U with⟨r,hJ⟩|⟨_,_,hJ⟩|⟨r,rfl,_⟩
   ·rw[b8 r,GA,Aaz] at C;exact⟨_, .inl (by rw[C];exact hJ.AB)⟩
   ·exact⟨_, .inr ⟨_,hJ⟩⟩
   exact(R.elim (fun w0=>w0 G) (fun w0=>by cases w0)).elim
  have a6:p=q∧JC (J (pre++[(n,t)])) [70] a1 a8:=by
   rcases U with⟨r,_⟩|⟨_,rfl,_⟩|⟨r,_,w0⟩
   ·exfalso;omega
   ·exfalso;simp at R
   exact⟨r,w0⟩
  obtain⟨a7,hJ⟩:=a6;refine As<|cg<|E (Al CQ Z c0.AE Z)<|M Z<|E (Bc Z Z Ai Ai)<|E (GB underlying9 Z Z G G) ?_;rw[show((16:Int)+(g:Int)+8).toNat=24+g by omega];refine Av (Ap CQ Z Z ra ra c0 Z) ?_;rintro _ r ⟨c0,r⟩;refine Ah<|cg<|M Z<|E (Bc Z Z Ai Ai)<|V Z ?_;refine⟨(n+1,pre++[(n,t)],u.drop (24+g)),AL,⟨⟨by rw[List.length_drop];dsimp only;omega,?_⟩,_,c0,o.D,hJ.D⟩,by dsimp only;rw[List.length_drop];omega⟩;dsimp only;rw[C,b5 a7,GA,show s.length+1-(n+1)=f by omega];simp
 have e:Ko life (f+1) n u=[]:=by rw[Ko,zm G]
 rw[e,GA,Aaz] at C;refine Az Z<|⟨_,_,Z,Z,?_⟩;exact⟨Z,_, .inl (by rw[C];exact hJ.AB)⟩
theorem du(S:Tx):∀n,(List.range n).flatMap (fun i=>OA S (64*i))=(List.range (64*n)).map fun j=>S.getD j 0
 |0=>rfl
 |n+1=>by
  rw[Abf,Aan,du S n,show 64*(n+1)=64*n+64 by omega,Agf,Aaf,Acu];congr 1
theorem oX(h:W.length≤n):((List.range n).map fun j=>W.getD j 0)=W++replicate (n-W.length) 0:=by
 apply Ab6
 ·simp;omega
 ·intro j f g;rw[Ac0,Adk];by_cases e:j<W.length
  ·rw[cW e,Ahr e]
  ·rw[VS G,Afm G,List.getElem_replicate]
theorem kB(h:W.length≤32704):((List.range 511).flatMap fun i=>OA W (64*i))=W++replicate (32704-W.length) 0:=by
 rw[du,oX G]
theorem Nu(life n:Nat)(L:List Rec)(r:List (List Rec)):(Ft life n (L::r)).length=24+EL L+(Ft life (n+1) r).length:=by
 rw[Ft,ft,JK,Gr]
theorem Pe(life:Nat):∀(f:List (List Rec)) (n:Nat),f.length≤(Ft life n f).length∧∀L∈f,EL L≤(Ft life n f).length
 |[],_=>⟨kM _,fun L h=>by cases h⟩
 |L::r,n=>by
  obtain⟨j,i⟩:=Pe life r (n+1);rw[Nu];refine⟨by rw[SG];omega,fun Mjq g=>?_⟩;rcases Aak.1 g with rfl|g
  ·omega
  have:=i Mjq g;omega
theorem rM(hl:1≤life∧life≤4611686018427387904)(l:(Ft life 0 Y).length≤32704):Ko life (32704+1) 0 (Ft life 0 Y++replicate (32704-(Ft life 0 Y).length) 0)=Y.map (Gf 0):=by
 obtain⟨j,g⟩:=Pe life Y 0;exact Tn hl.1 G Y _ 0 _ G (fun L i=>by have:=g L i;omega) G
theorem Qk(life:Nat):∀(f:List (List Rec)) (n:Nat),f.flatten.length≤(Ft life n f).length
 |[],_=>kM _
 |L::r,n=>by
  have:=Qk life r (n+1);have g:L.length≤EL L:=by
   clear this;induction L with
   |nil=>exact kM _
   |cons r L i=>rw[Ng,SG,Jq];omega
  rw[Nu,Abc,ft];omega
theorem kC(h:Y[k]?=some P):(Y.take (k+1)).flatten=(Y.take k).flatten++P∧(Y.take k).flatten.length+P.length≤Y.flatten.length:=by
 obtain⟨O,e⟩:=kJ.1 h;have g:(Y.take (k+1)).flatten=(Y.take k).flatten++P:=by rw[pk O,e];simp
 refine⟨g,?_⟩;have i:Y.flatten=(Y.take (k+1)).flatten++(Y.drop (k+1)).flatten:=by rw[←Ac6,Aas]
 rw[i,g,ft,ft];omega
theorem Ys:∀(l:List Tx) (n:Nat),(GA n l).length=l.length
 |[],_=>rfl
 |t::r,n=>by rw[GA,SG,SG,Ys r]
theorem SB:∀(l:List Tx) (n:Nat),(GA n l).map (·.2)=l
 |[],_=>rfl
 |t::r,n=>by rw[GA,Aci,SB r]
theorem Yt(life:Nat):∀(f:List (List Rec)) (n:Nat),(f.map (Gf 0)).flatten.length≤(Ft life n f).length
 |[],_=>kM _
 |L::r,n=>by
  have:=Yt life r (n+1);rw[Nu,Aci,Abc,ft,Gr];omega
theorem kD{l:List Tx}{pre:List (Nat×Tx)}(h:pre++[(n,W)]<+:GA 0 l):(pre.map (·.2)).flatten.length+W.length≤l.flatten.length:=by
 obtain⟨r,f⟩:=h;have e:((pre++[(n,W)]++r).map (·.2)).flatten.length=((GA 0 l).map (·.2)).flatten.length:=by rw[f]
 rw[SB,Aaf,Aaf,Ac6,Ac6,ft,ft] at e;have g:([(n,W)].map (·.2)).flatten.length=W.length:=by simp
 omega
theorem Yu:∀(l:List Tx) (n k:Nat),(GA n l)[k]?=(l[k]?).map fun t=>(n+k,t)
 |[],_,_=>by simp[GA]
 |t::r,n,0=>by simp[GA]
 |t::r,n,k+1=>by
  rw[GA,Aeq,Yu r (n+1) k,Aeq];congr 1;funext t;congr 1;omega
theorem kE{l:List Tx}{pre:List (Nat×Tx)}(h:pre++[(n,W)]<+:GA 0 l):n=pre.length∧l[pre.length]?=some W:=by
 have g:(pre++[(n,W)])[pre.length]?=some (n,W):=by simp
 have f:(GA 0 l)[pre.length]?=some (n,W):=by
  obtain⟨r,i⟩:=h;rw[←i,Abh Bb];exact g
 rw[Yu] at f;cases e:l[pre.length]? with
 |none=>rw[e] at f;cases f
 |some t2=>
  rw[e] at f;simp only[Aa7,Abe,Ab1] at f;exact⟨G,by rw[f.2]⟩
theorem Src.own{e:TypeId}{size :Nat}{xs:List Value}(hu:H.underlying d=some (.slice A))(h:CJ w m e size a n xs)(j:∀y∈xs,y.oneCell'=true):Src H w d size a n xs:=by
 have hl:=h.1;rcases h.2 with⟨rfl,f,rfl⟩|⟨g,cap,l,o,rfl,_,_,_,_,_,_,_,i⟩
 ·have:xs=[]:=rY G;subst this;exact⟨.inl ⟨_,hu⟩,fun W=>by simp[Builtin.lenOf],fun W p=>by cases f<;>simp[Builtin.firstCells,loadCells,loadCellsFrom],by simp,by simp⟩
 ·exact Aw hu (h.cells (Bh i)) hl j
structure RR (c0:Nat→Nat) (w0:World) (J T:List Nat) (c:Nat→Nat) (w:World):Prop where
 os:w.os=w0.os
 tape:w.tape=w0.tape
 output:w.output=w0.output
 size:w0.heap.size≤w.heap.size
 BF:∀k,k<w0.heap.size→c k=Bw c0 J k
 block:∀k,k<w0.heap.size→AU T (c0 k)=false→w.heap[k]?=w0.heap[k]?
theorem RR.start(c0:Nat→Nat)(w0:World)(J T:List Nat):RR c0 w0 J T (Bw c0 J) w0:=⟨Z,Z,Z,kM _,fun _ _=>rfl,fun _ _ _=>rfl⟩
theorem RR.D{c0 c:Nat→Nat}{w:World}{T I:List Nat}(w0:RR c0 h e T c w)(m:Mv c w c' w' I:=by exact Go.Eng.KU)(f:AU I 0=false:=by rfl)(hi:(e.all fun i=>AU T i|| !AU I i)=true:=by rfl):RR c0 h e T c' w':=
 ⟨m.os.trans w0.os,m.tape.trans w0.tape,m.output.trans w0.output,rX w0.size m.size,fun k O=>(m.BF k (Aaq O w0.size)).trans (w0.BF k O),fun k O hT=>by
  refine(m.block k (Aaq O w0.size) ?_).trans (w0.block k O hT);rw[w0.BF k O];unfold Bw;split
  ·rename_i hJ;rw[AU,Aa8] at hJ;obtain⟨i,g,j⟩:=hJ;have J:c0 k=i:=by simpa using j
   have:=Aae.1 hi i g;rw[←J,hT] at this;simpa using this
  exact f⟩
theorem RR.eD{c:Nat→Nat}{w:World}{T:List Nat}(w0:RR j h e T c w)(hi:T.all (AU e)=true:=by rfl):BE j h e c w:=
 ⟨w0.os,w0.tape,w0.output,w0.size,w0.BF,fun k O hJ=>w0.block k O (Jw hi hJ)⟩
theorem RR.out{c:Nat→Nat}{w:World}{T:List Nat}(w0:RR j h e T c w):Mv j h (back j h c) w T:=⟨w0.os,w0.tape,w0.output,w0.size,fun k O=>by simp[back,O],w0.block⟩
theorem aaS{c:Nat→Nat}{w:World}(i:EA X c w [5,148])(w0:BE j h Dw c w):EA X (back j h c) w [5,148]:=HM.mono i fun k c0 O=>by
 show AU [5,148] (back j h c k)=true
 by_cases g:k<h.heap.size
 ·have f:=w0.BF k g;have e:c k≠0:=fun e=>by rw[e] at O;cases O
  unfold Bw at f;split at f
  ·rw[back,zm g,←f];exact O
  ·omega
 ·rw[back,ss g];exact O
theorem IH.one(h:IH c w css P):∀y∈css.flatten,y.oneCell'=true:=fun y hy=>by
 obtain⟨cs,f,hy⟩:=Afv.1 hy;obtain⟨k,O⟩:=Aba f;have g:k<P.length:=by rw[←h.1];exact(kJ.1 O).1
 obtain⟨vl,vs,rfl,a,b,_⟩:=h.2 k cs _ O (dd g);simp at hy;rcases hy with rfl|rfl|rfl|rfl|rfl|rfl
 ·rfl
 ·rfl
 ·rfl
 ·rfl
 ·exact a.AD
 ·exact b.AD
theorem IH.tN{a b:List (List Value)}{m:List Rec}(h:IH c w a P)(i:IH c w b m):IH c w (a++b) (P++m):=by
 refine⟨by rw[ft,ft,h.1,i.1],fun k cs x f g=>?_⟩;rcases Aab k a.length with O|O
 ·rw[Abh O] at f;rw[Abh (by rw[←h.1];exact O)] at g;exact h.2 k cs x f g
 rw[Abb O] at f;rw[Abb (by rw[←h.1];exact O),←h.1] at g;exact i.2 _ cs x f g
theorem aaT(t:AJ c w 148 TX 6 a P.length css.flatten)(i:IH c w css P)(hl:P.length≤140737488355328):Bu FG c w [5,148] a P:=by
 refine AJ.rd (s:=FG) t hl i.1 Z fun k cs x p r=>?_;obtain⟨vl,vs,rfl,v,b,g,C,I,J,R⟩:=i.2 k cs x p r;intro w' hs O;have j:=v.tM w' hs fun k f hl=>O k (by simp only[AU,Ac3,Af0,Ad9] at f⊢;rw[f];rfl) hl;have o:=b.tM w' hs fun k f hl=>O k (by simp only[AU,Ac3,Af0,Ad9] at f⊢;rw[f];rfl) hl;exact⟨vl,vs,Z,j.ld C J,gb o I R,g.1,g.2.1,g.2.2.1,g.2.2.2⟩
theorem ZZ{s:Tx}:Calls QP 151 #[St s,I life] w (Bt fun u w'=>∃c',Mv c w c' w' []∧∃b1 b2,u= .func (.func 223) #[] #[P1 b1,P1 b2]∧AI c' w' 70 b1 [St s] 9∧AI c' w' 71 b2 [I life] 3):=by
 refine ZY.mono fun e w' l=>?_;obtain⟨v,rfl,j,b1,b2,rfl,g,i,o,f,g2⟩:=l;obtain⟨c',m,hx⟩:=tF c j fun k=>if k=b1 then 70 else 71
 exact⟨_,Z,c',m,b1,b2,Z,⟨f,by rw[hx b1 g,zm Z]⟩,⟨g2,by rw[hx b2 i,ss (fun e=>o e.symm)]⟩⟩
theorem kF{j:Jl}{d:Int}(l:Dz c w k m j)(f:BW c w m F)(g:SX F)(hl:1≤life∧life≤4611686018427387904)(o:Bp F d 0=(zT,0))(r:Bp F d 512=(HS life,0))(hi:i<2):
 Calls QP 148 #[P1 k,I d,I (512*(i:Int))] w (Bt fun u w'=>AZ w w'∧u= .tuple #[I ((if i=1 then life else 0:Nat):Int),I 0]):=by
 have:i=0∨i=1:=G;rcases this with rfl|rfl
 ·exact bZ l f g o
 ·exact kl l f g hl r
theorem fj{p pa d life:Nat}{j:Jl}{A:CS}{J:List (List Rec)}(b5:Dz c w p pa j)(R:BW c w pa A)(j1:SX A)(hd:d<j.half.length)(n2:j.half.length≤12)(hl:1≤life∧life≤4611686018427387904)(j0:(Ft life 0 J).length≤32704)(n6:∀L∈J,∀r∈L,FT r=true)
 (k9:Bp A d 0=(zT,0))(l0:Bp A d 512=(HS life,0))(l1:∀i:Nat,i<511→Bp A d (513+(i:Nat))=(OA (Ft life 0 J) (64*i),0)):
 Calls QP 76 #[P1 p,I d] w (Bt fun u w'=>∃c',Mv c w c' w' [92]∧∃vl,BW c' w' pa A∧Dz c' w' p pa {j with half:=j.half.set d 1}∧Bu FG c' w' [5,148] vl J.flatten∧u= .tuple #[.agg #[I life,I J.length,St (J.map (Gf 0)).flatten,vl],I 0]):=by
 have hJ:=RR.start c w Dw [92];replace b5:=b5.Dt (K:=Dw);replace R:=R.Mz (K:=Dw);generalize Bw c Dw=c0 at hJ b5 R;obtain⟨r9,b9,cs,a1,hh,b0⟩:=b5;have r1:=hh.AD;have r2:=hh.AA;obtain⟨g,cp,rfl,q2,q1⟩:=hh.CT G;obtain⟨p9,n4⟩:=Pe life J 0;refine AY 81 #[.cell 4 156, .tmp 5] func76 Z<|Q<|EK c0 104 LM fun w1 b4 c1 p2 Bd=>?_;refine V Z<|Ag<|Q<|M Z<|Ah<|An<|AG (σ:=Nat) (fun i=>[(0,P1 p),(1,I d),(4,P1 b4),(5,I 0),(15,I i)]) (fun i w'=>i≤2∧∃c',RR c w Dw [92] c' w'∧BW c' w' pa A∧AI c' w' 91 p (Ig pa (.slice (some ⟨g,0,none⟩) j.half.length cp) b9 j) 150∧AJ c' w' 92 3 1 (.slice (some ⟨g,0,none⟩) j.half.length cp) j.half.length ((if i=2 then j.half.set d 1 else j.half).map I)∧AJ c' w' 93 52 6 b9 j.num cs∧AI c' w' 104 b4 [I ((if i=2 then life else 0:Nat):Int),I 0,St [], .slice none 0 0] 156) (fun i=>2-i) 0 AL ⟨Wm _,_,hJ.D,R.D,a1.D,hh.D,b0.D,Bd⟩ ?_;clear hJ R a1 hh b0 Bd;rintro i j8 ⟨hi,c5,hJ,R,a1,hh,b0,Bd⟩;refine Q<|E (AX Z Z)<|Ah<|Ag<|BA Z (fun n1=>?_) fun n1=>?_
 ·have n5:i<2:=G;rw[ss G] at Bd hh;have b5:Dz c5 j8 p pa j:=⟨_,b9,cs,a1,hh,b0⟩;refine As<|Ag<|An<|Q<|M Z<|V Z<|Q<|M Z<|M Z<|M Z<|ve (Ac c5 1 (Ab ay Z (MB (n:=i) G))) ?_;rintro r4 w2 ⟨c2,b7,q5,rfl⟩;refine ve (Ac c2 1 (Ab sn Z (kF (i:=i) b5.D R.D j1 hl k9 l0 n5))) ?_;rintro r5 u6 ⟨k5,h8,q6,rfl⟩;refine M Z<|E (Aq Z Z)<|E (Aq Z Z)<|za Z<|V Z<|Ag<|Q<|M Z<|E (BK Z Z)<|Ah<|Cz Z (fun j3=>?_) fun j3=>?_
  ·exact absurd j3 AO
  refine As<|Q<|M Z<|E (Aa Gm Z)<|E (Al AF Z Bd.D.AE Z)<|E (CM Z Z)<|Ah<|WC.mono (N:=(fun e w'=>Sub [(4000000, .tuple #[]),(0,P1 p),(1,I d),(4,P1 b4),(5,I 0),(15,I i)] e∧∃c',RR c w Dw [92] c' w'∧BW c' w' pa A∧AI c' w' 91 p (Ig pa (.slice (some ⟨g,0,none⟩) j.half.length cp) b9 j) 150∧AJ c' w' 92 3 1 (.slice (some ⟨g,0,none⟩) j.half.length cp) j.half.length ((if i+1=2 then j.half.set d 1 else j.half).map I)∧AJ c' w' 93 52 6 b9 j.num cs∧AI c' w' 104 b4 [I ((if i+1=2 then life else 0:Nat):Int),I 0,St [], .slice none 0 0] 156)) ?_ ?_
  ·refine BA Z (fun h2=>?_) fun h2=>?_
   ·have j5:i=1:=by
     rcases Aab i 1 with h|h
     ·have:i=0:=G;subst this;simp at h2
     omega
    rw[zm j5];refine AM k5 [92,104] [0,0,0,1,0,0,0,0,2,0,3] [0,1,2,3,4,5,6,7,8,9,10] fun u7 p3 o=>Bm Z Z<|AN Z (Ak Z)<|AN Z (Aa Le Z)<|vc Z o.kp (a1.D.kb BQ Z Z)<|Bm Z Z<|Bm Z Z<|Bm Z Z<|AN Z (Aa Gm Z)<|Kb Z Z Z (Ap AF Z Z ra ra Bd.D Z) ?_;rintro _ u9 ⟨Bd,l7⟩;refine o.Bl l7 fun o=>AN Z (BS BM hh.D Z Z G G) ?_;refine LG Z ((Dv (j:=d) (x:= .tmp 42) (y:= .tmp 40) (u:=I i) AF hh.D Z G (by rw[show(⟨g,d,none⟩:Addr)=Bz (.slice (some ⟨g,0,none⟩) j.half.length cp) 1 (d:Int).toNat by simp[Bz,add_lit]];rfl) Z Z Z)) ?_;rintro _ v7 ⟨o5,h9,hh⟩;try replace o:=o.tr h9 Z
    rw[←Ab0] at hh;refine AP ?_;clear o;refine⟨AL,_,hJ.D,R.D,a1.D,?_,b0.D,?_⟩
    ·rw[zm G];rw[j5] at hh;exact hh
    replace Bd:=Bd.D h9;rw[zm G];exact Bd
   have q0:i=0:=by
    rcases Aab i 1 with h|h
    ·omega
    have:i=1:=G;subst this;rw[zm Z] at h2;omega
   refine As<|⟨AL,_,hJ.D,R.D,a1.D,?_,b0.D,?_⟩
   ·replace hh:=(hh.D b7).D h8;rw[ss G];exact hh
   replace Bd:=(Bd.D b7).D h8;rw[ss G];exact Bd
  clear hJ R a1 hh b0 Bd b5;rintro e w3 ⟨n9,o7,hJ,R,a1,hh,b0,Bd⟩;refine DN n9<|cg<|E (Bc Z Z Ai Ai)<|M Z<|Ah ?_;exact⟨i+1,AL,⟨G,_,hJ,R,a1,hh,b0,Bd⟩,G⟩
 have k8:i=2:=G;subst k8;rw[zm Z] at Bd hh;refine Az Z<|Ag<|Q<|E (Aa Gm Z)<|E (Al AF Z Bd.AE Z)<|E (BO Z Z)<|Ah<|Cz Z (fun j2=>?_) fun j2=>?_
 ·exact absurd (Adf j2) G
 have b2:Dz c5 j8 p pa {j with half:=j.half.set d 1}:=⟨_,b9,cs,a1,by show AJ _ _ 92 _ 1 _ (j.half.set d 1).length _;rw[Yy];exact hh,b0⟩;refine As<|Q<|M Z<|M Z ?_;refine ve (Ac c5 1 (Ab xn Z (ko (d:=d) (hv:=1) (C:=fun i↦OA (Ft life 0 J) (64*i)) b2 R j1 (by show d<(j.half.set d 1).length;rw[Yy];exact hd) (by show(j.half.set d 1).length≤12;rw[Yy];exact n2) (by show(j.half.set d 1)[d]?=some 1;simp[hd]) G (fun i hi↦⟨by simp[OA],by rw[show(512:Int)*1+1+(i:Nat)=513+(i:Nat) by omega];exact l1 i hi⟩)))) ?_;rintro r6 v8 ⟨k6,p4,q7,rfl⟩;rw[kB j0];obtain⟨F,hF⟩:∃F,F=Ft life 0 J++replicate (32704-(Ft life 0 J).length) 0:=⟨_,Z⟩;have l4:F.length=32704:=by rw[hF,ft,Iz];omega
 have e3:Ko life (F.length+1) 0 F=J.map (Gf 0):=by rw[l4,hF];exact rM hl j0
 rw[←hF];refine M Z<|E (Aq Z Z)<|E (Aq Z Z)<|za Z<|V Z<|Ag<|Q<|M Z<|E (Aa Gm Z)<|E (Al AF Z Bd.D.AE Z)<|ve (Ab xo Z (ZZ (c:=k6) (s:=F) (life:=life))) ?_;rintro r7 w0 ⟨o6,p5,⟨q9,r0,rfl,h3,h4⟩⟩;refine Ah<|An<|EJ (α:=Nat×Tx) (encs:=fun x=>[I (x.1:Nat),St x.2]) (κ:=[70]) (F:=[71]) (L:=GA 0 (Ko life (F.length+1) 0 F))
  (fun pre U B=>RR c w Dw [92] U B∧BW U B pa A∧Dz U B p pa {j with half:=j.half.set d 1}∧∃vl a8,AI U B 104 b4 [I life,I pre.length,St (pre.map (·.2)).flatten,vl] 156∧AJ U B 148 TX 6 vl (J.take pre.length).flatten.length a8.flatten∧IH U B a8 (J.take pre.length).flatten) [] (fun _ _ _=>False) [104,148] Z Z xY (WL G h3 h4 hl.2) Z (fun _=>rfl) Bb Z
  (fun s U A1 d2 B h m=>by obtain⟨j9,k0,k1,vl,a8,k2,k3,k4⟩:=h;exact⟨j9.D m,k0.D m,k1.D m,vl,a8,k2.D m,k3.D m,k4.D m⟩) (fun p hp=>by simp at hp) (fun s U A1 d2 B h _=>h.elim)
  ⟨hJ.D.D,R.D.D,b2.D.D,_,[],Bd.D.D,by rw[Ace,Aeu];exact Br _ _ _ _ _,by rw[Ace,Aeu];exact oV _ _⟩ ?_ ?_ ?_ ?_
 ·clear hJ R a1 hh b0 Bd b2 h3 h4;rintro l pre ⟨n,t⟩ d2 B ⟨hJ,R,b2,vl,a8,Bd,f,a6⟩ h5;rw[e3] at h5;obtain⟨n7,ht⟩:=kE h5;rw[Aah] at ht;obtain⟨L,e4,j6⟩:=Abm.1 ht;have q3:pre.length<J.length:=(kJ.1 e4).1;have h7:=Lx e4;have p0:=n4 L h7;have p1:=ep L;obtain⟨T,hT⟩:∃T,T=(pre.map (·.2)).flatten:=⟨_,Z⟩;have n0:=kD h5;have p7:=Yt life J 0;rw[←hT] at Bd n0;obtain⟨b3,l9⟩:=kC e4;obtain⟨Mjq,l5⟩:∃Mjq,Mjq=(J.take pre.length).flatten:=⟨_,Z⟩;rw[←l5] at f a6 b3 l9;have p8:=Qk life J 0;have KG:=jA (n6 L h7) G;rw[j6] at KG;have q4:t.length=EL L:=by rw[←j6,Gr]
  have hK:=Acc.refl d2 B [104,148];have o0:=f.AD;have cx:=f.AA;subst n7;refine Q<|V Z<|cg<|V Z<|⟨_,hK,?_⟩;intro A2 b7;have hK:=Acc.refl d2 A2 [104,148];refine An<|Q<|M Z<|ve (Ab xp Z (oW (c:=d2) (s:=t) G)) ?_;rintro r8 o1 ⟨k7,h1,⟨r3,e2,rfl,b8,a7⟩⟩;rw[KG] at b8 a7;have q8:=b8.AD;have o8:=b8.AA;refine M Z<|E (Aq Z Z)<|E (Aq Z Z)<|E (Aq Z Z)<|za Z<|za Z<|V Z<|WC.mono (N:=(fun _ w'=>∃U,Acc d2 A2 [104,148] U w'∧RR c w Dw [92] U w'∧BW U w' pa A∧Dz U w' p pa {j with half:=j.half.set d 1}∧∃vl a8,AI U w' 104 b4 [I life,I (pre++[(pre.length,t)]).length,St ((pre++[(pre.length,t)]).map (·.2)).flatten,vl] 156∧AJ U w' 148 TX 6 vl (J.take (pre++[(pre.length,t)]).length).flatten.length a8.flatten∧IH U w' a8 (J.take (pre++[(pre.length,t)]).length).flatten)) ?_ ?_
  ·refine EB k7 [104,148] [0,2,0,2,0,0,0,2,0,0,0,2,0,2,0,3] (.Au 0 (.Au 2 (.Au 4 (.Au 5 (.Au 6 (.Au 8 (.two 1 (.two 3 (.one 7 (.Au 9 (.Au 10 (.one 11 (.Au 12 (.one 13 (.Au 14 (.one 15 .nil)))))))) 7 (.Au 9 (.one 3 (.Au 10 (.one 11 (.Au 12 (.one 13 (.Au 14 (.one 15 .nil))))))))) 7 (.Au 9 (.one 1 (.one 3 (.Au 10 (.one 11 (.Au 12 (.one 13 (.Au 14 (.one 15 .nil)))))))))))))))) fun s0 b6 o=>?_;refine Cd Z (Aa NR Z)<|Cd Z (Cf Z)<|Cd Z (Cf Z)<|Cd Z (Bc Z Z Ai Ai) ?_;refine Cd Z (Aa Mo Z)<|Cd Z (Cf Z)<|Ck ?_ ?_
   ·refine EM Z (Cs (Al Hm Z Bd.D.AE Z)) ?_;rintro _ _ ⟨rfl,rfl⟩;refine⟨id,?_⟩;refine Ck ?_ ?_
    ·refine EM Z (Ax GQ Z Z f.D (Src.own underlying94 b8.D.D.own a7.D.one) Fh Fg) ?_;rintro c4 s3 ⟨o2,e5,f⟩;refine o.Bl e5 fun o=>?_;have j7:=f.AD;have h6:=f.AA;refine EZ Z (Cs (Al CQ Z Bd.D.AE Z)) ?_;rintro _ _ ⟨rfl,rfl⟩;refine⟨id,?_⟩;refine Cd Z (dE Z Z Ai) ?_;refine Cd Z (Aa NR Z)<|AV<|CY Z Z Z (Ap Hm Z Z ra ra Bd.D Z) ?_;rintro _ s4 ⟨Bd,c6⟩;refine o.Bl c6 fun o=>Cd Z (Aa Lf Z)<|AV<|CY Z Z Z (Ap AF Z Z ra ra Bd Z) ?_;rintro _ s5 ⟨Bd,c7⟩;refine o.Bl c7 fun o=>Cd Z (Aa Mo Z)<|AV<|Bj Z Z Z (Ap CQ Z Z ra ra Bd Z) ?_;rintro _ s6 ⟨Bd,e6⟩;refine Bs ?_;have b1:(pre++[(pre.length,t)]).length=pre.length+1:=by simp
     have c3:((pre++[(pre.length,t)]).map (·.2)).flatten=T++t:=by rw[hT];simp
     refine⟨_,hK.D,hJ.D,R.D,b2.D,c4,a8++e2,?_,?_,?_⟩
     ·rw[b1,c3,Acs];exact Bd
     ·replace f:=((f.D c6).D c7).D e6;rw[b1,b3,ft,Ac6];exact f
     replace a6:=((((((a6.D b7).D h1).D b6).D e5).D c6).D c7).D e6;replace a7:=((((a7.D b6).D e5).D c6).D c7).D e6;rw[b1,b3];exact a6.tN a7
    refine EM Z (Cs (Al CQ Z Bd.D.AE Z)) ?_;rintro _ _ ⟨rfl,rfl⟩;refine⟨id,?_⟩;refine Cd Z (dE Z Z Ai) ?_;refine EZ Z (Ax GQ Z Z f.D (Src.own underlying94 b8.D.D.own a7.D.one) Fh Fg) ?_;rintro c4 s7 ⟨o3,e7,f⟩;refine o.Bl e7 fun o=>?_;have j7:=f.AD;have h6:=f.AA;refine Cd Z (Aa NR Z)<|AV<|CY Z Z Z (Ap Hm Z Z ra ra Bd.D Z) ?_;rintro _ s8 ⟨Bd,c8⟩;refine o.Bl c8 fun o=>Cd Z (Aa Lf Z)<|AV<|CY Z Z Z (Ap AF Z Z ra ra Bd Z) ?_;rintro _ s9 ⟨Bd,c9⟩;refine o.Bl c9 fun o=>Cd Z (Aa Mo Z)<|AV<|Bj Z Z Z (Ap CQ Z Z ra ra Bd Z) ?_;rintro _ u0 ⟨Bd,e8⟩;refine Bs ?_;have b1:(pre++[(pre.length,t)]).length=pre.length+1:=by simp
    have c3:((pre++[(pre.length,t)]).map (·.2)).flatten=T++t:=by rw[hT];simp
    refine⟨_,hK.D,hJ.D,R.D,b2.D,c4,a8++e2,?_,?_,?_⟩
    ·rw[b1,c3,Acs];exact Bd
    ·replace f:=((f.D c8).D c9).D e8;rw[b1,b3,ft,Ac6];exact f
    replace a6:=((((((a6.D b7).D h1).D b6).D e7).D c8).D c9).D e8;replace a7:=((((a7.D b6).D e7).D c8).D c9).D e8;rw[b1,b3];exact a6.tN a7
   refine EM Z (Cs (Al CQ Z Bd.D.AE Z)) ?_;rintro _ _ ⟨rfl,rfl⟩;refine⟨id,?_⟩;refine Cd Z (dE Z Z Ai) ?_;refine EZ Z (Cs (Al Hm Z Bd.D.AE Z)) ?_;rintro _ _ ⟨rfl,rfl⟩;refine⟨id,?_⟩;refine EZ Z (Ax GQ Z Z f.D (Src.own underlying94 b8.D.D.own a7.D.one) Fh Fg) ?_;rintro c4 u1 ⟨o4,e9,f⟩;refine o.Bl e9 fun o=>?_;have j7:=f.AD;have h6:=f.AA;refine Cd Z (Aa NR Z)<|AV<|CY Z Z Z (Ap Hm Z Z ra ra Bd.D Z) ?_;rintro _ u2 ⟨Bd,e0⟩;refine o.Bl e0 fun o=>Cd Z (Aa Lf Z)<|AV<|CY Z Z Z (Ap AF Z Z ra ra Bd Z) ?_;rintro _ u3 ⟨Bd,e1⟩;refine o.Bl e1 fun o=>Cd Z (Aa Mo Z)<|AV<|Bj Z Z Z (Ap CQ Z Z ra ra Bd Z) ?_;rintro _ u4 ⟨Bd,h0⟩;refine Bs ?_;have b1:(pre++[(pre.length,t)]).length=pre.length+1:=by simp
   have c3:((pre++[(pre.length,t)]).map (·.2)).flatten=T++t:=by rw[hT];simp
   refine⟨_,hK.D,hJ.D,R.D,b2.D,c4,a8++e2,?_,?_,?_⟩
   ·rw[b1,c3,Acs];exact Bd
   ·replace f:=((f.D e0).D e1).D h0;rw[b1,b3,ft,Ac6];exact f
   replace a6:=((((((a6.D b7).D h1).D b6).D e9).D e0).D e1).D h0;replace a7:=((((a7.D b6).D e9).D e0).D e1).D h0;rw[b1,b3];exact a6.tN a7
  rintro o9 o1 l2;exact l2
 ·clear hJ R a1 hh b0 Bd b2 h3 h4;rintro Djq d2 B ⟨hJ,R,b2,vl,a8,Bd,f,a6⟩ l3;have j4:(GA 0 (Ko life (F.length+1) 0 F)).length=J.length:=by rw[e3,Ys,kr]
  have n3:((GA 0 (Ko life (F.length+1) 0 F)).map (·.2)).flatten=(J.map (Gf 0)).flatten:=by rw[e3,SB]
  rw[j4,n3] at Bd;rw[j4,Abi] at f a6;have n8:=aaT f a6 (by have:=Qk life J 0;omega);have o0:=f.AD;have cx:=f.AA;refine Q<|E (Ba GG Z Bd.AE Z)<|M Z<|Av (Am GG Z Z Bd Z Z Bg) ?_;rintro _ u5 ⟨Bd,l6⟩;refine V Z ?_;obtain⟨l8,p6⟩:=(l3.D l6).take;refine Jx Z Z l8 (DZ GG Z Bd.D.AE Z) (FD.tmp Z) ?_;exact⟨_,hJ.D.out,_,BW.Ih R.D hJ.D.eD,Dz.uI b2.D hJ.D.eD,aaS n8.D hJ.D.eD,Z⟩
 ·intro p hp;simp at hp
 exact fun _ _ _ _ h=>h.elim
def rN:List Int→Int
 |[]=>0
 |x::r=>if x≠0 then x else rN r
theorem oY(O:k<l.length):rN (l.drop k)=if l[k]≠0 then l[k] else rN (l.drop (k+1)):=by
 rw[Aav O,rN]
theorem rO(a b:Int):Go.Eng.Int64 (Lz a b):=by
 unfold Lz;split
 ·exact⟨G,G⟩
 ·split
  ·exact⟨G,G⟩
  ·exact⟨G,G⟩
theorem SC(a:Int):Lz a a=0:=by simp[Lz]
theorem oZ(h:0<p):Lz p 0=1:=by
 unfold Lz;rw[ss G];simp[h]
def fk(life many:Nat)(all:Tx)(u:Value):List Value:=[I life,I many,St all,u]
theorem zt(h:AI c w i k (l.flatMap fun x=>[I x]) d)(g:∀x∈l,Go.Eng.Int64 x)(hl:l.length≤100):Bu Cg c w [i] (.slice (some ⟨k,0,none⟩) l.length l.length) l:=by
 have f:=h.own (n:=l.length) (size:=1) (by rw[EN (n:=1) (fun _=>rfl)]) G;exact f.Gl G g
theorem pb{L:List Int}(h:Rd Cg w a L):Calls QP 153 #[a] w (Bt fun u w'=>AZ w w'∧u=I (rN L)):=by
 have t:=h.small;obtain⟨c,hO,p⟩:=Ay w;have g:=hO.rd h;refine AY 18 #[.tmp 2] func153 Z<|Q<|V Z<|Q<|V Z<|Ag<|Q<|M Z<|E (BN BM) ?_;refine M Z<|Ah<|An<|AG (σ:=Nat) (fun k=>[(2,I 0),(3,I 0),(6,a),(7,I L.length),(8,I k)]) (fun k w'=>(k≤L.length∧rN L=rN (L.drop k))∧∃c',CD w c' w'∧Bu Cg c' w' [0] a L) (fun k=>L.length-k) 0 AL ⟨⟨Wm _,Z⟩,_,hO,g⟩ ?_;rintro k C ⟨⟨O,f⟩,r,hO,g⟩;refine Q<|E (AX Z Z)<|Ah<|Ag<|BA Z (fun l=>?_) fun l=>?_
 ·have i:k<L.length:=G;have j:=(Co g i AO).1;rw[oY i] at f;refine As<|Ag<|An<|Q<|E (Cv BM) ?_;refine E (Cc AF Z j.DF)<|V Z<|Q<|M Z<|M Z<|E (BK Z Z)<|Ah<|BA Z (fun o=>?_) fun o=>?_
  ·refine Q<|M Z<|V Z<|Af Z Z ?_;exact⟨hO.D.below,by rw[f,zm G]⟩
  refine As<|cg<|E (Bc Z Z Ai Ai)<|M Z<|Ah ?_;refine⟨k+1,AL,⟨⟨G,by rw[f,ss G]⟩,_,hO,g⟩,G⟩
 refine Az Z<|Q<|M Z<|V Z<|Af Z Z ?_;rw[Abn G] at f;exact⟨hO.D.below,by rw[f];rfl⟩
theorem fl{u0:Value}(p:AJ c w 150 156 4 a b.length (b.flatMap (fk life k W)))(hu:b[0]?=some u0)(b1:∀u∈b,u.oneCell'=true∧u.cells=#[u])(c8:b.length≤12)(hl:1≤life∧life≤4611686018427387904)(c7:1≤k∧k≤4611686018427387904):
 Calls QP 77 #[a] w (Bt fun x w'=>AZ w w'∧x= .agg #[I life,I k,St W,u0]):=by
 have r:=DD.start c w [150];replace p:=p.Dt (J:=[150]) Z;generalize Bw c [150]=c0 at r p;have c3:0<b.length:=(kJ.1 hu).1;have q0:=b1 u0 (Lx hu);obtain⟨a8,b4⟩:=q0;obtain⟨g,cp,rfl,j,j⟩:=p.CT c3;refine AY 65 #[.cell 2 156] func77 Z<|Q<|EK c0 102 LM fun w1 b2 c1 j j=>?_;refine Ah<|Q<|V Z<|Ag<|Q<|M Z<|E (BN Ux) ?_;refine M Z<|Ah<|An<|AG (σ:=Nat) (fun i=>[(2,P1 b2),(3,I ((if i=0 then 0 else b.length:Nat):Int)),(10, .slice (some ⟨g,0,none⟩) b.length cp),(11,I b.length),(12,I i),(0, .slice (some ⟨g,0,none⟩) b.length cp)]) (fun i w'=>i≤b.length∧∃c',DD c w [150] c' w'∧AJ c' w' 150 156 4 (.slice (some ⟨g,0,none⟩) b.length cp) b.length (b.flatMap (fk life k W))∧AI c' w' 102 b2 [I ((if i=0 then 0 else life:Nat):Int),I ((if i=0 then 0 else k:Nat):Int),St (if i=0 then[] else W),(if i=0 then .slice none 0 0 else u0)] 156) (fun i=>b.length-i) 0 AL ⟨Wm _,_,r.D,p.D,j⟩ ?_;rintro i o ⟨hi,b7,r,p,j⟩;obtain⟨t,U⟩:∃t,t=if i=0 then 0 else life:=⟨_,Z⟩
 obtain⟨C,a1⟩:∃C,C=if i=0 then 0 else k:=⟨_,Z⟩
 obtain⟨R,a6⟩:∃R,R=if i=0 then 0 else b.length:=⟨_,Z⟩
 obtain⟨b0,b3⟩:∃b0:Tx,b0=if i=0 then[] else W:=⟨_,Z⟩
 obtain⟨o,a7⟩:∃o:Value,o=if i=0 then .slice none 0 0 else u0:=⟨_,Z⟩
 have b6:o.oneCell'=true∧o.cells=#[o]:=by rw[a7];split;exact⟨Z,Z⟩;exact⟨a8,b4⟩
 obtain⟨a8,a8⟩:=b6;rw[←U,←a1,←b3,←a7] at j;rw[←a6];have a8:t≤life:=by rw[U];split<;>omega
 have a8:C≤k:=by rw[a1];split<;>omega
 have a8:R≤12:=by rw[a6];split<;>omega
 refine Q<|E (AX Z Z)<|Ah<|Ag<|BA Z (fun a8=>?_) fun a8=>?_
 ·have b6:i<b.length:=G;obtain⟨a8,c4⟩:∃a8,a8=b[i]:=⟨_,Z⟩;obtain⟨b9,c5⟩:=b1 b[i] (mv b6);have b4:=p.elem (enc:=fk life k W) (fun _=>rfl) AO b6;rw[←c4] at b9 c5 b4;refine As<|Ag<|An<|Q<|E (Cv Ux) ?_;refine E (DT GG Z b4.DF Z)<|EK b7 105 LM fun w2 b5 c2 b6 Bv=>?_;refine Av (Am GG Z Z Bv Z Z Bg) ?_;rintro _ b6 ⟨Bv,b6⟩;refine Ah<|Q<|V Z<|Ag<|Q<|M Z<|E (BN Ux) ?_;refine M Z<|Ah<|An<|AG (σ:=Nat) (fun many=>[(0, .slice (some ⟨g,0,none⟩) b.length cp),(2,P1 b2),(3,I R),(10, .slice (some ⟨g,0,none⟩) b.length cp),(11,I b.length),(12,I i),(5,P1 b5),(6,I many),(16, .slice (some ⟨g,0,none⟩) b.length cp),(17,I b.length),(18,I many)]) (fun many w'=>many≤b.length∧∃c',DD c w [150] c' w'∧AJ c' w' 150 156 4 (.slice (some ⟨g,0,none⟩) b.length cp) b.length (b.flatMap (fk life k W))∧AI c' w' 102 b2 [I t,I C,St b0,o] 156∧AI c' w' 105 b5 (fk life k W a8) 156) (fun many=>b.length-many) 0 AL ⟨Wm _,_,r.D,p.D,j.D,Bv⟩ ?_;rintro many wk ⟨O,b0,r,p,j,Bv⟩;refine Q<|E (AX Z Z)<|Ah<|Ag<|BA Z (fun o=>?_) fun o=>?_
  ·have b4:many<b.length:=G;obtain⟨o,b6⟩:∃o,o=b[many]:=⟨_,Z⟩;obtain⟨b7,b9⟩:=b1 b[many] (mv b4);have o:=p.elem (enc:=fk life k W) (fun _=>rfl) AO b4;rw[←b6] at b7 b9 o;refine As<|Ag<|An<|Q<|E (Cv Ux) ?_;refine E (DT GG Z o.DF Z)<|EK b0 108 LM fun o b8 o o o=>?_;refine Av (Am GG Z Z o Z Z Bg) ?_;rintro _ b4 ⟨o,b4⟩;refine Ah<|Q<|E (Aa Gm Z)<|E (Al AF Z Bv.D.AE Z)<|E (Aa Gm Z)<|E (Al AF Z o.AE Z)<|E (BO Z Z)<|M Z ?_;apply AW true 5 _ CK
   ·intro b4;refine wo<|E (Aa Lf Z)<|wo<|E (Al AF Z Bv.D.AE Z)<|wo<|E (Aa Lf Z)<|wo<|E (Al AF Z o.AE Z)<|wo<|E (BO Z Z) ?_;exact EQ 5
   refine M Z ?_;apply AW true 5 _ CK
   ·intro b4;refine wo<|E (Aa Mo Z)<|wo<|E (Al CQ Z Bv.D.AE Z)<|wo<|E (Aa Mo Z)<|wo<|E (Al CQ Z o.AE Z)<|wo<|E (YD Z Z) ?_;exact EQ 5
   refine Ah<|Wr Z (fun o=>?_) fun o=>?_
   ·refine cg<|M Z<|E (Bc Z Z Ai Ai)<|V Z<|cg<|E (Bc Z Z Ai Ai)<|M Z<|Ah ?_;exact⟨many+1,AL,⟨G,_,r.D,p.D,j.D,Bv.D⟩,G⟩
   exact absurd o Bb
  have e:many=b.length:=G;subst e;refine Az Z<|Ag<|AM b0 [] [0,1,0,1,2,0,1,0,1,2,0,0,2,2,2,0] [0,1,2,3,5,6,7,8,10,11,4,9,12,13,14,15] fun o c5 o=>?_;refine AN Z (Aa Gm Z)<|vc Z o.kp (Bv.D.kb AF Z Z)<|AN Z (Aa Gm Z)<|vc Z o.kp (j.D.kb AF Z Z)<|AN Z (Aa Lf Z)<|vc Z o.kp (Bv.D.kb AF Z Z)<|AN Z (Aa Lf Z)<|vc Z o.kp (j.D.kb AF Z Z)<|Bm Z Z<|Bm Z Z<|Db Z (Ac b0 1 (Ab az Z (MC life t))) ?_;rintro b0 b0 ⟨b0,b6,b4,rfl⟩;refine o.Bl b6 fun o=>Db Z (Ac b0 1 (Ab az Z (MC k C))) ?_;rintro b0 b0 ⟨b0,b7,b4,rfl⟩;refine o.Bl b7 fun o=>Db Z (Ac b0 1 (Ab az Z (MC b.length R))) ?_;rintro b0 b0 ⟨b0,b9,b4,rfl⟩;refine o.Bl b9 fun o=>Db Z (Ht b0 157 BM Z Z Z (by simp[Value.cells]) Z Z) ?_;rintro _ b0 ⟨b0,b4,rfl,b0,c6⟩;refine o.Bl b0 fun o=>?_;refine Db Z (Ac b4 1 (Ab xq Z (pb (L:=[Lz life t,Lz k C,Lz b.length R]) (zt (l:=[Lz life t,Lz k C,Lz b.length R]) c6 (fun x hx↦by simp only[Aak,Acx,Ae3] at hx;rcases hx with rfl|rfl|rfl<;>exact rO _ _) Bb).AB))) ?_;rintro b4 b4 ⟨b4,b4,c6,rfl⟩;refine o.Bl b4 fun o=>Ir Z Z<|AP ?_;refine Ag ?_;obtain⟨q,o⟩:∃q,q=rN [Lz life t,Lz k C,Lz b.length R]:=⟨_,Z⟩;have C:i=0→q=1:=fun e=>by
   rw[o,U,zm e,rN,show((0:Nat):Int)=0 from Z,oZ G];rfl
  have t:i≠0→q=0:=fun e=>by
   rw[o,U,a1,a6,ss e,ss e,ss e,SC,SC,SC];rfl
  rw[←o];refine cg<|M Z<|E (CM Z Z)<|Ah<|BA Z (fun o=>?_) fun o=>?_
  ·have o:i=0:=by
    rcases Aa6 i with h|h
    ·exact h
    have:=t G;omega
   have t:a8=u0:=by
    rw[c4];simp only[o];rw[dd c3] at hu;injection hu
   refine cg<|E (Ba GG Z Bv.D.AE Z)<|M Z<|Av (Am GG Z Z j.D Z Z Bg) ?_;rintro _ R ⟨j,R⟩;refine V Z<|cg<|E (Bc Z Z Ai Ai)<|M Z<|Ah ?_;refine⟨i+1,by rw[ss (show¬(i+1=0) by omega)];exact AL,⟨G,_,r.D,p.D,?_⟩,G⟩;rw[ss (show¬(i+1=0) by omega),ss (show¬(i+1=0) by omega),ss (show¬(i+1=0) by omega),ss (show¬(i+1=0) by omega)]
   first|exact t▸j|exact j
  have o:i≠0:=fun e=>by have:=C e;omega
  replace j:=(((((j.D c5).D b6).D b7).D b9).D b0).D b4;rw[U,a1,b3,a7,ss o,ss o,ss o,ss o] at j;rw[a6,ss o];refine As<|cg<|E (Bc Z Z Ai Ai)<|M Z<|Ah ?_;refine⟨i+1,by rw[ss (show¬(i+1=0) by omega)];exact AL,⟨G,_,r.D,p.D,?_⟩,G⟩;rw[ss (show¬(i+1=0) by omega),ss (show¬(i+1=0) by omega),ss (show¬(i+1=0) by omega),ss (show¬(i+1=0) by omega)]
  first|exact t▸j|exact j
 have o:i≠0:=G;rw[U,a1,b3,a7,ss o,ss o,ss o,ss o] at j;refine Az Z<|Q<|E (Ba GG Z j.AE Z)<|Av (Am GG Z Z j Z Z Bg) ?_;rintro _ o ⟨j,o⟩;refine Ah<|FH Z (DZ GG Z j.AE Z) ?_;exact⟨r.D.D.below,Z⟩
def NB(hav:Nat→Bool)(n:Nat):List Nat→List Int:=List.foldl (fun H k=>if hav k=true then H.set k 1 else H) (replicate n 0)
theorem Wj(hav:Nat→Bool)(n:Nat)(pre:List Nat)(k:Nat):NB hav n (pre++[k])=if hav k=true then(NB hav n pre).set k 1 else NB hav n pre:=by
 rw[NB,Adq];rfl
theorem kG{hav:Nat→Bool}(pre:List Nat):∀H:List Int,(pre.foldl (fun H k=>if hav k=true then H.set k 1 else H) H).length=H.length:=by
 induction pre with
 |nil=>exact fun _=>rfl
 |cons k r f=>intro H;rw[Afd,f];split;exact Yy;rfl
theorem fm{hav:Nat→Bool}(pre:List Nat):∀H:List Int,(∀h∈H,h=0∨h=1)→∀h∈(pre.foldl (fun H k=>if hav k=true then H.set k 1 else H) H),h=0∨h=1:=by
 induction pre with
 |nil=>exact fun _ h=>h
 |cons k r i=>
  intro H g;rw[Afd];refine i _ ?_;split
  ·intro h hh;rcases Aa4 hh with f|f
   ·exact g h f
   exact .inr f
  exact g
theorem SD(hav:Nat→Bool)(n:Nat)(pre:List Nat):(NB hav n pre).length=n:=by rw[NB,kG,Iz]
theorem fo(hav:Nat→Bool)(n:Nat)(pre:List Nat):∀h∈NB hav n pre,h=0∨h=1:=fm pre _ fun h hh=> .inl (Ack hh)
theorem Yv(lv:Nat→Bool)(n:Nat):(CR lv n).length≤n:=by
 have:=Aa0 lv (List.range n);rw[Aap] at this;exact this
theorem aa{lv hav:Nat→Bool}(h:∀k,k<n→hav k=true→lv k=true):(CR lv n).filter hav=CR hav n:=by
 rw[CR,CR,Agy];refine Aea fun k O=>?_;rw[Aax] at O;cases e:hav k
 ·rfl
 rw[h k O e];rfl
section
variable {c c':Nat→Nat} {w w':World} {I:List Nat}
structure pr (c:Nat→Nat) (w:World) (us:List Value) (L:List Rec):Prop where
 one:∀u∈us,u.oneCell'=true∧u.cells=#[u]
 rd:∀u∈us,Bu FG c w [5,148] u L
theorem pr.D(h:pr c w b P)(m:Mv c w c' w' I:=by exact Go.Eng.KU)(hi:BB [5,148] I=true:=by rfl):pr c' w' b P:=⟨h.one,fun u hu=>EA.D (h.rd u hu) m hi⟩
theorem pr.snoc(h:pr c w b P)(g:a.oneCell'=true)(i:a.cells=#[a])(j:Bu FG c w [5,148] a P):pr c w (b++[a]) P:=
 ⟨fun x hx=>by
  rcases Aac.1 hx with hx|hx
  ·exact h.one x hx
  ·rw[pv.1 hx];exact⟨g,i⟩,fun x hx=>by
  rcases Aac.1 hx with hx|hx
  ·exact h.rd x hx
  ·rw[pv.1 hx];exact j⟩
theorem pr.nil(c:Nat→Nat)(w:World)(L:List Rec):pr c w [] L:=⟨fun x hx=>(by simp at hx),fun x hx=>(by simp at hx)⟩
end
theorem zu{c:Nat→Nat}{w:World}{c0:Nat}(p:EA X c w [i,c0,k])(w0:BE j h e c w)(hi:([i,c0,k].all fun x=>Nat.blt 0 x&& !AU e x)=true:=by rfl):EA X (back j h c) w [i,c0,k]:=HM.mono p fun q _ O=>by
 show AU [i,c0,k] (back j h c q)=true
 by_cases o:q<h.heap.size
 ·exfalso;have l:=O;rw[AU,Aa8] at l;obtain⟨x,r,t⟩:=l;have J:c q=x:=by simpa using t
  have f:=Aae.1 hi x r;rw[←J,kg,Aa9] at f;have g:=w0.BF q o;unfold Bw at g;split at g
  ·rename_i hJ;rw[g,hJ] at f;exact Bool.noConfusion f.2
  ·rw[g] at f;exact Bool.noConfusion f.1
 ·rw[back,ss o];exact O
def pd(hav:Nat→Bool)(n:Nat)(pre:List Nat):Jl:={ca n with half:=NB hav n pre}
theorem rP(hav:Nat→Bool)(n:Nat)(pre:List Nat):Ta n (pd hav n pre):=⟨SD hav n pre,fo hav n pre,Z,kM _,by show 0≤32704;omega,kM _,kM _,by show 0≤_;omega⟩
theorem _root_.Go.Eng.WJ.D{c c':Nat→Nat}{w w':World}{K:List Nat}{p pa:Nat}{j:Jl}{L:List Rec}(h:WJ c w p pa j L)(m:Mv c w c' w' K:=by exact Go.Eng.KU)(hi:BB [91,92,93,146,149] K=true:=by rfl):WJ c' w' p pa j L:=by
 obtain⟨f,vl,cs,a,b,d,e⟩:=h;have O:∀i∈[91,92,93,146,149],AU K i=false:=fun i h=>BD hi h;exact⟨f,vl,cs,a.D m (O _ Bb),b.D m (O _ Bb),d.D m (O _ Bb),EA.D e m (CC hi fun i h=>by revert h;simp only[Aak,Acx,Ae3];omega)⟩
theorem kH{c:Nat→Nat}{w:World}{c0:Jl}(w0:WJ c w k m c0 P)(hJ:BE j h BX c w):WJ (back j h c) w k m c0 P:=by
 obtain⟨f,vl,cs,a,b,d,e⟩:=w0;exact⟨f,vl,cs,a.EO hJ Z,b.EO hJ Z,d.EO hJ Z,zu e hJ⟩
theorem fp{J:Jl}{hav:Nat→Bool}(r:Dz c w m i (pd hav n e))(o:BW c w i F)(C:SX F)(f:JX n hav F J Y)(a6:n≤12)(O:k<n)(hu:J.used≤32704)(a1:hav k=false→∀s:Nat,s<1024→Bp F k s=(zT,0)):
 Calls QP 76 #[P1 m,I k] w (Bt fun u w'=>∃c',Mv c w c' w' [92]∧∃vl,BW c' w' i F∧Dz c' w' m i (pd hav n (e++[k]))∧Bu FG c' w' [5,148] vl (if hav k=true then Y.flatten else[])∧vl.oneCell'=true∧vl.cells=#[vl]∧u= .tuple #[.agg #[I ((if hav k=true then J.life else 0:Nat):Int),I ((if hav k=true then Y.length else 0:Nat):Int),St (if hav k=true then(Y.map (Gf 0)).flatten else[]),vl],I 0]):=by
 cases pre:hav k
 ·have g:=XL (d:=(k:Int)) r o C (fun pa hi=>by
   obtain⟨q,rfl⟩:∃q:Nat,pa=q:=⟨pa.toNat,G⟩;exact a1 pre (512*q) G)
  refine Bt.mono g fun u w' ⟨l,hu⟩=>?_;obtain⟨c',t,_⟩:=Mv.pure c 0 l;have l:Mv c w c' w' [92]:=t.more Z;refine⟨c',l, .slice none 0 0,o.D l,?_,?_,Z,Z,hu⟩
  ·show Dz c' w' m i {ca n with half:=NB hav n (e++[k])}
   rw[Wj,pre];exact r.D t
  exact AJ.rd (s:=FG) (css:=[]) (Br c' w' 148 TX 6) Bb Z Z fun k cs x g t=>by simp at g
 have g:=fj (d:=k) r o C (by show k<(NB hav n e).length;rw[SD];exact O) (by show(NB hav n e).length≤12;rw[SD];exact a6) f.life (by rw[←f.used];exact hu) f.may (f.z k O pre) (f.h k O pre) (f.b k O pre);refine Bt.mono g fun u w' ⟨c',l,vl,t,R,g,U⟩=>?_;refine⟨c',l,vl,t,?_,g,g.AB.AD,g.AB.AA,U⟩;show Dz c' w' m i {ca n with half:=NB hav n (e++[k])}
 rw[Wj,pre];exact R
theorem pe{A:CS}{J:Jl}{hav:Nat→Bool}(f:BW c w i A)(c8:0<n∧n≤12)(h3:1024≤m∧m≤2048)(hp:GR n m A)(hc:A.BC≤800000000)(c7:JX n hav A J Y)(hl:J.life≤3000000000)(e8:1≤Y.length)(hu:J.used≤32704)(e6:24+EL Y.flatten≤32704)
 (hs:∀k,k<n→hav k=true→BG A k=true)(h0:∀k:Nat,k<n→BG A k=true→hav k=false→∀s:Nat,s<1024→Bp A k s=(zT,0))(h6:n<2*(CR hav n).length):
 Calls QP 32 #[P1 i] w (Bt fun u w'=>∃c',Mv c w c' w' BX∧∃e4 p j,BW c' w' i e4∧WJ c' w' p i j Y.flatten∧HP n m 20000 A e4∧Ta n j∧j.used=24+EL Y.flatten∧j.long=EL Y.flatten∧j.failed=false∧j.num=Y.flatten.length∧u= .tuple #[P1 p,I 0]):=by
 have hJ:=BE.start c w BX;replace f:=f.Mz (K:=BX);generalize Bw c BX=c0 at hJ f;have e2:=hp.wf c8 G G;have h1:=c7.life;have pa:Y.length≤32704:=by have:=(Pe J.life Y 0).1;rw[←c7.used] at this;omega
 obtain⟨all,e9⟩:∃all,all=(Y.map (Gf 0)).flatten:=⟨_,Z⟩;obtain⟨Mjq,c6⟩:∃Mjq,Mjq=Y.flatten:=⟨_,Z⟩;have h4:∀r∈Mjq,FT r=true:=fun r pa=>by
  rw[c6] at pa;obtain⟨L,o,pa⟩:=Afv.1 pa;exact c7.may L o r pa
 rw[←c6] at e6;refine AY 59 #[.cell 2 90, .cell 3 44] func32 Z<|Q<|EK c0 102 YP fun w1 b2 c1 pa R=>?_;refine EK c1 103 Uy fun w2 b3 c2 a6 AR=>Ah<|Ag<|Q<|M Z<|ve (Ac c2 1 (Ab wE Z (cb f.D))) ?_;rintro pa pa ⟨o,pa,pa,rfl⟩;rw[hp.sec];refine E (BL Z)<|Ah<|Cz Z (fun pa=>?_) fun pa=>?_
 ·exact absurd pa (by simp;omega)
 refine As<|Q<|M Z<|M Z<|ve (Ac o 1 (Ab Ws Z (GZ f.D))) ?_;rintro pa pa ⟨pa,o,o,rfl⟩;rw[hp.len];refine ve (GD pa 92 BM Z Z Ai Ai Ai) ?_;rintro pa pa ⟨o,pa,pa⟩;rw[yV,TJ] at pa;obtain⟨g,cp,rfl,t,t⟩:=pa.CT G;refine E (By (cells:=#[P1 i,I 0,I 0,I 0,I 0,St [], .slice (some ⟨g,0,none⟩) n cp, .slice none 0 0, .bool false]) Z Ao) ?_;refine Fa o 91 fun o c4 o a8 b0=>?_;refine EK o 104 YP fun o b4 C o Bd=>Av (Ap Gx Z Z ra ra Bd Z) ?_;rintro _ t ⟨Bd,t⟩;refine Ah<|Q<|EK C 105 pN fun C b5 a1 U Bv=>?_;refine Ah<|Ag<|Ag ?_;have C:Dz _ _ c4 i (pd hav n []):=⟨_, .slice none 0 0,[],(((b0.D o).D t).D U),by show AJ _ _ _ _ _ _ (replicate n (0:Int)).length _;rw[Iz];exact((((pa.D a8).D o).D t).D U),Br _ _ _ _ _⟩;refine cg<|E (Al Gx Z Bd.D.AE Z)<|ve (Ac a1 76 (Ab pL Z (OT))) ?_;rintro pa pa ⟨pa,o,U,⟨pa,rfl,t,c9⟩⟩;have e1:AI _ _ 76 pa [P1 c4] 90:=⟨c9,U _ t⟩;obtain⟨lv,e3⟩:∃lv:Nat→Bool,lv=fun k:Nat=>BG A k:=⟨_,Z⟩;obtain⟨pa,pa,pa,e0,_⟩:=id (C.D o);refine Ah<|An<|Hu (α:=Nat) (encs:=fun k:Nat=>[I k]) (κ:=[]) (F:=[76,91]) (Φ:=bF i n lv) (Qjq:=fun pre x _ _=>pre++[x]<+:CR lv n) (Fin:=fun L=>L=CR lv n)
  (fun pre d B=>BE c w BX d B∧Dz d B c4 i (pd hav n pre)∧BW d B i A∧AI d B 102 b2 [.pointer none] 90∧AI d B 103 b3 [I 0] 44∧AI d B 104 b4 [P1 c4] 90∧∃b9 U,AI d B 105 b5 [b9] 151∧AJ d B 150 156 4 b9 U.length (U.flatMap (fk J.life Y.length all))∧pr d B U Mjq∧U.length=(pre.filter hav).length) [] (fun _ _ _=>False) [92,105,107,150] Z Z fQ (Nj e1 e0 c8.2) Z (fun _=>rfl) Bb Z
  (fun s d A c5 B h m=>by obtain⟨o,t,pa,a8,b0,b1,b9,U,b6,b8,c3,a1⟩:=h;exact⟨o.D m,t.D m,pa.D m,a8.D m,b0.D m,b1.D m,b9,U,b6.D m,b8.D m,c3.D m,a1⟩) (fun p hp=>by simp at hp) (fun s d A c5 B h _=>h.elim)
  (fun s d B ⟨o,t,pa,_⟩=>⟨A,pa,hp.len,fun k=>by rw[e3]⟩) ⟨hJ.D.D,C.D.D,f.D.D,R.D.D,AR.D.D,Bd.D.D,_,[],Bv.D.D,Br _ _ _ _ _,pr.nil _ _ _,Z⟩ ?_ ?_ ?_ ?_
 ·clear hJ C f R AR Bd Bv e1 c9 e0;rintro l pre k d B ⟨hJ,C,f,R,AR,Bd,b9,U,Bv,t,a8,c3⟩ o;have hK:=Acc.refl d B [92,105,107,150];have pa:k∈CR lv n:=o.subset Bb;rw[MA] at pa;have a1:=o.length_le;have h2:=Yv lv n;have o:=Aa0 hav pre;have o:U.length≤12:=by rw[ft] at a1;omega
  have h5:=t.AD;have cx:=t.AA;refine cg<|V Z<|⟨_,hK,?_⟩;intro A2 a6;have hK:=Acc.refl d A2 [92,105,107,150];refine An<|Q<|E (Al Gx Z Bd.D.AE Z)<|M Z ?_;refine ve (Ab wF Z (fp (k:=k) (hav:=hav) C.D f.D e2 c7 c8.2 pa.1 hu (fun e2↦h0 k pa.1 (by rw[e3] at pa;exact pa.2) e2))) ?_;rintro pa pa ⟨pa,a1,⟨vk,f,C,b8,e7,e5,rfl⟩⟩;refine M Z<|E (Aq Z Z)<|E (Aq Z Z)<|EK pa 107 LM fun pa b7 b6 pa b0=>?_;refine Av (Am GG Z Z b0 Z Z Bg) ?_;rintro _ o ⟨b0,o⟩;refine V Z<|Ag<|Q<|M Z<|E (BK Z Z)<|Ah<|Cz Z (fun b1=>?_) fun b1=>?_
  ·exact absurd b1 AO
  refine As<|Q<|E (Aa Gm Z)<|E (Al AF Z b0.AE Z)<|E (CM Z Z)<|Ah<|BA Z (fun c5=>?_) fun c5=>?_
  ·have hh:hav k=true:=by
    cases e:hav k
    ·rw[e] at c5;simp at c5
    rfl
   replace b8:=(b8.D pa).D o;simp only[zm hh,←e9,←c6] at b8 b0;refine cg<|E (Al YO Z Bv.D.AE Z)<|E (Ba GG Z b0.AE Z)<|ve (AH b6 137 Ux Z Z Z Z Z) ?_;rintro _ b0 ⟨b0,b0,rfl,b1,b0⟩;refine ve (Ax Ux Z Z t.D (Aw underlying151 b0.AE.AT Z Bg) Fh Fg) ?_;rintro b6 b6 ⟨b6,b6,t⟩;have b0:=t.AD;have b0:=t.AA;refine Av (Ap YO Z Z ra ra Bv.D Z) ?_;rintro _ b0 ⟨Bv,b0⟩;refine Ah ?_;replace hJ:=((((((hJ.D a6).D a1).D pa).D o).D b1).D b6).D b0;replace R:=((((((R.D a6).D a1).D pa).D o).D b1).D b6).D b0;replace AR:=((((((AR.D a6).D a1).D pa).D o).D b1).D b6).D b0;replace Bd:=((((((Bd.D a6).D a1).D pa).D o).D b1).D b6).D b0;replace a8:=((((((a8.D a6).D a1).D pa).D o).D b1).D b6).D b0;replace hK:=(((((hK.D a1).D pa).D o).D b1).D b6).D b0;replace C:=((((C.D pa).D o).D b1).D b6).D b0;replace f:=((((f.D pa).D o).D b1).D b6).D b0;replace b8:=((b8.D b1).D b6).D b0;replace t:=t.D b0
   first|exact⟨_,hK,hJ,C,f,R,AR,Bd,_,U++[vk],Bv,by rw[ft,Aan];exact t,a8.snoc e7 e5 b8,by rw[Acp,ft,ft,c3];simp[hh]⟩|exact⟨_,hK,hJ,C,f,R,AR,Bd,b9,U,Bv,t,a8,by rw[Acp,ft,c3];simp[hh]⟩
  have hh:hav k=false:=by
   cases e:hav k
   ·rfl
   rw[e] at c5;simp at c5;omega
  refine As ?_;replace hJ:=(((hJ.D a6).D a1).D pa).D o;replace R:=(((R.D a6).D a1).D pa).D o;replace AR:=(((AR.D a6).D a1).D pa).D o;replace Bd:=(((Bd.D a6).D a1).D pa).D o;replace Bv:=(((Bv.D a6).D a1).D pa).D o;replace t:=(((t.D a6).D a1).D pa).D o;replace a8:=(((a8.D a6).D a1).D pa).D o;replace hK:=((hK.D a1).D pa).D o;replace C:=(C.D pa).D o;replace f:=(f.D pa).D o;replace b8:=(b8.D pa).D o
  first|exact⟨_,hK,hJ,C,f,R,AR,Bd,_,U++[vk],Bv,by rw[ft,Aan];exact t,a8.snoc e7 e5 b8,by rw[Acp,ft,ft,c3];simp[hh]⟩|exact⟨_,hK,hJ,C,f,R,AR,Bd,b9,U,Bv,t,a8,by rw[Acp,ft,c3];simp[hh]⟩
 ·clear hJ C f R AR Bd Bv e1 c9 e0;rintro L Djq d B hF ⟨hJ,C,f,R,AR,Bd,b9,U,Bv,t,a8,c3⟩ b1;subst hF;rw[aa (fun k O e2↦by rw[e3];exact hs k O e2)] at c3;have h2:=Yv hav n;have o:0<U.length:=G;obtain⟨g2,pa,rfl,pa,pa⟩:=t.CT o;have c5:=a8.rd U[0] (mv o);obtain⟨pa,pa⟩:=a8.one U[0] (mv o);have h5:=t.AD;have cx:=t.AA;refine Ag<|Ag<|AM d [] [1,0,0,0,2,0] [0,1,2,3,4,5] fun pa b6 pa=>?_;have b8:=R;have b9:=AR;have c3:=Bd;have a6:=Bv;refine vc Z pa.kp (a6.D.kb YO Z Z)<|AN Z (BN Ux) ?_;refine AN Z (HK Z Z Ai Ai)<|Bm Z Z ?_;refine Db Z (Ac d 1 (Ab Ws Z (GZ f.D))) ?_;rintro a1 a1 ⟨b0,a1,c9,rfl⟩;refine pa.Bl a1 fun pa=>?_;rw[hp.len];refine AN Z (Gw Z Z)<|AP ?_;refine Cz Z (fun a6=>?_) fun a6=>?_
  ·exact absurd (Adf a6) G
  refine As<|Q<|E (Al YO Z Bv.D.AE Z)<|ve (Ac b0 1 (Ab aak Z (fl (u0:=U[0]) t.D (dd o) a8.one G h1 ⟨e8,G⟩))) ?_;rintro o o ⟨o,a6,t,rfl⟩;refine EK o 109 LM fun o o t a8 o=>Av (Am GG Z Z o Z Z Bg) ?_;rintro _ U ⟨o,b0⟩;refine Ah<|Ag<|Ag<|AM t Dw [1,1,0,1,2,0,1,2,0] [0,1,2,3,5,6,4,7,8] fun U b8 pa=>?_;refine vc Z pa.kp (Bd.D.kb Gx Z Z)<|vc Z pa.kp (Bd.D.kb Gx Z Z)<|AN Z (Aa Gm Z)<|vc Z pa.kp (o.D.kb AF Z Z)<|AN Z (Aa NR Z)<|vc Z pa.kp (o.D.kb Hm Z Z)<|Db Z (Ac t 1 (Ab wH Z (bY (life:=J.life) C.D f.D G G))) ?_;rintro o o ⟨o,t,o,⟨life,o,o,rfl⟩⟩;refine pa.Bl t fun pa=>Db Z (Ab wG Z (VU (life:=life) (K:=[5,148]) C.D f.D (rP hav n _) c8 h3 hp G G c5.D Z h4 e6)) ?_;rintro o o ⟨o,C,⟨A1,A2,e0,f,c5,U,o,o,c9,o,rfl⟩⟩;refine pa.Bl C fun pa=>Ir Z Z<|AP ?_;refine Q<|M Z<|E (BK Z Z)<|Ah<|Cz Z (fun pa=>?_) fun pa=>?_
  ·exact absurd pa AO
  refine As<|Q<|E (Al Gx Z Bd.D.AE Z)<|Av (Ap Gx Z Z ra ra R.D Z) ?_;rintro _ pa ⟨R,pa⟩;refine Av (Ap KF Z Z ra ra AR.D Z) ?_;rintro _ b9 ⟨AR,b9⟩;refine Ah ?_;obtain⟨c3,e1⟩:=((((((((((b1.D b6).D a1).D a6).D a8).D b0).D b8).D t).D C).D pa).D b9).take;refine Jx Z Z c3 (IR Gx Z R.D.AE Z) (IR KF Z AR.D.AE Z) ?_;rw[←c6];exact⟨_,hJ.D.out,A2,c4,e0,BW.Ih f.D hJ.D,kH c5.D hJ.D,U.more G,c9,by rw[o],by rw[o],by rw[o];rfl,by rw[o],Z⟩
 ·intro p hp;simp at hp
 exact fun _ _ _ _ h=>h.elim
theorem rQ{j:Jl}{L:List Rec}(h:WJ c w k m j L)(l:L.length≤100000)(hl:∀r∈L,r.list.length≤1048576∧r.Bo.length≤1048576):Calls QP 34 #[P1 k] w (Bt fun v w'=>∃c',Mv c w c' w' []∧∃f:List pq,AJ c' w' 147 52 6 v f.length (f.flatMap MJ)∧gY c' w' [146,149] f∧f.map (·.1)=L):=by
 have hJ:=BE.start c w [];obtain⟨t,vl,cs,g,_,_,i⟩:=h;have o:=i.AB.AD;have o:Rd FG w vl L:=i.AB;replace g:AI (Bw c []) w 0 k (Ig m t vl j) 150:=⟨g.AE,Z⟩;generalize Bw c []=c0 at hJ g;refine AY 8 #[.tmp 2] func34 Z<|Q<|V Z<|Q<|M Z<|E (Ak Z)<|E (Aa QH Z)<|E (Al Hm Z g.AE Z)<|ve (Ab tY Z (om (c:=c0) (L:=L) o l hl)) ?_;rintro g w1 ⟨c1,g,⟨f,g,i,o⟩⟩;refine V Z<|Af Z Z ?_;exact⟨_,hJ.D.out,f,g.EO hJ.D,⟨fun z g=>cY (i.l z g) hJ.D,fun z g=>(i.s z g).EO hJ.D⟩,o⟩
abbrev Ql:List Nat:=[90,121,122,123,124,125]
section
variable {c c':Nat→Nat} {w w':World} {vS vT vG:Value} {b:Bk} {YS:List Gs} {YT:List Vm}
theorem ND.zv(h:ND c w vS vT vG b YS YT):ND (Bw c Ql) w vS vT vG b YS YT:=⟨h.s.Dt Z,h.sl,⟨fun y hy=>(h.sp.el y hy).qN⟩,h.si,h.t.Dt Z,h.tl,⟨fun y hy=>(h.tp.el y hy).qN⟩,h.ti,h.g.Dt Z⟩
theorem zw(w0:ND c w vS vT vG b YS YT)(hJ:BE j h Ql c w):ND (back j h c) w vS vT vG b YS YT:=⟨w0.s.out hJ Z,w0.sl,⟨fun y hy=>(w0.sp.el y hy).WH hJ⟩,w0.si,w0.t.out hJ Z,w0.tl,⟨fun y hy=>(w0.tp.el y hy).WH hJ⟩,w0.ti,w0.g.out hJ Z⟩
end
theorem rR{pa pj:Nat}{P:HQ}{vG vl vs:Value}{YT:List Vm}{x:CV}(j:AI c w 90 m (Dq pa pj a y vG P) 101)(g:ND c w a y vG P.b U YT)(b2:Ic P.b.Ae)(hl:P.b.Ae.length≤900)
 (o:Bu Cg c w e vl [x.len,x.gen])(r:Bu Bx c w e vs x.Ad)(hK:BB e Ql=true)(hx:0≤x.id∧x.id≤1073741824)(hp:x.Ad.length≤1000):
 Calls QP 35 #[.pointer (some ⟨m,7,none⟩), .agg #[I 2,I x.id,St [],St [],vl,vs]] w (Bt fun v w'=>∃c',Mv c w c' w' Ql∧v=I 0∧∃b5 b6,AI c' w' 90 m (Dq pa pj b5 y vG {P with b:=jm P.b x}) 101∧ND c' w' b5 y vG (jm P.b x) b6 YT):=by
 have hJ:=BE.start c w Ql;replace j:=j.Dt (J:=Ql) Z;replace g:=g.zv;replace o:=o.Dt hK;replace r:=r.Dt hK;generalize Bw c Ql=c0 at hJ j g o r;have c2:=Vr r.AB;have b1:=Rz o.AB;have f:=o.AB.AD;have f:=r.AB.AD;have a1:=g.s.AD;have a6:=g.t.AD;have q5:=g.g.AD;have f:=g.s.AA;have f:=g.t.AA;have f:=g.g.AA;have a8:U.length=P.b.Ae.length:=by rw[←g.sl,kr]
 refine AY 190 #[.tmp 4] func35 Z<|Q<|Fa c0 103 fun w1 b3 c1 R AR=>?_;refine V Z<|Ag<|Q<|E (Aa Gg Z)<|E (Al AF Z AR.AE Z)<|Ah<|An<|Q<|E (BO Z Z)<|V Z<|Cz Z (fun f=>?_) fun f=>?_
 ·exact absurd f AO
 refine Q<|E (BO Z Z)<|V Z<|Wr Z (fun b0=>?_) fun b0=>?_
 ·refine Ag<|AM c1 [] [0,0,1,0,1,2,0,0,0,0,0] [0,1,2,3,4,5,6,7,8,9,10] fun w2 YS f=>?_;have t:=j;have l:=AR;refine Bm Z Z<|AN Z (Ak Z)<|vc Z f.kp (fun W C=>ES Fy Z (t.D.kp C Z).AE (Aat Z))<|AN Z (Aa Hl Z)<|vc Z f.kp (l.D.kb AF Z Z)<|Db Z (Ac c1 1 (Ab ls Z (Lq (n:=P.b.next) (d:=x.id) (g.D.yY G).AB a1 a6 q5 b2))) ?_;rintro C C ⟨a6,C,a1,rfl⟩;refine f.Bl C fun f=>?_;obtain⟨i,hi⟩:∃i,i=Pw P.b.Ae x.id:=⟨_,Z⟩;obtain⟨is,a1⟩:∃is,is=(Ib P.b.Ae x.id).isSome:=⟨_,Z⟩;rw[←hi,←a1];refine Bm Z Z<|AN Z (Aq Z Z)<|AN Z (Aq Z Z)<|Ir Z Z<|Ir Z Z<|AP ?_;refine Ag ?_;obtain⟨hs,b9,c3,b8,ht,c5,c6,c4,hg⟩:=(((g.D R).D YS).D C);have O:i≤U.length:=by rw[hi,a8];exact OV _ _
  have b7:is=true→i<U.length:=fun h↦by
   rw[a1] at h;obtain⟨k,a7⟩:=Ach.1 h;rw[hi,a8,Iw b2 a7];exact(WM.1 a7).1
  have a7:=(Co (((o.D R).D YS).D C) (k:=0) Bb AO).1;have a8:=(Co (((o.D R).D YS).D C) (k:=1) Bb AO).1;refine AM a6 [121] [0,0,0,0,1,0,0,0,1,0,1,0,1,0,1,0,1,0,1,2,0,2,0,0,3] [0,1,2,3,4,5,6,7,8,9,10,11,12,13,14,15,16,17,18,19,20,21,22,23,24] fun C C f=>?_;have t:=j;have l:=AR;refine Bm Z Z<|Bm Z Z<|AN Z (Ak Z)<|AN Z (Aa CA Z)<|vc Z f.kp (t.D.kb Ei Z Z)<|Bm Z Z<|Bm Z Z<|AN Z (Aa Hl Z)<|vc Z f.kp (l.D.kb AF Z Z)<|AN Z (Aa DE Z)<|vc Z f.kp (l.D.kb BQ Z Z)<|AN Z (Cv BM) ?_;refine vc Z f.kp (a7.D.ke AF Z)<|AN Z (Aa DE Z)<|vc Z f.kp (l.D.kb BQ Z Z)<|AN Z (Cv BM) ?_;refine vc Z f.kp (a8.D.ke AF Z)<|AN Z (Aa Gh Z)<|vc Z f.kp (l.D.kb CH Z Z)<|Db Z (Ac a6 122 (Ab Tw Z (EX r.D.AB G))) ?_;rintro C C ⟨C,C,YS,R⟩;refine f.Bl C fun f=>?_;replace R:=R.Du YS;obtain⟨a7,a8,rfl,_,_⟩:=R.own.len;obtain⟨C,a6⟩:∃C,C=Value.slice a7 x.Ad.length a8:=⟨_,Z⟩;have b4:C.oneCell'=true:=by rw[a6];rfl
  have YS:=Jf R G c2;rw[←a6] at YS;refine AN Z (By (cells:=#[I x.id,I x.len,I x.gen, .slice a7 x.Ad.length a8]) Z Ao) ?_;rw[←a6];refine Db Z (Ab wI Z (ch (i:=i) (is:=is) (x:=(x,⟨C,b4⟩)) hs.D O b7 G)) ?_;rintro b7 R ⟨a7,R,hs⟩;refine f.Bl R fun f=>?_;have a6:=hs.AD;have a6:=hs.AA;have a8:Go.Eng.Int64 x.id∧Go.Eng.Int64 x.len∧Go.Eng.Int64 x.gen:=⟨⟨G,G⟩,b1 _ Bb,b1 _ Bb⟩;refine AN Z (Ak Z)<|AN Z (Aa CA Z)<|LG Z (Ap Ei Z Z ra ra j.D Z) ?_;rintro _ a6 ⟨j,a6⟩;try replace f:=f.tr a6 Z
  refine AP ?_;refine AM a7 [] [0,0,0,0,1,0,1,0,0,0,0,3] [0,1,2,3,4,5,6,7,8,9,10,11] fun l l f=>Bm Z Z<|Bm Z Z<|AN Z (Ak Z)<|AN Z (Aa Ik Z)<|vc Z f.kp (j.D.kb AF Z Z)<|AN Z (Aa Hl Z)<|vc Z f.kp (AR.D.kb AF Z Z)<|AN Z (Bc Z Z Ai Ai)<|AN Z (qw Z Z) ?_;refine AN Z (Ak Z)<|AN Z (Aa Ik Z)<|LG Z (Ap AF Z Z ra ra j.D Z) ?_;rintro _ t ⟨j,t⟩;refine AP ?_;refine Q<|V Z<|Af Z Z<|⟨_,hJ.D.out,Z,b7,IJ U i is (x,⟨C,b4⟩),j.out hJ.D Z,zw ⟨hs.D,?_,⟨fun vT hy↦?_⟩,fun vT hy↦?_,ht.D,c5,c6.D,c4,hg.D⟩ hJ.D⟩
  ·rw[RC,b9,jm,hi,a1]
  ·rcases Km hy with h|h
   ·exact c3.D.el vT h
   replace YS:=(((YS.D R).D a6).D l).D t;rw[h];exact YS
  rcases Km hy with h|h
  ·exact b8 vT h
  rw[h];exact a8
 exact absurd b0 AO
end Go.Eng
