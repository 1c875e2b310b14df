/- The program, walked: part 6. No condition. -/
import Derived.Test.YtfgkcfdgepnhpaaGreatDoorC5
set_option linter.unusedSimpArgs false
set_option linter.unusedVariables false
set_option maxRecDepth 100000
set_option maxHeartbeats 4000000
open Go.Proofs.Tryz renaming prog → QP
variable {c : Nat → Nat} {w : Go.World}
namespace Go.Eng
open Go.RowKit Go.Proofs Go.Proofs.Tryz
variable {α:Type}{k m n i life:Nat}{s:List UInt8}{css:List (List Value)}{l:List Int}{w' h N:World}{cs news b:List Value}{c' j:Nat→Nat}{va a y:Value}{d A:TypeId}{e:List Nat}{f K:Operand}{g:Option (Nat×Bool)}{o:Array Edge}{p:Int}{q:List (List Int)}{r:Value→World→Prop}{u:List (Int×Int)}{v:String}{x:List Bool}{z:CO}{B:Bool}{C:List CV}{F:CS}{H:Program}{J:Option (Rec×List UInt8)}{P:List Rec}{R:IntKind}{S:FuncId}{T:Option Nat}{U:List Gs}{W:Tx}{X:World→Prop}{Y:List (List Rec)}{encs:α→List Value}{Qjq:List α→α→(Nat→Nat)→World→Prop}{Fin:List α→Prop}{t:List α}
open List (replicate)
theorem rS{pj:Nat}{P:HQ}{vG vl vs:Value}{YT:List Vm}{d:Tx}{n:Int}(j:AI c w 90 k (Dq m pj a y vG P) 101)(g:ND c w a y vG P.b U YT)(a7:KH P.b.AQ)(hl:P.b.AQ.length≤900)
 (o:Bu Cg c w e vl l)(c4:vs.oneCell'=true)(hK:BB e Ql=true)(b4:Go.Eng.Int64 n)(hd:d.length≤140737488355328)(hp:l.length≤100000):
 Calls QP 35 #[.pointer (some ⟨k,7,none⟩), .agg #[I 4,I n,St [],St d,vl,vs]] w (Bt fun v w'=>∃c',Mv c w c' w' Ql∧v=I 0∧∃b0 b1,AI c' w' 90 k (Dq m pj a b0 vG {P with b:=pp P.b ⟨d,n,false,l⟩}) 101∧ND c' w' a b0 vG (pp P.b ⟨d,n,false,l⟩) U b1):=by
 have hJ:=BE.start c w Ql;replace j:=j.Dt (J:=Ql) Z;replace g:=g.zv;replace o:=o.Dt hK;generalize Bw c Ql=c0 at hJ j g o;have b7:=Rz o.AB;have f:=o.AB.AD;have t:=g.s.AD;have R:=g.t.AD;have q5:=g.g.AD;have f:=g.s.AA;have f:=g.t.AA;have f:=g.g.AA;have a1:YT.length=P.b.AQ.length:=by rw[←g.tl,kr]
 refine AY 190 #[.tmp 4] func35 Z<|Q<|Fa c0 103 fun w1 b3 c1 a6 AR=>?_;refine V Z<|Ag<|Q<|E (Aa Gg Z)<|E (Al AF Z AR.AE Z)<|Ah<|An<|Q<|E (BO Z Z)<|V Z<|Fw Z<|Q<|E (BO Z Z)<|V Z<|Fw Z<|Q<|E (BO Z Z)<|V Z<|Fw Z<|Ag<|Q<|E (BO Z Z)<|V Z<|JN Z<|As<|JN Z<|Ag<|AM c1 [] [0,0,1,0,1,2,0,0,0,0,0] [0,1,2,3,4,5,6,7,8,9,10] fun w2 a8 f=>?_;have C:=j;have YS:=AR;refine Bm Z Z<|AN Z (Ak Z)<|vc Z f.kp (fun W r=>ES Fy Z (C.D.kp r Z).AE (Aat Z))<|AN Z (Aa JS Z)<|vc Z f.kp (YS.D.kb CQ Z Z)<|Db Z (Ac c1 1 (Ab pH Z (OW (n:=P.b.next) (d:=d) (g.D.yZ G).AB t R q5 a7))) ?_;rintro r r ⟨r,t,R,rfl⟩;refine f.Bl t fun f=>?_;obtain⟨i,hi⟩:∃i,i=Mh P.b.AQ d:=⟨_,Z⟩;obtain⟨is,R⟩:∃is,is=(Vp P.b.AQ d).isSome:=⟨_,Z⟩;rw[←hi,←R];refine Bm Z Z<|AN Z (Aq Z Z)<|AN Z (Aq Z Z)<|Ir Z Z<|Ir Z Z<|AP ?_;obtain⟨hs,b6,b8,b5,ht,c2,c3,b9,hg⟩:=(((g.D a6).D a8).D t);have O:i≤YT.length:=by rw[hi,a1];exact OV _ _
 have b2:is=true→i<YT.length:=fun h↦by
  rw[R] at h;obtain⟨p,t⟩:=Ach.1 h;rw[hi,a1,OU a7 t];exact(WM.1 t).1
 refine AM r [123] [0,0,0,0,1,0,0,0,1,0,1,0,1,0,0,1,2,0,2,0,0,3] [0,1,2,3,4,5,6,7,8,9,10,11,12,13,14,15,16,17,18,19,20,21] fun t t f=>Bm Z Z<|Bm Z Z<|AN Z (Ak Z)<|AN Z (Aa Ev Z)<|vc Z f.kp (j.D.kb HI Z Z)<|Bm Z Z<|Bm Z Z<|AN Z (Aa JS Z)<|vc Z f.kp (AR.D.kb CQ Z Z)<|AN Z (Aa Hl Z)<|vc Z f.kp (AR.D.kb AF Z Z)<|AN Z (Aa Gg Z)<|vc Z f.kp (AR.D.kb AF Z Z)<|AN Z (BO Z Z)<|AN Z (Aa DE Z)<|vc Z f.kp (AR.D.kb BQ Z Z)<|Db Z (Ac r 124 (Ab YN Z (GN o.D.AB G))) ?_;rintro r r ⟨r,r,C,t⟩;refine f.Bl r fun f=>?_;replace t:=t.Du C;obtain⟨a1,a6,rfl,_,_⟩:=t.own.len;obtain⟨r,YS⟩:∃r,r=Value.slice a1 l.length a6:=⟨_,Z⟩;have a8:r.oneCell'=true:=by rw[YS];rfl
 have C:=Jg t G b7;rw[←YS] at C;refine AN Z (By (cells:=#[St d,I n, .bool false, .slice a1 l.length a6]) Z Ao) ?_;rw[←YS];refine Db Z (Ab wJ Z (cj (i:=i) (is:=is) (x:=(⟨d,n,false,l⟩,⟨r,a8⟩)) ht.D O b2 G)) ?_;rintro a1 t ⟨t,t,ht⟩;refine f.Bl t fun f=>?_;have YS:=ht.AD;have YS:=ht.AA;refine AN Z (Ak Z)<|AN Z (Aa Ev Z)<|LG Z (Ap HI Z Z ra ra j.D Z) ?_;rintro _ YS ⟨j,YS⟩;try replace f:=f.tr YS Z
 refine AP ?_;refine Q<|V Z<|Af Z Z<|⟨_,hJ.D.out,Z,a1,IJ YT i is (⟨d,n,false,l⟩,⟨r,a8⟩),j.out hJ.D Z,zw ⟨hs.D,b6,b8.D,b5,ht.D,?_,⟨fun vT hy↦?_⟩,fun vT hy↦?_,hg.D⟩ hJ.D⟩
 ·rw[RC,c2,pp,hi,R]
 ·rcases Km hy with h|h
  ·exact c3.D.el vT h
  replace C:=(C.D t).D YS;rw[h];exact C
 rcases Km hy with h|h
 ·exact b9 vT h
 rw[h];exact⟨b4,hd⟩
theorem BE.Qm{c:Nat→Nat}{w:World}(w0:BE j h BX c w):BE j h BX (Go.Eng.Fe c) w:=⟨w0.os,w0.tape,w0.output,w0.size,fun k O=>by
 have f:=w0.BF k O;have hi:AU eI (Bw j BX k)=false:=by
  cases hc:AU BX (j k) with
  |false=>rw[Ia hc];rfl
  |true=>
   rw[KN hc];exact Fs Z hc
 exact FJ f hi,w0.block⟩
theorem rT{P:HQ}{vG:Value}{YT:List Vm}{r:Nt}(a6:AI c w 90 k (Dq m i a y vG P) 101)(a1:ND c w a y vG P.b U YT)(b0:Ic P.b.Ae)(b1:KH P.b.AQ)(hl:P.b.Ae.length≤900∧P.b.AQ.length≤900)
 (h:EA (fun w'=>FG.rd w'.heap.size w' cs (Fv r)) c w e)(hK:BB e Ql=true)(g:ZE r):
 Calls QP 35 #[.pointer (some ⟨k,7,none⟩), .agg cs.toArray] w (Bt fun v w'=>∃c',Mv c w c' w' Ql∧v=I 0∧∃pj j o t,AI c' w' 90 k (Dq m i pj j vG {P with b:=jt P.b r}) 101∧ND c' w' pj j vG (jt P.b r) o t):=by
 obtain⟨vl,vs,rfl,_⟩:=h.AB;have a7:Bu Cg c w e vl (Fv r).list:=HM.imp h fun w' _ ⟨C,J,K,f,_⟩=>by
  simp only[Ac8,Ae4] at K;rw[K.2.2.2.2.1];exact f
 have a8:Bu Bx c w e vs (Fv r).Bo:=HM.imp h fun w' _ ⟨C,J,K,_,f,_⟩=>by
  simp only[Ac8,Ae4] at K;rw[K.2.2.2.2.2];exact f
 cases r with
 |RE x=>
  refine(rR (x:=x) a6 a1 b0 hl.1 a7 a8 hK g.1 g.2).mono fun K w' ⟨v,YS,c',R,f,pj,o,C,J⟩=>?_;exact⟨v,YS,c',R,f,pj,y,o,YT,C,J⟩
 |TH d n l=>
  refine(rS (d:=d) (n:=n) (l:=l) a6 a1 b1 hl.2 a7 a8.AB.AD hK g.1 g.2.1 g.2.2).mono fun K w' ⟨v,YS,c',R,f,j,t,C,J⟩=>?_;exact⟨v,YS,c',R,f,a,j,U,t,C,J⟩
theorem rU{r:Nt}(h:ZE r):Go.Eng.Int64 (Fv r).Ar∧Go.Eng.Int64 (Fv r).id∧(Fv r).name.length≤140737488355328∧(Fv r).AK.length≤140737488355328:=by
 cases r with
 |RE x=>exact⟨⟨by show(_:Int)≤2;omega,by show(2:Int)≤_;omega⟩,⟨by have:=h.1;show _≤x.id;omega,by have:=h.1;show x.id≤_;omega⟩,by show 0≤_;omega,by show 0≤_;omega⟩
 |TH d n l=>exact⟨⟨by show(_:Int)≤4;omega,by show(4:Int)≤_;omega⟩,h.1,by show 0≤_;omega,h.2.1⟩
theorem rV(c:Nat→Nat)(w:World):ND c w (.slice none 0 0) (.slice none 0 0) (.slice none 0 0) Nf [] []:=
 ⟨Br _ _ _ _ _,Z,⟨fun y hy=>by simp at hy⟩,fun y hy=>by simp at hy,Br _ _ _ _ _,Z,⟨fun y hy=>by simp at hy⟩,fun y hy=>by simp at hy,Br _ _ _ _ _⟩
theorem pf{N:Nat}{A:CS}{s:CO}{J:Jl}{hav:Nat→Bool}{f:List Nt}(o:BW c w k A)(hs:Small s)(e9:s.k+s.m≤n∧n≤8)(c9:1≤N∧N≤12)(c4:1024+N*Ca s.size≤m∧m≤2048)(hp:GR n m A)(hc:A.BC≤800000000)
 (e1:JX n hav A J Y)(hl:J.life≤3000000000)(c7:1≤Y.length)(hu:J.used≤32704)(c6:24+EL Y.flatten≤32704)(e2:∀pa,pa<n→hav pa=true→BG A pa=true)(e3:∀pa:Nat,pa<n→BG A pa=true→hav pa=false→∀s:Nat,s<1024→Bp A pa s=(zT,0))(e6:n<2*(CR hav n).length)
 (a7:Y.flatten=f.map Fv)(b7:∀r∈f,ZE r)(e0:f.length≤800)(e4:Ek s (Da Nf f)=true):
 Calls QP 13 #[P1 k, .agg (DB s).toArray,I N] w (Bt fun u w'=>∃c',Mv c w c' w' BX∧∃b9 p pj j vS vT vG,DM c' w' p k pj vS vT vG ⟨s,N,b9,j,Da Nf f,(-1,-1),false⟩∧HP n m 20000 A b9∧Ta n j∧j.used=24+EL Y.flatten∧j.failed=false∧u= .tuple #[P1 p,I 0]):=by
 have hJ:=BE.start c w BX;replace o:=o.Mz (K:=BX);generalize Bw c BX=c0 at hJ o;have g:=hs.1;have U:∀r∈Y.flatten,r.list.length≤1048576∧r.Bo.length≤1048576:=fun r g=>by
  rw[a7] at g;obtain⟨y,hy,rfl⟩:=Aag.1 g;have R:=b7 y hy;cases y with
  |RE x=>exact⟨by show 2≤_;omega,by have:=R.2;show x.Ad.length≤_;omega⟩
  |TH d n l=>exact⟨by have:=R.2.2;show l.length≤_;omega,by show 0≤_;omega⟩
 have g:Y.flatten.length≤800:=by rw[a7,kr];exact e0
 refine AY 56 #[.tmp 6, .tmp 7] func13 Z<|Q<|Fa c0 104 fun w1 b4 c1 g Bd=>?_;refine za Z<|V Z<|Ag<|Q<|M Z<|E (Ba CP Z Bd.AE Z)<|M Z<|ve (Ac c1 1 (Ab wh Z (gV o.D hs hp e9 c9 c4))) ?_;rintro g w2 ⟨c2,g,g,rfl⟩;refine V Z<|Q<|M Z<|E (BK Z Z)<|Ah<|Cz Z (fun g=>?_) fun g=>?_
 ·exact absurd g AO
 refine As<|Q<|M Z<|ve (Ab zU Z (pe o.D ⟨G,G⟩ ⟨G,c4.2⟩ hp hc e1 hl c7 hu c6 e2 e3 e6)) ?_;rintro g g ⟨C,g,⟨A1,pj,j,o,b0,c8,h0,e8,_,hf,_,rfl⟩⟩;refine M Z<|E (Aq Z Z)<|E (Aq Z Z)<|za Z<|V Z<|Ag<|Q<|M Z<|E (BK Z Z)<|Ah<|Cz Z (fun g=>?_) fun g=>?_
 ·exact absurd g AO
 refine As<|Q<|M Z<|E (Ba CP Z Bd.D.AE Z)<|M Z<|M Z<|ve (Ac C 90 (Ab wi Z (cG hs))) ?_;rintro g g ⟨g,g,a6,⟨b1,rfl,hg,g⟩⟩;refine V Z<|Ag<|Ag ?_;have C:AI _ _ 90 b1 (Dq k pj (.slice none 0 0) (.slice none 0 0) (.slice none 0 0) ⟨s,N,A1,j,Nf,(-1,-1),false⟩) 101:=⟨g,a6 _ hg⟩;refine cg<|M Z<|ve (Ab zV Z (rQ b0.D G U)) ?_;rintro b8 c5 ⟨b2,U,⟨a6,b5,b6,a8⟩⟩;have U:a6.length=f.length:=by have U:=Aao List.length a8;rw[a7,kr,kr] at U;exact U
 have c3:∀z∈a6,Go.Eng.Int64 z.1.Ar∧Go.Eng.Int64 z.1.id∧z.1.name.length≤140737488355328∧z.1.AK.length≤140737488355328:=fun z b3=>by
  have U:z.1∈f.map Fv:=by rw[←a7,←a8];exact Afi b3
  obtain⟨y,hy,e⟩:=Aag.1 U;rw[←e];exact rU (b7 y hy)
 have U:=ZG b5 b6 c3 G;rw[a8,a7] at U;have a8:=U.AB.AD;have a8:=rV b2 c5;have b2:(f.map Fv).length=f.length:=kr _;refine E (BN GQ) ?_;refine M Z<|Ah<|An<|AG (σ:=Nat) (fun pa=>[(4,P1 b4),(6, .pointer none),(7,I 0),(11,P1 b1),(35,b8),(36,I a6.length),(37,I pa)]) (fun pa w'=>pa≤f.length∧∃c' b2 b3 a6 YS YT,BE c w BX c' w'∧AI c' w' 104 b4 (DB s) 29∧AI c' w' 90 b1 (Dq k pj b2 b3 a6 ⟨s,N,A1,j,Da Nf (f.take pa),(-1,-1),false⟩) 101∧BW c' w' k A1∧Dz c' w' pj k j∧Bu FG c' w' [146,147,149] b8 (f.map Fv)∧ND c' w' b2 b3 a6 (Da Nf (f.take pa)) YS YT) (fun pa=>f.length-pa) 0 AL ⟨Wm _,_,_,_,_,_,_,hJ.D,Bd.D,C.D,o.D,b0.D.kP,U,a8⟩ ?_;rintro pa h4 ⟨O,b0,b2,b3,a6,YS,YT,hJ,Bd,C,o,c3,U,g⟩;obtain⟨b,a8⟩:∃b,b=Da Nf (f.take pa):=⟨_,Z⟩;have b6:=Pc (b:=Nf) (fun i j R b5 b8↦by simp[Nf] at b5) (fun i j R b5 b8↦by simp[Nf] at b5) (f.take pa);rw[←a8] at b6 C g;obtain⟨h1,h2,R,b5,h3⟩:=b6
 rw[kL] at R b5;have R:Nf.Ae.length=0:=rfl;have R:Nf.AQ.length=0:=rfl;refine Q<|E (AX Z Z)<|Ah<|Ag<|BA Z (fun R=>?_) fun R=>?_
 ·have b6:pa<f.length:=G;have R:pa<(f.map Fv).length:=by rw[kr];exact b6
  obtain⟨cs,c5,b8,e5⟩:=Vl U R;rw[Ac0] at b8;obtain⟨vl,vs,e7,R,b5,_⟩:=b8.AB;have h5:=R.AD;have h5:=b5.AD;have h5:=R.AA;have R:=b5.AA;subst e7;refine As<|Ag<|An<|Q<|E (BJ GQ U.AB Z Z Z G (by rw[kr];omega))<|E (DT Df Z c5.DF Z) ?_;refine EK b0 113 Kw fun R R R b5 b5=>Av (Am Df Z Z b5 Z Z Bg) ?_;rintro _ c5 ⟨b5,c5⟩;refine Ah<|Ag<|AM R Ql [0,0,0,1,2,0] [0,1,2,3,4,5] fun R R R=>?_;refine Bm Z Z<|AN Z (Ak Z)<|AN Z (Aa DK Z)<|vc Z R.kp (b5.D.kn Df Z Z) ?_;refine Db Z (Ab wj Z (rT C.D g.D h1 h2 ⟨by show b.Ae.length≤_;omega,by show b.AQ.length≤_;omega⟩ b8.D Z (b7 _ (mv b6)))) ?_;rintro b5 b5 ⟨b5,b5,⟨rfl,e5,e7,b8,c5,C,g⟩⟩;refine R.Bl b5 fun R=>AN Z (BK Z Z)<|AP ?_;refine Cz Z (fun b5=>?_) fun b5=>?_
  ·exact absurd b5 AO
  refine As<|cg<|E (Bc Z Z Ai Ai)<|M Z<|Ah ?_;rw[show({s:=s,n:=N,A:=A1,J:=j,b:=b,at_:=(-1,-1),failed:=false}:HQ).b=b from Z,a8,←Vz Nf b6] at C g;exact⟨pa+1,AL,⟨G,_,e5,e7,a6,b8,c5,hJ.D,Bd.D,C,o.D,c3.D,U.D,g⟩,G⟩
 have U:pa=f.length:=G;subst U;rw[Abi] at a8;have U:=g.s.AD;have U:=g.t.AD;have U:=g.g.AD;have b6:=g.yY G;have b8:=g.yZ G;have U:b.De=[]:=h3;have b5:Bu Wo b0 h4 [125] a6 b.De:=g.g.Gl (by rw[U];simp) (fun t ht=>by rw[U] at ht;cases ht);refine Az Z<|Ag<|Ag<|AM b0 [] [1,0,0,0,1,2,0] [0,1,2,3,4,5,6] fun g g R=>?_;refine vc Z R.kp (Bd.D.kn CP Z Z)<|Bm Z Z<|AN Z (Ak Z)<|AN Z (Aa DK Z)<|vc Z R.kp (fun W g=>ES Fy Z (C.D.kp g Z).AE (Aat Z))<|Db Z (Ac b0 1 (Ab wm Z (gX hs.ok b6.D.AB b8.D.AB b5.D.AB U))) ?_;rintro g g ⟨g,g,U,rfl⟩;refine R.Bl g fun R=>AN Z (BL Z)<|AP ?_;refine Cz Z (fun g=>?_) fun g=>?_
 ·exact absurd e4 (by rw[←a8];simpa using g)
 refine As<|Q<|M Z<|za Z<|V Z<|BR Z Z Z ?_;rw[←a8];exact⟨_,BE.out hJ.D.Qm,A1,b1,pj,j,b2,b3,a6,⟨AI.EO (i:=90) ⟨C.D.AE,FJ C.D.BF⟩ hJ.D.Qm Z,BW.Ih o.D.Fe hJ.D.Qm,Dz.EO c3.D.Fe hJ.D.Qm,⟨EA.EO b6.D.Fe hJ.D.Qm,EA.EO b8.D.Fe hJ.D.Qm,EA.EO b5.D.Fe hJ.D.Qm⟩⟩,c8,h0,e8,hf,Z⟩
section
variable {n m:Nat} {A:CS} {x:UW}
theorem Yw(h:GR n m A)(f:0<n)(hx:dy m x){t:Int}(hd:p≠0):Bp (Ms A 0 x) p t=Bp A p t:=by
 have g:=h.ea (x:=x) f hx;have j:(Ms A 0 x).d.length=A.d.length:=Rj _ _ _;have i:Ph (Ms A 0 x) p t=Ph A p t:=by rw[Ph,Ph,PO,PO,j];rfl
 rw[g.read,h.read,i];by_cases hi:Ph A p t=true
 ·obtain⟨⟨l,g2⟩,_⟩:=LW.1 hi;rw[Kl (by rw[h.len];exact f),ss (show¬p.toNat=0 by omega)]
 ·rw[ss hi,ss hi]
theorem Yx(h:GR n m A)(f:0<n)(O:k≠0):BG (Ms A 0 x) k=BG A k:=by
 rw[BG,BG,PO,PO,Rj,Kl (by rw[h.len];exact f),ss (by rw[TJ];exact O)]
theorem vA(h:GR n m A)(f:0<n):BG (Ms A 0 x) 0=x.liveQ:=by
 rw[BG,PO,Rj,Kl (by rw[h.len];exact f),zm (show Int.toNat 0=0 from Z),h.len,Aby (by omega:(0:Int)≤0),Aby (by omega:(0:Int)<n)];simp
theorem hH(h:GR n m A)(f:0<n):(Jp A 0).1=Ms A 0 {Ep A.CU with liveQ:=false}:=by
 rw[Jp,zm (LV.2 ⟨G,by rw[h.len];omega⟩)];rfl
theorem Wk(h:GR n m A)(f:0<n):(Ec A 0).1=Ms A 0 (Ep A.CU):=by
 rw[Ec,zm (LV.2 ⟨G,by rw[h.len];omega⟩)];rfl
theorem hI(h:GR n m A):dy m {Ep A.CU with liveQ:=false}:=by rw[h.sec];exact(Oj m).liveQ _
theorem pg(h:GR n m A):dy m (Ep A.CU):=by rw[h.sec];exact Oj m
theorem fq(h:GR n m A)(f:0<n)(t:Int):(Bp (Jp A 0).1 0 t).2≠0:=by
 rw[hH h f,(h.ea f (hI h)).read];split
 ·rw[Kl (by rw[h.len];exact f),zm (show Int.toNat 0=0 from Z),ss Bb];decide
 ·decide
theorem Py(h:GR n m A)(g:0<n)(j:0≤p)(l:p<(m:Int)):Bp (Ec A 0).1 0 p=(zT,0):=by
 have f:=h.ea g (pg h);rw[Wk h g,f.read,zm (LW.2 ⟨⟨G,by rw[f.len];omega⟩,j,by rw[f.sec];exact l⟩),Kl (by rw[h.len];exact g),zm (show Int.toNat 0=0 from Z),zm (show(Ep A.CU).liveQ=true from Z)];have i:tx (Ep A.CU).cache p.toNat=[]:=Zo _ _;rw[i,zm Z,h.sec];simp[Ep,tx,hk,show p.toNat<m by omega]
end
theorem SE{p:Nat→Bool}:∀n:Nat,(∀k,k<n→k≠0→p k=true)→n≤((List.range n).filter p).length+1
 |0,_=>Wm _
 |n+1,h=>by
  have g:=SE n fun k O f=>h k G f;rw[Abf,Acp,ft];rcases Aa6 n with f|f
  ·subst f;omega
  ·rw[Ac2 (h n G G)];simp;omega
theorem vB(f:3≤n)(h:∀k:Nat,k<n→k≠0→BG F k=true):Pk n F:=by
 have:=SE (p:=fun k:Nat=>BG F k) n h;rw[Pk,CR];omega
structure SF (n m c u:Nat) (P:HQ) (K:List (Tx×Tx)):Prop where
 pw:GR n m P.A
 Mt:P.A.BC≤c
 w:Ta n P.J
 mx:Lt P.s P.b
 De:P.b.De=[]
 f:P.failed=false
 j:P.J.failed=false
 liveQ:∀k:Nat,k<n→k≠0→BG P.A k=true
 kept:Hq P.A P.s P.b K
 tG:∀q∈P.b.Ae.flatMap (·.Ad),0≤q.2∧q.2<(P.n:Int)
 used:P.J.used≤u
section
variable {n m c u:Nat} {P:HQ} {K:List (Tx×Tx)}
theorem SF.may(h:SF n m c u P K):Ek P.s P.b=true:=(Jh h.De).2 h.mx
theorem SF.bal(h:SF n m c u P K)(f:3≤n)(g:1024+P.n*BZ P.s≤m):oN n m P:=⟨h.f,h.j,vB f h.liveQ,g⟩
theorem SF.more(h:SF n m c u P K){c' u':Nat}(hc:c≤c')(hu:u≤u'):SF n m c' u' P K:=⟨h.pw,rX h.Mt hc,h.w,h.mx,h.De,h.f,h.j,h.liveQ,h.kept,h.tG,rX h.used hu⟩
def ph(f:Bool)(k:Nat):Bool:= !f||decide (k≠0)
structure ag (n i:Nat) (lost:Bool) (P:HQ) (LL:List (List Rec)) (NL:List Nt):Prop where
 x:JX n (ph lost) P.A P.J LL
 r:LL.flatten=NL.map Fv
 ok:∀r∈NL,ZE r
 b:Da Nf NL=P.b
 l:1≤LL.length
 nl:NL.length≤41*i
 life:P.J.life≤3000000000
 liveQ:lost=false→BG P.A 0=true
theorem ag.tH{l:List Nt}(h:ag n i B P Y l)(hl:∀k:Nat,k<n→k≠0→BG P.A k=true):∀k,k<n→ph B k=true→BG P.A k=true:=fun k O hv=>by
 by_cases g:k=0
 ·subst g;cases B with
  |false=>exact h.liveQ Z
  |true=>cases hv
 ·exact hl k O g
theorem SF.add{t d:Tx}{A:CS}{J:Jl}{b:Bk}(h:SF n m c u P K)(hs:Small P.s)(o:3≤n∧n≤12)(U:P.n≤64)(a1:1024+P.n*BZ P.s≤m)(hd:d.length=32)(ht:t.length≤40)(g:ZN n m P t d A J b B p):
 (p≠0∧A=P.A∧J=P.J∧b=P.b∧B=P.failed)∨(p=0∧SF n m (c+8000) (u+3200) {P with A:=A,J:=J,b:=b,failed:=B} (K++[(d,t)])∧b.Ae.length≤P.b.Ae.length+41∧
  ∀i j C I,ag n i j P C I→∃e R,ag n (i+1) j {P with A:=A,J:=J,b:=b,failed:=B} e R):=by
 rcases g.exact (di hs h.mx h.De U o.2 (h.bal o.1 a1) hd G) with⟨a6,_,a7⟩|⟨e,hf,b1,pre,a1,U,o,R,b0,O,b2,hu,b3⟩
 ·exact .inl ⟨a6,a7⟩
 right;have a7:Lt P.s b:=(Jh g.De).1 g.may;have a6:=fold_add (s:=P.s) (t:=t) (d:=d) (pre:=pre) (fun y hy=>(h.mx.Bl y hy).2) o
 have a8:b.Ae=P.b.Ae++Dr P.s P.b.next t pre:=by rw[R,a6]
 obtain⟨_,_,b4⟩:=LZ (next:=P.b.next) a1 (DC n P.A) U;have b5:BI P.s t.length≤40:=rX (Ox hs _) ht;refine⟨e,⟨g.lay.pw,rX g.lay.Mt (Aec h.Mt _),g.j,a7,g.De,hf,b1,fun k b1 e=>by show BG A k=true;rw[g.lay.liveQ];exact h.liveQ k b1 e,?_,fun q b1=>?_,rX g.used (Aec h.used _)⟩,by rw[a8,ft,Ee];omega,fun i j C I j=>?_⟩
 ·have:=h.kept.add hs h.mx a1 (DC n P.A) U o b0 O;rw[←R] at this;exact this
 ·have o:q∈b.Ae.flatMap (·.Ad):=b1;rw[a8,Aan] at o;rcases Aac.1 o with o|o
  ·exact h.tG q o
  obtain⟨_,_,_,_,_,a8,b0⟩:=b4 q o;exact⟨a8,b0⟩
 have o:∀l∈Ce P.n n (P.b.Ae.flatMap (·.Ad)),∀y∈l,0≤y∧y<64:=fun l hl y hy=>by have:=(ML l hl).2.1 y hy;omega
 have a8:=h.mx.next;have b0:P.b.next+(BI P.s t.length:Nat)≤1073741824:=by
  have:=a7.next.2;rw[R,a6] at this;exact this
 obtain⟨a6,_,a7,_⟩:=cE (d:=d) hs a1 U (by rw[DC,Hb]) (by rw[DC];omega) o ⟨a8.1,b0⟩ hd ht;refine⟨C++[(Es P.s P.b.next t pre d).map Fv],I++Es P.s P.b.next t pre d,b2 C _ j.x (j.tH h.liveQ),?_,fun r o=>?_,?_,?_,?_,?_,fun hl=>?_⟩
 ·rw[Ac6,j.r,Aaf];simp
 ·rcases Aac.1 o with e|e
  ·exact j.ok r e
  exact a7 r e
 ·rw[Da,Adq,show I.foldl jt Nf=P.b from j.b];exact R.symm
 ·rw[ft];have:=j.l;omega
 ·rw[ft,a6];have:=j.nl;omega
 ·show J.life≤_;rw[b3];exact j.life
 show BG A 0=true;exact(g.lay.liveQ 0).trans (j.liveQ hl)
theorem SF.ux(h:SF n m c u P K)(hs:Small P.s)(R:3≤n)(J:1024+P.n*BZ P.s≤m):SF n m c u {P with A:=(Jp P.A 0).1} K∧∀i j l,ag n i false P j l→ag n i true {P with A:=(Jp P.A 0).1} j l:=by
 have hp:=h.pw;obtain⟨p,g2⟩:=hp.ux (d:=0);have e:=hH hp G;have o:∀(d t:Int),d≠0→Bp (Jp P.A 0).1 d t=Bp P.A d t:=fun d t hd=>by rw[e];exact Yw hp G (hI hp) hd
 refine⟨⟨p,rX g2 h.Mt,h.w,h.mx,h.De,h.f,h.j,fun k O g=>?_,?_,h.tG,h.used⟩,fun i j l f=>⟨?_,f.r,f.ok,f.b,f.l,f.nl,f.life,fun r=>(by cases r)⟩⟩
 ·show BG (Jp P.A 0).1 k=true
  rw[e,Yx hp G g];exact h.liveQ k O g
 ·exact h.kept.bc fun x hx v C=>C.gone (n:=P.n) (m:=m) (h.mx.Bl x hx).1 o (.inl fun t=>fq hp G t) (fun q I=>(h.tG q (Ab5.2 ⟨x,hx,I⟩)).2) J
 refine f.x.keep (fun k _ _=>rfl) fun k s O hv _ _=>o _ _ ?_;have:k≠0:=by intro g;subst g;cases hv
 omega
theorem SF.replace(h:SF n m c u P K)(hs:Small P.s)(C:3≤n)(r:1024+P.n*BZ P.s≤m):SF n m c u {P with A:=(Ec P.A 0).1} K∧(∀i j l,ag n i true P j l→ag n i true {P with A:=(Ec P.A 0).1} j l)∧∀t:Nat,t<m→Bp (Ec P.A 0).1 0 t=(zT,0):=by
 have hp:=h.pw;obtain⟨f,g2⟩:=hp.replace (d:=0);have e:=Wk hp G;have o:∀(d t:Int),d≠0→Bp (Ec P.A 0).1 d t=Bp P.A d t:=fun d t hd=>by rw[e];exact Yw hp G (pg hp) hd
 refine⟨⟨f,rX g2 h.Mt,h.w,h.mx,h.De,h.f,h.j,fun k O g=>?_,?_,h.tG,h.used⟩,fun i j l f=>⟨?_,f.r,f.ok,f.b,f.l,f.nl,f.life,fun p=>(by cases p)⟩,fun t ht=>Py hp G G G⟩
 ·show BG (Ec P.A 0).1 k=true
  rw[e,Yx hp G g];exact h.liveQ k O g
 ·exact h.kept.bc fun x hx v p=>p.gone (n:=P.n) (m:=m) (h.mx.Bl x hx).1 o (.inr fun t p p=>Py hp G G p) (fun q p=>(h.tG q (Ab5.2 ⟨x,hx,p⟩)).2) r
 refine f.x.keep (fun k _ hv=>hv) fun k s O hv _ _=>o _ _ ?_;have:k≠0:=by intro g;subst g;cases hv
 omega
theorem SF.step{A:CS}{J:Jl}{b:Bk}{f r:Bool}{e:Int}(h:SF n m c u P K)(hs:Small P.s)(I:3≤n∧n≤12)(b6:P.n≤12)(b4:1024+P.n*BZ P.s≤m)(g:RG n m P A J b)(b0:zn n P A J b f r e):e=0∧((r=false∧A=P.A∧J=P.J∧b=P.b∧f=P.failed)∨(r=true∧(Ix (Cu n P.A) (EP n P) P.b.Ae).isSome=true∧SF n m (c+8000) (u+97) {P with A:=A,J:=J,b:=b,failed:=f} K∧b.Ae.length=P.b.Ae.length∧
 dh (EP n {P with A:=A,J:=J,b:=b,failed:=f}) n+2≤dh (EP n P) n)):=by
 obtain⟨a7,a8⟩:=b0;refine⟨a7,a8.imp id fun⟨b2,k,i,b5,a6,x,a,t,hg,j⟩=>?_⟩;obtain⟨f1,f2,f3,f4,f5,f6,f7⟩:=t.facts G ⟨G,I.2⟩;obtain⟨o,_⟩:=t.mov G ⟨G,I.2⟩ h.mx h.De (h.bal I.1 b4);have p:b={P.b with Ae:=P.b.Ae.set k (NE x i ((a6:Int),a))}:=by rw[j.b];exact hr h.mx o
 have C:∀q∈P.b.Ae.flatMap (·.Ad),0≤q.2∧q.2<(P.n:Int):=h.tG;refine⟨b2,by rw[t.sh];rfl,⟨g.lay.pw,rX g.lay.Mt (Aec h.Mt _),g.j,(Jh g.De).1 g.may,g.De,j.e.2.2.1.trans h.f,j.e.2.2.2,fun a1 b1 l=>by show BG A a1=true;rw[g.lay.liveQ];exact h.liveQ a1 b1 l,?_,fun q b3=>?_,rX j.used (Aec h.used _)⟩,by rw[p];exact Yy,?_⟩
 ·have:=h.kept.move hs h.mx o hg j.w j.k;rw[←p] at this;exact this
 ·have R:q∈b.Ae.flatMap (·.Ad):=b3;rw[p] at R;obtain⟨y,hy,U⟩:=Ab5.1 R;rcases Aa4 hy with hy|rfl
  ·exact C q (Ab5.2 ⟨y,hy,U⟩)
  rcases o.Ug U with l|rfl
  ·exact C q (Ab5.2 ⟨x,o.mem,l⟩)
  exact⟨f5.1.2.1,f5.2⟩
 have l:=oL (N:=P.n) (n:=n) h.mx o f3.2 f2.1 f2.2 G C ⟨f5.1.2.1,f5.2⟩ f1;show dh (Ce P.n n (b.Ae.flatMap (·.Ad))) n+2≤_
 rw[p];exact l
end
theorem vC(g:k≤12)(i:n≤8):dh (Ce k n u) n≤288:=by
 refine rX (hB (m:=36) fun d hd=>vj ?_) G;rw[IG hd];have:=Aa0 (fun y=> !u.contains ((d:Int),y)) (He k);rw[ME] at this;omega
theorem dv(life:Nat):∀(f:List (List Rec)) (n:Nat),(Ft life n f).length=24*f.length+EL f.flatten
 |[],_=>rfl
 |L::r,n=>by
  rw[Nu,dv life r (n+1),Abc,ec,SG];omega
theorem ag.el{P:HQ}{g:List Nt}(h:ag n i B P Y g):24+EL Y.flatten≤P.J.used:=by
 rw[h.x.used,dv];have:=h.l;omega
theorem ag.more{P:HQ}{g:List Nt}(h:ag n i B P Y g):ag n (i+1) B P Y g:=⟨h.x,h.r,h.ok,h.b,h.l,by have:=h.nl;omega,h.life,h.liveQ⟩
theorem SF.open{c :Nat}{P:HQ}{K:List (Tx×Tx)}{f:List Nt}{j:Jl}(h:SF n m c k P K)(p:ag n i true P Y f)(l:HP n m 20000 P.A F)(t:Ta n j)(hu:j.used=24+EL Y.flatten)(hf:j.failed=false):SF n m (c+20000) k ⟨P.s,P.n,F,j,Da Nf f,(-1,-1),false⟩ K:=by
 have e:=p.b;refine⟨l.pw,rX l.Mt (Aec h.Mt _),t,by rw[e];exact h.mx,by show(Da Nf f).De=[];rw[e];exact h.De,Z,hf,fun u O r=>by show BG F u=true;rw[l.liveQ];exact h.liveQ u O r,?_,by show∀q∈(Da Nf f).Ae.flatMap (·.Ad),_;rw[e];exact h.tG,?_⟩
 ·show Hq F P.s (Da Nf f) K
  rw[e];exact h.kept.kP h.mx l.keep
 have C:=p.el;have I:=h.used;show j.used≤k
 omega
theorem rW(a:Int):(0≤within a 2∧within a 2≤1)∧within (1+within a 2) 3=1+within a 2:=by
 have f:0≤within a 2∧within a 2≤1:=by rw[within];omega
 refine⟨f,?_⟩;generalize within a 2=q at f;rw[within];omega
section
variable {a b:Nat} {c:Nat→Nat} {w w0:World}
theorem CD.Bq(h:CD w0 c w)(f:a≠0:=by decide):CD w0 (Go.Eng.Bq a b c) w:=⟨h.below,fun k O=>by
 have:=h.BF k O;rw[Lv (by rw[this];exact fun e=>f e.symm)];exact this⟩
theorem BW.Bq(h:BW c w k F)(r:BB BX [a]=true:=by rfl):BW (Go.Eng.Bq a b c) w k F:=by
 obtain⟨v,X,o,f⟩:=h;have ne:∀i∈BX,i≠a:=fun i hi e=>by
  have:=BD r hi;subst e;simp[AU] at this
 exact⟨v,X,AI.Bq o (ne 60 Bb),f.liveQ,AJ.Bq f.own (ne 61 Bb),⟨f.rows.len,fun j v l g g2=>AJ.Bq (f.rows.row j v l g g2) (ne 62 Bb),f.rows.apart⟩,⟨f.maps.len,fun j v l g g2=>⟨(f.maps.row j v l g g2).obj,by
  have:=(f.maps.row j v l g g2).BF;rw[Lv (by rw[this];exact ne 63 Bb)];exact this⟩,f.maps.apart⟩⟩
theorem Dz.Bq{j:Jl}(h:Dz c w k m j)(o:BB Dw [a]=true:=by rfl):Dz (Go.Eng.Bq a b c) w k m j:=by
 obtain⟨r,vl,cs,f,g,l⟩:=h;have ne:∀i∈Dw,i≠a:=fun i hi e=>by
  have:=BD o hi;subst e;simp[AU] at this
 exact⟨r,vl,cs,AI.Bq f (ne 91 Bb),AJ.Bq g (ne 92 Bb),AJ.Bq l (ne 93 Bb)⟩
theorem DM.Bq{vT vG:Value}{P:HQ}(h:DM c w k m n y vT vG P)(g:BB DA [a]=true:=by rfl):DM (Go.Eng.Bq a b c) w k m n y vT vG P:=by
 have ne:∀i∈DA,i≠a:=fun i hi e=>by
  have:=BD g hi;subst e;simp[AU] at this
 have f:AU [94] a=false:=by
  have j:=ne 94 Bb;cases h:AU [94] a with
  |false=>rfl
  |true=>
   simp only[AU,Ac3,Af0,Ad9] at h;exact absurd (Aai h).symm j
 exact⟨AI.Bq h.AE (ne 90 Bb),BW.Bq h.arr (CC g Bb),Dz.Bq h.kP (CC g Bb),⟨EA.Bq h.bk.s f,EA.Bq h.bk.t f,EA.Bq h.bk.g f⟩⟩
end
theorem kI{vG:Value}{P:HQ}(g:DM c w k m n a y vG P)(l:SX P.A):Calls QP 11 #[P1 m,I 0] w (Bt fun u w'=>∃c',Mv c w c' w' BX∧∃e,DM c' w' k m n a y vG {P with A:=(Jp P.A 0).1}∧u=I e):=
 (oB (d:=0) g.arr l).mono fun _ w' ⟨v,o,c',f,j,i⟩=>⟨v,o,c',f,_,⟨g.AE.D f Z,j,g.kP.D f,g.bk.D f⟩,i⟩
theorem ab{vG:Value}{P:HQ}(g:DM c w k m n a y vG P)(l:SX P.A):Calls QP 12 #[P1 m,I 0] w (Bt fun u w'=>∃c',Mv c w c' w' BX∧∃e,DM c' w' k m n a y vG {P with A:=(Ec P.A 0).1}∧u=I e):=
 (dc (d:=0) g.arr l).mono fun _ w' ⟨v,o,c',f,j,i⟩=>⟨v,o,c',f,_,⟨g.AE.D f Z,j,g.kP.D f,g.bk.D f⟩,i⟩
theorem Pf{vF:Value}(S:Rd DS w a C)(r:Rd DW w y x)(hF:Rd KQ w vF q)(U:1≤x.length∧x.length≤12)(hl:q.length=x.length)(t:∀l∈q,oa l):
 Calls QP 18 #[a, .agg #[y,vF]] w (Bt fun u w'=>AZ w w'∧∃vS f vt,u= .tuple #[.agg #[I vS,f,vt], .bool (Ix x q C).isSome]∧f.oneCell'=true∧vt.oneCell'=true):=
 (eT S r hF U hl t).mono fun _ w' ⟨u,R,J,h⟩=>by
  refine⟨u,R,J,?_⟩;rw[VM] at h;split at h
  ·rename_i g;rw[g];exact⟨0,_,_,h,Z,Z⟩
  rename_i k g;obtain⟨liveQ,i,d,vS,f,vt,_,_,_,_,j,o,p⟩:=h;rw[g];exact⟨liveQ.id,f,vt,p,j.AD,o.AD⟩
theorem fs{pj N:Nat}{vG f g:Value}{P:HQ}{K:List (Tx×Tx)}(r:P.s=z)(o:P.n=N)(t:DM c w k i pj a y vG P)(hs:Small z)(pa:1≤z.m)(R:0<n∧n≤12)(J:1024≤m∧m≤2048)(j:GR n m P.A)(l:N≤64)(hc:P.A.BC≤900000000)(C:Ek P.s P.b=true)(ht:P.b.De=[])(hl:P.b.Ae.length≤1000)(hK:Hq P.A P.s P.b K)(hd:Rd DQ w f (K.map (·.1)))(hx:Rd DQ w g (K.map (·.2))):
 Calls QP 22 #[P1 k, .agg #[f,g], .agg (DB z).toArray,I N,P1 i] w (Bt fun u w'=>∃c',Mv c w c' w' []∧u= .bool true):=by
 subst r;subst o;exact ki t hs pa R J j l hc C ht hl hK hd hx
theorem Wl:∀l:List Tx,(l.flatMap fun x=>[Go.Eng.St x])=l.map Go.Eng.St
 |[]=>rfl
 |a::l=>by rw[Aaa,Wl l];rfl
theorem OE{j:List Nat}{vG vL:Value}{b:Bk}{liveQ:List Bool}(l:Bu DS c w e a b.Ae)(r:y.oneCell'=true)(t:vG.oneCell'=true)(o:Bu DW c w j vL liveQ)(hl:liveQ.length≤12)(p:n≤64):
 Calls QP 19 #[.agg #[a,y,vG,I b.next],vL,I n] w (Bt fun u w'=>∃c',Mv c w c' w' []∧∃g f,KD c' w' g f liveQ (Ce n liveQ.length (b.Ae.flatMap (·.Ad)))∧u= .agg #[g,f]):=VO (c:=c) l.AB r t o.AB hl p
theorem dw{h7 a2 h8 h9 j0:Int}{L:List Yc}(hi:Go.Eng.Int64 h7∧Go.Eng.Int64 a2∧Go.Eng.Int64 h8∧Go.Eng.Int64 h9∧Go.Eng.Int64 j0)(e6:Rd RH w a L)(k8:Rd Cg w y l):
 Calls QP 3 #[.agg #[I h7,I a2,I h8,I h9,I j0,a,y]] w (Bt fun v' w'=>AZ w w'∧v'= .bool true):=by
 obtain⟨c,hO,hc⟩:=Ay w;have a8:Bu RH c w [0] a L:=Rd.Du e6 (fun k O=>by simp[hc,AU]);have hK:Bu Cg c w [0] y l:=Rd.Du k8 (fun k O=>by simp[hc,AU]);have b2:=e6.AD;have b4:=k8.AD;have f:=e6.small;have f:=e6.YE
 obtain⟨⟨o,C⟩,⟨R,U⟩,a1,a7,b0⟩:=id hi;obtain⟨f,c3⟩:=rW a2;refine AY 159 #[.tmp 2] func3 Z<|Q<|Fa c 101 fun w1 b1 c1 f a6=>?_;refine V Z<|Ag<|Q<|E (Ba sb Z a6.AE Z)<|ve (Ac c1 1 (Ab pf4 Z (eJ a8.D.AB hK.D.AB))) ?_;rintro f w2 ⟨c2,f,f,⟨f,rfl⟩⟩;refine Ah<|BA Z (fun f=>?_) fun f=>?_
 ·refine Q<|V Z ?_;refine Af Z Z ?_;exact⟨hO.D.below,Z⟩
 refine As<|Q<|E (Aa YJ Z)<|E (Al AF Z a6.D.AE Z)<|ve (Ac c2 1 (Ab hV Z (EG a2 2 ⟨R,U⟩ G G))) ?_;rintro f f ⟨f,R,R,rfl⟩;refine E (Bc Z Z Ai Ai)<|E (Aa YJ Z) ?_;refine Av (Ap AF Z Z ra ra a6.D Z) ?_;rintro _ R ⟨a6,R⟩;refine Ah<|Q<|E (Ba sb Z a6.AE Z)<|ve (Ac f 1 (Ab pf6 Z (nT (a2:=1+within a2 2) ⟨⟨o,C⟩,⟨G,G⟩,a1,a7,b0⟩ b2 b4))) ?_;rintro f f ⟨f,o,o,⟨s,o,N,hs,C,b9,C,rfl⟩⟩;rw[c3] at C;refine M Z<|E (Aq Z Z)<|E (Aq Z Z)<|E (Aq Z Z)<|EK f 103 Sb fun f b3 C f AR=>?_;refine Av (Am CP Z Z AR Z Z Bg) ?_;rintro _ f ⟨AR,f⟩;refine za Z<|V Z<|Ag<|Q<|E (Aa Hk Z)<|E (Al AF Z AR.AE Z)<|E (BO Z Z)<|Ah<|Cz Z (fun f=>?_) fun f=>?_
 ·exfalso;simp at f;omega
 refine As<|Q<|E (Ba CP Z AR.AE Z)<|M Z<|E (Bc Z Z G G) ?_;rw[show(o:Int)+1=((o+1:Nat):Int) by omega];refine M Z ?_;obtain⟨n,f⟩:∃n,n=o+1:=⟨_,Z⟩;rw[←f];have c6:s.k+s.m≤n∧n≤8:=⟨G,G⟩;refine ve (Ab pf8 Z (VX (c:=C) (n:=n) hs c6 ⟨G,b9.2⟩)) ?_;rintro f f ⟨C,f,⟨A,e0,pa,pj,j,U,R,c8,hu,hf,b2,c5,rfl⟩⟩;have f:Ca s.size≤2:=by unfold Ca;have:=hs.2;omega
 have a1:N*Ca s.size≤24:=by have:=WO b9.2 f;omega
 obtain⟨m,c0⟩:∃m,m=1024+N*Ca s.size:=⟨_,Z⟩;rw[←c0] at R;have j3:1024≤m∧m≤2048:=⟨G,G⟩;have j4:=hs.1;have f:=hs.1.1;have j8:3≤n∧n≤12:=⟨G,G⟩;have h4:0<n∧n≤12:=⟨G,G⟩;have e3:N≤64:=G;have j9:1024+N*BZ s≤m:=by rw[c0];exact kM _
 have a1:∀k:Nat,k<n→BG A k=true:=fun k O=>by rw[R.liveQ];exact Ve O
 have c9:A.BC≤20000:=by have f:=R.Mt;have b4:(Pg n m).BC=0:=rfl;omega
 have b0:SF n m 100000 24 ⟨s,N,A,j,Nf,(-1,-1),false⟩ []:=⟨R.pw,by show A.BC≤_;omega,c8,hE s,Z,Z,hf,fun k O _=>a1 k O,tA A s,fun q e7=>(by cases e7),by show j.used≤_;omega⟩;have a7:ag n 0 false ⟨s,N,A,j,Nf,(-1,-1),false⟩ [[]] []:=⟨c5.keep (fun _ _ _=>rfl) (fun _ _ _ _ _ _=>rfl),Z,fun r f=>(by cases f),Z,kM _,kM _,b2,fun _=>a1 0 G⟩;refine M Z<|E (Aq Z Z)<|E (Aq Z Z)<|za Z<|V Z<|Ag<|Q<|M Z<|E (Qg underlying33 Z)<|M Z ?_;apply AW false 2 _ CK
 ·intro f;refine wo<|M Z<|wo<|E (Qg underlying34 Z) ?_;exact EQ 2
 refine Ah<|Cz Z (fun f=>?_) fun f=>?_
 ·simp at f
 refine As<|Q<|EK C 108 uc fun f b8 f f C=>?_;refine Ah<|Ag<|Q<|V Z<|An<|AG (σ:=Nat×Nat) (fun f=>[(1,P1 b1),(2, .bool false),(3,P1 b3),(4,I o),(5,I N),(6,P1 pa),(7,P1 f.2),(8,P1 b8),(9,I f.1)]) (fun f w'=>(f.1≤5∧f.1≤L.length)∧∃c' pj b6 b7 b5 P K e1 e2,(P.s=s∧P.n=N∧SF n m (100000+30000*f.1) (24+3200*f.1) P K∧P.b.Ae.length≤41*f.1∧K.length≤f.1∧(∀h6∈K,h6.1.length=32∧h6.2.length≤40)∧(f.1≤3→∃c7 c4,ag n f.1 (decide (2≤f.1)) P c7 c4))∧CD w c' w'∧Bu RH c' w' [0] a L∧AI c' w' 101 b1 [I h7,I (1+within a2 2),I h8,I h9,I j0,a,y] 25∧AI c' w' 103 b3 (DB s) 29∧DM c' w' f.2 pa pj b6 b7 b5 P∧AI c' w' 108 b8 [e1,e2] 39∧Bu DQ c' w' [158] e1 (K.map (·.1))∧Bu DQ c' w' [159] e2 (K.map (·.2))) (fun f=>5-f.1) (0,e0) AL ⟨⟨Nat.zero_le _,Nat.zero_le _⟩,_,pj,_,_,_,_,[],_,_,⟨Z,Z,b0,Nat.zero_le _,Nat.le_refl _,fun h6 hy=>(by cases hy),fun _=>⟨_,_,a7⟩⟩,hO.D,a8.D,a6.D,AR.D,U.D,C,fun w' _ _=>FC.nil DQ _ _,fun w' _ _=>FC.nil DQ _ _⟩ ?_;rintro⟨i,p⟩ f ⟨⟨b0,c5⟩,R,pj,b6,b7,b5,P,K,e1,e2,⟨b2,a7,a1,e4,f,k4,c9⟩,hO,a8,a6,AR,U,C,hd,hx⟩;dsimp only at b0 c5 a1 e4 f c9 U;refine Ag<|Q<|M Z<|E (Aa Qy Z)<|E (Al aB Z a6.AE Z)<|E (Ez lJ a8.AB Z)<|E (AX Z Z)<|M Z ?_;apply AW true 2 _ CK
 ·intro l6;refine wo<|M Z<|wo<|E (AX Z Z) ?_;exact EQ 2
 refine Ah<|BA Z (fun f=>?_) fun f=>?_
 ·obtain⟨b0,b0⟩:=f;have f:i<L.length:=G;have b0:i<5:=G;obtain⟨b0,c5⟩:=Co a8 f AO;obtain⟨t,ht⟩:∃t,t=(L[i]).t.take 40:=⟨_,Z⟩;have k6:t.length≤40:=by rw[ht,kL];omega
  refine As<|Ag<|An<|Q<|M Z<|ve (Ac R 1 (Ab pf9 Z (cV (i:=i) G))) ?_;rintro f f ⟨f,R,R,rfl⟩;refine V Z<|Q<|E (Aa Qy Z)<|E (Al aB Z a6.D.AE Z)<|M Z<|E (Cv lJ) ?_;refine E (Bn fH Z)<|E (FF CQ Z b0.D.DF Z)<|ve (Ac f 1 (Ab zK Z (jS (s:=(L[i]).t) c5.2))) ?_;rintro f f ⟨f,f,f,rfl⟩;rw[←ht];refine V Z<|Ag<|Q<|M Z<|E (BO Z Z)<|Ah<|WC.mono (N:=(fun e w'=>∃(c':Nat→Nat) (P:HQ),Sub [(4000000, .tuple #[]),(1,P1 b1),(2, .bool false),(3,P1 b3),(4,I o),(5,I N),(6,P1 pa),(7,P1 p),(8,P1 b8),(9,I i),(10,St (GV i)),(11,St t)] e∧(P.s=s∧P.n=N∧SF n m (100000+30000*i) (24+3200*i) P K∧P.b.Ae.length≤41*i∧(i≤3→∃c7 c4,ag n i (decide (1≤i)) P c7 c4))∧CD w c' w'∧Bu RH c' w' [0] a L∧AI c' w' 101 b1 [I h7,I (1+within a2 2),I h8,I h9,I j0,a,y] 25∧AI c' w' 103 b3 (DB s) 29∧DM c' w' p pa pj b6 b7 b5 P∧AI c' w' 108 b8 [e1,e2] 39∧Bu DQ c' w' [158] e1 (K.map (·.1))∧Bu DQ c' w' [159] e2 (K.map (·.2)))) ?_ ?_
  ·refine BA Z (fun f=>?_) fun f=>?_
   ·have b0:i=1:=G;have f:=a1.ux (by rw[b2];exact j4) j8.1 (by rw[a7,b2];exact j9);have R:SX P.A:=a1.pw.wf h4 ⟨G,j3.2⟩ (by have:=a1.Mt;omega);refine cg<|M Z<|ve (Ab zL Z (kI U.D R)) ?_;rintro c5 c5 ⟨c5,c5,⟨j1,U,rfl⟩⟩;refine Ah<|⟨_,{P with A:=(Jp P.A 0).1},AL,⟨b2,a7,f.1,e4,fun b4=>?_⟩,hO.D,a8.D,a6.D,AR.D,U,C.D,hd.D,hx.D⟩;obtain⟨c7,c4,e0⟩:=c9 b4;rw[Ae9 G] at e0;rw[Aby G];exact⟨c7,c4,f.2 _ _ _ e0⟩
   refine As<|⟨_,_,AL,⟨b2,a7,a1,e4,fun b4=>?_⟩,hO.D,a8.D,a6.D,AR.D,U.D,C.D,hd.D,hx.D⟩;obtain⟨c7,c4,e0⟩:=c9 b4;rw[show decide (1≤i)=decide (2≤i) by rw[Adn,Afk,Afk];omega];exact⟨c7,c4,e0⟩
  clear hO a8 a6 AR U C hd hx a1 e4 c9 b2 a7;rintro h2 f ⟨f,P,e5,⟨b2,a7,a1,e4,c9⟩,hO,a8,a6,AR,U,C,hd,hx⟩;refine DN e5 ?_;refine Ag<|Q<|M Z<|E (BO Z Z)<|Ah<|WC.mono (N:=(fun e w'=>∃(c':Nat→Nat) (p pj:Nat) (b6 b7 b5:Value) (P:HQ),Sub [(4000000, .tuple #[]),(1,P1 b1),(2, .bool false),(3,P1 b3),(4,I o),(5,I N),(6,P1 pa),(7,P1 p),(8,P1 b8),(9,I i),(10,St (GV i)),(11,St t)] e∧(P.s=s∧P.n=N∧SF n m (120000+30000*i) (24+3200*i) P K∧P.b.Ae.length≤41*i∧(i≤2→∃c7 c4,ag n i (decide (1≤i)) P c7 c4))∧CD w c' w'∧Bu RH c' w' [0] a L∧AI c' w' 101 b1 [I h7,I (1+within a2 2),I h8,I h9,I j0,a,y] 25∧AI c' w' 103 b3 (DB s) 29∧DM c' w' p pa pj b6 b7 b5 P∧AI c' w' 108 b8 [e1,e2] 39∧Bu DQ c' w' [158] e1 (K.map (·.1))∧Bu DQ c' w' [159] e2 (K.map (·.2)))) ?_ ?_
  ·refine BA Z (fun f=>?_) fun f=>?_
   ·have b0:i=3:=G;obtain⟨f,b0,c5⟩:=a1.replace (by rw[b2];exact j4) j8.1 (by rw[a7,b2];exact j9);have R:SX P.A:=a1.pw.wf h4 ⟨G,j3.2⟩ (by have:=a1.Mt;omega);obtain⟨c7,c4,e0⟩:=c9 G;rw[Aby G] at e0;have c8:=b0 _ _ _ e0;refine Q<|M Z<|ve (Ab zM Z (ab U R)) ?_;rintro R R ⟨R,R,⟨j1,U,rfl⟩⟩;obtain⟨R,b0⟩:∃R,R=({P with A:=(Ec P.A 0).1}:HQ):=⟨_,Z⟩;have h0:∀t:Nat,t<m→Bp R.A 0 t=(zT,0):=by rw[b0];exact c5
    have e9:R.b.Ae.length≤41*i:=by rw[b0];exact e4
    have c5:R.s=s:=by rw[b0];exact b2
    have e8:R.n=N:=by rw[b0];exact a7
    rw[←b0] at U f c8;have R:=U.arr;have b0:=c8.el;have l7:=f.used;have b0:=c8.nl;have b0:=SE (p:=ph true) n (fun k _ e6↦by simp[ph,e6]);refine Ah<|Q<|M Z<|E (Ba CP Z AR.D.AE Z)<|M Z ?_;refine ve (Ab zN Z (pf (s:=s) (N:=N) R j4 c6 ⟨G,b9.2⟩ (m:=m) ⟨by rw[c0];exact kM _,j3.2⟩ f.pw (by have:=f.Mt;omega) c8.x c8.life c8.l G G (c8.tH f.liveQ) (fun k O _ b4 q e7↦by have e6:k=0:=(by rcases Aa6 k with h|h;exact h;simp[ph] at b4;omega);subst e6;exact h0 q G) (by rw[CR];omega) c8.r c8.ok G (by rw[c8.b,←c5];exact f.may))) ?_;rintro R R ⟨R,b0,⟨A3,k0,h0,e7,h3,h5,h1,b9,b0,c3,c6,c0,rfl⟩⟩;refine M Z<|E (Aq Z Z)<|E (Aq Z Z)<|za Z<|V Z<|Ag<|Q<|M Z<|ve (Ac R 1 (Ab YL Z (KR 0))) ?_;rintro R R ⟨R,R,R,rfl⟩;refine E (BK Z Z)<|M Z ?_;apply AW false 2 _ CK
    ·intro R;refine wo<|M Z<|wo<|E (Qg underlying34 Z) ?_;exact EQ 2
    refine Ah<|Cz Z (fun R=>?_) fun R=>?_
    ·simp at R
    refine As<|cg<|M Z<|V Z ?_;have R:=f.open c8 b0 c3 c6 c0;rw[c5,e8] at R;exact⟨_,k0,h0,h3,h5,h1,⟨s,N,A3,e7,Da Nf c4,(-1,-1),false⟩,AL,⟨Z,Z,R.more G (kM _),by show(Da Nf c4).Ae.length≤_;rw[c8.b];exact e9,fun b4=>G⟩,hO.D,a8.D,a6.D,AR.D,b9.D,C.D,hd.D,hx.D⟩
   refine As ?_;exact⟨_,p,pj,b6,b7,b5,P,AL,⟨b2,a7,a1.more G (kM _),e4,fun b4=>c9 G⟩,hO,a8,a6,AR,U,C,hd,hx⟩
  clear hO a8 a6 AR U C hd hx a1 e4 c9 b2 a7;rintro h2 f ⟨f,p,pj,b6,b7,b5,P,e5,⟨b2,a7,a1,e4,c9⟩,hO,a8,a6,AR,U,C,hd,hx⟩;refine DN e5 ?_;have k5:=VQ i;have j2:Small P.s:=by rw[b2];exact j4
  have l7:=a1.used;have n1:=a1.Mt;refine Q<|M Z<|M Z<|M Z<|E (Ey underlying9 Z)<|M Z<|E (By (cells:=#[I 4,I t.length,St [],St (GV i), .slice none 0 0, .slice none 0 0]) Z Ao) ?_;refine ve (Ab wc Z (db (t:=t) (d:=GV i) U j2 h4 (m:=m) j3 a1.pw (by rw[a7];exact e3) G a1.w a1.may a1.De k5 k6 G G)) ?_;rintro f f ⟨f,h3,⟨j5,j6,h0,f9,j1,b6,b7,b5,U,R,rfl⟩⟩;have l5:=a1.add j2 j8 (by rw[a7];exact e3) (by rw[a7,b2];exact j9) k5 k6 R;refine ve (Ac f 1 (Ab YL Z (KR j1))) ?_;rintro f f ⟨k2,h1,f,rfl⟩;refine E (BO Z Z)<|Ah<|BA Z (fun f=>?_) fun f=>?_
  ·have j7:j1=0:=G;obtain⟨_,k3,k9,e0⟩:=l5.resolve_left fun h=>h.1 j7;refine WC.mono (N:=(fun h2 w'=>∃(c':Nat→Nat) (l0 l1:Value),Sub [(4000000, .tuple #[]),(1,P1 b1),(2, .bool false),(3,P1 b3),(4,I o),(5,I N),(6,P1 pa),(7,P1 p),(8,P1 b8),(9,I i)] h2∧CD w c' w'∧Bu RH c' w' [0] a L∧AI c' w' 101 b1 [I h7,I (1+within a2 2),I h8,I h9,I j0,a,y] 25∧AI c' w' 103 b3 (DB s) 29∧DM c' w' p pa pj b6 b7 b5 {P with A:=j5,J:=j6,b:=h0,failed:=f9}∧AI c' w' 108 b8 [l0,l1] 39∧AJ c' w' 156 9 1 l0 ((K.map (·.1)).length+1) ((K.map (·.1)).flatMap (fun x=>[St x])++[St (GV i)])∧AJ c' w' 157 9 1 l1 ((K.map (·.2)).length+1) ((K.map (·.2)).flatMap (fun x=>[St x])++[St t]))) ?_ ?_
   ·refine EB k2 [156,157] [0,1,2,0,2,2,0,1,2,0,2,2,0,3] (.Au 0 (.Au 1 (.Au 3 (.Au 6 (.Au 7 (.Au 9 (.three 2 (.two 4 (.two 5 (.two 8 (.one 10 (.one 11 (.Au 12 (.one 13 .nil)))) 10 (.one 8 (.one 11 (.Au 12 (.one 13 .nil))))) 10 (.one 5 (.one 8 (.one 11 (.Au 12 (.one 13 .nil)))))) 10 (.one 4 (.one 5 (.one 8 (.one 11 (.Au 12 (.one 13 .nil))))))) 4 (.two 2 (.two 5 (.two 8 (.one 10 (.one 11 (.Au 12 (.one 13 .nil)))) 10 (.one 8 (.one 11 (.Au 12 (.one 13 .nil))))) 10 (.one 5 (.one 8 (.one 11 (.Au 12 (.one 13 .nil)))))) 10 (.one 2 (.one 5 (.one 8 (.one 11 (.Au 12 (.one 13 .nil))))))) 10 (.two 2 (.one 4 (.one 5 (.one 8 (.one 11 (.Au 12 (.one 13 .nil)))))) 4 (.one 2 (.one 5 (.one 8 (.one 11 (.Au 12 (.one 13 .nil)))))))))))))) fun f f f=>?_;refine Cd Z (Aa TL Z)<|Cj Z Z Z f.kp (C.D.kb Eh Z Z) Z<|Cd Z (Cf Z)<|Cd Z (Aa fG Z)<|Cj Z Z Z f.kp (C.D.kb Eh Z Z) Z<|Cd Z (Cf Z)<|WX ?_ ?_ ?_
    ·refine EM Z (Ac k2 156 (Ab PC Z (Cy hd.D.AB (by rw[kr];omega)))) ?_;rintro k7 o ⟨l3,o,b0,R⟩;refine f.Bl o fun f=>?_;replace R:=R.Du b0;refine Ck ?_ ?_
     ·refine EM Z (AH l3 207 Ch Z Z Z Z Z) ?_;rintro _ o ⟨k1,l8,rfl,o,b9⟩;refine f.Bl o fun f=>Ck ?_ ?_
      ·refine EM Z (Ax Ch Z Z R.D (Aw underlying37 b9.AE.AT Z Bg) Fh Fg) ?_;rintro h5 o ⟨l4,o,R⟩;refine f.Bl o fun f=>?_;obtain⟨c5,c6,rfl,_⟩:=R.own.len;refine Ck ?_ ?_
       ·refine EM Z (Ac l4 157 (Ab PC Z (Cy hx.D.AB (by rw[kr];omega)))) ?_;rintro e7 o ⟨b0,c0,c3,o⟩;refine f.Bl c0 fun f=>?_;replace o:=o.Du c3;refine EZ Z (AH b0 213 Ch Z Z Z Z Z) ?_;rintro _ b0 ⟨e9,b0,rfl,c0,b0⟩;refine f.Bl c0 fun f=>EZ Z (Ax Ch Z Z o.D (Aw underlying37 b0.AE.AT Z Bg) Fh Fg) ?_;rintro e8 c0 ⟨c0,c0,o⟩;refine f.Bl c0 fun f=>?_;obtain⟨c0,c3,rfl,_⟩:=o.own.len;refine Cd Z (By (cells:=#[.slice c5 ((K.map (·.1)).length+1) c6, .slice c0 ((K.map (·.2)).length+1) c3]) Z Ao) ?_;refine AV<|Bj Z Z Z (Am NM Z Z C.D Z Z Bg) ?_;rintro _ l9 ⟨C,l9⟩;refine Bs ?_;exact⟨_,_,_,AL,hO.D,a8.D,a6.D,AR.D,U.D,C,R.D,o.D⟩
       refine EM Z (AH l4 213 Ch Z Z Z Z Z) ?_;rintro _ l4 ⟨e9,l4,rfl,l9,b0⟩;refine f.Bl l9 fun f=>AV ?_;refine EM Z (Ac l4 157 (Ab PC Z (Cy hx.D.AB (by rw[kr];omega)))) ?_;rintro e7 l4 ⟨l4,l4,l9,o⟩;refine f.Bl l4 fun f=>?_;replace o:=o.Du l9;refine EZ Z (Ax Ch Z Z o (Aw underlying37 b0.D.AE.AT Z Bg) Fh Fg) ?_;rintro e8 l4 ⟨l4,l4,o⟩;refine f.Bl l4 fun f=>?_;obtain⟨c0,c3,rfl,_⟩:=o.own.len;refine Cd Z (By (cells:=#[.slice c5 ((K.map (·.1)).length+1) c6, .slice c0 ((K.map (·.2)).length+1) c3]) Z Ao) ?_;refine AV<|Bj Z Z Z (Am NM Z Z C.D Z Z Bg) ?_;rintro _ l4 ⟨C,l4⟩;refine Bs ?_;exact⟨_,_,_,AL,hO.D,a8.D,a6.D,AR.D,U.D,C,R.D,o.D⟩
      refine EM Z (AH l8 213 Ch Z Z Z Z Z) ?_;rintro _ l4 ⟨e9,l4,rfl,l4,b0⟩;refine f.Bl l4 fun f=>EZ Z (Ax Ch Z Z R.D (Aw underlying37 b9.D.AE.AT Z Bg) Fh Fg) ?_;rintro h5 l4 ⟨l4,l8,R⟩;refine f.Bl l8 fun f=>?_;obtain⟨c5,c6,rfl,_⟩:=R.own.len;refine AV ?_;refine EM Z (Ac l4 157 (Ab PC Z (Cy hx.D.AB (by rw[kr];omega)))) ?_;rintro e7 zJ ⟨l4,l4,l8,o⟩;refine f.Bl l4 fun f=>?_;replace o:=o.Du l8;refine EZ Z (Ax Ch Z Z o (Aw underlying37 b0.D.AE.AT Z Bg) Fh Fg) ?_;rintro e8 l4 ⟨l4,l4,o⟩;refine f.Bl l4 fun f=>?_;obtain⟨c0,c3,rfl,_⟩:=o.own.len;refine Cd Z (By (cells:=#[.slice c5 ((K.map (·.1)).length+1) c6, .slice c0 ((K.map (·.2)).length+1) c3]) Z Ao) ?_;refine AV<|Bj Z Z Z (Am NM Z Z C.D Z Z Bg) ?_;rintro _ l4 ⟨C,l4⟩;refine Bs ?_;exact⟨_,_,_,AL,hO.D,a8.D,a6.D,AR.D,U.D,C,R.D,o.D⟩
     refine EM Z (AH l3 213 Ch Z Z Z Z Z) ?_;rintro _ l3 ⟨e9,l3,rfl,l4,b0⟩;refine f.Bl l4 fun f=>EZ Z (AH l3 207 Ch Z Z Z Z Z) ?_;rintro _ l3 ⟨k1,l3,rfl,l3,b9⟩;refine f.Bl l3 fun f=>EZ Z (Ax Ch Z Z R.D (Aw underlying37 b9.AE.AT Z Bg) Fh Fg) ?_;rintro h5 l3 ⟨l3,l4,R⟩;refine f.Bl l4 fun f=>?_;obtain⟨c5,c6,rfl,_⟩:=R.own.len;refine AV ?_;refine EM Z (Ac l3 157 (Ab PC Z (Cy hx.D.AB (by rw[kr];omega)))) ?_;rintro e7 l3 ⟨l3,l3,l4,o⟩;refine f.Bl l3 fun f=>?_;replace o:=o.Du l4;refine EZ Z (Ax Ch Z Z o (Aw underlying37 b0.D.AE.AT Z Bg) Fh Fg) ?_;rintro e8 l3 ⟨l3,l3,o⟩;refine f.Bl l3 fun f=>?_;obtain⟨c0,c3,rfl,_⟩:=o.own.len;refine Cd Z (By (cells:=#[.slice c5 ((K.map (·.1)).length+1) c6, .slice c0 ((K.map (·.2)).length+1) c3]) Z Ao) ?_;refine AV<|Bj Z Z Z (Am NM Z Z C.D Z Z Bg) ?_;rintro _ l3 ⟨C,l3⟩;refine Bs ?_;exact⟨_,_,_,AL,hO.D,a8.D,a6.D,AR.D,U.D,C,R.D,o.D⟩
    ·refine EM Z (AH k2 207 Ch Z Z Z Z Z) ?_;rintro _ l3 ⟨k1,l3,rfl,l4,b9⟩;refine f.Bl l4 fun f=>Ck ?_ ?_
     ·refine EM Z (Ac l3 156 (Ab PC Z (Cy hd.D.AB (by rw[kr];omega)))) ?_;rintro k7 l4 ⟨l8,l4,l9,R⟩;refine f.Bl l4 fun f=>?_;replace R:=R.Du l9;refine Ck ?_ ?_
      ·refine EM Z (Ax Ch Z Z R (Aw underlying37 b9.D.AE.AT Z Bg) Fh Fg) ?_;rintro h5 l4 ⟨l4,l9,R⟩;refine f.Bl l9 fun f=>?_;obtain⟨c5,c6,rfl,_⟩:=R.own.len;refine Ck ?_ ?_
       ·refine EM Z (Ac l4 157 (Ab PC Z (Cy hx.D.AB (by rw[kr];omega)))) ?_;rintro e7 l9 ⟨l9,n0,n2,o⟩;refine f.Bl n0 fun f=>?_;replace o:=o.Du n2;refine EZ Z (AH l9 213 Ch Z Z Z Z Z) ?_;rintro _ l9 ⟨e9,l9,rfl,l9,b0⟩;refine f.Bl l9 fun f=>EZ Z (Ax Ch Z Z o.D (Aw underlying37 b0.AE.AT Z Bg) Fh Fg) ?_;rintro e8 l9 ⟨l9,l9,o⟩;refine f.Bl l9 fun f=>?_;obtain⟨c0,c3,rfl,_⟩:=o.own.len;refine Cd Z (By (cells:=#[.slice c5 ((K.map (·.1)).length+1) c6, .slice c0 ((K.map (·.2)).length+1) c3]) Z Ao) ?_;refine AV<|Bj Z Z Z (Am NM Z Z C.D Z Z Bg) ?_;rintro _ l9 ⟨C,l9⟩;refine Bs ?_;exact⟨_,_,_,AL,hO.D,a8.D,a6.D,AR.D,U.D,C,R.D,o.D⟩
       refine EM Z (AH l4 213 Ch Z Z Z Z Z) ?_;rintro _ l4 ⟨e9,l4,rfl,l9,b0⟩;refine f.Bl l9 fun f=>AV ?_;refine EM Z (Ac l4 157 (Ab PC Z (Cy hx.D.AB (by rw[kr];omega)))) ?_;rintro e7 l4 ⟨l4,l4,l9,o⟩;refine f.Bl l4 fun f=>?_;replace o:=o.Du l9;refine EZ Z (Ax Ch Z Z o (Aw underlying37 b0.D.AE.AT Z Bg) Fh Fg) ?_;rintro e8 l4 ⟨l4,l4,o⟩;refine f.Bl l4 fun f=>?_;obtain⟨c0,c3,rfl,_⟩:=o.own.len;refine Cd Z (By (cells:=#[.slice c5 ((K.map (·.1)).length+1) c6, .slice c0 ((K.map (·.2)).length+1) c3]) Z Ao) ?_;refine AV<|Bj Z Z Z (Am NM Z Z C.D Z Z Bg) ?_;rintro _ l4 ⟨C,l4⟩;refine Bs ?_;exact⟨_,_,_,AL,hO.D,a8.D,a6.D,AR.D,U.D,C,R.D,o.D⟩
      refine EM Z (AH l8 213 Ch Z Z Z Z Z) ?_;rintro _ l4 ⟨e9,l4,rfl,l4,b0⟩;refine f.Bl l4 fun f=>EZ Z (Ax Ch Z Z R.D (Aw underlying37 b9.D.AE.AT Z Bg) Fh Fg) ?_;rintro h5 l4 ⟨l4,l8,R⟩;refine f.Bl l8 fun f=>?_;obtain⟨c5,c6,rfl,_⟩:=R.own.len;refine AV ?_;refine EM Z (Ac l4 157 (Ab PC Z (Cy hx.D.AB (by rw[kr];omega)))) ?_;rintro e7 l4 ⟨l4,l4,l8,o⟩;refine f.Bl l4 fun f=>?_;replace o:=o.Du l8;refine EZ Z (Ax Ch Z Z o (Aw underlying37 b0.D.AE.AT Z Bg) Fh Fg) ?_;rintro e8 l4 ⟨l4,l4,o⟩;refine f.Bl l4 fun f=>?_;obtain⟨c0,c3,rfl,_⟩:=o.own.len;refine Cd Z (By (cells:=#[.slice c5 ((K.map (·.1)).length+1) c6, .slice c0 ((K.map (·.2)).length+1) c3]) Z Ao) ?_;refine AV<|Bj Z Z Z (Am NM Z Z C.D Z Z Bg) ?_;rintro _ l4 ⟨C,l4⟩;refine Bs ?_;exact⟨_,_,_,AL,hO.D,a8.D,a6.D,AR.D,U.D,C,R.D,o.D⟩
     refine EM Z (AH l3 213 Ch Z Z Z Z Z) ?_;rintro _ l3 ⟨e9,l3,rfl,l4,b0⟩;refine f.Bl l4 fun f=>AV ?_;refine EM Z (Ac l3 156 (Ab PC Z (Cy hd.D.AB (by rw[kr];omega)))) ?_;rintro k7 l3 ⟨l3,l3,l4,R⟩;refine f.Bl l3 fun f=>?_;replace R:=R.Du l4;refine EZ Z (Ax Ch Z Z R (Aw underlying37 b9.D.AE.AT Z Bg) Fh Fg) ?_;rintro h5 l3 ⟨l3,l4,R⟩;refine f.Bl l4 fun f=>?_;obtain⟨c5,c6,rfl,_⟩:=R.own.len;refine AV ?_;refine EM Z (Ac l3 157 (Ab PC Z (Cy hx.D.AB (by rw[kr];omega)))) ?_;rintro e7 l3 ⟨l3,l3,l4,o⟩;refine f.Bl l3 fun f=>?_;replace o:=o.Du l4;refine EZ Z (Ax Ch Z Z o (Aw underlying37 b0.D.AE.AT Z Bg) Fh Fg) ?_;rintro e8 l3 ⟨l3,l3,o⟩;refine f.Bl l3 fun f=>?_;obtain⟨c0,c3,rfl,_⟩:=o.own.len;refine Cd Z (By (cells:=#[.slice c5 ((K.map (·.1)).length+1) c6, .slice c0 ((K.map (·.2)).length+1) c3]) Z Ao) ?_;refine AV<|Bj Z Z Z (Am NM Z Z C.D Z Z Bg) ?_;rintro _ l3 ⟨C,l3⟩;refine Bs ?_;exact⟨_,_,_,AL,hO.D,a8.D,a6.D,AR.D,U.D,C,R.D,o.D⟩
    refine EM Z (AH k2 213 Ch Z Z Z Z Z) ?_;rintro _ k2 ⟨e9,e9,rfl,k2,b0⟩;refine f.Bl k2 fun f=>Ck ?_ ?_
    ·refine EM Z (Ac e9 156 (Ab PC Z (Cy hd.D.AB (by rw[kr];omega)))) ?_;rintro k7 k2 ⟨k2,l3,l4,R⟩;refine f.Bl l3 fun f=>?_;replace R:=R.Du l4;refine EZ Z (AH k2 207 Ch Z Z Z Z Z) ?_;rintro _ k2 ⟨k1,k2,rfl,k2,b9⟩;refine f.Bl k2 fun f=>EZ Z (Ax Ch Z Z R.D (Aw underlying37 b9.AE.AT Z Bg) Fh Fg) ?_;rintro h5 k2 ⟨k2,l3,R⟩;refine f.Bl l3 fun f=>?_;obtain⟨c5,c6,rfl,_⟩:=R.own.len;refine AV ?_;refine EM Z (Ac k2 157 (Ab PC Z (Cy hx.D.AB (by rw[kr];omega)))) ?_;rintro e7 k2 ⟨k2,k2,l3,o⟩;refine f.Bl k2 fun f=>?_;replace o:=o.Du l3;refine EZ Z (Ax Ch Z Z o (Aw underlying37 b0.D.AE.AT Z Bg) Fh Fg) ?_;rintro e8 k2 ⟨k2,k2,o⟩;refine f.Bl k2 fun f=>?_;obtain⟨c0,c3,rfl,_⟩:=o.own.len;refine Cd Z (By (cells:=#[.slice c5 ((K.map (·.1)).length+1) c6, .slice c0 ((K.map (·.2)).length+1) c3]) Z Ao) ?_;refine AV<|Bj Z Z Z (Am NM Z Z C.D Z Z Bg) ?_;rintro _ k2 ⟨C,k2⟩;refine Bs ?_;exact⟨_,_,_,AL,hO.D,a8.D,a6.D,AR.D,U.D,C,R.D,o.D⟩
    refine EM Z (AH e9 207 Ch Z Z Z Z Z) ?_;rintro _ e9 ⟨k1,e9,rfl,k1,b9⟩;refine f.Bl k1 fun f=>AV ?_;refine EM Z (Ac e9 156 (Ab PC Z (Cy hd.D.AB (by rw[kr];omega)))) ?_;rintro k7 e9 ⟨e9,e9,k1,R⟩;refine f.Bl e9 fun f=>?_;replace R:=R.Du k1;refine EZ Z (Ax Ch Z Z R (Aw underlying37 b9.D.AE.AT Z Bg) Fh Fg) ?_;rintro h5 e9 ⟨e9,h5,R⟩;refine f.Bl h5 fun f=>?_;obtain⟨c5,c6,rfl,_⟩:=R.own.len;refine AV ?_;refine EM Z (Ac e9 157 (Ab PC Z (Cy hx.D.AB (by rw[kr];omega)))) ?_;rintro e7 b9 ⟨b9,b9,e7,o⟩;refine f.Bl b9 fun f=>?_;replace o:=o.Du e7;refine EZ Z (Ax Ch Z Z o (Aw underlying37 b0.D.AE.AT Z Bg) Fh Fg) ?_;rintro e8 b9 ⟨b9,b9,o⟩;refine f.Bl b9 fun f=>?_;obtain⟨c0,c3,rfl,_⟩:=o.own.len;refine Cd Z (By (cells:=#[.slice c5 ((K.map (·.1)).length+1) c6, .slice c0 ((K.map (·.2)).length+1) c3]) Z Ao) ?_;refine AV<|Bj Z Z Z (Am NM Z Z C.D Z Z Bg) ?_;rintro _ b0 ⟨C,b0⟩;refine Bs ?_;exact⟨_,_,_,AL,hO.D,a8.D,a6.D,AR.D,U.D,C,R.D,o.D⟩
   clear hO a8 a6 AR U C hd hx;rintro h2 b0 ⟨b0,l0,l1,e5,hO,a8,a6,AR,U,C,R,o⟩;refine DN e5 ?_;refine cg<|M Z<|E (Bc Z Z Ai Ai)<|V Z ?_
   first
   |exact⟨(i+1,p),AL,⟨⟨by dsimp only;omega,by dsimp only;omega⟩,_,pj,b6,b7,b5,P,K,e1,e2,⟨b2,a7,a1.more (by dsimp only;omega) (by dsimp only;omega),by dsimp only;omega,by dsimp only;omega,k4,fun b4=>by
    dsimp only at b4;obtain⟨c7,c4,e0⟩:=c9 G;exact⟨c7,c4,by rw[show decide (2≤i+1)=decide (1≤i) by rw[Bool.eq_iff_iff,decide_eq_true_iff,decide_eq_true_iff];omega];exact e0.more⟩⟩,hO,a8,a6,AR,U,C,hd,hx⟩,by show 5-(i+1)<5-i;omega⟩
   |(have c5:((K++[(GV i,t)]).map (·.1)).map St=(K.map (·.1)).flatMap (fun x=>[St x])++[St (GV i)]:=by rw[Wl,Aaf,Aaf];rfl
     have c6:((K++[(GV i,t)]).map (·.2)).map St=(K.map (·.2)).flatMap (fun x=>[St x])++[St t]:=by rw[Wl,Aaf,Aaf];rfl
     have e7:(K.map (·.1)).length+1=((K++[(GV i,t)]).map (·.1)).length:=by simp
     have e8:(K.map (·.2)).length+1=((K++[(GV i,t)]).map (·.2)).length:=by simp
     replace R:=R.ae (ys:=((K++[(GV i,t)]).map (·.1)).map St) c5.symm e7;replace o:=o.ae (ys:=((K++[(GV i,t)]).map (·.2)).map St) c6.symm e8;have b0:∀h6∈K++[(GV i,t)],h6.1.length=32∧h6.2.length≤40:=fun h6 hy=>by
      rcases Aac.1 hy with hy|hy
      ·exact k4 h6 hy
      rw[pv.1 hy];exact⟨k5,k6⟩
     exact⟨(i+1,p),AL,⟨⟨by dsimp only;omega,by dsimp only;omega⟩,Go.Eng.Bq 157 159 (Go.Eng.Bq 156 158 _),pj,b6,b7,b5,{P with A:=j5,J:=j6,b:=h0,failed:=f9},K++[(GV i,t)],_,_,⟨b2,a7,k3.more (by dsimp only;omega) (by dsimp only;omega),by dsimp only;have:h0.Ae.length≤_:=k9;omega,by dsimp only;rw[List.length_append,List.length_singleton];omega,b0,fun b4=>by
      dsimp only at b4;obtain⟨c7,c4,c8⟩:=c9 G;obtain⟨c0,c3,e9⟩:=e0 _ _ _ _ c8;exact⟨c0,c3,by rw[show decide (2≤i+1)=decide (1≤i) by rw[Bool.eq_iff_iff,decide_eq_true_iff,decide_eq_true_iff];omega];exact e9⟩⟩,hO.Bq.Bq,EA.Bq (EA.Bq a8),a6.Bq.Bq,AR.Bq.Bq,U.Bq.Bq,C.Bq.Bq,EA.Bq (Im R.Ma (by rw[List.length_map,List.length_append];simp;omega) (fun h6 hy=>by
       obtain⟨z,b9,rfl⟩:=Aag.1 hy;have:=(b0 z b9).1;omega)),Im o.Bq.Ma (by rw[kr,ft];simp;omega) (fun h6 hy=>by
       obtain⟨z,b9,rfl⟩:=Aag.1 hy;have:=(b0 z b9).2;omega)⟩,by show 5-(i+1)<5-i;omega⟩)
  have j7:j1≠0:=G;obtain⟨_,rfl,rfl,rfl,rfl⟩:=l5.resolve_right fun h=>j7 h.1;refine As<|cg<|M Z<|E (Bc Z Z Ai Ai)<|V Z ?_;replace hO:=(hO.D h3).D h1;replace a8:=(a8.D h3).D h1;replace a6:=(a6.D h3).D h1;replace AR:=(AR.D h3).D h1;replace C:=(C.D h3).D h1;replace hd:=(hd.D h3).D h1;replace hx:=(hx.D h3).D h1;replace U:=U.D h1
  first
  |exact⟨(i+1,p),AL,⟨⟨by dsimp only;omega,by dsimp only;omega⟩,_,pj,b6,b7,b5,P,K,e1,e2,⟨b2,a7,a1.more (by dsimp only;omega) (by dsimp only;omega),by dsimp only;omega,by dsimp only;omega,k4,fun b4=>by
   dsimp only at b4;obtain⟨c7,c4,e0⟩:=c9 G;exact⟨c7,c4,by rw[show decide (2≤i+1)=decide (1≤i) by rw[Bool.eq_iff_iff,decide_eq_true_iff,decide_eq_true_iff];omega];exact e0.more⟩⟩,hO,a8,a6,AR,U,C,hd,hx⟩,by show 5-(i+1)<5-i;omega⟩
  |(have c5:((K++[(GV i,t)]).map (·.1)).map St=(K.map (·.1)).flatMap (fun x=>[St x])++[St (GV i)]:=by rw[Wl,Aaf,Aaf];rfl
    have c6:((K++[(GV i,t)]).map (·.2)).map St=(K.map (·.2)).flatMap (fun x=>[St x])++[St t]:=by rw[Wl,Aaf,Aaf];rfl
    have e7:(K.map (·.1)).length+1=((K++[(GV i,t)]).map (·.1)).length:=by simp
    have e8:(K.map (·.2)).length+1=((K++[(GV i,t)]).map (·.2)).length:=by simp
    replace R:=R.ae (ys:=((K++[(GV i,t)]).map (·.1)).map St) c5.symm e7;replace o:=o.ae (ys:=((K++[(GV i,t)]).map (·.2)).map St) c6.symm e8;have b0:∀h6∈K++[(GV i,t)],h6.1.length=32∧h6.2.length≤40:=fun h6 hy=>by
     rcases Aac.1 hy with hy|hy
     ·exact k4 h6 hy
     rw[pv.1 hy];exact⟨k5,k6⟩
    exact⟨(i+1,p),AL,⟨⟨by dsimp only;omega,by dsimp only;omega⟩,Go.Eng.Bq 157 159 (Go.Eng.Bq 156 158 _),pj,b6,b7,b5,{P with A:=j5,J:=j6,b:=h0,failed:=f9},K++[(GV i,t)],_,_,⟨b2,a7,k3.more (by dsimp only;omega) (by dsimp only;omega),by dsimp only;have:h0.Ae.length≤_:=k9;omega,by dsimp only;rw[List.length_append,List.length_singleton];omega,b0,fun b4=>by
     dsimp only at b4;obtain⟨c7,c4,c8⟩:=c9 G;obtain⟨c0,c3,e9⟩:=e0 _ _ _ _ c8;exact⟨c0,c3,by rw[show decide (2≤i+1)=decide (1≤i) by rw[Bool.eq_iff_iff,decide_eq_true_iff,decide_eq_true_iff];omega];exact e9⟩⟩,hO.Bq.Bq,EA.Bq (EA.Bq a8),a6.Bq.Bq,AR.Bq.Bq,U.Bq.Bq,C.Bq.Bq,EA.Bq (Im R.Ma (by rw[List.length_map,List.length_append];simp;omega) (fun h6 hy=>by
      obtain⟨z,b9,rfl⟩:=Aag.1 hy;have:=(b0 z b9).1;omega)),Im o.Bq.Ma (by rw[kr,ft];simp;omega) (fun h6 hy=>by
      obtain⟨z,b9,rfl⟩:=Aag.1 hy;have:=(b0 z b9).2;omega)⟩,by show 5-(i+1)<5-i;omega⟩)
 have o:=a1.more (c':=1000000) (u':=16024) G G;have R:dh (EP n P) n≤288:=vC (by rw[a7];omega) G;refine Az Z<|Ag<|Q<|V Z<|An<|AG (σ:=Nat) (fun q=>[(2, .bool false),(3,P1 b3),(5,I N),(6,P1 pa),(7,P1 p),(8,P1 b8),(14,I q)]) (fun q w'=>∃c' b6 b7 b5 P,(P.s=s∧P.n=N∧SF n m (1000000+8000*q) (16024+97*q) P K∧P.b.Ae.length≤205∧dh (EP n P) n+2*q≤288)∧CD w c' w'∧AI c' w' 103 b3 (DB s) 29∧DM c' w' p pa pj b6 b7 b5 P∧AI c' w' 108 b8 [e1,e2] 39∧Bu DQ c' w' [158] e1 (K.map (·.1))∧Bu DQ c' w' [159] e2 (K.map (·.2))) (fun q=>400-q) 0 AL ⟨_,b6,b7,b5,P,⟨b2,a7,o,G,G⟩,hO,AR,U,C,hd,hx⟩ ?_;rintro q o ⟨o,b6,b7,b5,P,⟨b2,a7,a1,e4,R⟩,hO,AR,U,C,hd,hx⟩;have j2:Small P.s:=by rw[b2];exact j4
 have l7:=a1.used;have n1:=a1.Mt;have c0:=DC n P.A;have c7:(EP n P).length=(Cu n P.A).length:=by rw[EP,Hb,c0]
 refine Ag<|Q<|M Z<|E (AX Z Z)<|Ah<|Wr Z (fun h3=>?_) fun h3=>?_
 ·refine As<|Ag<|An<|Q<|M Z ?_;refine ve (Ab we Z (de ⟨pa,pj,b6,b7,b5,U⟩ j2 a1.may a1.De G)) ?_;rintro o o ⟨o,R,⟨R,R,R,⟨b0,a6,R⟩,rfl⟩⟩;have a8:=b0.AB.AD;have e4:=a6.AB.AD;have k0:=R.AB.AD;refine EK o 115 Uz fun o o c9 o o=>Av (Am Fy Z Z o Z Z Bg) ?_;rintro _ R ⟨o,R⟩;refine Ah<|Ag<|WC.mono (N:=(fun h2 w'=>∃(c':Nat→Nat) (c6:Nat),Sub [(4000000, .tuple #[]),(2, .bool false),(3,P1 b3),(5,I N),(6,P1 pa),(7,P1 p),(8,P1 b8),(14,I q),(17, .bool (Ix (Cu n P.A) (EP n P) P.b.Ae).isSome)] h2∧CD w c' w'∧AI c' w' 103 b3 (DB s) 29∧DM c' w' p pa pj b6 b7 b5 P∧AI c' w' 108 b8 [e1,e2] 39∧Bu DQ c' w' [158] e1 (K.map (·.1))∧Bu DQ c' w' [159] e2 (K.map (·.2)))) ?_ ?_
  ·refine EB c9 [] [0,1,1,0,2,0,2,2,0,0,0,2,3,0] (.Au 0 (.Au 1 (.Au 2 (.Au 3 (.Au 5 (.two 4 (.two 6 (.two 7 (.Au 8 (.Au 9 (.Au 10 (.one 11 (.one 12 (.Au 13 .nil)))))) 11 (.one 7 (.Au 8 (.Au 9 (.Au 10 (.one 12 (.Au 13 .nil))))))) 11 (.one 6 (.one 7 (.Au 8 (.Au 9 (.Au 10 (.one 12 (.Au 13 .nil)))))))) 11 (.one 4 (.one 6 (.one 7 (.Au 8 (.Au 9 (.Au 10 (.one 12 (.Au 13 .nil)))))))))))))) fun R R f=>?_;refine Cd Z (Aa CA Z)<|Cj Z Z Z f.kp (o.D.kb Ei Z Z) Z<|Cj Z Z Z f.kp (o.D.kn Fy Z Z) Z<|Cd Z (Cf Z)<|Cd Z (Cf Z)<|Ck ?_ ?_
   ·refine EM Z (Ac c9 8 (Ab tP Z (VP U.D.arr ⟨a1.pw.len,h4.2⟩))) ?_;rintro k7 o ⟨k2,o,R,b9⟩;refine f.Bl o fun f=>?_;replace b9:=b9.Du R;have a8:Bu DW _ _ [8] _ (Cu n P.A):=MG (by rw[c0];exact b9) G;have k4:=a8.AB.AD;have k5:=a8.AB.AA;refine Ck ?_ ?_
    ·refine EM Z (Ab pG Z (OE (b:=P.b) (n:=N) (liveQ:=Cu n P.A) b0.D e4 k0 a8 G e3)) ?_;rintro h5 o ⟨e8,o,⟨c5,c4,a6,rfl⟩⟩;refine f.Bl o fun f=>?_;rw[c0,←a7] at a6;have o:KD _ _ c5 c4 (Cu n P.A) (EP n P):=a6;obtain⟨k1,c3,_⟩:=id o.row;have e9:=o.kQ.AD;have h1:=c3.AD;refine Ck ?_ ?_
     ·refine EM Z (Ac e8 1 (Ab pF Z (Pf b0.D.AB (o.uK G).AB (o.tm G).AB ⟨G,G⟩ c7 (fun l2 hl↦Lu (by rw[a7];exact e3) l2 hl)))) ?_;rintro e2 R ⟨R,k6,c8,⟨c8,e7,vt,rfl,e0,e1⟩⟩;refine f.Bl k6 fun f=>Cd Z (Cf Z)<|Cd Z (Aq Z Z)<|Cd Z (Aq Z Z)<|EZ Z (CB R 116 MY) ?_;rintro _ R ⟨c6,R,rfl,k6,R⟩;refine f.Bl k6 fun f=>AV<|Bj Z Z Z (Am Hj Z Z R Z Z Bg) ?_;rintro _ k6 ⟨R,k6⟩;refine Cd Z (CG Z)<|Bs ?_;exact⟨_,0,AL,hO.D,AR.D,U.D,C.D,hd.D,hx.D⟩
     refine EM Z (CB e8 116 MY) ?_;rintro _ e8 ⟨c6,e8,rfl,k6,R⟩;refine f.Bl k6 fun f=>AV ?_;refine EM Z (Ac e8 1 (Ab pF Z (Pf b0.D.AB (o.D.uK G).AB (o.D.tm G).AB ⟨G,G⟩ c7 (fun l2 hl↦Lu (by rw[a7];exact e3) l2 hl)))) ?_;rintro e2 e8 ⟨e8,e8,k6,⟨c8,e7,vt,rfl,e0,e1⟩⟩;refine f.Bl e8 fun f=>Cd Z (Cf Z)<|Cd Z (Aq Z Z)<|Cd Z (Aq Z Z)<|AV<|Bj Z Z Z (Am Hj Z Z R.D Z Z Bg) ?_;rintro _ e8 ⟨R,e8⟩;refine Cd Z (CG Z)<|Bs ?_;exact⟨_,0,AL,hO.D,AR.D,U.D,C.D,hd.D,hx.D⟩
    refine EM Z (CB k2 116 MY) ?_;rintro _ e8 ⟨c6,e8,rfl,e8,R⟩;refine f.Bl e8 fun f=>EZ Z (Ab pG Z (OE (b:=P.b) (n:=N) (liveQ:=Cu n P.A) b0.D e4 k0 a8.D G e3)) ?_;rintro h5 e8 ⟨e8,k2,⟨c5,c4,a6,rfl⟩⟩;refine f.Bl k2 fun f=>?_;rw[c0,←a7] at a6;have o:KD _ _ c5 c4 (Cu n P.A) (EP n P):=a6;obtain⟨k1,c3,_⟩:=id o.row;have e9:=o.kQ.AD;have h1:=c3.AD;refine AV ?_;refine EM Z (Ac e8 1 (Ab pF Z (Pf b0.D.AB (o.uK G).AB (o.tm G).AB ⟨G,G⟩ c7 (fun l2 hl↦Lu (by rw[a7];exact e3) l2 hl)))) ?_;rintro e2 e8 ⟨e8,e8,k2,⟨c8,e7,vt,rfl,e0,e1⟩⟩;refine f.Bl e8 fun f=>Cd Z (Cf Z)<|Cd Z (Aq Z Z)<|Cd Z (Aq Z Z)<|AV<|Bj Z Z Z (Am Hj Z Z R.D Z Z Bg) ?_;rintro _ e8 ⟨R,e8⟩;refine Cd Z (CG Z)<|Bs ?_;exact⟨_,0,AL,hO.D,AR.D,U.D,C.D,hd.D,hx.D⟩
   refine EM Z (CB c9 116 MY) ?_;rintro _ c9 ⟨c6,c6,rfl,c9,R⟩;refine f.Bl c9 fun f=>EZ Z (Ac c6 8 (Ab tP Z (VP U.D.arr ⟨a1.pw.len,h4.2⟩))) ?_;rintro k7 c6 ⟨c6,c6,c9,b9⟩;refine f.Bl c6 fun f=>?_;replace b9:=b9.Du c9;have a8:Bu DW _ _ [8] _ (Cu n P.A):=MG (by rw[c0];exact b9) G;have k4:=a8.AB.AD;have k5:=a8.AB.AA;refine EZ Z (Ab pG Z (OE (b:=P.b) (n:=N) (liveQ:=Cu n P.A) b0.D e4 k0 a8 G e3)) ?_;rintro h5 a8 ⟨a8,b9,⟨c5,c4,a6,rfl⟩⟩;refine f.Bl b9 fun f=>?_;rw[c0,←a7] at a6;have o:KD _ _ c5 c4 (Cu n P.A) (EP n P):=a6;obtain⟨k1,c3,_⟩:=id o.row;have e9:=o.kQ.AD;have h1:=c3.AD;refine AV ?_;refine EM Z (Ac a8 1 (Ab pF Z (Pf b0.D.AB (o.uK G).AB (o.tm G).AB ⟨G,G⟩ c7 (fun l2 hl↦Lu (by rw[a7];exact e3) l2 hl)))) ?_;rintro e2 o ⟨o,o,a6,⟨c8,e7,vt,rfl,e0,e1⟩⟩;refine f.Bl o fun f=>Cd Z (Cf Z)<|Cd Z (Aq Z Z)<|Cd Z (Aq Z Z)<|AV<|Bj Z Z Z (Am Hj Z Z R.D Z Z Bg) ?_;rintro _ f ⟨R,f⟩;refine Cd Z (CG Z)<|Bs ?_;exact⟨_,0,AL,hO.D,AR.D,U.D,C.D,hd.D,hx.D⟩
  clear hO AR U C hd hx;rintro h2 wr ⟨f,_,e5,hO,AR,U,C,hd,hx⟩;refine DN e5<|Q<|M Z ?_;refine ve (Ab zO Z (dl U j2 h4 j3 a1.pw (by rw[a7];exact e3) G a1.w a1.may a1.De G G)) ?_;rintro f f ⟨f,o,⟨j5,j6,h0,f9,o,j1,b6,b7,b5,U,a8,rfl,a6⟩⟩;obtain⟨j7,R⟩:=a1.step j2 j8 (by rw[a7];omega) (by rw[a7,b2];exact j9) a8 (a6 (a1.bal j8.1 (by rw[a7,b2];exact j9)));subst j7;have a6:o=true→(Ix (Cu n P.A) (EP n P) P.b.Ae).isSome=true:=fun h=>R.elim (fun g=>by rw[g.1] at h;cases h) (fun g=>g.2.1);refine M Z<|E (Aq Z Z)<|E (Aq Z Z)<|za Z<|V Z<|Ag<|Q<|M Z<|ve (Ac f 1 (Ab YL Z (KR 0))) ?_;rintro f f ⟨f,f,f,rfl⟩;refine E (BK Z Z)<|M Z ?_;apply AW false 5 _ CK
  ·intro f;refine wo<|M Z<|wo<|M Z ?_;apply AW true 2 _ CK
   ·intro l6;refine wo<|M Z<|wo<|E (BL Z) ?_;exact EQ 2
   exact EQ 3
  refine Ah<|Cz Z (fun f=>?_) fun f=>?_
  ·exfalso;simp at f;have b4:=a6 f.1;rw[Option.isSome_iff_ne_none] at b4;exact b4 f.2
  refine As<|Q<|M Z<|E (BL Z)<|Ah<|BA Z (fun f=>?_) fun f=>?_
  ·have a6:o=false:=by simpa using f
   obtain⟨_,rfl,rfl,rfl,rfl⟩:=R.resolve_right fun g=>by rw[g.1] at a6;cases a6
   refine Q<|M Z<|E (Ba NM Z C.D.AE Z)<|E (Ba CP Z AR.D.AE Z)<|M Z<|M Z<|ve (Ab zP Z (fs b2 a7 U.D j4 G h4 j3 a1.pw e3 G a1.may a1.De G a1.kept hd.D.AB hx.D.AB)) ?_;rintro a1 a1 ⟨a1,a6,rfl⟩;refine M Z ?_;apply BU a1 true 1 true CK
   ·intro l6 a6;refine wo<|ve (Ac a1 1 (Ab pf7 Z (fg))) ?_;rintro a1 a1 ⟨a1,a1,a1,rfl⟩;exact BV 1 a6.D
   intro a1 a1 a1;refine V Z<|Af Z Z ?_;exact⟨hO.D.below,Z⟩
  have a1:o=true:=by simpa using f
  obtain⟨_,_,k3,k9,f⟩:=R.resolve_left fun g=>by rw[a1] at g;cases g.1
  refine As<|cg<|M Z<|E (Bc Z Z Ai Ai)<|V Z ?_;exact⟨q+1,AL,⟨_,b6,b7,b5,{P with A:=j5,J:=j6,b:=h0,failed:=f9},⟨b2,a7,k3.more G G,by show h0.Ae.length≤_;omega,G⟩,hO.D,AR.D,U.D,C.D,hd.D,hx.D⟩,G⟩
 exfalso;have b4:=h3;simp at b4;omega
end Go.Eng

