/- The program, walked: part 4. No condition. -/
import Derived.Test.YtfgkcfdgepnhpaaGreatDoorC3
set_option linter.unusedSimpArgs false
set_option linter.unusedVariables false
set_option maxRecDepth 100000
set_option maxHeartbeats 4000000
open Go.Proofs.Tryz renaming prog → QP
variable {c : Nat → Nat} {w : Go.World}
namespace Go.Eng
open Go.RowKit Go.Proofs Go.Proofs.Tryz
variable {α:Type}{k m n i life:Nat}{s:List UInt8}{css:List (List Value)}{l:List Int}{w' h N:World}{cs news b:List Value}{c' j:Nat→Nat}{va a y:Value}{d A:TypeId}{e:List Nat}{f K:Operand}{g:Option (Nat×Bool)}{o:Array Edge}{p:Int}{q:List (List Int)}{r:Value→World→Prop}{u:List (Int×Int)}{v:String}{x:List Bool}{z:CO}{B:Bool}{C:List CV}{F:CS}{H:Program}{J:Option (Rec×List UInt8)}{P:List Rec}{R:IntKind}{S:FuncId}{T:Option Nat}{U:List Gs}{W:Tx}{X:World→Prop}{Y:List (List Rec)}{encs:α→List Value}{Qjq:List α→α→(Nat→Nat)→World→Prop}{Fin:List α→Prop}{t:List α}
open List (replicate)
theorem gV(f:BW c w k F)(hs:Small z)(hp:GR n m F)(J:z.k+z.m≤n∧n≤8)(C:1≤i∧i≤12)(U:1024+i*Ca z.size≤m∧m≤2048):
 Calls QP 31 #[P1 k, .agg (DB z).toArray,I i] w (Bt fun u w'=>AZ w w'∧u=I 0):=by
 have o:=DD.start c w BX;replace f:=f.Mz (K:=BX);generalize Bw c BX=c0 at o f;have r:=hp.len;have R:=hp.sec;obtain⟨g,g,g,g,g⟩:=id hs;have g:n*i≤8*12:=WO J.2 C.2;have g:(n:Int)*(i:Int)=((n*i:Nat):Int):=by rw[Acf]
 have l:((n*i:Nat):Int)/((z.k:Int)+(z.m:Int))=((n*i/(z.k+z.m):Nat):Int):=by rw[Int.natCast_ediv,Acs]
 have N:n*i/(z.k+z.m)≤n*i:=Afb _ _;obtain⟨Qjq,j⟩:∃Qjq,Qjq=n*i/(z.k+z.m):=⟨_,Z⟩;rw[←j] at l N;obtain⟨s,N,N⟩:∃s:Nat,s≤7140∧(Qjq:Int)*(45+8*((z.k:Int)+(z.m:Int)))=(s:Int):=by
  refine⟨Qjq*(45+8*(z.k+z.m)),?_,by rw[Acf,Acs,Acf,Acs];rfl⟩;rcases Aab (z.k+z.m) 2 with p|t
  ·exact rX (WO (by omega:Qjq≤96) (by omega:45+8*(z.k+z.m)≤53)) G
  have p:Qjq≤48:=by
   rw[j];refine rX (Nat.div_le_div_left t G) ?_;omega
  exact rX (WO p (by omega:45+8*(z.k+z.m)≤85)) G
 have j:(i:Int)*((Ca z.size:Nat):Int)=((i*Ca z.size:Nat):Int):=by rw[Acf]
 refine AY 55 #[.tmp 6] func31 Z<|Q<|Fa c0 104 fun w1 b4 c1 p Bd=>?_;refine V Z<|Ag<|Q<|M Z<|E (aaE underlying33 Z)<|M Z ?_;apply BU c1 false 3 false CK
 ·intro p p;refine wo<|E (Ba CP Z Bd.AE Z)<|wo<|ve (Ac c1 1 (Ab YM Z (KP hs.ok))) ?_;rintro t w2 ⟨c2,t,t,rfl⟩;refine wo<|E (BL Z) ?_;exact BV 3 p.D
 intro p p t;refine M Z ?_;apply BU p false 2 (decide ((i:Int)<1)) CK
 ·intro p p;refine wo<|M Z<|wo<|E (AX Z Z) ?_;exact BV 2 p
 intro p p t;refine M Z ?_;apply BU p false 2 (decide (64<(i:Int))) CK
 ·intro p p;refine wo<|M Z<|wo<|E (CM Z Z) ?_;exact BV 2 p
 intro p t p;refine Ah<|Cz Z (fun p=>?_) fun p=>?_
 ·exfalso;simp at p;omega
 refine As<|Q<|E (Aa CN Z)<|E (Al AF Z Bd.D.AE Z)<|E (Aa Hk Z)<|E (Al AF Z Bd.D.AE Z)<|E (Bc Z Z Ai Ai)<|za Z ?_;refine Ah<|Ag<|An<|Q<|M Z<|ve (Ac t 1 (Ab Ws Z (GZ f.D))) ?_;rintro v30 p ⟨p,t,t,rfl⟩;rw[r];refine M Z<|E (HK (m:=(n:Int)) (n:=(i:Int)) Z Z (by rw[g];omega) (by rw[g];omega)) ?_;rw[g];refine M Z<|E (dD Z Z G G G) ?_;rw[l];refine M Z<|E (HK Z Z Ai Ai)<|E (Bc Z Z Ai Ai)<|E (HK Z Z (by rw[N];omega) (by rw[N];omega)) ?_;rw[N];refine E (CM Z Z)<|V Z<|Cz Z (fun g=>?_) fun g=>?_
 ·simp only[YF] at g;omega
 refine Q<|M Z<|ve (Ac p 1 (Ab Ws Z (GZ f.D))) ?_;rintro g g ⟨N,g,g,rfl⟩;rw[r];refine M Z<|E (AX Z Z)<|V Z<|Cz Z (fun g=>?_) fun g=>?_
 ·simp only[YF] at g;omega
 refine Ag<|AM N [] [0,2,0,0,1,2,0,0,0,0] [0,2,3,4,1,5,6,7,8,9] fun g g g=>?_;refine Bm Z Z<|Bm Z Z<|AN Z (Aa DO Z)<|vc Z g.kp (Bd.D.kb AF Z Z)<|Db Z (Ac N 1 (Ab wD Z (SY f.D))) ?_;rintro N N ⟨N,l,p,rfl⟩;refine g.Bl l fun g=>?_;rw[R];refine Db Z (Ac N 1 (Ab lu Z (On G))) ?_;rintro N N ⟨N,N,l,rfl⟩;refine g.Bl N fun g=>?_;refine AN Z (HK (m:=(i:Int)) (n:=(Ca z.size:Nat)) Z Z (by rw[j];omega) (by rw[j];omega)) ?_;rw[j];refine AN Z (Bc Z Z Ai Ai)<|AN Z (AX Z Z)<|Ir Z Z ?_;refine AP ?_;refine Cz Z (fun g=>?_) fun g=>?_
 ·simp only[YF] at g;omega
 refine As<|Q<|V Z<|Af Z Z ?_;exact⟨o.D.below,Z⟩
structure IK (n m N:Nat) (A B:CS):Prop where
 pw:GR n m B
 Mt:B.BC≤A.BC+N
 liveQ:∀k,BG B k=BG A k
section
variable {n m N Mjq:Nat} {A B C:CS} {d f:Int} {L:List Tx}
theorem IK.refl(h:GR n m A):IK n m 0 A A:=⟨h,kM _,fun _=>rfl⟩
theorem IK.tr(h:IK n m N A B)(g:IK n m Mjq B C):IK n m (N+Mjq) A C:=⟨g.pw,by have:=h.Mt;have:=g.Mt;omega,fun k=>(g.liveQ k).trans (h.liveQ k)⟩
theorem IK.more(h:IK n m N A B)(f:N≤Mjq):IK n m Mjq A B:=⟨h.pw,by have:=h.Mt;omega,h.liveQ⟩
theorem HP.toS(h:HP n m N A B):IK n m N A B:=⟨h.pw,h.Mt,h.liveQ⟩
def eE(A:CS)(d f:Int)(L:List Tx)(k:Nat):Prop:=∀(j:Nat) (t:Tx),j<k→L[j]?=some t→Bp A d (f+(j:Nat))=(t,0)
theorem cr:∀k,k≤L.length→eE A d f L k→Dk A d f k=some (L.take k)
 |0,_,_=>rfl
 |k+1,O,h=>by
  have i:=cr k G (fun j t l hl=>h j t G hl);have g:=h k L[k] G (dd _);rw[Tj i (by rw[g]),g,pk]
end
structure aaH (n m:Nat) (s:CO) (x:CV) (i:Nat) (t:Tx) (A B:CS) (e:Int):Prop where
 lay:IK n m (BZ s) A B
 jq:∀q,x.Ad[i]?=some q→BG A q.1=true→1024+(q.2+1)*(BZ s:Nat)≤m→e=0
 rd:∀q,x.Ad[i]?=some q→e=0→Dk B q.1 (1024+q.2*(BZ s:Nat)) (BZ s)=some (Gb ⟨x.id,i,x.gen,t⟩)
 oth:∀q,x.Ad[i]?=some q→∀d' s',d'≠q.1→Bp B d' s'=Bp A d' s'
theorem ZD(h:p∈Go.Lib.compact l):p∈l:=by
 obtain⟨i,hi,rfl⟩:=Aag.1 h;have g:i<l.length:=Aax.1 (Acr.1 hi).1;simp[getElem!_pos,g]
def Ov(y:Gs)(i:Nat):List (Gs×Nat):=(List.range i).map fun k=>(y,k)
def HC(Y:List Gs):List (Gs×Nat):=Y.flatMap fun y=>Ov y y.1.Ad.length
theorem XU(y:Gs)(i:Nat):Ov y (i+1)=Ov y i++[(y,i)]:=by simp[Ov,Abf]
theorem ny(y:Gs)(h:i≤n):Ov y i<+:Ov y n:=
 List.IsPrefix.map _ ⟨(List.range (n-i)).map (·+i),by
  have e:n=i+(n-i):=G
  conv=>rhs;rw[e,Agf]
  simp[Adi]⟩
theorem XV(O:k<U.length):HC (U.take (k+1))=HC (U.take k)++Ov U[k] U[k].1.Ad.length:=by
 rw[HC,pk O,Aan];simp[HC]
theorem jr(k:Nat):HC (U.take k)<+:HC U:=⟨HC (U.drop k),by rw[HC,HC,←Aan,Aas];rfl⟩
theorem nz(O:k<U.length)(hi:i<U[k].1.Ad.length):(HC (U.take k)++Ov U[k] i)++[(U[k],i)]<+:HC U:=by
 rw[oo,←XU];refine List.IsPrefix.trans ?_ (jr (k+1));rw[XV O];exact(List.prefix_append_right_inj _).2 (ny _ hi)
section
open Go.Sort
theorem eF(h:CJ w k 3 1 a l.length (l.map I))(g:l.length<4611686018427387904):
 Calls QP 178 #[a] w (Bt fun _ w'=>w.grownBy w' a.rowOf∧CJ w' k 3 1 a l.length ((l.mergeSort fun x y=>decide (x≤y)).map I)):=aZ h g
theorem ct(h:CJ w k 3 1 a l.length (l.map I))(g:l.length<4611686018427387904):
 Calls QP 179 #[a] w (Bt fun v' w'=>w.grownBy w' a.rowOf∧v'.rowOf=a.rowOf∧CJ w' k 3 1 v' (Lib.compact l).length ((Lib.compact l).map I)):=cl h g
theorem js{pj :Nat}{vG v:Value}{P:HQ}(pa:AI c w 90 k (Dq i pj a y vG P) 101)(g:BW c w i F)(a8:0<n∧n≤12)(b0:0<m∧m≤2048)(hp:GR n m F)(hc:F.BC≤1000000000)
 (f:AJ c w 97 3 1 v l.length (l.map I))(hl:l.length≤100000):
 Calls QP 106 #[P1 k,v] w (Bt fun u w'=>∃c',Mv c w c' w' (97::BX)∧∃j e,BW c' w' i j∧IK n m l.length F j∧(∀d s,Bp j d s=Bp F d s)∧((∀d∈l,BG F d=true)→e=0)∧u=I e):=by
 have hJ:=BE.start c w (97::BX);replace pa:=pa.Oc (J:=97::BX) Z;replace g:=g.Mz (K:=97::BX);replace f:=f.Dt (J:=97::BX) Z;generalize Bw c (97::BX)=c0 at hJ pa g f;refine AY 27 #[.tmp 4] func106 Z<|Q<|V Z<|Q<|M Z<|ve (Je f (Ab xB Z (eF f.own G))) ?_;rintro o w1 ⟨c1,R,r,hs⟩;have f:AJ _ _ 97 3 1 v l.length ((l.mergeSort fun x vT=>decide (x≤vT)).map I):=⟨hs,r⟩;obtain⟨o,t⟩:∃o,o=l.mergeSort fun x vT=>decide (x≤vT):=⟨_,Z⟩;have C:l.length=o.length:=by rw[t,List.length_mergeSort]
 have a7:∀d∈o,d∈l:=fun d hd=>by rw[t] at hd;exact List.mem_mergeSort.1 hd
 rw[←t] at f;replace f:=f.dz C;refine Ah<|Ag<|Q<|M Z<|ve (Je f (Ab xC Z (ct f.own G))) ?_;rintro v11 w2 ⟨c2,U,r,C,hs⟩;obtain⟨cs,t⟩:∃cs,cs=Lib.compact o:=⟨_,Z⟩;have a1:=Lib.compact_length_le o;have a6:∀d∈cs,d∈l:=fun d hd=>a7 d (ZD (by rw[←t];exact hd));rw[←t] at hs a1;replace pa:=(pa.D R).D U;have f:AJ _ _ 97 3 1 v11 cs.length (cs.map I):=⟨hs.Eu (Wm _),fun b pa=>r b (C▸pa)⟩;have o:=f.AD;have o:=f.AA;refine E (Tv BM f Z)<|M Z<|Ah<|An<|AG (σ:=Nat) (fun p=>[(0,P1 k),(11,v11),(12,I cs.length),(13,I p)]) (fun p w'=>p≤cs.length∧∃c' j,BE c w (97::BX) c' w'∧AI c' w' 0 k (Dq i pj a y vG P) 101∧AJ c' w' 97 3 1 v11 cs.length (cs.map I)∧BW c' w' i j∧IK n m p F j∧(∀d s,Bp j d s=Bp F d s)) (fun p=>cs.length-p) 0 AL ⟨Wm _,_,_,hJ.D,pa,f,g.D,IK.refl hp,fun _ _=>rfl⟩ ?_;rintro p o ⟨O,o,A1,hJ,pa,f,g,o,R⟩;refine Q<|E (AX Z Z)<|Ah<|Ag<|BA Z (fun r=>?_) fun r=>?_
 ·have t:p<cs.length:=G;have r:=f.XF t;have C:=o.pw.wf a8 G (by have:=o.Mt;omega);obtain⟨d,hd⟩:∃d,d=cs[p]:=⟨_,Z⟩;have a7:d∈l:=a6 d (by rw[hd];exact mv t);rw[←hd] at r;have t:=o.pw.flush (d:=d);refine As<|Ag<|An<|Q<|E (BS BM f Z Z G G)<|E (Cc AF Z r.DF)<|V Z ?_;refine Q<|M Z<|E (Ak Z)<|E (Aa NN Z)<|E (Al LK Z pa.AE Z)<|M Z<|ve (Ab sy Z (XE (d:=d) g C)) ?_;rintro r r ⟨r,r,⟨g,rfl⟩⟩;refine V Z<|Ag ?_;obtain⟨A2,r⟩:∃A2,A2=(Fj A1 d).1:=⟨_,Z⟩;obtain⟨e,C⟩:∃e,e=(Fj A1 d).2:=⟨_,Z⟩;rw[←r] at g;rw[←C];rw[←r,←C] at t;obtain⟨r,g2,C,U,a1⟩:=t;have t:IK n m (p+1) F A2:=⟨r,by have:=o.Mt;omega,fun p↦(C p).trans (o.liveQ p)⟩;have C:∀r s',Bp A2 r s'=Bp F r s':=fun r s'↦(a1 r s').trans (R r s');refine cg<|M Z<|E (BK Z Z)<|Ah<|BA Z (fun r=>?_) fun r=>?_
  ·refine Q<|M Z<|V Z<|Af Z Z<|⟨_,hJ.D.out,A2,e,BW.Ih g hJ.D,t.more G,C,fun h↦?_,Z⟩;have r:=h d a7;rw[←o.liveQ,BG,kg] at r;rw[U,zm r.1,zm r.2]
  refine As<|cg<|E (Bc Z Z Ai Ai)<|M Z<|Ah ?_;exact⟨p+1,AL,⟨G,_,_,hJ.D,pa.D,f.D,g,t,C⟩,G⟩
 refine Az Z<|Q<|V Z<|Af Z Z ?_;exact⟨_,hJ.out,A1,0,BW.Ih g hJ,o.more G,R,fun _↦rfl,Z⟩
end
theorem cu{A:Option Addr}:Calls QP 43 #[.slice A n k] w (Bt fun u w'=>AZ w w'∧∃b1,u= .func (.func 107) #[] #[P1 b1]∧w.heap.size≤b1∧Gt w' b1 [.slice A n k] 54):=by
 obtain⟨c,hO,hc⟩:=Ay w;refine AY 4 #[.tmp 2] func43 Z<|Q<|Mn c 101 fun w1 b1 c1 g f=>?_;refine V Z<|Q<|E (Dn Z)<|V Z<|Af Z Z ?_;replace hO:=hO.D g;have i:w.heap.size≤b1:=by
  rcases Aab b1 w.heap.size with h|h
  ·have:=hO.BF _ h;rw[f.BF] at this;cases this
  exact h
 exact⟨hO.below,_,Z,i,f.AE⟩
structure cv (d:Nat→Nat) (B:World) (b1:Nat) (v:Value) (Y:List Gs):Prop where
 b:AI d B 76 b1 [v] 54
 r:Bu DS d B [0,94] v (Y.map (·.1))
 c:Te CL d B [0,94] v 4 Y
 p:∀y∈Y,Bu Bx d B [0,94] y.2.v y.1.Ad
theorem cv.D{d f:Nat→Nat}(B:cv d h k a U)(m:Mv d h f N e:=by exact Go.Eng.KU)(hi:BB [76,0,94] e=true:=by rfl):cv f N k a U:=
 ⟨B.b.D m (BD hi Bb),B.r.D m (CC hi Bb),B.c.D m (CC hi Bb),fun y hy=>(B.p y hy).D m (CC hi Bb)⟩
def vJ(q:Gs×Nat):List Value:=[.agg (CL q.1).toArray,I q.2]
theorem XW{w0:World}{c0:Nat→Nat}{b1:Nat}{v:Value}{Y:List Gs}(f:cv c0 w0 b1 v Y)(hl:Y.length≤100000)(e1:∀y∈Y,y.1.Ad.length≤100000):
 LH QP 107 [P1 b1] vJ [128] [76,0,94] (HC Y) c0 w0:=by
 intro l J e5 c1 W K U hK C e8 hy c2;have c5:∀i∈[76,0,94],AU K i=false:=fun i hi=>BD hK (by simp only[Aak,Acx,Ae3] at hi;simp[hi]);replace f:=f.D U (CC hK Bb);have hJ:JC (J []) [128] c1 W:=⟨c2,fun _ _ _ _ h m=>C _ _ _ _ _ h m⟩;have e9:=f.r.AB.AD;have e3:=f.r.AB.small;rw[kr] at e3;clear U c5 hK;show Calls _ _ [_,_].toArray _ _
 obtain⟨g,j,rfl,_⟩:=f.r.AB.form;rw[kr] at*;obtain⟨v,hv⟩:∃v,v=Value.slice g Y.length j:=⟨_,Z⟩;have h0:v.oneCell'=true:=by rw[hv];rfl
 obtain⟨a6,t,c9,hp⟩:=id f;refine AY 25 #[] func107 Z<|Xi<|Ag<|WU<|Q<|E (Al Ei Z a6.AE Z)<|E (BN Di) ?_;refine M Z<|Ah<|An<|AG (σ:=Nat) (fun k=>[(0, .func (.yield l) #[] #[]),(1,P1 b1),(6, .slice g Y.length j),(7,I Y.length),(8,I k)]) (fun k w'=>k≤Y.length∧∃c',cv c' w' b1 (.slice g Y.length j) Y∧JC (J (HC (Y.take k))) [128] c' w') (fun k=>Y.length-k) 0 AL ⟨Wm _,_,f,hJ⟩ ?_;clear hJ f a6 t c9 hp;rintro k h2 ⟨O,b7,f,hJ⟩;refine Q<|E (AX Z Z)<|Ah<|Ag<|BA Z (fun c7=>?_) fun c7=>?_
 ·have o:k<Y.length:=G;have t:=f.r;have a7:=f.c.el k o;have a8:=f.p _ (mv o);have e2:=e1 _ (mv o);obtain⟨y,p⟩:∃y,y=Y[k]:=⟨_,Z⟩;rw[←p] at a7 a8 e2;have h1:=y.2.one;refine As<|Ag<|An<|Q<|E (BJ Di t.AB Z Z Z G (by rw[kr];omega))<|E (DT Cn Z a7.DF Z) ?_;refine EK b7 128 HF fun w1 b4 c1 c3 Bd=>Av (Am Cn Z Z Bd Z Z Bg) ?_;rintro _ w2 ⟨Bd,c4⟩;refine Ah<|Q<|E (Aa Cl Z)<|E (Al CH Z Bd.AE Z)<|E (BN DL) ?_;refine M Z<|Ah<|An<|AG (σ:=Nat) (fun i=>[(0, .func (.yield l) #[] #[]),(1,P1 b1),(6, .slice g Y.length j),(7,I Y.length),(8,I k),(4,P1 b4),(14,I y.1.Ad.length),(15,I i)]) (fun i w'=>i≤y.1.Ad.length∧∃c',cv c' w' b1 (.slice g Y.length j) Y∧AI c' w' 128 b4 (CL y) 115∧JC (J (HC (Y.take k)++Ov y i)) [128] c' w') (fun i=>y.1.Ad.length-i) 0 AL ⟨Wm _,_,f.D,Bd,by simpa[Ov] using((hJ.D c3).D c4)⟩ ?_;clear hJ f Bd a8;rintro i h3 ⟨hi,e7,f,Bd,hJ⟩;refine Q<|E (AX Z Z)<|Ah<|Ag<|BA Z (fun c8=>?_) fun c8=>?_
  ·have e0:i<y.1.Ad.length:=G;refine As<|Ag<|An<|Q<|M Z<|V Z<|Q<|M Z<|E (Ba Cn Z Bd.AE Z)<|M Z ?_;have b0:=nz o (i:=i) (by rw[←p];exact e0);rw[←p] at b0;obtain⟨e6,R,b2⟩:=hy _ _ _ _ hJ.AB b0;refine ve (FQ Z Z b2) ?_;rintro _ e4 ⟨b,b6,rfl,a1,b5,b3⟩;replace f:=f.D a1 (CC R Bb);replace Bd:=Bd.D a1 (BD R Bb);clear hJ b2;refine E (BL Z)<|Ah<|BA Z (fun r=>?_) fun r=>?_
   ·refine Az Z<|⟨_,_,Z,Z,?_⟩;exact⟨Z,_, .inr ⟨_,b3 (by simpa using r)⟩⟩
   have hJ:JC (J (HC (Y.take k)++Ov y (i+1))) [128] b6 e4:=⟨by rw[XU,←oo];exact b5 (by simpa using r),fun _ _ _ _ h m=>C _ _ _ _ _ h m⟩;clear b5 b3;refine As<|cg<|E (Bc Z Z Ai Ai)<|M Z<|Ah ?_;exact⟨i+1,AL,⟨G,_,f,Bd,hJ⟩,G⟩
  have b8:i=y.1.Ad.length:=G;subst b8;have c6:HC (Y.take k)++Ov y y.1.Ad.length=HC (Y.take (k+1)):=by rw[XV o,p]
  rw[c6] at hJ;refine Az Z<|cg<|E (Bc Z Z Ai Ai)<|M Z<|Ah ?_;exact⟨k+1,AL,⟨G,_,f,hJ⟩,G⟩
 have b9:k=Y.length:=G;subst b9;rw[Abi] at hJ;refine Az Z<|⟨_,_,Z,Z,?_⟩;exact⟨Z,_, .inl hJ.AB⟩
theorem Np{A B:CS}{d f:Int}(h:∀s,Bp B d s=Bp A d s):∀k,Dk B d f k=Dk A d f k
 |0=>rfl
 |k+1=>by rw[Dk,Dk,Np h k,h]
def Jm(q:Gs×Nat):Int×Int:=(q.1.1.Ad[q.2]?).getD (0,0)
def Vx(m:Nat)(s:CO)(A:CS)(q:Gs×Nat):Prop:=BG A (Jm q).1=true∧1024+((Jm q).2+1)*(BZ s:Nat)≤m
def Ow(s:CO)(T:Gs×Nat→Tx)(A:CS)(q:Gs×Nat):Prop:=Dk A (Jm q).1 (1024+(Jm q).2*(BZ s:Nat)) (BZ s)=some (Gb ⟨q.1.1.id,q.2,q.1.1.gen,T q⟩)
structure qU (s:CO) (T:Gs×Nat→Tx) (q:Gs×Nat):Prop where
 lt:q.2<q.1.1.Ad.length
 slot:∀r∈q.1.1.Ad,(-1≤r.1∧r.1<12)∧0≤r.2∧r.2<64
 may:Nb ⟨q.1.1.id,q.2,q.1.1.gen,T q⟩=true
 len:(T q).length=s.size
def WrX(m:Nat)(s:CO)(T:Gs×Nat→Tx)(A B:CS)(L pre:List (Gs×Nat)):Prop:=(∀q∈L,Vx m s A q)→(L.map fun q=>(Jm q).1).Nodup→∀q∈pre,Ow s T B q
theorem LH.D{F:List Nat}{c:Nat→Nat}{w:World}{I:List Nat}(h:LH H S b encs e F t c w)(m:Mv c w c' w' I:=by exact Go.Eng.KU)(hi:BB (e++F) I=true:=by rfl):LH H S b encs e F t c' w':=fun l J i c1 W K p hK=>by
 refine h l J i c1 W (I++K) (Mv.tr (m.more ?_) p ?_) ?_
 ·rw[Aae];intro k O;simp only[AU,Aek,Aa3];exact .inl (Aa8.2 ⟨k,O,by simp⟩)
 ·rw[Aae];intro k O;simp only[AU,Aek,Aa3];exact .inr (Aa8.2 ⟨k,O,by simp⟩)
 rw[BB,Aae] at*;intro k O;have j:=hi k O;have o:=hK k O;simp only[AU,Aek,Aa9,Aa1] at*;exact⟨j,o⟩
theorem BE.nA{c:Nat→Nat}{w:World}(w0:BE j h e c w):Mv (Bw j e) h c w e:=⟨w0.os,w0.tape,w0.output,w0.size,w0.BF,fun k O f=>w0.block k O (by
 cases hc:AU e (j k) with
 |false=>rfl
 |true=>rw[KN hc,hc] at f;cases f)⟩
theorem DM.out{c:Nat→Nat}{w:World}{vG:Value}{P:HQ}(w0:DM c w k m n a y vG P)(hJ:BE j h e c w)(hi:DA.all (fun i=>Nat.blt 0 i&&AU e i)=true:=by rfl):DM (back j h c) w k m n a y vG P:=by
 have O:∀i∈DA,(Nat.blt 0 i&&AU e i)=true:=fun i hx=>Aae.1 hi i hx;have f:∀l:List Nat,(∀i∈l,i∈DA)→l.all (AU e)=true:=fun l hl=>Aae.2 fun i hx=>by
  have:=O i (hl i hx);rw[kg] at this;exact this.2
 exact⟨w0.AE.out hJ (O 90 Bb),BW.Ih w0.arr hJ (f _ Bb),Dz.uI w0.kP hJ (f _ Bb),⟨w0.bk.s.WH hJ (O 94 Bb),w0.bk.t.WH hJ (O 94 Bb),w0.bk.g.WH hJ (O 94 Bb)⟩⟩
abbrev Hg:List Nat:=76::DA
structure WrI (c0:Nat→Nat) (w0:World) (d:Nat→Nat) (B:World) (b3 b5 b6 b7 p pa pj n m:Nat) (vS vT vG fv:Value) (P:HQ) (T:Gs×Nat→Tx) (L pre:List (Gs×Nat)):Prop where
 old:BE c0 w0 Hg d B
 b3:AI d B 103 b3 [P1 p] 34
 b5:AI d B 105 b5 [fv] 116
 b6:AI d B 106 b6 [I 0] 44
 a:∃A,DM d B p pa pj vS vT vG {P with A:=A}∧IK n m (3*pre.length) P.A A∧WrX m P.s T P.A A L pre
 v:∃vdd,AI d B 107 b7 [vdd] 23∧AJ d B 97 3 1 vdd pre.length ((pre.map fun q=>(Jm q).1).map I)
theorem Vy{α:Type}(p:α→Bool):∀(l:List α) (a:α) (r:List α),l.drop (Ej p l)=a::r→p a=false
 |[],a,r,h=>by simp[Ej] at h
 |b::l,a,r,h=>by
  cases f:p b with
  |true=>
   have e:Ej p (b::l)=Ej p l+1:=by simp[Ej,Adh,f]
   rw[e,Agm] at h;exact Vy p l a r h
  |false=>
   have e:Ej p (b::l)=0:=by simp[Ej,Adh,f]
   rw[e,Adl] at h;injection h with g _;rw[←g];exact f
theorem Su{α:Type}(p:α→Bool):∀(l:List α) (y:α),y∈l.take (Ej p l)→p y=true
 |[],y,h=>by simp at h
 |b::l,y,h=>by
  cases f:p b with
  |true=>
   have e:Ej p (b::l)=Ej p l+1:=by simp[Ej,Adh,f]
   rw[e,Afh] at h;rcases Aak.1 h with rfl|h
   ·exact f
   ·exact Su p l y h
  |false=>
   have e:Ej p (b::l)=0:=by simp[Ej,Adh,f]
   rw[e] at h;simp at h
theorem XX{lt:α→α→Prop}{p q:α→Bool}{x:α}(h:∀i j (hi:i<t.length) (J:j<t.length),i<j→lt t[i] t[j])
 (hp:∀y,p y=true→lt y x)(R:∀y,p y=false→q y=false→lt x y)(U:∀y z,q y=true→lt y z→lt x z)(tr:∀y z,lt x y→lt y z→lt x z)(hf:∀k,t.findIdx? q=some k→Ej p t=k):
 ∀i j (hi:i<(IJ t (Ej p t) (t.findIdx? q).isSome x).length) (J:j<(IJ t (Ej p t) (t.findIdx? q).isSome x).length),i<j→lt (IJ t (Ej p t) (t.findIdx? q).isSome x)[i] (IJ t (Ej p t) (t.findIdx? q).isSome x)[j]:=by
 rw[←Aal] at h⊢;have ht:(t.take (Ej p t)).Pairwise lt:=h.sublist (Aev _ _);cases o:t.findIdx? q with
 |none=>
  have l:∀y∈t,q y=false:=by simpa using Abq.1 o
  show(t.take (Ej p t)++x::t.drop (Ej p t)).Pairwise lt
  have hx:∀z∈t.drop (Ej p t),lt x z:=by
   cases hd:t.drop (Ej p t) with
   |nil=>intro z f;simp at f
   |cons a r=>
    have g:lt x a:=R a (Vy p t a r hd) (l a (Acy (by rw[hd];exact Aau)));have l:(a::r).Pairwise lt:=hd▸h.sublist (List.drop_sublist _ _);intro z f;rcases Aak.1 f with rfl|f
    ·exact g
    exact tr a z g ((Abg.1 l).1 z f)
  refine Abp.2 ⟨ht,Abg.2 ⟨hx,h.sublist (List.drop_sublist _ _)⟩,fun y hy z f=>?_⟩;rcases Aak.1 f with rfl|f
  ·exact hp y (Su p t y hy)
  have g:(t.take (Ej p t)++t.drop (Ej p t)).Pairwise lt:=by rw[Aas];exact h
  exact(Abp.1 g).2.2 y hy z f
 |some k=>
  have O:=hf k o;obtain⟨l,a1,_⟩:=WM.1 o;show(t.set (Ej p t) x).Pairwise lt
  rw[O,Acg,zm l];have g:(t.take k++t[k]::t.drop (k+1)).Pairwise lt:=by rw[←Aav l,Aas];exact h
  obtain⟨o,l,C⟩:=Abp.1 g;obtain⟨g,I⟩:=Abg.1 l;refine Abp.2 ⟨o,Abg.2 ⟨fun z f=>U _ z a1 (g z f),I⟩,fun y hy z f=>?_⟩;rcases Aak.1 f with rfl|f
  ·exact hp y (Su p t y (by rw[O];exact hy))
  exact C y hy z (Aaw _ f)
theorem nB{b:Bk}{x:CV}(h:Ic b.Ae):Ic (jm b x).Ae:=
 XX (lt:=fun a b:CV=>a.id<b.id) (p:=fun t=>decide (t.id<x.id)) (q:=fun t=>decide (t.id=x.id)) h (fun y hy=>by simpa using hy) (fun y f g=>by simp at f g;show x.id<y.id;omega) (fun y z f g=>by simp at f;show x.id<z.id;rw[←f];exact g) (fun y z f g=>Int.lt_trans f g) (fun k O=>Iw h O)
theorem cw{b:Bk}{e:KA}(h:KH b.AQ):KH (pp b e).AQ:=
 XX (lt:=fun a b:KA=>Op.bytesLess a.AK b.AK=true) (p:=fun t=>Op.bytesLess t.AK e.AK) (q:=fun t=>t.AK==e.AK) h (fun y hy=>hy) (fun y f g=>PP _ _ f (by simpa using g)) (fun y z f g=>by
  have i:y.AK=e.AK:=by simpa using f
  show Op.bytesLess e.AK z.AK=true
  rw[←i];exact g) (fun y z f g=>JE _ _ _ f g) (fun k O=>OU h O)
inductive Nt where
 |RE (x:CV)
 |TH (d:Tx) (n:Int) (l:List Int)
def Fv:Nt→Rec
 | .RE x=>TF x
 | .TH d n l=>Mu d n l
def jt(b:Bk):Nt→Bk
 | .RE x=>jm b x
 | .TH d n l=>pp b ⟨d,n,false,l⟩
def ZE:Nt→Prop
 | .RE x=>(0≤x.id∧x.id≤1073741824)∧x.Ad.length≤1000
 | .TH d n l=>Go.Eng.Int64 n∧d.length≤140737488355328∧l.length≤100000
theorem nC{b:Bk}{r:Nt}(h:Ic b.Ae)(f:KH b.AQ):Ic (jt b r).Ae∧KH (jt b r).AQ:=by
 cases r with
 |RE x=>exact⟨nB h,f⟩
 |TH d n l=>exact⟨h,cw f⟩
theorem qV(b:Bk)(r:Nt):(jt b r).Ae.length≤b.Ae.length+1∧(jt b r).AQ.length≤b.AQ.length+1∧(jt b r).De=b.De:=by
 cases r with
 |RE x=>exact⟨ck _ _ _ _,Ae6 _,Z⟩
 |TH d n l=>exact⟨Ae6 _,ck _ _ _ _,Z⟩
theorem qW{vG:Value}{b:Bk}{YT:List Vm}{r:Nt}(a6:AI c w 120 k [a,y,vG,I b.next] 58)(a1:ND c w a y vG b U YT)(b0:Ic b.Ae)(b1:KH b.AQ)(hl:b.Ae.length≤900∧b.AQ.length≤900)
 (h:EA (fun w'=>FG.rd w'.heap.size w' cs (Fv r)) c w e)(hK:BB e RB=true)(g:ZE r):
 Calls QP 35 #[P1 k, .agg cs.toArray] w (Bt fun v w'=>∃c',Mv c w c' w' RB∧v=I 0∧∃i j o t,AI c' w' 120 k [i,j,vG,I (jt b r).next] 58∧ND c' w' i j vG (jt b r) o t):=by
 obtain⟨vl,vs,rfl,_⟩:=h.AB;have a7:Bu Cg c w e vl (Fv r).list:=HM.imp h fun w' _ ⟨C,J,K,f,_⟩=>by
  simp only[Ac8,Ae4] at K;rw[K.2.2.2.2.1];exact f
 have a8:Bu Bx c w e vs (Fv r).Bo:=HM.imp h fun w' _ ⟨C,J,K,_,f,_⟩=>by
  simp only[Ac8,Ae4] at K;rw[K.2.2.2.2.2];exact f
 cases r with
 |RE x=>
  refine(qO (x:=x) a6 a1 b0 hl.1 a7 a8 hK g.1 g.2).mono fun K w' ⟨v,YS,c',R,f,i,o,C,J⟩=>?_;exact⟨v,YS,c',R,f,i,y,o,YT,C,J⟩
 |TH d n l=>
  refine(qP (d:=d) (n:=n) (l:=l) a6 a1 b1 hl.2 a7 a8.AB.AD hK g.1 g.2.1 g.2.2).mono fun K w' ⟨v,YS,c',R,f,j,t,C,J⟩=>?_;exact⟨v,YS,c',R,f,a,j,U,t,C,J⟩
theorem ju{s:CO}{id:Int}{r:List Int}{x:CV}(f:Ib C id=some i)(g:C[i]?=some x)(j:x.len=min p (s.k*s.size:Nat)):Fc s C p (id::r)=Fc s C (p-x.len) r:=by
 rw[Fc,f];dsimp only;rw[g];dsimp only;rw[if_pos j]
theorem qX{id:Int}{r:List Int}{x:CV}(f:Ib C id=some i)(g:C[i]?=some x)(j:¬x.len=min p (z.k*z.size:Nat)):Fc z C p (id::r)=false:=by
 rw[Fc,f];dsimp only;rw[g];dsimp only;rw[if_neg j]
theorem jv{id:Int}{r:List Int}(f:Ib C id=none):Fc z C p (id::r)=false:=by
 rw[Fc,f]
def eG(l:List KA):Nat→Option Tx
 |0=>none
 |i+1=>l[i]?.map (·.AK)
def zc(s:CO)(L:List CV)(o:Option Tx)(x:KA):Bool:=decide (x.AK.length=32)&&(match o with|none=>true|some y=>Op.bytesLess y x.AK)&&decide (0≤x.len)&&decide (x.len≤2000)&&decide (x.list.length=BI s x.len.toNat)&&Fc s L x.len x.list
theorem nD{o:Option Tx}{x:KA}{r:List KA}:Ln z C o l (x::r)=(zc z C o x&&(Lm l x.list&&Ln z C (some x.AK) (x.list.reverse++l) r)):=by
 rw[Ln.eq_def];rfl
section
open Go.Maps
theorem nE{s:CO}{vG p:Value}{n:Int}{x:KA}(hs:s.ok)(J:Rd DS w a C)(b2:y.oneCell'=true)(b6:vG.oneCell'=true)(a6:Ic C)(hu:Rd Cg w p x.list)(hx:0≤x.len∧x.len≤2000):
 Calls QP 166 #[.agg (DB s).toArray, .agg #[a,y,vG,I n], .agg #[St x.AK,I x.len, .bool x.ur,p]] w (Bt fun v w'=>AZ w w'∧v= .bool (Fc s C x.len x.list)):=by
 have f:=hu.small;have U:=J.AD;have f:=hu.AD;obtain⟨f,g,g,g,j⟩:=id hs;obtain⟨P,l⟩:∃P,P=s.k*s.size:=⟨_,Z⟩;have j:1≤P:=by rw[l];exact WO f g
 have f:P≤8*200:=by rw[l];exact WO G G
 have R:(s.k:Int)*(s.size:Int)=(P:Nat):=by rw[l];simp
 obtain⟨c,hO,f⟩:=Ay w;have g:Bu DS c w [0] a C:=Rd.Du J (fun k O=>by simp[f,AU]);have o:Bu Cg c w [0] p x.list:=Rd.Du hu (fun k O=>by simp[f,AU]);refine AY 56 #[.tmp 6] func166 Z<|Q<|Fa c 103 fun w1 b3 c1 f AR=>?_;refine Fa c1 104 fun w2 b4 c2 f Bd=>?_;refine Fa c2 105 fun f b5 f f Bv=>?_;refine V Z<|Q<|E (Aa Ld Z)<|E (Al AF Z Bv.AE Z)<|V Z<|Ag<|Q<|E (Aa Hv Z)<|E (Al BQ Z Bv.AE Z)<|E (BN BM) ?_;refine M Z<|Ah<|An<|AG (σ:=Nat×Int) (fun f=>[(3,P1 b3),(4,P1 b4),(7,I f.2),(15,p),(16,I x.list.length),(17,I f.1)]) (fun f w'=>(f.1≤x.list.length∧(0≤f.2∧f.2≤2000)∧Fc s C f.2 (x.list.drop f.1)=Fc s C x.len x.list)∧∃c',CD w c' w'∧Bu DS c' w' [0] a C∧Bu Cg c' w' [0] p x.list∧AI c' w' 103 b3 (DB s) 29∧AI c' w' 104 b4 [a,y,vG,I n] 58) (fun f=>x.list.length-f.1) (0,x.len) AL ⟨⟨Nat.zero_le _,hx,Z⟩,_,hO.D,g.D,o.D,AR.D,Bd.D⟩ ?_;rintro⟨i,left⟩ f ⟨⟨hi,f,hF⟩,t,hO,g,o,AR,Bd⟩;dsimp only at hi f hF;refine Q<|E (AX Z Z)<|Ah<|Ag<|BA Z (fun f=>?_) fun f=>?_
 ·have j:i<x.list.length:=G;obtain⟨f,L⟩:=Co o j AO;obtain⟨id,hid⟩:∃id,id=x.list[i]:=⟨_,Z⟩;rw[←hid] at f L;rw[Aav j,←hid] at hF;refine As<|Ag<|An<|Q<|E (Cv BM) ?_;refine E (Cc AF Z f.DF)<|V Z<|Q<|E (Ba Fy Z Bd.AE Z)<|M Z<|ve (Ac t 1 (Ab ls Z (Lq (n:=n) (d:=id) g.AB U b2 b6 a6))) ?_;rintro f f ⟨j,a1,f,rfl⟩;obtain⟨le,f⟩:∃le,le=Pw C id:=⟨_,Z⟩;rw[←f];have a8:=fun(h:le<C.length)↦GK (g.D a1) h;have U:∀k,Ib C id=some k→le=k∧k<C.length:=fun k O↦⟨by rw[f];exact Iw a6 O,(WM.1 O).1⟩;refine M Z<|E (Aq Z Z)<|E (Aq Z Z)<|za Z<|V Z<|Ag<|Ag<|AM j [] [0,0,0,0,1,0,0,0,1,0,0,1,0,1,0,0,0,0] [0,1,2,3,4,5,6,7,8,9,10,11,12,13,14,15,16,17] fun f a7 f=>?_;refine Bm Z Z<|AN Z (BL Z)<|Bm Z Z ?_;apply JV false 14 (!decide (((C[le]?).map (·.len)).getD 0=min left (P:Nat))) f.kp Mq
  ·intro j;obtain⟨k,O⟩:=Ach.1 (show(Ib C id).isSome=true by simpa using j);obtain⟨t,L⟩:=U k O;have j:le<C.length:=G;have b0:=dd j;obtain⟨b7,b1,_⟩:=a8 j;refine AN Z (Aa CA Z)<|vc Z f.kp (Bd.D.kb Ei Z Z)<|Bm Z Z<|AN Z (Ky Di g.D Z Z G G) ?_;rw[TJ]
   first|refine AN Z (Aa HW Z) ?_|refine AN Z (Bn HW Z) ?_
   refine vc Z f.kp (fun W a8=>Cc AF Z ((b1.zB (i:=1) Z).kp a8 Z).DF)<|Bm Z Z<|AN Z (Aa CN Z)<|vc Z f.kp (AR.D.kb AF Z Z)<|AN Z (Aa DO Z)<|vc Z f.kp (AR.D.kb AF Z Z)<|AN Z (HK Z Z (by rw[R];omega) (by rw[R];omega)) ?_;rw[R];refine AN Z (qz Z Z)<|AN Z (BK Z Z) ?_;exact po 14 ((by rw[b0];rfl))
  refine AP ?_;refine BA Z (fun f=>?_) fun f=>?_
  ·have e:Fc s C x.len x.list=false:=by
    rw[←hF];cases O:Ib C id with
    |none=>exact jv O
    |some k=>
     obtain⟨t,L⟩:=U k O;subst t;refine qX O (dd L) fun h↦?_;rw[←l] at h;rw[O,dd L] at f;simp[h] at f
   refine Q<|V Z<|Af Z Z ?_;exact⟨hO.D.below,by rw[e]⟩
  obtain⟨k,O⟩:=Ach.1 f.1;obtain⟨t,L⟩:=U k O;have j:le<C.length:=G;have L:C[le].len=min left (P:Nat):=by
   have:=f.2;rw[dd j] at this;exact this
  have f:=ju (s:=s) (r:=x.list.drop (i+1)) (by rw[t];exact O) (List.getElem?_eq_getElem j) (by rw[←l];exact L);rw[hF] at f;obtain⟨b7,l,_⟩:=GK ((g.D a1).D a7) j;refine As<|cg<|M Z<|E (Aa CA Z)<|E (Al Ei Z Bd.D.AE Z)<|M Z<|E (Cv Di) ?_;refine E (Bn HW Z)<|E (FF AF Z l.DF Z)<|E (Gu Z Z Ai Ai)<|V Z<|cg<|E (Bc Z Z Ai Ai)<|M Z<|Ah ?_;exact⟨(i+1,left-C[le].len),AL,⟨⟨by dsimp only;omega,by dsimp only;omega,f.symm⟩,_,hO.D,g.D,o.D,AR.D,Bd.D⟩,by show x.list.length-(i+1)<x.list.length-i;omega⟩
 rw[Abn G,Fc] at hF;refine Az Z<|Q<|M Z<|E (BO Z Z)<|V Z<|Af Z Z ?_;exact⟨hO.below,by rw[←hF]⟩
theorem nF(h:z.ok)(g:0≤p∧p≤2000):Calls QP 40 #[.agg (DB z).toArray,I p] w (Bt fun v w'=>AZ w w'∧v=I (BI z p.toNat:Nat)):=by
 have f:=Zx (w:=w) h (n:=p.toNat) G;rw[Int.toNat_of_nonneg g.1] at f;exact f
theorem eH{vG:Value}{f:List KA}(hs:z.ok)(a6:Rd DS w a C)(t:Rd Ie w y f)(c4:vG.oneCell'=true)(c3:Ic C):
 Calls QP 92 #[.agg (DB z).toArray, .agg #[a,y,vG,I p]] w (Bt fun v w'=>AZ w w'∧v= .bool (Ln z C none [] f&&decide (f.length≤60))):=by
 have g:=t.small;have g:=a6.AD;have b5:=t.AD;obtain⟨g,l,l,l,o⟩:=id hs;obtain⟨P,b0⟩:∃P,P=z.k*z.size:=⟨_,Z⟩;have o:1≤P:=by rw[b0];exact WO g l
 have g:P≤8*200:=by rw[b0];exact WO G G
 obtain⟨c,hO,g⟩:=Ay w;have R:Bu DS c w [0] a C:=Rd.Du a6 (fun k O=>by simp[g,AU]);have r:Bu Ie c w [0] y f:=Rd.Du t (fun k O=>by simp[g,AU]);refine AY 84 #[.tmp 4] func92 Z<|Q<|Fa c 102 fun w1 b2 c1 g L=>?_;refine Fa c1 103 fun w2 b3 c2 g AR=>?_;refine V Z<|Q<|ve ((Rx c2 77 (fun p:Int↦I p))) ?_;rintro v10 g ⟨g,g,⟨a7,rfl,o⟩⟩;refine V Z<|Ag<|Q<|E (Aa Ev Z)<|E (Al HI Z AR.D.AE Z)<|E (BN Ge) ?_;refine M Z<|Ah<|An<|AG (σ:=Nat×List Int) (fun l=>[(2,P1 b2),(3,P1 b3),(5, .map (some a7)),(12,y),(13,I f.length),(14,I l.1)]) (fun l w'=>(l.1≤f.length∧Ln z C (eG f l.1) l.2 (f.drop l.1)=Ln z C none [] f∧∀n∈l.2,Go.Eng.Int64 n)∧∃c',CD w c' w'∧Bu DS c' w' [0] a C∧Bu Ie c' w' [0] y f∧AI c' w' 102 b2 (DB z) 29∧AI c' w' 103 b3 [a,y,vG,I p] 58∧PZ (fun p:Int↦I p) c' w' 77 a7 l.2) (fun l=>f.length-l.1) (0,[]) AL ⟨⟨Nat.zero_le _,Z,fun n hp=>by simp at hp⟩,_,hO.D,R.D,r.D,L.D,AR.D,o⟩ ?_;rintro⟨i,T⟩ g ⟨⟨hi,hF,b9⟩,J,hO,R,r,L,AR,o⟩;dsimp only at hi hF b9 o;refine Q<|E (AX Z Z)<|Ah<|Ag<|BA Z (fun g=>?_) fun g=>?_
 ·have b1:i<f.length:=G;obtain⟨x,hx⟩:∃x,x=f[i]:=⟨_,Z⟩;obtain⟨u,g,a1,U,a8⟩:=PS r b1;rw[←hx] at g a1 U a8;have U:=a1.AB.AD;rw[Aav b1,←hx,nD] at hF;refine As<|Ag<|An<|Q<|M Z<|E (Cv Ge) ?_;refine E (DT Mc Z g.DF Z)<|EK J 107 fZ fun g b7 a8 g J=>?_;refine za Z<|Av (Am Mc Z Z J Z Z Bg) ?_;rintro _ U ⟨J,b4⟩;refine Ah<|Ag<|Ag ?_;have c0:=fun(U:0<i)↦PS ((r.D g).D b4) (k:=i-1) G;have g:∀U:0<i,eG f i=some (f[i-1]'(by omega)).AK:=fun U↦by
   obtain⟨j,rfl⟩:∃j,i=j+1:=⟨i-1,G⟩;rw[eG,dd G];rfl
  have b8:(match eG f i with|none=>true|some vT=>Op.bytesLess vT x.AK)= !(decide (0<(i:Int))&&(Op.bytesLess x.AK (((f[i-1]?).map (·.AK)).getD [])||x.AK==(((f[i-1]?).map (·.AK)).getD []))):=by
   rcases Aa6 i with U|U
   ·subst U;rfl
   rw[g U,dd (show i-1<f.length by omega),Aby (show(0:Int)<(i:Int) by omega),Agv];exact mm _ _
  refine AM a8 [] [0,1,0,0,0,0,0,0,0,1,0,1,0,0,0,0,1,0,0,0,0,0,1,0,0,0,0,1,0,0,0,0,1,0,1,0,1,2,0,0,0,1,1,1,2,0,0] [0,1,2,3,4,5,6,7,8,9,10,11,12,13,14,15,16,17,18,19,20,21,22,23,24,25,26,27,28,29,30,31,32,33,34,35,36,37,38,39,40,41,42,43,44,45,46] fun g g g=>AN Z (Aa Kd Z)<|vc Z g.kp (J.D.kb CQ Z Z)<|AN Z (Ey underlying9 Z)<|AN Z (BK Z Z)<|Bm Z Z ?_;apply JV false 14 _ g.kp Mq
  ·intro b4;refine Bm Z Z<|AN Z (CM Z Z)<|Bm Z Z ?_;apply JV true 10 (Op.bytesLess x.AK (((f[i-1]?).map (·.AK)).getD [])||x.AK==(((f[i-1]?).map (·.AK)).getD [])) g.kp Mq
   ·intro b4;have U:0<i:=G;obtain⟨b4,b4,_⟩:=c0 U;refine AN Z (Aa Kd Z)<|vc Z g.kp (J.D.kb CQ Z Z)<|AN Z (Aa Ev Z)<|vc Z g.kp (AR.D.kb HI Z Z)<|Bm Z Z<|AN Z (Gu Z Z Ai Ai)<|AN Z (Ky Ge r.D Z Z G G) ?_;rw[show((i:Int)-1).toNat=i-1 by omega]
    first|refine AN Z (Aa Kd Z) ?_|refine AN Z (Bn Kd Z) ?_
    refine vc Z g.kp (fun W U=>Cc CQ Z ((b4.zB (i:=0) Z).kp U Z).DF)<|AN Z (zG Z Z) ?_;exact po 10 ((by rw[dd (show i-1<f.length by omega)];rfl))
   exact po 4
  refine Bm Z Z ?_;apply JV false 3 _ g.kp Mq
  ·intro U;refine AN Z (Aa Ld Z)<|vc Z g.kp (J.D.kb AF Z Z)<|AN Z (AX Z Z) ?_;exact po 3
  refine Bm Z Z ?_;apply JV false 3 _ g.kp Mq
  ·intro U;refine AN Z (Aa Ld Z)<|vc Z g.kp (J.D.kb AF Z Z)<|AN Z (CM Z Z) ?_;exact po 3
  refine Bm Z Z ?_;apply Dc a8 false 8 _ g.kp Mq
  ·intro U b4;have U:0≤x.len∧x.len≤2000:=G;refine AN Z (Aa Hv Z)<|vc Z g.kp (J.D.kb BQ Z Z)<|AN Z (BN BM) ?_;refine vc Z g.kp (L.D.kn CP Z Z)<|AN Z (Aa Ld Z)<|vc Z g.kp (J.D.kb AF Z Z)<|Db Z (Ac a8 1 (Ab tV Z (nF hs U))) ?_;rintro a8 a8 ⟨a8,a8,b6,rfl⟩;refine g.Bl a8 fun g=>AN Z (BK Z Z) ?_;exact Dd 8 b4.D
  intro a8 a8 b4;refine Bm Z Z ?_;replace g:=g.tr b4 Z;apply Dc a8 false 5 _ g.kp Mq
  ·intro b4 b4;have U:0≤x.len∧x.len≤2000:=G;refine vc Z g.kp (L.D.kn CP Z Z)<|vc Z g.kp (AR.D.kn Fy Z Z)<|vc Z g.kp (J.D.kn Mc Z Z)<|Db Z (Ac a8 1 (Ab xw Z (nE hs R.D.AB b5 c4 c3 a1.D.AB U))) ?_;rintro U U ⟨U,U,a8,rfl⟩;refine g.Bl U fun g=>AN Z (BL Z) ?_;exact Dd 5 b4.D
  intro U U U;refine AP ?_;refine BA Z (fun g=>?_) fun g=>?_
  ·have ht:zc z C (eG f i) x=false:=by
    rw[Bool.eq_false_iff];intro h;unfold zc at h;rw[b8] at h;simp only[kg,pn,Aa9] at h;obtain⟨⟨⟨⟨⟨a8,g2⟩,b4⟩,b5⟩,b6⟩,U⟩:=h;rw[U] at g;rcases g with((((h|h)|h)|h)|h)|h
    ·omega
    ·obtain⟨a6,t⟩:=h;rw[Aby a6,Agv,Aa1] at g2;rcases t with t|t
     ·rw[t] at g2;cases g2.1
     simp[t] at g2
    ·omega
    ·omega
    ·omega
    cases h
   rw[ht,Bool.false_and] at hF;refine Q<|V Z<|Af Z Z ?_;exact⟨hO.D.below,by rw[←hF];rfl⟩
  have ht:zc z C (eG f i) x=true:=by
   obtain⟨⟨⟨⟨⟨a8,g2⟩,b4⟩,b5⟩,b6⟩,U⟩:=g;unfold zc;rw[b8,g2,U,Aby (show x.AK.length=32 by omega),Aby (show 0≤x.len by omega),Aby (show x.len≤2000 by omega),Aby (show x.list.length=BI z x.len.toNat by omega)];rfl
  rw[ht,Agv] at hF;have b8:x.list.length≤10000:=by
   obtain⟨⟨⟨⟨⟨a8,g2⟩,b4⟩,b5⟩,b6⟩,U⟩:=g;have g:x.list.length=BI z x.len.toNat:=G;rw[g,BI,←b0];have:=Afb (x.len.toNat+P-1) P;omega
  refine As<|Q<|E (Aa Hv Z)<|E (Al BQ Z J.D.AE Z)<|E (BN BM) ?_;refine M Z<|Ah<|An<|AG (σ:=Nat×List Int) (fun l=>[(2,P1 b2),(3,P1 b3),(5, .map (some a7)),(12,y),(13,I f.length),(14,I i),(7,P1 b7),(67,u),(68,I x.list.length),(69,I l.1)]) (fun l w'=>(l.1≤x.list.length∧Lm l.2 (x.list.drop l.1)=Lm T x.list∧l.2=(x.list.take l.1).reverse++T∧∀n∈l.2,Go.Eng.Int64 n)∧∃c',CD w c' w'∧Bu DS c' w' [0] a C∧Bu Ie c' w' [0] y f∧AI c' w' 102 b2 (DB z) 29∧AI c' w' 103 b3 [a,y,vG,I p] 58∧Bu Cg c' w' [0] u x.list∧PZ (fun p:Int↦I p) c' w' 77 a7 l.2) (fun l=>x.list.length-l.1) (0,T) AL ⟨⟨Nat.zero_le _,Z,Z,b9⟩,_,hO.D,R.D,r.D,L.D,AR.D,a1.D,o.D⟩ ?_;rintro⟨j,b0⟩ g ⟨⟨J,hf,l,g⟩,U,hO,R,r,L,AR,a1,o⟩;dsimp only at J hf l g o;refine Q<|E (AX Z Z)<|Ah<|Ag<|BA Z (fun J=>?_) fun J=>?_
  ·have a7:j<x.list.length:=G;obtain⟨q,a8⟩:∃q,q=x.list[j]:=⟨_,Z⟩;obtain⟨U,J⟩:=Co a1 a7 AO;rw[←a8] at U J;rw[Aav a7,←a8,Lm] at hf;refine As<|Ag<|An<|Q<|E (Cv BM) ?_;refine E (Cc AF Z U.DF)<|V Z<|Ag<|Q<|M Z<|M Z<|E (gN th Z o g Z J)<|Ah<|BA Z (fun U=>?_) fun U=>?_
   ·rw[zm (by simpa using U)] at hf;rw[←hf,Bool.false_and] at hF;refine Q<|V Z<|Af Z Z ?_;exact⟨hO.below,by rw[←hF];rfl⟩
   rw[if_neg (by simpa using U)] at hf;refine As<|cg<|M Z<|M Z<|Av ((Th th Z o g Z J)) ?_;rintro _ U ⟨U,U,o⟩;refine Ah<|cg<|E (Bc Z Z Ai Ai)<|M Z<|Ah ?_;refine⟨(j+1,q::b0),AL,⟨⟨by dsimp only;omega,hf,?_,fun n hp↦?_⟩,_,hO.D,R.D,r.D,L.D,AR.D,a1.D,o⟩,by show x.list.length-(j+1)<x.list.length-j;omega⟩
   ·rw[l,pk a7,List.reverse_append,←a8];rfl
   rcases Aak.1 hp with rfl|hp
   ·exact J
   exact g n hp
  have J:j=x.list.length:=G;rw[List.drop_of_length_le G,Lm] at hf;rw[List.take_of_length_le G] at l;rw[←hf,Bool.true_and] at hF;refine Az Z<|cg<|E (Bc Z Z Ai Ai)<|M Z<|Ah ?_;refine⟨(i+1,b0),AL,⟨⟨by dsimp only;omega,?_,g⟩,_,hO,R,r,L,AR,o⟩,by show f.length-(i+1)<f.length-i;omega⟩;rw[←hF,l,eG,List.getElem?_eq_getElem b1,←hx];rfl
 rw[Abn G,Ln] at hF;refine Az Z<|Q<|E (Aa Ev Z)<|E (Al HI Z AR.AE Z)<|E (BN Ge) ?_;refine E (Gw Z Z)<|V Z<|Af Z Z ?_;have g:((f.length:Int)≤60)↔f.length≤60:=G;exact⟨hO.below,by rw[←hF];simp[g]⟩
theorem nG(h:Rd Wo w a []):Calls QP 93 #[a] w (Bt fun v w'=>AZ w w'∧v= .bool true):=by
 have hK:FY w w:=Bf w;refine AY 47 #[.tmp 2] func93 Z<|Q<|V Z<|Ag<|Q<|M Z ?_
 first|refine E (Ez hX (by assumption) Z) ?_|refine E (Fo underlying56 Z) ?_
 refine M Z<|Ah<|An<|AG (σ:=Unit) (fun _=>[(0,a),(5,a),(6,I ([]:List Tg).length),(7,I 0)]) (fun _ w'=>Rd Wo w' a []∧FY w w') (fun _=>0) () AL ⟨h,hK⟩ ?_;rintro _ g ⟨h,hK⟩;refine Q<|E (AX Z Z)<|Ah<|Ag<|Cz Z (fun f=>?_) fun f=>?_
 ·exact absurd f Bb
 refine Az Z<|Q<|M Z ?_
 first|refine E (Ez hX (by assumption) Z) ?_|refine E (Fo underlying56 Z) ?_
 refine E (Gw Z Z)<|V Z<|Af Z Z ?_;exact⟨hK,Z⟩
theorem gX{s:CO}{vG:Value}{b:Bk}(hs:s.ok)(i:Rd DS w a b.Ae)(j:Rd Ie w y b.AQ)(f:Rd Wo w vG b.De)(p:b.De=[]):
 Calls QP 36 #[.agg (DB s).toArray, .agg #[a,y,vG,I b.next]] w (Bt fun v w'=>AZ w w'∧v= .bool (Ek s b)):=by
 have g:=i.AD;have J:=j.AD;have t:=f.AD;rw[p] at f;obtain⟨c,hO,g⟩:=Ay w;have r:Bu DS c w [0] a b.Ae:=Rd.Du i (fun k O=>by simp[g,AU]);have U:Bu Ie c w [0] y b.AQ:=Rd.Du j (fun k O=>by simp[g,AU]);have R:Bu Wo c w [0] vG []:=Rd.Du f (fun k O=>by simp[g,AU]);refine AY 32 #[.tmp 4] func36 Z<|Q<|Fa c 102 fun w1 b2 c1 g g=>?_;refine Fa c1 103 fun w2 b3 c2 l AR=>?_;refine V Z<|Q<|E (Ba CP Z g.D.AE Z)<|ve (Ac c2 1 (Ab YM Z (KP hs))) ?_;rintro v6 l ⟨l,C,C,rfl⟩;refine M Z ?_;apply AW true 3 _ CK
 ·intro C;refine wo<|E (Aa Ik Z)<|wo<|E (Al AF Z AR.D.AE Z)<|wo<|E (Dh Z Z) ?_;exact EQ 3
 refine M Z ?_;apply AW true 3 _ CK
 ·intro C;refine wo<|E (Aa Ik Z)<|wo<|E (Al AF Z AR.D.AE Z)<|wo<|E (Gw Z Z) ?_;exact EQ 3
 refine M Z ?_;apply BU l true 3 _ CK
 ·intro C C;refine wo<|E (Ba CP Z g.D.AE Z)<|wo<|E (Ba Fy Z AR.D.AE Z)<|wo<|ve (Ac l 1 (Ab aal Z (bW hs r.D.AB J t))) ?_;rintro v20 l ⟨l,l,l,rfl⟩;exact BV 3 C.D
 intro l l C;refine M Z ?_;apply BU l true 3 _ CK
 ·intro J C;refine wo<|E (Ba CP Z g.D.AE Z)<|wo<|E (Ba Fy Z AR.D.AE Z)<|wo<|ve (Ac l 1 (Ab aam Z (eH hs r.D.AB U.D.AB t (PR (s:=s) (next:=b.next) (o:=none) (T:=[]) (by simpa using J.2))))) ?_;rintro g g ⟨g,g,g,rfl⟩;exact BV 3 C.D
 intro g g l;refine M Z ?_;apply BU g true 3 _ CK
 ·intro l l;refine wo<|E (Aa Qz Z)<|wo<|E (Al aC Z AR.D.AE Z)<|wo<|ve (Ac g 1 (Ab aan Z (nG R.D.AB))) ?_;rintro v30 g ⟨g,g,g,rfl⟩;exact BV 3 l.D
 intro g g g;refine V Z<|Af Z Z<|⟨hO.D.below,?_⟩;rw[Ek,p];simp[Fb,bh,Aho]
end
def Da(b:Bk)(L:List Nt):Bk:=L.foldl jt b
theorem Vz(b:Bk){L:List Nt}(O:k<L.length):Da b (L.take (k+1))=jt (Da b (L.take k)) L[k]:=by
 rw[Da,pk O,Adq];rfl
theorem Pc{b:Bk}(f:Ic b.Ae)(g:KH b.AQ):∀L:List Nt,Ic (Da b L).Ae∧KH (Da b L).AQ∧(Da b L).Ae.length≤b.Ae.length+L.length∧(Da b L).AQ.length≤b.AQ.length+L.length∧(Da b L).De=b.De:=fun L=>by
 induction L generalizing b with
 |nil=>exact⟨f,g,kM _,kM _,Z⟩
 |cons r L p=>
  obtain⟨i,j⟩:=nC (r:=r) f g;obtain⟨J,R,t⟩:=qV b r;obtain⟨l,g2,C,I,o⟩:=p i j;have e:Da b (r::L)=Da (jt b r) L:=rfl;rw[e,SG];exact⟨l,g2,G,G,o.trans t⟩
structure aaI (n m:Nat) (P:HQ) (L:List Nt) (A:CS) (J:Jl) (b:Bk) (e:Int):Prop where
 lay:HP n m 6156 P.A A
 j:Ta n J
 used:J.used≤P.J.used+24+EL (L.map Fv)
 may:Ek P.s b=true
 De:b.De=[]
 new:b=P.b∨(e=0∧b=Da P.b L)
 zero:e=0→b=Da P.b L
 jq:Ek P.s (Da P.b L)=true→(∀k:Nat,k<n→BG P.A k=true)→P.J.failed=false→e=0∧J.failed=false
theorem XY{s:Shape α}(h:Rd s w a ([]:List α)):HO a:=by
 obtain⟨A,c,rfl,_⟩:=h.form;exact⟨A,_,c,Z,fun h=>by simp at h⟩
abbrev eI:List Nat:=[121,122,123,124,125]
def Fe(c:Nat→Nat):Nat→Nat:=fun k=>if AU eI (c k)=true then 94 else c k
theorem nH(h:AU eI (c k)=true):Fe c k=94:=by simp[Fe,h]
theorem FJ(h:c k=i)(hi:AU eI i=false:=by rfl):Fe c k=i:=by
 unfold Fe;rw[h,hi];rfl
section
variable {c0 c:Nat→Nat} {w0 w:World}
theorem BE.Fe(h:BE c0 w0 DA c w):BE c0 w0 DA (Go.Eng.Fe c) w:=⟨h.os,h.tape,h.output,h.size,fun k O=>by
 have f:=h.BF k O;have hi:AU eI (Bw c0 DA k)=false:=by
  cases hc:AU DA (c0 k) with
  |false=>rw[Ia hc];rfl
  |true=>
   rw[KN hc];exact Fs Z hc
 exact FJ f hi,h.block⟩
theorem BW.Fe(h:BW c w k F):BW (Go.Eng.Fe c) w k F:=by
 obtain⟨v,X,a,b⟩:=h;exact⟨v,X,⟨a.AE,FJ a.BF⟩,b.liveQ,⟨b.own.own,fun p O=>FJ (b.own.BF p O)⟩,⟨b.rows.len,fun j v l f g=>⟨(b.rows.row j v l f g).own,fun p O=>FJ ((b.rows.row j v l f g).BF p O)⟩,b.rows.apart⟩,⟨b.maps.len,fun j v l f g=>⟨(b.maps.row j v l f g).obj,FJ (b.maps.row j v l f g).BF⟩,b.maps.apart⟩⟩
theorem Dz.Fe{j:Jl}(h:Dz c w k m j):Dz (Go.Eng.Fe c) w k m j:=by
 obtain⟨f,vl,cs,a,b,d⟩:=h;exact⟨f,vl,cs,⟨a.AE,FJ a.BF⟩,⟨b.own,fun p O=>FJ (b.BF p O)⟩,⟨d.own,fun p O=>FJ (d.BF p O)⟩⟩
theorem EA.Fe(h:EA X c w e)(g:e.all (AU eI)=true:=by rfl):EA X (Go.Eng.Fe c) w [94]:=HM.mono h fun k _ O=>by
 show AU [94] (Go.Eng.Fe c k)=true
 cases f:AU eI (c k) with
 |true=>rw[nH f];rfl
 |false=>rw[Jw g f] at O;cases O
end
def MI(s:CO)(t:Tx)(i:Nat):List Tx:=Mg s (DR s ((EU s t).getD i []))
theorem ZF(hs:Small z)(hu:W.length≤z.k*z.size):(Mg z (DR z W)).length=z.k+z.m∧∀x∈Mg z (DR z W),x.length=z.size:=by
 obtain⟨i,g2,j⟩:=Sl hs;obtain⟨o,p⟩:=MF hu;obtain⟨f,g⟩:=Vs (m:=Hr z.k z.m) (l:=DR z W) (n:=z.size) j (by rw[g2,o];exact kM _) (by rw[g2];exact hs.1) p;exact⟨f.trans i,g⟩
theorem cy{s:CO}{t:Tx}(hs:Small s):(MI s t i).length=s.k+s.m∧∀x∈MI s t i,x.length=s.size:=by
 refine ZF hs ?_;rcases Aab i (EU s t).length with h|h
 ·rw[hk,dd h];exact((GM s (Ae5 hs.1 hs.2.2.2.1) t).2 _ (mv h)).2
 rw[hk,Aam h];exact Wm _
theorem Ox(hs:Small z)(n:Nat):BI z n≤n:=by
 rw[BI];have g:1≤z.k*z.size:=WO hs.1 hs.2.2.2.1;rcases Aa6 n with f|f
 ·subst f;rw[Adx G];omega
 refine Nat.div_le_of_le_mul ?_;have i:=WN (n-1) g;have j:z.k*z.size*n=z.k*z.size*(n-1)+z.k*z.size:=by
  rw[show n=n-1+1 by omega,Nat.mul_add,Acn];simp
 omega
def Mi(s:CO)(next:Int)(t:Tx)(pre:List OZ)(i:Nat):CV:=⟨next+(i:Nat),((EU s t).getD i []).length,0,((pre[i]?).map Ou).getD []⟩
structure qY (c:Nat→Nat) (w:World) (vts:List Value) (n:Nat) (T:Nat→List Tx):Prop where
 len:vts.length=n
 row:∀(i:Nat) (v:Value),vts[i]?=some v→Bu DQ c w [142] v (T i)
theorem qY.D{c:Nat→Nat}{w:World}{T:Nat→List Tx}(h:qY c w b n T)(m:Mv c w c' w' e:=by exact Go.Eng.KU)(hi:BB [142] e=true:=by rfl):qY c' w' b n T:=⟨h.len,fun i v hv=>(h.row i v hv).D m hi⟩
theorem qY.snoc{T:Nat→List Tx}(h:qY c w b n T)(hv:Bu DQ c w [142] a (T n)):qY c w (b++[a]) (n+1) T:=⟨by rw[ft,h.len];rfl,fun i u hu=>by
 rcases JW hu with⟨rfl,rfl⟩|hu
 ·rw[h.len];exact hv
 ·exact h.row i u hu⟩
structure uO (c:Nat→Nat) (w:World) (Y:List Gs):Prop where
 el:∀y∈Y,Bu Bx c w [136] y.2.v y.1.Ad
theorem uO.D{c:Nat→Nat}{w:World}(h:uO c w U)(m:Mv c w c' w' e:=by exact Go.Eng.KU)(hi:BB [136] e=true:=by rfl):uO c' w' U:=⟨fun y hy=>(h.el y hy).D m hi⟩
def TZ(s:CO)(next:Int)(t:Tx)(liveQ:List Bool)(F:List (List Int))(c':Nat→Nat)(w':World)(vl vt:Value)(e:Int):Prop:=
 (e≠0∧vl= .slice none 0 0∧vt= .slice none 0 0∧∃p g,Fz liveQ F (s.k+s.m) p∧p.length<BI s t.length∧NA liveQ (Em F p) [] (s.k+s.m) e g)∨
 (e=0∧∃pre Y f,Fz liveQ F (s.k+s.m) pre∧pre.length=BI s t.length∧Y.map (·.1)=(List.range (BI s t.length)).map (Mi s next t pre)∧AJ c' w' 140 115 4 vl Y.length (Y.flatMap CL)∧uO c' w' Y∧AJ c' w' 141 37 1 vt f.length f∧qY c' w' f (BI s t.length) (MI s t))
theorem qZ(h:AJ c w i 115 4 a U.length (U.flatMap CL))(hs:∀y∈U,Bu Bx c w [k] y.2.v y.1.Ad)(hi:∀y∈U,Go.Eng.Int64 y.1.id∧Go.Eng.Int64 y.1.len∧Go.Eng.Int64 y.1.gen)(hl:U.length≤1048576):Bu DS c w [i,k] a (U.map (·.1)):=by
 have l:AJ c w i 115 DS.size a (U.map (·.1)).length (U.map CL).flatten:=by rw[kr,←Acj];exact h
 refine l.rd (by rw[kr];omega) (by rw[kr,kr]) (by simp[AU]) fun j cs x O hx=>?_;rw[Aah] at hx O;obtain⟨y,hy,rfl⟩:=Abm.1 O;rw[hy] at hx;injection hx with hx;subst hx;have f:=Lx hy;exact(EA.more (K:=[i,k]) (hs y f) (by simp[AU])).imp fun w' _ g=>⟨y.2.v,Z,g,hi y f⟩
theorem rb(h:AJ c w i 3 1 a l.length (l.map I))(hl:l.length≤140737488355328)(g:∀p∈l,Go.Eng.Int64 p):Bu Cg c w [i] a l:=by
 have f:∀l:List Int,(l.flatMap fun x=>[I x])=l.map I:=fun l=>by
  induction l with
  |nil=>rfl
  |cons v l j=>rw[Aaa,j];rfl
 exact Jg (by rw[f];exact h) hl g
abbrev pq:=Rec×SV×SV
def MJ(z:pq):List Value:=[I z.1.Ar,I z.1.id,St z.1.name,St z.1.AK,z.2.1.v,z.2.2.v]
structure gY (c:Nat→Nat) (w:World) (J:List Nat) (Z:List pq):Prop where
 l:∀z∈Z,Bu Cg c w J z.2.1.v z.1.list
 s:∀z∈Z,Bu Bx c w [149] z.2.2.v z.1.Bo
theorem gY.D{c:Nat→Nat}{w:World}{g:List pq}{I:List Nat}(h:gY c w e g)(m:Mv c w c' w' I:=by exact Go.Eng.KU)(hi:BB (149::e) I=true:=by rfl):gY c' w' e g:=⟨fun z f=>(h.l z f).D m (CC hi (fun i hi=>Aaw _ hi)),fun z f=>(h.s z f).D m (CC hi Bb)⟩
theorem ZG{v:Value}{f:List pq}(h:AJ c w 147 52 6 v f.length (f.flatMap MJ))(hs:gY c w [146,149] f)(hi:∀z∈f,Go.Eng.Int64 z.1.Ar∧Go.Eng.Int64 z.1.id∧z.1.name.length≤140737488355328∧z.1.AK.length≤140737488355328)(hl:f.length≤1048576):Bu FG c w [146,147,149] v (f.map (·.1)):=by
 have o:AJ c w 147 52 FG.size v (f.map (·.1)).length (f.map MJ).flatten:=by rw[kr,←Acj];exact h
 refine o.rd (by rw[kr];omega) (by rw[kr,kr]) (by rfl) fun k cs x O hx=>?_;rw[Aah] at hx O;obtain⟨z,l,rfl⟩:=Abm.1 O;rw[l] at hx;injection hx with hx;subst hx;have g:=Lx l;have p:=EA.more (K:=[146,147,149]) (hs.l z g) (by rfl);have r:=EA.more (K:=[146,147,149]) (hs.s z g) (by rfl);exact fun w' j i=>⟨z.2.1.v,z.2.2.v,Z,p w' j i,r w' j i,hi z g⟩
theorem nI{T:Nat→List Tx}{first:Int}{y:Gs}(j:AI c w 0 m [a] 107)(l:AI c w 0 n [I first] 3)(f:AJ c w 0 37 1 a b.length b)
 (r:∀v,b[k]?=some v→Bu DQ c w [0] v (T k))(O:k<b.length)(hid:y.1.id=first+(k:Nat))(hf:0≤first∧first≤4611686018427387904)(t:k≤100000)(hi:i<(T k).length):
 Calls QP 44 #[.agg (CL y).toArray,I i,P1 m,P1 n] w (Bt fun v w'=>AZ w w'∧v=St ((T k).getD i [])):=by
 have m:=DD.start c w [];replace j:=j.Oc (J:=[]) Z;replace l:=l.Oc (J:=[]) Z;replace f:=f.Oc (J:=[]) Z;have hu:∃u,b[k]?=some u:=⟨_,dd O⟩;obtain⟨u,hu⟩:=hu;have b:Bu DQ (Bw c []) w [0] u (T k):=(r u hu).Dt Z;generalize Bw c []=c0 at m j l f b;have n:DG c0 w [0] (Bz a 1 k) [u]:=f.nw hu;have r:=(Co b hi AO).1;have t:=f.AD;have t:=b.AB.AD;have t:=b.AB.AA;have t:=y.2.one;have t:=b.AB.small;have b:=f.AA;have b:((k:Int)).toNat=k:=TJ k;refine AY 17 #[.tmp 6] func44 Z<|Q<|Fa c0 104 fun w1 b4 c1 b Bd=>?_;refine V Z<|Q<|E (Al lI Z j.D.AE Z)<|E (Aa Dy Z)<|E (Al AF Z Bd.AE Z)<|E (Al AF Z l.D.AE Z)<|E (Gu Z Z (by rw[hid];omega) (by rw[hid];omega)) ?_;rw[show y.1.id-first=((k:Nat):Int) by rw[hid];omega];refine E (BS lK f.D Z Z G G)<|E (Cc Eh Z n.D.DF)<|M Z<|E (Cv Ch) ?_;refine E (Cc CQ Z r.D.DF)<|V Z<|Af Z Z<|⟨m.D.below,?_⟩;rw[hk,dd hi];rfl
def Dr(s:CO)(next:Int)(t:Tx)(pre:List OZ):List CV:=(List.range (BI s t.length)).map (Mi s next t pre)
def Jn(next:Int)(many:Nat):List Int:=(List.range many).map fun(i:Nat)=>next+(i:Int)
def Es(s:CO)(next:Int)(t:Tx)(pre:List OZ)(d:Tx):List Nt:=(Dr s next t pre).map Nt.RE++[Nt.TH d (t.length:Nat) (Jn next (BI s t.length))]
def Qc(s:CO)(next:Int)(t:Tx)(pre:List OZ)(A:CS):Prop:=∀(k:Nat) (x:CV),(Dr s next t pre)[k]?=some x→∀(i:Nat) (q:Int×Int),x.Ad[i]?=some q→Dk A q.1 (1024+q.2*(BZ s:Nat)) (BZ s)=some (Gb ⟨x.id,i,x.gen,(MI s t k).getD i []⟩)
structure zd (n m:Nat) (P:HQ) (t d:Tx) (F:List (List Int)):Prop where
 f:P.failed=false
 j:P.J.failed=false
 no:Vp P.b.AQ d=none
 zC:P.b.AQ.length<60
 next:P.b.next+(BI P.s t.length:Nat)≤1073741824
 liveQ:∀k:Nat,k<n→BG P.A k=true
 room:∀p e Ejq,Fz (Cu n P.A) F (P.s.k+P.s.m) p→p.length<BI P.s t.length→NA (Cu n P.A) (Em F p) [] (P.s.k+P.s.m) e Ejq→e=0
 ok:∀pre,Fz (Cu n P.A) F (P.s.k+P.s.m) pre→pre.length=BI P.s t.length→(∀x∈Dr P.s P.b.next t pre,∀q∈x.Ad,BG P.A q.1=true∧1024+(q.2+1)*(BZ P.s:Nat)≤m)∧((Dr P.s P.b.next t pre).flatMap fun x=>x.Ad.map (·.1)).Nodup∧Ek P.s (Da P.b (Es P.s P.b.next t pre d))=true
structure abO (n m:Nat) (P:HQ) (t d:Tx) (A:CS) (J:Jl) (b:Bk) (f:Bool) (e:Int):Prop where
 lay:IK n m 8000 P.A A
 j:Ta n J
 used:J.used≤P.J.used+3200
 may:Ek P.s b=true
 De:b.De=[]
 size:b.Ae.length≤P.b.Ae.length+41
 exact:∃F,F.length=n∧eA P.n F∧(P.b.Ae=[]→F=replicate n (He P.n))∧(zd n m P t d F→e=0∧f=false∧J.failed=false∧∃pre,Fz (Cu n P.A) F (P.s.k+P.s.m) pre∧pre.length=BI P.s t.length∧b=Da P.b (Es P.s P.b.next t pre d)∧Qc P.s P.b.next t pre A)
theorem XZ{d:Tx}(hd:d.length=32)(f:n≤1073741824)(hl:l.length≤2000)(hi:∀x∈l,Fb x=true):FT (Mu d (n:Nat) l)=true:=by
 rw[HZ];refine⟨by rfl,by rfl,by show Fb ((n:Nat):Int)=true;simp only[Fb,kg,pn];omega,fun h=>?_,fun _=>by simp[Mu,hd],by simp[Mu];omega,fun h=>?_,fun h=>?_,hi,fun x hx=>?_⟩
 ·exact absurd (show hasB 4 110=true from h) AO
 ·simp[Mu] at h
 ·exact absurd (show hasB 4 115=true from h) AO
 simp[Mu] at hx
theorem cz{x:CV}(f:Fb x.id=true)(g:Fb x.len=true)(i:Fb x.gen=true)(l:1≤x.Ad.length∧x.Ad.length≤14)(j:∀p∈x.Ad,Gi p=false):FT (TF x)=true:=by
 rw[HZ];refine⟨by rfl,by rfl,f,fun h=>?_,fun h=>?_,by show(2:Int)≤2000;omega,fun _=>rfl,fun _=>⟨by show 1≤((x.Ad.length:Nat):Int);omega,by show((x.Ad.length:Nat):Int)≤14;omega⟩,fun y hy=>?_,j⟩
 ·exact absurd (show hasB 2 110=true from h) AO
 ·exact absurd (show hasB 2 100=true from h) AO
 simp only[TF,Aak,Acx,Ae3] at hy;rcases hy with rfl|rfl
 ·exact g
 exact i
theorem MK{q:Gs×Nat}:q∈HC U↔q.1∈U∧q.2<q.1.1.Ad.length:=by
 rw[HC,Ab5];constructor
 ·rintro⟨y,hy,h⟩;obtain⟨k,O,rfl⟩:=Aag.1 h;exact⟨hy,Aax.1 O⟩
 ·rintro⟨f,g⟩;exact⟨q.1,f,Aag.2 ⟨q.2,Aax.2 g,Z⟩⟩
theorem cA{q:Gs×Nat}(h:q.2<q.1.1.Ad.length):Jm q∈q.1.1.Ad:=by
 rw[Jm,dd h];exact mv h
theorem cB(h:∀y∈U,y.1.Ad.length=n):(HC U).length=U.length*n:=by
 induction U with
 |nil=>simp[HC]
 |cons y U i=>
  have f:=i fun z g=>h z (Aaw _ g);rw[HC] at f⊢;rw[Aaa,ft,f,Ov,kr,Aap,h y Aau,SG,Aad];omega
section
variable {s:CO} {next:Int} {t:Tx} {pre:List OZ} {liveQ:List Bool} {F:List (List Int)} {Y:List Gs}
def nJ(s:CO)(next:Int)(t:Tx)(q:Gs×Nat):Tx:=(MI s t (q.1.1.id-next).toNat).getD q.2 []
theorem Lr(O:k<BI s t.length):(Dr s next t pre)[k]?=some (Mi s next t pre k):=by
 rw[Dr,Aah,Adu O];rfl
theorem Ee:(Dr s next t pre).length=BI s t.length:=by simp[Dr]
theorem JJ{x:CV}(h:x∈Dr s next t pre):∃k,k<BI s t.length∧x=Mi s next t pre k:=by
 obtain⟨k,O,rfl⟩:=Aag.1 h;exact⟨k,Aax.1 O,Z⟩
theorem RF(hs:Small s)(hp:Fz liveQ F (s.k+s.m) pre)(hl:pre.length=BI s t.length)(C:liveQ.length=F.length)(J:liveQ.length≤12)(hF:∀l∈F,∀y∈l,0≤y∧y<64)(O:k<BI s t.length):
 (Mi s next t pre k).id=next+(k:Nat)∧(Mi s next t pre k).gen=0∧1≤(Mi s next t pre k).len∧(Mi s next t pre k).len≤(s.k*s.size:Nat)∧(Mi s next t pre k).Ad.length=s.k+s.m∧∀p∈(Mi s next t pre k).Ad,(0≤p.1∧p.1<(liveQ.length:Nat))∧0≤p.2∧p.2<64:=by
 have j:k<pre.length:=G;have I:=GM s (Ae5 hs.1 hs.2.2.2.1) t;have f:=hp.each C hF (mv j);have r:(Mi s next t pre k).Ad=Ou pre[k]:=by
  show((pre[k]?).map Ou).getD []=_
  rw[dd j];rfl
 have o:(Mi s next t pre k).len=(((EU s t).getD k []).length:Nat):=rfl;have i:k<(EU s t).length:=G;have R:=I.2 _ (mv i);have g:((EU s t).getD k []).length=((EU s t)[k]).length:=by rw[hk,dd i];rfl
 refine⟨Z,Z,by rw[o,g];omega,by rw[o,g];omega,by rw[r];exact f.1,by rw[r];exact f.2.2⟩
theorem cC{A:CS}(i:Y.map (·.1)=Dr s next t pre)(h:∀x∈Dr s next t pre,∀q∈x.Ad,BG A q.1=true∧1024+(q.2+1)*(BZ s:Nat)≤m):∀q∈HC Y,Vx m s A q:=fun q j=>by
 obtain⟨f,g⟩:=MK.1 j;exact h q.1.1 (by rw[←i];exact Aag.2 ⟨q.1,f,Z⟩) _ (cA g)
theorem jw{A:CS}(l:Y.map (·.1)=Dr s next t pre)(h:∀q∈HC Y,Ow s (nJ s next t) A q):Qc s next t pre A:=fun k x hx i q j=>by
 have O:k<BI s t.length:=by
  have:=(kJ.1 hx).1;rwa [Ee] at this
 have f:=hx;rw[←l,Aah] at hx;obtain⟨y,hy,rfl⟩:=Abm.1 hx;have o:=(kJ.1 j).1;have g:=h (y,i) (MK.2 ⟨Lx hy,o⟩);have hp:Jm (y,i)=q:=by show(y.1.Ad[i]?).getD (0,0)=q;rw[j];rfl
 rw[Lr O] at f;injection f with f;have hid:y.1.id=next+(k:Nat):=by rw[←f];rfl
 have hT:nJ s next t (y,i)=(MI s t k).getD i []:=by
  show(MI s t (y.1.id-next).toNat).getD i []=_
  rw[hid,show next+(k:Int)-next=(k:Int) by omega,TJ]
 rw[Ow,hp,hT] at g;exact g
theorem ze(hs:Small s)(hp:Fz liveQ F (s.k+s.m) pre)(hl:pre.length=BI s t.length)(R:liveQ.length=F.length)(J:liveQ.length≤12)(hF:∀l∈F,∀y∈l,0≤y∧y<64)(U:0≤next∧next+(BI s t.length:Nat)≤1073741824)(I:Y.map (·.1)=Dr s next t pre):
 ∀q∈HC Y,qU s (nJ s next t) q∧∃k,k<BI s t.length∧q.1.1.id=next+(k:Nat)∧q.2<(MI s t k).length∧nJ s next t q=(MI s t k).getD q.2 []:=fun q g=>by
 obtain⟨f,C⟩:=MK.1 g;have g:q.1.1∈Dr s next t pre:=by rw[←I];exact Aag.2 ⟨q.1,f,Z⟩
 obtain⟨k,O,hx⟩:=JJ g;obtain⟨f,g2,g,o,p,j⟩:=RF (next:=next) hs hp hl R J hF O;rw[←hx] at f g2 g o p j;obtain⟨g,g,g,g,g⟩:=id hs;have hT:nJ s next t q=(MI s t k).getD q.2 []:=by
  rw[nJ,f,show next+(k:Int)-next=(k:Int) by omega,TJ]
 obtain⟨g,p⟩:=cy (s:=s) (t:=t) (i:=k) hs;have g:q.2<(MI s t k).length:=G;have o:(nJ s next t q).length=s.size:=by
  rw[hT,hk,dd g];exact p _ (mv g)
 refine⟨⟨C,fun r p=>?_,?_,o⟩,k,O,f,g,hT⟩
 ·have:=j r p;omega
 simp only[Nb,kg,pn];rw[o];omega
end
theorem Oy{A B:CS}{d f:Int}(h:∀d s,1024≤s→Bp B d s=Bp A d s)(hf:1024≤f):∀k,Dk B d f k=Dk A d f k
 |0=>rfl
 |k+1=>by rw[Dk,Dk,Oy h hf k,h _ _ G]
theorem Qc.keep{pre:List OZ}{B:CS}(h:Qc z p W pre F)(O:∀d z,1024≤z→Bp B d z=Bp F d z)(hp:∀x∈Dr z p W pre,∀q∈x.Ad,0≤q.2):Qc z p W pre B:=fun k x hx i q f=>by
 have g:=hp x (Lx hx) q (Lx f);have j:0≤q.2*(BZ z:Nat):=Aef g (Ad3 _);rw[Oy O G];exact h k x hx i q f
theorem nK{n:Nat}:∀{S:List CV},(∀x∈S,x.Ad.length≤n)→EL (S.map TF)≤S.length*(33+8*n)
 |[],_=>by simp[EL]
 |x::S,h=>by
  have f:=nK (S:=S) fun y hy=>h y (Aaw _ hy);have g:=h x Aau;rw[Aci,Ng,bp,SG,Aad,Aa2];omega
theorem Ya(s:CO)(next:Int)(t:Tx)(pre:List OZ)(d:Tx):(Es s next t pre d).map Fv=(Dr s next t pre).map TF++[Mu d (t.length:Nat) (Jn next (BI s t.length))]:=by
 rw[Es,Aaf,Acu];rfl
theorem Kn(next:Int)(k:Nat):(Jn next k).length=k:=by simp[Jn]
theorem jy(next:Int)(k:Nat):Jn next (k+1)=Jn next k++[next+(k:Nat)]:=by simp[Jn,Abf]
theorem VA{x:Int}(h:x∈Jn p k):p≤x∧x<p+(k:Nat):=by
 obtain⟨i,hi,rfl⟩:=Aag.1 h;have:=Aax.1 hi;exact⟨G,G⟩
theorem cD{r:Nt}(h:ZE r):Go.Eng.Int64 (Fv r).Ar∧Go.Eng.Int64 (Fv r).id∧(Fv r).name.length≤140737488355328∧(Fv r).AK.length≤140737488355328:=by
 cases r with
 |RE x=>
  have f:=h.1;exact⟨⟨by show _≤(2:Int);omega,by show(2:Int)≤_;omega⟩,⟨by show _≤x.id;omega,by show x.id≤_;omega⟩,by show 0≤_;omega,by show 0≤_;omega⟩
 |TH d n l=>exact⟨⟨by show _≤(4:Int);omega,by show(4:Int)≤_;omega⟩,h.1,by show 0≤_;omega,h.2.1⟩
theorem cE{next:Int}{d:Tx}{pre:List OZ}(hs:Small z)(hp:Fz x q (z.k+z.m) pre)(hl:pre.length=BI z W.length)(J:x.length=q.length)(I:x.length≤12)(hF:∀l∈q,∀y∈l,0≤y∧y<64)(R:0≤next∧next+(BI z W.length:Nat)≤1073741824)(hd:d.length=32)(ht:W.length≤40):
 (Es z next W pre d).length=BI z W.length+1∧(∀r∈Es z next W pre d,FT (Fv r)=true)∧(∀r∈Es z next W pre d,ZE r)∧EL ((Es z next W pre d).map Fv)≤3176:=by
 have f:=Ox hs W.length;obtain⟨f,f,g,g,g⟩:=id hs;have i:z.k*z.size≤3*120:=WO f g;have hx:∀liveQ∈Dr z next W pre,(0≤liveQ.id∧liveQ.id≤1073741824)∧liveQ.gen=0∧(1≤liveQ.len∧liveQ.len≤360)∧liveQ.Ad.length=z.k+z.m∧∀p∈liveQ.Ad,(0≤p.1∧p.1<12)∧0≤p.2∧p.2<64:=fun liveQ hx=>by
  obtain⟨k,O,rfl⟩:=JJ hx;obtain⟨i,g2,o,C,g,f⟩:=RF (next:=next) hs hp hl J I hF O;exact⟨G,g2,G,g,fun p hp=>by have:=f p hp;omega⟩
 have hid:∀liveQ∈Jn next (BI z W.length),0≤liveQ∧liveQ≤1073741824:=fun liveQ hx=>by have:=VA hx;omega
 refine⟨by simp[Es,Ee],fun r j=>?_,fun r j=>?_,?_⟩
 ·rcases Aac.1 j with h|h
  ·obtain⟨liveQ,f,rfl⟩:=Aag.1 h;obtain⟨i,g2,o,C,g⟩:=hx liveQ f;refine cz (by simp only[Fb,kg,pn];omega) (by simp only[Fb,kg,pn];omega) (by rw[g2];rfl) G fun p hp=>?_;have:=g p hp;simp only[Gi,Aa1,Aay];omega
  rw[pv.1 h];exact XZ hd G (by rw[Kn];omega) fun liveQ hx=>by
   have:=hid liveQ hx;simp only[Fb,kg,pn];omega
 ·rcases Aac.1 j with h|h
  ·obtain⟨liveQ,f,rfl⟩:=Aag.1 h;obtain⟨i,g2,o,C,g⟩:=hx liveQ f;exact⟨i,G⟩
  rw[pv.1 h];exact⟨⟨G,G⟩,G,by rw[Kn];omega⟩
 rw[Ya,ec];have g:=nK (n:=5) (S:=Dr z next W pre) fun liveQ f=>by have:=(hx liveQ f).2.2.2.1;omega
 rw[Ee] at g;have f:EL [Mu d (W.length:Nat) (Jn next (BI z W.length))]=Jq (Mu d (W.length:Nat) (Jn next (BI z W.length))):=by simp[EL]
 rw[f,iE,hd,Kn];omega
theorem TZ.D{s:CO}{c:Nat→Nat}{w:World}{I:Int}(h:TZ s p W x q c w a y I)(m:Mv c w c' w' e:=by exact Go.Eng.KU)(hi:BB [136,140,141,142] e=true:=by rfl):TZ s p W x q c' w' a y I:=by
 rcases h with h|⟨f,pre,Y,C,g,i,j,l,o,next,r⟩
 ·exact .inl h
 ·exact .inr ⟨f,pre,Y,C,g,i,j,l.D m (BD hi Bb),o.D m (CC hi Bb),next.D m (BD hi Bb),r.D m (CC hi Bb)⟩
theorem nL{v:Value}(l:AI c w 76 k [v] 54)(i:AJ c w 140 115 4 v U.length (U.flatMap CL))(j:uO c w U)(hi:∀y∈U,Go.Eng.Int64 y.1.id∧Go.Eng.Int64 y.1.len∧Go.Eng.Int64 y.1.gen)(hl:U.length≤1000)(o:∀y∈U,y.1.Ad.length≤1000):
 LH QP 107 [P1 k] vJ [128] [76,0,94] (HC U) (Bw c Hg) w:=by
 refine XW (v:=v) ⟨l.Dt Z,EA.more (K:=[0,94]) ((qZ i j.el hi G).Dt Z) Z,⟨fun b1 O=>?_⟩,fun y hy=>EA.more (K:=[0,94]) ((j.el y hy).Dt Z) Z⟩ G (fun y hy=>by have:=o y hy;omega);have f:=(i.elem (fun x=>EW x) AO O).Dt (J:=Hg) Z;exact⟨f.DF,by
  have g:=f.BF;simp only[AU,Ac3,Af0,Ad9] at g⊢;rw[g];rfl⟩
theorem nM(l:AI c w 110 m [a] 107)(o:AI c w 112 i [I p] 3)(r:AJ c w 141 37 1 a b.length b)(j:qY c w b (BI z W.length) (MI z W))(next:0≤p∧p≤1073741824)(b:BI z W.length≤1000)
 (b:∀q∈HC U,qU z (nJ z p W) q∧∃k,k<BI z W.length∧q.1.1.id=p+(k:Nat)∧q.2<(MI z W k).length∧nJ z p W q=(MI z W k).getD q.2 []):
 ∀c1 w1,BE c w Hg c1 w1→∀q∈HC U,Calls QP 44 (#[.agg (CL q.1).toArray,I q.2]++#[P1 m,P1 i]) w1 (Bt fun v w'=>AZ w1 w'∧v=St (nJ z p W q)):=fun c1 w1 hJ q i=>by
 obtain⟨_,k,O,hid,m,hT⟩:=b q i;rw[hT];have b:=hJ.nA;exact nI (T:=MI z W) (k:=k) ((l.Oc Z).D b Z) ((o.Oc Z).D b Z) ((r.Oc Z).D b Z) (fun v hv=>EA.D ((j.row k v hv).Dt Z) b Z) (by rw[j.len];exact O) hid ⟨next.1,G⟩ G m
def ZH(A:CS)(s:CO)(q:Gs×Nat):Bool:=(Dp A s q.1.1 q.2).2
def Qd(A:CS)(s:CO)(S:List CV):Nat:=(S.flatMap fun x=>(List.range x.Ad.length).filter fun i=>(Dp A s x i).2).length
theorem rc(A:CS)(s:CO)(h:U.map (·.1)=C):((HC U).filter (ZH A s)).length=Qd A s C:=by
 subst h;induction U with
 |nil=>rfl
 |cons y U f=>
  rw[HC] at f⊢;rw[Aaa,Acp,ft,f,Aci,Qd,Qd,Aaa,ft];congr 1;rw[Ov,List.filter_map,kr];rfl
theorem Tm(p:α→Bool)(l:List α)(x:α):((l++[x]).filter p).length=(l.filter p).length+if p x=true then 1 else 0:=by
 rw[Acp,ft];congr 1;by_cases h:p x=true<;>simp[h]
theorem cF{P:HQ}(hp:WA c w k P)(hs:Small P.s)(c6:GR n m P.A)(c7:SX P.A)(c8:Ek P.s P.b=true)(hl:P.b.Ae.length≤1000):
 Calls QP 25 #[P1 k] w (Bt fun u w'=>AZ w w'∧u=I (Qd P.A P.s P.b.Ae:Nat)):=by
 obtain⟨pa,pj,vS,vT,vG,g⟩:=hp;have f:=DD.start c w Hg;replace g:=g.Dt (K:=Hg);generalize Bw c Hg=c0 at f g;obtain⟨j,j,j,j,j⟩:=id hs;have b8:=IC c8;refine AY 27 #[.tmp 2] func25 Z<|Q<|Mn c0 101 fun w1 b1 c1 j o=>?_;refine V Z<|Q<|EK c1 103 QN fun w2 b3 c2 b7 AR=>?_;refine Av (Ap AF Z Z ra ra AR Z) ?_;rintro _ r ⟨AR,r⟩;refine Ah<|Ag<|Ag ?_;obtain⟨a1,a8,b2,J⟩:=(((g.D j).D b7).D r);have t:=J.s;obtain⟨r,C,rfl,_⟩:=t.AB.form;refine cg<|E (Al SQ Z o.D.AE Z)<|E (Ak Z)<|E (Aa DK Z)<|E (Aa CA Z)<|E (Al Ei Z a1.AE Z)<|ve (Ac c2 76 (Ab wv Z (cu))) ?_;rintro j c4 ⟨c3,a7,R,⟨a6,rfl,j,b0⟩⟩;have b6:AI _ _ 76 a6 [.slice r P.b.Ae.length C] 54:=⟨b0,R _ j⟩;obtain⟨Y,U,R,b5⟩:=bP (t.D a7);have j:Y.length=P.b.Ae.length:=by rw[←U,kr]
 have b9:∀y∈Y,Dg P.s y.1=true:=fun y hy=>(b8 y.1 (by rw[←U];exact Aag.2 ⟨y,hy,Z⟩)).1;have b8:∀y∈Y,y.1.Ad.length=P.s.k+P.s.m:=fun y hy=>(CI (b9 y hy)).2.2.2.2.1;have j:cv c3 c4 a6 (.slice r P.b.Ae.length C) Y:=⟨b6,by rw[U];exact EA.more (t.D a7) Z,⟨fun p O=>⟨(R.el p O).DF,by
  have a7:=(R.el p O).BF;simp only[AU,Ac3,Af0,Ad9] at a7⊢;rw[a7,Bool.or_true]⟩⟩,fun y hy=>EA.more (b5 y hy).1 Z⟩
 refine Ah<|An<|EJ (α:=Gs×Nat) (encs:=vJ) (κ:=[128]) (F:=[76,0,94]) (L:=HC Y)
  (fun pre d A=>DD c w Hg d A∧cv d A a6 (.slice r P.b.Ae.length C) Y∧DM d A k pa pj (.slice r P.b.Ae.length C) vT vG P∧AI d A 101 b1 [P1 k] 34∧AI d A 103 b3 [I ((pre.filter (ZH P.A P.s)).length:Nat)] 3) [] (fun _ _ _=>False) [103,104] Z Z sc (XW j G (fun y hy=>by have:=b8 y hy;omega)) Z (fun _=>rfl) Bb Z
  (fun s d A c5 B ⟨C,r,a6,c3,c4⟩ m=>⟨C.D m,r.D m,a6.D m,c3.D m,c4.D m⟩) (fun k hp=>by simp at hp) (fun s d A c5 B h _=>h.elim)
  ⟨f.D,j,⟨a1.D,a8.D,b2.D,J.D⟩,o.D,AR.D⟩ ?_ ?_ ?_ ?_
 ·clear j f a1 a8 b2 o AR b6 b0 J t R b5;rintro l pre ⟨y,i⟩ d B ⟨f,j,g,o,AR⟩ C;have hK:=Acc.refl d B [103,104];have r:=MK.1 (C.subset (Abr _ (pv.2 Z)));have a6:pre.length≤100000:=by
   have a6:=C.length_le;rw[cB b8,ft] at a6;have a7:Y.length*(P.s.k+P.s.m)≤1000*5:=WO G G;omega
  have C:=Aa0 (ZH P.A P.s) pre;have C:=y.2.one;have hu:Bu Bx d B [0,94] y.2.v y.1.Ad:=j.p y r.1;refine Q<|EK d 104 HF fun C b4 C a6 Bd=>?_;refine Av (Am Cn Z Z Bd Z Z Bg) ?_;rintro _ a6 ⟨Bd,a6⟩;refine Ah<|cg<|V Z<|⟨_,hK.D,?_⟩;intro A2 b7;have hK:=Acc.refl C A2 [103,104];refine An<|Q<|E (Al SQ Z o.D.AE Z)<|E (Ba Cn Z Bd.D.AE Z)<|M Z<|ve (Ac C 1 (Ab tX Z (ZA (x:=y.1) (u:=y.2.v) (i:=i) ⟨pa,pj,_,vT,vG,g.D⟩ hs.ok c6 c7 hu.D.AB (b9 y r.1) r.2))) ?_;rintro v20 r ⟨r,r,r,rfl⟩;refine M Z<|E (Aq Z Z)<|E (Aq Z Z)<|za Z<|V Z<|Ag ?_;obtain⟨r,C⟩:∃r,r=(Dp P.A P.s y.1 i).2:=⟨_,Z⟩;have a7:ZH P.A P.s (y,i)=r:=C.symm;rw[←C];refine cg<|M Z<|Ah<|BA Z (fun C=>?_) fun C=>?_
  ·have a6:r=true:=by simpa using C
   refine cg<|E (Al AF Z AR.D.AE Z)<|E (Bc Z Z Ai Ai) ?_;refine Av (Ap AF Z Z ra ra AR.D Z) ?_;rintro _ b7 ⟨AR,b7⟩;refine Ah<|⟨_,hK.D,f.D,j.D,g.D,o.D,?_⟩;rw[Tm,a7,a6];exact AR
  have a6:r=false:=by simpa using C
  refine As<|⟨_,hK.D,f.D,j.D,g.D,o.D,?_⟩;rw[Tm,a7,a6];exact AR.D
 ·clear j f a1 a8 b2 o AR b6 b0 J t R b5;rintro Djq d B ⟨f,j,g,o,AR⟩ g;rw[rc _ _ U] at AR;refine Q<|E (Al AF Z AR.AE Z)<|V Z ?_;obtain⟨j,o⟩:=g.take;refine GF Z Z j (FD.tmp Z) ?_;exact⟨f.D.below,Z⟩
 ·intro k hp;simp at hp
 exact fun _ _ _ _ h=>h.elim
theorem cG(hs:Small z):Calls QP 33 #[P1 k, .agg (DB z).toArray,I n,P1 m] w (Bt fun u w'=>AZ w w'∧∃p,u=P1 p∧w.heap.size≤p∧Gt w' p [P1 k,I z.k,I z.m,I z.size,I n,I (Ca z.size:Nat),P1 m, .slice none 0 0, .slice none 0 0, .slice none 0 0,I 0,I (-1),I (-1), .bool false] 101):=by
 obtain⟨c,hO,f⟩:=Ay w;obtain⟨f,f,f,f,f⟩:=id hs;refine AY 19 #[.tmp 8] func33 Z<|Q<|Fa c 105 fun w1 b5 c1 o Bv=>?_;refine V Z<|Ag<|AM c1 [] [0,1,0,0,1,2,0,0,0,2,0] [0,1,2,3,4,6,7,5,8,9,10] fun w2 r f=>?_;refine Bm Z Z<|vc Z f.kp (Bv.D.kn CP Z Z)<|Bm Z Z<|AN Z (Aa DO Z)<|vc Z f.kp (Bv.D.kb AF Z Z)<|Bm Z Z<|AN Z (By (cells:=#[.int .i64 (-1), .int .i64 (-1)]) Z Ao) ?_;refine Db Z (Ac c1 1 (Ab lu Z (On G))) ?_;rintro g g ⟨g,i,j,rfl⟩;refine f.Bl i fun f=>AN Z (By (cells:=#[P1 k,I z.k,I z.m,I z.size,I n,I (Ca z.size:Nat),P1 m, .slice none 0 0, .slice none 0 0, .slice none 0 0,I 0,I (-1),I (-1), .bool false]) Z Ao) ?_;refine Db Z (WY g 118 Z) ?_;rintro _ g ⟨g,j,rfl,j,l⟩;refine f.Bl j fun f=>Ir Z Z<|AP ?_;refine Af Z Z ?_;replace hO:=(((hO.D o).D r).D i).D j;have f:w.heap.size≤g:=by
  rcases Aab g w.heap.size with h|h
  ·have:=hO.BF _ h;rw[l.BF] at this;cases this
  exact h
 exact⟨hO.below,_,Z,f,l.AE⟩
theorem ts{q:Int×Int}(h:AJ c w i d 2 a u.length ((u.flatMap FX).take (k*2)++FX q++(u.flatMap FX).drop ((k+1)*2)))(j:k<u.length):AJ c w i d 2 a (u.set k q).length ((u.set k q).flatMap FX):=by
 rw[←LR (enc:=FX) (n:=2) (fun _=>rfl) u k j q,Yy];exact h
structure RG (n m:Nat) (P:HQ) (A:CS) (J:Jl) (b:Bk):Prop where
 lay:IK n m 8000 P.A A
 j:Ta n J
 used:J.used≤P.J.used+200
 may:Ek P.s b=true
 De:b.De=[]
 size:b.Ae.length≤P.b.Ae.length+1
theorem RG.none{P:HQ}(f:GR n m P.A)(i:Ta n P.J)(g:Ek P.s P.b=true)(ht:P.b.De=[]):RG n m P P.A P.J P.b:=⟨(IK.refl f).more G,i,G,g,ht,G⟩
def cH(y:Gs)(f:List Int):List (Gs×Nat):=f.map fun i=>(y,i.toNat)
theorem nN{o:Int}{vt:Gs}(c0:AI j h 0 k [I o,a,y] 61)(g:AI j h 0 m (CL vt) 115)(hi:Bu Cg j h [0] a l)(a8:∀i∈l,0≤i):
 LH QP 126 [P1 k,P1 m] vJ [128] [76,0,94] (cH vt l) j h:=by
 intro f J r c1 W K r hK C t hy R;have t:AU K 0=false:=BD hK Bb;have U:=hi.AB.AD;have U:=hi.AB.small;have U:=vt.2.one;replace c0:=c0.D r t;replace g:=g.D r t;replace hi:=hi.D r (CC hK Bb);have hJ:JC (J []) [128] c1 W:=⟨R,fun _ _ _ _ w0 p=>C _ _ _ _ _ w0 p⟩;show Calls _ _ [_,_,_].toArray _ _
 refine AY 19 #[] func126 Z<|Q<|E (Aa MX Z)<|E (Al BQ Z c0.AE Z)<|E (BN BM) ?_;refine M Z<|Ah<|An<|AG (σ:=Nat) (fun b6=>[(0, .func (.yield f) #[] #[]),(1,P1 k),(2,P1 m),(7,a),(8,I l.length),(9,I b6)]) (fun b6 w'=>b6≤l.length∧∃c',AI c' w' 0 k [I o,a,y] 61∧AI c' w' 0 m (CL vt) 115∧Bu Cg c' w' [0] a l∧JC (J (cH vt (l.take b6))) [128] c' w') (fun b6=>l.length-b6) 0 AL ⟨G,_,c0,g,hi,hJ⟩ ?_;rintro b6 r ⟨O,r,c0,g,hi,hJ⟩;refine Q<|E (AX Z Z)<|Ah<|Ag<|BA Z (fun r=>?_) fun r=>?_
 ·have t:b6<l.length:=G;have R:=(Co hi t AO).1;have r:=a8 _ (mv t);obtain⟨r,U⟩:∃r:Nat,l[b6]=(r:Int):=⟨l[b6].toNat,G⟩;have a1:cH vt (l.take (b6+1))=cH vt (l.take b6)++[(vt,r)]:=by
   rw[cH,pk t,Aaf,cH,U];rfl
  rw[U] at R;refine As<|Ag<|An<|Q<|E (Cv BM) ?_;refine E (Cc AF Z R.DF)<|V Z<|Q<|M Z<|E (Ba Cn Z g.AE Z)<|M Z ?_;have U:cH vt (l.take b6)++[(vt,r)]<+:cH vt l:=by
   rw[←a1];exact List.IsPrefix.map _ (List.take_prefix _ _)
  obtain⟨r,t,R⟩:=hy _ _ _ _ hJ.AB U;refine ve (FQ Z Z R) ?_;rintro _ b0 ⟨b,a7,rfl,r,a6,U⟩;replace c0:=c0.D r (BD t Bb);replace g:=g.D r (BD t Bb);replace hi:=hi.D r (CC t Bb);refine E (BL Z)<|Ah<|BA Z (fun t=>?_) fun t=>?_
  ·refine FK Z ?_;exact⟨_, .inr ⟨_,U (by simpa using t)⟩⟩
  have hJ:JC (J (cH vt (l.take (b6+1)))) [128] a7 b0:=⟨by rw[a1];exact a6 (by simpa using t),fun _ _ _ _ w0 p=>C _ _ _ _ _ w0 p⟩;refine As<|cg<|E (Bc Z Z Ai Ai)<|M Z<|Ah ?_;exact⟨b6+1,AL,⟨G,_,c0,g,hi,hJ⟩,G⟩
 have e:b6=l.length:=G;subst e;rw[Abi] at hJ;refine Az Z<|⟨_,_,Z,Z,?_⟩;exact⟨Z,_, .inl hJ.AB⟩
theorem rf{Ojq:List Tx}{y:Gs}(f:AI c w 0 k [a] 37)(hO:Bu DQ c w [0] a Ojq)(hi:i<Ojq.length):
 Calls QP 127 #[.agg (CL y).toArray,I i,P1 k] w (Bt fun v w'=>AZ w w'∧v=St (Ojq.getD i [])):=by
 have g:=DD.start c w [];replace f:=f.Oc (J:=[]) Z;replace hO:=hO.Dt (J:=[]) Z;generalize Bw c []=c0 at g f hO;have j:=(Co hO hi AO).1;have o:=hO.AB.AD;have p:=hO.AB.AA;have r:=y.2.one;have t:=hO.AB.small;refine AY 10 #[.tmp 5] func127 Z<|Q<|Fa c0 103 fun w1 b3 c1 l AR=>?_;refine V Z<|Q<|E (Al Eh Z f.D.AE Z)<|M Z<|E (Cv Ch) ?_;refine E (Cc CQ Z j.D.DF)<|V Z<|Af Z Z<|⟨g.D.below,?_⟩;rw[hk,dd hi];rfl
theorem uP{Ojq:List Tx}{y:Gs}(j:AI c w 107 k [a] 37)(hO:Bu DQ c w [0] a Ojq)(g:∀i∈l,0≤i∧i<(Ojq.length:Nat)):
 ∀c1 w1,BE c w Hg c1 w1→∀q∈cH y l,Calls QP 127 (#[.agg (CL q.1).toArray,I q.2]++#[P1 k]) w1 (Bt fun v w'=>AZ w1 w'∧v=St (Ojq.getD q.2 [])):=fun c1 w1 hJ q o=>by
 obtain⟨i,hi,rfl⟩:=Aag.1 o;have:=g i hi;have f:=hJ.nA;exact rf ((j.Oc Z).D f Z) (EA.D (hO.Dt Z) f Z) (by show i.toNat<Ojq.length;omega)
theorem KZ{b:List UInt8}(h:s.length=n):Gp n (s++b)=some (s,b):=by
 subst h;rw[Gp,zm Bb,Ad7 Z,Afe Z]
theorem GS(h:n<256^k):Bi (be k (n:Int))=n:=by rw[Ob,Adw h]
theorem VB(h:n<4294967296)(t:List UInt8):Kh plain (be 4 (n:Int)++t)=some ((n:Int),t):=by
 rw[Kh,KZ (Be _ _)];simp only[Aa7,plain];rw[GS G]
theorem VC(h:Fb p=true)(t:List UInt8):Kh plain (be 4 p++t)=some (p,t):=by
 simp only[Fb,kg,pn] at h;obtain⟨n,rfl⟩:=Abv h.1;exact VB G t
theorem jz(h:-1≤p∧p<12)(t:List UInt8):Kh minus (be 4 p++t)=some (p,t):=by
 rw[UL];by_cases e:p=-1
 ·subst e;have f:be 4 (-1)=be 4 ((4294967295:Nat):Int):=Qx 4 _ _ AO;rw[f,VB G];rfl
 ·obtain⟨n,rfl⟩:=Abv (show 0≤p by omega);rw[VB G];simp only[Aa7,mI];rw[ss G]
theorem Yb:∀(l:List Int) (t:List UInt8),(∀x∈l,Fb x=true)→Jo plain l.length (l.flatMap (be 4)++t)=some (l,t)
 |[],t,_=>rfl
 |x::l,t,h=>by
  rw[SG,Jo,Aaa,oo,VC (h x Bb)];simp only[Aa5];rw[Yb l t (fun y hy=>h y (by simp[hy]))];rfl
theorem VD:∀(l:List (Int×Int)) (t:List UInt8),(∀x∈l,Gi x=false)→Gq plain minus l.length (l.flatMap PF++t)=some (l,t)
 |[],t,_=>rfl
 |x::l,t,h=>by
  have hx:=h x Bb;simp only[Gi,Aa1,Aay] at hx;rw[SG,Gq,Aaa,PF,oo,oo,jz G];simp only[Aa5];rw[VC (by simp only[Fb,kg,pn];omega)];simp only[Aa5];rw[VD l t (fun y hy=>h y (by simp[hy]))];rfl
theorem zf{r:Rec}{t:List UInt8}(h:Fb p=true):BT plain 105 (r,be 4 p++t)=some ({r with id:=p},t):=by
 simp only[BT];rw[VC h];rfl
theorem fdN{r:Rec}{t:List UInt8}(h:s.length≤40):BT plain 110 (r,be 1 (s.length:Nat)++s++t)=some ({r with name:=s},t):=by
 simp only[BT];rw[oo,KZ (Be _ _)];simp only[Aa5];rw[GS G,KZ Z];rfl
theorem zD{r:Rec}{x t:List UInt8}(h:x.length=32):BT plain 100 (r,x++t)=some ({r with AK:=x},t):=by
 simp only[BT];rw[KZ h];rfl
theorem fdL{r:Rec}{t:List UInt8}(h:∀y∈l,Fb y=true)(hl:l.length≤2000)(f:r.list=[]):BT plain 108 (r,be 4 (l.length:Nat)++l.flatMap (be 4)++t)=some ({r with list:=l},t):=by
 simp only[BT];rw[oo,KZ (Be _ _)];simp only[Aa5];rw[GS G,Yb l t h];simp only[Aa7,f,Abu]
theorem fdS{r:Rec}{t:List UInt8}(h:∀y∈u,Gi y=false)(hl:u.length≤14)(f:r.Bo=[]):BT plain 115 (r,be 1 (u.length:Nat)++u.flatMap PF++t)=some ({r with Bo:=u},t):=by
 simp only[BT];rw[oo,KZ (Be _ _)];simp only[Aa5];rw[GS G,VD u t h];simp only[Aa7,f,Abu]
theorem uQ{c:UInt8}{x y:Rec×List UInt8}(h:BT plain c.toNat x=some y):Dm plain [c] x=some y:=by
 simp[Dm,h]
theorem zg{c d:UInt8}{x y z:Rec×List UInt8}(h:BT plain c.toNat x=some y)(f:BT plain d.toNat y=some z):Dm plain [c,d] x=some z:=by
 simp[Dm,h,f]
theorem uR{c d e:UInt8}{x y z u:Rec×List UInt8}(h:BT plain c.toNat x=some y)(f:BT plain d.toNat y=some z)(g:BT plain e.toNat z=some u):Dm plain [c,d,e] x=some u:=by
 simp[Dm,h,f,g]
theorem LY{k:UInt8}{r:Rec}(h:Dm plain (Cb k.toNat) (EV k.toNat,s)=some (r,[]))(f:FT r=true):EC plain (k::s)=some r:=by
 show(Dm plain (Cb k.toNat) (EV k.toNat,s)).bind QX=_
 rw[h];show QX (r,[])=_
 rw[QX,zm ⟨Z,f⟩]
theorem rh{r:Rec}(o:FT r=true):EC plain (bytesOf r)=some r:=by
 obtain⟨b1,b0,hi,a7,hd,hl,_,hs,a1,a8⟩:=(HZ r).1 o;rw[NY] at b0;obtain⟨w1,w2,U,R,I⟩:=b0;obtain⟨k,i,C,d,l,s⟩:=r;dsimp only at*;have O:k=1∨k=2∨k=3∨k=4∨k=5∨k=6∨k=7∨k=8:=by
  simp only[KL,Aa1,Aay] at b1;omega
 have a6:l.length≤2000:=G;rcases O with rfl|rfl|rfl|rfl|rfl|rfl|rfl|rfl
 ·have f:=w2.resolve_left AO;have p:=U.resolve_left AO;have j:=R.resolve_left AO;subst f p j;exact LY (k:=1) (zg (zf hi) (by have h:=fdS (r:=⟨1,i,[],[],[],[]⟩) (t:=[]) a8 (by have:=hs AO;omega) Z;rwa [Aaz] at h)) o
 ·have f:=w2.resolve_left AO;have p:=U.resolve_left AO;subst f p;have e:bytesOf ⟨2,i,[],[],l,s⟩=2::(be 4 i++(be 4 (l.length:Nat)++l.flatMap (be 4)++(be 1 (s.length:Nat)++s.flatMap PF))):=by
   simp[bytesOf,A4,A3,A2,A1,bI,bN,bL,bS,hasB,Cb,be,MO,oo]
  rw[e];exact LY (k:=2) (uR (zf hi) (fdL (r:=⟨2,i,[],[],[],[]⟩) a1 a6 Z) (by have h:=fdS (r:=⟨2,i,[],[],l,[]⟩) (t:=[]) a8 (by have:=hs AO;omega) Z;rwa [Aaz] at h)) o
 ·have f:=w2.resolve_left AO;have p:=U.resolve_left AO;have j:=R.resolve_left AO;have g:=I.resolve_left AO;subst f p j g;exact LY (k:=3) (uQ (by have h:=zf (r:=EV 3) (t:=[]) hi;rwa [Aaz] at h)) o
 ·have f:=w2.resolve_left AO;have g:=I.resolve_left AO;subst f g;have e:bytesOf ⟨4,i,[],d,l,[]⟩=4::(be 4 i++(d++(be 4 (l.length:Nat)++l.flatMap (be 4)))):=by
   simp[bytesOf,A4,A3,A2,A1,bI,bN,bL,bS,hasB,Cb,be,MO,oo]
  rw[e];exact LY (k:=4) (uR (zf hi) (zD (by have:=hd AO;omega)) (by have h:=fdL (r:=⟨4,i,[],d,[],[]⟩) (t:=[]) a1 a6 Z;rwa [Aaz] at h)) o
 ·have f:=w2.resolve_left AO;have g:=I.resolve_left AO;subst f g;have e:bytesOf ⟨5,i,[],d,l,[]⟩=5::(be 4 i++(d++(be 4 (l.length:Nat)++l.flatMap (be 4)))):=by
   simp[bytesOf,A4,A3,A2,A1,bI,bN,bL,bS,hasB,Cb,be,MO,oo]
  rw[e];exact LY (k:=5) (uR (zf hi) (zD (by have:=hd AO;omega)) (by have h:=fdL (r:=⟨5,i,[],d,[],[]⟩) (t:=[]) a1 a6 Z;rwa [Aaz] at h)) o
 ·have J:=w1.resolve_left AO;have f:=w2.resolve_left AO;have j:=R.resolve_left AO;have g:=I.resolve_left AO;subst J f j g;have e:bytesOf ⟨6,0,[],d,[],[]⟩=6::(d++[]):=by
   simp[bytesOf,A4,A3,A2,A1,bI,bN,bL,bS,hasB,Cb,be,MO,oo]
  rw[e];exact LY (k:=6) (uQ (zD (by have:=hd AO;omega))) o
 ·have J:=w1.resolve_left AO;have j:=R.resolve_left AO;have g:=I.resolve_left AO;subst J j g;have e:bytesOf ⟨7,0,C,d,[],[]⟩=7::(be 1 (C.length:Nat)++C++d):=by
   simp[bytesOf,A4,A3,A2,A1,bI,bN,bL,bS,hasB,Cb,be,MO,oo]
  rw[e];exact LY (k:=7) (zg (fdN (by have:=a7 AO;omega)) (by have h:=zD (r:=⟨7,0,C,[],[],[]⟩) (t:=[]) (x:=d) (by have:=hd AO;omega);rwa [Aaz] at h)) o
 ·have J:=w1.resolve_left AO;have p:=U.resolve_left AO;have j:=R.resolve_left AO;have g:=I.resolve_left AO;subst J p j g;have e:bytesOf ⟨8,0,C,[],[],[]⟩=8::(be 1 (C.length:Nat)++C++[]):=by
   simp[bytesOf,A4,A3,A2,A1,bI,bN,bL,bS,hasB,Cb,be,MO,oo]
  rw[e];exact LY (k:=8) (uQ (fdN (by have:=a7 AO;omega))) o
theorem Ii{a:List UInt8}(h:a.length=n):(a++s).drop n=s:=by subst h;exact Afe Z
theorem GU{b:List UInt8}(h:s.length=n):(s++b).take n=s:=by subst h;exact Ad7 Z
theorem nO{r:Rec}(j:FT r=true)(C:n≤1073741824)(t:List UInt8):Hn (Hc r (n:Int)++t)=some (r,n,Jq r):=by
 have I:=Xj j;obtain⟨B,f⟩:∃B,B=bytesOf r:=⟨_,Z⟩;have e:Hc r (n:Int)++t=be 3 (B.length:Nat)++(be 4 (n:Int)++(B++(be 8 (TA (Iv r n):Nat)++t))):=by
  rw[f];simp[Hc,Iv,oo]
 have g:Hc r (n:Int)++t=Iv r n++(be 8 (TA (Iv r n):Nat)++t):=by simp[Hc,oo]
 have hl:(Hc r (n:Int)++t).length=15+B.length+t.length:=by rw[ft,Nc,f]
 have l:Bi ((Hc r (n:Int)++t).take 3)=B.length:=by rw[e,GU (Be _ _),GS (by rw[f];omega)]
 have o:Bi (((Hc r (n:Int)++t).drop 3).take 4)=n:=by rw[e,Ii (Be _ _),GU (Be _ _),GS G]
 have i:(Iv r n).length=7+B.length:=by rw[PK,f]
 have p:Bi (((Hc r (n:Int)++t).drop (7+B.length)).take 8)=TA (Iv r n):=by
  rw[g,Ii i,GU (Be _ _),GS (by have:=mc (Iv r n);omega)]
 have hT:((Hc r (n:Int)++t).drop 7).take B.length=B:=by
  rw[e,←oo,Ii (by rw[ft,Be,Be]),GU Z]
 have hc:(Hc r (n:Int)++t).take (7+B.length)=Iv r n:=by rw[g,GU i]
 unfold Hn;rw[if_neg G,l,if_neg G,p,hc,if_pos Z,hT,f,rh j,o];dsimp only;rw[if_pos C,Jq]
theorem VE:∀(L acc:List Rec) (f b:Nat),(∀r∈L,FT r=true)→acc.length+L.length≤1073741824→L.length<f→Gj f (Gf acc.length L) acc 0 b=(acc++L,0,b+EL L)
 |[],acc,f,b,_,_,hf=>by
  obtain⟨f,rfl⟩:∃g,f=g+1:=⟨f-1,by simp at hf;omega⟩;have e:Hn []=none:=rfl;simp[Gj,Gf,e,EL]
 |r::L,acc,f,b,i,l,hf=>by
  rw[List.length_cons] at l hf;obtain⟨f,rfl⟩:∃g,f=g+1:=⟨f-1,G⟩;rw[Gj,Gf,nO (i r Bb) G];dsimp only;have j:(if acc=[] then acc.length else 0)=0:=by split<;>simp_all
  rw[j,zm G,Ii (by rw[Nc,Jq])];have:=VE L (acc++[r]) f (b+Jq r) (fun x hx=>i x (by simp[hx])) (by rw[ft,Abt];omega) G;rw[ft,Abt] at this;rw[this,Ng,oo];simp only[Af6];congr 2;omega
theorem jA(f:∀r∈P,FT r=true)(g:P.length≤1073741824):Ho (Gf 0 P)=(P,0,EL P):=by
 have h:=VE P [] ((Gf 0 P).length+1) 0 f (by simpa using g) (by rw[Gr];have:P.length≤EL P:=by{clear f g;induction P with|nil=>exact kM _|cons r P i=>rw[Ng,SG,Jq];omega};omega);rw[Ho];simpa using h
def jH(life:Nat):Tx:=[115,105,108,111,32,108,111,103]++be 8 (life:Int)
def HS(life:Nat):Tx:=jH life++be 8 ((TA (jH life):Nat):Int)++replicate 40 0
theorem uS(life:Nat):(jH life).length=16:=by simp[jH,Be]
theorem Qe(life:Nat):(HS life).length=64:=by simp[HS,uS,Be]
def nP(life n:Nat)(s:Tx):Tx:=be 8 (life:Int)++be 4 (n:Int)++be 4 ((s.length:Nat):Int)++s
def FA(life n:Nat)(s:Tx):Tx:=nP life n s++be 8 ((TA (nP life n s):Nat):Int)
theorem ZI(life n:Nat)(s:Tx):(nP life n s).length=16+s.length:=by simp[nP,Be];omega
theorem JK(life n:Nat)(s:Tx):(FA life n s).length=24+s.length:=by simp[FA,ZI,Be];omega
def Ft(life:Nat):Nat→List (List Rec)→Tx
 |_,[]=>[]
 |n,L::r=>FA life n (Gf 0 L)++Ft life (n+1) r
theorem VF(life:Nat):∀(f:List (List Rec)) (n:Nat) (L:List Rec),Ft life n (f++[L])=Ft life n f++FA life (n+f.length) (Gf 0 L)
 |[],n,L=>by simp[Ft]
 |Mjq::f,n,L=>by
  rw[Adz,Ft,Ft,VF life f,oo,SG];congr 3;omega
def Ko(life:Nat):Nat→Nat→Tx→List Tx
 |0,_,_=>[]
 |f+1,n,s=>
  if s.length<24 then[]
  else if s.length-24<Bi ((s.drop 12).take 4)∨Bi (s.take 8)≠life∨Bi ((s.drop 8).take 4)≠n then[]
  else if Bi ((s.drop (16+Bi ((s.drop 12).take 4))).take 8)≠TA (s.take (16+Bi ((s.drop 12).take 4))) then[]
  else(s.drop 16).take (Bi ((s.drop 12).take 4))::Ko life f (n+1) (s.drop (24+Bi ((s.drop 12).take 4)))
theorem jB{t:Tx}(C:life<18446744073709551616)(I:n<4294967296)(J:W.length<4294967296):Ko life (k+1) n (FA life n W++t)=W::Ko life k (n+1) t:=by
 have e:FA life n W++t=be 8 (life:Int)++(be 4 (n:Int)++(be 4 ((W.length:Nat):Int)++(W++(be 8 ((TA (nP life n W):Nat):Int)++t)))):=by simp[FA,nP,oo]
 have g:FA life n W++t=nP life n W++(be 8 ((TA (nP life n W):Nat):Int)++t):=by simp[FA,oo]
 have hl:(FA life n W++t).length=24+W.length+t.length:=by rw[ft,JK]
 have i:Bi ((FA life n W++t).take 8)=life:=by rw[e,GU (Be _ _),GS G]
 have g2:Bi (((FA life n W++t).drop 8).take 4)=n:=by rw[e,Ii (Be _ _),GU (Be _ _),GS G]
 have j:Bi (((FA life n W++t).drop 12).take 4)=W.length:=by
  rw[e,←oo,Ii (by rw[ft,Be,Be]),GU (Be _ _),GS G]
 have l:((FA life n W++t).drop 16).take W.length=W:=by
  rw[e,←oo,←oo,Ii (by simp[Be]),GU Z]
 have o:(FA life n W++t).take (16+W.length)=nP life n W:=by rw[g,GU (ZI _ _ _)]
 have p:Bi (((FA life n W++t).drop (16+W.length)).take 8)=TA (nP life n W):=by
  rw[g,Ii (ZI _ _ _),GU (Be _ _),GS (by have:=mc (nP life n W);omega)]
 have r:(FA life n W++t).drop (24+W.length)=t:=Ii (JK _ _ _);rw[Ko,ss G,j,i,g2,p,o,l,r,ss G,ss Bb]
theorem jC(h:1≤life):Ko life k n (replicate m 0)=[]:=by
 cases k with
 |zero=>rfl
 |succ k=>
  rw[Ko];split
  ·rfl
  ·rw[zm];right;left;rw[List.take_replicate];have:∀f,Bi (replicate f 0)=0:=fun f=>by
    induction f with
    |zero=>rfl
    |succ f g=>rw[Adp,Jy,g];rfl
   rw[this];omega
theorem Tn{life:Nat}(j:1≤life)(l:life<18446744073709551616):∀(i:List (List Rec)) (f n z:Nat),n+i.length≤4294967296→(∀L∈i,EL L<4294967296)→i.length≤f→Ko life f n (Ft life n i++replicate z 0)=i.map (Gf 0)
 |[],f,n,z,_,_,_=>by rw[Ft,Abu];exact jC j
 |L::i,f,n,z,r,o,hf=>by
  rw[SG] at r hf;obtain⟨f,rfl⟩:∃g,f=g+1:=⟨f-1,G⟩;rw[Ft,oo,jB l G (by rw[Gr];exact o L Bb),Tn j l i f (n+1) z G (fun Mjq p=>o Mjq (by simp[p])) G];rfl
theorem x4(a b c d:Nat):(a^^^b)^^^(c^^^d)=(a^^^c)^^^(b^^^d):=by
 apply Agd;intro i;simp only[Afa];cases a.testBit i<;>cases b.testBit i<;>cases c.testBit i<;>cases d.testBit i<;>rfl
theorem aaK(h:k<256):(256≤2*k)=(k.testBit 7=true):=by
 have:=(by decide:∀k:Fin 256,decide (256≤2*k.1)=k.1.testBit 7) ⟨k,h⟩;dsimp only at this;rw[←this,decide_eq_true_eq]
theorem ZJ(h:k<256):TB k=(2*k)^^^(if k.testBit 7=true then 285 else 0):=by
 rw[TB];simp only[aaK h];split<;>simp
theorem ri(x y:Nat):2*(x^^^y)=(2*x)^^^(2*y):=by
 apply Agd;intro i;cases i with
 |zero=>simp[Afa]
 |succ i=>
  rw[Afa];simp only[Nat.testBit_succ,Nat.mul_div_cancel_left _ (show 0<2 by decide),Afa]
theorem nQ(hx:k<256)(hy:m<256):TB (k^^^m)=TB k^^^TB m:=by
 rw[ZJ hx,ZJ hy,ZJ (TQ hx hy),ri,x4];congr 1;rw[Afa];cases k.testBit 7<;>cases m.testBit 7<;>simp
theorem cI:∀(f b x y n m:Nat),x<256→y<256→mulL f b (x^^^y) (n^^^m)=mulL f b x n^^^mulL f b y m
 |0,_,_,_,_,_,_,_=>rfl
 |f+1,b,x,y,n,m,hx,hy=>by
  rw[mulL,mulL,mulL];split
  ·rfl
  ·rw[nQ hx hy,←cI f _ _ _ _ _ (TP hx) (TP hy)];congr 1;split
   ·exact x4 _ _ _ _
   ·rfl
theorem ZK(f:k<256)(g:m<256):UInt8.ofNat (k^^^m)=UInt8.ofNat k^^^UInt8.ofNat m:=by
 apply Af4;rw[Af2];simp only[Aem];rw[Adw (TQ f g),Adw f,Adw g]
theorem cJ(x y c:UInt8):JA (x^^^y) c=JA x c^^^JA y c:=by
 have hx:=x.toNat_lt;have hy:=y.toNat_lt;rw[JA,JA,JA,Af2,ij,ij,ij,←ZK (YZ _ _ _ _ G G) (YZ _ _ _ _ G G),←cI _ _ _ _ _ _ G G];rfl
theorem jD(x:UInt8):JA x 0=0:=by rw[JA,ij,show(0:UInt8).toNat=0 from Z,Xe];rfl
theorem aaL(a b c d:UInt8):(a^^^b)^^^(c^^^d)=(a^^^c)^^^(b^^^d):=by
 apply Af4;simp only[Af2];exact x4 _ _ _ _
theorem Oz(h:k<s.length):s.getD k 0=s[k]:=by simp[hk,h]
def HD(x:Nat→UInt8):List UInt8→Nat→UInt8→UInt8
 |[],_,a=>a
 |c::r,k,a=>HD x r (k+1) (a^^^JA (x k) c)
theorem cK(x y:Nat→UInt8):∀(r:List UInt8) (k:Nat) (a b:UInt8),HD (fun q=>x q^^^y q) r k (a^^^b)=HD x r k a^^^HD y r k b
 |[],_,_,_=>rfl
 |c::r,k,a,b=>by
  rw[HD,HD,HD,←cK x y r,cJ,aaL]
theorem JL{x y:Nat→UInt8}:∀(r:List UInt8) (k:Nat) (a:UInt8),(∀q,k≤q→q<k+r.length→x q=y q)→HD x r k a=HD y r k a
 |[],_,_,_=>rfl
 |c::r,k,a,h=>by
  rw[HD,HD,h k (kM _) Bb,JL r (k+1) _ (fun q f g=>h q G (by rw[SG];omega))]
theorem VG{f:Nat→List UInt8}{n:Nat}:∀(r:List UInt8) (k:Nat) (b:List UInt8),(∀q,k≤q→q<k+r.length→(f q).length=n)→b.length=n→
 (Ga f r k b).length=n∧∀j,j<n→(Ga f r k b).getD j 0=HD (fun q=>(f q).getD j 0) r k (b.getD j 0)
 |[],k,b,_,g=>⟨g,fun _ _=>rfl⟩
 |c::r,k,b,h,g=>by
  have O:=h k (kM _) Bb;have hl:(Kf b (f k) c).length=n:=by rw[OM G];exact g
  obtain⟨i,l⟩:=VG r (k+1) (Kf b (f k) c) (fun q t g2=>h q G (by rw[SG];omega)) hl;refine⟨i,fun j o=>?_⟩;rw[Ga,HD,l j o];congr 1;rw[Kf];split
  ·rename_i e;rw[e,jD];simp
  have p:j<(List.zipWith (fun x y=>x^^^JA y c) b (f k)).length:=by rw[List.length_zipWith];omega
  rw[Oz p,Oz (show j<b.length by omega),Oz (show j<(f k).length by omega),List.getElem_zipWith]
def cM(q b:Nat):Nat→UInt8:=fun p=>if p=q then UInt8.ofNat (2^b) else 0
theorem jE(x:UInt8):x=(List.range 8).foldl (fun a b=>a^^^(if x.toNat.testBit b=true then UInt8.ofNat (2^b) else 0)) 0:=by
 have h:=(by decide:∀x:Fin 256,x.1=((List.range 8).foldl (fun a b=>a^^^(if x.1.testBit b=true then UInt8.ofNat (2^b) else 0)) (0:UInt8)).toNat) ⟨x.toNat,x.toNat_lt⟩;exact Af4 h
theorem nR{F Gjq:(Nat→UInt8)→UInt8}(hF:∀x y,F (fun q=>x q^^^y q)=F x^^^F y)(t:∀x y,Gjq (fun q=>x q^^^y q)=Gjq x^^^Gjq y)(i:F (fun _=>0)=0)(j:Gjq (fun _=>0)=0)
 (I:∀x y,(∀q,q<k→x q=y q)→F x=F y)(J:∀x y,(∀q,q<k→x q=y q)→Gjq x=Gjq y)(h:∀q b,q<k→b<8→F (cM q b)=Gjq (cM q b))(x:Nat→UInt8):F x=Gjq x:=by
 have R:∀q,q<k→∀v:UInt8,F (fun p=>if p=q then v else 0)=Gjq (fun p=>if p=q then v else 0):=fun q f v=>by
  have key:∀(l:List Nat),(∀b∈l,b<8)→∀a:UInt8,F (fun p=>if p=q then a else 0)=Gjq (fun p=>if p=q then a else 0)→F (fun p=>if p=q then l.foldl (fun a b=>a^^^(if v.toNat.testBit b=true then UInt8.ofNat (2^b) else 0)) a else 0)=Gjq (fun p=>if p=q then l.foldl (fun a b=>a^^^(if v.toNat.testBit b=true then UInt8.ofNat (2^b) else 0)) a else 0):=by
   intro l;induction l with
   |nil=>intro _ a g;exact g
   |cons b l r=>
    intro hl a g;refine r (fun C o=>hl C (by simp[o])) _ ?_;have e:(fun p=>if p=q then(a^^^(if v.toNat.testBit b=true then UInt8.ofNat (2^b) else 0)) else 0)=(fun p=>(if p=q then a else 0)^^^(if v.toNat.testBit b=true then cM q b p else 0)):=by
     funext p;simp only[cM];split<;>split<;>simp
    rw[e,hF,t,g];congr 1;split
    ·exact h q b f (hl b Bb)
    rw[i,j]
  have hv:=key (List.range 8) (fun b o=>by simpa using o) 0 (by simp only[ite_self];rw[i,j]);rw[←jE v] at hv;exact hv
 have all:∀n,n≤k→F (fun p=>if p<n then x p else 0)=Gjq (fun p=>if p<n then x p else 0):=by
  intro n;induction n with
  |zero=>intro _;simp only[Ahg,if_false];rw[i,j]
  |succ n r=>
   intro g;have e:(fun p=>if p<n+1 then x p else 0)=(fun p=>(if p<n then x p else 0)^^^(if p=n then x n else 0)):=by
    funext p;by_cases g:p<n
    ·rw[zm g,zm G,ss G];simp
    by_cases o:p=n
    ·subst o;rw[zm G,ss g,zm Z];simp
    rw[ss G,ss g,ss o];simp
   rw[e,hF,t,r G,R n G]
 have:=all k (kM _);rw[I x (fun p=>if p<k then x p else 0) (fun q f=>by rw[zm f]),J x (fun p=>if p<k then x p else 0) (fun q f=>by rw[zm f])];exact this
structure Yc where
 act:Int
 d:Int
 n:Int
 t:List UInt8
abbrev nS(a:Yc):List Value:=[I a.act,I a.d,I a.n,St a.t]
def RH:Shape Yc:=Shape.flat 4 nS (fun a=>(Go.Eng.Int64 a.act∧Go.Eng.Int64 a.d∧Go.Eng.Int64 a.n)∧a.t.length≤140737488355328) (fun _=>rfl) (fun _ u hu=>by simp[nS] at hu;rcases hu with rfl|rfl|rfl|rfl<;>rfl)
theorem jF{z:Nat}(f:z≤1000):Calls QP 27 #[I z] w (Bt fun v w'=>AZ w w'∧v=I (Ca z:Nat)):=by
 have e:((15+(z:Int)+8+64-1)/64)=((Ca z:Nat):Int):=by
  rw[Ca];omega
 refine AY 9 #[.tmp 2] func27 Z<|Q<|V Z<|Q<|M Z<|E (Bc Z Z Ai Ai)<|E (Bc Z Z Ai Ai) ?_;refine E (Bc Z Z Ai Ai)<|E (Gu Z Z Ai Ai)<|E (dD Z Z G G G) ?_;rw[e];refine V Z<|Af Z Z ?_;exact⟨Aar _ _,Z⟩
theorem EG(i n:Int)(hi:Go.Eng.Int64 i)(f:0<n)(r:n≤9223372036854775807):Calls QP 5 #[I i,I n] w (Bt fun v w'=>AZ w w'∧v=I (within i n)):=by
 have g:IntKind.u64.wrap i=i%18446744073709551616:=by simp[IntKind.wrap,IntKind.signed,IntKind.bits]
 have j:0≤i%18446744073709551616:=Ael _ AO;have o:=KV i n f;have p:=KW i n f;refine AY 11 #[.tmp 4] func5 Z<|Q<|V Z<|Q<|M Z<|E (JR underlying3 underlying73 Z)<|M Z<|E (ED underlying3 underlying73 Z Ai Ai)<|E (vV Z Z G) ?_;have l:(IntKind.u64.wrap i).tmod n=within i n:=by rw[g,Int.tmod_eq_emod_of_nonneg j];rfl
 rw[l];refine E (EY underlying73 underlying3 Z G G)<|V Z ?_;refine Af Z Z ?_;exact⟨Aar _ _,Z⟩
theorem eJ{a2 r t C:Int}{L:List Yc}(j:Rd RH w a L)(K:Rd Cg w y l):Calls QP 4 #[.agg #[I p,I a2,I r,I t,I C,a,y]] w (Bt fun v' w'=>AZ w w'∧∃b:Bool,v'= .bool b):=by
 obtain⟨c,hO,hc⟩:=Ay w;have f:Bu RH c w [0] a L:=Rd.Du j (fun k O=>by simp[hc,AU]);have hK:Bu Cg c w [0] y l:=Rd.Du K (fun k O=>by simp[hc,AU]);have g:=j.small;have g:=K.small;have a1:=j.YE
 have g:=j.AD;have g:=K.AD;refine AY 34 #[.tmp 2] func4 Z<|Q<|Fa c 101 fun w1 b1 c1 g g=>?_;refine V Z<|Q<|E (Aa Qy Z)<|E (Al aB Z g.AE Z)<|E (Ez lJ f.D.AB Z)<|E (Aa pE Z)<|E (Al BQ Z g.AE Z)<|E (Ez BM hK.D.AB Z)<|E (Bc Z Z Ai Ai)<|V Z<|Ag<|Q<|V Z ?_;refine An ?_;refine AG (σ:=Nat×Nat) (fun i=>[(1,P1 b1),(3,I (i.2:Nat)),(4,I (i.1:Nat))]) (fun i w'=>(i.1≤L.length∧i.2≤900000000000000)∧∃c',CD w c' w'∧Bu RH c' w' [0] a L∧AI c' w' 101 b1 [I p,I a2,I r,I t,I C,a,y] 25) (fun i=>L.length-i.1) (0,L.length+l.length) AL ⟨⟨Nat.zero_le _,by dsimp only;omega⟩,_,hO.D,f.D,g⟩ ?_;rintro⟨i,q⟩ J ⟨⟨hi,J⟩,R,hO,f,g⟩;dsimp only at hi J⊢;refine Ag<|Q<|M Z<|E (Aa Qy Z)<|E (Al aB Z g.AE Z)<|E (Ez lJ f.AB Z)<|E (AX Z Z)<|M Z ?_;apply AW true 2 _ CK
 ·intro J;refine wo<|M Z<|wo<|E (AX Z Z) ?_;exact EQ 2
 refine Ah<|BA Z (fun J=>?_) fun J=>?_
 ·obtain⟨R,R⟩:=J;have R:i<L.length:=G;have J:q<1048576:=G;have J:=(Co f R AO).1;obtain⟨x,hx⟩:∃x,x=L[i]:=⟨_,Z⟩;have U:=a1 L[i] (List.getElem_mem R);rw[←hx] at J U;obtain⟨R,R⟩:=U;refine As<|Ag<|An<|cg<|M Z<|E (Aa Qy Z)<|E (Al aB Z g.AE Z)<|M Z<|E (BJ lJ f.AB Z Z Z G G) ?_;refine E (Bn fH Z)<|E (FF CQ Z J.DF Z)<|E (Ey underlying9 Z)<|E (Bc Z Z Ai Ai)<|V Z<|cg<|M Z<|E (Bc Z Z Ai Ai) ?_;refine V Z ?_;refine⟨(i+1,q+x.t.length),AL,⟨⟨by dsimp only;omega,by dsimp only;omega⟩,_,hO,f,g⟩,by dsimp only;omega⟩
 refine Az Z<|Q<|M Z<|E (CM Z Z)<|V Z<|Af Z Z ?_;exact⟨hO.below,_,Z⟩
theorem nT{a2 i l o:Int}(hi:Go.Eng.Int64 p∧Go.Eng.Int64 a2∧Go.Eng.Int64 i∧Go.Eng.Int64 l∧Go.Eng.Int64 o)(b7:a.oneCell'=true)(b8:y.oneCell'=true):Calls QP 6 #[.agg #[I p,I a2,I i,I l,I o,a,y]] w (Bt fun v' w'=>AZ w w'∧∃(s:CO) (n N:Nat),(Small s∧s.size≤9)∧(s.k+s.m≤n∧n≤7)∧(4≤N∧N≤12)∧(s.m:Int)=within a2 3∧v'= .tuple #[.agg (DB s).toArray,I n,I N]):=by
 obtain⟨a1,t,r,b0,b3⟩:=hi;have f:=KV p 3 G;have f:=KW p 3 G;have f:=KV a2 3 G;have f:=KW a2 3 G;have f:=KV i 9 G;have f:=KW i 9 G;have f:=KV l 3 G;have f:=KW l 3 G;have f:=KV o 9 G;have f:=KW o 9 G;obtain⟨c,hO,hc⟩:=Ay w;refine AY 32 #[.cell 2 29, .tmp 3, .tmp 4] func6 Z<|Q<|Fa c 101 fun w1 b1 c1 f j=>?_;refine EK c1 102 Sb fun w2 b2 c2 f g=>za Z<|V Z<|Ag<|WC.mono (N:=(fun e w'=>∃(c':Nat→Nat) (b5:Nat),Sub [(4000000, .tuple #[]),(1,P1 b1),(2,P1 b2),(3,I 0),(4,I 0),(5,P1 b5)] e∧CD w c' w'∧AI c' w' 101 b1 [I p,I a2,I i,I l,I o,a,y] 25∧AI c' w' 102 b2 [I 0,I 0,I 0] 29∧AI c' w' 105 b5 [I (1+within p 3),I (within a2 3),I (1+within i 9)] 29)) ?_ ?_
 ·refine EB c2 [] [0,1,2,0,0,1,2,0,1,2,0,0,2,3] (.Au 0 (.Au 1 (.Au 4 (.Au 5 (.Au 7 (.Au 8 (.two 2 (.Au 3 (.two 6 (.two 9 (.Au 10 (.Au 11 (.one 12 (.one 13 .nil)))) 12 (.one 9 (.Au 10 (.Au 11 (.one 13 .nil))))) 12 (.one 6 (.one 9 (.Au 10 (.Au 11 (.one 13 .nil))))))) 12 (.one 2 (.Au 3 (.one 6 (.one 9 (.Au 10 (.Au 11 (.one 13 .nil)))))))))))))) fun f f f=>?_;refine Cd Z (Aa pA Z)<|Cj Z Z Z f.kp (j.D.kb AF Z Z) Z<|Cd Z (Aa YJ Z)<|Cj Z Z Z f.kp (j.D.kb AF Z Z) Z<|Cd Z (Aa pB Z)<|Cj Z Z Z f.kp (j.D.kb AF Z Z) Z<|Ck ?_ ?_
  ·refine EM Z (Ac c2 1 (Ab hV Z (EG p 3 a1 G G))) ?_;rintro b4 C ⟨R,C,U,rfl⟩;refine f.Bl C fun f=>Cd Z (Bc Z Z Ai Ai) ?_;refine Ck ?_ ?_
   ·refine EM Z (Ac R 1 (Ab hV Z (EG a2 3 t G G))) ?_;rintro a6 C ⟨U,C,a7,rfl⟩;refine f.Bl C fun f=>Ck ?_ ?_
    ·refine EM Z (Ac U 1 (Ab hV Z (EG i 9 r G G))) ?_;rintro C a7 ⟨a7,a8,b6,rfl⟩;refine f.Bl a8 fun f=>Cd Z (Bc Z Z Ai Ai) ?_;refine Cd Z (By (cells:=#[I (1+within p 3),I (within a2 3),I (1+within i 9)]) Z Ao) ?_;refine EZ Z (CB a7 105 Sb) ?_;rintro _ a7 ⟨b5,a7,rfl,a7,Bv⟩;refine f.Bl a7 fun f=>AV<|Bj Z Z Z (Am CP Z Z Bv Z Z Bg) ?_;rintro _ a7 ⟨Bv,a7⟩;refine Bs ?_;exact⟨_,_,AL,hO.D,j.D,g.D,Bv⟩
    refine EM Z (CB U 105 Sb) ?_;rintro _ U ⟨b5,U,rfl,a7,Bv⟩;refine f.Bl a7 fun f=>EZ Z (Ac U 1 (Ab hV Z (EG i 9 r G G))) ?_;rintro C U ⟨U,U,a7,rfl⟩;refine f.Bl U fun f=>Cd Z (Bc Z Z Ai Ai) ?_;refine Cd Z (By (cells:=#[I (1+within p 3),I (within a2 3),I (1+within i 9)]) Z Ao) ?_;refine AV<|Bj Z Z Z (Am CP Z Z Bv.D Z Z Bg) ?_;rintro _ U ⟨Bv,U⟩;refine Bs ?_;exact⟨_,_,AL,hO.D,j.D,g.D,Bv⟩
   refine EM Z (CB R 105 Sb) ?_;rintro _ R ⟨b5,R,rfl,U,Bv⟩;refine f.Bl U fun f=>EZ Z (Ac R 1 (Ab hV Z (EG a2 3 t G G))) ?_;rintro a6 R ⟨R,U,a7,rfl⟩;refine f.Bl U fun f=>EZ Z (Ac R 1 (Ab hV Z (EG i 9 r G G))) ?_;rintro C R ⟨R,R,U,rfl⟩;refine f.Bl R fun f=>Cd Z (Bc Z Z Ai Ai) ?_;refine Cd Z (By (cells:=#[I (1+within p 3),I (within a2 3),I (1+within i 9)]) Z Ao) ?_;refine AV<|Bj Z Z Z (Am CP Z Z Bv.D Z Z Bg) ?_;rintro _ R ⟨Bv,R⟩;refine Bs ?_;exact⟨_,_,AL,hO.D,j.D,g.D,Bv⟩
  refine EM Z (CB c2 105 Sb) ?_;rintro _ R ⟨b5,R,rfl,U,Bv⟩;refine f.Bl U fun f=>EZ Z (Ac R 1 (Ab hV Z (EG p 3 a1 G G))) ?_;rintro b4 R ⟨R,U,a1,rfl⟩;refine f.Bl U fun f=>Cd Z (Bc Z Z Ai Ai) ?_;refine EZ Z (Ac R 1 (Ab hV Z (EG a2 3 t G G))) ?_;rintro a6 t ⟨t,R,U,rfl⟩;refine f.Bl R fun f=>EZ Z (Ac t 1 (Ab hV Z (EG i 9 r G G))) ?_;rintro C r ⟨r,r,t,rfl⟩;refine f.Bl r fun f=>Cd Z (Bc Z Z Ai Ai) ?_;refine Cd Z (By (cells:=#[I (1+within p 3),I (within a2 3),I (1+within i 9)]) Z Ao) ?_;refine AV<|Bj Z Z Z (Am CP Z Z Bv.D Z Z Bg) ?_;rintro _ r ⟨Bv,r⟩;refine Bs ?_;exact⟨_,_,AL,hO.D,j.D,g.D,Bv⟩
 clear hO j g;rintro r r ⟨r,b5,t,hO,j,g,Bv⟩;refine DN t<|Ag<|AM r [102] [1,0,1,0,1,0,0,1,2,0,0,1,2,0,2,0,0] [0,1,2,3,4,5,6,7,10,11,8,9,12,13,14,15,16] fun t t f=>?_;refine vc Z f.kp (Bv.D.kn CP Z Z)<|AN Z (Aa CN Z)<|vc Z f.kp (Bv.D.kb AF Z Z)<|AN Z (Aa Hk Z)<|vc Z f.kp (Bv.D.kb AF Z Z)<|AN Z (Bc Z Z Ai Ai)<|AN Z (Aa pC Z)<|vc Z f.kp (j.D.kb AF Z Z)<|AN Z (Aa pD Z) ?_;refine vc Z f.kp (j.D.kb AF Z Z)<|Db Z (Ac r 1 (Ab hV Z (EG l 3 b0 G G))) ?_;rintro j j ⟨j,r,t,rfl⟩;refine f.Bl r fun f=>AN Z (Bc Z Z Ai Ai) ?_;refine Db Z (Ac j 1 (Ab hV Z (EG o 9 b3 G G))) ?_;rintro v30 j ⟨j,j,r,rfl⟩;refine f.Bl j fun f=>AN Z (Bc Z Z Ai Ai) ?_;refine Kb Z Z Z (Am CP Z Z g.D Z Z Bg) ?_;rintro _ j ⟨g,j⟩;refine f.Bl j fun f=>Ir Z Z<|Ir Z Z<|AP ?_;refine Ml Z (DZ CP Z g.AE Z) (FD.tmp Z) (FD.tmp Z) ?_;refine⟨hO.D.below,⟨(1+within p 3).toNat,(within a2 3).toNat,(1+within i 9).toNat⟩,(1+within p 3+within a2 3+within l 3).toNat,(4+within o 9).toNat,⟨⟨by dsimp only;omega,by dsimp only;omega,by dsimp only;omega,by dsimp only;omega,by dsimp only;omega⟩,by dsimp only;omega⟩,⟨by dsimp only;omega,G⟩,⟨G,G⟩,by dsimp only;omega,?_⟩;simp only[DB];rw[show(((1+within p 3).toNat:Nat):Int)=1+within p 3 by omega,show(((within a2 3).toNat:Nat):Int)=within a2 3 by omega,show(((1+within i 9).toNat:Nat):Int)=1+within i 9 by omega,show(((1+within p 3+within a2 3+within l 3).toNat:Nat):Int)=1+within p 3+within a2 3+within l 3 by omega,show(((4+within o 9).toNat:Nat):Int)=4+within o 9 by omega]
section
variable {H:Type} {enc:TypeId×Value→H} {P:Program} {W:World} {base:Nat} {sp:Nat→Bool} {held:Bool}
theorem jG{f0 f1 f2 f3:Field}(r:P.underlying d=some (.struct #[f0,f1,f2,f3]))(o:[f0.offset,f1.offset,f2.offset,f3.offset]=[0,1,2,3])
 (t0:P.underlying f0.type=some (.int .i64))(t1:P.underlying f1.type=some (.int .i64))(t2:P.underlying f2.type=some (.int .i64))(t3:P.underlying f3.type=some .string)
 (c:[P.cellsOf f0.type,P.cellsOf f1.type,P.cellsOf f2.type,P.cellsOf f3.type]=[1,1,1,1])(ce:P.cellsOf d=4):aD enc P W base sp held RH (fun _=>True) d:=fun n cs y h p=>by
 obtain⟨xs,f,rfl,rfl,t,f,hf⟩:=DataW.trod_struct r h;rw[ce] at t;have C:xs.length=4:=f;simp only[Ac8,Ae4] at o c;obtain⟨a1,a6,a7,a8⟩:=o;obtain⟨c0,c1,c2,U⟩:=c;have f:=hf 0 f0 Z;have g:=hf 1 f1 Z;have i:=hf 2 f2 Z;have l:=hf 3 f3 Z
 match cs,t,xs,C,f,g,i,l,p with
 |[t,C,J,R],_,[b0,b1,b2,b3],_,f,g,i,l,p=>
  rw[a1,c0] at f;rw[a6,c1] at g;rw[a7,c2] at i;rw[a8,U] at l;have a8:∀x∈DataW.weightsEach P [f0.type,f1.type,f2.type,f3.type] [b0.1,b1.1,b2.1,b3.1],x≤reachBytes:=fun x hx=>p x (by simp only[DataW.weights,r];exact hx);obtain⟨p,U,w0⟩:=Ke t0 f;obtain⟨f,a1,w1⟩:=Ke t1 g;obtain⟨g,a6,w2⟩:=Ke t2 i;obtain⟨i,a7,b0⟩:=lM t3 l (fun x hx=>a8 x (Agb (j:=3) Z Z x hx));have l:t=I p:=by simpa using U
  have t:C=I f:=by simpa using a1
  have C:J=I g:=by simpa using a6
  have J:R=St i:=by simpa using a7
  exact⟨⟨p,f,g,i⟩,⟨by rw[l,t,C,J],⟨w0,w1,w2⟩,by dsimp only;omega⟩,trivial⟩
theorem eK{R:TypeId}{f0 f1 f2 f3 f4 f5 f6:Field}{v:Value}{t:DataW H}{e9:List MemPlace}(U:P.underlying d=some (.struct #[f0,f1,f2,f3,f4,f5,f6]))(o:[f0.offset,f1.offset,f2.offset,f3.offset,f4.offset,f5.offset,f6.offset]=[0,1,2,3,4,5,6])
 (t0:P.underlying f0.type=some (.int .i64))(t1:P.underlying f1.type=some (.int .i64))(t2:P.underlying f2.type=some (.int .i64))(t3:P.underlying f3.type=some (.int .i64))(t4:P.underlying f4.type=some (.int .i64))(t5:P.underlying f5.type=some (.slice A))(t6:P.underlying f6.type=some (.slice R))
 (c:[P.cellsOf f0.type,P.cellsOf f1.type,P.cellsOf f2.type,P.cellsOf f3.type,P.cellsOf f4.type,P.cellsOf f5.type,P.cellsOf f6.type]=[1,1,1,1,1,1,1])(ce:P.cellsOf d=7)
 (e4:aD enc P W base sp held RH (fun _=>True) A)(e3:aD enc P W base sp held Cg (fun _=>True) R)(cL:P.cellsOf A=4)(c9:P.cellsOf R=1)(bL:1≤P.bytesOf A)(c6:1≤P.bytesOf R)
 (a1:Value.okWide P W .any base d v)(h:DataW.Trod enc P W base sp held d v t e9)(a6:∀x∈DataW.weights P d t,x≤reachBytes):∃b1 b2 b3 b4 b5 vL b7,∃(L:List Yc) (K:List Int),v= .agg #[I b1,I b2,I b3,I b4,I b5,vL,b7]∧(Int64 b1∧Int64 b2∧Int64 b3∧Int64 b4∧Int64 b5)∧Rd RH W vL L∧Rd Cg W b7 K:=by
 unfold Value.okWide at a1;rw[U] at a1;obtain⟨⟨cs⟩,rfl,f,_⟩:=a1;obtain⟨f,h⟩:=h;obtain⟨xs,f,rfl,hd,a7,g,hf⟩:=DataW.trod_struct U h;have f:t= .agg (xs.map (·.1)):=(Prod.mk.inj hd).1;subst f;rw[ce] at a7;have b8:xs.length=7:=g;simp only[Ac8,Ae4] at o c;obtain⟨e0,e1,e2,e5,e6,e7,e8⟩:=o;obtain⟨c0,c1,c2,b0,b6,c7,c8⟩:=c;have f:=hf 0 f0 Z;have g:=hf 1 f1 Z;have i:=hf 2 f2 Z;have l:=hf 3 f3 Z;have p:=hf 4 f4 Z;have r:=hf 5 f5 Z;have C:=hf 6 f6 Z;have a8:cs.length=7:=a7;simp only[Value.cells] at f g i l p r C
 match cs,a8,xs,b8,f,g,i,l,p,r,C,a6 with
 |[b8,b9,c3,c4,c5,a7,a8],_,[h0,h1,h2,h3,x4,h4,h5],_,f,g,i,l,p,r,C,a6=>
  rw[e0,c0] at f;rw[e1,c1] at g;rw[e2,c2] at i;rw[e5,b0] at l;rw[e6,b6] at p;rw[e7,c7] at r;rw[e8,c8] at C;have b0:∀x∈DataW.weightsEach P [f0.type,f1.type,f2.type,f3.type,f4.type,f5.type,f6.type] [h0.1,h1.1,h2.1,h3.1,x4.1,h4.1,h5.1],x≤reachBytes:=fun x hx=>a6 x (by simp only[DataW.weights,U];exact hx);obtain⟨b6,c7,w0⟩:=Ke t0 f;obtain⟨f,c8,w1⟩:=Ke t1 g;obtain⟨g,e0,w2⟩:=Ke t2 i;obtain⟨i,e1,e7⟩:=Ke t3 l;obtain⟨l,e2,e8⟩:=Ke t4 p;obtain⟨L,e5,_⟩:=gd (v:=a7) t5 (s:=RH) (cL.trans Z) AO bL e4 r (fun x hx=>b0 x (Agb (j:=5) Z Z x hx));obtain⟨K,e6,_⟩:=gd (v:=a8) t6 (s:=Cg) (c9.trans Z) AO c6 e3 C (fun x hx=>b0 x (Agb (j:=6) Z Z x hx));have p:b8=I b6:=by simpa using c7
  have r:b9=I f:=by simpa using c8
  have C:c3=I g:=by simpa using e0
  have b0:c4=I i:=by simpa using e1
  have b8:c5=I l:=by simpa using e2
  exact⟨b6,f,g,i,l,a7,a8,L,K,by rw[p,r,C,b0,b8],⟨w0,w1,w2,e7,e8⟩,e5,e6⟩
end
theorem ML:eA n (Ce n m u):=fun l hl=>by
 rw[Ce,Aag] at hl;obtain⟨d,_,rfl⟩:=hl;obtain⟨f,g,i⟩:=TY n 1 (He n) Bb;exact⟨f.sublist Adv,fun x hx=>g x (Acr.1 hx).1,rX (Aa0 _ _) i⟩
theorem cN{p pa pj n m:Nat}{vS vT vG:Value}{P:HQ}{t:Tx}(a8:DM c w p pa pj vS vT vG P)(hs:Small P.s)(l8:0<n∧n≤12)(k1:GR n m P.A)(l1:P.n≤64)(hl:P.b.Ae.length≤100000)(ht:t.length≤2000)(hx:0≤P.b.next∧P.b.next≤1073741824):
 Calls QP 41 #[P1 p,St t] w (Bt fun u w'=>∃c',Mv c w c' w' []∧∃vl vt e,TZ P.s P.b.next t (Cu n P.A) (Ce P.n n (P.b.Ae.flatMap (·.Ad))) c' w' vl vt e∧u= .tuple #[vl,vt,I e]):=by
 have g:=DD.start c w DA;replace a8:=a8.Dt (K:=DA);generalize Bw c DA=c0 at g a8;obtain⟨o3,o4,q9,o5,o6⟩:=id hs;have e0:=GM P.s (Ae5 o3 o5) t;have l7:=DC n P.A;have p9:P.s.k*P.s.size≤3*120:=WO o4 o6;refine AY 90 #[.tmp 4, .tmp 5, .tmp 6] func41 Z<|Q<|za Z<|za Z<|V Z<|Q<|M Z<|ve (Ab pJ Z (No (c:=c0) ⟨pa,pj,vS,vT,vG,a8⟩ k1 l8.2 l1 hl)) ?_;rintro r0 w1 ⟨c1,k7,⟨vL,vF,b3,rfl⟩⟩;obtain⟨F,hF⟩:∃F,F=Ce P.n n (P.b.Ae.flatMap (·.Ad)):=⟨_,Z⟩;rw[←hF] at b3;have k4:F.length=n:=by rw[hF,Hb]
 have k5:eA P.n F:=by rw[hF];exact ML
 have q7:=b3.kQ.AD;obtain⟨s0,n7,_⟩:=id b3.row;have q8:=n7.AD;refine EK c1 133 NV fun w2 b7 c2 k8 c7=>Av (Am IU Z Z c7 Z Z Bg) ?_;rintro _ s6 ⟨c7,k9⟩;refine Ah<|Ag ?_;obtain⟨C,k2,k6,k3⟩:=(((a8.D k7).D k8).D k9);refine cg<|M Z<|E (Ak Z)<|E (Aa FR Z)<|E (ES CP Z C.AE (Aat Z))<|M Z<|E (Ey underlying9 Z) ?_;refine ve (Ab wM Z (qT (n:=t.length) hs c7 b3.D ⟨by rw[l7,k4],G⟩ G (fun l hl y hy↦by have:=(k5 l hl).2.1 y hy;omega) ht)) ?_;rintro r1 o7 ⟨e7,p5,⟨vl,e,h0,rfl⟩⟩;refine M Z<|E (Aq Z Z)<|E (Aq Z Z)<|za Z<|V Z<|Ag<|Q<|M Z<|E (BK Z Z)<|Ah<|BA Z (fun l2=>?_) fun l2=>?_
 ·refine Q<|M Z<|za Z<|za Z<|V Z<|Uh Z Z Z Z ?_;rcases h0 with⟨b9,_⟩|⟨b9,rfl,hp⟩
  ·exact absurd b9 G
  exact⟨_,g.D.out,_,_,e, .inl ⟨b9,Z,Z,by rw[←hF];exact hp⟩,Z⟩
 obtain⟨l6,pre,n2,h9,r,n3⟩|⟨l9,_⟩:=h0
 case inr=>exact absurd G l9
 subst l6;have b1:vI e7 o7 pre:=⟨n3⟩;refine As<|Q<|M Z<|E (Ak Z)<|E (Aa FR Z)<|E (ES CP Z C.D.AE (Aat Z))<|M Z<|ve (Ac e7 143 (Ab wN Z (mN (t:=t) hs.ok ht))) ?_;rintro r2 s7 ⟨p2,l0,n4,⟨e3,rfl,f⟩⟩;replace f:=f.Du n4;refine M Z<|E (Aq Z Z)<|E (Aq Z Z)<|za Z<|V Z<|Ag<|Ag ?_;obtain⟨L,h1⟩:∃L,L=EU P.s t:=⟨_,Z⟩;rw[←h1] at f e0;obtain⟨many,b6⟩:∃many,many=BI P.s t.length:=⟨_,Z⟩;rw[←b6] at h9 e0;have q0:many≤2000:=by
  have p4:=Ox hs t.length;omega
 replace r:=r.D l0;have q2:=f.AD;have q3:=f.AA;have q4:=r.AD;have q5:=r.AA;refine cg<|M Z<|E (Tv Ch f Z)<|M Z<|Ah<|An<|AG (σ:=Nat×Value×Value) (fun o=>[(0,P1 p),(1,St t),(4,o.2.1),(5,o.2.2),(6,I 0),(8,vl),(41,e3),(42,I L.length),(43,I o.1)]) (fun o w'=>o.1≤many∧∃c' Y a6,DD c w DA c' w'∧AI c' w' 90 p (Dq pa pj vS vT vG P) 101∧AJ c' w' 137 50 1 vl pre.length (pre.map (·.1))∧vI c' w' pre∧AJ c' w' 143 9 1 e3 L.length (L.map St)∧Y.map (·.1)=(List.range o.1).map (Mi P.s P.b.next t pre)∧AJ c' w' 140 115 4 o.2.1 Y.length (Y.flatMap CL)∧uO c' w' Y∧AJ c' w' 141 37 1 o.2.2 a6.length a6∧qY c' w' a6 o.1 (MI P.s t)) (fun o=>many-o.1) (0, .slice none 0 0, .slice none 0 0) AL ⟨Nat.zero_le _,_,[],[],g.D,C.D,r,b1.D,f,Z,Br _ _ _ _ _,⟨fun y hy=>by simp at hy⟩,Br _ _ _ _ _,⟨Z,fun i v h=>by simp at h⟩⟩ ?_;clear g C k2 k6 k3 r b1 f;rintro⟨k,v4,r3⟩ j4 ⟨O,b8,Y,a6,g,C,r,b1,f,b4,j,j0,J,b2⟩;dsimp only at O b4 j J b2;have p7:Y.length=k:=by have:=congrArg List.length b4;simpa using this
 have q1:=b2.len;have n8:=j.AD;have n9:=j.AA;have o0:=J.AD;have o1:=J.AA;refine Q<|E (AX Z Z)<|Ah<|Ag<|BA Z (fun l4=>?_) fun l4=>?_
 ·have p8:k<many:=G;have c8:k<L.length:=G;obtain⟨u,hu⟩:∃u,u=L[k]:=⟨_,Z⟩;have e1:=e0.2 u (by rw[hu];exact mv c8);have l3:DG b8 j4 [143] (Bz e3 1 k) [St u]:=f.nw (by rw[Aah,dd c8,hu];rfl);have j2:(EU P.s t).getD k []=u:=by rw[←h1,hk,dd c8,hu];rfl
  have c9:k<pre.length:=G;obtain⟨⟨e4,j5⟩,e2⟩:∃x,x=pre[k]:=⟨_,Z⟩;have a1:=b1.el (e4,j5) (by rw[e2];exact List.getElem_mem c9);dsimp only at a1;obtain⟨e5,e9,j3,_⟩:=a1.AB.form;obtain⟨a7,h5⟩:∃a7,a7=Ou (e4,j5):=⟨_,Z⟩;rw[←h5] at a1 j3;have l5:DG b8 j4 [137] (Bz vl 1 k) [e4]:=r.nw (by rw[List.getElem?_map,List.getElem?_eq_getElem c9];show some (pre[k]).1=_;rw[←e2]);subst j3;have o2:=a1.AB.AD;have q6:=a1.AB.AA;refine As<|Ag<|An<|Q<|M Z<|E (BS Ch f Z Z G G)<|E (Cc CQ Z l3.DF)<|za Z ?_;refine V Z<|Q<|M Z<|E (Ak Z)<|E (Aa FR Z)<|E (ES CP Z C.AE (Nat.le_of_ble_eq_true Z))<|M Z<|ve (Ac b8 144 (Ab wO Z (mW (t:=u) hs.ok e1.1 e1.2))) ?_;rintro r4 s8 ⟨j8,h2,n5,⟨r9,rfl,b0⟩⟩;replace b0:=b0.Du n5;have b5:=MF (s:=P.s) (t:=u) e1.2;replace b0:=b0.dz b5.1.symm;refine M Z<|E (Aq Z Z)<|E (Aq Z Z)<|za Z<|V Z<|Q<|M Z<|E (Ak Z)<|E (Aa FR Z)<|E (ES CP Z C.D.AE (Nat.le_of_ble_eq_true Z))<|M Z ?_;refine ve (Ac j8 142 (Ab wP Z (qu hs (Im b0 G (fun y hy↦by rw[b5.2 y hy];omega)).AB b5.1 b5.2))) ?_;rintro r5 s9 ⟨e8,h3,n6,⟨r8,rfl,U⟩⟩;replace U:=U.Du n6;refine M Z<|E (Aq Z Z)<|E (Aq Z Z)<|za Z<|V Z<|Ag ?_;have h8:=cy (s:=P.s) (t:=t) (i:=k) hs;have n1:Mg P.s (DR P.s u)=MI P.s t k:=by rw[MI,j2]
  rw[n1] at U;replace U:=U.dz h8.1.symm;obtain⟨j6,j9,rfl,_,_⟩:=U.own.len;have n0:Bu DQ _ _ [142] _ (MI P.s t k):=Im U G (fun y hy↦by rw[h8.2 y hy];omega);obtain⟨e6,p6⟩:∃e6,e6=Value.slice j6 (MI P.s t k).length j9:=⟨_,Z⟩;refine AM e8 [140] [0,0,0,0,0,1,0,0,0,0,0,0,0,1,0,2,2,0] [0,1,2,3,4,5,6,7,8,9,10,11,12,13,14,15,16,17] fun u0 h4 R=>Bm Z Z<|Bm Z Z<|AN Z (Ak Z)<|AN Z (Aa DK Z)<|AN Z (Aa Ik Z)<|vc Z R.kp (C.D.kb AF Z Z)<|Bm Z Z<|AN Z (Bc Z Z Ai Ai)<|Bm Z Z ?_;refine AN Z (Ey underlying9 Z)<|Bm Z Z<|Bm Z Z<|AN Z (BS fY r.D Z Z G G)<|vc Z R.kp (l5.D.ke CH Z)<|AN Z (By (cells:=#[I (P.b.next+(k:Int)),I u.length,I 0, .slice e5 a7.length e9]) Z Ao) ?_;refine Db Z (AH e8 181 Di Z Z Z Z Z) ?_;rintro _ u1 ⟨o8,p3,rfl,c6,h6⟩;refine R.Bl c6 fun R=>Db Z (Ax Di Z Z j.D (Aw underlying54 h6.AE.AT Z Bg) Fh Fg) ?_;rintro r6 s3 ⟨j7,c3,j⟩;refine R.Bl c3 fun R=>?_;clear h6;have n8:=j.AD;have n9:=j.AA;refine Ir Z Z<|AP ?_;clear R;refine cg<|M Z<|M Z<|ve (AH j7 185 lK Z Z Z Z Z) ?_;rintro _ s4 ⟨o9,p0,rfl,c4,h7⟩;refine ve (Ax lK Z Z J.D (Aw underlying107 h7.AE.AT Z Bg) Fh Fg) ?_;rintro r7 s5 ⟨p1,c5,J⟩;clear h7;have o0:=J.AD;have o1:=J.AA;refine V Z<|cg<|E (Bc Z Z Ai Ai)<|M Z<|Ah ?_;have j1:Mi P.s P.b.next t pre k=⟨P.b.next+(k:Int),u.length,0,a7⟩:=by rw[Mi,j2,dd c9,←e2,h5];rfl
  refine⟨(k+1,_,_),AL,⟨by dsimp only;omega,_,Y++[(Mi P.s P.b.next t pre k,⟨.slice e5 a7.length e9,o2⟩)],a6++[_],g.D,C.D,r.D,b1.D,f.D,?_,?_,?_,?_,b2.D.snoc n0.D⟩,by show many-(k+1)<many-k;omega⟩
  ·dsimp only;rw[List.map_append,b4,List.range_succ,List.map_append];rfl
  ·replace j:=(j.D c4).D c5;dsimp only;rw[List.length_append,List.flatMap_append,j1];exact j
  ·exact⟨fun y hy=>by
    rcases Aac.1 hy with h|h
    ·exact(((((((j0.D h2).D h3).D h4).D c6).D c3).D c4).D c5).el y h
    rw[pv.1 h,j1];exact(((((((a1.D h2).D h3).D h4).D c6).D c3).D c4).D c5)⟩
  dsimp only;rw[List.length_append];exact J
 have k0:k=many:=G;subst k0;refine Az Z<|Q<|M Z<|M Z<|za Z<|za Z<|V Z<|Uh Z Z Z Z ?_;refine⟨_,g.out,_,_,0, .inr ⟨Z,pre,Y,a6,by rw[←hF];exact n2,by rw[←b6];exact h9,by rw[←b6];exact b4,j.EO g.eD,⟨fun y hy=>(j0.el y hy).EO g.eD⟩,J.EO g.eD,⟨by rw[←b6];exact b2.len,fun i v hv=>(b2.row i v hv).EO g.eD⟩⟩,Z⟩
theorem cO{x z:α}:(t.set k x).getD m z=if m=k∧k<t.length then x else t.getD m z:=by
 simp only[hk];by_cases h:m=k
 ·subst h;by_cases g:m<t.length
  ·rw[zm ⟨Z,g⟩,Acv g];rfl
  ·rw[ss (fun f=>g f.2),List.set_eq_of_length_le G]
 ·rw[ss (fun f=>h f.1),Ac1 (fun f=>h f.symm)]
theorem eL:∀{f:List Nat} (_:f.Nodup) {F:List (List Int)} {d:Nat},d∈f→d<F.length→(TG F f).getD d []=(F.getD d []).tail
 |[],_,_,_,h,_=>by simp at h
 |e::f,j,F,d,hd,hl=>by
  obtain⟨g,i⟩:=Afc.1 j;show(TG (F.set e (F.getD e []).tail) f).getD d []=_
  rcases Aak.1 hd with rfl|hd
  ·rw[TW f _ _ g,cO,zm ⟨Z,hl⟩]
  ·have l:d≠e:=fun h=>g (h▸hd);rw[eL i hd (by rw[Yy];exact hl),cO,ss (fun h=>l h.1)]
structure nU (liveQ:List Bool) (F R:List (List Int)) (ps:List (Int×Int)):Prop where
 sub:∀d,(R.getD d []).Sublist (F.getD d [])
 el:∀p∈ps,∃d:Nat,p.1=(d:Int)∧d<F.length∧liveQ.getD d false=true∧p.2∈F.getD d []∧p.2∉R.getD d []
 nd:ps.Nodup
theorem eM{R:List (List Int)}(h:nU x q R u)(hl:x.length=q.length)(b0:R.length=q.length)(hF:∀l∈q,l.Pairwise (·< ·))(hs:NA x R [] k 0 e):nU x q (TG R e) (u++Hf R e)∧((Hf R e).map (·.1)).Nodup:=by
 rcases hs with⟨g,_⟩|⟨g,_⟩|⟨_,Djq,hp,i,j⟩
 ·simp at g
 ·simp at g
 have t:e.Nodup:=by rw[i];exact(hp.nodup_iff.2 (Ot _ _ _ _)).sublist (Aev _ _)
 have o:∀d,(q.getD d []).Pairwise (·< ·):=fun d=>by
  rw[hk];cases hd:q[d]? with
  |none=>exact List.Pairwise.nil
  |some l=>exact hF l (Lx hd)
 have I:∀d∈e,d<q.length∧x.getD d false=true∧∃a r,R.getD d []=a::r∧(TG R e).getD d []=r∧a∉r:=fun d hd=>by
  have j:d∈Gd x R [] x.length:=hp.mem_iff.1 (by rw[i] at hd;exact Aca hd);obtain⟨g,g⟩:=MH.1 j;rw[TV,kg,Nz,kg] at g;refine⟨G,g.1.1,?_⟩;have i:=(o d).sublist (h.sub d);cases o:R.getD d [] with
  |nil=>rw[o] at g;simp at g
  |cons a r=>
   rw[o] at i;refine⟨a,r,Z,by rw[eL t hd G,o];rfl,fun j=>?_⟩;have:=(Abg.1 i).1 a j;omega
 have a1:∀d,((TG R e).getD d []).Sublist (R.getD d []):=fun d=>by
  by_cases hd:d∈e
  ·obtain⟨i,_,a,r,g,C,_⟩:=I d hd;rw[C,g];exact List.sublist_cons_self a r
  rw[TW e R d hd];exact List.Sublist.refl _
 have j:(Hf R e).map (·.1)=e.map fun(d:Nat)=>(d:Int):=by rw[Hf,Acu];rfl
 have U:((Hf R e).map (·.1)).Nodup:=by
  rw[j,Ab4,Adg];exact(Ab4.1 t).imp fun i g=>i G
 have J:∀p∈Hf R e,∃d:Nat,d∈e∧p.1=(d:Int)∧p.2=(R.getD d []).headD 0:=fun p hp=>by
  obtain⟨d,hd,rfl⟩:=Aag.1 hp;exact⟨d,hd,Z,Z⟩
 refine⟨⟨fun d=>(a1 d).trans (h.sub d),fun p hp=>?_,?_⟩,U⟩
 ·rcases Aac.1 hp with hp|hp
  ·obtain⟨d,i,g,C,a7,t⟩:=h.el p hp;exact⟨d,i,g,C,a7,fun j=>t ((a1 d).subset j)⟩
  obtain⟨d,hd,i,g⟩:=J p hp;obtain⟨a1,g2,a,r,j,a7,a8⟩:=I d hd;rw[j] at g;have C:p.2=a:=g;exact⟨d,i,a1,g2,by rw[C];exact(h.sub d).subset (by rw[j];exact Aau),by rw[C,a7];exact a8⟩
 refine Ac5.2 ⟨h.nd,(Adg.1 (Ab4.1 U)).imp fun i g=>i (by rw[g]),fun p hp F o f=>?_⟩;subst f;obtain⟨d,i,_,_,_,t⟩:=h.el p hp;obtain⟨i,hd,C,g⟩:=J p o;have:d=i:=G;subst this;obtain⟨_,_,a,r,j,_⟩:=I d hd;rw[j] at g t;exact t (by rw[g];exact Aau)
theorem Yd{liveQ:List Bool}{F:List (List Int)}{km:Nat}{pre:List OZ}(hp:Fz liveQ F km pre)(hl:liveQ.length=F.length)(hF:∀l∈F,l.Pairwise (·< ·)):∀k,k≤pre.length→nU liveQ F (Em F (pre.take k)) ((pre.take k).flatMap Ou)∧∀x∈pre.take k,((Ou x).map (·.1)).Nodup
 |0,_=>⟨⟨fun d=>List.Sublist.refl _,fun p h=>by simp at h,by simp⟩,fun x h=>by simp at h⟩
 |k+1,O=>by
  obtain⟨i,j⟩:=Yd hp hl hF k G;have f:k<pre.length:=G;obtain⟨o,g,g2⟩:=hp k pre[k] (dd f);obtain⟨t1,t2⟩:=eM i hl (Pa _ _) hF g2;rw[pk f,Qb,Aan,Aaa,Afx,Aaz];have e:Ou pre[k]=Hf (Em F (pre.take k)) pre[k].2.2.1:=by rw[Ou,g]
  rw[e];refine⟨t1,fun x hx=>?_⟩;rcases Aac.1 hx with hx|hx
  ·exact j x hx
  rw[pv.1 hx,e];exact t2
theorem jI{next:Int}{pre:List OZ}(hl:pre.length=BI z W.length):(Dr z next W pre).map (·.Ad)=pre.map Ou:=by
 refine Ab6 (by simp[Ee,hl]) fun i j f=>?_;have g:i<pre.length:=by simpa using f
 simp only[Ac0,Dr,Adk];show((pre[i]?).map Ou).getD []=_
 rw[dd g];rfl
theorem LZ{next:Int}{pre:List OZ}(hp:Fz x (Ce k m u) (z.k+z.m) pre)(hl:x.length=m)(U:pre.length=BI z W.length):
 ((Dr z next W pre).flatMap (·.Ad)).Nodup∧(∀liveQ∈Dr z next W pre,(liveQ.Ad.map (·.1)).Nodup)∧∀p∈(Dr z next W pre).flatMap (·.Ad),p∉u∧∃d:Nat,p.1=(d:Int)∧d<m∧x.getD d false=true∧0≤p.2∧p.2<(k:Int):=by
 have g:=jI (next:=next) U;have e:(Dr z next W pre).flatMap (·.Ad)=pre.flatMap Ou:=by rw[Acj,g,←Acj]
 obtain⟨i,r⟩:=Yd hp (by rw[Hb];exact hl) (fun l h=>(ML l h).1) pre.length (kM _);rw[Abi] at i r;rw[e];refine⟨i.nd,fun liveQ hx=>?_,fun p R=>?_⟩
 ·have:liveQ.Ad∈(Dr z next W pre).map (·.Ad):=Afi hx;rw[g] at this;obtain⟨y,hy,J⟩:=Aag.1 this;rw[←J];exact r y hy
 obtain⟨d,o,g2,C,f,_⟩:=i.el p R;rw[Hb] at g2;rw[hk,Pb g2,Ada,Acr] at f;have I:=(TY k 1 (He k) Bb).2.1 p.2 f.1;refine⟨fun g=>?_,d,o,g2,C,I⟩;have:u.contains ((d:Int),p.2)=true:=by rw[Af7];rw[←o];exact g
 rw[this] at f;simp at f
theorem Qf:∀{l seen:List (Int×Int)},KB seen l=true↔(∀x∈l,x.1≠-1→∀y∈seen,y.1≠x.1)∧l.Pairwise fun a b=>b.1≠-1→a.1≠b.1
 |[],seen=>by simp[KB]
 |s::r,seen=>by
  rw[KB];have C:=Qf (l:=r) (seen:=seen++[s]);split
  ·rename_i h;obtain⟨p,j⟩:=h;rw[Aa8] at j;obtain⟨y,hy,t⟩:=j;simp only[Ad5,false_iff];rintro⟨g,_⟩;exact g s Aau p y hy (by simpa using t)
  rename_i h;rw[C,Abg];constructor
  ·rintro⟨i,g2⟩;refine⟨fun x hx f y hy=>?_,fun x hx f=>i x hx f s Bb,g2⟩;rcases Aak.1 hx with rfl|hx
   ·intro e;exact h ⟨f,Aa8.2 ⟨y,hy,by simpa using e⟩⟩
   exact i x hx f y (Abj _ hy)
  rintro⟨i,g2,o⟩;refine⟨fun x hx f y hy=>?_,o⟩;rcases Aac.1 hy with hy|hy
  ·exact i x (Aaw _ hx) f y hy
  rw[pv.1 hy];exact g2 x hx f
theorem Ye:∀{l T:List (Int×Int)},Nx T l=true↔(∀p∈l,0≤p.1→p∉T)∧l.Pairwise fun a b=>0≤b.1→a≠b
 |[],T=>by simp[Nx]
 |s::r,T=>by
  rw[Nx];have t:=Ye (l:=r) (T:=s::T);split
  ·rename_i h;simp only[Ad5,false_iff];rintro⟨g,_⟩;exact g s Aau h.1 h.2
  rename_i h;rw[t,Abg];constructor
  ·rintro⟨j,g2⟩;refine⟨fun p hp f i=>?_,fun p hp f e=>j p hp f (by simp[e]),g2⟩;rcases Aak.1 hp with rfl|hp
   ·exact h ⟨f,i⟩
   exact j p hp f (Aaw _ i)
  rintro⟨j,g2,o⟩;refine⟨fun p hp f i=>?_,o⟩;rcases Aak.1 i with e|i
  ·exact g2 p hp f e.symm
  exact j p (Aaw _ hp) f i
theorem VH:∀{l T:List Int},Lm T l=true↔(∀p∈l,p∉T)∧l.Nodup
 |[],T=>by simp[Lm]
 |s::r,T=>by
  rw[Lm];have o:=VH (l:=r) (T:=s::T);split
  ·rename_i h;simp only[Ad5,false_iff];rintro⟨g,_⟩;exact g s Aau h
  rename_i h;rw[o,Afc];constructor
  ·rintro⟨i,g2⟩;refine⟨fun p hp f=>?_,fun f=>i s f Aau,g2⟩;rcases Aak.1 hp with rfl|hp
   ·exact h f
   exact i p hp (Aaw _ f)
  rintro⟨i,g2,j⟩;refine⟨fun p hp f=>?_,j⟩;rcases Aak.1 f with rfl|f
  ·exact g2 hp
  exact i p (Aaw _ hp) f
theorem Sv{s:CO}{next:Int}:∀{l:List CV} {o:Option Int} {T:List (Int×Int)},Gy s next o T l=true↔
 (∀x∈l,Dg s x=true∧x.id<next)∧(∀y,o=some y→∀x∈l,y<x.id)∧(l.Pairwise fun a b=>a.id<b.id)∧(∀p∈l.flatMap (·.Ad),0≤p.1→p∉T)∧(l.flatMap (·.Ad)).Pairwise fun a b=>0≤b.1→a≠b
 |[],o,T=>by simp[Gy]
 |x::r,o,T=>by
  have e:Gy s next o T (x::r)=true↔(Dg s x=true∧x.id<next∧∀y,o=some y→y<x.id)∧Nx T x.Ad=true∧Gy s next (some x.id) (x.Ad.reverse++T) r=true:=by
   cases o<;>simp[Gy,and_assoc]
  rw[e,Sv,Ye,Aaa,Abp,Abg];constructor
  ·rintro⟨⟨i,C,t⟩,⟨b1,b2⟩,c1,c2,f,I,J⟩;refine⟨fun y hy=>?_,fun y hy z j=>?_,⟨fun y hy=>c2 _ Z y hy,f⟩,fun p hp f g=>?_,b2,J,fun p hp q J f e=>?_⟩
   ·rcases Aak.1 hy with rfl|hy
    ·exact⟨i,C⟩
    exact c1 y hy
   ·rcases Aak.1 j with rfl|j
    ·exact t y hy
    exact Int.lt_trans (t y hy) (c2 _ Z z j)
   ·rcases Aac.1 hp with hp|hp
    ·exact b1 p hp f g
    exact I p hp f (Abr _ g)
   subst e;exact I p J f (Abj _ (Afu.2 hp))
  rintro⟨i,C,⟨t,J⟩,I,R,U,a1⟩;refine⟨⟨(i x Aau).1,(i x Aau).2,fun y hy=>C y hy x Aau⟩,⟨fun p hp f=>I p (Abj _ hp) f,R⟩,fun y hy=>i y (Aaw _ hy),fun y hy z j=>?_,J,fun p hp f g=>?_,U⟩
  ·injection hy with hy;rw[←hy];exact t z j
  rcases Aac.1 g with g|g
  ·exact a1 p (Afu.1 g) p hp f Z
  exact I p (Abr _ hp) f g
def Yf(s:CO)(S:List CV)(e:KA):Prop:=e.AK.length=32∧0≤e.len∧e.len≤2000∧e.list.length=BI s e.len.toNat∧Fc s S e.len e.list=true
theorem VI{s:CO}{S:List CV}:∀{l:List KA} {o:Option Tx} {T:List Int},Ln s S o T l=true↔
 (∀e∈l,Yf s S e)∧(∀y,o=some y→∀e∈l,Op.bytesLess y e.AK=true)∧(l.Pairwise fun a b=>Op.bytesLess a.AK b.AK=true)∧(∀i∈l.flatMap (·.list),i∉T)∧(l.flatMap (·.list)).Nodup
 |[],o,T=>by simp[Ln]
 |x::r,o,T=>by
  have e:Ln s S o T (x::r)=true↔(Yf s S x∧∀y,o=some y→Op.bytesLess y x.AK=true)∧Lm T x.list=true∧Ln s S (some x.AK) (x.list.reverse++T) r=true:=by
   cases o with
   |none=>simp only[Ln,kg,pn];exact⟨fun⟨⟨⟨⟨⟨⟨f,_⟩,g⟩,j⟩,t⟩,C⟩,I,J⟩=>⟨⟨⟨f,g,j,t,C⟩,fun y h=>(by cases h)⟩,I,J⟩,fun⟨⟨⟨f,g,j,t,C⟩,_⟩,I,J⟩=>⟨⟨⟨⟨⟨⟨f,trivial⟩,g⟩,j⟩,t⟩,C⟩,I,J⟩⟩
   |some y=>simp only[Ln,kg,pn];exact⟨fun⟨⟨⟨⟨⟨⟨f,R⟩,g⟩,j⟩,t⟩,C⟩,I,J⟩=>⟨⟨⟨f,g,j,t,C⟩,fun z h=>(by injection h with h;rw[←h];exact R)⟩,I,J⟩,fun⟨⟨⟨f,g,j,t,C⟩,R⟩,I,J⟩=>⟨⟨⟨⟨⟨⟨f,R y Z⟩,g⟩,j⟩,t⟩,C⟩,I,J⟩⟩
  rw[e,VI,VH,Aaa,Ac5,Abg];constructor
  ·rintro⟨⟨j,t⟩,⟨b1,b2⟩,c1,c2,f,C,I⟩;refine⟨fun y hy=>?_,fun y hy z g=>?_,⟨fun y hy=>c2 _ Z y hy,f⟩,fun p hp f=>?_,b2,I,fun p hp q I e=>?_⟩
   ·rcases Aak.1 hy with rfl|hy
    ·exact j
    exact c1 y hy
   ·rcases Aak.1 g with rfl|g
    ·exact t y hy
    exact JE _ _ _ (t y hy) (c2 _ Z z g)
   ·rcases Aac.1 hp with hp|hp
    ·exact b1 p hp f
    exact C p hp (Abr _ f)
   subst e;exact C p I (Abj _ (Afu.2 hp))
  rintro⟨j,I,⟨t,J⟩,C,R,U,a1⟩;refine⟨⟨j x Aau,fun y hy=>I y hy x Aau⟩,⟨fun p hp=>C p (Abj _ hp),R⟩,fun y hy=>j y (Aaw _ hy),fun y hy z g=>?_,J,fun p hp f=>?_,U⟩
  ·injection hy with hy;rw[←hy];exact t z g
  rcases Aac.1 f with f|f
  ·exact a1 p (Afu.1 f) p hp Z
  exact C p (Abr _ hp) f
structure Lt (s:CO) (b:Bk):Prop where
 next:0≤b.next∧b.next≤1073741824
 Bl:∀x∈b.Ae,Dg s x=true∧x.id<b.next
 eN:b.Ae.Pairwise fun a c=>a.id<c.id
 free:(b.Ae.flatMap (·.Ad)).Pairwise fun p q=>0≤q.1→p≠q
 dx:∀e∈b.AQ,Yf s b.Ae e
 ord:b.AQ.Pairwise fun a c=>Op.bytesLess a.AK c.AK=true
 ids:(b.AQ.flatMap (·.list)).Nodup
 zC:b.AQ.length≤60
theorem Jh{b:Bk}(ht:b.De=[]):Ek z b=true↔Lt z b:=by
 constructor
 ·intro h;obtain⟨f,C,I,l,_⟩:=El h;obtain⟨g,_,i,_,j⟩:=Sv.1 C;obtain⟨b1,_,b3,_,b5⟩:=VI.1 I;simp only[Fb,kg,pn] at f;exact⟨f,g,i,j,b1,b3,b5,l⟩
 ·rintro⟨f,g,i,j,b1,b3,b5,l⟩;have o:Gy z b.next none [] b.Ae=true:=Sv.2 ⟨g,fun y h=>(by cases h),i,fun p _ _ h=>(by cases h),j⟩;have r:Ln z b.Ae none [] b.AQ=true:=VI.2 ⟨b1,fun y h=>(by cases h),b3,fun p _ h=>(by cases h),b5⟩;have t:Fb b.next=true:=by simp only[Fb,kg,pn];exact f
  rw[Ek,ht,o,r,t];simp[bh,l]
theorem JM{x:CV}:Dg z x=true↔(0≤x.id∧x.id≤1073741824)∧(0≤x.gen∧x.gen≤1073741824)∧1≤x.len∧x.len≤(z.k*z.size:Nat)∧x.Ad.length=z.k+z.m∧(x.Ad.Pairwise fun a b=>b.1≠-1→a.1≠b.1)∧∀p∈x.Ad,Ki p=true:=by
 rw[Dg];simp only[kg,pn,Fb,Aa9,Ab9,Qf,and_assoc];constructor
 ·rintro⟨f,g,i,j,l,o,r,_,t,C⟩;exact⟨f,g,i,j,l,o,r,t,fun p hp=>by simpa using C p hp⟩
 ·rintro⟨f,g,i,j,l,o,r,t,C⟩;exact⟨f,g,i,j,l,o,r,by simp,t,fun p hp=>by simpa using C p hp⟩
theorem nV{S':List CV}(h:Ib C p=some i):Ib (C++S') p=some i:=by
 rw[Ib,List.findIdx?_append,show C.findIdx? _=some i from h];rfl
theorem Yg{s:CO}{S S':List CV}:∀{r:List Int} {left:Int},Fc s S left r=true→Fc s (S++S') left r=true
 |[],_,h=>h
 |a::r,left,h=>by
  rw[Fc] at h⊢;cases f:Ib S a with
  |none=>rw[f] at h;cases h
  |some i=>
   have g:i<S.length:=(List.findIdx?_eq_some_iff_getElem.1 f).1;rw[f] at h;rw[nV f];dsimp only at h⊢;rw[List.getElem?_append_left g];rw[List.getElem?_eq_getElem g] at h⊢;dsimp only at h⊢;split
   ·rename_i e;rw[zm e] at h;exact Yg h
   ·rename_i e;rw[ss e] at h;cases h
theorem Yf.tN{S':List CV}{e:KA}(h:Yf z C e):Yf z (C++S') e:=⟨h.1,h.2.1,h.2.2.1,h.2.2.2.1,Yg h.2.2.2.2⟩
def FE(F:List (List Int))(i:Nat):Nat:=(F.getD i []).length
theorem Ji(h:i<q.length):q[i].length=FE q i:=by
 rw[FE,hk,dd h];rfl
def CE(liveQ:List Bool)(F:List (List Int)):Nat→Nat×Nat×Bool
 |0=>(0,0,false)
 |i+1=>
  let r:=CE liveQ F i
  if liveQ.getD i false=true then(if(!r.2.2||decide (FE F i<FE F r.1))=true then i else r.1,if(!r.2.2||decide (FE F r.2.1<FE F i))=true then i else r.2.1,true) else r
theorem RI(liveQ:List Bool)(F:List (List Int)):∀i,(CE liveQ F i).1≤i-1∧(CE liveQ F i).2.1≤i-1
 |0=>⟨kM _,kM _⟩
 |i+1=>by
  obtain⟨f,g⟩:=RI liveQ F i;rw[CE];split
  ·refine⟨?_,?_⟩
   ·dsimp only;split<;>omega
   dsimp only;split<;>omega
  exact⟨G,G⟩
theorem Yh(h:x.getD i false=false):CE x q (i+1)=CE x q i:=by
 rw[CE,h];exact ss Bb
theorem nW{f0 f1 f2:List Int}(h:x.getD i false=true)(l:k=(CE x q i).1)(o:m=(CE x q i).2.1)(p:B=(CE x q i).2.2)(r:FE q i=f0.length)(t:FE q k=f1.length)(C:FE q m=f2.length):
 CE x q (i+1)=(if(!B||decide ((f0.length:Int)<f1.length))=true then i else k,if(!B||decide ((f2.length:Int)<f0.length))=true then i else m,true):=by
 rw[CE,h,zm Z,←l,←o,←p,r,t,C];simp only[Int.ofNat_lt]
theorem eO(U:Rd DW w a x)(hF:Rd KQ w y q)(b9:q.length=x.length)(hl:x.length≤100):Calls QP 117 #[.agg #[a,y]] w (Bt fun u w'=>AZ w w'∧u= .tuple #[I (CE x q x.length).1,I (CE x q x.length).2.1, .bool (CE x q x.length).2.2]):=by
 have f:=U.AD;have f:=hF.AD;obtain⟨c,hO,hc⟩:=Ay w;have l:=hO.rd U;have hf:=hO.rd hF;refine AY 57 #[.tmp 2, .tmp 3, .tmp 4] func117 Z<|Q<|Fa c 101 fun w1 b1 c1 f g=>?_;refine za Z<|za Z<|V Z<|Ag<|Q<|E (Aa JT Z)<|E (Al Hw Z g.AE Z)<|E (BN Fi) ?_;refine M Z<|Ah<|An<|AG (σ:=Nat) (fun i=>[(1,P1 b1),(2,I (CE x q i).1),(3,I (CE x q i).2.1),(4, .bool (CE x q i).2.2),(8,a),(9,I x.length),(10,I i)]) (fun i w'=>i≤x.length∧∃c',CD w c' w'∧Bu DW c' w' [0] a x∧Bu KQ c' w' [0] y q∧AI c' w' 101 b1 [a,y] 67) (fun i=>x.length-i) 0 AL ⟨Wm _,_,hO.D,l.D,hf.D,g⟩ ?_;rintro i f ⟨hi,J,hO,l,hf,g⟩;obtain⟨j,r⟩:=RI x q i;obtain⟨f,t⟩:∃f,f=(CE x q i).1:=⟨_,Z⟩;obtain⟨o,C⟩:∃o,o=(CE x q i).2.1:=⟨_,Z⟩;obtain⟨p,R⟩:∃p,p=(CE x q i).2.2:=⟨_,Z⟩;rw[←t] at j;rw[←C] at r;rw[←t,←C,←R];refine Q<|E (AX Z Z)<|Ah<|Ag<|BA Z (fun j=>?_) fun j=>?_
 ·have r:i<x.length:=G;have j:=(Co l r AO).1;obtain⟨lv,a1⟩:∃lv,lv=x[i]:=⟨_,Z⟩;have b2:x.getD i false=lv:=by rw[a1,hk,dd r];rfl
  rw[←a1] at j;refine As<|Ag<|An<|Q<|M Z<|E (Cv Fi) ?_;refine E (Cc IW Z j.DF)<|za Z<|V Z<|Ag<|Q<|M Z<|E (BL Z)<|Ah<|BA Z (fun r=>?_) fun r=>?_
  ·have j:CE x q (i+1)=(f,o,p):=by rw[Yh (by rw[b2];simpa using r),t,C,R]
   refine Az Z<|cg<|E (Bc Z Z Ai Ai)<|M Z<|Ah ?_;exact⟨i+1,by rw[j];exact AL,⟨G,_,hO,l,hf,g⟩,G⟩
  have q0:i<q.length:=G;have b6:f<q.length:=G;have b7:o<q.length:=G;obtain⟨a1,a8,b3⟩:=HR hf q0;obtain⟨a1,b8,b4⟩:=HR hf b6;obtain⟨a1,a7,b5⟩:=HR hf b7;have a6:=a8;obtain⟨f0,a1⟩:∃f0,f0=q[i]:=⟨_,Z⟩;obtain⟨f1,b0⟩:∃f1,f1=q[f]:=⟨_,Z⟩;obtain⟨f2,f⟩:∃f2,f2=q[o]:=⟨_,Z⟩;rw[←a1] at b3;rw[←b0] at b4;rw[←f] at b5;have j:=nW (f0:=f0) (f1:=f1) (f2:=f2) (by rw[b2];simpa using r) t C R (by rw[←Ji q0,a1]) (by rw[←Ji b6,b0]) (by rw[←Ji b7,f]);obtain⟨f,a1⟩:∃f,f=(!p||decide ((f0.length:Int)<f1.length)):=⟨_,Z⟩;obtain⟨f,r⟩:∃f,f=(!p||decide ((f2.length:Int)<f0.length)):=⟨_,Z⟩;rw[←a1,←r] at j;have f:=b3.AB.AD;have f:=b4.AB.AD;have f:=b5.AB.AD;refine As<|Ag<|Ag<|AM J [] [0,0,0,0,1,0,0,1,0,0,1,0,0,1,0,0,0] [0,1,2,3,4,5,6,7,8,9,10,11,12,13,14,15,16] fun w2 f f=>?_;have o:=g;have b0:=a8;have a8:=b8;have b4:=a7;have b3:=a6;refine Bm Z Z<|AN Z (BL Z)<|Bm Z Z ?_;apply Dc J false 13 (decide ((f0.length:Int)<f1.length)) f.kp Mq
  ·intro b2 p;refine AN Z (Aa Cq Z)<|vc Z f.kp (o.D.kb Ea Z Z)<|Bm Z Z<|AN Z (Cv FZ) ?_;refine vc Z f.kp (b0.D.ke BQ Z)<|AN Z (BN BM) ?_;refine AN Z (Aa Cq Z)<|vc Z f.kp (o.D.kb Ea Z Z)<|Bm Z Z<|AN Z (Cv FZ) ?_;refine vc Z f.kp (a8.D.ke BQ Z)<|AN Z (BN BM) ?_;refine AN Z (AX Z Z) ?_;exact Dd 13 p
  intro J J b5;refine AP ?_;refine BA Z (fun a8=>?_) fun a8=>?_
  ·rw[zm (by rw[a1];simpa using a8)] at j;refine cg<|M Z<|V Z<|Ag<|Ag<|AM J [] [0,0,0,0,1,0,0,1,0,0,1,0,0,1,0,0,0] [0,1,2,3,4,5,6,7,8,9,10,11,12,13,14,15,16] fun o o f=>?_;refine Bm Z Z<|AN Z (BL Z)<|Bm Z Z ?_;apply Dc J false 13 (decide ((f2.length:Int)<f0.length)) f.kp Mq
   ·intro b2 p;refine AN Z (Aa Cq Z)<|vc Z f.kp (g.D.kb Ea Z Z)<|Bm Z Z<|AN Z (Cv FZ) ?_;refine vc Z f.kp (a6.D.ke BQ Z)<|AN Z (BN BM) ?_;refine AN Z (Aa Cq Z)<|vc Z f.kp (g.D.kb Ea Z Z)<|Bm Z Z<|AN Z (Cv FZ) ?_;refine vc Z f.kp (a7.D.ke BQ Z)<|AN Z (BN BM) ?_;refine AN Z (CM Z Z) ?_;exact Dd 13 p
   intro o o o;refine AP ?_;refine BA Z (fun o=>?_) fun o=>?_
   ·rw[zm (by rw[r];simpa using o)] at j;refine cg<|M Z<|V Z<|cg<|V Z<|cg<|E (Bc Z Z Ai Ai) ?_;refine M Z<|Ah ?_;exact⟨i+1,by rw[j];exact AL,⟨G,_,hO.D,l.D,hf.D,g.D⟩,G⟩
   rw[ss (by rw[r];simpa using o)] at j;refine As<|cg<|V Z<|cg<|E (Bc Z Z Ai Ai)<|M Z<|Ah ?_;exact⟨i+1,by rw[j];exact AL,⟨G,_,hO.D,l.D,hf.D,g.D⟩,G⟩
  rw[ss (by rw[a1];simpa using a8)] at j;refine As<|Ag<|Ag<|AM J [] [0,0,0,0,1,0,0,1,0,0,1,0,0,1,0,0,0] [0,1,2,3,4,5,6,7,8,9,10,11,12,13,14,15,16] fun a1 a1 f=>?_;refine Bm Z Z<|AN Z (BL Z)<|Bm Z Z ?_;apply Dc J false 13 (decide ((f2.length:Int)<f0.length)) f.kp Mq
  ·intro b2 p;refine AN Z (Aa Cq Z)<|vc Z f.kp (g.D.kb Ea Z Z)<|Bm Z Z<|AN Z (Cv FZ) ?_;refine vc Z f.kp (a6.D.ke BQ Z)<|AN Z (BN BM) ?_;refine AN Z (Aa Cq Z)<|vc Z f.kp (g.D.kb Ea Z Z)<|Bm Z Z<|AN Z (Cv FZ) ?_;refine vc Z f.kp (a7.D.ke BQ Z)<|AN Z (BN BM) ?_;refine AN Z (CM Z Z) ?_;exact Dd 13 p
  intro p p p;refine AP ?_;refine BA Z (fun o=>?_) fun o=>?_
  ·rw[zm (by rw[r];simpa using o)] at j;refine cg<|M Z<|V Z<|cg<|V Z<|cg<|E (Bc Z Z Ai Ai) ?_;refine M Z<|Ah ?_;exact⟨i+1,by rw[j];exact AL,⟨G,_,hO.D,l.D,hf.D,g.D⟩,G⟩
  rw[ss (by rw[r];simpa using o)] at j;refine As<|cg<|V Z<|cg<|E (Bc Z Z Ai Ai)<|M Z<|Ah ?_;exact⟨i+1,by rw[j];exact AL,⟨G,_,hO.D,l.D,hf.D,g.D⟩,G⟩
 have e:i=x.length:=G;subst e;refine Az Z<|Q<|M Z<|M Z<|M Z<|za Z<|za Z<|V Z<|Uh Z Z Z Z ?_;exact⟨hO.D.below,by rw[t,C,R]⟩
def NC{α:Type}(q:α→Bool)(l:List α):Int:=match l.findIdx? q with|some k=>(k:Int)|none=>-1
theorem Ua{q:α→Bool}(O:k<t.length)(h:q t[k]=true)(f:∀x∈t.take k,q x=false):NC q t=k:=by
 have:t.findIdx? q=some k:=WM.2 ⟨O,h,fun j g=>by
  rw[f _ (Aei.2 ⟨j,G,Z⟩)];decide⟩
 rw[NC,this]
theorem Ub{q:α→Bool}(O:t.length≤k)(f:∀x∈t.take k,q x=false):NC q t=-1:=by
 rw[vq O] at f;have:t.findIdx? q=none:=Abq.2 f;rw[NC,this]
def VJ(f:List (Int×Int))(d:Int):Int:=NC (fun p=>decide (p.1=d)) f
theorem jJ{i:Array Value}{q:Int×Int→Bool}(g:Rd Bx w a u)(hf:Aj QP S=true)(r:∀(w':World) (x:Int×Int),AZ w w'→Calls QP S (#[.agg (FX x).toArray]++i) w' (Bt fun a w''=>AZ w' w''∧a= .bool (q x))):
 Calls QP 191 #[a, .func (.func S) #[] i] w (Bt fun v' w'=>AZ w w'∧v'=I (NC q u)):=by
 have j:=g.small;have hK:FY w w:=Bf w;refine AY 19 #[.tmp 4] func191 Z<|Q<|V Z<|Ag<|Q<|M Z ?_
 first|refine E (Ez DL (by assumption) Z) ?_|refine E (Fo underlying50 Z) ?_
 refine M Z<|Ah<|An<|AG (σ:=Nat) (fun k=>[(0,a),(1, .func (.func S) #[] i),(7,I u.length),(8,I k)]) (fun k w'=>Rd Bx w' a u∧FY w w'∧k≤u.length∧∀x∈u.take k,q x=false) (fun k=>u.length-k) 0 AL ⟨g,hK,G,by simp⟩ ?_;rintro k j ⟨g,hK,O,p⟩;refine Q<|E (AX Z Z)<|Ah<|Ag<|BA Z (fun j=>?_) fun j=>?_
 ·have ka:k<u.length:=G;obtain⟨j,j,rfl,o⟩:=g.el ka;refine As<|Ag<|An<|Q<|M Z<|V Z<|Q<|M Z<|M Z<|M Z<|E (BJ DL (by assumption) Z Z Z Ai Ai)<|E (DT Dj Z j Z) ?_;refine ve (DV Z hf Z (r _ _ hK)) ?_;rintro _ j ⟨o,rfl⟩;refine Ah<|BA Z (fun j=>?_) fun j=>?_
  ·refine Q<|M Z<|V Z ?_;refine Af Z Z ?_;exact⟨(hK.up o),by rw[Ua ka j p]⟩
  refine As<|cg<|E (Bc Z Z Ai Ai)<|M Z<|Ah ?_;exact⟨k+1,AL,⟨(g.up o),(hK.up o),ka,Ha p ka j⟩,G⟩
 refine Az Z<|Q<|V Z<|Af Z Z ?_;exact⟨hK,by rw[Ub G p]⟩
theorem uT{x:Int×Int}(g:Gt w k [I p] 3):Calls QP 192 #[.agg (FX x).toArray,P1 k] w (Bt fun v w'=>AZ w w'∧v= .bool (decide (x.1=p))):=by
 obtain⟨c,hO,f⟩:=Ay w;have i:AI c w 0 k [I p] 3:=⟨g,f _⟩;refine AY 8 #[.tmp 3] func192 Z<|Q<|Fa c 102 fun w1 b2 c1 l j=>?_;refine V Z<|Q<|E (Aa Ct Z)<|E (Al AF Z j.AE Z)<|E (Al AF Z i.D.AE Z)<|E (BO Z Z)<|V Z<|Af Z Z ?_;exact⟨hO.D.below,Z⟩
theorem tt{x:CV}(hu:Rd Bx w a x.Ad):Calls QP 118 #[.agg #[I x.id,I x.len,I x.gen,a],I p] w (Bt fun v w'=>AZ w w'∧v=I (VJ x.Ad p)):=by
 have J:=hu.AD;obtain⟨c,hO,i⟩:=Ay w;have j:=hO.rd hu;refine AY 9 #[.tmp 4] func118 Z<|Q<|Fa c 102 fun w1 b2 c1 o g=>?_;refine Mn c1 103 fun w2 b3 c2 r AR=>?_;refine V Z<|Q<|E (Aa Cl Z)<|E (Al CH Z g.D.AE Z)<|E (Dn Z)<|ve (Ac c2 1 (Ab lE Z (jJ (q:=fun d↦decide (d.1=p)) j.D.AB Z (fun w' x f↦uT (AR.AE.up f))))) ?_;rintro R U ⟨l,t,C,rfl⟩;refine V Z<|Af Z Z ?_;exact⟨hO.D.below,Z⟩
theorem Yi(hs:Small z):Calls QP 204 #[.agg (DB z).toArray] w (Bt fun v w'=>AZ w w'∧v= .bool true):=by
 obtain⟨f,f,f,f,f⟩:=id hs;obtain⟨c,hO,f⟩:=Ay w;have g:(decide ((1:Int)≤(z.k:Int))&&decide ((z.k:Int)≤8))=true:=by simp;omega
 have i:(decide ((0:Int)≤(z.m:Int))&&decide ((z.m:Int)≤6))=true:=by simp;omega
 have j:(decide ((1:Int)≤(z.size:Int))&&decide ((z.size:Int)≤120))=true:=by simp;omega
 refine AY 16 #[.tmp 2] func204 Z<|Q<|Fa c 101 fun w1 b1 c1 f f=>?_;refine V Z<|Q<|E (Aa CN Z)<|E (Al AF Z f.AE Z)<|ve (Ac c1 1 (Ab ly Z (PE (z.k:Int) 1 8))) ?_;rintro l w2 ⟨c2,l,l,rfl⟩;rw[g];refine M Z ?_;apply BU c2 true 3 true CK
 ·intro g g;refine wo<|E (Aa Hk Z)<|wo<|E (Al AF Z f.D.AE Z)<|wo<|ve (Ac c2 1 (Ab ax Z (NX (z.m:Int) 6))) ?_;rintro l l ⟨l,l,l,rfl⟩;rw[i];exact BV 3 g.D
 intro g g i;refine M Z ?_;apply BU g true 3 true CK
 ·intro i i;refine wo<|E (Aa DO Z)<|wo<|E (Al AF Z f.D.AE Z)<|wo<|ve (Ac g 1 (Ab ly Z (PE (z.size:Int) 1 120))) ?_;rintro f f ⟨f,f,f,rfl⟩;rw[j];exact BV 3 i.D
 intro f f f;refine V Z<|Af Z Z ?_;exact⟨hO.D.D.below,Z⟩
theorem cP{x:CV}(hs:Small z)(hu:Rd Bx w a x.Ad)(J:Dg z x=true):Calls QP 203 #[.agg (DB z).toArray, .agg #[I x.id,I x.len,I x.gen,a]] w (Bt fun v w'=>AZ w w'∧v= .bool true):=by
 obtain⟨f,f,g,g,g⟩:=id hs;obtain⟨i,i,i,i,i,R,U⟩:=JM.1 J;have i:z.k*z.size≤3*120:=WO f g;have i:(z.k:Int)*(z.size:Int)=((z.k*z.size:Nat):Int):=(Acf _ _).symm;have f:=hu.AD;have f:=hu.small;have o:(decide (0≤x.id)&&decide (x.id≤1073741824))=true:=by simp;omega
 have r:(decide (0≤x.gen)&&decide (x.gen≤1073741824))=true:=by simp;omega
 have t:(decide (1≤x.len)&&decide (x.len≤((z.k*z.size:Nat):Int)))=true:=by simp;omega
 obtain⟨c,hO,f⟩:=Ay w;have g:=hO.rd hu;refine AY 89 #[.tmp 4] func203 Z<|Q<|Fa c 102 fun w1 b2 c1 f f=>?_;refine Fa c1 103 fun w2 b3 c2 l AR=>?_;refine V Z<|Ag<|Q<|E (Ba CP Z f.D.AE Z)<|ve (Ac c2 1 (Ab sD Z (Yi hs))) ?_;rintro l l ⟨l,C,C,rfl⟩;refine E (BL Z)<|M Z ?_;apply BU l false 4 false CK
 ·intro C C;refine wo<|E (Aa Dy Z)<|wo<|E (Al AF Z AR.D.AE Z)<|wo<|ve (Ac l 1 (Ab ax Z (NX x.id 1073741824))) ?_;rintro l l ⟨l,l,l,rfl⟩;rw[o];refine wo<|E (BL Z) ?_;exact BV 4 C.D
 intro l l o;refine M Z ?_;apply BU l false 4 false CK
 ·intro o o;refine wo<|E (Aa NO Z)<|wo<|E (Al AF Z AR.D.AE Z)<|wo<|ve (Ac l 1 (Ab ax Z (NX x.gen 1073741824))) ?_;rintro v20 l ⟨l,l,l,rfl⟩;rw[r];refine wo<|E (BL Z) ?_;exact BV 4 o.D
 intro l l o;refine M Z ?_;apply BU l false 9 false CK
 ·intro o o;refine wo<|E (Aa HW Z)<|wo<|E (Al AF Z AR.D.AE Z)<|wo<|E (Aa CN Z)<|wo<|E (Al AF Z f.D.AE Z)<|wo ?_;refine E (Aa DO Z)<|wo<|E (Al AF Z f.D.AE Z)<|wo<|E (HK (m:=(z.k:Int)) (n:=(z.size:Int)) Z Z (by rw[i];omega) (by rw[i];omega)) ?_;rw[i];refine wo<|ve (Ac l 1 (Ab ly Z (PE x.len 1 ((z.k*z.size:Nat):Int)))) ?_;rintro i i ⟨i,i,i,rfl⟩;rw[t];refine wo<|E (BL Z) ?_;exact BV 9 o.D
 intro i i i;refine M Z ?_;apply AW false 9 _ CK
 ·intro i;refine wo<|E (Aa Cl Z)<|wo<|E (Al CH Z AR.D.AE Z)<|wo<|E (BN DL) ?_;refine wo<|E (Aa CN Z)<|wo<|E (Al AF Z f.D.AE Z)<|wo<|E (Aa Hk Z)<|wo<|E (Al AF Z f.D.AE Z)<|wo<|E (Bc Z Z Ai Ai)<|wo<|E (BK Z Z) ?_;exact EQ 9
 refine Ah<|Cz Z (fun i=>?_) fun i=>?_
 ·exfalso;simp at i;omega
 refine As<|Ag<|Q<|V Z<|An<|AG (σ:=Nat) (fun k=>[(2,P1 b2),(3,P1 b3),(4, .bool false),(5,I k)]) (fun k w'=>k≤x.Ad.length∧∃c',CD w c' w'∧Bu Bx c' w' [0] a x.Ad∧AI c' w' 103 b3 [I x.id,I x.len,I x.gen,a] 115) (fun k=>x.Ad.length-k) 0 AL ⟨Wm _,_,hO.D,g.D,AR.D⟩ ?_;rintro k f ⟨O,i,hO,g,AR⟩;refine Ag<|Q<|M Z<|E (Aa Cl Z)<|E (Al CH Z AR.AE Z)<|E (BN DL) ?_;refine E (AX Z Z)<|Ah<|BA Z (fun f=>?_) fun f=>?_
 ·have l:k<x.Ad.length:=G;have f:=(Co g l AO).1;obtain⟨p,hp⟩:∃p,p=x.Ad[k]:=⟨_,Z⟩;have o:=U p (by rw[hp];exact mv l);simp only[Ki,Aa3,kg,pn] at o;rw[←hp] at f;refine As<|Ag<|An<|Q<|E (Aa Cl Z)<|E (Al CH Z AR.AE Z)<|M Z<|E (Cv DL) ?_;refine E (DT Dj Z f.DF Z)<|EK i 106 JU fun f b6 i f f=>?_;refine Av (Am Dj Z Z f Z Z Bg) ?_;rintro _ r ⟨f,r⟩;refine Ah<|Ag<|Q<|E (Aa Ct Z)<|E (Al AF Z f.AE Z)<|E (BO Z Z)<|M Z ?_;apply BU i true 3 (decide (p.2=0)) CK
  ·intro i i;refine wo<|E (Aa GP Z)<|wo<|E (Al AF Z f.AE Z)<|wo<|E (BO Z Z) ?_;exact BV 3 i
  intro i r i;refine Ah<|BA Z (fun i=>?_) fun i=>?_
  ·refine Az Z<|cg<|M Z<|E (Bc Z Z Ai Ai)<|V Z ?_;exact⟨k+1,AL,⟨G,_,hO.D,g.D,AR.D⟩,G⟩
  have t:(0≤p.1∧p.1<12)∧0≤p.2∧p.2<64:=by
   rcases o with h|h
   ·omega
   simp[h.1,h.2] at i
  have o:(decide (0≤p.1)&&decide (p.1≤11))=true:=by simp;omega
  have t:(decide (0≤p.2)&&decide (p.2≤63))=true:=by simp;omega
  refine As<|Ag<|Q<|E (Aa Ct Z)<|E (Al AF Z f.D.AE Z)<|ve (Ac r 1 (Ab ax Z (NX p.1 11))) ?_;rintro i i ⟨i,r,r,rfl⟩;rw[o];refine E (BL Z)<|M Z ?_;apply BU i false 4 false CK
  ·intro o o;refine wo<|E (Aa GP Z)<|wo<|E (Al AF Z f.D.AE Z)<|wo<|ve (Ac i 1 (Ab ax Z (NX p.2 63))) ?_;rintro i i ⟨i,i,i,rfl⟩;rw[t];refine wo<|E (BL Z) ?_;exact BV 4 o.D
  intro i i i;refine Ah<|Cz Z (fun i=>?_) fun i=>?_
  ·exact absurd i AO
  refine As<|Q<|V Z<|An<|AG (σ:=Nat) (fun j=>[(2,P1 b2),(3,P1 b3),(4, .bool false),(5,I k),(6,P1 b6),(7,I j)]) (fun j w'=>j≤k∧∃c',CD w c' w'∧Bu Bx c' w' [0] a x.Ad∧AI c' w' 103 b3 [I x.id,I x.len,I x.gen,a] 115∧AI c' w' 106 b6 [I p.1,I p.2] 125) (fun j=>k-j) 0 AL ⟨Wm _,_,hO.D,g.D,AR.D,f.D⟩ ?_;rintro j i ⟨i,i,hO,g,AR,f⟩;refine Ag<|Q<|M Z<|M Z<|E (AX Z Z)<|Ah<|BA Z (fun o=>?_) fun o=>?_
  ·have r:j<k:=G;have o:=(Co g (show j<x.Ad.length by omega) AO).1;refine As<|Ag<|An<|Ag<|AM i [] [0,1,0,0,0,1,0,1,0] [0,1,2,3,4,5,6,7,8] fun i i i=>?_;refine AN Z (Aa Cl Z)<|vc Z i.kp (AR.D.kb CH Z Z)<|Bm Z Z<|AN Z (Cv DL) ?_;refine AN Z (Bn Ct Z)<|vc Z i.kp (o.D.kf AF Z Z)<|AN Z (Aa Ct Z)<|vc Z i.kp (f.D.kb AF Z Z)<|AN Z (BO Z Z)<|AP ?_;refine Cz Z (fun o=>?_) fun o=>?_
   ·have i:=Aal.1 R j k G l r;rw[←hp] at i;exact absurd (Adf o) (i G)
   refine As<|cg<|M Z<|E (Bc Z Z Ai Ai)<|V Z ?_;exact⟨j+1,AL,⟨G,_,hO.D,g.D,AR.D,f.D⟩,G⟩
  refine Az Z<|cg<|M Z<|E (Bc Z Z Ai Ai)<|V Z ?_;exact⟨k+1,AL,⟨G,_,hO,g,AR⟩,G⟩
 refine Az Z<|Q<|V Z<|Af Z Z ?_;exact⟨hO.D.below,Z⟩
theorem ZL(hs:Small z)(j:Rd DS w a C)(S:∀x∈C,Dg z x=true)(R:C.Pairwise fun v c=>v.id<c.id):Calls QP 128 #[.agg (DB z).toArray,a] w (Bt fun v' w'=>AZ w w'∧v'= .bool true):=by
 have f:=j.AD;have f:=j.small;obtain⟨c,hO,f⟩:=Ay w;have g:=hO.rd j;refine AY 39 #[.tmp 4] func128 Z<|Q<|Fa c 102 fun w1 b2 c1 f i=>?_;refine V Z<|Ag<|Q<|V Z<|An<|AG (σ:=Nat) (fun k=>[(1,a),(2,P1 b2),(4, .bool false),(5,I k)]) (fun k w'=>k≤C.length∧∃c',CD w c' w'∧Bu DS c' w' [0] a C∧AI c' w' 102 b2 (DB z) 29) (fun k=>C.length-k) 0 AL ⟨Wm _,_,hO.D,g.D,i⟩ ?_;rintro k f ⟨O,o,hO,g,i⟩;refine Ag<|Q<|M Z<|M Z<|E (BN Di) ?_;refine E (AX Z Z)<|Ah<|BA Z (fun f=>?_) fun f=>?_
 ·have f:k<C.length:=G;obtain⟨u,p,l,_⟩:=GK g f;obtain⟨r,r,_⟩:=GK g (show k-1<C.length by omega);have t:=p;obtain⟨x,hx⟩:∃x,x=C[k]:=⟨_,Z⟩;have J:=S x (by rw[hx];exact mv f);rw[←hx] at p t l;have U:=l.AB.AD;have U:=l.AB.AA;obtain⟨y,hy⟩:∃y,y=C[k-1]:=⟨_,Z⟩;rw[←hy] at r;have U:0<k→y.id<x.id:=fun h=>by rw[hx,hy];exact Aal.1 R (k-1) k G f G
  refine As<|Ag<|An<|Ag<|AM o [] [1,0,0,0,1,2,0,0,0,0,0,0,0,0,0,0,1,0,0,0,0,1,0,0,0] [0,1,2,3,4,5,6,7,8,9,10,11,12,13,14,15,16,17,18,19,20,21,22,23,24] fun w2 f f=>?_;refine vc Z f.kp (i.D.kn CP Z Z)<|Bm Z Z<|Bm Z Z<|AN Z (Cv Di) ?_;refine vc Z f.kp (p.D.ka Cn Z Z)<|Db Z (Ac o 1 (Ab xS Z (cP hs l.D.AB J))) ?_;rintro l l ⟨l,p,J,rfl⟩;refine f.Bl p fun f=>AN Z (BL Z)<|Bm Z Z ?_;apply Dc l false 16 _ f.kp Mq
  ·intro p p;refine Bm Z Z<|AN Z (CM Z Z)<|Bm Z Z ?_;apply Dc l true 12 _ f.kp Mq
   ·intro l l;refine Bm Z Z<|Bm Z Z<|AN Z (Gu Z Z Ai Ai)<|AN Z (Ky Di g.D Z Z G G) ?_;rw[show((k:Int)-1).toNat=k-1 by omega];refine AN Z (Bn Dy Z)<|vc Z f.kp (r.D.kf AF Z Z)<|Bm Z Z<|Bm Z Z<|AN Z (Cv Di) ?_;refine AN Z (Bn Dy Z)<|vc Z f.kp (t.D.kf AF Z Z)<|AN Z (Dh Z Z) ?_;exact Dd 12 l
   intro l l l;exact Dd 4 p.D
  intro l l l;refine AP ?_;refine Cz Z (fun f=>?_) fun f=>?_
  ·exfalso;simp at f;omega
  refine As<|cg<|M Z<|E (Bc Z Z Ai Ai)<|V Z ?_;exact⟨k+1,AL,⟨G,_,hO.D,g.D,i.D⟩,G⟩
 refine Az Z<|Q<|E (Ba CP Z i.AE Z)<|ve (Ac o 1 (Ab sD Z (Yi hs))) ?_;rintro f f ⟨f,f,f,rfl⟩;refine V Z<|Af Z Z ?_;exact⟨hO.D.D.below,Z⟩
def zh(l:List CV)(d:Int):Int:=NC (fun x=>decide (x.id=d)) l
theorem rj{d:Int}(g:Rd DS w a C):Calls QP 130 #[a,I d] w (Bt fun v' w'=>AZ w w'∧v'=I (zh C d)):=by
 have J:=g.AD;have R:=g.small;obtain⟨c,hO,t⟩:=Ay w;have f:=hO.rd g;refine AY 20 #[.tmp 4] func130 Z<|Q<|V Z<|Ag<|Q<|V Z<|An<|AG (σ:=Nat) (fun k=>[(0,a),(1,I d),(4,I 0),(5,I k)]) (fun k w'=>(k≤C.length∧∀x∈C.take k,decide (x.id=d)=false)∧∃c',CD w c' w'∧Bu DS c' w' [0] a C) (fun k=>C.length-k) 0 AL ⟨⟨Wm _,by simp⟩,_,hO,f⟩ ?_;rintro k U ⟨⟨O,l⟩,S,hO,f⟩;refine Ag<|Q<|M Z<|M Z<|E (BN Di) ?_;refine E (AX Z Z)<|Ah<|BA Z (fun r=>?_) fun r=>?_
 ·have j:k<C.length:=G;obtain⟨u,p,_⟩:=GK f j;refine As<|Ag<|An<|Q<|M Z<|M Z<|E (Cv Di) ?_;refine E (Bn Dy Z)<|E (FF AF Z p.DF Z)<|M Z<|E (BO Z Z)<|Ah<|BA Z (fun i=>?_) fun i=>?_
  ·have o:(fun x:CV↦decide (x.id=d)) C[k]=true:=by simpa using i
   refine Q<|M Z<|V Z<|Af Z Z ?_;exact⟨hO.D.below,by rw[zh,Ua j o l]⟩
  have o:decide (C[k].id=d)=false:=by simpa using i
  refine As<|cg<|M Z<|E (Bc Z Z Ai Ai)<|V Z ?_;exact⟨k+1,AL,⟨⟨G,Ha l j o⟩,_,hO,f⟩,G⟩
 refine Az Z<|Q<|V Z<|Af Z Z ?_;exact⟨hO.D.below,by rw[zh,Ub G l]⟩
theorem rk(hs:Small z)(R:n≤100000):Calls QP 129 #[.agg (DB z).toArray,I n] w (Bt fun v w'=>AZ w w'∧v=I (BI z n:Nat)):=by
 obtain⟨p,r,U,t,C⟩:=id hs;obtain⟨c,hO,j⟩:=Ay w;have o:z.k*z.size≤3*120:=WO r C;have l:0<z.k*z.size:=Ae5 p t;obtain⟨s,i⟩:∃s,s=z.k*z.size:=⟨_,Z⟩;rw[←i] at o l;have f:(z.k:Int)*(z.size:Int)=(s:Int):=by rw[i];exact(Acf _ _).symm
 refine AY 19 #[.tmp 4] func129 Z<|Q<|Fa c 102 fun w1 b2 c1 J g=>?_;refine V Z<|Q<|M Z<|E (Aa CN Z)<|E (Al AF Z g.AE Z)<|E (Aa DO Z)<|E (Al AF Z g.AE Z) ?_;refine E (HK (m:=(z.k:Int)) (n:=(z.size:Int)) Z Z (by rw[f];omega) (by rw[f];omega)) ?_;rw[f];refine E (Bc Z Z Ai Ai)<|E (Gu Z Z Ai Ai)<|E (Aa CN Z)<|E (Al AF Z g.AE Z)<|E (Aa DO Z)<|E (Al AF Z g.AE Z)<|E (HK (m:=(z.k:Int)) (n:=(z.size:Int)) Z Z (by rw[f];omega) (by rw[f];omega)) ?_;rw[f];refine E (dD Z Z G G G) ?_;rw[show((n:Int)+(s:Int)-1)/(s:Int)=(((n+s-1)/s:Nat):Int) by rw[Int.natCast_ediv,show((n+s-1:Nat):Int)=(n:Int)+s-1 by omega]];refine V Z<|Af Z Z ?_;exact⟨hO.D.D.below,by rw[BI,←i]⟩
theorem Yj(n:Nat)(f:0<n):∀(i:Nat) (l:Tx),i<(Eo n l.length l).length→(Eo n l.length l)[i]?=some ((l.drop (i*n)).take n)
 |i,[],h=>by simp[Eo] at h
 |0,a::l,_=>by rw[Om n f Bb];simp
 |i+1,a::l,h=>by
  rw[Om n f Bb] at h⊢;rw[Aeq,Yj n f i _ (by simpa using h),Ab7,Aad,Aa2,Adi n]
theorem nX(hs:0<z.k*z.size)(hi:i<BI z W.length):(EU z W).getD i []=(W.drop (i*(z.k*z.size))).take (z.k*z.size):=by
 have h:=(GM z hs W).1;rw[hk,EU,Yj _ hs i W (by rw[EU] at h;omega)];rfl
theorem eP(hs:0<z.k*z.size)(t:Tx):(EU z t).flatten=t:=NZ _ hs _ t (Nat.le_mul_of_pos_right _ hs)
theorem jK(hs:0<z.k*z.size)(n:Nat):n≤BI z n*(z.k*z.size):=by
 rw[BI];have f:=Nat.div_add_mod (n+z.k*z.size-1) (z.k*z.size);have g:=Nat.mod_lt (n+z.k*z.size-1) hs;rw[Nat.mul_comm] at f;omega
theorem rl{p:α→Bool}(h:∀x∈t,p x=true):Ej p t=t.length:=by
 induction t with
 |nil=>rfl
 |cons a t i=>
  have g:=h a Aau;have f:=i fun x hx=>h x (Aaw _ hx);rw[Ej] at f⊢;rw[Adh,zm g,SG,f,SG]
theorem RJ(h:C.Pairwise fun a b=>a.id<b.id){x:CV}(hx:C[i]?=some x):Ib C x.id=some i:=by
 obtain⟨hi,rfl⟩:=kJ.1 hx;refine WM.2 ⟨hi,by simp,fun j f=>?_⟩;have:=Aal.1 h j i G hi f;simp;omega
section
variable {s:CO} {b:Bk} {t d:Tx} {pre:List OZ}
theorem rm{x:CV}(h:∀y∈b.Ae,y.id<b.next)(hx:x.id=b.next):jm b x={b with Ae:=b.Ae++[x],next:=b.next+1}:=by
 have f:Pw b.Ae x.id=b.Ae.length:=rl fun y hy=>by have:=h y hy;simp;omega
 have g:Ib b.Ae x.id=none:=Abq.2 fun y hy=>by have:=h y hy;simp;omega
 rw[jm,f,g,IJ,ss Bb,Abi,Ag8,hx];congr 1;omega
theorem jL(h:∀y∈b.Ae,y.id<b.next):∀S:List CV,(∀(i:Nat) (x:CV),S[i]?=some x→x.id=b.next+(i:Nat))→Da b (S.map Nt.RE)={b with Ae:=b.Ae++S,next:=b.next+(S.length:Nat)}:=by
 intro S;induction S generalizing b with
 |nil=>intro _;simp[Da]
 |cons x S j=>
  intro f;have g:=f 0 x Z;have e:Da b ((x::S).map Nt.RE)=Da (jm b x) (S.map Nt.RE):=rfl;rw[e,rm h (by simpa using g),j]
  ·simp only[oo,Af6,SG];congr 1;omega
  ·intro y hy;dsimp only at hy⊢;rcases List.mem_append.1 hy with hy|hy
   ·have:=h y hy;omega
   ·rw[pv.1 hy];omega
  ·intro i y hy;have:=f (i+1) y (by simpa using hy);dsimp only;omega
def Sw(s:CO)(b:Bk)(t d:Tx):KA:=⟨d,(t.length:Nat),false,Jn b.next (BI s t.length)⟩
theorem fold_add(h:∀y∈b.Ae,y.id<b.next)(f:Vp b.AQ d=none):Da b (Es s b.next t pre d)=⟨b.Ae++Dr s b.next t pre,b.AQ.take (Mh b.AQ d)++Sw s b t d::b.AQ.drop (Mh b.AQ d),b.De,b.next+(BI s t.length:Nat)⟩:=by
 have e:Da b (Es s b.next t pre d)=pp (Da b ((Dr s b.next t pre).map Nt.RE)) (Sw s b t d):=by
  rw[Es,Da,Adq];rfl
 rw[e,jL h _ (fun i x hx=>by
  have hi:i<BI s t.length:=by have:=(kJ.1 hx).1;rwa [Ee] at this
  rw[Lr hi] at hx;injection hx with hx;rw[←hx];rfl),Ee,pp]
 show Bk.mk _ (IJ b.AQ (Mh b.AQ d) (Vp b.AQ d).isSome _) _ _=_
 rw[f,IJ,ss Bb]
theorem cQ(hx:Lt s b):(b.Ae++Dr s b.next t pre).Pairwise fun a c=>a.id<c.id:=by
 refine Abp.2 ⟨hx.eN,?_,fun a p c hc=>?_⟩
 ·refine Aal.2 fun i j hi o r=>?_;rw[Ee] at hi o;have f:=dd (l:=Dr s b.next t pre) (by rw[Ee];exact hi);have g:=dd (l:=Dr s b.next t pre) (by rw[Ee];exact o);rw[Lr hi] at f;rw[Lr o] at g;injection f with f;injection g with g;rw[←f,←g];show b.next+(i:Int)<b.next+(j:Int)
  omega
 obtain⟨k,_,rfl⟩:=JJ hc;have:=(hx.Bl a p).2;show a.id<b.next+(k:Int)
 omega
theorem cR(hs:0<s.k*s.size)(hx:Lt s b):∀(j k:Nat),k+j=BI s t.length→Fc s (b.Ae++Dr s b.next t pre) ((t.drop (k*(s.k*s.size))).length:Nat) ((Jn b.next (BI s t.length)).drop k)=true
 |0,k,O=>by
  have:=jK hs t.length;have o:k=BI s t.length:=G;rw[show(Jn b.next (BI s t.length)).drop k=[] from Abn (by rw[Kn];omega),Fc,kK,o,pn];omega
 |j+1,k,O=>by
  have f:k<BI s t.length:=G;have p:k<(Jn b.next (BI s t.length)).length:=by rw[Kn];exact f
  have hid:(Jn b.next (BI s t.length))[k]=b.next+(k:Int):=by simp[Jn]
  have g:(b.Ae++Dr s b.next t pre)[b.Ae.length+k]?=some (Mi s b.next t pre k):=by
   rw[Abb G,Ab3,Lr f]
  have l:=RJ (cQ (t:=t) (pre:=pre) hx) g;rw[List.drop_eq_getElem_cons p,hid,Fc];rw[show b.next+(k:Int)=(Mi s b.next t pre k).id from Z,l];dsimp only;rw[g];have hl:(Mi s b.next t pre k).len=(((t.drop (k*(s.k*s.size))).take (s.k*s.size)).length:Nat):=by
   show((((EU s t).getD k []).length:Nat):Int)=_
   rw[nX hs f]
  dsimp only;rw[hl,List.length_take];rw[if_pos G];have i:=cR hs hx j (k+1) G;rw[show(((t.drop (k*(s.k*s.size))).length:Nat):Int)-((min (s.k*s.size) (t.drop (k*(s.k*s.size))).length:Nat):Int)=((t.drop ((k+1)*(s.k*s.size))).length:Nat) by
   rw[kK,kK,Aad,Aa2];omega]
  exact i
theorem nY(hs:Small s)(hx:Lt s b)(b2:k≤64)(hp:Fz x (Ce k m (b.Ae.flatMap (·.Ad))) (s.k+s.m) pre)(hl:x.length=m)(b3:m≤12)(R:pre.length=BI s t.length)(hd:d.length=32)(J:Vp b.AQ d=none)(hf:b.AQ.length<60)(a6:b.next+(BI s t.length:Nat)≤1073741824)(b4:t.length≤2000):Lt s (Da b (Es s b.next t pre d)):=by
 have a1:0<s.k*s.size:=Ae5 hs.1 hs.2.2.2.1;obtain⟨a8,b0,b1⟩:=LZ (next:=b.next) hp hl R;have f:=hx.next;rw[fold_add (fun y hy=>(hx.Bl y hy).2) J];have C:(b.AQ.take (Mh b.AQ d)++Sw s b t d::b.AQ.drop (Mh b.AQ d)).Perm (Sw s b t d::b.AQ):=by
  have:=List.perm_middle (a:=Sw s b t d) (l₁:=b.AQ.take (Mh b.AQ d)) (l₂:=b.AQ.drop (Mh b.AQ d));rwa [Aas] at this
 have f:∀l∈Ce k m (b.Ae.flatMap (·.Ad)),∀y∈l,0≤y∧y<64:=fun l h y hy=>by have:=(ML l h).2.1 y hy;omega
 have a7:∀liveQ∈Dr s b.next t pre,Dg s liveQ=true∧liveQ.id<b.next+(BI s t.length:Nat):=fun liveQ g=>by
  obtain⟨N,O,rfl⟩:=JJ g;obtain⟨o,g2,o,r,I,U⟩:=RF (next:=b.next) hs hp R (by rw[Hb];exact hl) G f O;have f:=b0 _ g;rw[Ab4,Adg] at f;refine⟨JM.2 ⟨G,G,o,r,I,List.Pairwise.imp (S:=fun a c:Int×Int=>c.1≠-1→a.1≠c.1) (fun h _=>h) f,fun p o=>?_⟩,G⟩;have:=U p o;simp only[Ki,Aa3,kg,pn];omega
 refine⟨⟨by dsimp only;omega,a6⟩,fun liveQ g=>?_,cQ hx,?_,fun e r=>?_,?_,?_,?_⟩
 ·rcases Aac.1 g with h|h
  ·have:=hx.Bl liveQ h;exact⟨this.1,by dsimp only;omega⟩
  exact a7 liveQ h
 ·dsimp only;rw[List.flatMap_append];refine List.pairwise_append.2 ⟨hx.free,List.Pairwise.imp (S:=fun a c:Int×Int=>0≤c.1→a≠c) (fun h _=>h) (List.nodup_iff_pairwise_ne.1 a8),fun p o q I _ e=>?_⟩;subst e;exact(b1 p I).1 o
 ·rcases Aak.1 (C.mem_iff.1 r) with rfl|r
  ·refine⟨hd,by show(0:Int)≤((t.length:Nat):Int);omega,by show((t.length:Nat):Int)≤2000;omega,by show(Jn _ _).length=BI s ((t.length:Nat):Int).toNat;rw[Kn,TJ],?_⟩;have g:=cR (t:=t) (pre:=pre) a1 hx (BI s t.length) 0 G;rw[Ac4,Adl,Adl] at g;exact g
  exact(hx.dx e r).tN
 ·have g:=cw (b:=b) (e:=Sw s b t d) (fun i j hi U r=>Aal.1 hx.ord i j hi U r);have f:(pp b (Sw s b t d)).AQ=b.AQ.take (Mh b.AQ d)++Sw s b t d::b.AQ.drop (Mh b.AQ d):=by
   show IJ b.AQ (Mh b.AQ d) (Vp b.AQ d).isSome _=_
   rw[J,IJ,ss Bb]
  rw[f] at g;exact Aal.2 g
 ·dsimp only;rw[(C.flatMap_right _).nodup_iff,List.flatMap_cons,List.nodup_append];refine⟨?_,hx.ids,fun p o q I e=>?_⟩
  ·show(Jn b.next (BI s t.length)).Nodup
   rw[Jn,Ab4,Adg];exact(Ab4.1 List.nodup_range).imp fun g f=>g G
  subst e;have g:=VA (show p∈Jn b.next (BI s t.length) from o);obtain⟨g,o,r⟩:=Ab5.1 I;obtain⟨i,hi⟩:=Oh (hx.dx g o).2.2.2.2 p r;obtain⟨o,g,_⟩:=WM.1 hi;have f:=(hx.Bl _ (mv o)).2;simp at g;omega
 dsimp only;rw[C.length_eq,List.length_cons];omega
end
theorem nZ(hf:(C.flatMap (·.Ad)).Pairwise fun p q=>0≤q.1→p≠q)(hi:i<C.length)(O:k<C[i].Ad.length)(f:0≤(C[i].Ad[k]).1){p:Int×Int}(hp:p∈(C.take i).flatMap (·.Ad)++C[i].Ad.take k):p≠C[i].Ad[k]:=by
 have g:C=C.take i++C[i]::C.drop (i+1):=by rw[←Aav hi,Aas]
 have l:((C.take i).flatMap (·.Ad)++(C[i].Ad++(C.drop (i+1)).flatMap (·.Ad))).Pairwise fun p q=>0≤q.1→p≠q:=by
  rw[g,Aan,Aaa] at hf;exact hf
 obtain⟨_,f2,f3⟩:=Abp.1 l;obtain⟨f4,_,_⟩:=Abp.1 f2;rcases Aac.1 hp with hp|hp
 ·exact f3 p hp _ (Abj _ (mv O)) f
 ·obtain⟨j,o,rfl⟩:=Aei.1 hp;exact Aal.1 f4 j k G O G f
theorem eQ{id:Int}(h:Fc z C p (id::l)=true):∃(i:Nat) (x:CV),C[i]?=some x∧Ib C id=some i∧x.id=id∧x.len=min p (z.k*z.size:Nat)∧Fc z C (p-x.len) l=true:=by
 rw[Fc] at h;cases f:Ib C id with
 |none=>rw[f] at h;cases h
 |some i=>
  obtain⟨hi,g,_⟩:=List.findIdx?_eq_some_iff_getElem.1 f;rw[f] at h;dsimp only at h;rw[List.getElem?_eq_getElem hi] at h;dsimp only at h;split at h
  ·rename_i e;exact⟨i,C[i],dd hi,Z,by simpa using g,e,h⟩
  ·cases h
theorem uU(k:Nat):(replicate k [Value.bool false]).flatten=(replicate k false).map .bool:=by
 induction k with
 |zero=>rfl
 |succ k f=>rw[Abo,Abo,Abc,f];rfl
theorem jM{s:CO}{vS vT vG:Value}{b:Bk}(hs:Small s)(e9:Rd DS w vS b.Ae)(hT:Rd Ie w vT b.AQ)(j2:Rd Wo w vG b.De)(a6:Lt s b)(ht:b.De=[])(hl:b.Ae.length≤1000):Calls QP 63 #[.agg (DB s).toArray, .agg #[vS,vT,vG,I b.next]] w (Bt fun v w'=>AZ w w'∧v= .bool true):=by
 have a25:=e9.AD;have a26:=hT.AD;have a27:=j2.AD;have a70:=e9.small;have n6:=hT.small;obtain⟨a23,a24⟩:=a6.next;obtain⟨a32,v7,a33,a34,v8⟩:=id hs;have a02:=a6.zC;have s3:∀x∈b.Ae,x.Ad.length=s.k+s.m:=fun x hx=>(CI (a6.Bl x hx).1).2.2.2.2.1;have a04:s.k*s.size≤3*120:=WO v7 v8;have j5:(s.k:Int)*(s.size:Int)=((s.k*s.size:Nat):Int):=(Acf _ _).symm;have n9:(decide (0≤b.next)&&decide (b.next≤1073741824))=true:=by simp;omega
 obtain⟨c,hO,r4⟩:=Ay w;have r:=hO.rd e9;have C:=hO.rd hT;have t:=hO.rd j2;clear r4 e9 hT j2;rw[ht] at t;refine AY 251 #[.tmp 4] func63 Z<|Q<|Fa c 102 fun w1 b2 c1 x7 o=>?_;refine Fa c1 103 fun w2 b3 c2 y3 AR=>?_;refine V Z<|Ag<|Q<|E (Aa CA Z)<|E (Al Ei Z AR.AE Z)<|E (BN Di) ?_;refine E (CM Z Z)<|M Z ?_;apply BU c2 false 4 (decide (60<(b.AQ.length:Int))) CK
 ·intro a15 p0;refine wo<|E (Aa Ev Z)<|wo<|E (Al HI Z AR.AE Z)<|wo<|E (BN Ge) ?_;refine wo<|E (CM Z Z) ?_;exact BV 4 p0
 intro a63 k4 y9;refine M Z ?_;apply AW false 4 _ CK
 ·intro a06;refine wo<|E (Aa Qz Z)<|wo<|E (Al aC Z AR.D.AE Z)<|wo<|E (BN hX) ?_;refine wo<|E (CM Z Z) ?_;exact EQ 4
 refine M Z ?_;apply BU k4 false 4 false CK
 ·intro a09 o4;refine wo<|E (Aa Ik Z)<|wo<|E (Al AF Z AR.D.AE Z)<|wo<|ve (Ac k4 1 (Ab ax Z (NX b.next 1073741824))) ?_;rintro a41 a64 ⟨x3,z1,a19,rfl⟩;rw[n9];refine wo<|E (BL Z) ?_;exact BV 4 o4.D
 intro a65 k5 z6;refine M Z ?_;apply BU k5 false 5 false CK
 ·intro a12 o7;refine wo<|E (Ba CP Z o.D.AE Z)<|wo<|E (Aa CA Z)<|wo<|E (Al Ei Z AR.D.AE Z)<|wo<|ve (Ac k5 1 (Ab xe Z (ZL hs r.D.AB (fun x hx↦(a6.Bl x hx).1) a6.eN))) ?_;rintro a42 a66 ⟨x4,z7,a21,rfl⟩;refine wo<|E (BL Z) ?_;exact BV 5 o7.D
 intro a67 x5 z8;refine Ah<|Cz Z (fun l0=>?_) fun l0=>?_
 ·exfalso;simp at l0;omega
 refine As<|Q<|V Z<|Ag<|Q<|V Z<|An<|AG (σ:=Nat×Value×List (Int×Int)) (fun f=>[(2,P1 b2),(3,P1 b3),(4, .bool false),(5,f.2.1),(6,I f.1)]) (fun f w'=>(f.1≤b.Ae.length∧f.2.2.length≤f.1*5∧∀p∈f.2.2,p∈(b.Ae.take f.1).flatMap (·.Ad))∧∃c',CD w c' w'∧Bu DS c' w' [0] vS b.Ae∧Bu Ie c' w' [0] vT b.AQ∧Bu Wo c' w' [0] vG []∧AI c' w' 102 b2 (DB s) 29∧AI c' w' 103 b3 [vS,vT,vG,I b.next] 58∧AJ c' w' 8 125 2 f.2.1 f.2.2.length (f.2.2.flatMap FX)) (fun f=>b.Ae.length-f.1) (0,_,[]) AL ⟨⟨Nat.zero_le _,Nat.le_refl _,fun p hp=>(by cases hp)⟩,_,hO.D,r.D,C.D,t.D,o.D,AR.D,Br _ _ _ _ _⟩ ?_;clear hO r C t o AR;rintro⟨i,w0,T⟩ n4 ⟨⟨hi,p8,k8⟩,e2,hO,r,C,t,o,AR,l⟩;dsimp only at hi p8 k8 l;have j8:=l.AD;have j9:=l.AA;refine Ag<|Q<|M Z<|E (Aa CA Z)<|E (Al Ei Z AR.AE Z)<|E (BN Di) ?_;refine E (AX Z Z)<|Ah<|BA Z (fun r1=>?_) fun r1=>?_
 ·have a8:i<b.Ae.length:=G;obtain⟨u,e4,J,_⟩:=GK r a8;obtain⟨x,hx⟩:∃x,x=b.Ae[i]:=⟨_,Z⟩;have h7:x∈b.Ae:=by rw[hx];exact mv a8
  have a22:=a6.Bl x h7;have a20:=s3 x h7;rw[←hx] at e4 J;have u3:=J.AB.AD;have u4:=J.AB.AA;have u5:=J.AB.small;have U:=e4;have h3:=e4;refine As<|Ag<|An<|Ag<|Ag<|AM e2 [] [0,1,0,0,0,1,0,1,0] [0,1,2,3,4,5,6,7,8] fun a68 a00 g=>?_;have e0:=o;have b7:=AR;have r2:=U;refine AN Z (Aa CA Z)<|vc Z g.kp (b7.D.kb Ei Z Z)<|Bm Z Z<|AN Z (Cv Di) ?_;refine AN Z (Bn Dy Z)<|vc Z g.kp (e4.D.kf AF Z Z)<|AN Z (Aa Ik Z)<|vc Z g.kp (b7.D.kb AF Z Z)<|AN Z (Dh Z Z)<|AP ?_;clear e0 b7 r2;clear g;refine Cz Z (fun l7=>?_) fun l7=>?_
  ·exfalso;simp at l7;omega
  refine As<|Q<|V Z<|An ?_;refine AG (σ:=Nat×Value×List (Int×Int)) (fun f=>[(2,P1 b2),(3,P1 b3),(4, .bool false),(5,f.2.1),(6,I i),(7,I f.1)]) (fun f w'=>(f.1≤x.Ad.length∧f.2.2.length≤i*5+f.1∧∀p∈f.2.2,p∈(b.Ae.take i).flatMap (·.Ad)++x.Ad.take f.1)∧∃c',CD w c' w'∧Bu DS c' w' [0] vS b.Ae∧Bu Ie c' w' [0] vT b.AQ∧Bu Wo c' w' [0] vG []∧Bu Bx c' w' [0] u x.Ad∧DG c' w' [0] (Bz vS 4 i) [I x.id,I x.len,I x.gen,u]∧AI c' w' 102 b2 (DB s) 29∧AI c' w' 103 b3 [vS,vT,vG,I b.next] 58∧AJ c' w' 8 125 2 f.2.1 f.2.2.length (f.2.2.flatMap FX)) (fun f=>x.Ad.length-f.1) (0,w0,T) AL ⟨⟨Nat.zero_le _,by dsimp only;omega,fun p hp=>List.mem_append_left _ (k8 p hp)⟩,_,hO.D,r.D,C.D,t.D,J.D,U.D,o.D,AR.D,l.D⟩ ?_;clear hO r C t o AR l J e4 U h3 j8 j9;rintro⟨k,e1,a1⟩ n5 ⟨⟨O,p9,c8⟩,e3,hO,r,C,t,J,U,o,AR,l⟩;dsimp only at O p9 c8 l;have j8:=l.AD;have j9:=l.AA;have h3:=U;refine Ag<|Q<|M Z<|E (Aa CA Z)<|E (Al Ei Z AR.AE Z)<|M Z<|E (Cv Di) ?_;refine E (Bn Cl Z)<|E (FF CH Z U.DF Z)<|E (BN DL) ?_;refine E (AX Z Z)<|Ah<|BA Z (fun q2=>?_) fun q2=>?_
  ·have c0:k<x.Ad.length:=G;have l8:=(Co J c0 AO).1;obtain⟨q,h5⟩:∃q,q=x.Ad[k]:=⟨_,Z⟩;rw[←h5] at l8;have r6:0≤q.1→∀p∈a1,p≠q:=fun o1 p hp=>by
    have R:=nZ a6.free a8 (by rw[←hx];exact c0) (by simp only[←hx,←h5];exact o1) (p:=p) (by rw[←hx];exact c8 p hp);simp only[←hx,←h5] at R;exact R
   have h6:x.Ad.take (k+1)=x.Ad.take k++[q]:=by rw[pk c0,h5]
   refine As<|Ag<|An<|Q<|E (Aa CA Z)<|E (Al Ei Z AR.AE Z)<|M Z<|E (Cv Di) ?_;refine E (Bn Cl Z)<|E (FF CH Z h3.DF Z)<|M Z<|E (Cv DL) ?_;refine E (DT Dj Z l8.DF Z)<|EK e3 108 JU fun a69 b8 x6 b5 b9=>?_;refine Av (Am Dj Z Z b9 Z Z Bg) ?_;rintro _ a43 ⟨b9,b4⟩;refine Ah<|Ag<|Q<|E (Aa Ct Z)<|E (Al AF Z b9.AE Z)<|E (AX Z Z)<|Ah<|BA Z (fun q3=>?_) fun q3=>?_
   ·refine Az Z<|cg<|M Z<|E (Bc Z Z Ai Ai)<|V Z ?_;replace hO:=(hO.D b5).D b4;replace r:=(r.D b5).D b4;replace C:=(C.D b5).D b4;replace t:=(t.D b5).D b4;replace o:=(o.D b5).D b4;replace AR:=(AR.D b5).D b4;replace l:=(l.D b5).D b4;replace J:=(J.D b5).D b4;replace U:=(U.D b5).D b4
    first
    |exact⟨(k+1,_,a1++[q]),AL,⟨⟨by dsimp only;omega,by dsimp only;rw[List.length_append,List.length_singleton];omega,fun p hp=>by
     dsimp only at hp⊢;rw[h6,←List.append_assoc];rcases List.mem_append.1 hp with hp|hp
     ·exact Abj _ (c8 p hp)
     exact List.mem_append_right _ hp⟩,_,hO,r,C,t,J,U,o,AR,by dsimp only;rw[List.length_append,List.flatMap_append];exact l⟩,by show x.Ad.length-(k+1)<x.Ad.length-k;omega⟩
    |exact⟨(k+1,e1,a1),AL,⟨⟨by dsimp only;omega,by dsimp only;omega,fun p hp=>by
     dsimp only at hp⊢;rw[h6,←List.append_assoc];exact List.mem_append_left _ (c8 p hp)⟩,_,hO,r,C,t,J,U,o,AR,l⟩,by show x.Ad.length-(k+1)<x.Ad.length-k;omega⟩
   have s4:0≤q.1:=G;refine As<|Ag<|Q<|V Z<|An<|AG (σ:=Nat) (fun j=>[(2,P1 b2),(3,P1 b3),(4, .bool false),(5,e1),(6,I i),(7,I k),(8,P1 b8),(9,I j)]) (fun j w'=>j≤a1.length∧∃c',CD w c' w'∧Bu DS c' w' [0] vS b.Ae∧Bu Ie c' w' [0] vT b.AQ∧Bu Wo c' w' [0] vG []∧Bu Bx c' w' [0] u x.Ad∧DG c' w' [0] (Bz vS 4 i) [I x.id,I x.len,I x.gen,u]∧AI c' w' 102 b2 (DB s) 29∧AI c' w' 103 b3 [vS,vT,vG,I b.next] 58∧AI c' w' 108 b8 [I q.1,I q.2] 125∧AJ c' w' 8 125 2 e1 a1.length (a1.flatMap FX)) (fun j=>a1.length-j) 0 AL ⟨Wm _,_,hO.D,r.D,C.D,t.D,J.D,U.D,o.D,AR.D,b9,l.D⟩ ?_;clear hO r C t o AR l J U h3 b9;rintro j w3 ⟨e5,j1,hO,r,C,t,J,U,o,AR,b9,l⟩;refine Ag<|Q<|M Z<|M Z<|E (Tv DL l Z)<|E (AX Z Z)<|Ah<|BA Z (fun q4=>?_) fun q4=>?_
   ·have n1:j<a1.length:=G;have r3:DG j1 w3 [8] (Bz e1 2 j) [I a1[j].1,I a1[j].2]:=l.elem (fun _=>rfl) AO n1;have s0:=r6 s4 a1[j] (mv n1);refine As<|Ag<|An<|Ag<|AM j1 [] [0,0,0,1,1,0] [0,1,2,3,4,5] fun a44 x8 g=>?_;refine Bm Z Z<|Bm Z Z<|AN Z (BS DL l.D Z Z G G)<|vc Z g.kp (r3.D.ka Dj Z Z)<|vc Z g.kp (b9.D.kn Dj Z Z)<|AN Z (vY fF Z Z Z (by simp[GW])) ?_;refine AP ?_;clear g;refine Cz Z (fun h0=>?_) fun h0=>?_
    ·exfalso;simp[MT,Un] at h0;exact s0 (Prod.ext h0.1 h0.2)
    refine As<|cg<|M Z<|E (Bc Z Z Ai Ai)<|V Z ?_;exact⟨j+1,AL,⟨G,_,hO.D,r.D,C.D,t.D,J.D,U.D,o.D,AR.D,b9.D,l.D⟩,G⟩
   refine Az Z<|cg<|M Z<|E (Ba Dj Z b9.AE Z)<|ve (AH j1 199 DL Z Z Z Z Z) ?_;rintro _ a45 ⟨w4,w5,rfl,c5,k9⟩;refine ve (Ax DL Z Z l.D (Aw underlying50 k9.AE.AT Z Bg) Fh Fg) ?_;rintro a37 a46 ⟨w6,c6,l⟩;clear k9;have j8:=l.AD;have j9:=l.AA;refine V Z<|cg<|M Z<|E (Bc Z Z Ai Ai)<|V Z ?_;replace hO:=(hO.D c5).D c6;replace r:=(r.D c5).D c6;replace C:=(C.D c5).D c6;replace t:=(t.D c5).D c6;replace o:=(o.D c5).D c6;replace AR:=(AR.D c5).D c6;replace J:=(J.D c5).D c6;replace U:=(U.D c5).D c6
   first
   |exact⟨(k+1,_,a1++[q]),AL,⟨⟨by dsimp only;omega,by dsimp only;rw[List.length_append,List.length_singleton];omega,fun p hp=>by
    dsimp only at hp⊢;rw[h6,←List.append_assoc];rcases List.mem_append.1 hp with hp|hp
    ·exact Abj _ (c8 p hp)
    exact List.mem_append_right _ hp⟩,_,hO,r,C,t,J,U,o,AR,by dsimp only;rw[List.length_append,List.flatMap_append];exact l⟩,by show x.Ad.length-(k+1)<x.Ad.length-k;omega⟩
   |exact⟨(k+1,e1,a1),AL,⟨⟨by dsimp only;omega,by dsimp only;omega,fun p hp=>by
    dsimp only at hp⊢;rw[h6,←List.append_assoc];exact List.mem_append_left _ (c8 p hp)⟩,_,hO,r,C,t,J,U,o,AR,l⟩,by show x.Ad.length-(k+1)<x.Ad.length-k;omega⟩
  refine Az Z<|cg<|M Z<|E (Bc Z Z Ai Ai)<|V Z ?_;exact⟨(i+1,e1,a1),AL,⟨⟨by dsimp only;omega,by dsimp only;omega,fun p hp=>by
   have R:=c8 p hp;rw[List.take_of_length_le (show x.Ad.length≤k by omega)] at R;dsimp only;rw[List.take_succ_eq_append_getElem a8,List.flatMap_append,←hx];simpa using R⟩,_,hO,r,C,t,o,AR,l⟩,by show b.Ae.length-(i+1)<b.Ae.length-i;omega⟩
 refine Az Z<|Q<|E (Aa CA Z)<|E (Al Ei Z AR.AE Z)<|E (BN Di) ?_;refine ve (GD e2 7 Fi Z Z Ai Ai Ai) ?_;rintro e7 a47 ⟨w7,c9,h4⟩;rw[uU,TJ] at h4;refine V Z<|Ag<|Ag ?_;have a28:=h4.AD;have a29:=h4.AA;have l:=h4;refine cg<|V Z<|An ?_;replace hO:=hO.D c9;replace r:=r.D c9;replace C:=C.D c9;replace t:=t.D c9;replace o:=o.D c9;replace AR:=AR.D c9;refine AG (σ:=Nat×List Bool) (fun f=>[(2,P1 b2),(3,P1 b3),(4, .bool false),(10,e7),(11,I f.1)]) (fun f w'=>(f.1≤b.AQ.length∧f.2.length=b.Ae.length∧∀(j:Nat) (x:CV),f.2[j]?=some true→b.Ae[j]?=some x→x.id∈(b.AQ.take f.1).flatMap (·.list))∧∃c',CD w c' w'∧Bu DS c' w' [0] vS b.Ae∧Bu Ie c' w' [0] vT b.AQ∧Bu Wo c' w' [0] vG []∧AI c' w' 102 b2 (DB s) 29∧AI c' w' 103 b3 [vS,vT,vG,I b.next] 58∧AJ c' w' 7 4 1 e7 b.Ae.length (f.2.map .bool)) (fun f=>b.AQ.length-f.1) (0,replicate b.Ae.length false) AL ⟨⟨Wm _,Iz,fun j x e5=>by
  rw[Ady] at e5;split at e5<;>cases e5⟩,_,hO,r,C,t,o,AR,l⟩ ?_
 clear hO r C t o AR l;rintro⟨i,n7⟩ n4 ⟨⟨hi,k7,k6⟩,e2,hO,r,C,t,o,AR,l⟩;dsimp only at hi k7 k6 l;refine Ag<|Q<|M Z<|E (Aa Ev Z)<|E (Al HI Z AR.AE Z)<|E (BN Ge) ?_;refine E (AX Z Z)<|Ah<|BA Z (fun q9=>?_) fun q9=>?_
 ·have a8:i<b.AQ.length:=G;obtain⟨u,j4,c3,a03,a01⟩:=PS C a8;obtain⟨x,hx⟩:∃x,x=b.AQ[i]:=⟨_,Z⟩;have h7:x∈b.AQ:=by rw[hx];exact mv a8
  obtain⟨u6,a30,a31,u7,q5⟩:=a6.dx x h7;rw[←hx] at j4 c3;have u3:=c3.AB.AD;have u4:=c3.AB.AA;have u5:=c3.AB.small;obtain⟨a35,l1,_⟩:=PS C (show i-1<b.AQ.length by omega);obtain⟨y,hy⟩:∃y,y=b.AQ[i-1]:=⟨_,Z⟩;rw[←hy] at l1;have s5:0<i→Op.bytesLess y.AK x.AK=true:=fun h=>by rw[hx,hy];exact Aal.1 a6.ord (i-1) i G a8 G
  obtain⟨c4,j7⟩:∃c4:Nat,x.len=(c4:Int):=⟨x.len.toNat,G⟩;rw[j7] at j4;have o0:(decide ((0:Int)≤(c4:Int))&&decide ((c4:Int)≤2000))=true:=by simp;omega
  have u9:x.list.length=BI s c4:=by rw[u7,j7];rfl
  refine As<|Ag<|An<|Q<|E (Aa Ev Z)<|E (Al HI Z AR.AE Z)<|M Z<|E (Cv Ge) ?_;refine E (DT Mc Z j4.DF Z)<|EK e2 112 fZ fun a48 k0 j0 x9 a7=>?_;refine Av (Am Mc Z Z a7 Z Z Bg) ?_;rintro _ a49 ⟨a7,y0⟩;refine Ah<|Ag<|Ag<|AM j0 [] [0,1,0,0,0,0,0,0,0,1,0,0,0,0,1,0,1,0,0,0,0,0,1,2,0,0,0,0,1,0,1,0,1,2,0,0] [0,1,2,3,4,5,6,7,8,9,10,11,12,13,14,15,16,17,18,19,20,21,22,23,24,25,26,27,28,29,30,31,32,33,34,35] fun a50 y1 g=>?_;have e0:=o;have b7:=AR;have b6:=a7;refine AN Z (Aa Kd Z)<|vc Z g.kp (b6.D.kb CQ Z Z)<|AN Z (Ey underlying9 Z)<|AN Z (BK Z Z)<|Bm Z Z ?_;apply Dc j0 false 14 _ g.kp Mq
  ·intro a08 o3;refine Bm Z Z<|AN Z (CM Z Z)<|Bm Z Z ?_;apply Dc j0 true 10 _ g.kp Mq
   ·intro a07 o2;refine AN Z (Aa Ev Z)<|vc Z g.kp (b7.D.kb HI Z Z)<|Bm Z Z<|AN Z (Gu Z Z Ai Ai)<|AN Z (Ky Ge C.D Z Z G G) ?_;rw[show((i:Int)-1).toNat=i-1 by omega];refine AN Z (Bn Kd Z)<|vc Z g.kp (l1.D.kf CQ Z Z)<|AN Z (Aa Kd Z)<|vc Z g.kp (b6.D.kb CQ Z Z)<|AN Z (zH Z Z) ?_;exact Dd 10 o2
   intro a51 w8 y2;exact Dd 4 o3.D
  intro a52 k1 p1;refine Bm Z Z ?_;replace g:=g.tr p1 Z;apply Dc k1 false 4 _ g.kp Mq
  ·intro a11 o6;refine AN Z (Aa Ld Z)<|vc Z g.kp (b6.D.kb AF Z Z)<|Db Z (Ac k1 1 (Ab ax Z (NX (c4:Int) 2000))) ?_;rintro a38 a53 ⟨w9,p2,a16,rfl⟩;refine g.Bl p2 fun g=>?_;rw[o0];refine AN Z (BL Z) ?_;exact Dd 4 o6.D
  intro a54 k2 p3;refine Bm Z Z ?_;replace g:=g.tr p3 Z;apply Dc k2 false 8 _ g.kp Mq
  ·intro a13 o8;refine AN Z (Aa Hv Z)<|vc Z g.kp (b6.D.kb BQ Z Z)<|AN Z (BN BM) ?_;refine vc Z g.kp (e0.D.kn CP Z Z)<|AN Z (Aa Ld Z)<|vc Z g.kp (b6.D.kb AF Z Z)<|Db Z (Ac k2 1 (Ab xf Z (rk (n:=c4) hs G))) ?_;rintro a39 a55 ⟨x0,p4,a17,rfl⟩;refine g.Bl p4 fun g=>AN Z (BK Z Z) ?_;exact Dd 8 o8.D
  intro a56 x1 y4;refine AP ?_;clear e0 b7 b6;clear g;refine Cz Z (fun h2=>?_) fun h2=>?_
  ·exfalso;simp[u6,u9] at h2;have R:=s5 h2.1;rw[h2.2] at R;cases R
  refine As<|Q<|E (Aa Ld Z)<|E (Al AF Z a7.D.AE Z)<|V Z<|Q<|V Z<|An ?_;refine AG (σ:=Nat×Int×List Bool) (fun f=>[(2,P1 b2),(3,P1 b3),(4, .bool false),(10,e7),(11,I i),(12,P1 k0),(13,I f.2.1),(14,I f.1)]) (fun f w'=>(f.1≤x.list.length∧f.2.2.length=b.Ae.length∧(0≤f.2.1+2000*f.1∧f.2.1≤2000)∧Fc s b.Ae f.2.1 (x.list.drop f.1)=true∧∀(j:Nat) (z:CV),f.2.2[j]?=some true→b.Ae[j]?=some z→z.id∈(b.AQ.take i).flatMap (·.list)++x.list.take f.1)∧∃c',CD w c' w'∧Bu DS c' w' [0] vS b.Ae∧Bu Ie c' w' [0] vT b.AQ∧Bu Wo c' w' [0] vG []∧Bu Cg c' w' [0] u x.list∧AI c' w' 102 b2 (DB s) 29∧AI c' w' 103 b3 [vS,vT,vG,I b.next] 58∧AI c' w' 112 k0 [St x.AK,I (c4:Int), .bool x.ur,u] 141∧AJ c' w' 7 4 1 e7 b.Ae.length (f.2.2.map .bool)) (fun f=>x.list.length-f.1) (0,(c4:Int),n7) AL ⟨⟨Nat.zero_le _,k7,⟨by dsimp only;omega,by dsimp only;omega⟩,by dsimp only;rw[List.drop_zero,←j7];exact q5,fun j z c7 b1=>List.mem_append_left _ (k6 j z c7 b1)⟩,_,hO.D,r.D,C.D,t.D,c3.D,o.D,AR.D,a7.D,l.D⟩ ?_;clear hO r C t o AR l c3 a7;rintro⟨k,left,h9⟩ n5 ⟨⟨O,j3,⟨r7,r8⟩,j6,e8⟩,e3,hO,r,C,t,c3,o,AR,a7,l⟩;dsimp only at O j3 r7 r8 j6 e8 l;refine Ag<|Q<|M Z<|E (Aa Hv Z)<|E (Al BQ Z a7.AE Z)<|E (BN BM) ?_;refine E (AX Z Z)<|Ah<|BA Z (fun r0=>?_) fun r0=>?_
  ·have c0:k<x.list.length:=G;have l2:=(Co c3 c0 AO).1;obtain⟨d,hd⟩:∃d,d=x.list[k]:=⟨_,Z⟩;rw[Aav c0,←hd] at j6;obtain⟨b0,z,e6,s6,n3,s7,s8⟩:=eQ j6;have q1:b0<b.Ae.length:=(kJ.1 e6).1;have s9:z=b.Ae[b0]:=(kJ.1 e6).2.symm;have a05:=CI (a6.Bl z (Lx e6)).1;have q0:zh b.Ae d=(b0:Int):=by rw[zh,NC,show b.Ae.findIdx? (fun x=>decide (x.id=d))=some b0 from s6]
   obtain⟨a36,h1,_⟩:=GK r q1;rw[←s9] at h1;have l4:=h1;obtain⟨h8,n2⟩:∃h8,h9[b0]?=some h8:=⟨_,dd G⟩;have r9:h8=false:=by
    cases h8 with
    |false=>rfl
    |true=>
     exfalso;have R:=e8 b0 z n2 e6;rw[n3] at R;have l9:=a6.ids;have p7:b.AQ=b.AQ.take i++x::b.AQ.drop (i+1):=by rw[hx,←Aav a8,Aas]
     rw[p7,Aan,Aaa] at l9;obtain⟨_,u0,u1⟩:=Ac5.1 l9;obtain⟨u2,_,_⟩:=Ac5.1 u0;rcases Aac.1 R with R|R
     ·exact u1 d R d (Abj _ (by rw[hd];exact mv c0)) Z
     obtain⟨j,e5,r5⟩:=Aei.1 R;have:=Aal.1 (Ab4.1 u2) j k G c0 G;exact this (by rw[r5,hd])
   subst r9;have l3:DG e3 n5 [7] (Bz e7 1 b0) [.bool false]:=l.nw (by rw[Aah,n2];rfl);rw[←hd] at l2;refine As<|Ag<|An<|Ag<|AM e3 [] [0,1,0,1,0,0,1,2,0] [0,1,2,3,4,5,6,7,8] fun a57 y5 g=>?_;have e0:=o;have b7:=AR;have b6:=a7;have q6:=l3;have q7:=h1;have q8:=l4;refine AN Z (Aa CA Z)<|vc Z g.kp (b7.D.kb Ei Z Z)<|AN Z (Aa Hv Z)<|vc Z g.kp (b6.D.kb BQ Z Z)<|Bm Z Z<|AN Z (Cv BM) ?_;refine vc Z g.kp (l2.D.ke AF Z)<|Db Z (Ac e3 1 (Ab xg Z (rj (d:=d) r.D.AB))) ?_;rintro a40 a58 ⟨k3,p5,a18,rfl⟩;refine g.Bl p5 fun g=>?_;rw[q0];refine Ir Z Z<|AP ?_;clear e0 b7 b6 q6 q7 q8;clear g;refine Ag<|Ag<|AM k3 [] [0,0,0,0,0,0,1,0,0,0,1,0,0,0,1,0,0,1,0,1,0,0,0,0] [0,1,2,3,4,5,6,7,8,9,10,11,12,13,14,15,16,17,18,19,20,21,22,23] fun a59 y6 g=>?_;refine Bm Z Z<|AN Z (AX Z Z)<|Bm Z Z ?_;apply Dc k3 false 4 _ g.kp Mq
   ·intro a14 o9;refine Bm Z Z<|Bm Z Z<|AN Z (BS Fi l.D Z Z G G)<|vc Z g.kp (l3.D.ke IW Z) ?_;exact Dd 4 o9
   intro a60 n8 p6;refine Bm Z Z ?_;replace g:=g.tr p6 Z;apply Dc n8 false 14 _ g.kp Mq
   ·intro a10 o5;refine AN Z (Aa CA Z)<|vc Z g.kp (AR.D.kb Ei Z Z)<|Bm Z Z<|AN Z (Ky Di r.D Z Z G G) ?_;rw[TJ];refine AN Z (Bn HW Z)<|vc Z g.kp (h1.D.kf AF Z Z)<|Bm Z Z<|AN Z (Aa CN Z)<|vc Z g.kp (o.D.kb AF Z Z)<|AN Z (Aa DO Z)<|vc Z g.kp (o.D.kb AF Z Z)<|AN Z (HK (m:=(s.k:Int)) (n:=(s.size:Int)) Z Z (by rw[j5];omega) (by rw[j5];omega)) ?_;rw[j5];refine AN Z (qz Z Z)<|AN Z (BK Z Z) ?_;exact Dd 14 o5
   intro a61 x2 y7;refine AP ?_;clear g;refine Cz Z (fun l5=>?_) fun l5=>?_
   ·exfalso;simp[s7] at l5;omega
   refine As<|Q<|M Z<|M Z<|E (BS Fi l.D Z Z G G) ?_;refine Av (MU IW l.D Ai Z Z ra ra) ?_;rintro _ a62 ⟨l,y8⟩;refine Ah<|cg<|M Z<|E (Aa CA Z)<|E (Al Ei Z AR.D.AE Z)<|M Z<|E (BJ Di r.D.AB Z Z Z G G) ?_;rw[Int.toNat_natCast];refine E (Bn HW Z)<|E (FF AF Z l4.D.DF Z)<|E (Gu Z Z Ai Ai)<|V Z<|cg<|M Z<|E (Bc Z Z Ai Ai)<|za Z ?_;refine Ah ?_;rw[Int.toNat_natCast,←List.map_set] at l;refine⟨(k+1,left-z.len,h9.set b0 true),AL,⟨⟨by dsimp only;omega,by dsimp only;rw[List.length_set];exact j3,⟨by dsimp only;omega,by dsimp only;omega⟩,s8,fun j n6 c7 b1=>?_⟩,_,hO.D,r.D,C.D,t.D,c3.D,o.D,AR.D,a7.D,l⟩,by show x.list.length-(k+1)<x.list.length-k;omega⟩;dsimp only at c7⊢;rw[List.take_succ_eq_append_getElem c0,←List.append_assoc,←hd];by_cases n0:j=b0
   ·subst n0;rw[e6] at b1;injection b1 with b1;exact Abr _ (by rw[←b1,n3];exact pv.2 Z)
   rw[Ac1 (fun e=>n0 e.symm)] at c7;exact Abj _ (e8 j n6 c7 b1)
  refine Az Z<|cg<|M Z<|E (Bc Z Z Ai Ai)<|V Z ?_;exact⟨(i+1,h9),AL,⟨⟨by dsimp only;omega,j3,fun j z c7 b1=>by
   have R:=e8 j z c7 b1;rw[List.take_of_length_le (show x.list.length≤k by omega)] at R;dsimp only;rw[List.take_succ_eq_append_getElem a8,List.flatMap_append,←hx];simpa using R⟩,_,hO,r,C,t,o,AR,l⟩,by show b.AQ.length-(i+1)<b.AQ.length-i;omega⟩
 refine Az Z<|Ag<|Q<|V Z<|An<|AG (σ:=Unit) (fun _=>[(2,P1 b2),(3,P1 b3),(4, .bool false),(16,I 0)]) (fun _ w'=>∃c',CD w c' w'∧Bu Wo c' w' [0] vG []∧AI c' w' 103 b3 [vS,vT,vG,I b.next] 58) (fun _=>0) () AL ⟨_,hO,t,AR⟩ ?_;clear hO r C t o AR l;rintro _ n4 ⟨e2,hO,t,AR⟩;refine Ag<|Q<|M Z<|E (Aa Qz Z)<|E (Al aC Z AR.AE Z)<|E (BN hX) ?_;refine E (AX Z Z)<|Ah<|Cz Z (fun l6=>?_) fun l6=>?_
 ·exact absurd l6 AO
 refine Az Z<|Q<|V Z<|Af Z Z ?_;exact⟨hO.D.below,Z⟩
def oa(l:List Int):Prop:=l.Pairwise (·< ·)∧∀x∈l,0≤x∧x<64
theorem uV(h:oa l)(hi:i<l.length)(f:0<i):l[i-1]<l[i]:=Aal.1 h.1 (i-1) i G hi G
theorem Lu(g:n≤64):∀l∈Ce n m u,oa l:=fun l hl=>by
 obtain⟨d,_,rfl⟩:=Aag.1 hl;refine⟨(Sr n).sublist Adv,fun x hx=>?_⟩;have:=(Acr.1 hx).1;simp[He] at this;omega
theorem cT(h:Rd Cg w a l)(j:oa l):Calls QP 185 #[a] w (Bt fun u w'=>AZ w w'∧u= .bool true):=by
 have f:=h.small;obtain⟨c,hO,hc⟩:=Ay w;have f:=hO.rd h;refine AY 32 #[.tmp 2] func185 Z<|Q<|V Z<|Ag<|Q<|M Z<|E (BN BM) ?_;refine M Z<|Ah<|An<|AG (σ:=Nat) (fun i=>[(0,a),(5,a),(6,I l.length),(7,I i)]) (fun i w'=>i≤l.length∧∃c',CD w c' w'∧Bu Cg c' w' [0] a l) (fun i=>l.length-i) 0 AL ⟨Wm _,_,hO,f⟩ ?_;rintro i g ⟨hi,g,hO,f⟩;refine Q<|E (AX Z Z)<|Ah<|Ag<|BA Z (fun g=>?_) fun g=>?_
 ·have g:i<l.length:=G;obtain⟨r,o⟩:=Co f g AO;obtain⟨t,o⟩:=Co f (show i-1<l.length by omega) AO;have C:=j.2 _ (mv g);obtain⟨v,o⟩:∃v,v=l[i]:=⟨_,Z⟩;obtain⟨b,p⟩:∃b,b=l[i-1]:=⟨_,Z⟩;rw[←o] at r C;rw[←p] at t;have J:0<i→b<v:=fun C↦by rw[o,p];exact uV j g C
  refine As<|Ag<|An<|Q<|M Z<|E (Cv BM) ?_;refine E (Cc AF Z r.DF)<|za Z<|V Z<|Q<|M Z<|E (AX Z Z)<|M Z ?_;apply AW false 2 _ CK
  ·intro g;refine wo<|M Z<|wo<|E (Dh Z Z) ?_;exact EQ 2
  refine M Z ?_;apply AW false 11 _ CK
  ·intro g;refine wo<|M Z<|wo<|E (CM Z Z)<|wo<|M Z ?_;apply AW true 7 _ CK
   ·intro g;have g:0<i:=G;refine wo<|M Z<|wo<|M Z<|wo<|M Z<|wo<|E (Gu Z Z Ai Ai)<|wo ?_;refine E (Ky BM f Z Z G G) ?_;rw[show((i:Int)-1).toNat=i-1 by omega];refine wo<|E (Cc AF Z t.DF)<|wo<|E (Gw Z Z) ?_;exact EQ 7
   exact EQ 4
  refine Ah<|Cz Z (fun g=>?_) fun g=>?_
  ·exact absurd g (by have g:i=0∨b<v:=(Aa6 i).imp id J;simp;omega)
  refine As<|cg<|E (Bc Z Z Ai Ai)<|M Z<|Ah ?_;exact⟨i+1,AL,⟨G,_,hO,f⟩,G⟩
 refine Az Z<|Q<|V Z<|Af Z Z ?_;exact⟨hO.below,Z⟩
theorem jN(h:Rd Cg w a l)(f:oa l):Calls QP 184 #[a] w (Bt fun u w'=>AZ w w'∧u= .bool false):=by
 obtain⟨c,hO,hc⟩:=Ay w;have g:=hO.rd h;refine AY 6 #[.tmp 2] func184 Z<|Q<|V Z<|Q<|M Z<|ve (Ac c 1 (Ab xH Z (cT g.AB f))) ?_;rintro v4 w1 ⟨c1,i,j,rfl⟩;refine E (BL Z)<|V Z<|Af Z Z ?_;exact⟨hO.D.below,Z⟩
theorem ob(h:Rd KQ w a q)(o:∀l∈q,oa l):Calls QP 253 #[a, .func (.func 184) #[] #[]] w (Bt fun u w'=>AZ w w'∧u=I (-1)):=by
 have f:=h.small;obtain⟨c,hO,hc⟩:=Ay w;have f:=hO.rd h;refine AY 19 #[.tmp 4] func253 Z<|Q<|V Z<|Ag<|Q<|M Z<|E (BN FZ) ?_;refine M Z<|Ah<|An<|AG (σ:=Nat) (fun i=>[(0,a),(1, .func (.func 184) #[] #[]),(7,I q.length),(8,I i)]) (fun i w'=>i≤q.length∧∃c',CD w c' w'∧Bu KQ c' w' [0] a q) (fun i=>q.length-i) 0 AL ⟨Wm _,_,hO,f⟩ ?_;rintro i g ⟨hi,j,hO,f⟩;refine Q<|E (AX Z Z)<|Ah<|Ag<|BA Z (fun g=>?_) fun g=>?_
 ·have g:i<q.length:=G;obtain⟨u,p,hu⟩:=HR f g;have r:=hu.AB.AD;have r:=hu.AB.AA;refine As<|Ag<|An<|Q<|M Z<|V Z<|Q<|M Z<|M Z<|M Z<|E (Cv FZ) ?_;refine E (Cc BQ Z p.DF)<|ve (Ac j 1 (DV Z xG Z (jN hu.AB (o _ (mv g))))) ?_;rintro g w1 ⟨c1,g,g,rfl⟩;refine Ah<|Cz Z (fun g=>?_) fun g=>?_
  ·exact absurd g AO
  refine As<|cg<|E (Bc Z Z Ai Ai)<|M Z<|Ah ?_;exact⟨i+1,AL,⟨G,_,hO.D,f.D⟩,G⟩
 refine Az Z<|Q<|V Z<|Af Z Z ?_;exact⟨hO.below,Z⟩
theorem oc(h:Rd KQ w a q)(f:∀l∈q,oa l):Calls QP 186 #[a, .func (.func 184) #[] #[]] w (Bt fun u w'=>AZ w w'∧u= .bool false):=by
 obtain⟨c,hO,hc⟩:=Ay w;have g:=hO.rd h;refine AY 9 #[.tmp 4] func186 Z<|Q<|V Z<|Q<|M Z<|M Z<|ve (Ac c 1 (Ab yj Z (ob g.AB f))) ?_;rintro o w1 ⟨c1,i,j,rfl⟩;refine E (Dh Z Z)<|V Z<|Af Z Z ?_;exact⟨hO.D.below,Z⟩
theorem jO(f:Rd DW w a x)(hF:Rd KQ w y q)(p:1≤x.length∧x.length≤12)(hl:q.length=x.length)(o:∀l∈q,oa l):Calls QP 115 #[.agg #[a,y]] w (Bt fun u w'=>AZ w w'∧u= .bool true):=by
 have g:=f.AD;have g:=hF.AD;have g:=f.small;have g:=hF.small;obtain⟨c,hO,hc⟩:=Ay w;have j:=hO.rd f;have hf:=hO.rd hF;have g:decide ((1:Int)≤x.length)=true:=by simp;omega
 have g:decide ((x.length:Int)≤12)=true:=by simp;omega
 have g:decide ((q.length:Int)=x.length)=true:=by simp;omega
 refine AY 28 #[.tmp 2] func115 Z<|Q<|Fa c 101 fun w1 b1 c1 g i=>?_;refine V Z<|Q<|E (Aa JT Z)<|E (Al Hw Z i.AE Z)<|E (BN Fi) ?_;refine V Z<|Q<|V Z<|Q<|M Z<|E (Dh Z Z)<|M Z ?_;apply AW true 2 _ CK
 ·intro r;refine wo<|M Z<|wo<|E (Gw Z Z) ?_;exact EQ 2
 refine M Z ?_;apply AW true 5 _ CK
 ·intro r;refine wo<|E (Aa Cq Z)<|wo<|E (Al Ea Z i.AE Z)<|wo<|E (BN FZ) ?_;refine wo<|M Z<|wo<|E (BO Z Z) ?_;exact EQ 5
 refine M Z ?_;replace hO:=hO.D g;replace j:=j.D g;replace hf:=hf.D g;apply TT true 5 (fun liveQ w'=>liveQ=true∧∃c',CD w c' w') CK ((fun h=>absurd h (by simp;omega)))
 ·intro g;refine wo<|E (Aa Cq Z)<|wo<|E (Al Ea Z i.AE Z)<|wo<|M Z<|wo<|ve (Ac c1 1 (Ab xI Z (oc hf.AB o))) ?_;rintro g w2 ⟨c2,g,g,rfl⟩;refine wo<|E (BL Z) ?_;exact Et ⟨_,Z,Sub.drop _ 5 _ Z Z,⟨Z,_,hO.D⟩⟩
 rintro liveQ g ⟨rfl,g,hO⟩;refine V Z<|Af Z Z ?_;exact⟨hO.below,by simp;omega⟩
def HT(f g:Nat)(x:CV):Bool:=decide (0≤VJ x.Ad f)&&decide (VJ x.Ad g<0)
def Ix(liveQ:List Bool)(F:List (List Int))(S:List CV):Option Nat:=
 if(!(CE liveQ F liveQ.length).2.2||decide ((FE F (CE liveQ F liveQ.length).2.1:Int)-FE F (CE liveQ F liveQ.length).1<2))=true then none
 else S.findIdx? (HT (CE liveQ F liveQ.length).1 (CE liveQ F liveQ.length).2.1)
theorem gZ{q:α→Bool}(O:t.length≤k)(f:∀x∈t.take k,q x=false):t.findIdx? q=none:=by
 rw[vq O] at f;exact Abq.2 f
theorem ha{q:α→Bool}(O:k<t.length)(h:q t[k]=true)(f:∀x∈t.take k,q x=false):t.findIdx? q=some k:=WM.2 ⟨O,h,fun j g=>by
 rw[f _ (Aei.2 ⟨j,G,Z⟩)];decide⟩
theorem od{l:List (Int×Int)}{d:Int}:VJ l d≤l.length:=by
 unfold VJ NC;split
 ·rename_i k h;have:=(WM.1 h).1;omega
 ·omega
theorem hb(h:AI c w i k [I p] d)(g:Go.Eng.Int64 p):Bu Cg c w [i] (.slice (some ⟨k,0,none⟩) 1 1) [p]:=by
 have f:=h.own (n:=1) (size:=1) Z G;exact AJ.Gl (l:=[p]) f Bb (fun y hy=>by rw[pv.1 hy];exact g)
theorem ZM{y:Int}(h:AI c w i k [I p,I y] d)(g:Go.Eng.Int64 p∧Go.Eng.Int64 y):Bu Bx c w [i] (.slice (some ⟨k,0,none⟩) 1 1) [(p,y)]:=by
 have f:=h.own (n:=1) (size:=2) Z G;exact AJ.Gl (l:=[(p,y)]) f Bb (fun z j=>by rw[pv.1 j];exact g)
theorem hn{x:CV}(hu:Rd Bx w a x.Ad):Calls QP 50 #[.agg #[I x.id,I x.len,I x.gen,a],I p] w (Bt fun v w'=>AZ w w'∧v=I (VJ x.Ad p)):=by
 have f:=hu.AD;have f:=hu.small;obtain⟨c,hO,f⟩:=Ay w;have g:=hO.rd hu;refine AY 22 #[.tmp 4] func50 Z<|Q<|Fa c 102 fun w1 b2 c1 f f=>?_;refine V Z<|Ag<|Q<|V Z<|An<|AG (σ:=Nat) (fun k=>[(1,I p),(2,P1 b2),(4,I 0),(5,I k)]) (fun k w'=>(k≤x.Ad.length∧∀d∈x.Ad.take k,decide (d.1=p)=false)∧∃c',CD w c' w'∧Bu Bx c' w' [0] a x.Ad∧AI c' w' 102 b2 [I x.id,I x.len,I x.gen,a] 115) (fun k=>x.Ad.length-k) 0 AL ⟨⟨Wm _,by simp⟩,_,hO.D,g.D,f⟩ ?_;rintro k i ⟨⟨O,l⟩,i,hO,g,f⟩;refine Ag<|Q<|M Z<|E (Aa Cl Z)<|E (Al CH Z f.AE Z)<|E (BN DL) ?_;refine E (AX Z Z)<|Ah<|BA Z (fun i=>?_) fun i=>?_
 ·have j:k<x.Ad.length:=G;have i:=(Co g j AO).1;refine As<|Ag<|An<|Q<|E (Aa Cl Z)<|E (Al CH Z f.AE Z)<|M Z<|E (Cv DL) ?_;refine E (Bn Ct Z)<|E (FF AF Z i.DF Z)<|M Z<|E (BO Z Z)<|Ah<|BA Z (fun i=>?_) fun i=>?_
  ·have o:(fun d:Int×Int↦decide (d.1=p)) x.Ad[k]=true:=by simpa using i
   refine Q<|M Z<|V Z<|Af Z Z ?_;exact⟨hO.D.below,by rw[VJ,Ua j o l]⟩
  have o:decide (x.Ad[k].1=p)=false:=by simpa using i
  refine As<|cg<|M Z<|E (Bc Z Z Ai Ai)<|V Z ?_;exact⟨k+1,AL,⟨⟨G,Ha l j o⟩,_,hO,g,f⟩,G⟩
 refine Az Z<|Q<|V Z<|Af Z Z ?_;exact⟨hO.D.below,by rw[VJ,Ub G l]⟩
def EH(liveQ:List Bool)(F:List (List Int)):Nat→Int×Int
 |0=>(-1,-1)
 |i+1=>
  if liveQ.getD i false=true then(if(decide ((EH liveQ F i).1<0)||decide ((FE F i:Int)<FE F (EH liveQ F i).1.toNat))=true then(i:Int) else(EH liveQ F i).1,if(decide ((EH liveQ F i).2<0)||decide ((FE F (EH liveQ F i).2.toNat:Int)<FE F i))=true then(i:Int) else(EH liveQ F i).2) else EH liveQ F i
theorem VK(liveQ:List Bool)(F:List (List Int)):∀i:Nat,(-1≤(EH liveQ F i).1∧(EH liveQ F i).1<max i 1)∧(-1≤(EH liveQ F i).2∧(EH liveQ F i).2<max i 1)
 |0=>by simp[EH]
 |i+1=>by
  obtain⟨f,g⟩:=VK liveQ F i;rw[EH];split
  ·refine⟨?_,?_⟩
   ·dsimp only;split<;>omega
   dsimp only;split<;>omega
  omega
theorem Yk(h:x.getD i false=false):EH x q (i+1)=EH x q i:=by
 rw[EH,h];exact ss Bb
theorem oe{g:Int}{f0 f1 f2:List Int}(h:x.getD i false=true)(j:p=(EH x q i).1)(l:g=(EH x q i).2)(o:FE q i=f0.length)(f:FE q p.toNat=f1.length)(r:FE q g.toNat=f2.length):
 EH x q (i+1)=(if(decide (p<0)||decide ((f0.length:Int)<f1.length))=true then(i:Int) else p,if(decide (g<0)||decide ((f2.length:Int)<f0.length))=true then(i:Int) else g):=by
 rw[EH,h,zm Z,←j,←l,o,f,r]
theorem VL(R:Rd DW w a x)(hF:Rd KQ w y q)(b8:q.length=x.length)(hl:x.length≤100):Calls QP 48 #[.agg #[a,y]] w (Bt fun u w'=>AZ w w'∧u= .tuple #[I (EH x q x.length).1,I (EH x q x.length).2]):=by
 have f:=R.AD;have f:=hF.AD;obtain⟨c,hO,hc⟩:=Ay w;have l:=hO.rd R;have hf:=hO.rd hF;refine AY 58 #[.tmp 2, .tmp 3] func48 Z<|Q<|Fa c 101 fun w1 b1 c1 f g=>?_;refine za Z<|V Z<|Q<|za Z<|V Z<|Ag<|Q<|V Z<|An<|AG (σ:=Nat) (fun i=>[(1,P1 b1),(2,I 0),(3,I 0),(4,I (EH x q i).1),(5,I (EH x q i).2),(6,I i)]) (fun i w'=>i≤x.length∧∃c',CD w c' w'∧Bu DW c' w' [0] a x∧Bu KQ c' w' [0] y q∧AI c' w' 101 b1 [a,y] 67) (fun i=>x.length-i) 0 AL ⟨Wm _,_,hO.D,l.D,hf.D,g⟩ ?_;rintro i f ⟨hi,J,hO,l,hf,g⟩;obtain⟨j,p⟩:=VK x q i;obtain⟨f,t⟩:∃f,f=(EH x q i).1:=⟨_,Z⟩;obtain⟨o,C⟩:∃o,o=(EH x q i).2:=⟨_,Z⟩;rw[←t] at j;rw[←C] at p;rw[←t,←C];refine Ag<|Q<|M Z<|E (Aa JT Z)<|E (Al Hw Z g.AE Z)<|E (BN Fi) ?_;refine E (AX Z Z)<|Ah<|BA Z (fun j=>?_) fun j=>?_
 ·have p:i<x.length:=G;have j:=(Co l p AO).1;obtain⟨lv,r⟩:∃lv,lv=x[i]:=⟨_,Z⟩;have b0:x.getD i false=lv:=by rw[r,hk,dd p];rfl
  rw[←r] at j;refine As<|Ag<|An<|Ag<|Q<|E (Aa JT Z)<|E (Al Hw Z g.AE Z)<|M Z<|E (Cv Fi) ?_;refine E (Cc IW Z j.DF)<|E (BL Z)<|Ah<|BA Z (fun p=>?_) fun p=>?_
  ·have j:EH x q (i+1)=(f,o):=by rw[Yk (by rw[b0];simpa using p),t,C]
   refine Az Z<|cg<|M Z<|E (Bc Z Z Ai Ai)<|V Z ?_;exact⟨i+1,by rw[j];exact AL,⟨G,_,hO,l,hf,g⟩,G⟩
  have q0:i<q.length:=G;have b5:f.toNat<q.length:=G;have b6:o.toNat<q.length:=G;obtain⟨r,a7,b2⟩:=HR hf q0;obtain⟨r,b7,b3⟩:=HR hf b5;obtain⟨r,a6,b4⟩:=HR hf b6;have a1:=a7;obtain⟨f0,r⟩:∃f0,f0=q[i]:=⟨_,Z⟩;obtain⟨f1,U⟩:∃f1,f1=q[f.toNat]:=⟨_,Z⟩;obtain⟨f2,a8⟩:∃f2,f2=q[o.toNat]:=⟨_,Z⟩;rw[←r] at b2;rw[←U] at b3;rw[←a8] at b4;have j:=oe (f0:=f0) (f1:=f1) (f2:=f2) (by rw[b0];simpa using p) t C (by rw[←Ji q0,r]) (by rw[←Ji b5,U]) (by rw[←Ji b6,a8]);obtain⟨p,U⟩:∃p,p=(decide (f<0)||decide ((f0.length:Int)<f1.length)):=⟨_,Z⟩;obtain⟨f,r⟩:∃f,f=(decide (o<0)||decide ((f2.length:Int)<f0.length)):=⟨_,Z⟩;rw[←U,←r] at j;have f:=b2.AB.AD;have f:=b3.AB.AD;have f:=b4.AB.AD;refine As<|Ag<|Ag<|AM J [] [0,0,0,0,1,0,0,1,0,0,1,0,0,1,0,0,0] [0,1,2,3,4,5,6,7,8,9,10,11,12,13,14,15,16] fun w2 f f=>?_;have o:=g;have a8:=a7;have a7:=b7;have b3:=a6;have b2:=a1;refine Bm Z Z<|AN Z (AX Z Z)<|Bm Z Z ?_;apply Dc J false 13 (decide ((f0.length:Int)<f1.length)) f.kp Mq
  ·intro b0 p;refine AN Z (Aa Cq Z)<|vc Z f.kp (o.D.kb Ea Z Z)<|Bm Z Z<|AN Z (Cv FZ) ?_;refine vc Z f.kp (a8.D.ke BQ Z)<|AN Z (BN BM) ?_;refine AN Z (Aa Cq Z)<|vc Z f.kp (o.D.kb Ea Z Z)<|Bm Z Z<|AN Z (Cv FZ) ?_;refine vc Z f.kp (a7.D.ke BQ Z)<|AN Z (BN BM) ?_;refine AN Z (AX Z Z) ?_;exact Dd 13 p
  intro J J b4;refine AP ?_;refine BA Z (fun a7=>?_) fun a7=>?_
  ·rw[zm (by rw[U];simpa using a7)] at j;refine cg<|M Z<|V Z<|Ag<|AM J [] [0,0,0,0,1,0,0,1,0,0,1,0,0,1,0,0,0] [0,1,2,3,4,5,6,7,8,9,10,11,12,13,14,15,16] fun o o f=>?_;refine Bm Z Z<|AN Z (AX Z Z)<|Bm Z Z ?_;apply Dc J false 13 (decide ((f2.length:Int)<f0.length)) f.kp Mq
   ·intro b0 p;refine AN Z (Aa Cq Z)<|vc Z f.kp (g.D.kb Ea Z Z)<|Bm Z Z<|AN Z (Cv FZ) ?_;refine vc Z f.kp (a1.D.ke BQ Z)<|AN Z (BN BM) ?_;refine AN Z (Aa Cq Z)<|vc Z f.kp (g.D.kb Ea Z Z)<|Bm Z Z<|AN Z (Cv FZ) ?_;refine vc Z f.kp (a6.D.ke BQ Z)<|AN Z (BN BM) ?_;refine AN Z (CM Z Z) ?_;exact Dd 13 p
   intro o o o;refine AP ?_;refine BA Z (fun o=>?_) fun o=>?_
   ·rw[zm (by rw[r];simpa using o)] at j;refine cg<|M Z<|V Z<|cg<|M Z<|E (Bc Z Z Ai Ai)<|V Z ?_;exact⟨i+1,by rw[j];exact AL,⟨G,_,hO.D,l.D,hf.D,g.D⟩,G⟩
   rw[ss (by rw[r];simpa using o)] at j;refine As<|cg<|M Z<|E (Bc Z Z Ai Ai)<|V Z ?_;exact⟨i+1,by rw[j];exact AL,⟨G,_,hO.D,l.D,hf.D,g.D⟩,G⟩
  rw[ss (by rw[U];simpa using a7)] at j;refine As<|Ag<|AM J [] [0,0,0,0,1,0,0,1,0,0,1,0,0,1,0,0,0] [0,1,2,3,4,5,6,7,8,9,10,11,12,13,14,15,16] fun U U f=>?_;refine Bm Z Z<|AN Z (AX Z Z)<|Bm Z Z ?_;apply Dc J false 13 (decide ((f2.length:Int)<f0.length)) f.kp Mq
  ·intro b0 p;refine AN Z (Aa Cq Z)<|vc Z f.kp (g.D.kb Ea Z Z)<|Bm Z Z<|AN Z (Cv FZ) ?_;refine vc Z f.kp (a1.D.ke BQ Z)<|AN Z (BN BM) ?_;refine AN Z (Aa Cq Z)<|vc Z f.kp (g.D.kb Ea Z Z)<|Bm Z Z<|AN Z (Cv FZ) ?_;refine vc Z f.kp (a6.D.ke BQ Z)<|AN Z (BN BM) ?_;refine AN Z (CM Z Z) ?_;exact Dd 13 p
  intro p p p;refine AP ?_;refine BA Z (fun o=>?_) fun o=>?_
  ·rw[zm (by rw[r];simpa using o)] at j;refine cg<|M Z<|V Z<|cg<|M Z<|E (Bc Z Z Ai Ai)<|V Z ?_;exact⟨i+1,by rw[j];exact AL,⟨G,_,hO.D,l.D,hf.D,g.D⟩,G⟩
  rw[ss (by rw[r];simpa using o)] at j;refine As<|cg<|M Z<|E (Bc Z Z Ai Ai)<|V Z ?_;exact⟨i+1,by rw[j];exact AL,⟨G,_,hO.D,l.D,hf.D,g.D⟩,G⟩
 have e:i=x.length:=G;subst e;refine Az Z<|Q<|M Z<|M Z<|za Z<|V Z<|BR Z Z Z ?_;exact⟨hO.D.below,by rw[t,C]⟩
theorem Uc(liveQ:List Bool)(F:List (List Int)):∀i:Nat,EH liveQ F i=if(CE liveQ F i).2.2=true then(((CE liveQ F i).1:Int),((CE liveQ F i).2.1:Int)) else(-1,-1)
 |0=>rfl
 |i+1=>by
  have f:=Uc liveQ F i;cases h:liveQ.getD i false with
  |false=>rw[Yk h,Yh h];exact f
  |true=>
   rw[EH,CE,h,zm Z,zm Z];generalize CE liveQ F i=r at f;obtain⟨a,b,o⟩:=r;rw[f];cases o with
   |false=>simp
   |true=>
    simp only[Afo,Bool.not_true,Bool.false_or,TJ,Int.ofNat_lt,show¬((a:Int)<0) by omega,show¬((b:Int)<0) by omega,decide_false];refine Prod.ext ?_ ?_
    ·dsimp only;split<;>rfl
    dsimp only;split<;>rfl
def RL(liveQ:List Bool)(F:List (List Int)):Int:=if(EH liveQ F liveQ.length).1<0 then 0 else(FE F (EH liveQ F liveQ.length).2.toNat:Int)-FE F (EH liveQ F liveQ.length).1.toNat
theorem eR(liveQ:List Bool)(F:List (List Int))(i:Nat):(EH liveQ F i).1<0↔(EH liveQ F i).2<0:=by
 rw[Uc];split
 ·dsimp only;omega
 ·dsimp only;omega
theorem eS(l:Rd DW w a x)(hF:Rd KQ w y q)(a6:q.length=x.length)(hl:x.length≤100)(a7:0<x.length):Calls QP 49 #[.agg #[a,y]] w (Bt fun u w'=>AZ w w'∧u=I (RL x q)):=by
 have f:=l.AD;have f:=hF.AD;obtain⟨c,hO,f⟩:=Ay w;have g:=hO.rd l;have hf:=hO.rd hF;obtain⟨p,r⟩:=VK x q x.length;have J:=eR x q x.length;refine AY 25 #[.tmp 2] func49 Z<|Q<|Fa c 101 fun w1 b1 c1 t o=>?_;refine V Z<|Q<|E (Ba IU Z o.AE Z)<|ve (Ac c1 1 (Ab wA Z (VL g.D.AB hf.D.AB a6 hl))) ?_;rintro f w2 ⟨c2,C,f,rfl⟩;refine M Z<|E (Aq Z Z)<|E (Aq Z Z)<|za Z<|V Z<|Ag<|Ag ?_;obtain⟨f,g⟩:∃f,f=(EH x q x.length).1:=⟨_,Z⟩;obtain⟨j,i⟩:∃j,j=(EH x q x.length).2:=⟨_,Z⟩;rw[←g,←i] at J;rw[←g] at p;rw[←i] at r;rw[←g,←i];refine cg<|M Z<|E (AX Z Z)<|Ah<|BA Z (fun p=>?_) fun p=>?_
 ·refine Q<|V Z<|Af Z Z ?_;exact⟨hO.D.D.below,by rw[RL,←g,zm G]⟩
 have J:f.toNat<q.length:=G;have R:j.toNat<q.length:=G;obtain⟨p,a1,p⟩:=HR ((hf.D t).D C) J;obtain⟨r,U,r⟩:=HR ((hf.D t).D C) R;obtain⟨f1,t⟩:∃f1,f1=q[f.toNat]:=⟨_,Z⟩;obtain⟨f2,C⟩:∃f2,f2=q[j.toNat]:=⟨_,Z⟩;rw[←t] at p;rw[←C] at r;have f:=p.AB.AD;have f:=r.AB.AD;have f:=p.AB.small;have f:=r.AB.small;refine As<|Ag<|AM c2 [] [0,1,0,0,1,0,0,1,0,0,1,0,0,0] [0,1,2,3,4,5,6,7,8,9,10,11,12,13] fun f f f=>?_;refine AN Z (Aa Cq Z)<|vc Z f.kp (o.D.kb Ea Z Z)<|Bm Z Z<|AN Z (Cv FZ) ?_;refine vc Z f.kp (U.D.ke BQ Z)<|AN Z (BN BM) ?_;refine AN Z (Aa Cq Z)<|vc Z f.kp (o.D.kb Ea Z Z)<|Bm Z Z<|AN Z (Cv FZ) ?_;refine vc Z f.kp (a1.D.ke BQ Z)<|AN Z (BN BM) ?_;refine AN Z (Gu Z Z Ai Ai)<|Ir Z Z ?_;refine AP ?_;refine Af Z Z ?_;exact⟨hO.D.D.below,by rw[RL,←g,←i,ss G,←Ji J,←Ji R,t,C]⟩
def VM(liveQ:List Bool)(F:List (List Int))(S:List CV)(w:World)(u:Value):Prop:=
 match Ix liveQ F S with
 |none=>u= .tuple #[.agg #[I 0, .slice none 0 0, .slice none 0 0], .bool false]
 |some k=>∃(x:CV) (i d:Nat) (a:Int) (f vt:Value),S[k]?=some x∧d=(CE liveQ F liveQ.length).2.1∧(i:Int)=VJ x.Ad (CE liveQ F liveQ.length).1∧(F.getD d [])[0]?=some a∧Rd Cg w f [(i:Int)]∧Rd Bx w vt [((d:Int),a)]∧u= .tuple #[.agg #[I x.id,f,vt], .bool true]
theorem jP(liveQ:List Bool)(F:List (List Int)):RL liveQ F<2↔(!(CE liveQ F liveQ.length).2.2||decide ((FE F (CE liveQ F liveQ.length).2.1:Int)-FE F (CE liveQ F liveQ.length).1<2))=true:=by
 rw[RL,Uc];cases h:(CE liveQ F liveQ.length).2.2
 ·simp
 ·simp only[Afo,Bool.not_true,Bool.false_or,TJ,pn];rw[ss G]
theorem eT{vF:Value}{liveQ:List Bool}(a1:Rd DS w a C)(b6:Rd DW w y liveQ)(hF:Rd KQ w vF q)(c7:1≤liveQ.length∧liveQ.length≤12)(hl:q.length=liveQ.length)(c6:∀l∈q,oa l):
 Calls QP 18 #[a, .agg #[y,vF]] w (Bt fun u w'=>AZ w w'∧VM liveQ q C w' u):=by
 have f:=b6.AD;have f:=hF.AD;have f:=a1.AD;have f:=a1.small;obtain⟨c,hO,f⟩:=Ay w;have J:=hO.rd b6;have hf:=hO.rd hF;have S:=hO.rd a1;have j:=jP liveQ q;have f:=Uc liveQ q liveQ.length;refine AY 61 #[.cell 4 61, .tmp 5] func18 Z<|Q<|Fa c 103 fun w1 b3 c1 a6 AR=>?_;refine EK c1 104 MY fun w2 b4 c2 b0 Bd=>V Z<|Q<|E (Ba IU Z AR.D.AE Z)<|ve (Ac c2 1 (Ab wA Z (VL J.D.AB hf.D.AB hl G))) ?_;rintro g g ⟨g,b1,o,rfl⟩;refine M Z<|E (Aq Z Z)<|E (Aq Z Z)<|za Z<|V Z<|Ag<|Q<|E (Ba IU Z AR.D.AE Z)<|ve (Ac g 1 (Ab zY Z (eS J.D.AB hf.D.AB hl G G))) ?_;rintro g g ⟨g,b2,g,rfl⟩;refine E (AX Z Z)<|Ah<|BA Z (fun g=>?_) fun g=>?_
 ·have p:Ix liveQ q C=none:=by rw[Ix,zm (j.1 G)]
  refine Q<|E (By (cells:=#[.int .i64 0, .slice none 0 0, .slice none 0 0]) Z Ao) ?_;refine Av (Am Hj Z Z Bd.D Z Z Bg) ?_;rintro _ g ⟨Bd,g⟩;refine V Z<|DI Z (DZ Hj Z Bd.AE Z) (FD.tmp Z) ?_;exact⟨hO.D.D.below,by rw[VM,p]⟩
 have g:¬((!(CE liveQ q liveQ.length).2.2||decide ((FE q (CE liveQ q liveQ.length).2.1:Int)-FE q (CE liveQ q liveQ.length).1<2))=true):=fun h=>absurd (j.2 h) G;have p:Ix liveQ q C=C.findIdx? (HT (CE liveQ q liveQ.length).1 (CE liveQ q liveQ.length).2.1):=by rw[Ix,ss g]
 obtain⟨o,r⟩:=RI liveQ q liveQ.length;have t:(CE liveQ q liveQ.length).2.2=true:=by
  cases e:(CE liveQ q liveQ.length).2.2
  ·rw[e] at g;exact absurd Z g
  rfl
 rw[t,zm Z] at f;rw[f];obtain⟨j,R⟩:∃j,j=(CE liveQ q liveQ.length).1:=⟨_,Z⟩;obtain⟨f,U⟩:∃f,f=(CE liveQ q liveQ.length).2.1:=⟨_,Z⟩;rw[←R] at o;rw[←U] at r;rw[←R,←U] at p;rw[←R,←U];have a8:f<q.length:=G;obtain⟨a7,r,o⟩:=HR ((((hf.D a6).D b0).D b1).D b2) a8;obtain⟨f2,a6⟩:∃f2,f2=q[f]:=⟨_,Z⟩;rw[←a6] at o;have b0:2≤f2.length:=by
  rw[t,←R,←U,←Ji a8,←a6] at g;simp at g;omega
 have g:=o.AB.AD;have t:=(Co o (show 0<f2.length by omega) AO).1;refine As<|Ag<|Q<|V Z<|An<|AG (σ:=Nat) (fun k=>[(0,a),(3,P1 b3),(4,P1 b4),(5, .bool false),(6,I j),(7,I f),(8,I k)]) (fun k w'=>(k≤C.length∧∀x∈C.take k,HT j f x=false)∧∃c',CD w c' w'∧Bu KQ c' w' [0] vF q∧Bu Cg c' w' [0] a7 f2∧DG c' w' [0] (Bz vF 1 f) [a7]∧DG c' w' [0] (Bz a7 1 0) [I f2[0]]∧Bu DS c' w' [0] a C∧AI c' w' 103 b3 [y,vF] 67∧AI c' w' 104 b4 [I 0, .slice none 0 0, .slice none 0 0] 61) (fun k=>C.length-k) 0 AL ⟨⟨Wm _,by simp⟩,_,hO.D,hf.D,o,r,t,S.D,AR.D,Bd.D⟩ ?_;rintro k g ⟨⟨O,c0⟩,b0,hO,hf,o,r,t,S,AR,Bd⟩;refine Ag<|Q<|M Z<|M Z<|E (BN Di) ?_;refine E (AX Z Z)<|Ah<|BA Z (fun g=>?_) fun g=>?_
 ·have a7:k<C.length:=G;obtain⟨u,J,g,b1,b2,b5⟩:=GK S a7;obtain⟨x,hx⟩:∃x,x=C[k]:=⟨_,Z⟩;rw[←hx] at J g b1 b2 b5;have b2:=J;have b7:=J;have b1:=g.AB.AD;have b1:=g.AB.AA;refine As<|Ag<|An<|Q<|M Z<|M Z<|E (Cv Di) ?_;refine E (DT Cn Z J.DF Z)<|M Z<|ve (Ac b0 1 (Ab wB Z (hn (x:=x) g.AB))) ?_;rintro v30 J ⟨J,b1,b0,rfl⟩;refine V Z<|Q<|M Z<|E (Dh Z Z)<|M Z ?_;apply BU J true 7 (decide (VJ x.Ad f<0)) CK
  ·intro b0 b0;refine wo<|M Z<|wo<|M Z<|wo<|E (Cv Di) ?_;refine wo<|E (DT Cn Z b2.D.DF Z)<|wo<|M Z<|wo<|ve (Ac J 1 (Ab wB Z (hn (x:=x) g.D.AB))) ?_;rintro J J ⟨J,J,J,rfl⟩;refine wo<|E (AX Z Z) ?_;exact BV 7 b0.D
  intro J b5 b0;refine Ah<|BA Z (fun b9=>?_) fun b9=>?_
  ·have J:HT j f C[k]=true:=by rw[←hx,HT];simpa using b9
   rw[ha a7 J c0] at p;have b2:0≤VJ x.Ad j:=by rw[←hx,HT,kg] at J;simpa using J.1
   have b2:=od (l:=x.Ad) (d:=(j:Int));have b2:=((g.D b1).D b0).AB.small;have g:=(c6 f2 (by rw[a6];exact mv a8)).2 f2[0] (mv _);obtain⟨i,hi⟩:∃i:Nat,(i:Int)=VJ x.Ad j:=⟨(VJ x.Ad j).toNat,G⟩;rw[←hi];refine Ag<|WC.mono (N:=(fun e w'=>∃(c':Nat→Nat) (b0 vt:Value) (c3 c4:Nat),Sub [(4000000, .tuple #[]),(4,P1 b4),(5, .bool true)] e∧CD w c' w'∧AI c' w' 104 b4 [I x.id,b0,vt] 61∧Bu Cg c' w' [c3] b0 [(i:Int)]∧Bu Bx c' w' [c4] vt [((f:Int),f2[0])])) ?_ ?_
   ·refine EB b5 [] [0,0,0,0,1,0,2,0,0,1,0,0,1,0,1,0,2,0,3,0] (.Au 0 (.Au 1 (.Au 2 (.Au 3 (.Au 4 (.Au 5 (.Au 7 (.Au 8 (.Au 9 (.Au 10 (.Au 11 (.Au 12 (.Au 13 (.Au 14 (.Au 15 (.two 6 (.one 16 (.Au 17 (.one 18 (.Au 19 .nil)))) 16 (.one 6 (.Au 17 (.one 18 (.Au 19 .nil)))))))))))))))))))) fun g g g=>?_;refine Cd Z (Cf Z)<|Cd Z (Cf Z)<|Cd Z (Cv Di) ?_;refine Cd Z (Bn Dy Z)<|Cj Z Z Z g.kp (b7.D.kf AF Z Z) Z<|Cd Z (Cf Z)<|Cd Z (Cf Z)<|Cd Z (Aa Cq Z)<|Cj Z Z Z g.kp (AR.D.kb Ea Z Z) Z<|Cd Z (Cf Z)<|Cd Z (Cv FZ) ?_;refine Cj Z Z Z g.kp (r.D.ke BQ Z) Z<|Cd Z (Cv BM) ?_;refine Cj Z Z Z g.kp (t.D.ke AF Z) Z<|Cd Z (By (cells:=#[I f,I f2[0]]) Z Ao) ?_;refine Ck ?_ ?_
    ·refine EM Z (AH b5 148 BM Z Z Z Z Z) ?_;rintro _ b1 ⟨b1,b2,rfl,b8,b7⟩;refine g.Bl b8 fun g=>EZ Z (AH b2 158 DL Z Z Z Z Z) ?_;rintro _ b2 ⟨b2,b8,rfl,c5,b8⟩;refine g.Bl c5 fun g=>Cd Z (By (cells:=#[I x.id, .slice (some ⟨b1,0,none⟩) 1 1, .slice (some ⟨b2,0,none⟩) 1 1]) Z Ao) ?_;refine AV<|Bj Z Z Z (Am Hj Z Z Bd.D Z Z Bg) ?_;rintro _ c5 ⟨Bd,c5⟩;refine Cd Z (CG Z)<|Bs ?_;exact⟨_,_,_,_,_,AL,hO.D.D,Bd,(hb b7.D ⟨G,G⟩).D,(ZM b8.D ⟨⟨G,G⟩,G,G⟩).D⟩
    refine EM Z (AH b5 158 DL Z Z Z Z Z) ?_;rintro _ b5 ⟨b2,b5,rfl,c5,b8⟩;refine g.Bl c5 fun g=>EZ Z (AH b5 148 BM Z Z Z Z Z) ?_;rintro _ b5 ⟨b1,b5,rfl,b5,b7⟩;refine g.Bl b5 fun g=>Cd Z (By (cells:=#[I x.id, .slice (some ⟨b1,0,none⟩) 1 1, .slice (some ⟨b2,0,none⟩) 1 1]) Z Ao) ?_;refine AV<|Bj Z Z Z (Am Hj Z Z Bd.D Z Z Bg) ?_;rintro _ g ⟨Bd,g⟩;refine Cd Z (CG Z)<|Bs ?_;exact⟨_,_,_,_,_,AL,hO.D.D,Bd,(hb b7.D ⟨G,G⟩).D,(ZM b8.D ⟨⟨G,G⟩,G,G⟩).D⟩
   clear hO hf o r t S AR Bd;rintro g g ⟨g,b0,vt,c3,c4,g,hO,Bd,b1,b2⟩;refine DN g<|DI Z (DZ Hj Z Bd.AE Z) (FD.tmp Z)<|⟨hO.below,?_⟩;rw[VM,p];refine⟨x,i,f,f2[0],b0,vt,by rw[hx];exact dd a7,U,by rw[←R];exact hi,?_,b1.AB,b2.AB,Z⟩;rw[hk,dd a8,Ada,←a6];exact dd _
  have J:HT j f C[k]=false:=by rw[←hx,HT];simpa using b9
  refine As<|cg<|M Z<|E (Bc Z Z Ai Ai)<|V Z ?_;exact⟨k+1,AL,⟨⟨G,Ha c0 a7 J⟩,_,hO.D,hf.D,o.D,r.D,t.D,S.D,AR.D,Bd.D⟩,G⟩
 rw[gZ G c0] at p;refine Az Z<|Q<|E (By (cells:=#[.int .i64 0, .slice none 0 0, .slice none 0 0]) Z Ao) ?_;refine Av (Am Hj Z Z Bd Z Z Bg) ?_;rintro _ f ⟨Bd,f⟩;refine V Z<|DI Z (DZ Hj Z Bd.AE Z) (FD.tmp Z) ?_;exact⟨hO.D.D.below,by rw[VM,p]⟩
theorem tu{d:Int}(hu:Rd Cg w a l):Calls QP 54 #[a,I d] w (Bt fun v w'=>AZ w w'∧v=I (NC (fun y:Int=>decide (y=d)) l)):=by
 have f:=hu.AD;have f:=hu.small;obtain⟨c,hO,g⟩:=Ay w;have f:=hO.rd hu;refine AY 19 #[.tmp 4] func54 Z<|Q<|V Z<|Ag<|Q<|V Z<|An<|AG (σ:=Nat) (fun k=>[(0,a),(1,I d),(4,I 0),(5,I k)]) (fun k w'=>(k≤l.length∧∀p∈l.take k,decide (p=d)=false)∧∃c',CD w c' w'∧Bu Cg c' w' [0] a l) (fun k=>l.length-k) 0 AL ⟨⟨Wm _,by simp⟩,_,hO,f⟩ ?_;rintro k g ⟨⟨O,j⟩,g,hO,f⟩;refine Ag<|Q<|M Z<|M Z<|E (BN BM) ?_;refine E (AX Z Z)<|Ah<|BA Z (fun g=>?_) fun g=>?_
 ·have i:k<l.length:=G;have g:=(Co f i AO).1;refine As<|Ag<|An<|Q<|M Z<|M Z<|E (Cv BM) ?_;refine E (Cc AF Z g.DF)<|M Z<|E (BO Z Z)<|Ah<|BA Z (fun g=>?_) fun g=>?_
  ·have o:(fun p:Int↦decide (p=d)) l[k]=true:=by simpa using g
   refine Q<|M Z<|V Z<|Af Z Z ?_;exact⟨hO.D.below,by rw[Ua i o j]⟩
  have o:decide (l[k]=d)=false:=by simpa using g
  refine As<|cg<|M Z<|E (Bc Z Z Ai Ai)<|V Z ?_;exact⟨k+1,AL,⟨⟨G,Ha j i o⟩,_,hO,f⟩,G⟩
 refine Az Z<|Q<|V Z<|Af Z Z ?_;exact⟨hO.D.below,by rw[Ub G j]⟩
theorem og(hu:Rd DW w a x)(hl:x.length≤1000):Calls QP 52 #[a] w (Bt fun v w'=>AZ w w'∧CJ w' w.heap.size 4 1 v x.length (x.map .bool)):=by
 have f:=hu.AD;obtain⟨c,hO,f⟩:=Ay w;have j:=hO.rd hu;refine AY 19 #[.tmp 2] func52 Z<|Q<|V Z<|Q<|V Z<|Ag<|Ag ?_;have f:=Br c w 8 4 1;refine cg<|V Z<|An ?_;refine AG (σ:=Nat×Value) (fun g=>[(0,a),(3,g.2),(4,I g.1)]) (fun g w'=>g.1≤x.length∧∃c',CD w c' w'∧Bu DW c' w' [0] a x∧AJ c' w' 8 4 1 g.2 g.1 ((x.take g.1).map .bool)) (fun g=>x.length-g.1) (0,_) AL ⟨Nat.zero_le _,_,hO,j,by dsimp only;rw[List.take_zero];exact f⟩ ?_;rintro⟨i,g⟩ g ⟨hi,g,hO,j,f⟩;dsimp only at hi f;have r:=f.AD;have t:=f.AA;refine Ag<|Q<|M Z<|M Z<|E (BN Fi) ?_;refine E (AX Z Z)<|Ah<|BA Z (fun o=>?_) fun o=>?_
 ·have o:i<x.length:=G;have p:=(Co j o AO).1;refine As<|Ag<|An<|cg<|M Z<|M Z<|M Z<|E (Cv Fi) ?_;refine E (Cc IW Z p.DF)<|ve (AH g 116 Fi Z Z Z Z Z) ?_;rintro _ w1 ⟨g,c1,rfl,g,g⟩;refine ve (Ax Fi Z Z f.D (Aw underlying64 g.AE.AT Z Bg) Fh Fg) ?_;rintro p w2 ⟨c2,p,f⟩;have r:=f.AD;have t:=f.AA;refine V Z<|cg<|M Z<|E (Bc Z Z Ai Ai)<|V Z ?_;exact⟨(i+1,_),AL,⟨by dsimp only;omega,_,hO.D,j.D,by dsimp only;rw[List.take_succ_eq_append_getElem o,List.map_append];exact f⟩,by show x.length-(i+1)<x.length-i;omega⟩
 have e:i=x.length:=G;subst e;rw[Abi] at f;refine Az Z<|Q<|M Z<|V Z<|Af Z Z ?_;exact⟨hO.D.below,f.Mw hO AO⟩
theorem cU{d:Int}:decide (0≤NC (fun y:Int=>decide (y=d)) l)=decide (d∈l):=by
 rw[Adn,Afk,Afk,NC];split
 ·rename_i k O;obtain⟨f,g,_⟩:=WM.1 O;have:l[k]=d:=by simpa using g
  exact⟨fun _=>by rw[←this];exact mv f,fun _=>by omega⟩
 rename_i O;refine⟨fun h=>by omega,fun h=>?_⟩;have:=Abq.1 O d h;simp at this
theorem jQ{vG:Value}{b:Bk}(r:Rd DS w a b.Ae)(hT:Rd Ie w y b.AQ)(a8:vG.oneCell'=true)(hf:∀x∈b.Ae,x.id∈b.AQ.flatMap (·.list)):Calls QP 64 #[.agg #[a,y,vG,I b.next]] w (Bt fun v w'=>AZ w w'∧v= .slice none 0 0):=by
 have f:=r.AD;have f:=hT.AD;have f:=r.small;have f:=hT.small;obtain⟨c,hO,f⟩:=Ay w;have g:=hO.rd r;have j:=hO.rd hT;refine AY 50 #[.tmp 2] func64 Z<|Q<|Fa c 101 fun w1 b1 c1 f f=>?_;refine V Z<|Q<|V Z<|Ag<|Q<|V Z<|An<|AG (σ:=Nat) (fun i=>[(1,P1 b1),(3, .slice none 0 0),(4,I i)]) (fun i w'=>i≤b.Ae.length∧∃c',CD w c' w'∧Bu DS c' w' [0] a b.Ae∧Bu Ie c' w' [0] y b.AQ∧AI c' w' 101 b1 [a,y,vG,I b.next] 58) (fun i=>b.Ae.length-i) 0 AL ⟨Wm _,_,hO.D,g.D,j.D,f⟩ ?_;rintro i l ⟨hi,l,hO,g,j,f⟩;refine Ag<|Q<|M Z<|E (Aa CA Z)<|E (Al Ei Z f.AE Z)<|E (BN Di) ?_;refine E (AX Z Z)<|Ah<|BA Z (fun l=>?_) fun l=>?_
 ·have o:i<b.Ae.length:=G;have U:=hf _ (List.getElem_mem o);refine As<|Ag<|An<|Q<|V Z<|Ag<|Q<|V Z<|An<|AG (σ:=Nat×Bool) (fun l=>[(1,P1 b1),(3, .slice none 0 0),(4,I i),(5, .bool l.2),(6,I l.1)]) (fun l w'=>(l.1≤b.AQ.length∧l.2=decide (b.Ae[i].id∈(b.AQ.take l.1).flatMap (·.list)))∧∃c',CD w c' w'∧Bu DS c' w' [0] a b.Ae∧Bu Ie c' w' [0] y b.AQ∧AI c' w' 101 b1 [a,y,vG,I b.next] 58) (fun l=>b.AQ.length-l.1) (0,false) AL ⟨⟨Nat.zero_le _,by simp⟩,_,hO,g,j,f⟩ ?_;rintro⟨k,C⟩ l ⟨⟨O,t⟩,p,hO,g,j,f⟩;dsimp only at O t;refine Ag<|Q<|M Z<|E (Aa Ev Z)<|E (Al HI Z f.AE Z)<|E (BN Ge) ?_;refine E (AX Z Z)<|Ah<|BA Z (fun l=>?_) fun l=>?_
  ·have l:k<b.AQ.length:=G;obtain⟨u,a6,J,_⟩:=PS j l;obtain⟨R,R,_⟩:=GK g o;obtain⟨d,hd⟩:∃d,d=b.Ae[i].id:=⟨_,Z⟩;rw[←hd] at t U R;have o:=J.AB.AD;have o:=J.AB.AA;have a7:(C||decide (d∈b.AQ[k].list))=decide (d∈(b.AQ.take (k+1)).flatMap (·.list)):=by
    rw[pk l,Aan,Aaa,Afx,Aaz,t,←Bool.decide_or];simp only[Aac]
   refine As<|Ag<|An<|AM p [] [0,0,0,1,0,0,0,1,0,1,0,0,0,1,2,0,0,0] [0,1,2,3,4,5,6,7,8,9,10,11,12,13,14,15,16,17] fun w2 o l=>?_;refine Bm Z Z<|Bm Z Z ?_;apply Dc p false 14 (decide (0≤NC (fun vT:Int↦decide (vT=d)) b.AQ[k].list)) l.kp Mq
   ·intro a1 a1;refine AN Z (Aa Ev Z)<|vc Z l.kp (f.D.kb HI Z Z)<|Bm Z Z<|AN Z (Cv Ge) ?_;refine AN Z (Bn Hv Z)<|vc Z l.kp (a6.D.kf BQ Z Z)<|AN Z (Aa CA Z)<|vc Z l.kp (f.D.kb Ei Z Z)<|Bm Z Z<|AN Z (Cv Di) ?_;refine AN Z (Bn Dy Z)<|vc Z l.kp (R.D.kf AF Z Z)<|Db Z (Ac p 1 (Ab wC Z (tu (d:=d) J.D.AB))) ?_;rintro p p ⟨p,p,J,rfl⟩;refine l.Bl p fun l=>AN Z (Dh Z Z) ?_;exact Dd 14 a1.D
   intro p p p;refine Ir Z Z<|AP ?_;refine cg<|M Z<|E (Bc Z Z Ai Ai)<|V Z ?_;replace hO:=(hO.D o).D p;replace g:=(g.D o).D p;replace j:=(j.D o).D p;replace f:=(f.D o).D p;exact⟨(k+1,C||decide (d∈b.AQ[k].list)),by rw[←cU];first|exact AL|(cases C<;>exact AL),⟨⟨by dsimp only;omega,by dsimp only;rw[a7,hd]⟩,_,hO,g,j,f⟩,by show b.AQ.length-(k+1)<b.AQ.length-k;omega⟩
  have l:C=true:=by rw[t,vq G];simpa using U
  subst l;refine Az Z<|Q<|M Z<|E (BL Z)<|Ah<|Cz Z (fun l=>?_) fun l=>?_
  ·exact absurd l Bb
  refine As<|cg<|M Z<|E (Bc Z Z Ai Ai)<|V Z ?_;exact⟨i+1,AL,⟨G,_,hO,g,j,f⟩,G⟩
 refine Az Z<|Q<|M Z<|V Z<|Af Z Z ?_;exact⟨hO.D.below,Z⟩
def Bq(a b:Nat)(c:Nat→Nat):Nat→Nat:=fun k=>if c k=a then b else c k
section
variable {a b:Nat} {c c0:Nat→Nat} {w w0:World}
theorem Lv(h:c k≠a):Bq a b c k=c k:=ss h
theorem AI.Bq(h:AI c w i k cs d)(hi:i≠a:=by decide):AI (Go.Eng.Bq a b c) w i k cs d:=⟨h.AE,(Lv (by rw[h.BF];exact hi)).trans h.BF⟩
theorem AJ.Bq{xs:List Value}(h:AJ c w i d k y n xs)(hi:i≠a:=by decide):AJ (Go.Eng.Bq a b c) w i d k y n xs:=⟨h.own,fun size O=>(Lv (by rw[h.BF size O];exact hi)).trans (h.BF size O)⟩
theorem AJ.Ma{xs:List Value}(h:AJ c w a d k y n xs):AJ (Go.Eng.Bq a b c) w b d k y n xs:=⟨h.own,fun size O=>zm (h.BF size O)⟩
theorem EA.Bq(h:EA X c w e)(f:AU e a=false:=by rfl):EA X (Go.Eng.Bq a b c) w e:=HM.mono h fun k _ O=>by
 have:c k≠a:=fun K=>by rw[K,f] at O;cases O
 show AU e (Go.Eng.Bq a b c k)=true
 rw[Lv this];exact O
theorem DG.Bq{p:Addr}(h:DG c w e p cs)(f:AU e a=false:=by rfl):DG (Go.Eng.Bq a b c) w e p cs:=⟨h.DF,by
 have:c p.block≠a:=fun K=>by have:=h.BF;rw[K,f] at this;cases this
 rw[Lv this];exact h.BF⟩
theorem BE.Bq(h:BE c0 w0 [] c w)(i:a≠0:=by decide):BE c0 w0 [] (Go.Eng.Bq a b c) w:=⟨h.os,h.tape,h.output,h.size,fun k O=>by
 have f:=h.BF k O;have g:Bw c0 [] k=0:=Ia (by rfl);rw[Lv (by rw[f,g];exact fun e=>i e.symm)];exact f,h.block⟩
end
theorem VN:∀{l:List Int} {x:Int} {k:Nat},l.Pairwise (·< ·)→l[k]?=some x→l.take k++l.drop (k+1)=l.filter fun y=>y≠x
 |[],x,k,_,h=>by simp at h
 |y::l,x,0,hs,h=>by
  have:y=x:=by simpa using h
  subst this;obtain⟨f,_⟩:=Abg.1 hs;rw[List.filter_cons_of_neg Bb];show l=_
  exact(Nn fun j=>by have:=f y j;omega).symm
 |y::l,x,k+1,hs,h=>by
  obtain⟨f,i⟩:=Abg.1 hs;have g:l[k]?=some x:=by simpa using h
  have o:=f x (Lx g);have:=VN i g;rw[Ac2 (by simp;omega),←this];rfl
section
variable {a b:Nat} {c c0:Nat→Nat} {w w0:World}
theorem ZB.Bq{vs:List Value}(h:ZB c w e vs q)(i:AU e a=false:=by rfl):ZB (Go.Eng.Bq a b c) w e vs q:=⟨h.len,fun j v l f g=>EA.Bq (h.row j v l f g) i⟩
theorem ZB.uW{vs:List Value}(h:ZB c w e vs q)(hv:Bu Cg c w e y l):ZB c w e (vs.set k y) (q.set k l):=⟨by rw[Yy,Yy,h.len],fun j u o f g=>by
 by_cases K:j=k
 ·subst K;have i:j<vs.length:=by have:=(kJ.1 f).1;rwa [Yy] at this
  rw[Acv i] at f;rw[Acv (by rw[←h.len];exact i)] at g;injection f with f;injection g with g;rw[←f,←g];exact hv
 ·rw[Ac1 (fun x=>K x.symm)] at f g;exact h.row j u o f g⟩
end
theorem eU(p:n≤100000):Calls QP 114 #[I n] w (Bt fun u w'=>AZ w w'∧CJ w' w.heap.size 3 1 u n ((He n).map I)):=by
 obtain⟨c,hO,hc⟩:=Ay w;refine AY 15 #[.tmp 2] func114 Z<|Q<|V Z<|Q<|V Z<|Ag<|Ag ?_;have f:=Br c w 8 3 1;refine cg<|V Z<|An<|AG (σ:=Nat×Value) (fun g=>[(0,I n),(3,g.2),(4,I g.1)]) (fun g w'=>g.1≤n∧∃c',CD w c' w'∧AJ c' w' 8 3 1 g.2 g.1 ((He g.1).map I)) (fun g=>n-g.1) (0,_) AL ⟨Nat.zero_le _,_,hO,f⟩ ?_;rintro⟨i,g⟩ g ⟨hi,g,hO,f⟩;dsimp only at hi f;have l:=f.AD;have o:=f.AA;refine Ag<|Q<|M Z<|M Z<|E (AX Z Z)<|Ah<|BA Z (fun j=>?_) fun j=>?_
 ·have j:i<n:=G;refine As<|Ag<|An<|cg<|M Z<|M Z<|ve (AH g 112 BM Z Z Z Z Z) ?_;rintro _ w1 ⟨g,c1,rfl,g,g⟩;refine ve (Ax BM Z Z f.D (Aw underlying23 g.AE.AT Z Bg) Fh Fg) ?_;rintro j w2 ⟨c2,j,f⟩;have l:=f.AD;have o:=f.AA;refine V Z<|cg<|M Z<|E (Bc Z Z Ai Ai)<|V Z ?_;exact⟨(i+1,_),AL,⟨by dsimp only;omega,_,hO.D,by dsimp only;rw[XM,List.map_append];exact f⟩,by show n-(i+1)<n-i;omega⟩
 have e:i=n:=G;subst e;refine Az Z<|Q<|M Z<|V Z<|Af Z Z ?_;exact⟨hO.below,f.Mw hO AO⟩
theorem oh{Djq:Nat}(b6:Djq≤100)(b7:n≤64):Calls QP 51 #[I Djq,I n] w (Bt fun u w'=>∃c',Mv c w c' w' []∧∃vL vF,KD c' w' vL vF (replicate Djq true) (replicate Djq (He n))∧u= .agg #[vL,vF]):=by
 have hJ:=BE.start c w [];generalize Bw c []=c0 at hJ;refine AY 25 #[.cell 4 67] func51 Z<|Q<|EK c0 104 NV fun w1 b4 c1 f Bd=>?_;refine Ah<|Q<|EK c1 105 NV fun w2 b5 c2 f Bv=>?_;refine Ah<|Ag<|Ag ?_;have f:AJ c2 w2 130 4 1 (.slice none 0 0) 0 ((replicate 0 true).map Value.bool):=Br _ _ _ _ _;have o:AJ c2 w2 131 23 1 (.slice none 0 0) 0 []:=Br _ _ _ _ _;have g:Gz c2 w2 132 [] (replicate 0 (He n)):=Gz.nil;refine cg<|V Z<|An<|AG (σ:=Nat) (fun i=>[(0,I Djq),(1,I n),(4,P1 b4),(5,P1 b5),(6,I i)]) (fun i w'=>i≤Djq∧∃c' t r vs,BE c w [] c' w'∧AI c' w' 104 b4 [.slice none 0 0, .slice none 0 0] 67∧AI c' w' 105 b5 [t,r] 67∧AJ c' w' 130 4 1 t i ((replicate i true).map Value.bool)∧AJ c' w' 131 23 1 r i vs∧Gz c' w' 132 vs (replicate i (He n))) (fun i=>Djq-i) 0 AL ⟨Wm _,_,_,_,_,hJ.D,Bd.D,Bv,f,o,g⟩ ?_;rintro i p ⟨hi,p,t,r,vs,hJ,Bd,Bv,f,o,g⟩;have b2:=o.AD;have b3:=o.AA;have a1:=f.AD;have a6:=f.AA;refine Ag<|Q<|M Z<|M Z<|E (AX Z Z)<|Ah<|BA Z (fun C=>?_) fun C=>?_
 ·have C:i<Djq:=G;refine As<|Ag<|An<|Q<|E (Aa JT Z)<|E (Al Hw Z Bv.AE Z)<|ve (AH p 114 Fi Z Z Z Z Z) ?_;rintro _ p ⟨p,p,rfl,R,p⟩;refine ve (Ax Fi Z Z f.D (Aw underlying64 p.AE.AT Z Bg) Fh Fg) ?_;rintro C C ⟨J,U,f⟩;have a1:=f.AD;have a6:=f.AA;refine E (Aa JT Z)<|Av (Ap Hw Z Z ra ra Bv.D Z) ?_;rintro _ p ⟨Bv,C⟩;refine Ah ?_;replace f:=f.D C;rw[show((replicate i true).map Value.bool)++[Value.bool true]=(replicate (i+1) true).map Value.bool by rw[Adp,Aaf];rfl] at f;have a7:=g;refine AM J [131] [0,1,0,2,2,2,0,3] [0,1,2,3,4,5,6,7] fun p a1 p=>AN Z (Aa Cq Z)<|vc Z p.kp (Bv.D.kb Ea Z Z)<|Bm Z Z<|Db Z (Ac J 132 (Ab wW Z (eU G))) ?_;rintro v20 J ⟨a8,J,b1,a6⟩;refine p.Bl J fun p=>?_;have b0:=(((a7.D R).D U).D C).newRow (v:=v20) (fun k O↦rX a1.size (a6.lt k O).1);have a7:=a6.Du b1;obtain⟨a6,a6,rfl,_⟩:=a7.own.len;replace g:=((((g.D R).D U).D C).D a1).D J;replace g:=g.snoc (l':=He n) (by rw[ME];exact a7) b0;rw[←Adp] at g;refine Db Z (AH a8 121 FZ Z Z Z Z Z) ?_;rintro _ C ⟨C,C,rfl,J,C⟩;refine p.Bl J fun p=>Db Z (Ax FZ Z Z o.D (Aw underlying65 C.AE.AT Z Bg) Fh Fg) ?_;rintro J J ⟨J,J,o⟩;refine p.Bl J fun p=>?_;have b2:=o.AD;have b3:=o.AA;refine AN Z (Aa Cq Z)<|LG Z (Ap Ea Z Z ra ra Bv.D Z) ?_;rintro _ C ⟨Bv,C⟩;try replace p:=p.tr C Z
  refine AP ?_;refine cg<|M Z<|E (Bc Z Z Ai Ai)<|V Z ?_;exact⟨i+1,AL,⟨G,_,_,_,_,hJ.D,Bd.D,Bv,f.D,o.D,g.D⟩,G⟩
 have e:i=Djq:=G;subst e;refine Az Z<|Q<|E (Ba IU Z Bv.AE Z)<|Av (Am IU Z Z Bd Z Z Bg) ?_;rintro _ p ⟨Bd,p⟩;refine Ah<|FH Z (DZ IU Z Bd.AE Z) ?_;replace hJ:=hJ.D p;refine⟨_,hJ.out,t,r,⟨by rw[Iz];exact(f.D p).EO hJ,vs,by rw[Iz];exact(o.D p).EO hJ,?_⟩,Z⟩;exact Gz.uM ⟨g.D.len,fun j v l f o↦(g.D.row j v l f o).EO hJ,g.D.apart⟩ fun l hl↦by
  have:=Ack hl;subst this;refine⟨by rw[ME];omega,fun x hx↦?_⟩;obtain⟨k,O,rfl⟩:=Aag.1 hx;have:=Aax.1 O;exact⟨G,G⟩
theorem VO{vS vT vG vL:Value}{b:Bk}{liveQ:List Bool}{n:Nat}(e8:Rd DS w vS b.Ae)(r4:vT.oneCell'=true)(r5:vG.oneCell'=true)(h9:Rd DW w vL liveQ)(hl:liveQ.length≤12)(o3:n≤64):
 Calls QP 19 #[.agg #[vS,vT,vG,I b.next],vL,I n] w (Bt fun u w'=>∃c',Mv c w c' w' []∧∃k5 k4,KD c' w' k5 k4 liveQ (Ce n liveQ.length (b.Ae.flatMap (·.Ad)))∧u= .agg #[k5,k4]):=by
 have r3:=e8.AD;have r6:=h9.AD;have x3:=e8.small;have hJ:=BE.start c w [];have b1:=e8.mL (c:=c) [];have b0:=h9.mL (c:=c) [];generalize Bw c []=c0 at hJ b1 b0;refine AY 89 #[.cell 6 67] func19 Z<|Q<|Fa c0 103 fun w1 b3 c1 q1 AR=>?_;refine EK c1 106 NV fun w2 b6 c2 q3 a1=>Ah<|Q<|M Z<|E (BN Fi) ?_;refine M Z<|ve (Ab zZ Z (oh (c:=c2) (Djq:=liveQ.length) (n:=n) G o3)) ?_;rintro s7 w4 ⟨k8,q4,⟨s6,e9,⟨k3,u4,t,J⟩,rfl⟩⟩;have p0:=k3.AD;have p1:=k3.AA;have p2:=t.AD;have s5:=t.AA;rw[Iz] at t;refine EK k8 107 NV fun w5 b7 k9 j0 C=>Av (Am IU Z Z C Z Z Bg) ?_;rintro _ w6 ⟨C,j1⟩;refine Ah<|Q<|M Z<|ve (Ac k9 130 (Ab aaa Z (og b0.D.AB G))) ?_;rintro s8 w7 ⟨p8,j2,o8,R⟩;replace R:=R.Du o8;obtain⟨k7,l3,rfl,_⟩:=R.own.len;refine E (Aa JT Z)<|Av (Ap Hw Z Z ra ra C.D Z) ?_;rintro _ w8 ⟨C,h0⟩;refine Ah<|Ag<|Ag ?_;obtain⟨e0,h1⟩:∃e0,e0=Value.slice k7 liveQ.length l3:=⟨_,Z⟩;have u3:e0.oneCell'=true:=by rw[h1];rfl
 replace R:=R.D h0;rw[←h1] at R C;clear h1;obtain⟨F,hF⟩:∃F,F=replicate liveQ.length (He n):=⟨_,Z⟩;have b8:F.length=liveQ.length:=by rw[hF,Iz]
 have b9:eA n F:=by rw[hF];exact TY _ _
 replace J:=(((J.D j0).D j1).D j2).D h0;rw[←hF] at J;replace t:=(((t.D j0).D j1).D j2).D h0;rw[←b8] at t;refine cg<|V Z<|An ?_;refine AG (σ:=Nat) (fun i=>[(1,vL),(2,I n),(3,P1 b3),(6,P1 b6),(7,P1 b7),(8,I i)]) (fun i w'=>i≤b.Ae.length∧∃c' vs F,(F.length=liveQ.length∧eA n F∧F=Ce n liveQ.length ((b.Ae.take i).flatMap (·.Ad)))∧BE c w [] c' w'∧Bu DS c' w' [0] vS b.Ae∧Bu DW c' w' [0] vL liveQ∧AI c' w' 103 b3 [vS,vT,vG,I b.next] 58∧AI c' w' 106 b6 [.slice none 0 0, .slice none 0 0] 67∧AI c' w' 107 b7 [e0,e9] 67∧AJ c' w' 130 4 1 e0 liveQ.length (liveQ.map .bool)∧AJ c' w' 131 23 1 e9 F.length vs∧ZB c' w' [132] vs F) (fun i=>b.Ae.length-i) 0 AL ⟨Wm _,_,_,F,⟨b8,b9,by rw[hF];exact(Ss _ _).symm⟩,hJ.D,b1.D,b0.D,AR.D,a1.D,C,R,t,J⟩ ?_;clear hJ b1 b0 AR a1 C R t J hF b8 b9;rintro i x1 ⟨hi,p9,vs,F,⟨b8,b9,c4⟩,hJ,b1,b0,AR,a1,C,R,t,J⟩;refine Ag<|Q<|M Z<|E (Aa CA Z)<|E (Al Ei Z AR.AE Z)<|E (BN Di) ?_;refine E (AX Z Z)<|Ah<|BA Z (fun n3=>?_) fun n3=>?_
 ·have k1:i<b.Ae.length:=G;obtain⟨u,b4,b2,_⟩:=GK b1 k1;obtain⟨x,hx⟩:∃x,x=b.Ae[i]:=⟨_,Z⟩;rw[←hx] at b4 b2;have r7:=b2.AB.AD;have r8:=b2.AB.AA;have r9:=b2.AB.small;refine As<|Ag<|An<|Q<|V Z<|An ?_;refine AG (σ:=Nat) (fun q=>[(1,vL),(2,I n),(3,P1 b3),(6,P1 b6),(7,P1 b7),(8,I i),(9,I q)]) (fun q w'=>q≤x.Ad.length∧∃c' vs F,(F.length=liveQ.length∧eA n F∧F=Ce n liveQ.length ((b.Ae.take i).flatMap (·.Ad)++x.Ad.take q))∧BE c w [] c' w'∧Bu DS c' w' [0] vS b.Ae∧Bu DW c' w' [0] vL liveQ∧Bu Bx c' w' [0] u x.Ad∧DG c' w' [0] (Bz vS 4 i) [I x.id,I x.len,I x.gen,u]∧AI c' w' 103 b3 [vS,vT,vG,I b.next] 58∧AI c' w' 106 b6 [.slice none 0 0, .slice none 0 0] 67∧AI c' w' 107 b7 [e0,e9] 67∧AJ c' w' 130 4 1 e0 liveQ.length (liveQ.map .bool)∧AJ c' w' 131 23 1 e9 F.length vs∧ZB c' w' [132] vs F) (fun q=>x.Ad.length-q) 0 AL ⟨Wm _,_,_,F,⟨b8,b9,by rw[Aeu,Aaz];exact c4⟩,hJ,b1,b0,b2,b4,AR,a1,C,R,t,J⟩ ?_;clear hJ b1 b0 AR a1 C R t J b8 b9 c4 b2 b4;rintro m x2 ⟨q7,l1,vs,F,⟨b8,b9,c4⟩,hJ,b1,b0,b2,b4,AR,a1,C,R,t,J⟩;have n4:=b4;refine Ag<|Q<|M Z<|E (Aa CA Z)<|E (Al Ei Z AR.AE Z)<|M Z<|E (Cv Di) ?_;refine E (Bn Cl Z)<|E (FF CH Z b4.DF Z)<|E (BN DL) ?_;refine E (AX Z Z)<|Ah<|BA Z (fun n5=>?_) fun n5=>?_
  ·have k2:m<x.Ad.length:=G;have j6:=(Co b2 k2 AO).1;obtain⟨d,hd⟩:∃d,d=x.Ad[m].1:=⟨_,Z⟩;obtain⟨a,j3⟩:∃a,a=x.Ad[m].2:=⟨_,Z⟩;rw[←hd,←j3] at j6;have e4:(b.Ae.take i).flatMap (·.Ad)++x.Ad.take (m+1)=((b.Ae.take i).flatMap (·.Ad)++x.Ad.take m)++[(d,a)]:=by rw[pk k2,←oo,hd,j3]
   obtain⟨e7,l8⟩:∃e7,e7=(b.Ae.take i).flatMap (·.Ad)++x.Ad.take m:=⟨_,Z⟩;rw[←l8] at e4 c4;refine As<|Ag<|An<|Q<|E (Aa CA Z)<|E (Al Ei Z AR.AE Z)<|M Z<|E (Cv Di) ?_;refine E (Bn Cl Z)<|E (FF CH Z n4.DF Z)<|M Z<|E (Cv DL) ?_;refine E (DT Dj Z j6.DF Z)<|EK l1 110 JU fun w9 p4 l0 p e3=>?_;refine Av (Am Dj Z Z e3 Z Z Bg) ?_;rintro _ x0 ⟨e3,r⟩;refine Ah<|Ag<|Q<|E (Aa Ct Z)<|E (Al AF Z e3.AE Z)<|M Z<|E (BN Fi) ?_;refine E (Gu Z Z Ai Ai) ?_;refine ve (Ac l0 1 (Ab ax Z (NX d ((liveQ.length:Int)-1)))) ?_;rintro s9 u5 ⟨h7,o,r1,rfl⟩;refine E (BL Z)<|Ah<|BA Z (fun j5=>?_) fun j5=>?_
   ·have e2:F=Ce n liveQ.length (e7++[(d,a)]):=by rw[XT (by have l6:(decide (0≤d)&&decide (d≤(liveQ.length:Int)-1))=false:=j5;simp at l6;omega)];exact c4
    refine Az Z<|cg<|M Z<|E (Bc Z Z Ai Ai)<|V Z ?_;replace hJ:=((hJ.D p).D r).D o;replace b1:=((b1.D p).D r).D o;replace b0:=((b0.D p).D r).D o;replace b2:=((b2.D p).D r).D o;replace b4:=((b4.D p).D r).D o;replace AR:=((AR.D p).D r).D o;replace a1:=((a1.D p).D r).D o;replace C:=((C.D p).D r).D o;replace R:=((R.D p).D r).D o;replace t:=((t.D p).D r).D o;replace J:=((J.D p).D r).D o
    first
    |exact⟨m+1,AL,⟨G,_,_,_,⟨b8,b9,by rw[e4];exact e2⟩,hJ,b1,b0,b2,b4,AR,a1,C,R,t,J⟩,G⟩
    |(have e1:(F.set a6 (f.filter fun y=>y≠a)).length=F.length:=Yy
      exact⟨m+1,AL,⟨G,Go.Eng.Bq 134 132 _,_,F.set a6 (f.filter fun y=>y≠a),⟨e1.trans b8,fun l hl=>by
       rcases Aa4 hl with h|h
       ·exact b9 l h
       rw[h];exact⟨c3.1.sublist Adv,fun y hy=>c3.2.1 y (Acr.1 hy).1,rX (Aa0 _ _) c3.2.2⟩,by rw[e4];exact e2⟩,hJ.Bq,EA.Bq b1,EA.Bq b0,EA.Bq b2,DG.Bq b4,AR.Bq,a1.Bq,C.Bq,R.Bq,t.Bq.dz e1.symm,J.Bq.uW (Jg b5.Ma (by have:=Aa0 (fun y=>decide (y≠a)) f;omega) (fun y hy=>by have:=c3.2.1 y (Acr.1 hy).1;exact⟨G,G⟩))⟩,G⟩)
   obtain⟨a6,n9⟩:∃a6:Nat,d=a6:=⟨d.toNat,G⟩;subst n9;have n8:a6<F.length:=G;have r0:=(((J.D p).D r).D o).len;obtain⟨g,cp,rfl,q9,q8⟩:=(((t.D p).D r).D o).CT G;obtain⟨h6,h5⟩:∃h6,vs[a6]?=some h6:=⟨vs[a6]'(by omega),dd _⟩;obtain⟨f,hf⟩:∃f,f=F[a6]:=⟨_,Z⟩;have e5:F[a6]?=some f:=by rw[hf];exact dd n8
   obtain⟨k6,l2,o5,_⟩:=((((J.D p).D r).D o).row a6 h6 f h5 e5).AB.form;subst o5;have e6:=(((J.D p).D r).D o).row a6 _ f h5 e5;have c3:=b9 f (Lx e5);have h3:DG _ _ [131] (Bz (.slice (some ⟨g,0,none⟩) F.length cp) 1 a6) [.slice k6 f.length l2]:=(((t.D p).D r).D o).nw h5;have j7:=h3;have j8:=h3;have p0:=e6.AB.AD;have p1:=e6.AB.AA;have p2:=e6.AB.small;refine As<|Ag<|AM h7 [] [0,1,0,1,0,1,0,1,2,0] [0,1,2,3,4,5,6,7,8,9] fun u6 a8 U=>?_;have l9:=AR;have n0:=a1;have j4:=C;have h2:=e3;have n2:=b4;have n6:=j7;have n7:=j8;refine AN Z (Aa Cq Z)<|vc Z U.kp (j4.D.kb Ea Z Z)<|AN Z (Aa Ct Z)<|vc Z U.kp (h2.D.kb AF Z Z)<|AN Z (BS FZ t.D Z Z G G)<|vc Z U.kp (h3.D.ke BQ Z)<|AN Z (Aa GP Z)<|vc Z U.kp (h2.D.kb AF Z Z) ?_;refine Db Z (Ac h7 1 (Ab wC Z (tu (d:=a) e6.D.AB))) ?_;rintro u0 u7 ⟨h8,a7,r2,rfl⟩;refine U.Bl a7 fun U=>Ir Z Z<|AP ?_;clear l9 n0 j4 h2 n2 n6 n7;clear U;refine Q<|M Z<|E (Dh Z Z)<|Ah<|BA Z (fun n1=>?_) fun n1=>?_
   ·obtain⟨c8,h4⟩:∃c8:Nat,NC (fun y:Int=>decide (y=a)) f=(c8:Int):=⟨(NC (fun y:Int=>decide (y=a)) f).toNat,G⟩;have k0:f[c8]?=some a:=by
     rw[NC] at h4;split at h4
     ·rename_i o9 o1;obtain⟨l4,g2,_⟩:=WM.1 o1;have:o9=c8:=G;subst this;rw[dd l4];congr 1;simpa using g2
     omega
    have q5:c8<f.length:=(kJ.1 k0).1;have q6:f.length≤64:=by have:=c3.2.2;omega
    have j9:=VN c3.1 k0;have e2:F.set a6 (f.filter fun y=>y≠a)=Ce n liveQ.length (e7++[((a6:Int),a)]):=by rw[RD G (by rw[←c4];exact e5),c4]
    rw[h4];refine AM h8 [134] [0,1,0,1,0,1,0,1,0,1,0,0,2,0,1,0,1,0,1,0,0,0,2,0,3] [0,1,2,3,4,5,6,7,8,9,10,11,13,14,15,16,17,18,19,20,21,12,22,23,24] fun u9 c9 U=>AN Z (Aa Cq Z)<|vc Z U.kp (C.D.kb Ea Z Z)<|AN Z (Aa Ct Z)<|vc Z U.kp (e3.D.kb AF Z Z)<|AN Z (Aa Cq Z)<|vc Z U.kp (C.D.kb Ea Z Z)<|AN Z (Aa Ct Z)<|vc Z U.kp (e3.D.kb AF Z Z)<|AN Z (BS FZ t.D Z Z G G) ?_;refine vc Z U.kp (j7.D.ke BQ Z)<|Bm Z Z<|AN Z (MV BM Z Z G G)<|AN Z (Aa Cq Z)<|vc Z U.kp (C.D.kb Ea Z Z)<|AN Z (Aa Ct Z)<|vc Z U.kp (e3.D.kb AF Z Z)<|AN Z (BS FZ t.D Z Z G G)<|vc Z U.kp (j8.D.ke BQ Z) ?_;refine Bm Z Z<|AN Z (Bc Z Z Ai Ai)<|AN Z (DJ BM Z Z G G) ?_;refine Db Z (Ac h8 134 (Ab aab Z (UD (e6.D.AB.to_ (hi:=(c8:Int).toNat) G) (by simp;omega)))) ?_;rintro u1 v7 ⟨p5,c6,o7,b5⟩;refine U.Bl c6 fun U=>?_;replace b5:=b5.Du o7;refine Db Z (Ax BM Z Z b5 (Src.flat underlying23 (e6.D.AB.from_ (lo:=((c8:Int)+1).toNat) G)) Fh Fg) ?_;rintro u2 v8 ⟨p6,c7,b5⟩;refine U.Bl c7 fun U=>?_;rw[←Aan,TJ,show((c8:Int)+1).toNat=c8+1 by omega,j9] at b5;have o0:(f.take c8).length+(f.drop (c8+1)).length=(f.filter fun y=>y≠a).length:=by rw[←ft,j9]
    replace b5:=b5.dz o0;obtain⟨p3,q0,o6,_⟩:=b5.own.len;subst o6;have s3:=b5.AA;have s4:=b5.AD;refine AN Z (BS FZ t.D Z Z G G) ?_;refine LG Z ((Dv (j:=a6) (x:= .tmp 87) (y:= .tmp 86) BQ t.D Z G (by rw[show(⟨g,a6,none⟩:Addr)=Bz (.slice (some ⟨g,0,none⟩) F.length cp) 1 (a6:Int).toNat by simp[Bz,add_lit]];rfl) Z Z Z)) ?_;rintro _ w0 ⟨p7,c5,t⟩;try replace U:=U.tr c5 Z
    refine AP ?_;clear U;refine cg<|M Z<|E (Bc Z Z Ai Ai)<|V Z ?_;replace hJ:=((((((((hJ.D p).D r).D o).D a8).D a7).D c9).D c6).D c7).D c5;replace b1:=((((((((b1.D p).D r).D o).D a8).D a7).D c9).D c6).D c7).D c5;replace b0:=((((((((b0.D p).D r).D o).D a8).D a7).D c9).D c6).D c7).D c5;replace b2:=((((((((b2.D p).D r).D o).D a8).D a7).D c9).D c6).D c7).D c5;replace b4:=((((((((b4.D p).D r).D o).D a8).D a7).D c9).D c6).D c7).D c5;replace AR:=((((((((AR.D p).D r).D o).D a8).D a7).D c9).D c6).D c7).D c5;replace a1:=((((((((a1.D p).D r).D o).D a8).D a7).D c9).D c6).D c7).D c5;replace C:=((((((((C.D p).D r).D o).D a8).D a7).D c9).D c6).D c7).D c5;replace R:=((((((((R.D p).D r).D o).D a8).D a7).D c9).D c6).D c7).D c5;replace J:=((((((((J.D p).D r).D o).D a8).D a7).D c9).D c6).D c7).D c5;replace b5:=b5.D c5
    first
    |exact⟨m+1,AL,⟨G,_,_,_,⟨b8,b9,by rw[e4];exact e2⟩,hJ,b1,b0,b2,b4,AR,a1,C,R,t,J⟩,G⟩
    |(have e1:(F.set a6 (f.filter fun y=>y≠a)).length=F.length:=Yy
      exact⟨m+1,AL,⟨G,Go.Eng.Bq 134 132 _,_,F.set a6 (f.filter fun y=>y≠a),⟨e1.trans b8,fun l hl=>by
       rcases Aa4 hl with h|h
       ·exact b9 l h
       rw[h];exact⟨c3.1.sublist Adv,fun y hy=>c3.2.1 y (Acr.1 hy).1,rX (Aa0 _ _) c3.2.2⟩,by rw[e4];exact e2⟩,hJ.Bq,EA.Bq b1,EA.Bq b0,EA.Bq b2,DG.Bq b4,AR.Bq,a1.Bq,C.Bq,R.Bq,t.Bq.dz e1.symm,J.Bq.uW (Jg b5.Ma (by have:=Aa0 (fun y=>decide (y≠a)) f;omega) (fun y hy=>by have:=c3.2.1 y (Acr.1 hy).1;exact⟨G,G⟩))⟩,G⟩)
   have o4:a∉f:=fun o2=>by have:=(cU (l:=f) (d:=a));simp[o2] at this;omega
   have e2:F=Ce n liveQ.length (e7++[((a6:Int),a)]):=by rw[RD G (by rw[←c4];exact e5),Nn o4,←c4,cn e5]
   refine As<|cg<|M Z<|E (Bc Z Z Ai Ai)<|V Z ?_;replace hJ:=((((hJ.D p).D r).D o).D a8).D a7;replace b1:=((((b1.D p).D r).D o).D a8).D a7;replace b0:=((((b0.D p).D r).D o).D a8).D a7;replace b2:=((((b2.D p).D r).D o).D a8).D a7;replace b4:=((((b4.D p).D r).D o).D a8).D a7;replace AR:=((((AR.D p).D r).D o).D a8).D a7;replace a1:=((((a1.D p).D r).D o).D a8).D a7;replace C:=((((C.D p).D r).D o).D a8).D a7;replace R:=((((R.D p).D r).D o).D a8).D a7;replace t:=((((t.D p).D r).D o).D a8).D a7;replace J:=((((J.D p).D r).D o).D a8).D a7
   first
   |exact⟨m+1,AL,⟨G,_,_,_,⟨b8,b9,by rw[e4];exact e2⟩,hJ,b1,b0,b2,b4,AR,a1,C,R,t,J⟩,G⟩
   |(have e1:(F.set a6 (f.filter fun y=>y≠a)).length=F.length:=Yy
     exact⟨m+1,AL,⟨G,Go.Eng.Bq 134 132 _,_,F.set a6 (f.filter fun y=>y≠a),⟨e1.trans b8,fun l hl=>by
      rcases Aa4 hl with h|h
      ·exact b9 l h
      rw[h];exact⟨c3.1.sublist Adv,fun y hy=>c3.2.1 y (Acr.1 hy).1,rX (Aa0 _ _) c3.2.2⟩,by rw[e4];exact e2⟩,hJ.Bq,EA.Bq b1,EA.Bq b0,EA.Bq b2,DG.Bq b4,AR.Bq,a1.Bq,C.Bq,R.Bq,t.Bq.dz e1.symm,J.Bq.uW (Jg b5.Ma (by have:=Aa0 (fun y=>decide (y≠a)) f;omega) (fun y hy=>by have:=c3.2.1 y (Acr.1 hy).1;exact⟨G,G⟩))⟩,G⟩)
  refine Az Z<|cg<|M Z<|E (Bc Z Z Ai Ai)<|V Z ?_;have l7:F=Ce n liveQ.length ((b.Ae.take (i+1)).flatMap (·.Ad)):=by rw[pk k1,Aan,c4,vq (show x.Ad.length≤m by omega),←hx];simp
  exact⟨i+1,AL,⟨G,_,_,_,⟨b8,b9,l7⟩,hJ,b1,b0,AR,a1,C,R,t,J⟩,G⟩
 have s0:=t.AD;refine Az Z<|Q<|E (Ba IU Z C.AE Z)<|Av (Am IU Z Z a1 Z Z Bg) ?_;rintro _ w3 ⟨a1,q2⟩;refine Ah<|FH Z (DZ IU Z a1.AE Z) ?_;rw[vq G] at c4;rw[←c4];exact⟨_,hJ.D.out,e0,e9,⟨R.D.EO hJ.D,vs,t.D.EO hJ.D,⟨J.D.len,fun j v l e8 l5=>(J.D.row j v l e8 l5).EO hJ.D⟩⟩,Z⟩
theorem eV(i:Rd DW w a x)(p:Rd DW w y x):Calls QP 132 #[a,y] w (Bt fun v w'=>AZ w w'∧v= .bool true):=by
 have f:=i.AD;have f:=p.AD;have f:=i.small;obtain⟨c,hO,r⟩:=Ay w;have f:=hO.rd i;have g:=hO.rd p;refine AY 26 #[.tmp 4] func132 Z<|Q<|V Z<|Ag<|Q<|M Z<|E (BN Fi) ?_;refine M Z<|E (BN Fi) ?_;refine E (BK Z Z)<|Ah<|Cz Z (fun r=>?_) fun r=>?_
 ·exfalso;simp at r
 refine As<|Ag<|Q<|V Z<|An<|AG (σ:=Nat) (fun k=>[(0,a),(1,y),(4, .bool false),(5,I k)]) (fun k w'=>k≤x.length∧∃c',CD w c' w'∧Bu DW c' w' [0] a x∧Bu DW c' w' [0] y x) (fun k=>x.length-k) 0 AL ⟨Wm _,_,hO,f,g⟩ ?_;rintro k r ⟨O,t,hO,f,g⟩;refine Ag<|Q<|M Z<|M Z<|E (BN Fi) ?_;refine E (AX Z Z)<|Ah<|BA Z (fun r=>?_) fun r=>?_
 ·have r:k<x.length:=G;have C:=(Co f r AO).1;have J:=(Co g r AO).1;refine As<|Ag<|An<|Ag<|AM t [] [0,0,0,1,0,0,0,1,0] [0,1,2,3,4,5,6,7,8] fun w1 r r=>?_;refine Bm Z Z<|Bm Z Z<|AN Z (Cv Fi) ?_;refine vc Z r.kp (C.D.ke IW Z)<|Bm Z Z<|Bm Z Z<|AN Z (Cv Fi) ?_;refine vc Z r.kp (J.D.ke IW Z)<|AN Z (aar underlying4 Z Z)<|AP ?_;refine Cz Z (fun r=>?_) fun r=>?_
  ·exfalso;simp at r
  refine As<|cg<|M Z<|E (Bc Z Z Ai Ai)<|V Z ?_;exact⟨k+1,AL,⟨G,_,hO.D,f.D,g.D⟩,G⟩
 refine Az Z<|Q<|V Z<|Af Z Z ?_;exact⟨hO.D.below,Z⟩
theorem jR(j:Rd KQ w a q)(p:Rd KQ w y q):Calls QP 133 #[a,y] w (Bt fun v w'=>AZ w w'∧v= .bool true):=by
 have f:=j.AD;have f:=p.AD;have f:=j.small;obtain⟨c,hO,f⟩:=Ay w;have g:=hO.rd j;have i:=hO.rd p;refine AY 27 #[.tmp 4] func133 Z<|Q<|V Z<|Ag<|Q<|M Z<|E (BN FZ) ?_;refine M Z<|E (BN FZ) ?_;refine E (BK Z Z)<|Ah<|Cz Z (fun f=>?_) fun f=>?_
 ·exfalso;simp at f
 refine As<|Ag<|Q<|V Z<|An<|AG (σ:=Nat) (fun k=>[(0,a),(1,y),(4, .bool false),(5,I k)]) (fun k w'=>k≤q.length∧∃c',CD w c' w'∧Bu KQ c' w' [0] a q∧Bu KQ c' w' [0] y q) (fun k=>q.length-k) 0 AL ⟨Wm _,_,hO,g,i⟩ ?_;rintro k f ⟨O,r,hO,g,i⟩;refine Ag<|Q<|M Z<|M Z<|E (BN FZ) ?_;refine E (AX Z Z)<|Ah<|BA Z (fun f=>?_) fun f=>?_
 ·have f:k<q.length:=G;obtain⟨t,J,t⟩:=HR g f;obtain⟨C,R,C⟩:=HR i f;have f:=t.AB.AD;have f:=C.AB.AD;refine As<|Ag<|An<|Ag<|AM r [] [0,0,0,1,0,0,0,1,2,0] [0,1,2,3,4,5,6,7,8,9] fun w1 f f=>?_;refine Bm Z Z<|Bm Z Z<|AN Z (Cv FZ) ?_;refine vc Z f.kp (J.D.ke BQ Z)<|Bm Z Z<|Bm Z Z<|AN Z (Cv FZ) ?_;refine vc Z f.kp (R.D.ke BQ Z)<|Db Z (Ac r 1 (Ab xT Z (YV t.D.AB C.D.AB))) ?_;rintro r w2 ⟨c2,r,t,rfl⟩;refine f.Bl r fun f=>AN Z (BL Z)<|AP ?_;refine Cz Z (fun f=>?_) fun f=>?_
  ·exfalso;simp at f
  refine As<|cg<|M Z<|E (Bc Z Z Ai Ai)<|V Z ?_;exact⟨k+1,AL,⟨G,_,hO.D,g.D,i.D⟩,G⟩
 refine Az Z<|Q<|V Z<|Af Z Z ?_;exact⟨hO.D.below,Z⟩
theorem eW{t f2:Value}(f:Rd DW w a x)(g:Rd KQ w y q)(i:Rd DW w t x)(j:Rd KQ w f2 q):Calls QP 65 #[.agg #[a,y], .agg #[t,f2]] w (Bt fun v w'=>AZ w w'∧v= .bool true):=by
 have o:=f.AD;have o:=g.AD;have o:=i.AD;have o:=j.AD;obtain⟨c,hO,p⟩:=Ay w;have o:=hO.rd f;have I:=hO.rd g;have hc:=hO.rd i;have hd:=hO.rd j;refine AY 17 #[.tmp 4] func65 Z<|Q<|Fa c 102 fun w1 b2 c1 p p=>?_;refine Fa c1 103 fun w2 b3 c2 C AR=>?_;refine V Z<|Q<|E (Aa JT Z)<|E (Al Hw Z p.D.AE Z)<|E (Aa JT Z)<|E (Al Hw Z AR.AE Z)<|ve (Ac c2 1 (Ab xh Z (eV o.D.AB hc.D.AB))) ?_;rintro o o ⟨o,C,C,rfl⟩;refine M Z ?_;apply BU o true 5 true CK
 ·intro C C;refine wo<|E (Aa Cq Z)<|wo<|E (Al Ea Z p.D.AE Z)<|wo<|E (Aa Cq Z)<|wo<|E (Al Ea Z AR.D.AE Z)<|wo<|ve (Ac o 1 (Ab xi Z (jR I.D.AB hd.D.AB))) ?_;rintro o o ⟨o,o,o,rfl⟩;exact BV 5 C.D
 intro o o o;refine V Z<|Af Z Z ?_;exact⟨hO.D.D.below,Z⟩
theorem KR(e:Int):Calls QP 14 #[I e] w (Bt fun v w'=>AZ w w'∧v=I e):=by
 have hK:=Bf w;refine AY 4 #[.tmp 2] func14 Z<|Q<|V Z<|Q<|M Z<|V Z<|Af Z Z ?_;exact⟨hK,Z⟩
theorem VP(f:BW c w k F)(p:F.d.length=n∧n≤12):Calls QP 20 #[P1 k] w (Bt fun u w'=>AZ w w'∧CJ w' w.heap.size 4 1 u n ((Cu n F).map .bool)):=by
 have j:=DD.start c w BX;replace f:=f.Mz (K:=BX);generalize Bw c BX=c0 at j f;have o:=p.1;refine AY 18 #[.tmp 2] func20 Z<|Q<|V Z<|Q<|V Z<|Ag<|Q<|V Z<|An<|AG (σ:=Nat×Value) (fun g=>[(0,P1 k),(3,g.2),(4,I g.1)]) (fun g w'=>g.1≤n∧∃c',DD c w BX c' w'∧BW c' w' k F∧AJ c' w' 8 4 1 g.2 g.1 ((Cu g.1 F).map .bool)) (fun g=>n-g.1) (0,_) AL ⟨Nat.zero_le _,_,j,f,Br _ _ _ _ _⟩ ?_;rintro⟨i,g⟩ g ⟨hi,l,j,f,g⟩;dsimp only at hi g;have r:=g.AD;have t:=g.AA;refine Ag<|Q<|M Z<|M Z<|ve (Ac l 1 (Ab Ws Z (GZ f))) ?_;rintro l w1 ⟨c1,l,l,rfl⟩;rw[o];refine E (AX Z Z)<|Ah<|BA Z (fun l=>?_) fun l=>?_
 ·have l:i<n:=G;refine As<|Ag<|An<|cg<|M Z<|M Z<|M Z<|ve (Ac c1 1 (Ab pI Z (Rh (d:=((i:Nat):Int)) f.D))) ?_;rintro l w2 ⟨c2,l,l,rfl⟩;refine ve (AH c2 115 Fi Z Z Z Z Z) ?_;rintro _ l ⟨l,l,rfl,l,l⟩;refine ve (Ax Fi Z Z g.D (Aw underlying64 l.AE.AT Z Bg) Fh Fg) ?_;rintro o o ⟨o,o,g⟩;have r:=g.AD;have t:=g.AA;refine V Z<|cg<|M Z<|E (Bc Z Z Ai Ai)<|V Z ?_;exact⟨(i+1,_),AL,⟨by dsimp only;omega,_,j.D,f.D,by dsimp only;rw[Tl,List.map_append];exact g⟩,by show n-(i+1)<n-i;omega⟩
 have e:i=n:=G;subst e;refine Az Z<|Q<|M Z<|V Z<|Af Z Z ?_;exact⟨j.D.below,g.D.uC j.D⟩
def GV(i:Nat):Tx:=UInt8.ofNat i::replicate 31 0
theorem VQ(i:Nat):(GV i).length=32:=by simp[GV]
theorem rn(h:i≤5):MO (i:Int)=UInt8.ofNat i:=by
 have:i=0∨i=1∨i=2∨i=3∨i=4∨i=5:=G;rcases this with rfl|rfl|rfl|rfl|rfl|rfl<;>rfl
theorem cV(hi:i≤5):Calls QP 9 #[I i] w (Bt fun u w'=>AZ w w'∧u=St (GV i)):=by
 obtain⟨c,hO,f⟩:=Ay w;have j:within (i:Int) 6=(i:Int):=by rw[within];omega
 refine AY 12 #[.tmp 2] func9 Z<|Q<|V Z<|Q<|ve (GD c 8 EE Z Z Ai Ai Ai) ?_;rintro v4 w1 ⟨c1,l,g⟩;refine V Z<|Ag ?_;have hv:AJ _ _ 8 5 1 v4 32 (AS (replicate 32 0)):=g;have t:=hv.AD;have C:=hv.AA;refine cg<|M Z<|M Z<|ve (Ac c1 1 (Ab hV Z (EG (i:Int) 6 ⟨G,G⟩ G G))) ?_;rintro J w2 ⟨c2,o,r,rfl⟩;rw[j];refine E (KT underlying3 underlying5 Z)<|E (BS EE hv.D Z Z G G) ?_;refine Av (MU Ty hv.D Ai Z Z ra ra) ?_;rintro _ R ⟨hv,p⟩;replace hv:=hv.ae (ys:=AS (GV i)) (m:=32) (by rw[rn hi];rfl) Z;refine Ah<|Q<|M Z<|E (Ij underlying74 underlying9 underlying5 Z hv.own)<|V Z<|Af Z Z ?_;exact⟨hO.D.below,Z⟩
theorem jS{s:Tx}(hs:s.length≤140737488355328):Calls QP 10 #[St s] w (Bt fun u w'=>AZ w w'∧u=St (s.take 40)):=by
 have hK:=Bf w;refine AY 9 #[.tmp 2] func10 Z<|Q<|V Z<|Ag<|Q<|M Z<|E (Ey underlying9 Z)<|E (CM Z Z)<|Ah<|BA Z (fun f=>?_) fun f=>?_
 ·refine Q<|M Z<|E (IN underlying9 Z Z G G)<|V Z ?_;refine Af Z Z ?_;exact⟨hK,Z⟩
 refine As<|Q<|M Z<|V Z<|Af Z Z ?_;exact⟨hK,by rw[vq G]⟩
def uX(b:Tx)(i:Nat):Tx:=((WB b).drop (64*i)).take 64
def RU(j:Jl)(oth:Bool)(at_:Nat)(k:Nat):Int:=(at_:Int)+512*(if oth=true then 1-j.half.getD k 0 else j.half.getD k 0)
def To(fr:Nat→Int)(W:Nat)(ks:List Nat)(k i:Nat)(d s:Int):Prop:=(∃q∈ks,d=(q:Int)∧fr q≤s∧s<fr q+W)∨(d=(k:Int)∧fr k≤s∧s<fr k+i)
structure Jj (fr:Nat→Int) (b:Tx) (ks:List Nat) (k i:Nat) (A B:CS):Prop where
 Dt:∀d s,To fr ((b.length+63)/64) ks k i d s→Bp B d s=(uX b (s-fr d.toNat).toNat,0)
 out:∀d s,¬To fr ((b.length+63)/64) ks k i d s→Bp B d s=Bp A d s
theorem Jj.refl(fr:Nat→Int)(b:Tx)(A:CS):Jj fr b [] 0 0 A A:=⟨fun d s h=>by
 rcases h with⟨q,f,_⟩|⟨_,g,i⟩
 ·cases f
 ·omega,fun _ _ _=>rfl⟩
theorem Jj.congr{fr:Nat→Int}{j:List Nat}{B:CS}(h:Jj fr W e k i F B)(hi:∀d s,To fr ((W.length+63)/64) e k i d s↔To fr ((W.length+63)/64) j m n d s):Jj fr W j m n F B:=
 ⟨fun d s hd=>h.Dt d s ((hi d s).2 hd),fun d s hd=>h.out d s fun ks=>hd ((hi d s).1 ks)⟩
theorem Jj.at{fr:Nat→Int}{B:CS}(h:Jj fr W e k 0 F B)(i:Nat):Jj fr W e i 0 F B:=h.congr fun d s=>by
 constructor
 ·rintro(h|⟨_,f,g⟩)
  ·exact .inl h
  ·omega
 ·rintro(h|⟨_,f,g⟩)
  ·exact .inl h
  ·omega
theorem Jj.done{fr:Nat→Int}{B:CS}(h:Jj fr W e k ((W.length+63)/64) F B):Jj fr W (e++[k]) 0 0 F B:=h.congr fun d s=>by
 constructor
 ·rintro(⟨q,f,h⟩|h)
  ·exact .inl ⟨q,by simp[f],h⟩
  ·exact .inl ⟨k,by simp,h⟩
 ·rintro(⟨q,f,g⟩|⟨_,i,j⟩)
  ·rcases Aac.1 f with f|f
   ·exact .inl ⟨q,f,g⟩
   ·simp only[pv] at f;subst f;exact .inr g
  ·omega
theorem Jj.write{fr:Nat→Int}{T:Tx}{B:CS}{s:Int}(h:Jj fr W e k i F B)(hp:GR n m B)(hT:T=uX W i)(hl:T.length=64)(l:(Er B k s T).2=0)(hs:s=fr k+i):Jj fr W e k (i+1) F (Er B k s T).1:=by
 obtain⟨_,_,_,_,j⟩:=hp.write (d:=(k:Int)) (s:=s) hl;subst hs;have key:∀d s,To fr ((W.length+63)/64) e k (i+1) d s↔To fr ((W.length+63)/64) e k i d s∨(d=(k:Int)∧s=fr k+i):=fun d s=>by
  constructor
  ·rintro(h|⟨f,g,o⟩)
   ·exact .inl (.inl h)
   by_cases ks:s=fr k+i
   ·exact .inr ⟨f,ks⟩
   exact .inl (.inr ⟨f,g,G⟩)
  rintro((h|⟨f,g,o⟩)|⟨f,g⟩)
  ·exact .inl h
  ·exact .inr ⟨f,g,G⟩
  exact .inr ⟨f,G,G⟩
 refine⟨fun d s hd=>?_,fun d s hd=>?_⟩
 ·rw[j];by_cases ks:d=(k:Int)∧s=fr k+i
  ·rw[zm ⟨l,ks⟩,ks.1,ks.2,hT];congr 2;rw[TJ];omega
  rw[ss fun x=>ks x.2];exact h.Dt d s (((key d s).1 hd).resolve_right ks)
 rw[j,ss fun x=>hd ((key d s).2 (.inr x.2))];exact h.out d s fun x=>hd ((key d s).2 (.inl x))
theorem Jj.flush{fr:Nat→Int}{B:CS}{d:Int}(h:Jj fr W e k i F B)(hp:GR n m B):Jj fr W e k i F (Fj B d).1:=by
 obtain⟨_,_,_,_,f⟩:=hp.flush (d:=d);exact⟨fun d s hd=>by rw[f];exact h.Dt d s hd,fun d s hd=>by rw[f];exact h.out d s hd⟩
theorem Yl(hl:life≤4611686018427387904):Calls QP 157 #[I life] w (Bt fun u w'=>AZ w w'∧u=St (HS life)):=by
 obtain⟨c,hO,f⟩:=Ay w;refine AY 20 #[.tmp 2] func157 Z<|Q<|V Z<|Q<|ve (Ht c 8 EE Z Z Z (by simp[Value.cells]) Z Z) ?_;rintro _ w1 ⟨b4,c1,rfl,f,Bd⟩;refine ve ((Kx underlying74 underlying5 Z Bd Z AO)) ?_;rintro f w2 ⟨c2,f,rfl,hv⟩;replace hv:AJ _ _ 8 5 1 _ 8 (AS [115,105,108,111,32,108,111,103]):=hv;refine M Z<|E (ED underlying3 underlying278 Z Ai Ai) ?_;refine ve (Ab Li Z (LP hv (life:Int) 8 AO AO G)) ?_;rintro f f ⟨f,g,hv⟩;refine V Z<|Ag ?_;obtain⟨H,g⟩:∃H,H=[115,105,108,111,32,108,111,103]++be 8 (life:Int):=⟨_,Z⟩;have j:H.length=16:=by rw[g];simp[Be]
 replace hv:=hv.ae (ys:=AS H) (m:=16) (by rw[g];rfl) Z;refine cg<|M Z<|M Z<|E (Ij underlying74 underlying9 underlying5 Z hv.own)<|ve (Ac f 1 (Ab Uv Z (PG (s:=H) G))) ?_;rintro f f ⟨f,f,f,rfl⟩;refine ve (Ab Li Z (LP hv.D (TA H:Nat) 8 AO AO G)) ?_;rintro f f ⟨f,f,hv⟩;refine V Z<|Ag ?_;obtain⟨f,i⟩:∃f,f=H++be 8 ((TA H:Nat):Int):=⟨_,Z⟩;have l:f.length=24:=by rw[i,ft,Be,j]
 replace hv:=hv.ae (ys:=AS f) (m:=24) (by rw[i];rfl) Z;refine cg<|M Z<|M Z<|E (Tv EE hv Z)<|E (Gu Z Z G G) ?_;rw[show(64:Int)-((24:Nat):Int)=((40:Nat):Int) by omega];refine ve ((Nl EE underlying3 hv Z Z Z G G AO)) ?_;rintro j j ⟨j,j,hv⟩;replace hv:=hv.ae (ys:=AS (f++replicate 40 0)) (m:=64) (by rw[GI];simp[AS]) G;refine E (Ij underlying74 underlying9 underlying5 Z hv.own)<|V Z<|Af Z Z ?_;have e:H=jH life:=g;exact⟨hO.D.below,by rw[i,e];rfl⟩
theorem VR{s:Tx}(hl:life≤4611686018427387904)(j:n≤4611686018427387904)(hs:s.length≤1000000):Calls QP 155 #[I life,I n,St s] w (Bt fun u w'=>AZ w w'∧u=St (FA life n s)):=by
 obtain⟨c,hO,f⟩:=Ay w;refine AY 28 #[.tmp 6] func155 Z<|Q<|V Z<|Ag ?_;have hv:=Br c w 8 5 1;refine cg<|M Z<|E (ED underlying3 underlying278 Z Ai Ai) ?_;refine ve (Ab Li Z (LP (l:=[]) hv (life:Int) 8 AO AO G)) ?_;rintro v10 w1 ⟨c1,f,hv⟩;refine V Z<|Ag ?_;replace hv:=hv.ae (ys:=AS (be 8 (life:Int))) (m:=8) Z Z;refine cg<|M Z<|M Z<|E (ED underlying3 underlying278 Z Ai Ai) ?_;refine ve (Ab Li Z (LP hv (n:Int) 4 AO AO G)) ?_;rintro f w2 ⟨c2,f,hv⟩;refine M Z<|E (Ey underlying9 Z)<|E (ED underlying3 underlying278 Z Ai Ai) ?_;refine ve (Ab Li Z (LP hv (s.length:Nat) 4 AO AO G)) ?_;rintro f f ⟨f,f,hv⟩;refine V Z<|Ag ?_;obtain⟨H,f⟩:∃H,H=be 8 (life:Int)++be 4 (n:Int)++be 4 (s.length:Nat):=⟨_,Z⟩;have g:H.length=16:=by rw[f];simp[Be]
 replace hv:=hv.ae (ys:=AS H) (m:=16) (by rw[f];rfl) Z;refine cg<|M Z<|M Z<|ve (Ax EE Z Z hv (vX underlying9) Fh Fg) ?_;rintro g g ⟨g,i,hv⟩;replace hv:=hv.ae (ys:=AS (H++s)) (m:=16+s.length) (by rw[GI];rfl) G;refine V Z<|Q<|M Z<|M Z<|E (Ij underlying74 underlying9 underlying5 Z hv.own) ?_;refine ve (Ac g 1 (Ab Uv Z (PG (s:=H++s) (by rw[ft];omega)))) ?_;rintro g g ⟨g,g,g,rfl⟩;refine ve (Ab Li Z (LP hv.D (TA (H++s):Nat) 8 AO AO G)) ?_;rintro g g ⟨g,g,hv⟩;refine E (Ij underlying74 underlying9 underlying5 Z hv.own)<|V Z<|Af Z Z ?_;exact⟨hO.D.below,by rw[f];rfl⟩
structure eX (c0:Nat→Nat) (w0:World) (d:Nat→Nat) (B:World) (p pa n m N b1 b2 b3 b4 b5:Nat) (vh vl:Value) (j:Jl) (A:CS) (oth:Bool) (at_:Nat) (b:Tx) (X:CS→Prop):Prop where
 hJ:BE c0 w0 BX d B
 bj:AI d B 0 p (Ig pa vh vl j) 150
 hh:AJ d B 0 3 1 vh j.half.length (j.half.map I)
 b1:AI d B 104 b1 [P1 p] 90
 b2:AI d B 105 b2 [.bool oth] 4
 b3:AI d B 106 b3 [I at_] 3
 b4:AI d B 107 b4 [St (WB b)] 9
 b5:AI d B 108 b5 [I 0] 44
 arr:∃A',BW d B pa A'∧HP n m N A A'∧X A'
theorem eX.D{c0:Nat→Nat}{d f:Nat→Nat}{B':World}{pa B b1 b2 b3 b4 b5:Nat}{j:Jl}{oth:Bool}{at_:Nat}{X:CS→Prop}(w0:eX c0 h d N k pa n m B b1 b2 b3 b4 b5 a y j F oth at_ W X)(Mjq:Mv d N f B' [901]:=by exact Go.Eng.KU):eX c0 h f B' k pa n m B b1 b2 b3 b4 b5 a y j F oth at_ W X:=by
 obtain⟨i,l,o,r⟩:=w0.arr;exact⟨w0.hJ.D Mjq,w0.bj.D Mjq,w0.hh.D Mjq,w0.b1.D Mjq,w0.b2.D Mjq,w0.b3.D Mjq,w0.b4.D Mjq,w0.b5.D Mjq,i,l.D Mjq,o,r⟩
theorem RM{p pa n m at_:Nat}{j:Jl}{A:CS}{oth:Bool}{b:Tx}(n2:Dz c w p pa j)(c3:BW c w pa A)(k0:Ta n j)(h9:0<n∧n≤12)(n3:1024≤m∧m≤2048)(hp:GR n m A)(hc:A.BC≤1000000000)(o8:at_*64+b.length≤32768):
 Calls QP 140 #[P1 p, .bool oth,I at_,St b] w (Bt fun u w'=>∃c',Mv c w c' w' BX∧∃a1,BW c' w' pa a1∧HP n m 6156 A a1∧Jj (RU j oth at_) b (CR (fun k:Nat=>BG A k) n) 0 0 A a1∧u=I 0):=by
 obtain⟨e8,vl,cs,o,hh,hl⟩:=n2;have hJ:=BE.start c w BX;replace o:=o.Oc (J:=BX) Z;replace hh:=hh.Oc (J:=BX) Z;replace c3:=c3.Dt;have n4:=bH b;have l0:=HP.refl hp;have n1:=k0.half;have l6:=Jj.refl (RU j oth at_) b A;generalize Bw c BX=c0 at hJ o hh c3;refine AY 79 #[.cell 8 44] func140 Z<|Q<|Mn c0 104 fun w1 b4 c1 e0 Bd=>?_;refine Mn c1 105 fun w2 b5 c2 b2 Bv=>?_;refine Mn c2 106 fun q9 b6 k3 c4 R=>?_;refine Mn k3 107 fun r0 b7 k4 b3 r=>?_;refine EK k4 108 Uy fun r1 b8 j1 b9 C=>Ah<|Ag ?_;obtain⟨z,k1⟩:∃z:Nat,(z:Int)=(-(b.length:Int))%64:=⟨((-(b.length:Int))%64).toNat,G⟩;refine AM j1 [] [1,1,0,0,0,2,0,3] [0,1,2,3,4,5,6,7] fun r2 b0 f=>?_;have e2:=Bd;have h3:=Bv;have e3:=R;have c8:=r;have h4:=C;refine vc Z f.kp (c8.D.kb CQ Z Z)<|vc Z f.kp (c8.D.kb CQ Z Z)<|AN Z (Ey underlying9 Z)<|AN Z (aaC Z G)<|AN Z (yT Z Z) ?_;rw[←k1];refine Db Z (Ac j1 1 (Ab pK Z (Nd (s:=[0]) (n:=z) (by rw[Abt];omega) G))) ?_;rintro p5 r3 ⟨k5,a7,p4,rfl⟩;refine f.Bl a7 fun f=>?_;refine AN Z (dE Z Z (by rw[Nk,Iz];omega)) ?_;rw[qy k1];refine LG Z (Ap CQ Z Z ra ra r.D Z) ?_;rintro _ r4 ⟨r,b1⟩;refine AP ?_;clear e2 h3 e3 c8 h4;clear f;refine Ag<|Q<|E (Al Gx Z Bd.D.AE Z)<|ve (Ac k5 76 (Ab pL Z (OT))) ?_;rintro p6 n7 ⟨k6,a8,n6,⟨k2,rfl,n0,h1⟩⟩;have h5:AI _ _ 76 k2 [P1 p] 90:=⟨h1,n6 _ n0⟩;obtain⟨lv,e6⟩:∃lv:Nat→Bool,lv=fun k:Nat=>BG A k:=⟨_,Z⟩;have h2:eX c w k6 n7 p pa n m (513*(List.length ([]:List Nat))) b4 b5 b6 b7 b8 e8 vl j A oth at_ b (Jj (RU j oth at_) b [] 0 0 A):=⟨(((((((((hJ.D e0).D b2).D c4).D b3).D b9).D b0).D a7).D b1).D a8),(((((((((o.D e0).D b2).D c4).D b3).D b9).D b0).D a7).D b1).D a8),(((((((((hh.D e0).D b2).D c4).D b3).D b9).D b0).D a7).D b1).D a8),((((((((Bd.D b2).D c4).D b3).D b9).D b0).D a7).D b1).D a8),(((((((Bv.D c4).D b3).D b9).D b0).D a7).D b1).D a8),((((((R.D b3).D b9).D b0).D a7).D b1).D a8),(r.D a8),((((C.D b0).D a7).D b1).D a8),A,(((((((((c3.D e0).D b2).D c4).D b3).D b9).D b0).D a7).D b1).D a8),l0,l6⟩;refine Ah<|An<|Hu (α:=Nat) (encs:=fun k:Nat=>[I k]) (κ:=[]) (F:=[76,0]) (Φ:=bF pa n lv) (Qjq:=fun pre x _ _=>pre++[x]<+:CR lv n) (Fin:=fun L=>L=CR lv n)
  (fun pre d B=>eX c w d B p pa n m (513*pre.length) b4 b5 b6 b7 b8 e8 vl j A oth at_ b (Jj (RU j oth at_) b pre 0 0 A)) [] (fun _ _ _=>False) BX Z Z fQ (Nj h5 o.D h9.2) Z (fun _=>rfl) Bb Z
  (fun s d A k8 B h m=>h.D m) (fun p hp=>by simp at hp) (fun s d A k8 B h _=>h.elim)
  (fun s d B h=>by obtain⟨a1,e9,h0,_⟩:=h.arr;exact⟨a1,e9,h0.pw.len,fun k=>by rw[h0.liveQ,e6]⟩) h2 ?_ ?_ ?_ ?_
 ·clear hJ o hh c3 Bd Bv R r C h5 h1 h2;rintro l pre k d B ⟨hJ,o,hh,Bd,Bv,R,r,C,a1,U,g,a6⟩ j8;replace a6:=a6.at k;have hK:=Acc.refl d B BX;have c5:k∈CR lv n:=j8.subset Bb;rw[MA] at c5;refine cg<|V Z<|⟨_,hK,?_⟩;intro A2 b2;have hK:=Acc.refl d A2 BX;have p1:pre.length+1≤12:=by
   have e9:=j8.length_le;rw[ft,Abt] at e9;have h0:(CR lv n).length≤n:=by have:=Aa0 lv (List.range n);rwa [Aap] at this
   omega
  have h8:k<j.half.length:=by rw[n1];exact c5.1
  have e4:=(hh.D b2).XF h8;have e5:=e4;obtain⟨hv,h7⟩:∃hv,hv=j.half[k]:=⟨_,Z⟩;have j9:=k0.each _ (mv h8);rw[←h7] at e4 e5 j9;have j7:RU j oth at_ k=(at_:Int)+512*(if oth=true then 1-hv else hv):=by
   rw[RU,show j.half.getD k 0=j.half[k] by simp[hk,h8],h7]
  refine An<|Ag<|AM d [] [1,1,0,0,1,0,0,1,2,0,0] [0,1,2,3,4,5,6,7,8,9,10] fun q1 o3 f=>?_;have e2:=Bd;have h3:=Bv;have e3:=R;have c8:=r;have h4:=C;have j3:=o;have j6:=e4;have l7:=e5;refine vc Z f.kp (e3.D.kb AF Z Z)<|vc Z f.kp (e2.D.kb Gx Z Z)<|AN Z (Ak Z)<|AN Z (Aa Le Z)<|vc Z f.kp (j3.D.kb BQ Z Z)<|Bm Z Z<|AN Z (BS BM hh.D Z Z G G)<|vc Z f.kp (j6.D.ke AF Z) ?_;refine Db Z (Ac d 1 (Ab ay Z (MB (n:=hv) G))) ?_;rintro p7 q2 ⟨j0,l1,p2,rfl⟩;refine f.Bl l1 fun f=>AN Z (Bc Z Z Ai Ai)<|Ir Z Z ?_;refine AP ?_;clear e2 h3 e3 c8 h4 j3 j6 l7;clear f;refine Ag<|Q<|E (Al IW Z Bv.D.AE Z)<|Ah<|WC.mono (N:=(fun e w'=>∃f0:Int,((0≤f0∧f0≤1)∧f0=if oth=true then 1-hv else hv)∧Sub [(4000000, .tuple #[]),(4,P1 b4),(5,P1 b5),(6,P1 b6),(7,P1 b7),(8,P1 b8),(9,I k),(10,I (at_+512*f0))] e∧∃c',eX c w c' w' p pa n m (513*pre.length+0) b4 b5 b6 b7 b8 e8 vl j A oth at_ b (Jj (RU j oth at_) b pre k 0 A)∧Acc d A2 BX c' w')) ?_ ?_
  ·refine BA Z (fun h6=>?_) fun h6=>?_
   ·refine AM j0 [] [1,1,0,0,1,0,0,1,0,2,0,0] [0,1,2,3,4,5,6,7,8,9,10,11] fun q3 o4 f=>vc Z f.kp (R.D.kb AF Z Z)<|vc Z f.kp (Bd.D.kb Gx Z Z)<|AN Z (Ak Z)<|AN Z (Aa Le Z)<|vc Z f.kp (o.D.kb BQ Z Z)<|Bm Z Z<|AN Z (BS BM hh.D Z Z G G)<|vc Z f.kp (e5.D.ke AF Z)<|AN Z (Gu Z Z Ai Ai) ?_;refine Db Z (Ac j0 1 (Ab ay Z (MB (n:=1-hv) G))) ?_;rintro p8 q4 ⟨n8,l2,p3,rfl⟩;refine f.Bl l2 fun f=>AN Z (Bc Z Z Ai Ai)<|Ir Z Z ?_;refine AP ?_;clear f;exact⟨1-hv,⟨G,by rw[zm h6]⟩,AL,_,⟨hJ.D,o.D,hh.D,Bd.D,Bv.D,R.D,r.D,C.D,a1,U.D,g,a6⟩,hK.D⟩
   refine As ?_;exact⟨hv,⟨G,by rw[ss (by rw[h6];decide)]⟩,AL,_,⟨hJ.D,o.D,hh.D,Bd.D,Bv.D,R.D,r.D,C.D,a1,U.D,g,a6⟩,hK.D⟩
  clear hJ o hh Bd Bv R r C U hK e4 e5 g j9 h7 a6;rintro e r6 ⟨f0,⟨o9,l9⟩,n5,o1,⟨hJ,o,hh,Bd,Bv,R,r,C,a1,U,g,a6⟩,hK⟩;rw[←l9] at j7;refine DN n5<|Ag<|Q<|V Z<|An<|AG (σ:=Nat) (fun i=>[(4,P1 b4),(5,P1 b5),(6,P1 b6),(7,P1 b7),(8,P1 b8),(9,I k),(10,I (at_+512*f0)),(11,I ((64*i:Nat):Int))]) (fun i w'=>i≤(b.length+63)/64∧∃c',eX c w c' w' p pa n m (513*pre.length+i) b4 b5 b6 b7 b8 e8 vl j A oth at_ b (Jj (RU j oth at_) b pre k i A)∧Acc d A2 BX c' w') (fun i=>(b.length+63)/64-i) 0 AL ⟨Wm _,_,⟨hJ,o,hh,Bd,Bv,R,r,C,a1,U,g,a6⟩,hK⟩ ?_;clear hJ o hh Bd Bv R r C U hK g a6;rintro i r5 ⟨hi,k7,⟨hJ,o,hh,Bd,Bv,R,r,C,a1,U,g,a6⟩,hK⟩;refine Ag<|Q<|M Z<|E (Al CQ Z r.AE Z)<|E (Ey underlying9 Z)<|E (AX Z Z)<|Ah<|BA Z (fun l8=>?_) fun l8=>?_
  ·have p0:i<(b.length+63)/64:=G;obtain⟨T,hT⟩:∃T,T=uX b i:=⟨_,Z⟩;have j2:T.length=64:=by rw[hT,uX,kL,kK];omega
   have e1:=g.pw.wf h9 G (by have:=g.Mt;omega);have e7:BG a1 k=true:=by rw[g.liveQ];rw[e6] at c5;exact c5.2
   obtain⟨c9,c6⟩:=HP.write (d:=k) (s:=(at_:Int)+512*f0+i) g.pw j2 e7 G G n3.1;refine As<|Ag<|An<|Ag<|AM k7 BX [1,0,0,1,0,0,0,0,0,1,0,0,0,0,2,0] [0,1,2,3,4,5,6,7,8,9,10,11,12,13,14,15] fun q5 o5 f=>?_;refine vc Z f.kp (Bd.D.kb Gx Z Z)<|AN Z (Ak Z)<|AN Z (Aa IV Z)<|vc Z f.kp (o.D.kb LK Z Z)<|Bm Z Z<|Bm Z Z<|Bm Z Z<|AN Z (dD Z Z G G G) ?_;rw[show(((64*i:Nat):Int)/64)=(i:Int) by omega];refine AN Z (Bc Z Z Ai Ai)<|vc Z f.kp (r.D.kb CQ Z Z)<|Bm Z Z<|Bm Z Z<|AN Z (Bc Z Z Ai Ai)<|AN Z (Ip underlying9 Z Z Z G G (by rw[n4];omega)) ?_;rw[show(List.take ((((64*i:Nat):Int)+64).toNat-((64*i:Nat):Int).toNat) (List.drop ((64*i:Nat):Int).toNat (WB b)))=T by rw[hT,uX,TJ];congr 1;omega];refine Db Z (Ab sx Z (Xt (d:=k) (s:=at_+512*f0+i) (t:=T) U.D e1)) ?_;rintro p9 q6 ⟨n9,l3,⟨U,rfl⟩⟩;refine f.Bl l3 fun f=>Ir Z Z<|AP ?_;clear f;refine Ag ?_;have c7:=a6.write (fr:=RU j oth at_) (s:=at_+512*f0+i) g.pw hT j2 c6 (by rw[j7]);rw[c6];replace g:=g.tr c9;clear c9 c6 e7 e1 hT;refine cg<|M Z<|E (BK Z Z)<|Ah<|Cz Z (fun j4=>?_) fun j4=>?_
   ·exact absurd j4 AO
   refine As<|cg<|M Z<|E (Bc Z Z Ai Ai)<|V Z ?_;refine⟨i+1,AL,⟨G,_,⟨hJ.D,o.D,hh.D,Bd.D,Bv.D,R.D,r.D,C.D,_,U,g,c7⟩,hK.D⟩,G⟩
  have e:i=(b.length+63)/64:=G;have e1:=g.pw.wf h9 G (by have:=g.Mt;omega);have e7:BG a1 k=true:=by rw[g.liveQ];rw[e6] at c5;exact c5.2
  obtain⟨c9,c6⟩:=HP.flush (d:=k) g.pw e7;refine Az Z<|Q<|E (Al Gx Z Bd.AE Z)<|E (Ak Z)<|E (Aa IV Z)<|E (Al LK Z o.AE Z)<|M Z<|ve (Ab sy Z (XE (d:=k) U e1)) ?_;rintro q0 q7 ⟨o0,o6,⟨U,rfl⟩⟩;refine V Z<|Ag ?_;have c7:=(a6.flush (d:=k) g.pw);subst e;replace c7:=c7.done;rw[c6];replace g:=(g.tr c9).more (Mjq:=513*(pre.length+1)) G;refine cg<|M Z<|E (BK Z Z)<|Ah<|Cz Z (fun j5=>?_) fun j5=>?_
  ·exact absurd j5 AO
  refine As<|⟨_,hK.D,hJ.D,o.D,hh.D,Bd.D,Bv.D,R.D,r.D,C.D,_,U,?_,c7⟩;rw[ft];exact g
 ·clear hJ o hh c3 Bd Bv R r C h5 h1 h2;rintro L Djq d B hF ⟨hJ,o,hh,Bd,Bv,R,r,C,a1,U,g,a6⟩ k9;rw[hF,e6] at a6;have o2:L.length≤12:=by
   rw[hF];have:=Aa0 lv (List.range n);rw[Aap] at this;rw[CR];omega
  refine Q<|Av (Ap KF Z Z ra ra C Z) ?_;rintro _ q8 ⟨C,l4⟩;refine Ah ?_;obtain⟨l5,o7⟩:=(k9.D l4).take;refine GF Z Z l5 (IR KF Z C.D.AE Z) ?_;exact⟨_,hJ.D.out,_,U.D.out hJ.D,g.more G,a6,Z⟩
 ·intro p hp;simp at hp
 exact fun _ _ _ _ h=>h.elim
theorem cW(h:k<W.length):W.getD k 0=W[k]:=by simp[hk,h]
theorem VS(h:W.length≤k):W.getD k 0=0:=by simp[hk,h]
def OA(X:Tx)(a:Nat):Tx:=(List.range 64).map fun j=>X.getD (a+j) 0
theorem uY(h:m+64≤W.length+k):((W++replicate k 0).drop m).take 64=OA W m:=by
 apply Ab6
 ·simp[OA];omega
 ·intro j g f;simp only[OA,kr,Aap] at f;simp only[OA,List.getElem_take,List.getElem_drop,Ac0,Adk];by_cases e:m+j<W.length
  ·rw[Ahr e,cW e]
  ·rw[Afm G,List.getElem_replicate,VS G]
theorem VT(h:W.length≤k):OA W k=replicate 64 0:=by
 rw[OA,List.eq_replicate_iff];refine⟨by simp,fun b f=>?_⟩;obtain⟨j,_,rfl⟩:=Aag.1 f;rw[VS G]
theorem Ym{Y:Tx}(h:∀j,j<64→W.getD (k+j) 0=Y.getD (m+j) 0):OA W k=OA Y m:=by
 rw[OA,OA];exact Abw fun j f=>h j (by simpa using f)
theorem Ud(h:i<(W.length+63)/64):uX W i=OA W (64*i):=by
 have hl:=bH W;rw[WB,ft,Iz] at hl;rw[uX,WB];exact uY G
theorem cX{Y:Tx}:(W++Y).getD k 0=if k<W.length then W.getD k 0 else Y.getD (k-W.length) 0:=by
 split
 ·rename_i h;rw[hk,hk,Abh h]
 ·rename_i h;rw[hk,hk,Abb G]
structure JX (n:Nat) (hav:Nat→Bool) (A:CS) (J:Jl) (LL:List (List Rec)):Prop where
 life:1≤J.life∧J.life≤4611686018427387904
 bat:J.Ew=LL.length
 used:J.used=(Ft J.life 0 LL).length
 tail:J.tail=(Ft J.life 0 LL).drop (J.used/64*64)
 half:∀k,k<n→J.half.getD k 0=1
 may:∀L∈LL,∀r∈L,FT r=true
 z:∀k,k<n→hav k=true→Bp A k 0=(zT,0)
 h:∀k,k<n→hav k=true→Bp A k 512=(HS J.life,0)
 b:∀k,k<n→hav k=true→∀i:Nat,i<511→Bp A k (513+(i:Nat))=(OA (Ft J.life 0 LL) (64*i),0)
theorem JX.keep{hav g:Nat→Bool}{B:CS}{J:Jl}(h:JX n hav F J Y)(hs:∀k,k<n→g k=true→hav k=true)(O:∀(k:Nat) (s:Int),k<n→g k=true→0≤s→s<1024→Bp B k s=Bp F k s):JX n g B J Y:=
 ⟨h.life,h.bat,h.used,h.tail,h.half,h.may,fun k f hv=>by rw[O k 0 f hv G G];exact h.z k f (hs k f hv),
  fun k f hv=>by rw[O k 512 f hv G G];exact h.h k f (hs k f hv),
  fun k f hv i hi=>by rw[O k _ f hv G G];exact h.b k f (hs k f hv) i hi⟩
theorem uZ:zT=replicate 64 0:=rfl
theorem JX.add{hav:Nat→Bool}{B:CS}{J J':Jl}{L:List Rec}{b:Tx}{lv:Nat→Bool}(h:JX n hav F J Y)(a1:b=J.tail++FA J.life J.Ew (Gf 0 L))(o:Jj (RU J false (1+J.used/64)) b (CR lv n) 0 0 F B)
 (hl:∀k,k<n→hav k=true→lv k=true)(hu:J.used+24+EL L≤32704)(b3:∀r∈L,FT r=true)
 (g:J'.life=J.life)(a8:J'.Ew=J.Ew+1)(U:J'.used=J.used+(24+EL L))(b0:J'.tail=b.drop (b.length/64*64))(b1:J'.half=J.half):JX n hav B J' (Y++[L]):=by
 obtain⟨S,l⟩:∃S,S=Ft J.life 0 Y:=⟨_,Z⟩;have a6:(FA J.life J.Ew (Gf 0 L)).length=24+EL L:=by rw[JK,Gr]
 have C:Ft J.life 0 (Y++[L])=S++FA J.life J.Ew (Gf 0 L):=by rw[VF,l,h.bat,Abs]
 have I:S.length=J.used:=by rw[l];exact h.used.symm
 have f:J.tail=S.drop (J.used/64*64):=by rw[l];exact h.tail
 have p:J.tail.length=J.used%64:=by rw[f,kK,I];omega
 have b2:b.length=J.used%64+(24+EL L):=by rw[a1,ft,p,a6]
 have a7:S++FA J.life J.Ew (Gf 0 L)=S.take (J.used/64*64)++b:=by
  rw[a1,f,←oo,Aas]
 have R:(S.take (J.used/64*64)).length=J.used/64*64:=by rw[kL,I];omega
 have KG:∀k,k<n→RU J false (1+J.used/64) k=((513+J.used/64:Nat):Int):=fun k O=>by
  rw[RU,ss AO,h.half k O];omega
 have p:∀(k:Nat) (s:Int),k<n→hav k=true→(To (RU J false (1+J.used/64)) ((b.length+63)/64) (CR lv n) 0 0 k s↔((513+J.used/64:Nat):Int)≤s∧s<((513+J.used/64:Nat):Int)+((b.length+63)/64:Nat)):=fun k s O hv=>by
  constructor
  ·rintro(⟨q,f,e,f,g2⟩|⟨_,f,g2⟩)
   ·have:q=k:=G;subst this;rw[KG q O] at f g2;exact⟨f,g2⟩
   omega
  rintro⟨f,g2⟩;exact .inl ⟨k,MA.2 ⟨O,hl k O hv⟩,Z,by rw[KG k O];exact f,by rw[KG k O];exact g2⟩
 refine⟨by rw[g];exact h.life,by rw[a8,h.bat,ft,Abt],by rw[g,C,U,ft,a6,I],?_,fun k O=>by rw[b1];exact h.half k O,fun Mjq f r I=>?_,fun k O hv=>?_,fun k O hv=>?_,fun k O hv i hi=>?_⟩
 ·rw[g,C,b0,U,a7];have e:(J.used+(24+EL L))/64*64=J.used/64*64+b.length/64*64:=by rw[b2];omega
  rw[e,←Ab7,Afe R]
 ·rcases Aac.1 f with f|f
  ·exact h.may Mjq f r I
  simp only[pv] at f;subst f;exact b3 r I
 ·rw[o.out _ _ fun e=>by have:=(p k 0 O hv).1 e;omega];exact h.z k O hv
 ·rw[o.out _ _ fun e=>by have:=(p k 512 O hv).1 e;omega,g];exact h.h k O hv
 rw[g,C,a7];by_cases c1:i<J.used/64
 ·rw[o.out _ _ fun e=>by have:=(p k _ O hv).1 e;omega,h.b k O hv i hi,←l];congr 1;refine Ym fun j C=>?_;rw[cX,zm G,hk,hk,Ab2,zm G]
 by_cases c2:i<J.used/64+(b.length+63)/64
 ·rw[o.Dt _ _ ((p k _ O hv).2 G),TJ,KG k O];congr 1;have f:((513:Int)+(i:Nat)-((513+J.used/64:Nat):Int)).toNat=i-J.used/64:=G;rw[f,Ud G];refine Ym fun j C=>?_;rw[cX,ss G,R];congr 1;omega
 rw[o.out _ _ fun e=>by have:=(p k _ O hv).1 e;omega,h.b k O hv i hi,←l,VT G,VT (by rw[ft,R];omega)]
theorem JX.new{A1 A2 A3:CS}{j j1:Jl}{lv:Nat→Bool}(hf:∀k s:Nat,k<n→s<1024→Bp F k s=(zT,0))(U:∀k,k<n→j.half.getD k 0=0)(a1:∀k,k<n→j1.half.getD k 0=1)(hl:∀k,k<n→lv k=true)(o:1≤life∧life≤4611686018427387904)
 (J:Jj (RU j true 1) (FA life 0 (Gf 0 [])) (CR lv n) 0 0 F A1)(R:Jj (RU j true 0) (HS life) (CR lv n) 0 0 A1 A2)(p:Jj (RU j1 true 0) (replicate 64 0) (CR lv n) 0 0 A2 A3)
 (g:j1.life=life)(a6:j1.Ew=1)(I:j1.used=24)(a7:j1.tail=FA life 0 (Gf 0 [])):JX n lv A3 j1 [[]]:=by
 have t:Ft life 0 [[]]=FA life 0 (Gf 0 []):=by simp[Ft]
 have C:(FA life 0 (Gf 0 [])).length=24:=by rw[JK];rfl
 have f1:∀k,k<n→RU j true 1 k=513:=fun k O=>by rw[RU,zm Z,U k O];omega
 have f2:∀k,k<n→RU j true 0 k=512:=fun k O=>by rw[RU,zm Z,U k O];omega
 have f3:∀k,k<n→RU j1 true 0 k=0:=fun k O=>by rw[RU,zm Z,a1 k O];omega
 have f:∀(l:Nat→Int) (a:Int) (W k:Nat) (s:Int),k<n→(∀k,k<n→l k=a)→(To l W (CR lv n) 0 0 k s↔a≤s∧s<a+W):=fun l a W k s O KG=>by
  constructor
  ·rintro(⟨q,l,e,l,g2⟩|⟨_,l,g2⟩)
   ·have:q=k:=G;subst this;rw[KG q O] at l g2;exact⟨l,g2⟩
   omega
  rintro⟨l,g2⟩;exact .inl ⟨k,MA.2 ⟨O,hl k O⟩,Z,by rw[KG k O];exact l,by rw[KG k O];exact g2⟩
 have w1:((FA life 0 (Gf 0 [])).length+63)/64=1:=by rw[C]
 have w2:((HS life).length+63)/64=1:=by rw[Qe]
 have l:((replicate 64 (0:UInt8)).length+63)/64=1:=by rw[Iz]
 refine⟨by rw[g];exact o,by rw[a6];rfl,by rw[g,t,C,I],by rw[g,t,a7,I];rfl,a1,fun L o r a8=>(by simp only[pv] at o;subst o;cases a8),fun k O _=>?_,fun k O _=>?_,fun k O _ i hi=>?_⟩
 ·rw[p.Dt _ _ ((by rw[l];exact(f _ _ _ _ _ O f3).2 G)),TJ,f3 k O,Ud (by rw[l];decide)]
  first|done|rfl
 ·rw[p.out _ _ (by rw[l];intro e;have:=(f _ _ _ _ _ O f3).1 e;omega),R.Dt _ _ (by rw[w2];exact(f _ _ _ _ _ O f2).2 G),TJ,f2 k O,g,Ud (by rw[w2];decide)];congr 1
 rw[g,t,p.out _ _ (by rw[l];intro e;have:=(f _ _ _ _ _ O f3).1 e;omega),R.out _ _ (by rw[w2];intro e;have:=(f _ _ _ _ _ O f2).1 e;omega)];by_cases c:i=0
 ·subst c;rw[J.Dt _ _ (by rw[w1];exact(f _ _ _ _ _ O f1).2 G),TJ,f1 k O,Ud (by rw[w1];decide)];rfl
 rw[J.out _ _ (by rw[w1];intro e;have:=(f _ _ _ _ _ O f1).1 e;omega),VT (by rw[C];omega)];have:=hf k (513+i) O G;rw[←uZ,←this];congr 1
theorem oi(h:AU [i,k] m=true):m=i∨m=k:=by
 have e:AU [i,k] m=(AU [i] m||AU [k] m):=by simp[AU]
 rw[e,Aa3] at h;exact h.imp Mm.1 Mm.1
theorem cY{c:Nat→Nat}{w:World}{c0:Nat}(g:EA X c w [i,c0])(w0:BE j h e c w)(hi:(Nat.blt 0 i&& !AU e i)=true:=by rfl)(f:(Nat.blt 0 c0&& !AU e c0)=true:=by rfl):EA X (back j h c) w [i,c0]:=HM.mono g fun k _ O=>by
 show AU [i,c0] (back j h c k)=true
 have:c k=i∨c k=c0:=oi O;rcases this with J|J
 ·rw[Oq w0 hi J];rw[J] at O;exact O
 ·rw[Oq w0 f J];rw[J] at O;exact O
theorem aaN{c:Nat→Nat}{w:World}(i:EA X c w [93,146,149])(w0:BE j h Dw c w):EA X (back j h c) w [93,146,149]:=HM.mono i fun k c0 O=>by
 show AU [93,146,149] (back j h c k)=true
 by_cases g:k<h.heap.size
 ·have f:=w0.BF k g;have e:c k≠0:=fun e=>by rw[e] at O;cases O
  unfold Bw at f;split at f
  ·rw[back,zm g,←f];exact O
  ·omega
 ·rw[back,ss g];exact O
theorem rp{f:List pq}(h:AJ c w 93 52 6 a f.length (f.flatMap MJ))(hs:gY c w [146,149] f)(hi:∀z∈f,Go.Eng.Int64 z.1.Ar∧Go.Eng.Int64 z.1.id∧z.1.name.length≤140737488355328∧z.1.AK.length≤140737488355328)(hl:f.length≤1048576):Bu FG c w [93,146,149] a (f.map (·.1)):=by
 have o:AJ c w 93 52 FG.size a (f.map (·.1)).length (f.map MJ).flatten:=by rw[kr,←Acj];exact h
 refine o.rd (by rw[kr];omega) (by rw[kr,kr]) (by rfl) fun k cs x O hx=>?_;rw[Aah] at hx O;obtain⟨z,l,rfl⟩:=Abm.1 O;rw[l] at hx;injection hx with hx;subst hx;have g:=Lx l;have p:=EA.more (K:=[93,146,149]) (hs.l z g) (by rfl);have r:=EA.more (K:=[93,146,149]) (hs.s z g) (by rfl);exact fun w' j i=>⟨z.2.1.v,z.2.2.v,Z,p w' j i,r w' j i,hi z g⟩
theorem oj{r:Rec}(h:FT r=true):Go.Eng.Int64 r.Ar∧Go.Eng.Int64 r.id∧r.name.length≤140737488355328∧r.AK.length≤140737488355328:=by
 obtain⟨i,g,hi,j,hd,_⟩:=(HZ r).1 h;rw[NY] at g;obtain⟨_,w2,f,_,_⟩:=g;simp only[KL,Aa1,Aay] at i;simp only[Fb,kg,pn] at hi;refine⟨⟨G,G⟩,⟨G,G⟩,?_,?_⟩
 ·rcases w2 with w2|w2
  ·have:=j w2;omega
  rw[w2];simp
 rcases f with f|f
 ·have:=hd f;omega
 rw[f];simp
theorem ol{r:Rec}(h:FT r=true):r.list.length≤1048576∧r.Bo.length≤1048576:=by
 obtain⟨_,f,_,_,_,hl,_,hs,_⟩:=(HZ r).1 h;rw[NY] at f;refine⟨G,?_⟩;rcases f.2.2.2.2 with w|w
 ·have:=hs w;omega
 rw[w];simp
def WJ(c:Nat→Nat)(w:World)(p pa:Nat)(j:Jl)(L:List Rec):Prop:=∃f vl cs,AI c w 91 p (Ig pa f vl j) 150∧AJ c w 92 3 1 f j.half.length (j.half.map I)∧AJ c w 93 52 6 vl j.num cs∧Bu FG c w [93,146,149] vl L
theorem WJ.kP{j:Jl}(h:WJ c w k m j P):Dz c w k m j:=by
 obtain⟨f,vl,cs,a,b,d,_⟩:=h;exact⟨f,vl,cs,a,b,d⟩
def MM(H:List Int)(d:Nat):List Int:=(H.take d).map (fun x=>1-x)++H.drop d
theorem Yn(H:List Int)(d:Nat):(MM H d).length=H.length:=by
 simp only[MM,ft,kr,kL,kK];omega
theorem jT(h:k<l.length):(MM l k)[k]'(by rw[Yn];exact h)=l[k]:=by
 have hl:((l.take k).map (fun x=>1-x)).length=k:=by simp;omega
 simp only[MM];rw[Afm G];simp only[hl,Acl,List.getElem_drop,Aeg]
theorem jU(h:k<l.length):(MM l k).set k (1-l[k])=MM l (k+1):=by
 have hl:((l.take k).map (fun x=>1-x)).length=k:=by simp;omega
 rw[MM,MM,Adm _ _ G,hl,Acl,pk h,Aaf,oo,Aav h];rfl
theorem jV(H:List Int):MM H H.length=H.map (fun x=>1-x):=by simp[MM]
theorem eY(h:∀x∈l,x=0∨x=1):∀x∈MM l k,x=0∨x=1:=fun x hx=>by
 rcases Aac.1 hx with hx|hx
 ·obtain⟨y,hy,rfl⟩:=Aag.1 hx;have:=h y (Aca hy);omega
 ·exact h x (Acy hx)
theorem cZ{u:Value}{L:List Rec}(h:Rd FG w u L)(k4:L.length≤100000)(hl:∀r∈L,r.list.length≤1048576∧r.Bo.length≤1048576):Calls QP 80 #[u] w (Bt fun v w'=>∃c',BE c w [] c' w'∧∃p:List pq,AJ c' w' 147 52 6 v p.length (p.flatMap MJ)∧gY c' w' [146,149] p∧p.map (·.1)=L):=by
 have hJ:=BE.start c w [];have t:Bu FG (Bw c []) w [0] u L:=Rd.Du h (fun k O=>rfl);clear h;generalize Bw c []=c0 at hJ t;refine AY 25 #[.tmp 2] func80 Z<|Q<|V Z<|Ag<|Ag ?_;have o:=Br c0 w 147 52 6;refine cg<|M Z<|E (BN GQ) ?_;refine M Z<|Ah<|An<|AG (σ:=Nat×Value) (fun R=>[(2,R.2),(5,u),(6,I L.length),(7,I R.1)]) (fun R w'=>R.1≤L.length∧∃c' p,BE c w [] c' w'∧Bu FG c' w' [0] u L∧AJ c' w' 147 52 6 R.2 p.length (p.flatMap MJ)∧gY c' w' [146,149] p∧p.map (·.1)=L.take R.1) (fun R=>L.length-R.1) (0,_) AL ⟨Nat.zero_le _,_,[],hJ,t,o,⟨fun z U=>by simp at U,fun z U=>by simp at U⟩,Z⟩ ?_;clear hJ t o;rintro⟨i,e0⟩ o3 ⟨hi,e5,p,hJ,t,o,C,b3⟩;dsimp only at hi o b3;have l1:p.length=i:=by rw[←List.length_map (f:=(·.1)),b3,List.length_take];omega
 have j5:=o.AD;have j6:=o.AA;refine Q<|E (AX Z Z)<|Ah<|Ag<|BA Z (fun h5=>?_) fun h5=>?_
 ·have b7:i<L.length:=G;obtain⟨cs,c7,J,h6⟩:=Vl t b7;have b0:=hl _ (mv b7);obtain⟨vl,vs,h7,b8,b9,_⟩:=J.AB;have c2:=b8.YE;have c3:=b9.YE
  have l2:=b8.AD;have l3:=b9.AD;have l4:=b8.AA;have l5:=b9.AA;subst h7;clear h6;refine As<|Ag<|An<|Q<|E (Cv GQ) ?_;refine E (DT Df Z c7.DF Z)<|EK e5 104 Kw fun w1 b4 c1 k5 Bd=>?_;refine Av (Am Df Z Z Bd Z Z Bg) ?_;rintro _ w2 ⟨Bd,k8⟩;refine Ah<|Ag<|WC.mono (N:=(fun e w'=>∃(c':Nat→Nat) (a7 a8:Value),Sub [(4000000, .tuple #[]),(2,e0),(4,P1 b4),(5,u),(6,I L.length),(7,I i)] e∧BE c w [] c' w'∧Bu FG c' w' [0] u L∧AJ c' w' 147 52 6 e0 p.length (p.flatMap MJ)∧gY c' w' [146,149] p∧AI c' w' 104 b4 [I L[i].Ar,I L[i].id,St L[i].name,St L[i].AK,a7,a8] 52∧Bu Cg c' w' [146] a7 L[i].list∧Bu Bx c' w' [149] a8 L[i].Bo∧a7.oneCell'=true∧a7.cells=#[a7]∧a8.oneCell'=true∧a8.cells=#[a8])) ?_ ?_
  ·refine EB c1 [104] [0,2,2,0,2,2,0,2,0,3] (.Au 0 (.Au 3 (.two 1 (.two 2 (.one 4 (.Au 6 (.one 5 (.one 7 (.Au 8 (.one 9 .nil)))))) 4 (.one 2 (.Au 6 (.one 5 (.one 7 (.Au 8 (.one 9 .nil))))))) 4 (.one 1 (.one 2 (.Au 6 (.one 5 (.one 7 (.Au 8 (.one 9 .nil)))))))))) fun n5 k9 l=>?_;refine Cd Z (Aa DE Z)<|Cd Z (Aa Gh Z)<|Ck ?_ ?_
   ·refine EM Z (Cs (Al BQ Z Bd.D.AE Z)) ?_;rintro _ _ ⟨rfl,rfl⟩;refine⟨id,?_⟩;refine Ck ?_ ?_
    ·refine EM Z (Ac c1 146 (Ab YN Z (GN (MD J.D.AB) b0.1))) ?_;rintro c8 n6 ⟨e2,h0,j1,g⟩;refine l.Bl h0 fun l=>?_;replace g:=g.Du j1;have a1:=g.AD;have b1:=g.AA;have b5:=Jg g G c2;refine EZ Z (Cs (Al CH Z Bd.D.AE Z)) ?_;rintro _ _ ⟨rfl,rfl⟩;refine⟨id,?_⟩;refine Cd Z (Aa DE Z)<|EZ Z (Ac e2 149 (Ab Tw Z (EX (KX J.D.AB) b0.2))) ?_;rintro c9 n7 ⟨k1,h1,j2,j⟩;refine l.Bl h1 fun l=>?_;replace j:=j.Du j2;have a6:=j.AD;have b2:=j.AA;have b6:=Jf j G c3;refine AV<|CY Z Z Z (Ap BQ Z Z ra ra Bd.D Z) ?_;rintro _ n8 ⟨Bd,h2⟩;refine l.Bl h2 fun l=>Cd Z (Aa Gh Z)<|AV<|Bj Z Z Z (Ap CH Z Z ra ra Bd Z) ?_;rintro _ n9 ⟨Bd,l0⟩;refine Bs ?_;exact⟨_,_,_,AL,hJ.D,t.D,o.D,C.D,Bd,b5.D,b6.D,a1,b1,a6,b2⟩
    refine EM Z (Cs (Al CH Z Bd.D.AE Z)) ?_;rintro _ _ ⟨rfl,rfl⟩;refine⟨id,?_⟩;refine EZ Z (Ac c1 146 (Ab YN Z (GN (MD J.D.AB) b0.1))) ?_;rintro c8 o0 ⟨e3,h3,j3,g⟩;refine l.Bl h3 fun l=>?_;replace g:=g.Du j3;have a1:=g.AD;have b1:=g.AA;have b5:=Jg g G c2;refine Cd Z (Aa DE Z)<|EZ Z (Ac e3 149 (Ab Tw Z (EX (KX J.D.AB) b0.2))) ?_;rintro c9 o1 ⟨k2,h4,j4,j⟩;refine l.Bl h4 fun l=>?_;replace j:=j.Du j4;have a6:=j.AD;have b2:=j.AA;have b6:=Jf j G c3;refine AV<|CY Z Z Z (Ap BQ Z Z ra ra Bd.D Z) ?_;rintro _ l7 ⟨Bd,e6⟩;refine l.Bl e6 fun l=>Cd Z (Aa Gh Z)<|AV<|Bj Z Z Z (Ap CH Z Z ra ra Bd Z) ?_;rintro _ l8 ⟨Bd,k6⟩;refine Bs ?_;exact⟨_,_,_,AL,hJ.D,t.D,o.D,C.D,Bd,b5.D,b6.D,a1,b1,a6,b2⟩
   refine EM Z (Cs (Al CH Z Bd.D.AE Z)) ?_;rintro _ _ ⟨rfl,rfl⟩;refine⟨id,?_⟩;refine EZ Z (Cs (Al BQ Z Bd.D.AE Z)) ?_;rintro _ _ ⟨rfl,rfl⟩;refine⟨id,?_⟩;refine EZ Z (Ac c1 146 (Ab YN Z (GN (MD J.D.AB) b0.1))) ?_;rintro c8 l9 ⟨e1,e7,h9,g⟩;refine l.Bl e7 fun l=>?_;replace g:=g.Du h9;have a1:=g.AD;have b1:=g.AA;have b5:=Jg g G c2;refine Cd Z (Aa DE Z)<|EZ Z (Ac e1 149 (Ab Tw Z (EX (KX J.D.AB) b0.2))) ?_;rintro c9 n0 ⟨j8,e8,j0,j⟩;refine l.Bl e8 fun l=>?_;replace j:=j.Du j0;have a6:=j.AD;have b2:=j.AA;have b6:=Jf j G c3;refine AV<|CY Z Z Z (Ap BQ Z Z ra ra Bd.D Z) ?_;rintro _ n1 ⟨Bd,e9⟩;refine l.Bl e9 fun l=>Cd Z (Aa Gh Z)<|AV<|Bj Z Z Z (Ap CH Z Z ra ra Bd Z) ?_;rintro _ n2 ⟨Bd,k7⟩;refine Bs ?_;exact⟨_,_,_,AL,hJ.D,t.D,o.D,C.D,Bd,b5.D,b6.D,a1,b1,a6,b2⟩
  clear hJ t o C Bd c7 J;rintro k3 o2 ⟨e4,a7,a8,h8,hJ,t,o,C,Bd,g,j,a1,b1,a6,b2⟩;refine DN h8<|cg<|M Z<|E (Ba Df Z Bd.AE Z)<|ve (AH e4 121 GQ Z Z Z Z Z) ?_;rintro _ n3 ⟨j7,j9,rfl,c4,c6⟩;refine ve (Ax GQ Z Z o.D (Aw underlying94 c6.AE.AT Z Bg) Fh Fg) ?_;rintro l6 n4 ⟨k0,c5,o⟩;clear c6;have j5:=o.AD;have j6:=o.AA;refine V Z<|cg<|E (Bc Z Z Ai Ai)<|M Z<|Ah ?_;refine⟨(i+1,_),AL,⟨by dsimp only;omega,_,p++[(L[i],⟨a7,a1⟩,⟨a8,a6⟩)],hJ.D,t.D,by rw[List.length_append,List.flatMap_append];exact o,⟨fun z U↦?_,fun z U↦?_⟩,by rw[List.map_append,b3,List.take_succ_eq_append_getElem b7];rfl⟩,by show L.length-(i+1)<L.length-i;omega⟩
  ·rcases Aac.1 U with h|h
   ·exact C.D.l z h
   replace g:=(g.D c4).D c5;rw[pv.1 h];exact EA.more g Z
  rcases Aac.1 U with h|h
  ·exact C.D.s z h
  replace j:=(j.D c4).D c5;rw[pv.1 h];exact j
 have e:i=L.length:=G;subst e;refine Az Z<|Q<|M Z<|V Z<|Af Z Z ?_;rw[Abi] at b3;exact⟨_,hJ,p,o,C,b3⟩
theorem om{L:List Rec}(h:Rd FG w a L)(j:L.length≤100000)(hl:∀r∈L,r.list.length≤1048576∧r.Bo.length≤1048576):Calls QP 80 #[a] w (Bt fun v w'=>∃c',Mv c w c' w' []∧∃f:List pq,AJ c' w' 147 52 6 v f.length (f.flatMap MJ)∧gY c' w' [146,149] f∧f.map (·.1)=L):=
 (cZ (c:=c) h j hl).mono fun e w' o=>by
  obtain⟨v,rfl,c',hJ,f,p,i,l⟩:=o;exact⟨v,Z,_,hJ.out,f,p.EO hJ,⟨fun z g=>cY (i.l z g) hJ,fun z g=>(i.s z g).EO hJ⟩,l⟩
theorem oq(h:Rd FG w y P)(l:P.length≤100000)(hl:∀r∈P,r.list.length≤1048576∧r.Bo.length≤1048576):Calls QP 80 #[y] w (Bt fun v w'=>∃c',Mv c w c' w' []∧∃f:List pq,AJ c' w' 93 52 6 v f.length (f.flatMap MJ)∧gY c' w' [146,149] f∧f.map (·.1)=P):=
 (cZ (c:=c) h l hl).mono fun e w' p=>by
  obtain⟨v,rfl,c',hJ,f,t,j,o⟩:=p;have g:=hJ.Bq (a:=147) (b:=93);have C:=t.Ma (b:=93);exact⟨v,Z,_,g.out,f,C.EO g,⟨fun z i=>cY (EA.Bq (j.l z i)) g,fun z i=>(EA.Bq (j.s z i)).EO g⟩,o⟩
theorem VU{j:Jl}{u:Value}{L:List Rec}{K:List Nat}(J:Dz c w k i j)(pa:BW c w i F)(b5:Ta n j)(c5:0<n∧n≤12)(c4:1024≤m∧m≤2048)(hp:GR n m F)(hc:F.BC≤900000000)(hl:life≤4000000000000000000)(h:Bu FG c w K u L)(hK:BB K Dw=true)(b6:∀r∈L,FT r=true)(e3:24+EL L≤32704):
 Calls QP 78 #[P1 k,I life,u] w (Bt fun v w'=>∃c',Mv c w c' w' Dw∧∃A1 A2 l,BW c' w' i A2∧WJ c' w' k i l L∧HP n m 12312 F A2∧Jj (RU j true 1) (FA life 0 (Gf 0 L)) (CR (fun p:Nat=>BG F p) n) 0 0 F A1∧Jj (RU j true 0) (HS life) (CR (fun p:Nat=>BG F p) n) 0 0 A1 A2∧Ta n l∧l=⟨life,1,24+EL L,EL L,(FA life 0 (Gf 0 L)).drop ((24+EL L)/64*64),j.half.map (fun x=>1-x),j.failed,L.length⟩∧v=I 0):=by
 have hJ:=BE.start c w Dw;replace J:=J.Dt (K:=Dw);replace pa:=pa.Mz (K:=Dw);have hC:=h.Zy hK;have f:=ep L;have f:=hC.AB.AD;generalize Bw c Dw=c0 at hJ J pa hC;refine AY 82 #[.tmp 6] func78 Z<|Q<|V Z<|Q<|M Z<|M Z<|ve (Ac c0 1 (Ab lB Z (PY hC.AB b6 G))) ?_;rintro f w1 ⟨c1,C,f,rfl⟩;refine ve (Ac c1 1 (Ab so Z (VR (life:=life) (n:=0) (s:=Gf 0 L) G G (by rw[Gr];omega)))) ?_;rintro f w2 ⟨c2,U,f,rfl⟩;refine V Z<|Ag<|Ag ?_;obtain⟨t,f⟩:∃t,t=FA life 0 (Gf 0 L):=⟨_,Z⟩;have ht:t.length=24+EL L:=by rw[f,JK,Gr]
 rw[←f];refine cg<|M Z<|M Z<|ve (Ab fP Z (RM (oth:=true) (at_:=1) (b:=t) J.D pa.D b5 c5 c4 hp G G)) ?_;rintro f f ⟨o,a1,⟨A1,pa,a6,e0,rfl⟩⟩;refine V Z<|Q<|M Z<|E (BK Z Z)<|Ah<|Cz Z (fun f=>?_) fun f=>?_
 ·exact absurd f AO
 refine As<|Ag<|Q<|M Z<|M Z<|ve (Ac o 1 (Ab lC Z (Yl (life:=life) G))) ?_;rintro f f ⟨f,o,f,rfl⟩;have f:=Qe life;refine ve (Ab fP Z (RM (oth:=true) (at_:=0) (b:=HS life) J.D pa.D b5 c5 c4 a6.pw (by have:=a6.Mt;omega) G)) ?_;rintro f f ⟨f,a7,⟨A2,pa,c9,b9,rfl⟩⟩;rw[show(fun p:Nat=>BG A1 p)=(fun p:Nat=>BG F p) from funext fun p=>a6.liveQ p] at b9;refine V Z<|Q<|M Z<|E (BK Z Z)<|Ah<|Cz Z (fun f=>?_) fun f=>?_
 ·exact absurd f AO
 refine As<|Ag<|Ag ?_;obtain⟨f,vl,cs,f,hh,R⟩:=(((((J.D C).D U).D a1).D o).D a7);have o:=b5.half;have a7:=b5.each;have C:=hh.AD;have C:=hh.AA;have c3:j.half.length=n:=o;rw[o] at hh;obtain⟨g,cp,rfl,o,o⟩:=hh.CT G;refine cg<|M Z<|E (Ak Z)<|E (Aa Le Z)<|E (Al BQ Z f.AE Z)<|E (BN BM) ?_;refine M Z<|Ah<|An<|AG (σ:=Nat) (fun o=>[(0,P1 k),(1,I life),(2,u),(7,St t),(32,I n),(33,I o)]) (fun o w'=>o≤n∧∃c',BE c w Dw c' w'∧BW c' w' i A2∧Bu FG c' w' [0] u L∧AI c' w' 91 k (Ig i (.slice (some ⟨g,0,none⟩) n cp) vl j) 150∧AJ c' w' 92 3 1 (.slice (some ⟨g,0,none⟩) n cp) n ((MM j.half o).map I)∧AJ c' w' 93 52 6 vl j.num cs) (fun o=>n-o) 0 AL ⟨Wm _,_,hJ.D,pa,hC.D,f,hh,R⟩ ?_;rintro d o ⟨hd,U,hJ,pa,hC,f,hh,R⟩;obtain⟨H,C⟩:∃H,H=MM j.half d:=⟨_,Z⟩;have a1:H.length=n:=by rw[C,Yn];exact c3
 have b8:∀x∈H,x=0∨x=1:=by rw[C];exact eY a7
 rw[←C] at hh;refine Q<|E (AX Z Z)<|Ah<|Ag<|BA Z (fun o=>?_) fun o=>?_
 ·have a8:d<H.length:=G;have o:=hh;rw[←a1] at o;have a7:=o.XF a8;obtain⟨y,hy⟩:∃y,y=H[d]:=⟨_,Z⟩;have b0:y=j.half[d]:=by rw[hy];simp only[C];exact jT G
  have o:=b8 _ (mv a8);rw[←hy] at a7 o;rw[a1] at a7;refine As<|Ag<|An<|Q<|M Z<|V Z<|AM U [] [0,0,0,1,0,0,0,0,1,0,0,1,0,0,3] [0,1,2,3,4,5,6,7,8,9,10,11,12,13,14] fun o o o=>?_;refine Bm Z Z<|AN Z (Ak Z)<|AN Z (Aa Le Z)<|vc Z o.kp (f.D.kb BQ Z Z)<|Bm Z Z<|Bm Z Z<|AN Z (Ak Z)<|AN Z (Aa Le Z)<|vc Z o.kp (f.D.kb BQ Z Z)<|Bm Z Z<|AN Z (BS BM hh.D Z Z G G)<|vc Z o.kp (a7.D.ke AF Z)<|AN Z (Gu Z Z Ai Ai)<|AN Z (BS BM hh.D Z Z G G) ?_;refine LG Z ((Dv (j:=d) (x:= .tmp 49) (y:= .tmp 48) (u:=I (1-y)) AF hh.D Z G (by rw[show(⟨g,d,none⟩:Addr)=Bz (.slice (some ⟨g,0,none⟩) n cp) 1 (d:Int).toNat by simp[Bz,add_lit]];rfl) Z Z Z)) ?_;rintro _ a7 ⟨a7,a7,hh⟩;rw[←Ab0,C,b0,jU G] at hh;refine AP ?_;refine cg<|E (Bc Z Z Ai Ai)<|M Z<|Ah ?_;exact⟨d+1,AL,⟨G,_,hJ.D,pa.D,hC.D,f.D,hh,R.D⟩,G⟩
 have c7:d=n:=G;refine Az Z<|Ag<|AM U [] [0,0,0,0,0,0,0,0,0,0,0,0,0,0,3,0,0,3,0,0,3,0,0,3] [0,1,2,3,4,5,6,7,8,9,10,11,12,13,14,15,16,17,18,19,20,21,22,23] fun R b3 o=>?_;refine Bm Z Z<|Bm Z Z<|Bm Z Z<|Bm Z Z<|Bm Z Z<|Bm Z Z<|AN Z (Ey underlying9 Z)<|Bm Z Z<|Bm Z Z<|AN Z (Ey underlying9 Z)<|AN Z (bG Z Z G)<|AN Z (GB underlying9 Z Z Ai Ai)<|AN Z (Ak Z)<|AN Z (Aa aw Z) ?_;refine LG Z (Ap AF Z Z ra ra f.D Z) ?_;rintro _ R ⟨f,b4⟩;refine AN Z (Ak Z)<|AN Z (Aa QD Z)<|LG Z (Ap AF Z Z ra ra f Z) ?_;rintro _ R ⟨f,a7⟩;refine AN Z (Ak Z)<|AN Z (Aa NP Z)<|LG Z (Ap AF Z Z ra ra f Z) ?_;rintro _ R ⟨f,a8⟩;refine AN Z (Ak Z)<|AN Z (Aa QG Z)<|LG Z (Ap CQ Z Z ra ra f Z) ?_;rintro _ R ⟨f,b0⟩;refine AP ?_;refine Q<|M Z<|M Z<|E (Ey underlying9 Z)<|E (Gu Z Z G G) ?_;rw[show(t.length:Int)-24=((EL L:Nat):Int) by omega];refine E (Ak Z)<|E (Aa QE Z)<|Av (Ap AF Z Z ra ra f Z) ?_;rintro _ o ⟨f,b1⟩;refine Ah<|Q<|M Z<|M Z<|ve (Ab tY Z (oq (c:=U) hC.D.AB G (fun r o↦ol (b6 r o)))) ?_;rintro e2 o ⟨o,b2,⟨b7,o,U,R⟩⟩;have e1:b7.length=L.length:=by rw[←R,kr]
 have c6:=rp o U (fun z U↦oj (b6 _ (by rw[←R];exact Aag.2 ⟨z,U,Z⟩))) G;rw[R] at c6;have R:=o.AD;have R:=o.AA;refine E (Ak Z)<|E (Aa QH Z)<|Av (Ap Hm Z Z ra ra f.D Z) ?_;rintro _ R ⟨f,R⟩;refine Ah<|Q<|V Z<|Af Z Z ?_;obtain⟨l,U⟩:∃l:Jl,l=⟨life,1,t.length,EL L,t.drop (t.length/64*64),H,j.failed,L.length⟩:=⟨_,Z⟩;have c8:H=j.half.map (fun x=>1-x):=by rw[C,c7,←c3,jV]
 refine⟨_,hJ.D.out,A1,A2,l,BW.Ih pa.D hJ.D,?_,(a6.tr c9).more G,e0,b9,?_,by rw[U,ht,c8],Z⟩
 ·refine⟨.slice (some ⟨g,0,none⟩) n cp,e2,b7.flatMap MJ,by rw[U];exact f.out ((((((((hJ.D b3).D b4).D a7).D a8).D b0).D b1).D b2).D R) Z,?_,?_,?_⟩
  ·replace hJ:=(((((((hJ.D b3).D b4).D a7).D a8).D b0).D b1).D b2).D R;replace hh:=(((((((hh.D b3).D b4).D a7).D a8).D b0).D b1).D b2).D R;rw[U];show AJ _ _ 92 3 1 _ H.length (H.map I);rw[a1];exact hh.out hJ Z
  ·replace hJ:=(((((((hJ.D b3).D b4).D a7).D a8).D b0).D b1).D b2).D R;replace o:=o.D R;rw[U];exact(o.out hJ Z).dz e1
  exact aaN c6.D hJ.D
 rw[U];exact⟨a1,b8,by show(t.drop (t.length/64*64)).length=t.length%64;rw[kK];omega,by show EL L≤t.length;omega,by show t.length≤32704;omega,by show 1≤t.length;omega,by show L.length≤t.length;omega,by show life≤_;omega⟩
def Pk(n:Nat)(A:CS):Prop:=n<2*(CR (fun k:Nat=>BG A k) n).length
theorem Pk.congr{B:CS}(h:Pk n F)(hl:∀k,BG B k=BG F k):Pk n B:=by
 unfold Pk at*;rw[show(fun k:Nat=>BG B k)=(fun k:Nat=>BG F k) from funext fun k=>hl k];exact h
theorem ot{A:CS}(f:BW c w k A)(U:0<n∧n≤12)(b9:1024≤m∧m≤2048)(hp:GR n m A)(hc:A.BC≤800000000)(hl:∀pa:Nat,pa<n→BG A pa=true)(c3:∀d s:Nat,d<n→s<1024→Bp A d s=(zT,0)):
 Calls QP 68 #[P1 k] w (Bt fun u w'=>∃c',Mv c w c' w' BX∧∃a1 p j,BW c' w' k a1∧Dz c' w' p k j∧HP n m 20000 A a1∧Ta n j∧j.used=24∧j.long=0∧j.failed=false∧j.life≤3000000000∧JX n (fun _=>true) a1 j [[]]∧u= .tuple #[P1 p,I 0]):=by
 have hJ:=BE.start c w BX;replace f:=f.Mz (K:=BX);generalize Bw c BX=c0 at hJ f;have c8:=hp.wf U G G;refine AY 62 #[.cell 2 90, .cell 3 44] func68 Z<|Q<|EK c0 102 YP fun w1 b2 c1 o r=>?_;refine EK c1 103 Uy fun w2 b3 c2 c7 AR=>Ah<|Ag<|Q<|M Z<|ve (Ac c2 1 (Ab wE Z (cb f.D))) ?_;rintro o o ⟨t,o,o,rfl⟩;rw[hp.sec];refine E (BL Z)<|Ah<|Cz Z (fun o=>?_) fun o=>?_
 ·exact absurd o (by simp;omega)
 refine As<|Ag<|Q<|M Z<|ve (Ac t 1 (Ab Ws Z (GZ f.D))) ?_;rintro o o ⟨o,o,o,rfl⟩;rw[hp.len];refine M Z<|Ah<|An<|AG (σ:=Nat) (fun i=>[(0,P1 k),(2,P1 b2),(3,P1 b3),(16,I n),(17,I i)]) (fun i w'=>i≤n∧∃c',BE c w BX c' w'∧BW c' w' k A∧AI c' w' 102 b2 [.pointer none] 90∧AI c' w' 103 b3 [I 0] 44) (fun i=>n-i) 0 AL ⟨Wm _,_,hJ.D,f.D,r.D,AR.D⟩ ?_;rintro i o ⟨hi,o,hJ,f,r,AR⟩;refine Q<|E (AX Z Z)<|Ah<|Ag<|BA Z (fun t=>?_) fun t=>?_
 ·have t:i<n:=G;refine As<|Ag<|An<|Q<|M Z<|V Z<|Q<|M Z<|M Z<|ve (Ac o 1 (Ab pI Z (Rh (d:=((i:Nat):Int)) f))) ?_;rintro C C ⟨C,C,C,rfl⟩;rw[hl i t];refine E (BL Z)<|Ah<|Cz Z (fun t=>?_) fun t=>?_
  ·exact absurd t AO
  refine As<|cg<|E (Bc Z Z Ai Ai)<|M Z<|Ah ?_;exact⟨i+1,AL,⟨G,_,hJ.D,f.D,r.D,AR.D⟩,G⟩
 refine Az Z<|Q<|M Z<|M Z<|ve (Ac o 1 (Ab Ws Z (GZ f))) ?_;rintro o o ⟨o,t,t,rfl⟩;rw[hp.len];refine ve (GD o 92 BM Z Z Ai Ai Ai) ?_;rintro o o ⟨t,o,o⟩;rw[yV,TJ] at o;obtain⟨g,cp,rfl,C,C⟩:=o.CT G;refine E (By (cells:=#[P1 k,I 0,I 0,I 0,I 0,St [], .slice (some ⟨g,0,none⟩) n cp, .slice none 0 0, .bool false]) Z Ao) ?_;refine Fa t 91 fun t J t b4 a6=>?_;refine EK t 105 YP fun t b5 t b0 Bv=>Av (Ap Gx Z Z ra ra Bv Z) ?_;rintro _ C ⟨Bv,R⟩;refine Ah<|Q<|EK t 106 QN fun t b6 b1 a7 C=>?_;refine Av (Ap AF Z Z ra ra C Z) ?_;rintro _ t ⟨C,a8⟩;refine Ah<|Ag<|Ag ?_;have t:Dz _ _ J k (ca n):=⟨_, .slice none 0 0,[],((((a6.D b0).D R).D a7).D a8),by show AJ _ _ _ _ _ _ (replicate n (0:Int)).length _;rw[Iz];exact(((((o.D b4).D b0).D R).D a7).D a8),Br _ _ _ _ _⟩;refine cg<|E (Al Gx Z Bv.D.AE Z)<|ve (Ac b1 76 (Ab pL Z (OT))) ?_;rintro o o ⟨o,b0,b1,⟨o,rfl,a8,R⟩⟩;have a7:AI _ _ 76 o [P1 J] 90:=⟨R,b1 _ a8⟩;obtain⟨lv,c9⟩:∃lv:Nat→Bool,lv=fun pa:Nat=>BG A pa:=⟨_,Z⟩;obtain⟨o,o,o,a8,_⟩:=id (t.D b0);refine Ah<|An<|Hu (α:=Nat) (encs:=fun pa:Nat=>[I pa]) (κ:=[]) (F:=[76,91]) (Φ:=bF k n lv) (Qjq:=fun pre x _ _=>pre++[x]<+:CR lv n) (Fin:=fun L=>L=CR lv n)
  (fun pre d B=>BE c w BX d B∧Dz d B J k (ca n)∧BW d B k A∧AI d B 102 b2 [.pointer none] 90∧AI d B 103 b3 [I 0] 44∧AI d B 105 b5 [P1 J] 90∧AI d B 106 b6 [I 0] 3) [] (fun _ _ _=>False) [106,108] Z Z fQ (Nj a7 a8 U.2) Z (fun _=>rfl) Bb Z
  (fun s d A c6 B ⟨b0,b1,o,b4,b7,c4,c5⟩ m=>⟨b0.D m,b1.D m,o.D m,b4.D m,b7.D m,c4.D m,c5.D m⟩) (fun p hp=>by simp at hp) (fun s d A c6 B h _=>h.elim)
  (fun s d B ⟨b0,b1,o,_⟩=>⟨A,o,hp.len,fun pa=>by rw[c9]⟩) ⟨hJ.D,t.D,f.D,r.D,AR.D,Bv.D,C.D⟩ ?_ ?_ ?_ ?_
 ·clear hJ t f r AR Bv C a7 R a8;rintro l pre pa d B ⟨hJ,t,f,r,AR,Bv,C⟩ b0;have hK:=Acc.refl d B [106,108];have o:pa∈CR lv n:=b0.subset Bb;rw[MA] at o;refine cg<|V Z<|⟨_,hK,?_⟩;intro A2 c7;have hK:=Acc.refl d A2 [106,108];refine An<|Q<|E (Al Gx Z Bv.D.AE Z)<|M Z ?_;refine ve (Ac d 1 (Ab wF Z (XL (d:=((pa:Nat):Int)) t.D f.D c8 (fun i hi↦by obtain⟨q,rfl⟩:∃q:Nat,i=q:=⟨i.toNat,G⟩;exact c3 pa (512*q) o.1 G)))) ?_;rintro o o ⟨o,b0,b0,rfl⟩;refine M Z<|E (Aq Z Z)<|E (Aq Z Z)<|EK o 108 LM fun o b8 o o o=>?_;refine Av (Am GG Z Z o Z Z Bg) ?_;rintro _ b0 ⟨o,b0⟩;refine V Z<|Ag<|Q<|M Z<|E (BK Z Z)<|Ah<|Cz Z (fun b0=>?_) fun b0=>?_
  ·exact absurd b0 AO
  refine As<|cg<|E (Al AF Z C.D.AE Z)<|E (Aa Gm Z)<|E (Al AF Z o.AE Z)<|E (qw Z Z)<|Av (Ap AF Z Z ra ra C.D Z) ?_;rintro _ o ⟨C,o⟩;refine Ah ?_;exact⟨_,hK.D,hJ.D,t.D,f.D,r.D,AR.D,Bv.D,C⟩
 ·clear hJ t f r AR Bv C a7 R a8;rintro L Djq d B hF ⟨hJ,t,f,r,AR,Bv,C⟩ c5;refine Ag<|Ag<|AM d Dw [1,1,1,2,2,0] [0,1,2,3,4,5] fun o c6 o=>?_;have c7:=r;have a6:=AR;have a7:=Bv;have b7:=C;refine vc Z o.kp (a7.D.kb Gx Z Z)<|vc Z o.kp (a7.D.kb Gx Z Z)<|vc Z o.kp (b7.D.kb AF Z Z)<|Db Z (Ac d 1 (Ab wH Z (bY (life:=0) t.D f.D G G))) ?_;rintro C C ⟨C,b1,C,⟨life,C,C,rfl⟩⟩;refine o.Bl b1 fun o=>Db Z (Ab wG Z (VU (life:=life) (L:=[]) (K:=[]) t.D f.D (qI n) U b9 hp G G (fun w' _ _↦FC.nil FG _ _) Z Bb (by simp[EL]))) ?_;rintro C C ⟨b0,b4,⟨C,A1,a8,f,c8,R,e0,e1,c4,C,rfl⟩⟩;refine o.Bl b4 fun o=>?_;have t:=c8.kP;refine Ir Z Z<|AP ?_;refine Q<|M Z<|E (BK Z Z)<|Ah<|Cz Z (fun a6=>?_) fun a6=>?_
  ·exact absurd a6 AO
  refine As<|Ag<|Ag<|AM b0 BX [1,2,2,0] [0,1,2,3] fun a6 c7 o=>?_;refine vc Z o.kp (Bv.D.kb Gx Z Z)<|Db Z (Ac b0 1 (Ab pK Z (Nd (s:=[0]) (n:=64) Bb G))) ?_;rintro a6 a6 ⟨a6,a6,a7,rfl⟩;refine o.Bl a6 fun o=>?_;refine Db Z (Ab fP Z (RM (oth:=true) (at_:=0) (b:=Go.Lib.repeatL [0] 64) t.D f.D c4 U b9 R.pw (by have:=R.Mt;omega) (by rw[Nk,Iz];omega))) ?_;rintro a7 a7 ⟨a7,a7,⟨A2,f,b7,b0,rfl⟩⟩;refine o.Bl a7 fun o=>Ir Z Z<|AP ?_;refine Q<|M Z<|E (BK Z Z)<|Ah<|Cz Z (fun o=>?_) fun o=>?_
  ·exact absurd o AO
  refine As<|Q<|E (Al Gx Z Bv.D.AE Z)<|Av (Ap Gx Z Z ra ra r.D Z) ?_;rintro _ o ⟨r,o⟩;refine Av (Ap KF Z Z ra ra AR.D Z) ?_;rintro _ c8 ⟨AR,c8⟩;refine Ah ?_;obtain⟨c9,e2⟩:=((((((((c5.D c6).D b1).D b4).D c7).D a6).D a7).D o).D c8).take;refine Jx Z Z c9 (IR Gx Z r.D.AE Z) (IR KF Z AR.D.AE Z) ?_;rw[Nk,show(fun pa:Nat=>BG A1 pa)=(fun pa:Nat=>BG A pa) from funext fun pa=>R.liveQ pa] at b0;have o:EL []=0:=rfl;have b1:∀pa,pa<n→(ca n).half.getD pa 0=0:=fun pa O=>by show(replicate n (0:Int)).getD pa 0=0;simp[hk,O]
  have b4:∀pa,pa<n→a8.half.getD pa 0=1:=fun pa O=>by rw[C];show((replicate n (0:Int)).map (fun x=>1-x)).getD pa 0=1;simp[hk,O]
  have a7:=JX.new (j:=ca n) (j1:=a8) (n:=n) (lv:=fun pa:Nat=>BG A pa) (life:=life) (fun pa s r a6=>c3 pa s r a6) b1 b4 hl ⟨G,G⟩ e0 e1 b0 (by rw[C]) (by rw[C]) (by rw[C,o]) (by rw[C,o];rfl);exact⟨_,hJ.D.out,A2,J,a8,BW.Ih f.D hJ.D,t.D.EO hJ.D,(R.tr b7).more G,c4,by rw[C,o],by rw[C,o],by rw[C];rfl,by rw[C];show life≤_;omega,a7.keep (fun pa O _=>hl pa O) (fun _ _ _ _ _ _=>rfl),Z⟩
 ·intro p hp;simp at hp
 exact fun _ _ _ _ h=>h.elim
theorem ou{j:Jl}{A:CS}(f:Dz c w k m j)(g:BW c w m A)(R:A.d.length=n∧n≤12):Calls QP 252 #[P1 k] w (Bt fun u w'=>AZ w w'∧∃b:Bool,u= .bool b∧(Pk n A→b=false)):=by
 have i:=DD.start c w Dw;replace f:=f.Dt (K:=Dw);replace g:=g.Mz (K:=Dw);generalize Bw c Dw=c0 at i f g;refine AY 17 #[.tmp 2] func252 Z<|Q<|V Z<|Q<|EK c0 103 QN fun w1 b3 c1 r AR=>?_;refine Av (Ap AF Z Z ra ra AR Z) ?_;rintro _ w2 ⟨AR,a1⟩;refine Ah<|Ag<|Q<|M Z<|ve (Ac c1 76 (Ab pL Z (OT))) ?_;rintro o o ⟨o,U,a6,⟨o,rfl,J,t⟩⟩;have C:AI _ _ 76 o [P1 k] 90:=⟨t,a6 _ J⟩;obtain⟨lv,a6⟩:∃lv:Nat→Bool,lv=fun p:Nat=>BG A p:=⟨_,Z⟩;obtain⟨b1,b2,a8,J,_⟩:=id (((f.D r).D a1).D U);refine Ah<|An<|Hu (α:=Nat) (encs:=fun p:Nat=>[I p]) (κ:=[]) (F:=[76,91]) (Φ:=bF m n lv) (Qjq:=fun pre x _ _=>pre++[x]<+:CR lv n) (Fin:=fun L=>L=CR lv n)
  (fun pre d B=>DD c w Dw d B∧Dz d B k m j∧BW d B m A∧AI d B 103 b3 [I (pre.length:Nat)] 3) [] (fun _ _ _=>False) [103] Z Z fQ (Nj C J R.2) Z (fun _=>rfl) Bb Z
  (fun s d A b0 B ⟨r,U,o,a7⟩ pa=>⟨r.D pa,U.D pa,o.D pa,a7.D pa⟩) (fun k hp=>by simp at hp) (fun s d A b0 B h _=>h.elim)
  (fun s d B ⟨r,U,o,_⟩=>⟨A,o,R.1,fun p=>by rw[a6]⟩) ⟨i.D,f.D,g.D,AR.D⟩ ?_ ?_ ?_ ?_
 ·clear i f g AR C t J;rintro l pre p d B ⟨i,f,g,AR⟩ o;have hK:=Acc.refl d B [103];have r:pre.length+1≤12:=by
   have r:=o.length_le;rw[ft,Abt] at r;have o:(CR lv n).length≤n:=by have:=Aa0 lv (List.range n);rwa [Aap] at this
   omega
  refine As<|⟨_,hK,?_⟩;intro A2 a1;have hK:=Acc.refl d A2 [103];refine An<|cg<|E (Al AF Z AR.D.AE Z)<|E (Bc Z Z Ai Ai) ?_;refine Av (Ap AF Z Z ra ra AR.D Z) ?_;rintro _ o ⟨AR,o⟩;refine Ah ?_;exact⟨_,hK.D,i.D,f.D,g.D,by rw[ft];exact AR⟩
 ·clear i f g AR C t J;rintro L Djq d B hF ⟨i,f,g,AR⟩ C;have J:Pk n A→n<2*L.length:=fun hl=>by
   rw[hF,a6];exact hl
  have o:L.length≤12:=by
   rw[hF];have:=Aa0 lv (List.range n);rw[Aap] at this;rw[CR];omega
  obtain⟨b1,b2,a8,t,_⟩:=id f;refine Ag<|AM d [] [1,0,0,0,0,1,2,0,0] [0,1,2,3,4,5,6,7,8] fun o U o=>?_;refine vc Z o.kp (AR.D.kb AF Z Z)<|AN Z (HK Z Z Ai Ai)<|Bm Z Z<|AN Z (Ak Z)<|AN Z (Aa IV Z)<|vc Z o.kp (t.D.kb LK Z Z) ?_;refine Db Z (Ac d 1 (Ab Ws Z (GZ g.D))) ?_;rintro t t ⟨t,t,a1,rfl⟩;refine o.Bl t fun o=>AN Z (Gw Z Z)<|Ir Z Z<|AP ?_;obtain⟨o,a1⟩:=((C.D U).D t).take;refine GF Z Z o (FD.tmp Z) ?_;exact⟨i.D.below,_,Z,fun r=>by have:=J r;have:=R.1;exact Ae9 G⟩
 ·intro k hp;simp at hp
 exact fun _ _ _ _ h=>h.elim
theorem eZ{j:Jl}{room:Int}{K:List Nat}(R:Dz c w k m j)(f:BW c w m F)(a8:F.d.length=n∧n≤12)(h:Bu FG c w K a P)(hK:BB K Dw=true)(b0:1≤P.length∧P.length≤2000)(a1:∀r∈P,FT r=true)(a6:EL P≤1000000):
 Calls QP 181 #[P1 k,a,I 1,I room] w (Bt fun v w'=>∃c',Mv c w c' w' Dw∧∃(e:Int) (b:Bool),Dz c' w' k m {j with failed:=b}∧BW c' w' m F∧v=I e∧(e=0→b=false∧j.failed=false)∧(Pk n F→j.failed=false→(EL P:Int)≤room→e=0)∧((EL P:Int)≤room→e≠5)):=by
 have hJ:=BE.start c w Dw;replace R:=R.Dt (K:=Dw);replace f:=f.Mz (K:=Dw);have hC:=h.Zy hK;have g:=h.AB.small;generalize Bw c Dw=c0 at hJ R f hC;refine AY 39 #[.tmp 8] func181 Z<|Q<|V Z<|Ag<|Q<|M Z<|E (BN GQ) ?_;refine M Z<|E (AX Z Z)<|M Z ?_;apply AW false 3 _ CK
 ·intro g;refine wo<|M Z<|wo<|E (BN GQ) ?_;refine wo<|E (CM Z Z) ?_;exact EQ 3
 refine M Z ?_;apply BU c0 false 2 false CK
 ·intro g g;refine wo<|M Z<|wo<|ve (Ac c0 1 (Ab yg Z (qK hC.AB a1))) ?_;rintro v20 w1 ⟨c1,i,i,rfl⟩;exact BV 2 g.D
 intro w2 c2 C;refine Ah<|Cz Z (fun g=>?_) fun g=>?_
 ·exact absurd g (by simp;omega)
 obtain⟨l,vl,cs,g,hh,i⟩:=(R.D C);refine As<|Ag<|An<|Q<|M Z<|E (Ak Z)<|E (Aa NQ Z)<|E (Al IW Z g.AE Z)<|V Z<|BA Z (fun U=>?_) fun U=>?_
 ·refine Q<|V Z<|Af Z Z ?_;exact⟨_,hJ.D.out,10,j.failed,⟨l,vl,cs,g.out hJ.D Z,hh.out hJ.D Z,i.out hJ.D Z⟩,BW.Ih f.D hJ.D,Z,fun e=>(by cases e),fun _ h _=>(by simp[h] at U),fun _=>by decide⟩
 refine Q<|M Z<|ve (Ac c2 1 (Ab lB Z (PY hC.D.AB a1 a6))) ?_;rintro o o ⟨t,o,J,rfl⟩;refine E (Ey underlying9 Z)<|M Z<|E (CM Z Z)<|V Z<|BA Z (fun J=>?_) fun J=>?_
 ·refine Q<|V Z<|Af Z Z ?_;exact⟨_,hJ.D.out,5,j.failed,⟨l,vl,cs,g.D.out hJ.D Z,hh.D.out hJ.D Z,i.D.out hJ.D Z⟩,BW.Ih f.D hJ.D,Z,fun e=>(by cases e),fun _ _ h=>(by have J:=Gr P 0;omega),fun h=>by have J:=Gr P 0;omega⟩
 refine Q<|M Z<|ve (Ac t 1 (Ab yi Z (ou ⟨l,vl,cs,g.D,hh.D,i.D⟩ f.D a8))) ?_;rintro t t ⟨t,t,J,⟨b,rfl,a7⟩⟩;refine V Z<|BA Z (fun J=>?_) fun J=>?_
 ·refine Q<|M Z<|E (Ak Z)<|E (Aa NQ Z)<|Av (Ap IW Z Z ra ra g.D Z) ?_;rintro _ J ⟨g,J⟩;refine Ah<|Q<|V Z<|Af Z Z ?_;replace hJ:=(((hJ.D C).D o).D t).D J;replace f:=(((f.D C).D o).D t).D J;replace hh:=((hh.D o).D t).D J;replace i:=((i.D o).D t).D J;exact⟨_,hJ.out,6,true,⟨l,vl,cs,g.out hJ Z,hh.out hJ Z,i.out hJ Z⟩,BW.Ih f hJ,Z,fun e=>(by cases e),fun J _ _=>(by have:=a7 J;simp_all),fun _=>by decide⟩
 refine As<|Q<|V Z<|Af Z Z ?_;have hf:j.failed=false:=by simpa using U
 exact⟨_,hJ.D.out,0,false,⟨l,vl,cs,by rw[show Ig m l vl {j with failed:=false}=Ig m l vl j by rw[←hf]];exact((g.D o).D t).out (((hJ.D C).D o).D t) Z,hh.D.out hJ.D Z,i.D.out hJ.D Z⟩,BW.Ih f.D hJ.D,Z,fun _=>⟨Z,hf⟩,fun _ _ _=>rfl,fun _=>by decide⟩
theorem ov{j:Jl}{L:List Rec}{K:List Nat}(C:Dz c w k i j)(R:BW c w i F)(U:Ta n j)(e9:0<n∧n≤12)(h9:1024≤m∧m≤2048)(hp:GR n m F)(hc:F.BC≤900000000)
 (h:Bu FG c w K a L)(hK:BB K Dw=true)(h2:1≤L.length∧L.length≤2000)(b8:∀r∈L,FT r=true)(hl:∀r∈L,r.list.length≤1048576∧r.Bo.length≤1048576)(j2:j.used+24+EL L≤32704):
 Calls QP 108 #[P1 k,a] w (Bt fun v w'=>∃c',Mv c w c' w' Dw∧∃b2 a7 e,BW c' w' i b2∧Dz c' w' k i a7∧HP n m 6156 F b2∧Ta n a7∧a7.used≤j.used+24+EL L∧v=I e∧(Pk n F→j.failed=false→e=0∧a7.failed=false)∧e≠5∧a7.life=j.life∧(e=0→∀b3 hav,JX n hav F j b3→(∀p,p<n→hav p=true→BG F p=true)→JX n hav b2 a7 (b3++[L]))):=by
 have hJ:=BE.start c w Dw;replace C:=C.Dt (K:=Dw);replace R:=R.Mz (K:=Dw);have hC:=h.Zy hK;have a8:=U.long;have b6:=U.half;have b5:=U.each;have b0:=U.tail;have o:=U.Ew;have a6:=U.num;have a1:=U.life;generalize Bw c Dw=c0 at hJ C R hC;refine AY 123 #[.tmp 4] func108 Z<|Q<|V Z<|Ag<|Q<|M Z<|M Z<|M Z<|ve (Ac c0 1 (Ab xE Z (mU C G))) ?_;rintro f w1 ⟨c1,c9,f,rfl⟩;refine ve (Ab xD Z (eZ C.D R.D ⟨hp.len,e9.2⟩ hC.D Z h2 b8 G)) ?_;rintro f w2 ⟨c2,e4,⟨f,l,C,R,rfl,J,b4,b1⟩⟩;refine V Z<|Q<|M Z<|E (BK Z Z)<|Ah<|BA Z (fun pa=>?_) fun pa=>?_
 ·refine Q<|M Z<|V Z<|Af Z Z ?_;replace hJ:=(hJ.D c9).D e4;exact⟨_,hJ.out,F,{j with failed:=l},f,BW.Ih R hJ,Dz.uI C hJ,(HP.refl hp).more G,⟨b6,b5,b0,a8,U.used,o,a6,a1⟩,by show j.used≤_;omega,Z,fun c7 c8=>absurd (b4 c7 c8 G) (by simp_all),b1 G,Z,fun f=>absurd f (by simp_all)⟩
 have e2:l=false:=(J G).1;refine As<|Q<|M Z<|ve (Ac c2 1 (Ab lB Z (PY hC.D.AB b8 G))) ?_;rintro f f ⟨J,e5,f,rfl⟩;refine V Z<|Ag<|Ag ?_;obtain⟨s,hs⟩:∃s,s=Gf 0 L:=⟨_,Z⟩;have b4:s.length=EL L:=by rw[hs,Gr]
 rw[←hs];obtain⟨f,pa⟩:∃f:Jl,f={j with failed:=l}:=⟨_,Z⟩;replace C:=C.D e5;rw[←pa] at C;have c4:f.used=j.used:=by rw[pa]
 have g2:f.life=j.life:=by rw[pa]
 have c5:f.Ew=j.Ew:=by rw[pa]
 have c3:f.long=j.long:=by rw[pa]
 have b1:f.tail=j.tail:=by rw[pa]
 have c6:f.half=j.half:=by rw[pa]
 have e0:f.num=j.num:=by rw[pa]
 have e1:f.failed=l:=by rw[pa]
 have e3:Ta n f:=by rw[pa];exact⟨b6,b5,b0,a8,U.used,o,a6,a1⟩
 have l:f.tail.length≤63:=by rw[b1,b0];omega
 have l:=pa;obtain⟨h1,vl,cs,o,hh,a6⟩:=id C;refine cg<|M Z<|E (Ak Z)<|E (Aa NP Z)<|E (Al AF Z o.AE Z)<|M Z<|E (Ey underlying9 Z)<|E (Bc Z Z Ai Ai)<|E (Bc Z Z Ai Ai) ?_;refine E (CM Z Z)<|Ah<|Cz Z (fun pa=>?_) fun pa=>?_
 ·simp only[YF] at pa;omega
 refine As<|Ag<|AM J [] [0,0,0,1,0,0,0,1,0,0,0,1,0,2,0,0] [0,1,2,3,4,5,6,7,8,9,10,11,12,13,14,15] fun pa h4 l=>?_;have a1:=o;refine Bm Z Z<|AN Z (Ak Z)<|AN Z (Aa QG Z)<|vc Z l.kp (a1.D.kb CQ Z Z)<|Bm Z Z<|AN Z (Ak Z)<|AN Z (Aa aw Z)<|vc Z l.kp (a1.D.kb AF Z Z)<|Bm Z Z<|AN Z (Ak Z)<|AN Z (Aa QD Z)<|vc Z l.kp (a1.D.kb AF Z Z)<|Bm Z Z<|Db Z (Ac J 1 (Ab so Z (VR (life:=f.life) (n:=f.Ew) (s:=s) G G G))) ?_;rintro pa pa ⟨pa,e6,pa,rfl⟩;refine l.Bl e6 fun l=>?_;obtain⟨t,b9⟩:∃t,t=FA f.life f.Ew s:=⟨_,Z⟩;have ht:t.length=24+s.length:=by rw[b9,JK]
 rw[←b9];refine AN Z (dE Z Z G)<|Ir Z Z ?_;refine AP ?_;refine Ag<|Ag ?_;obtain⟨b,b7⟩:∃b,b=f.tail++t:=⟨_,Z⟩;have pa:b.length=j.used%64+24+EL L:=by rw[b7,ft,ht,b4,b1,b0];omega
 rw[←b7];have pa:=ep L;refine cg<|M Z<|M Z<|M Z<|E (Ak Z)<|E (Aa NP Z)<|E (Al AF Z o.D.AE Z)<|E (dD Z Z G G G) ?_;rw[show(f.used:Int)/64=((f.used/64:Nat):Int) by omega];refine E (Bc Z Z G G) ?_;rw[show(1:Int)+((f.used/64:Nat):Int)=((1+f.used/64:Nat):Int) by omega];refine M Z<|ve (Ab fP Z (RM (oth:=false) (at_:=1+f.used/64) (b:=b) C.D R.D e3 e9 h9 hp G G)) ?_;rintro pa pa ⟨pa,h5,⟨A1,R,h3,h7,rfl⟩⟩;refine ve (Ab xF Z (mV (e:=0) C.D)) ?_;rintro pa pa ⟨b4,h6,⟨C,rfl⟩⟩;refine V Z<|Q<|M Z<|E (BK Z Z)<|Ah<|Cz Z (fun pa=>?_) fun pa=>?_
 ·exact absurd pa AO
 refine As<|Ag ?_;obtain⟨a8,pa⟩:∃a8,a8=(f.failed|| !decide ((0:Int)=0)):=⟨_,Z⟩;rw[←pa] at C;have h8:a8=false:=by rw[pa,e1,e2];rfl
 clear pa;obtain⟨pa,J⟩:∃pa:Jl,pa={f with failed:=a8}:=⟨_,Z⟩;rw[←J] at C;have e1:pa.used=j.used:=by rw[J];exact c4
 have h0:pa.life=j.life:=by rw[J];exact g2
 have e1:pa.Ew=j.Ew:=by rw[J];exact c5
 have e1:pa.long=j.long:=by rw[J];exact c3
 have c3:pa.tail.length=j.used%64:=by rw[J];show f.tail.length=_;rw[b1,b0]
 have c3:pa.half=j.half:=by rw[J];exact c6
 have b0:pa.num=j.num:=by rw[J];exact e0
 have j0:pa.failed=a8:=by rw[J]
 clear J;obtain⟨h1,vl,cs,o,hh,a6⟩:=C;refine AM b4 [] [0,0,0,1,0,0,0,0,0,1,0,0,0,0,0,3] [0,1,2,3,4,5,6,7,8,9,10,11,12,13,14,15] fun J e7 l=>?_;have a1:=o;refine Bm Z Z<|AN Z (Ak Z)<|AN Z (Aa NP Z)<|vc Z l.kp (a1.D.kb AF Z Z)<|Bm Z Z<|AN Z (Ey underlying9 Z)<|Bm Z Z<|AN Z (Ak Z)<|AN Z (Aa QG Z)<|vc Z l.kp (a1.D.kb CQ Z Z)<|AN Z (Ey underlying9 Z)<|AN Z (Gu Z Z Ai Ai)<|AN Z (Bc Z Z G G) ?_;rw[show(pa.used:Int)+((b.length:Int)-(pa.tail.length:Int))=((j.used+24+EL L:Nat):Int) by omega];refine AN Z (Ak Z)<|AN Z (Aa NP Z)<|LG Z (Ap AF Z Z ra ra o.D Z) ?_;rintro _ J ⟨o,e8⟩;refine AP ?_;refine Q<|M Z<|E (Ak Z)<|E (Aa QE Z)<|E (Al AF Z o.AE Z)<|M Z<|E (Ey underlying9 Z)<|E (Bc Z Z G G) ?_;rw[show(pa.long:Int)+(s.length:Int)=((j.long+EL L:Nat):Int) by omega];refine E (Ak Z)<|E (Aa QE Z)<|Av (Ap AF Z Z ra ra o Z) ?_;rintro _ J ⟨o,e0⟩;refine Ah<|Q<|M Z<|M Z<|M Z<|E (Ey underlying9 Z)<|E (bG Z Z G)<|E (GB underlying9 Z Z G G) ?_;refine E (Ak Z)<|E (Aa QG Z)<|Av (Ap CQ Z Z ra ra o Z) ?_;rintro _ J ⟨o,e1⟩;refine Ah<|Q<|M Z<|E (Ak Z)<|E (Aa QD Z)<|E (Al AF Z o.AE Z)<|E (Bc Z Z G G) ?_;rw[show(pa.Ew:Int)+1=((j.Ew+1:Nat):Int) by omega];refine E (Ak Z)<|E (Aa QD Z)<|Av (Ap AF Z Z ra ra o Z) ?_;rintro _ J ⟨o,e2⟩;refine Ah<|Ag<|AM b4 [93] [0,0,0,0,1,0,2,2,0,0,3] [0,1,2,3,4,5,6,7,8,9,10] fun J e3 l=>?_;refine Bm Z Z<|Bm Z Z<|AN Z (Ak Z)<|AN Z (Aa QH Z)<|vc Z l.kp (o.D.kb Hm Z Z)<|Bm Z Z<|Db Z (Ac b4 8 (Ab tY Z (qH hC.D.AB G hl))) ?_;rintro J J ⟨J,a8,b0,⟨b4,a1,J⟩⟩;refine l.Bl a8 fun l=>?_;replace J:=J.Du b0;obtain⟨g,cp,rfl,b0,b0⟩:=J.CT G;refine Db Z (Ax GQ Z Z a6.D (Aw underlying94 (J.own.cells (Bh G)) J.own.1 a1) Fh Fg) ?_;rintro j1 J ⟨J,b0,a6⟩;refine l.Bl b0 fun l=>?_;have J:=a6.AD;have J:=a6.AA;refine AN Z (Ak Z)<|AN Z (Aa QH Z)<|LG Z (Ap Hm Z Z ra ra o.D Z) ?_;rintro _ J ⟨o,J⟩;try replace l:=l.tr J Z
 refine AP ?_;refine Q<|V Z<|Af Z Z ?_;obtain⟨a1,l⟩:∃a1:Jl,a1=⟨pa.life,j.Ew+1,j.used+24+EL L,j.long+EL L,b.drop (b.length/64*64),pa.half,pa.failed,pa.num+L.length⟩:=⟨_,Z⟩;refine⟨_,hJ.D.out,A1,a1,0,BW.Ih R.D hJ.D,?_,h3,?_,?_,Z,fun c7 c8=>⟨Z,?_⟩,by decide,by rw[l];exact h0,fun _ b3 hav c7 c8=>?_⟩
 ·replace hJ:=(((((((((((((((hJ.D c9).D e4).D e5).D h4).D e6).D h5).D h6).D e7).D e8).D e0).D e1).D e2).D e3).D a8).D b0).D J;refine⟨h1,j1,cs++b4,by rw[l];exact o.out hJ Z,by rw[l];exact(((((((((hh.D e7).D e8).D e0).D e1).D e2).D e3).D a8).D b0).D J).out hJ Z,by rw[l];exact(a6.D J).out hJ Z⟩
 ·rw[l];refine⟨by show pa.half.length=n;rw[c3];exact b6,by show∀h∈pa.half,_;rw[c3];exact b5,?_,by show j.long+EL L≤j.used+24+EL L;omega,by show j.used+24+EL L≤32704;omega,by show j.Ew+1≤j.used+24+EL L;omega,by show pa.num+L.length≤j.used+24+EL L;omega,by show pa.life≤_;omega⟩;show(b.drop (b.length/64*64)).length=(j.used+24+EL L)%64
  rw[kK];omega
 ·rw[l];exact kM _
 ·rw[l];show pa.failed=false;rw[j0];exact h8
 refine c7.add (J':=a1) (L:=L) (b:=b) (lv:=fun p:Nat=>BG F p) (by rw[b7,b9,b1,g2,c5,hs]) (by rw[←c4];rw[show RU j false (1+f.used/64)=RU f false (1+f.used/64) from funext fun p=>by rw[RU,RU,c6]];exact h7) c8 G b8 (by rw[l];exact h0) (by rw[l]) (by rw[l];show j.used+24+EL L=_;omega) (by rw[l]) (by rw[l];exact c3)
theorem ow(f:BW c w k F)(hs:Small z)(a6:z.k+z.m≤n∧n≤8)(C:1≤i∧i≤12)(l:1024+i*Ca z.size≤m∧m≤2048)(hp:GR n m F)(hc:F.BC≤800000000)(hl:∀pa:Nat,pa<n→BG F pa=true)(a7:∀d z:Nat,d<n→z<1024→Bp F d z=(zT,0)):
 Calls QP 28 #[P1 k, .agg (DB z).toArray,I i] w (Bt fun u w'=>∃c',Mv c w c' w' BX∧∃g p pj j,DM c' w' p k pj (.slice none 0 0) (.slice none 0 0) (.slice none 0 0) ⟨z,i,g,j,Nf,(-1,-1),false⟩∧HP n m 20000 F g∧Ta n j∧j.used=24∧j.failed=false∧j.life≤3000000000∧JX n (fun _=>true) g j [[]]∧u= .tuple #[P1 p,I 0]):=by
 have hJ:=BE.start c w BX;replace f:=f.Mz (K:=BX);generalize Bw c BX=c0 at hJ f;have N:=hs.1;refine AY 31 #[.tmp 6, .tmp 7] func28 Z<|Q<|Fa c0 104 fun w1 b4 c1 N Bd=>?_;refine za Z<|V Z<|Ag<|Q<|M Z<|E (Ba CP Z Bd.AE Z)<|M Z<|ve (Ac c1 1 (Ab wh Z (gV f.D hs hp a6 C l))) ?_;rintro N w2 ⟨c2,N,N,rfl⟩;refine V Z<|Q<|M Z<|E (BK Z Z)<|Ah<|Cz Z (fun N=>?_) fun N=>?_
 ·exact absurd N AO
 refine As<|Q<|M Z<|ve (Ab aai Z (ot f.D ⟨G,G⟩ ⟨G,l.2⟩ hp hc hl a7)) ?_;rintro v20 N ⟨o,N,⟨A1,pj,j,f,R,t,a8,hu,_,hf,U,a1,rfl⟩⟩;refine M Z<|E (Aq Z Z)<|E (Aq Z Z)<|za Z<|V Z<|Ag<|Q<|M Z<|E (BK Z Z)<|Ah<|Cz Z (fun N=>?_) fun N=>?_
 ·exact absurd N AO
 refine As<|Q<|M Z<|E (Ba CP Z Bd.D.AE Z)<|M Z<|M Z<|ve (Ac o 90 (Ab wi Z (cG hs))) ?_;rintro v30 b1 ⟨o,N,b0,⟨N,rfl,hg,r⟩⟩;refine za Z<|V Z<|BR Z Z Z ?_;have J:AI o b1 90 N (Dq k pj (.slice none 0 0) (.slice none 0 0) (.slice none 0 0) ⟨z,i,A1,j,Nf,(-1,-1),false⟩) 101:=⟨r,b0 _ hg⟩;refine⟨_,hJ.D.out,A1,N,pj,j,⟨J.EO hJ.D,BW.Ih f.D hJ.D,Dz.EO R.D hJ.D,⟨?_,?_,?_⟩⟩,t,a8,hu,hf,U,a1,Z⟩
 ·exact fun w' _ _=>FC.nil DS _ _
 ·exact fun w' _ _=>FC.nil Ie _ _
 exact fun w' _ _=>FC.nil Wo _ _
def Ih(s:CO)(q:Int×Int)(d t:Int):Prop:=d≠q.1∨t<1024+q.2*(BZ s:Nat)∨1024+(q.2+1)*(BZ s:Nat)≤t
theorem Sx{t q:Int×Int}(h:t≠q)(i:1024+t.2*(BZ z:Nat)≤p)(j:p<1024+t.2*(BZ z:Nat)+(BZ z:Nat)):Ih z q t.1 p:=by
 by_cases hd:t.1=q.1
 ·have g:t.2≠q.2:=fun e=>h (Prod.ext hd e);rcases Int.lt_or_gt_of_ne g with hl|hl
  ·refine .inr (.inl ?_);have f:(t.2+1)*(BZ z:Nat)≤q.2*(BZ z:Nat):=Ad0 G G;rw[Ahd,Int.one_mul] at f;omega
  refine .inr (.inr ?_);have f:(q.2+1)*(BZ z:Nat)≤t.2*(BZ z:Nat):=Ad0 G G;omega
 exact .inl hd
theorem Sy{A B:CS}{d f:Int}:∀k,(∀t,f≤t→t<f+(k:Nat)→Bp B d t=Bp A d t)→Dk B d f k=Dk A d f k
 |0,_=>rfl
 |k+1,h=>by rw[Dk,Dk,Sy k (fun t g i=>h t g G),h _ G G]
theorem jW{B:CS}{p q:Int×Int}(h:∀d t,Ih z q d t→Bp B d t=Bp F d t)(i:p≠q):Dk B p.1 (1024+p.2*(BZ z:Nat)) (BZ z)=Dk F p.1 (1024+p.2*(BZ z:Nat)) (BZ z):=
 Sy _ fun t f g=>h _ _ (Sx i f g)
structure fa (n m:Nat) (s:CO) (x:CV) (i:Nat) (t:Tx) (A B:CS) (e:Int):Prop where
 lay:IK n m (BZ s) A B
 jq:∀q,x.Ad[i]?=some q→BG A q.1=true→1024+(q.2+1)*(BZ s:Nat)≤m→e=0
 rd:∀q,x.Ad[i]?=some q→e=0→Dk B q.1 (1024+q.2*(BZ s:Nat)) (BZ s)=some (Gb ⟨x.id,i,x.gen,t⟩)
 oth:∀q,x.Ad[i]?=some q→∀d t,Ih s q d t→Bp B d t=Bp A d t
def zE(m:Nat)(s:CO)(T:Gs×Nat→Tx)(A B:CS)(L pre:List (Gs×Nat)):Prop:=((∀q∈L,Vx m s A q)→(L.map Jm).Nodup→∀q∈pre,Ow s T B q)∧∀d t,(∀q∈L,Ih s (Jm q) d t)→Bp B d t=Bp A d t
theorem zE.snoc{T:Gs×Nat→Tx}{B C:CS}{L pre:List (Gs×Nat)}{q:Gs×Nat}(h:zE m z T F B L pre)(hp:pre++[q]<+:L)(p:q.2<q.1.1.Ad.length)(f:fa n m z q.1.1 q.2 (T q) B C 0):zE m z T F C L (pre++[q]):=by
 have hx:q.1.1.Ad[q.2]?=some (Jm q):=by rw[Jm,dd p];rfl
 refine⟨fun hg g y hy=>?_,fun d t i=>?_⟩
 ·rcases Aac.1 hy with hy|hy
  ·have j:=h.1 hg g y hy;obtain⟨r,rfl⟩:=hp;rw[Aaf,Aaf] at g;have o:Jm y≠Jm q:=fun e=>by
    have l:=(Ac5.1 (Ac5.1 g).1).2.2;exact l _ (Aag.2 ⟨y,hy,Z⟩) _ (Aag.2 ⟨q,pv.2 Z,Z⟩) e
   rw[Ow,jW (f.oth _ hx) o];exact j
  rw[pv.1 hy];exact f.rd _ hx Z
 rw[f.oth _ hx d t (i q (hp.subset (Abr _ (pv.2 Z))))];exact h.2 d t i
theorem fb{T:Gs×Nat→Tx}{B C:CS}{q:Gs×Nat}(hg:Vx m z F q)(hl:∀k,BG B k=BG F k)(g:q.2<q.1.1.Ad.length)(f:fa n m z q.1.1 q.2 (T q) B C p):p=0:=
 f.jq _ (by rw[Jm,dd g];rfl:q.1.1.Ad[q.2]?=some (Jm q)) (by rw[hl];exact hg.1) hg.2
end Go.Eng
