/- The program, walked: part 3. No condition. -/
import Derived.Test.YtfgkcfdgepnhpaaGreatDoorC2
set_option linter.unusedSimpArgs false
set_option linter.unusedVariables false
set_option maxRecDepth 100000
set_option maxHeartbeats 4000000
open Go.Proofs.Tryz renaming prog → QP
variable {c : Nat → Nat} {w : Go.World}
namespace Go.Eng
open Go.RowKit Go.Proofs Go.Proofs.Tryz
variable {α:Type}{k m n i life:Nat}{s:List UInt8}{css:List (List Value)}{l:List Int}{w' h N:World}{cs news b:List Value}{c' j:Nat→Nat}{va a y:Value}{d A:TypeId}{e:List Nat}{f K:Operand}{g:Option (Nat×Bool)}{o:Array Edge}{p:Int}{q:List (List Int)}{r:Value→World→Prop}{u:List (Int×Int)}{v:String}{x:List Bool}{z:CO}{B:Bool}{C:List CV}{F:CS}{H:Program}{J:Option (Rec×List UInt8)}{P:List Rec}{R:IntKind}{S:FuncId}{T:Option Nat}{W:Tx}{X:World→Prop}{Y:List (List Rec)}{encs:α→List Value}{Qjq:List α→α→(Nat→Nat)→World→Prop}{Fin:List α→Prop}{t:List α}
open List (replicate)
def Dq(pa pj:Nat)(vS vT vG:Value)(P:HQ):List Value:=[P1 pa,I P.s.k,I P.s.m,I P.s.size,I P.n,I (BZ P.s),P1 pj,vS,vT,vG,I P.b.next,I P.at_.1,I P.at_.2, .bool P.failed]
def Dz(c:Nat→Nat)(w:World)(p pa:Nat)(j:Jl):Prop:=∃f vl cs,AI c w 91 p (Ig pa f vl j) 150∧AJ c w 92 3 1 f j.half.length (j.half.map I)∧AJ c w 93 52 6 vl j.num cs
abbrev Dw:List Nat:=[60,61,62,63,91,92,93]
abbrev DA:List Nat:=[60,61,62,63,90,91,92,93,94]
structure DM (c:Nat→Nat) (w:World) (p pa pj:Nat) (vS vT vG:Value) (P:HQ):Prop where
 AE:AI c w 90 p (Dq pa pj vS vT vG P) 101
 arr:BW c w pa P.A
 kP:Dz c w pj pa P.J
 bk:eb c w [94] vS vT vG P.b
def WA(c:Nat→Nat)(w:World)(p:Nat)(P:HQ):Prop:=∃pa pj vS vT vG,DM c w p pa pj vS vT vG P
section
variable {c c':Nat→Nat} {w w':World} {K:List Nat} {p pa pj:Nat} {vS vT vG:Value} {P:HQ}
theorem Dz.D{j:Jl}(h:Dz c w p pa j)(m:Mv c w c' w' K:=by exact Go.Eng.KU)(f:AU K 91=false:=by rfl)(g:AU K 92=false:=by rfl)(i:AU K 93=false:=by rfl):Dz c' w' p pa j:=by
 obtain⟨l,vl,cs,a,b,d⟩:=h;exact⟨l,vl,cs,a.D m f,b.D m g,d.D m i⟩
theorem DM.D(h:DM c w p pa pj vS vT vG P)(m:Mv c w c' w' K:=by exact Go.Eng.KU)(hi:BB DA K=true:=by rfl):DM c' w' p pa pj vS vT vG P:=by
 have O:∀i∈DA,AU K i=false:=fun i h=>BD hi h;exact⟨h.AE.D m (O 90 Bb),h.arr.D m (O 60 Bb) (O 61 Bb) (O 62 Bb) (O 63 Bb),h.kP.D m (O 91 Bb) (O 92 Bb) (O 93 Bb),h.bk.D m (CC hi Bb)⟩
theorem iP{L:List Nat}(h:EA X c w e)(hi:e.all (AU L)=true):EA X (Bw c L) w e:=HM.mono h fun k _ O=>by
 have f:AU L (c k)=true:=by
  cases hc:AU L (c k) with
  |true=>rfl
  |false=>rw[Jw hi hc] at O;cases O
 show AU e (Bw c L k)=true
 rw[KN f];exact O
theorem Dz.Dt{j:Jl}(h:Dz c w p pa j)(hi:Dw.all (AU K)=true:=by rfl):Dz (Bw c K) w p pa j:=by
 obtain⟨f,vl,cs,a,b,d⟩:=h;have O:∀i∈Dw,AU K i=true:=fun i h=>Aae.1 hi i h;exact⟨f,vl,cs,a.Dt (O 91 Bb),b.Dt (O 92 Bb),d.Dt (O 93 Bb)⟩
theorem BW.Mz(h:BW c w p F)(hi:BX.all (AU K)=true:=by rfl):BW (Bw c K) w p F:=by
 obtain⟨v,X,a,b⟩:=h;have O:∀i∈BX,AU K i=true:=fun i h=>Aae.1 hi i h;exact⟨v,X,a.Dt (O 60 Bb),b.liveQ,b.own.Dt (O 61 Bb),b.rows.Dt (O 62 Bb),b.maps.Dt (O 63 Bb)⟩
theorem _root_.Go.Eng.eb.Dt{J:List Nat}{b:Bk}(h:eb c w J vS vT vG b)(hi:J.all (AU K)=true:=by rfl):eb (Bw c K) w J vS vT vG b:=⟨iP h.s hi,iP h.t hi,iP h.g hi⟩
theorem DM.Dt(h:DM c w p pa pj vS vT vG P){K:List Nat}(hi:DA.all (AU K)=true:=by rfl):DM (Bw c K) w p pa pj vS vT vG P:=by
 have O:∀i∈DA,AU K i=true:=fun i h=>Aae.1 hi i h;have hs:∀l:List Nat,(∀i∈l,i∈DA)→l.all (AU K)=true:=fun l hl=>Aae.2 fun i h=>O i (hl i h);exact⟨h.AE.Dt (O 90 Bb),h.arr.Mz (hs _ Bb),h.kP.Dt (hs _ Bb),h.bk.Dt (hs _ Bb)⟩
theorem FC.mL{s:Shape α}(h:Rd s w a t)(J:List Nat):Bu s (Bw c J) w (0::J) a t:=Rd.Du h fun k _=>by
 cases hc:AU J (c k) with
 |true=>rw[KN hc];simp only[AU,Ac3,Aa3];exact .inr hc
 |false=>rw[Ia hc];rfl
theorem AJ.uC{J:TypeId}(h:AJ c' w' i J k a n b)(U:DD j w e c' w')(hi:(Nat.blt 0 i&& !AU e i)=true:=by rfl):CJ w' w.heap.size J k a n b:=by
 obtain⟨hl,f⟩:=h.own;refine⟨hl,?_⟩;rcases f with f|⟨g,cap,l,o,rfl,c0,p,r,t,C,I,R,c0⟩
 ·exact .inl f
 refine .inr ⟨g,cap,l,o,Z,?_,p,r,t,C,I,R,c0⟩;rcases Aab g w.heap.size with hg|hg
 ·have v:=U.BF g hg;have xs:=h.BF g (Bh c0);rw[xs] at v;rw[kg,Aa9] at hi;unfold Bw at v;split at v
  ·rename_i hc;rw[←v,hi.2] at hc;cases hc
  subst v;cases hi.1
 exact hg
end
section
variable {c:Cx} {B:List (Nat×EI)} {env:Env} {w:World} {N:EI} {ops:Array Oper}
theorem TT{l tl:List Oper}(q:Bool)(s:Nat)(R:Bool→World→Prop){b:Bool}{p:Prop}{pos:String}{v:Operand}(h:vZ c ops env q s l tl k m n b p A pos o g f v)
 (hF:b= !q→∃x,R x w)
 (U:p→WR c B ops (l.take s) ((k, .bool q)::env) w (fun e w'=>∃x,look e m=some (.bool x)∧Sub ((k, .bool q)::env) e∧R x w'))
 (next:∀x w',R x w'→WR c B ops tl ((n, .bool (bif q then b&&x else b||x))::env) w' N):WR c B ops l env w N:=by
 obtain⟨hl,hs,hg,hu,hv,Hs,hd,hp⟩:=h;have hT:=fun e:b=q=>U (hp▸e);have u:l.take s++⟨some n, .pick (.tmp k) f v,A,pos,o,g⟩::tl=l:=by rw[←hl];exact Aas s l
 by_cases I:b=q
 ·refine fw s (fun e w'=>∃x,look e m=some (.bool x)∧Sub ((k, .bool q)::env) e∧R x w') ?_ ?_
  ·intro a u;exact hT I a (u.sub (Sub.cons (by rw[hs,I]) (Sub.refl _)))
  rintro e w' ⟨x,r,i,J⟩;rw[hl];have j:Sub env e:=NG (v:= .bool q) (by rw[hs,I]) i;have C:look e k=some (.bool q):=i.II k _ (Ka (KJ hs));refine La (v:= .bool x) (Gv j hg) hd (b:=q) (by simpa[BY] using C) ?_ ?_
  ·rw[hu];exact r
  have r:(bif q then b&&x else b||x)=x:=by subst I;cases b<;>simp
  have:=next x w' J
  rw[r] at this;exact fun a u=>this a (u.sub (ak j))
 have I:b= !q:=by cases b<;>cases q<;>simp_all
 unfold ai at Hs;split at Hs
 ·rename_i e J;have a1:=OF _ _ _ _ J;have i:Sub ((k, .bool (!q))::env) e:=Sub.drop _ _ _ a1 Hs;have j:Sub env e:=NG (v:= .bool (!q)) (by rw[hs,I]) i;have C:look e k=some (.bool (!q)):=i.II k _ (Ka (KJ hs));have i:WR c B ops l ((k, .bool (!q))::env) w N:=by
   refine ah J ?_;rw[hl];refine La (v:= .bool (!q)) (Gv j hg) hd (b:= !q) (by simpa[BY] using C) ?_ ?_
   ·have:(if(!q)=true then f else v)=(if q then v else f):=by cases q<;>rfl
    rw[this,hv];rfl
   obtain⟨x,hx⟩:=hF I;have r:(bif q then b&&x else b||x)= !q:=by subst I;cases q<;>simp
   have:=next x w hx
   rw[r] at this;exact fun a u=>this a (u.sub (ak j))
  exact fun a u=>i a (u.sub (Sub.cons (by rw[hs,I]) (Sub.refl _)))
 cases Hs
end
def CR(lv:Nat→Bool)(n:Nat):List Nat:=(List.range n).filter lv
theorem PV(lv:Nat→Bool)(i:Nat):CR lv (i+1)=if lv i=true then CR lv i++[i] else CR lv i:=by
 rw[CR,Abf,Acp,CR];cases h:lv i<;>simp[h]
theorem iQ(lv:Nat→Bool)(h:i≤n):CR lv i<+:CR lv n:=by
 induction n with
 |zero=>rw[show i=0 by omega];exact List.prefix_rfl
 |succ n f=>
  rcases Aab i (n+1) with g|g
  ·rw[PV];split
   ·exact(f G).trans (List.prefix_append _ _)
   ·exact f G
  ·rw[show i=n+1 by omega];exact List.prefix_rfl
theorem MA{lv:Nat→Bool}:i∈CR lv n↔i<n∧lv i=true:=by simp[CR]
def bF(pa n:Nat)(lv:Nat→Bool)(d:Nat→Nat)(A:World):Prop:=∃A1,BW d A pa A1∧A1.d.length=n∧∀k:Nat,BG A1 k=lv k
theorem OT:Calls QP 75 #[P1 k] w (Bt fun u w'=>AZ w w'∧∃b1,u= .func (.func 147) #[] #[P1 b1]∧w.heap.size≤b1∧Gt w' b1 [P1 k] 90):=by
 obtain⟨c,hO,hc⟩:=Ay w;refine AY 4 #[.tmp 2] func75 Z<|Q<|Mn c 101 fun w1 b1 c1 g f=>?_;refine V Z<|Q<|E (Dn Z)<|V Z<|Af Z Z<|⟨hO.D.below,_,Z,?_,f.AE⟩;rcases Aab b1 w.heap.size with h|h
 ·replace hO:=hO.D g;have:=hO.BF _ h;rw[f.BF] at this;cases this
 exact h
theorem Nj{c0:Nat}{lv:Nat→Bool}(f:AI j h 76 k [P1 m] 90)(g:AI j h c0 m (P1 i::b) 150)(a6:n≤12):
 lq QP 147 [P1 k] (fun b1:Nat=>[I b1]) [] [76,c0] (bF i n lv) (fun pre x _ _=>pre++[x]<+:CR lv n) (fun L=>L=CR lv n) j h:=by
 intro l J t c1 W K o hK C p R hy r;have p:∀pa∈[76,c0],AU K pa=false:=fun pa hi=>BD hK (by simpa using hi);replace f:=f.D o (p 76 Bb);replace g:=g.D o (p c0 Bb);have hJ:JC (J (CR lv 0)) [] c1 W:=⟨r,fun _ _ _ _ w0 pj=>C _ _ _ _ _ w0 pj⟩;show Calls _ _ [_,_].toArray _ _
 refine AY 25 #[] func147 Z ?_;obtain⟨A1,o,r,p⟩:=R _ _ _ hJ.AB;refine Q<|E (Al Gx Z f.AE Z)<|E (Ak Z)<|E (Aa IV Z)<|E (Al LK Z g.AE Z)<|ve (Ac c1 1 (Ab Ws Z (GZ o))) ?_;rintro U w1 ⟨c1,U,U,rfl⟩;rw[r];refine M Z<|Ah<|An<|AG (σ:=Nat) (fun pa=>[(0, .func (.yield l) #[] #[]),(1,P1 k),(8,I n),(9,I pa)]) (fun pa w'=>pa≤n∧∃c',AI c' w' 76 k [P1 m] 90∧AI c' w' c0 m (P1 i::b) 150∧JC (J (CR lv pa)) [] c' w') (fun pa=>n-pa) 0 AL ⟨G,_,f.D,g.D,hJ.D⟩ ?_;rintro pa U ⟨hi,U,f,g,hJ⟩;refine Q<|E (AX Z Z)<|Ah<|Ag<|BA Z (fun a1=>?_) fun a1=>?_
 ·have a1:pa<n:=G;obtain⟨A1,o,r,p⟩:=R _ _ _ hJ.AB;refine As<|Ag<|An<|Q<|M Z<|V Z<|Q<|E (Al Gx Z f.AE Z)<|E (Ak Z)<|E (Aa IV Z)<|E (Al LK Z g.AE Z)<|M Z<|ve (Ac U 1 (Ab pI Z (Rh (d:=((pa:Nat):Int)) o))) ?_;rintro r w2 ⟨c2,r,R,rfl⟩;rw[p pa];refine M Z ?_;replace f:=f.D r;replace g:=g.D r;replace hJ:=hJ.D r;apply TT true 4 (fun x w'=>∃c',AI c' w' 76 k [P1 m] 90∧AI c' w' c0 m (P1 i::b) 150∧((lv pa=false∧x=false∧JC (J (CR lv pa)) [] c' w')∨(lv pa=true∧x=true∧t (CR lv pa++[pa]) c' w')∨(lv pa=true∧x=false∧JC (J (CR lv pa++[pa])) [] c' w'))) CK ((fun hx=>⟨false,_,f,g, .inl ⟨by simpa using hx,Z,hJ⟩⟩))
  ·intro o;refine wo<|M Z<|wo<|M Z<|wo ?_;have r:CR lv pa++[pa]<+:CR lv n:=by
    have w0:=iQ lv (show pa+1≤n by omega);rw[PV,zm o] at w0;exact w0
   obtain⟨p,p,R⟩:=hy _ _ _ _ hJ.AB r;refine ve (FQ Z Z R) ?_;rintro _ r ⟨rest,r,rfl,r,a1,U⟩;replace f:=f.D r (BD p Bb);replace g:=g.D r (BD p Bb);refine wo<|E (BL Z) ?_;exact Et ⟨_,Z,Sub.drop _ 4 _ Z Z,(by cases rest with|true=>exact⟨_,f,g, .inr (.inr ⟨o,Z,⟨a1 Z,fun _ _ _ _ w0 pj=>C _ _ _ _ _ w0 pj⟩⟩)⟩|false=>exact⟨_,f,g, .inr (.inl ⟨o,Z,U Z⟩)⟩)⟩
  rintro x r ⟨C,f,g,p⟩;refine Ah<|BA Z (fun o=>?_) fun o=>?_
  ·replace p:∃c',t (CR lv pa++[pa]) c' r:=by
    rcases p with⟨_,w0,_⟩|⟨_,_,w0⟩|⟨_,w0,_⟩
    ·rw[o.2] at w0;cases w0
    ·exact⟨_,w0⟩
    rw[o.2] at w0;cases w0
   refine FK Z ?_;exact p.elim fun _ w0=>⟨_, .inr ⟨_,w0⟩⟩
  have hJ:JC (J (CR lv (pa+1))) [] C r:=by
   rw[PV];rcases p with⟨w0,_,hJ⟩|⟨p,w0,_⟩|⟨w0,_,hJ⟩
   ·rw[ss (by rw[w0];simp)];exact hJ
   ·rw[p,w0] at o;cases o
   rw[zm w0];exact hJ
  refine As<|cg<|E (Bc Z Z Ai Ai)<|M Z<|Ah ?_;exact⟨pa+1,AL,⟨G,_,f,g,hJ⟩,G⟩
 have e:pa=n:=G;subst e;refine Az Z<|⟨_,_,Z,Z,?_⟩;exact⟨Z,_, .inl ⟨_,Z,hJ.AB⟩⟩
theorem qw{env:Env}{at_:Array TypeId}{n:Int}(hx:BY env f=some (I p))(hy:BY env K=some (I n)):DP H env w (.call ⟨.builtin .max,#[f,K],at_⟩) d (I (max p n)):=fun _ a x ty pos i g=>by
 have h:(if n>p then n else p)=max p n:=by rw[Int.max_def];split<;>split<;>omega
 simp[execOp,resolve,invoke,builtin,Builtin.max_,Builtin.max2,x.eval hx,x.eval hy,h]
theorem TU{x:α}(O:k<t.length):(t.set k x)[k]?=some x:=by simp[O]
section
variable {c:Nat→Nat} {w:World} {p:Nat} {A:CS} {d:Int}
theorem XE(h:BW c w p A)(b2:SX A):Calls QP 180 #[.pointer (some ⟨p,0,none⟩),I d] w (Bt fun u w'=>∃c',Mv c w c' w' BX∧BW c' w' p (Fj A d).1∧u=I (Fj A d).2):=by
 have C:=h;obtain⟨v,X,t,f⟩:=h;have hJ:=BE.start c w BX;replace t:=t.Dt (J:=BX) Z;replace f:=f.Dt;replace C:=C.Dt;obtain⟨b8,cp,rfl,j1,j2⟩:=f.form;have h8:=f.len;generalize Bw c BX=c0 at hJ t f C;refine AY 53 #[.tmp 4] func180 Z<|Q<|V Z<|Ag<|Q<|M Z<|M Z<|ve (Ac c0 1 (Ab hW Z (Si C))) ?_;rintro v10 w1 ⟨c1,R,j4,rfl⟩;refine E (BL Z)<|Ah<|BA Z (fun a1=>?_) fun a1=>?_
 ·refine Q<|V Z ?_;refine Af Z Z ?_;exact⟨_,hJ.D.out,by simpa[Fj,a1] using(C.D R).out (hJ.D R),by simp[Fj,a1]⟩
 obtain⟨k,rfl,O⟩:=Zl a1;have hx:=b2.each _ (Lx (HH O));obtain⟨lv,m,U⟩:=(f.D R).at_ (HH O);refine As<|Ag<|Q<|M Z<|M Z<|ve (Ac c1 1 (Ab lF Z (Zm C.D O))) ?_;rintro j6 w2 ⟨c2,a6,j5,rfl⟩;refine V Z<|Q<|M Z<|E (BK Z Z)<|Ah<|BA Z (fun b0=>?_) fun b0=>?_
 ·refine Q<|M Z<|V Z ?_;refine Af Z Z ?_;exact⟨_,hJ.D.out,by simpa[Fj,a1,b0] using((C.D R).D a6).out ((hJ.D R).D a6),by simp[Fj,a1,b0]⟩
 have a8:=((f.D R).D a6).DF U;have k5:=b2.sec;have e9:=hx.lc;have h0:=b2.Mt;have c9:=b2.left;have h1:=hx.ll;have b6:=((f.D R).D a6).map U (HH O);refine As<|Ag<|Q<|M Z<|E (Ak Z)<|E (Aa GH Z)<|E (Al Lk Z t.D.AE Z)<|M Z<|E (BS PD f.D.own Z Z G G)<|E (Bn TN Z)<|E (FF fX Z a8.DF Z) ?_;refine ve (Ac c2 75 ((aQ qd Z b6.obj))) ?_;rintro j7 e8 ⟨e0,b4,c8,⟨rfl,c4⟩⟩;have i:qa e0 e8 75 63 _ m (Eb A k).cache []:=⟨c4,c8 _ (kM _),(b6.D b4).BF⟩;generalize w2.heap.size=r at i⊢;clear c8 c4;refine Ah<|An ?_;obtain⟨x,b7⟩:∃x,x=Eb A k:=⟨_,Z⟩;replace a8:=a8.D b4;rw[←b7] at hx U e9 h1 i a8;have c3:=HH O;rw[←b7] at c3;refine AG (σ:=List Nat) (fun g=>[(0, .pointer (some ⟨p,0,none⟩)),(1,I k),(4,I 0),(26, .pointer (some ⟨r,0,none⟩))]) (fun g w'=>∃c',BE c w BX c' w'∧AI c' w' 60 p [.slice b8 A.d.length cp,I A.CU, .bool A.off,I A.left,I A.BC] 88∧Cm c' w' (.slice b8 A.d.length cp) X (A.d.set k {x with l:=Kk x.l x.cache g})∧qa c' w' 75 63 r m x.cache g) (fun g=>x.cache.length-g.length) [] AL ⟨_,hJ.D,t.D,by rw[show({x with l:=Kk x.l x.cache []}:UW)=x from Z,mq c3];exact(((f.D R).D a6).D b4),i⟩ ?_;clear hJ t f C a8 b6 i;rintro g k4 ⟨h6,hJ,t,f,i⟩;have e5:=i.len;have j3:=OQ x.cache g x.l;refine Q<|ve ((aY Z i)) ?_;rintro j8 k0 ⟨h2,a7,⟨o,rfl,i,c6,hs⟩⟩;refine E (Aq Z (qb x.cache o))<|Ah<|Ag<|BA Z (fun b5=>?_) fun b5=>?_
 ·obtain⟨j,rfl⟩:=Option.isSome_iff_exists.1 b5;obtain⟨h9,e4⟩:=hs j Z;have j0:=gk e4;clear c6 hs;have e6:=i.len;have e2:=(f.D a7).DF U;have b1:(A.d.set k {x with l:=Kk x.l x.cache g})[k]?=some {x with l:=Kk x.l x.cache g}:=TU O;refine As<|An<|Q<|E (uk Z i.obj)<|E (Aq Z Z)<|E (Aq Z Z)<|za Z<|V Z ?_;have c7:=(f.D a7).row U b1;dsimp only at c7;refine cg<|M Z<|E (Ak Z)<|E (Aa GH Z)<|E (Al Lk Z t.D.AE Z)<|M Z<|E (BS PD f.D.own Z Z G G)<|E (Bn fK Z)<|E (FF Eh Z e2.DF Z) ?_;refine M Z<|M Z<|E (BS Ch c7 Z Z G G) ?_;refine Av ((Vb CQ f.D U b1 Z Z (show j<(Kk x.l x.cache g).length by omega))) ?_;rintro _ k1 ⟨h3,h7,f⟩;rw[List.set_set] at f;refine Ah<|⟨g++[j],AL,⟨_,hJ.D,t.D,?_,i.D⟩,?_⟩
  ·rw[Vc];exact f
  have b9:(g++[j]).length≤x.cache.length:=e6.2.2;rw[ft] at b9⊢;simp at b9⊢;omega
 have e:o=none:=by simpa using b5
 subst e;have e7:Kk x.l x.cache g=over x.l x.cache:=iB G e5.2.1 (c6 Z);replace f:=f.D a7;rw[e7] at f;have e3:=f.DF U;have b1:(A.d.set k {x with l:=over x.l x.cache})[k]?=some {x with l:=over x.l x.cache}:=TU O;refine Az Z<|Q<|M Z<|E (Ak Z)<|E (Aa GH Z)<|E (Al Lk Z t.D.AE Z)<|M Z<|E (BS PD f.own Z Z G G)<|E (Bn TN Z) ?_;refine E (FF fX Z e3.DF Z)<|Av ((Va qd f U b1 Z)) ?_;rintro _ k2 ⟨h4,c5,f⟩;rw[List.set_set] at f;have b3:BW _ _ p (Ms A k (Kz x)):=⟨_,X,((t.D a7).D c5),f⟩;refine Ah<|Q<|M Z<|ve (Ab sJ Z (SZ b3 h0 c9.1 c9.2)) ?_;rintro j9 k3 ⟨h5,e1,b3⟩;refine Ah<|Q<|V Z<|Af Z Z ?_;subst b7;exact⟨_,hJ.D.out,by simpa[Fj,a1,b0] using b3.out (((hJ.D a7).D c5).D e1),by simp[Fj,a1,b0]⟩
end
theorem iR(x:Int):IntKind.i64.wrap (((BitVec.ofInt IntKind.i64.bits x)&&& (BitVec.ofInt IntKind.i64.bits 63)).toNat:Int)=x%64:=by
 have e:((BitVec.ofInt 64 x)&&& (BitVec.ofInt 64 63)).toNat=(x%64).toNat:=by
  rw[Ae2,BitVec.toNat_ofInt,show(BitVec.ofInt 64 63).toNat=2^6-1 from Z,Nat.and_two_pow_sub_one_eq_mod];omega
 have h:IntKind.i64.wrap (((x%64).toNat:Nat):Int)=(((x%64).toNat:Nat):Int):=Eg G G;have f:((BitVec.ofInt IntKind.i64.bits x)&&& (BitVec.ofInt IntKind.i64.bits 63)).toNat=(x%64).toNat:=e;rw[f,h];omega
section
variable {P:Program} {env:Env} {w:World} {ty t ty2:TypeId} {x y:Operand}
theorem yT(hx:BY env x=some (I p))(hy:BY env y=some (I 63)):DP P env w (.binOp .and t x y ty2) ty (I (p%64)):=by
 have:=SK (P:=P) (w:=w) (ty:=ty) (t:=t) (ty2:=ty2) (op:= .and) hx hy (.inr (.inl ⟨Z,Z⟩));rwa [iR] at this
theorem qx{n:Int}(hx:BY env x=some (I p))(hy:BY env y=some (I n)):DP P env w (.binOp .andNot t x y ty2) ty (I (IntKind.i64.wrap ((BitVec.ofInt IntKind.i64.bits p&&& ~~~ BitVec.ofInt IntKind.i64.bits n).toNat:Int))):=fun _ a f d pos i g=>by
 simp[execOp,f.eval hx,f.eval hy,eqGuard,binOp,Op.intBits]
theorem ej(m:Nat):m&&& (2^64-64)=if m<2^64 then m/64*64 else m&&& (2^64-64):=by
 split
 ·rename_i h;apply Agd;intro i;have g:(2^64-64:Nat)=(2^58-1)<<<6:=by decide
  have j:m/64*64=(m>>>6)<<<6:=by rw[Nat.shiftLeft_eq,Nat.shiftRight_eq_div_pow]
  rw[g,j,Nat.testBit_and,Nat.testBit_shiftLeft,Nat.testBit_shiftLeft,Nat.testBit_two_pow_sub_one,Nat.testBit_shiftRight];by_cases f:6≤i
  ·rw[show 6+(i-6)=i by omega];by_cases l:i-6<58
   ·simp[f,l]
   ·have:m.testBit i=false:=Nat.testBit_lt_two_pow (Aaq h (Acm G G));simp[this]
  ·simp[f]
 ·rfl
theorem bG(hx:BY env x=some (I m))(hy:BY env y=some (I 63))(f:m<4611686018427387904):DP P env w (.binOp .andNot t x y ty2) ty (I ((m/64*64:Nat):Int)):=by
 have h:=qx (P:=P) (w:=w) (ty:=ty) (t:=t) (ty2:=ty2) hx hy;have e:(BitVec.ofInt IntKind.i64.bits (m:Int)&&& ~~~ BitVec.ofInt IntKind.i64.bits 63).toNat=m/64*64:=by
  rw[Ae2,Fu _ _ (by simp[IntKind.bits];omega),show(~~~ BitVec.ofInt IntKind.i64.bits 63).toNat=2^64-64 from Z,ej,zm G]
 rw[e,Eg G G] at h;exact h
theorem aaC(hx:BY env x=some (I p))(h:-9223372036854775807≤p∧p≤9223372036854775807):DP P env w (.unOp .neg t x) ty (I (-p)):=fun _ a f d pos i g=>by
 have e:IntKind.i64.wrap (-p)=-p:=Eg G G;simp[execOp,f.eval hx,Op.unary,Op.intArith,e]
end
def WB(b:Tx):Tx:=b++replicate ((-(b.length:Int))%64).toNat 0
theorem bH(b:Tx):(WB b).length=64*((b.length+63)/64):=by
 rw[WB,ft,Iz];omega
theorem Nk(z:Nat):Go.Lib.repeatL [0] z=replicate z 0:=by
 induction z with
 |zero=>rfl
 |succ z f=>rw[Abo,←f];rfl
theorem qy(f:(k:Int)=(-(W.length:Int))%64):W++Go.Lib.repeatL [0] k=WB W:=by
 rw[WB,show(-(W.length:Int)%64).toNat=k by omega,Nk]
theorem MB{n:Int}(h:0≤n∧n≤1):Calls QP 149 #[I n] w (Bt fun u w'=>AZ w w'∧u=I (512*n)):=by
 obtain⟨c,hO,hc⟩:=Ay w;refine AY 5 #[.tmp 2] func149 Z<|Q<|V Z<|Q<|M Z<|E (HK Z Z Ai Ai)<|za Z ?_;refine Ah<|Af Z Z<|⟨hO.below,?_⟩;rw[Int.mul_comm]
theorem _root_.Go.Eng.AJ.Oc{J:List Nat}{i:Nat}{e:TypeId}{size n:Nat}{v:Value}{xs:List Value}(f:AJ c w i e size v n xs)(hi:AU J i=false):AJ (Bw c J) w 0 e size v n xs:=
 ⟨f.own,fun k O=>Ia (by rw[f.BF k O];exact hi)⟩
theorem _root_.Go.Eng.AJ.XF{v:Value}{e:TypeId}{i:Nat}{l:List Int}(h:AJ c w i e 1 v l.length (l.map I)){j:Nat}(o:j<l.length):DG c w [i] (Bz v 1 j) [I l[j]]:=by
 have g:AJ c w i e 1 v l.length (l.flatMap fun(x:Int)=>[I x]):=by
  have f:∀l:List Int,(l.flatMap fun(x:Int)=>[I x])=l.map I:=fun l=>by
   induction l with
   |nil=>rfl
   |cons a l p=>rw[Aaa,p];rfl
  rw[f];exact h
 exact g.elem (fun _=>rfl) AO o
structure abK (c0:Nat→Nat) (w0:World) (d:Nat→Nat) (B:World) (p pa n m N b1 b2 b3 b4 b5:Nat) (vh vl:Value) (j:Jl) (A:CS) (oth:Bool) (at_:Nat) (b:Tx):Prop where
 hJ:BE c0 w0 BX d B
 bj:AI d B 0 p (Ig pa vh vl j) 150
 hh:AJ d B 0 3 1 vh j.half.length (j.half.map I)
 b1:AI d B 104 b1 [P1 p] 90
 b2:AI d B 105 b2 [.bool oth] 4
 b3:AI d B 106 b3 [I at_] 3
 b4:AI d B 107 b4 [St (WB b)] 9
 b5:AI d B 108 b5 [I 0] 44
 arr:∃A',BW d B pa A'∧HP n m N A A'
theorem Tc(n:Nat)(j:0<n):∀(f g:Nat) (l:Tx),l.length≤f→l.length≤g→Eo n f l=Eo n g l
 |0,0,_,_,_=>rfl
 |0,g+1,l,h,_=>by
  have:l=[]:=rY G;subst this;rfl
 |f+1,0,l,_,h=>by
  have:l=[]:=rY G;subst this;rfl
 |f+1,g+1,l,o,p=>by
  rw[Eo,Eo];split
  ·rfl
  ·rename_i i;have hl:0<l.length:=Adt.2 i;rw[Tc n j f g (l.drop n) (by rw[kK];omega) (by rw[kK];omega)]
theorem Om(n:Nat)(g:0<n)(h:W≠[]):Eo n W.length W=W.take n::Eo n (W.drop n).length (W.drop n):=by
 have hl:0<W.length:=Adt.2 h;obtain⟨f,hf⟩:∃f,W.length=f+1:=⟨W.length-1,G⟩;rw[hf,Eo,ss h,Tc n g f (W.drop n).length (W.drop n) (by rw[kK];omega) (kM _)]
theorem Td(n:Nat)(i:0<n):∀(f:Nat) (l:Tx),l.length≤f→(Eo n f l).length=(l.length+n-1)/n∧∀x∈Eo n f l,1≤x.length∧x.length≤n
 |0,l,h=>by
  have:l=[]:=rY G;subst this;refine⟨?_,by simp[Eo]⟩;rw[Eo];simp only[Ace];exact(Adx G).symm
 |f+1,l,h=>by
  rw[Eo];split
  ·rename_i g;subst g;refine⟨?_,by simp⟩;simp only[Ace];exact(Adx G).symm
  rename_i g;have hl:0<l.length:=Adt.2 g;obtain⟨j,o⟩:=Td n i f (l.drop n) (by rw[kK];omega);refine⟨?_,fun x hx=>?_⟩
  ·rw[SG,j,kK];by_cases hc:n≤l.length
   ·rw[show l.length+n-1=(l.length-n+n-1)+n by omega,Nat.add_div_right _ i]
   rw[show l.length-n=0 by omega,show(0+n-1)/n=0 from Adx G];rw[show l.length+n-1=(l.length-1)+n by omega,Nat.add_div_right _ i,Adx G]
  rcases Aak.1 hx with rfl|hx
  ·rw[kL];omega
  exact o x hx
theorem GM(s:CO)(hs:0<s.k*s.size)(t:Tx):(EU s t).length=BI s t.length∧∀x∈EU s t,1≤x.length∧x.length≤s.k*s.size:=Td _ hs _ _ (kM _)
theorem qz{env:Env}{t2:TypeId}{n:Int}(hx:BY env f=some (I p))(hy:BY env K=some (I n)):DP H env w (.call ⟨.builtin .min,#[f,K],#[A,t2]⟩) d (I (min p n)):=fun _ a x ty pos i g=>by
 have e:(if n<p then n else p)=min p n:=by rw[Int.min_def];split<;>split<;>omega
 simp[execOp,resolve,invoke,builtin,Builtin.min_,Builtin.min2,x.eval hx,x.eval hy,e]
theorem mM(h:n=min t.length k):t.take n=t.take k∧t.drop n=t.drop k:=by
 subst h;rcases Nat.le_total k t.length with h|h
 ·rw[Aft h];exact⟨Z,Z⟩
 ·rw[Abl h,vq (kM _),vq h,Abn (kM _),Abn h];exact⟨Z,Z⟩
section
open Go.Lib
theorem WE(z:Value)(n:Nat):Builtin.zeroCells #[z] n=(replicate n z).toArray:=by
 unfold Builtin.zeroCells;apply Array.ext
 ·simp
 ·intro i f g;simp[Nat.mod_one]
section
variable {P:Program} {env:Env} {w:World} {ty:TypeId} {t tn e:TypeId} {by_:Nat} {z:Value}
theorem Sp{kq:IntKind}(ht:JQ P t=some (e,1,by_,[z]))(I:P.underlying tn=some (.int R))(a6:z.oneCell'=true)(l:CJ w k e 1 a n b)(c0:0<n)(b3:n+m≤1048576)(b9:1048576*by_≤140737488355328)(a8:k≤w.heap.size):
 ∃v' w',(Builtin.append_ #[t,tn] ty #[a, .int kq (m:Int)]).run P w= .ok v' w'∧kN w w' k e 1 a v' (n+m) (b++replicate m z):=by
 obtain⟨hu,i,r,hi,C,f,a1,hc,hl⟩:=DU ht;subst f;have p:(b++replicate m z).length=(n+m)*1:=by rw[ft,l.1,Iz];omega
 have o:∀base,Builtin.zeroCells r.cells base=(replicate base z).toArray:=fun base=>by rw[show r.cells=#[z] by rw[hc],WE]
 have b7:IntKind.i64.wrap (m:Int)=m:=by rw[IntKind.wrap_i64];omega
 have f:(n+m)*i.bytes≤1048576*i.bytes:=WN _ b3;have f:m*i.bytes≤(n+m)*i.bytes:=WN _ G;have a7:¬(281474976710656<(m:Int)*(i.bytes:Int)):=by
  rw[←Acf];omega
 have b5:¬((m:Int)<0):=G;have b8:∀W:World,(zeroValue e).run P W= .ok r W:=fun W=>by simp[zeroValue,typeInfo,hi,a1]
 rcases l.2 with⟨rfl,A,rfl⟩|⟨g,cap,j,J,rfl,b0,hg,kn,b4,b1,f,b6,LF⟩
 ·omega
 by_cases U:n+m≤cap
 ·have b2:n*1+(replicate m z).length≤j.size:=by rw[Iz,f];omega
  have f:=ER (P:=P) g (n*1) e J (replicate m z) 0 j w hg kn (by simpa using b2) (fun y hy=>by rw[(List.mem_replicate.1 hy).2];exact a6);simp only[Aeg] at f;refine⟨_,_,?_,⟨p,Qs ⟨g,cap,_,J,Z,b0,Agq w g j (j.toList.take (n*1)++replicate m z++j.toList.drop (n*1+(replicate m z).length)).toArray e _ hg,?_,U,b1,?_,?_⟩⟩,
   ⟨Z,Z,Z,by simp,fun base _ O=>Ahb w g base _ (fun e=>O (by rw[Bh LF,e]))⟩, .inl (by rw[Bh LF,Bh LF])⟩
  ·by_cases j:m=0
   ·subst j;simp only[Aej] at f⊢;have J:IntKind.i64.wrap 0=0:=by decide
    simp only[Acn] at f;simp[Builtin.append_,Aaj hu,Aaj I,sizeOf,typeInfo,hi,asInt,asIntOf,b4,C,add_lit,f,J]
   simp only[Acn] at f;simp[Builtin.append_,Aaj hu,Aaj I,sizeOf,typeInfo,hi,asInt,asIntOf,U,C,add_lit,f,b7,b5,a7,j,b8,o]
  ·intro h;have:=kn h;simp only[Abz,ft,kL,kK,Ac7];omega
  ·simp only[Abz,ft,kL,kK,Ac7];omega
  rw[b6,←p];exact Aco
 have f:=Ab8 (P:=P) w.drew 1 n ⟨g,0,none⟩ n cap b l.1 (l.cells (g:=g) (Bh LF));have j:=Lib.run_append_grow_zeros (P:=P) w t tn ty e i r kq R hu I hi a1 (some ⟨g,0,none⟩) n cap b (by rw[C];exact f) m G G G G G (Agr G G);have f:=Ags w (n+m) cap e;have i:=Ag5 w (n+m) cap e (by unfold maxLen;omega);refine⟨_,_,j,⟨p,Qs ⟨w.heap.size,_,_,(0,0),Z,a8,Aex w.drew _,fun h=>by simp at h,f,i,?_,?_⟩⟩,⟨Z,Z,Z,by simp,fun base O _=>by rw[Agz w.drew _ base (by simpa using O)];rfl⟩, .inr (Bh G)⟩
 ·rw[o,o];have:=l.1;simp only[Ag4,Abz,Iz];omega
 rw[o,o];simp only[Ago];rw[←p];exact Aco
theorem Nl{kq:IntKind}(ht:JQ P t=some (e,1,by_,[z]))(J:P.underlying tn=some (.int R))(j:AJ c w i e 1 a n b)(hx:BY env f=some a)(hy:BY env K=some (.int kq (m:Int)))(l:z.oneCell'=true)(C:0<n)(r:n+m≤1048576)(p:1048576*by_≤140737488355328):
 Hh P env w (.call ⟨.builtin .append,#[f,K],#[t,tn]⟩) ty (fun v' w'=>∃c',Mv c w c' w' [i]∧AJ c' w' i e 1 v' (n+m) (b++replicate m z)):=
 Cr fun _ v x d pos kn g=>by
  obtain⟨v',w',I,o⟩:=Sp (P:=P) (w:=w) (ty:=ty) (kq:=kq) ht J l j.own C r p (Wm _);exact⟨v',w',by simp[execOp,resolve,invoke,builtin,x.eval hx,x.eval hy,I],o.mvC j⟩
end
end
theorem mN{t:Tx}(h:z.ok)(ht:t.length≤2000):Calls QP 102 #[.agg (DB z).toArray,St t] w (Bt fun v w'=>AZ w w'∧∃r,v= .tuple #[r,I 0]∧CJ w' w.heap.size 9 1 r (EU z t).length ((EU z t).map St)):=by
 have j:=h;obtain⟨g,f,f,i,f⟩:=id h;obtain⟨P,f⟩:∃P,P=z.k*z.size:=⟨_,Z⟩;have C:1≤P:=by rw[f];exact WO g i
 have g:P≤8*200:=by rw[f];exact WO G G
 have J:(z.k:Int)*(z.size:Int)=(P:Nat):=by rw[f];simp
 obtain⟨R,i⟩:∃R,R=EU z t:=⟨_,Z⟩;have g:=(GM z (by rw[←f];omega) t).1;rw[←i] at g⊢;have l:R.length≤4000:=by
  rw[g,BI,←f];have:=Afb (t.length+P-1) P;omega
 rw[EU,←f] at i;obtain⟨c,hO,f⟩:=Ay w;refine AY 36 #[.tmp 4, .tmp 5] func102 Z<|Q<|Fa c 102 fun w1 b2 c1 f g=>?_;refine za Z<|V Z<|Ag<|An<|Q<|E (Ba CP Z g.AE Z)<|ve (Ac c1 1 (Ab YM Z (KP j))) ?_;rintro v10 w2 ⟨c2,f,f,rfl⟩;refine E (BL Z)<|V Z<|Cz Z (fun f=>?_) fun f=>?_
 ·exact absurd f Bb
 refine Q<|M Z<|E (Ey underlying9 Z)<|E (CM Z Z)<|V Z<|Cz Z (fun f=>?_) fun f=>?_
 ·exact absurd f (by simp;omega)
 refine As<|Q<|V Z<|Ag<|An ?_;refine AG (σ:=List Tx×Tx×Value) (fun f=>[(1,St f.2.1),(2, .pointer (some ⟨b2,0,none⟩)),(6,f.2.2)]) (fun f w'=>(f.1++Eo P f.2.1.length f.2.1=R∧f.2.1.length≤2000)∧∃c',CD w c' w'∧AI c' w' 102 b2 (DB z) 29∧AJ c' w' 6 9 1 f.2.2 f.1.length (f.1.map St)) (fun f=>f.2.1.length) ([],t, .slice none 0 0) AL ⟨⟨by rw[i];rfl,ht⟩,_,hO.D,g.D,Br _ _ _ _ _⟩ ?_;rintro⟨Djq,u,v6⟩ f ⟨⟨i,hu⟩,p,hO,g,f⟩;dsimp only at i hu hO g f;have j:=congrArg List.length i;rw[List.length_append] at j;refine Ag<|Q<|M Z<|E (tJ Z Z)<|Ah<|BA Z (fun l=>?_) fun l=>?_
 ·have o:u≠[]:=by intro e;rw[e] at l;simp at l
  have j:0<u.length:=Adt.2 o;rw[Om P C o] at i;have j:=f.AA;have j:=f.AD;refine As<|An<|Q<|M Z<|E (Ey underlying9 Z)<|E (Aa CN Z)<|E (Al AF Z g.AE Z)<|E (Aa DO Z)<|E (Al AF Z g.AE Z)<|E (HK Z Z Ai Ai)<|E (qz Z Z) ?_;obtain⟨n,j⟩:∃n:Nat,n=min u.length P:=⟨_,Z⟩;rw[show min (u.length:Int) ((z.k:Int)*(z.size:Int))=(n:Nat) by rw[J];omega];obtain⟨hT,C⟩:=mM j;refine V Z<|AM p [6] [0,0,0,0,2,2,0,0,0,0,0] [0,1,2,3,6,7,8,4,5,9,10] fun j j j=>?_;refine Bm Z Z<|Bm Z Z<|Bm Z Z<|AN Z (IN underlying9 Z Z Ai Ai)<|Bm Z Z<|Bm Z Z<|AN Z (GB underlying9 Z Z Ai Ai) ?_;refine Db Z (AH p 130 Ch Z Z Z Z Z) ?_;rintro _ p ⟨p,p,rfl,J,p⟩;refine j.Bl J fun j=>Db Z (Ax Ch Z Z f.D (Aw underlying37 p.AE.AT Z Bg) Fh Fg) ?_;rintro J J ⟨J,J,f⟩;refine j.Bl J fun j=>?_;refine Ir Z Z<|Ir Z Z<|AP ?_;rw[TJ,C];exact⟨(Djq++[u.take P],u.drop P,_),AL,⟨⟨by rw[oo];exact i,by rw[kK];omega⟩,_,hO.D,g.D,by rw[←hT];simpa using f⟩,by show(u.drop P).length<u.length;rw[kK];omega⟩
 have o:u=[]:=by simpa using l
 subst o;rw[Ace,Eo,Aaz] at i;subst i;refine Az Z<|Q<|M Z<|za Z<|V Z<|BR Z Z Z ?_;exact⟨hO.below,_,Z,f.Mw hO AO⟩
def PW(s:Wn):List Value:=[I s.Gn,I s.index,I s.gen,St s.text]
def aaD:Wn:=⟨0,0,0,[]⟩
theorem On(f:n≤1000000):Calls QP 73 #[I n] w (Bt fun v w'=>AZ w w'∧v=I (Ca n:Nat)):=by
 have hK:FY w w:=Bf w;refine AY 9 #[.tmp 2] func73 Z<|Q<|V Z<|Q<|M Z<|E (Bc Z Z Ai Ai)<|E (Bc Z Z Ai Ai) ?_;refine E (Bc Z Z Ai Ai)<|E (Gu Z Z Ai Ai)<|E (dD Z Z Ai Ai Ai)<|V Z ?_;refine Af Z Z<|⟨hK,?_⟩;rw[Ca,show(15:Int)+(n:Int)+8+64-1=((15+n+8+64-1:Nat):Int) by omega];rfl
theorem iS:Calls QP 198 #[St W] w (Bt fun v w'=>AZ w w'∧v= .bool (!decide (W.length=64))):=by
 have hK:FY w w:=Bf w;refine AY 6 #[.tmp 2] func198 Z<|Q<|V Z<|Q<|M Z<|E (Ey underlying9 Z)<|E (BK Z Z)<|V Z<|Af Z Z ?_;have e:(((W.length:Nat):Int)=(64:Int))↔W.length=64:=G;exact⟨hK,by simp[e]⟩
theorem qA{s:Wn}:Calls QP 200 #[.agg (PW s).toArray] w (Bt fun v w'=>AZ w w'∧v= .bool (Nb s)):=by
 obtain⟨c,hO,j⟩:=Ay w;refine AY 43 #[.tmp 2] func200 Z<|Q<|Fa c 101 fun w1 b1 c1 l f=>?_;refine V Z<|Q<|E (Aa QI Z)<|E (Al AF Z f.AE Z)<|E (Dh Z Z)<|M Z ?_;apply AW true 3 _ CK
 ·intro J;refine wo<|E (Aa QI Z)<|wo<|E (Al AF Z f.AE Z)<|wo<|E (Gw Z Z) ?_;exact EQ 3
 refine M Z ?_;apply AW true 3 _ CK
 ·intro o;refine wo<|E (Aa QK Z)<|wo<|E (Al AF Z f.AE Z)<|wo<|E (Dh Z Z) ?_;exact EQ 3
 refine M Z ?_;apply AW true 3 _ CK
 ·intro p;refine wo<|E (Aa QK Z)<|wo<|E (Al AF Z f.AE Z)<|wo<|E (Gw Z Z) ?_;exact EQ 3
 refine M Z ?_;apply AW true 3 _ CK
 ·intro r;refine wo<|E (Aa QJ Z)<|wo<|E (Al AF Z f.AE Z)<|wo<|E (Dh Z Z) ?_;exact EQ 3
 refine M Z ?_;apply AW true 3 _ CK
 ·intro t;refine wo<|E (Aa QJ Z)<|wo<|E (Al AF Z f.AE Z)<|wo<|E (AX Z Z) ?_;exact EQ 3
 refine M Z ?_;apply AW true 4 _ CK
 ·intro C;refine wo<|E (Aa Lg Z)<|wo<|E (Al CQ Z f.AE Z)<|wo<|E (Ey underlying9 Z)<|wo<|E (Dh Z Z) ?_;exact EQ 4
 refine M Z ?_;apply AW true 4 _ CK
 ·intro I;refine wo<|E (Aa Lg Z)<|wo<|E (Al CQ Z f.AE Z)<|wo<|E (Ey underlying9 Z)<|wo<|E (Gw Z Z) ?_;exact EQ 4
 refine V Z<|Af Z Z ?_;have g:((1:Int)≤(s.text.length:Int))↔1≤s.text.length:=G;have i:((s.text.length:Int)≤120)↔s.text.length≤120:=G;exact⟨hO.D.below,by simp[Nb,g,i,Aho]⟩
theorem iT{o b:List Tx}(g:Rd DQ w a o)(j:Rd DQ w y b):
 Calls QP 201 #[a,y] w (Bt fun v w'=>AZ w w'∧v= .bool (decide (o=b))):=by
 have hK:FY w w:=Bf w;have f:=g.vW;refine AY 26 #[.tmp 4] func201 Z<|Q<|V Z<|Ag<|Q<|M Z ?_
 first|refine E (Ez Ch (by assumption) Z) ?_|refine E (Fo underlying37 Z) ?_
 refine M Z ?_
 first|refine E (Ez Ch (by assumption) Z) ?_|refine E (Fo underlying37 Z) ?_
 refine E (BK Z Z)<|Ah<|BA Z (fun f=>?_) fun f=>?_
 ·have:o≠b:=fun e=>by subst e;omega
  refine Q<|V Z<|Af Z Z ?_;exact⟨hK,by simp[this]⟩
 refine As<|Ag<|Q<|M Z ?_
 first|refine E (Ez Ch (by assumption) Z) ?_|refine E (Fo underlying37 Z) ?_
 refine M Z<|Ah<|An<|AG (σ:=Nat) (fun k=>[(0,a),(1,y),(12,I o.length),(13,I k)]) (fun k w'=>Rd DQ w' a o∧Rd DQ w' y b∧FY w w'∧k≤o.length∧o.take k=b.take k) (fun k=>o.length-k) 0 AL ⟨g,j,hK,G,Z⟩ ?_;rintro k f ⟨g,j,hK,O,r⟩;have i:o.length=b.length:=G;refine Q<|E (AX Z Z)<|Ah<|Ag<|BA Z (fun i=>?_) fun i=>?_
 ·have ka:k<o.length:=G;have kb:k<b.length:=G;obtain⟨i,t,rfl,i⟩:=g.el ka;obtain⟨i,C,rfl,i⟩:=j.el kb;refine As<|Ag<|An<|Q<|M Z<|V Z<|Ag<|Fq (Below f.heap.size f) [0,0,0,1,0,0,0,1,0] [0,1,2,3,4,5,6,7,8] mixed Ao ?_;have i:Below f.heap.size f f.drew:=(Aar _ _).drew;have l:Below f.heap.size f f.drew:=(Aar _ _).drew;generalize f.drew=w1 at i l⊢;refine Bm Z Z<|Bm Z Z<|AN Z (BJ Ch (by assumption) Z Z Z Ai Ai)<|qc Z Z Z l (fun W f=>Cc CQ Z (t.up f)) Z<|Bm Z Z<|Bm Z Z<|AN Z (BJ Ch (by assumption) Z Z Z Ai Ai)<|qc Z Z Z l (fun W f=>Cc CQ Z (C.up f)) Z<|AN Z (tJ Z Z) ?_;refine AP ?_;refine BA Z (fun f=>?_) fun f=>?_
  ·replace f:o[k]≠b[k]:=by simpa using f
   refine Q<|V Z<|Af Z Z ?_;exact⟨(hK.up i),by simp[fB ka kb f]⟩
  replace f:o[k]=b[k]:=by simpa using f
  refine As<|cg<|E (Bc Z Z Ai Ai)<|M Z<|Ah ?_;exact⟨k+1,AL,⟨(g.up i),(j.up i),(hK.up i),ka,WZ ka kb r f⟩,G⟩
 refine Az Z<|Q<|V Z<|Af Z Z ?_;exact⟨hK,by simp[ar r G G]⟩
theorem iU{c:Nat→Nat}(hv:a.oneCell'=true)(p:a.cells=#[a]):Calls QP 246 #[a,I 64] w (Bt fun u w'=>AZ w w'∧∃b2 b3,u= .func (.func 285) #[] #[.pointer (some ⟨b2,0,none⟩), .pointer (some ⟨b3,0,none⟩)]∧(w.heap.size≤b2∧w.heap.size≤b3)∧Gt w' b2 [a] 74∧Gt w' b3 [I 64] 3):=by
 obtain⟨c,hO,hc⟩:=Ay w;refine AY 9 #[.tmp 4] func246 Z<|Q<|Mn c 102 fun w1 b2 c1 j f=>?_;refine Mn c1 103 fun w2 b3 c2 g AR=>?_;refine V Z<|Ag<|Q<|E (Al AF Z AR.AE Z)<|E (AX Z Z)<|Ah<|Cz Z (fun i=>?_) fun i=>?_
 ·exact absurd i Bb
 refine As<|Q<|E (Dn Z)<|V Z<|Af Z Z ?_;replace hO:=(hO.D j).D g;replace f:=f.D g;have l:w.heap.size≤b2:=by
  rcases Aab b2 w.heap.size with h|h
  ·have:=hO.BF _ h;rw[f.BF] at this;cases this
  exact h
 have o:w.heap.size≤b3:=by
  rcases Aab b3 w.heap.size with h|h
  ·have:=hO.BF _ h;rw[AR.BF] at this;cases this
  exact h
 exact⟨hO.below,_,_,Z,⟨l,o⟩,f.AE,AR.AE⟩
theorem ek{cap:Nat}(f:AI j h 76 k [.slice (some ⟨n,0,none⟩) (64*i) cap] 74)(AR:AI j h 76 m [I 64] 3)(a7:i≤1000)(a6:64*i≤cap):
 LH QP 285 [.pointer (some ⟨k,0,none⟩), .pointer (some ⟨m,0,none⟩)] (fun b2:Nat=>[.slice (some ⟨n,64*b2,none⟩) 64 64]) [] [76] (List.range i) j h:=by
 intro l J c0 c1 W K c0 hK p o hy r;have o:∀q∈[76],AU K q=false:=fun q hi=>BD hK (by simpa using hi);replace f:=f.D c0 (o 76 Bb);replace AR:=AR.D c0 (o 76 Bb);have hJ:JC (J []) [] c1 W:=⟨r,fun _ _ _ _ w0 b3=>p _ _ _ _ _ w0 b3⟩;show Calls _ _ [_,_,_].toArray _ _
 refine AY 31 #[] func285 Z<|Q<|V Z<|An<|AG (σ:=Nat) (fun q=>[(0, .func (.yield l) #[] #[]),(1, .pointer (some ⟨k,0,none⟩)),(2, .pointer (some ⟨m,0,none⟩)),(4,I ((64*q:Nat):Int))]) (fun q w'=>q≤i∧∃c',AI c' w' 76 k [.slice (some ⟨n,0,none⟩) (64*i) cap] 74∧AI c' w' 76 m [I 64] 3∧JC (J (List.range q)) [] c' w') (fun q=>i-q) 0 AL ⟨G,_,f,AR,hJ⟩ ?_;rintro q c0 ⟨hi,c0,f,AR,hJ⟩;refine Ag<|Q<|M Z<|E (Al Pq Z f.AE Z)<|E (BN EE) ?_;refine E (AX Z Z)<|Ah<|BA Z (fun o=>?_) fun o=>?_
 ·have o:q<i:=G;refine As<|Ag<|An<|Ag<|AM c0 [] [1,1,0,0,0,0,0] [0,1,2,3,4,5,6] fun w1 o c0=>?_;refine vc Z c0.kp (AR.D.kb AF Z Z)<|vc Z c0.kp (f.D.kb Pq Z Z)<|Bm Z Z<|AN Z (DJ EE Z Z G G)<|AN Z (BN EE) ?_;refine AN Z (qz Z Z)<|Ir Z Z<|AP ?_;refine Ag ?_;rw[show min (64:Int) ((64*i-(((64*q:Nat):Int)).toNat:Nat):Int)=((64:Nat):Int) by omega];refine cg<|M Z<|E (Al Pq Z f.D.AE Z)<|M Z<|M Z<|M Z<|E (Bc Z Z Ai Ai)<|M Z<|M Z ?_;refine E (Bc Z Z Ai Ai) ?_;have c0:((64*q:Nat):Int)+((64:Nat):Int)=((64*q+64:Nat):Int):=G;rw[c0];refine E (yK EE Z Z Z Z G G G) ?_;rw[show(if 64*q+64=64*q then(some (⟨n,0,none⟩:Addr)) else(some (⟨n,0,none⟩:Addr)).map (·.add (64*q*1)))=some ⟨n,64*q,none⟩ by rw[ss G];simp[add_lit],show 64*q+64-64*q=64 by omega];have c0:List.range q++[q]<+:List.range i:=by
   rw[←Abf];exact⟨(List.range (i-(q+1))).map (·+(q+1)),by rw[show i=(q+1)+(i-(q+1)) by omega,Agf];simp[Adi]⟩
  obtain⟨r,r,t⟩:=hy _ _ _ _ (hJ.D o).AB c0;refine ve (FQ Z Z t) ?_;rintro _ a1 ⟨b,U,rfl,c0,R,C⟩;replace f:=f.D o;replace AR:=AR.D o;replace f:=f.D c0 (BD r Bb);replace AR:=AR.D c0 (BD r Bb);refine E (BL Z)<|Ah<|BA Z (fun o=>?_) fun o=>?_
  ·refine FK Z ?_;exact⟨_, .inr ⟨_,C o⟩⟩
  have hJ:JC (J (List.range (q+1))) [] U a1:=⟨by rw[Abf];exact R o,fun _ _ _ _ w0 b3=>p _ _ _ _ _ w0 b3⟩;refine As<|cg<|M Z<|E (Al AF Z AR.AE Z)<|E (Bc Z Z Ai Ai)<|V Z ?_;exact⟨q+1,AL,⟨G,_,f,AR,hJ⟩,G⟩
 have e:q=i:=G;subst e;refine Az Z<|⟨_,_,Z,Z,?_⟩;exact⟨Z,_, .inl hJ.AB⟩
theorem AJ.ae{ys:List Value}(h:AJ c w i d k a n b)(hx:b=ys)(f:n=m):AJ c w i d k a m ys:=by subst hx f;exact h
theorem PX{s:Wn}(h:Nb s=true):(0≤s.Gn∧s.Gn≤1073741824)∧(0≤s.gen∧s.gen≤1073741824)∧(0≤s.index∧s.index<14)∧1≤s.text.length∧s.text.length≤120:=by
 simp only[Nb,kg,pn] at h;obtain⟨⟨⟨⟨f,g⟩,i,j⟩,l,o⟩,p,r⟩:=h;exact⟨⟨f,g⟩,⟨i,j⟩,⟨l,o⟩,p,r⟩
theorem Rw(n:Nat):∀(q:Nat) (l:Tx),l.length=q*n→0<n→Eo n q l=(List.range q).map fun k=>(l.drop (n*k)).take n
 |0,_,_,_=>rfl
 |q+1,l,h,g=>by
  have i:(q+1)*n=q*n+n:=by rw[Aad,Aa2]
  have f:l≠[]:=by
   intro e;rw[e] at h;simp at h;omega
  rw[Eo,ss f,Rw n q (l.drop n) (by rw[kK];omega) g,List.range_succ_eq_map,Aci,Acu,Nat.mul_zero,Adl];congr 1;apply Abw;intro k _;simp only[Function.comp,Ab7];rw[Nat.succ_eq_add_one,Nat.mul_succ,Adi]
theorem XG{s:Wn}(b4:Nb s=true):Calls QP 176 #[.agg (PW s).toArray] w (Bt fun v w'=>AZ w w'∧CJ w' w.heap.size 9 1 v (Gb s).length ((Gb s).map St)):=by
 obtain⟨⟨f,f⟩,⟨f,f⟩,⟨f,f⟩,f,f⟩:=PX b4;have J:=Xg s;have f:=Xf s;have a8:=Se s;have R:=Sd s.text.length;have a6:Ca s.text.length≤3:=by unfold Ca;omega
 obtain⟨c,hO,f⟩:=Ay w;refine AY 53 #[.cell 2 37] func176 Z<|Q<|Fa c 101 fun w1 b1 c1 f j=>?_;refine EK c1 102 dK fun w2 b2 c2 a1 i=>Ah<|Ag<|AM c2 [8] [2,2,0,1,0,2,0,1,0,2,0] [2,3,4,6,7,8,0,1,5,9,10] fun f f f=>?_;have o:=j;have C:=i;refine AN Z (Aa QI Z)<|vc Z f.kp (o.D.kb AF Z Z)<|AN Z (ED underlying3 underlying278 Z Ai Ai)<|AN Z (Aa QK Z)<|vc Z f.kp (o.D.kb AF Z Z)<|AN Z (ED underlying3 underlying278 Z Ai Ai) ?_;refine Db Z (Ht c2 8 EE Z Z Z (by simp[Value.cells]) Z Z) ?_;rintro _ r ⟨b5,r,rfl,r,Bv⟩;refine f.Bl r fun f=>Db Z ((Kx underlying74 underlying5 Z Bv Z AO)) ?_;rintro v6 r ⟨r,r,rfl,hv⟩;refine f.Bl r fun f=>?_;replace hv:AJ _ _ 8 5 1 _ 4 (AS [83,72,82,68]):=hv;refine Db Z (Ab Li Z (LP hv s.Gn 4 AO AO G)) ?_;rintro v10 r ⟨r,r,hv⟩;refine f.Bl r fun f=>Db Z (Ab Li Z (LP hv s.gen 4 AO AO G)) ?_;rintro r r ⟨r,t,hv⟩;refine f.Bl t fun f=>Ir Z Z<|AP ?_;refine Ag<|AM r [8] [0,0,1,0,2,2,0,1,0,0,2,0,1,2,0] [0,1,2,3,6,7,8,9,11,12,4,5,10,13,14] fun o o f=>?_;refine Bm Z Z<|AN Z (Aa QJ Z)<|vc Z f.kp (j.D.kb AF Z Z)<|AN Z (KT underlying3 underlying5 Z)<|AN Z (Aa Lg Z)<|vc Z f.kp (j.D.kb CQ Z Z)<|AN Z (Ey underlying9 Z)<|AN Z (ED underlying3 underlying278 Z Ai Ai)<|AN Z (Aa Lg Z) ?_;refine vc Z f.kp (j.D.kb CQ Z Z)<|Db Z (AH r 119 EE Z Z Z Z Z) ?_;rintro _ o ⟨o,o,rfl,r,o⟩;refine f.Bl r fun f=>Db Z (Ax EE Z Z hv.D (Aw underlying74 o.AE.AT Z Bg) Fh Fg) ?_;rintro v20 r ⟨r,r,hv⟩;refine f.Bl r fun f=>?_;replace hv:=hv.ae (ys:=AS ([83,72,82,68]++be 4 s.Gn++be 4 s.gen++[MO s.index])) (m:=13) (by simp[AS]) (by rfl);refine Db Z (Ab Li Z (LP hv (s.text.length:Nat) 2 AO AO G)) ?_;rintro o o ⟨o,o,hv⟩;refine f.Bl o fun f=>Db Z (Ax EE Z Z hv (vX underlying9) Fh Fg) ?_;rintro o o ⟨o,r,hv⟩;refine f.Bl r fun f=>?_;replace hv:=hv.ae (ys:=AS (Ps s)) (m:=15+s.text.length) (by simp[AS,Ps]) (by rfl);refine Ir Z Z<|AP ?_;refine Q<|M Z<|M Z<|E (Ij underlying74 underlying9 underlying5 Z hv.own)<|ve (Ac o 1 (Ab Uv Z (PG (s:=Ps s) G))) ?_;rintro f f ⟨f,f,f,rfl⟩;refine ve (Ab Li Z (LP hv.D (TA (Ps s):Nat) 8 AO AO G)) ?_;rintro f f ⟨f,o,hv⟩;replace hv:=hv.ae (ys:=AS (QV s)) (m:=23+s.text.length) (by simp[AS,QV]) G;refine V Z<|Q<|M Z<|E (Aa Lg Z)<|E (Al CQ Z j.D.AE Z)<|E (Ey underlying9 Z)<|ve (Ac f 1 (Ab lu Z (On (n:=s.text.length) G))) ?_;rintro f f ⟨f,f,f,rfl⟩;obtain⟨q,U⟩:∃q,q=Ca s.text.length:=⟨_,Z⟩;rw[←U] at a8 R a6⊢;refine E (HK Z Z Ai Ai)<|M Z<|E (Tv EE hv.D Z)<|E (Gu Z Z G G) ?_;rw[show(q:Int)*64-((23+s.text.length:Nat):Int)=((q*64-(23+s.text.length):Nat):Int) by omega];refine ve ((Nl EE underlying3 hv.D Z Z Z G G AO)) ?_;rintro f f ⟨f,o,hv⟩;replace hv:=hv.ae (ys:=AS (IZ s)) (m:=64*q) (by rw[IZ,GI,J,←U];simp[AS]) G;refine V Z<|Ag<|Ag ?_;obtain⟨g,cp,rfl,a7,o⟩:=hv.CT G;refine cg<|M Z<|ve (Ac f 76 (Ab yf Z (iU (c:=c) Z Z))) ?_;rintro f b0 ⟨r,f,f,⟨b8,o,rfl,⟨R,a6⟩,t,C⟩⟩;have J:AI _ _ 76 b8 [.slice (some ⟨g,0,none⟩) (64*q) cp] 74:=⟨t,f _ R⟩;have R:AI _ _ 76 o [I 64] 3:=⟨C,f _ a6⟩;have f:AJ _ _ 2 9 1 (.slice none 0 0) 0 []:=Br r b0 _ _ _;refine Ah<|An<|EJ (α:=Nat) (encs:=fun k=>[.slice (some ⟨g,64*k,none⟩) 64 64]) (κ:=[]) (F:=[76]) (L:=List.range q)
  (fun pre d A=>CD w d A∧AJ d A 8 5 1 (.slice (some ⟨g,0,none⟩) (64*q) cp) (64*q) (AS (IZ s))∧∃o,AI d A 102 b2 [o] 37∧AJ d A 2 9 1 o pre.length (pre.map fun k=>St (((IZ s).drop (64*k)).take 64))) [] (fun _ _ _=>False) [2,102] Z Z yx (ek J R G a7) Z (fun _=>rfl) Bb Z
  (fun s d A b3 B ⟨r,a6,o,a7,b0⟩ m=>⟨r.D m,a6.D m,o,a7.D m,b0.D m⟩) (fun p hp=>by simp at hp) (fun s d A b3 B h _=>h.elim)
  ⟨hO.D,hv.D,_,i.D,f⟩ ?_ ?_ ?_ ?_
 ·clear hO j i hv f J R t C;rintro l pre k d A1 ⟨hO,hv,o,i,f⟩ a6;have r:=Acc.refl d A1 [2,102];refine cg<|V Z<|⟨_,r,?_⟩;intro A2 a1;have r:=Acc.refl d A2 [2,102];have O:k<q:=by
   have:=a6.subset (Abr _ (pv.2 Z));exact Aax.1 this
  have a7:pre.length≤1000:=by
   have:=a6.length_le;rw[ft,Aap] at this;omega
  replace f:=f.D a1;have a6:=f.AD;have a7:=f.AA;refine An<|cg<|E (Al Eh Z i.D.AE Z)<|M Z<|E (br underlying74 underlying9 underlying5 Z hv.D G) ?_;refine ve (AH d 150 Ch Z Z Z Z Z) ?_;rintro _ a1 ⟨a1,a1,rfl,a1,a1⟩;refine ve (Ax Ch Z Z f.D (Aw underlying37 a1.AE.AT Z Bg) Fh Fg) ?_;rintro b0 b0 ⟨b0,b0,f⟩;have a6:=f.AD;have a7:=f.AA;refine Av (Ap Eh Z Z ra ra i.D Z) ?_;rintro _ a1 ⟨i,a1⟩;refine Ah<|⟨_,r.D,hO.D,hv.D,_,i,?_⟩;rw[ft,Aaf];exact f.D
 ·clear hO j i hv f J R t C;rintro j d B ⟨hO,hv,o,i,f⟩ j;have a6:=f.AD;have a7:=f.AA;refine Q<|E (Al Eh Z i.AE Z)<|Av (Ap Eh Z Z ra ra i Z) ?_;rintro _ o ⟨i,o⟩;refine Ah ?_;obtain⟨r,t⟩:=(j.D o).take;refine GF Z Z r (IR Eh Z i.D.AE Z)<|⟨hO.D.below,?_⟩;have i:Gb s=(List.range q).map fun k↦((IZ s).drop (64*k)).take 64:=by rw[Gb,←U];exact Rw 64 q _ a8 G
  rw[i,kr,Acu];exact f.D.Mw hO.D AO
 ·intro p hp;simp at hp
 exact fun _ _ _ _ h=>h.elim
theorem CD.mv0(w0:CD h c' w'):Mv (fun _=>0) h c' w' []:=
 ⟨w0.below.os,w0.below.tape,w0.below.output,w0.below.size,w0.BF,fun k O _=>w0.below.block k O⟩
theorem CD.rd{s:Shape α}(w0:CD h c' w')(f:Rd s h a t):Bu s c' w' [0] a t:=
 EA.D (Rd.Du (c:=fun _=>0) f (fun _ _=>rfl)) w0.mv0 Z
structure Oo (w0:World) (i:Nat) (c:Nat→Nat) (w:World) (b:Nat) (l:List UInt8):Prop where
 is:Go.Lib.IsBuilderF 229 5 w0.heap.size b (Go.Lib.byteCells l) w
 BF:c b=i
 row:∀q v,w.heap[b]?=some (.cells #[q,v] 229 (0,0))→∀k,v.ownBlock=some k→c k=i
theorem bJ{w:World}(h:World.ownsRowF w k d 1 a n b)(O:∀B,a.ownBlock=some B→B<w.heap.size→w'.heap[B]?=w.heap[B]?):World.ownsRowF w' k d 1 a n b:=by
 obtain⟨l,o⟩:=h;refine⟨l,o.imp id ?_⟩;rintro⟨g,cap,i,j,rfl,p,f,r⟩;refine⟨g,cap,i,j,Z,p,?_,r⟩;rw[O g Z (by rcases Aab g w.heap.size with h|h;exact h;rw[Ad6 h] at f;cases f)];exact f
theorem Oo.D{w:World}{c:Nat→Nat}{l:List UInt8}(w0:Oo h i c w k l)(m:Mv c w c' w' e:=by exact Go.Eng.KU)(hi:AU e i=false:=by rfl):Oo h i c' w' k l:=by
 have key:∀b o,w.heap[b]?=some o→c b=i→w'.heap[b]?=some o∧c' b=i:=fun b o O hc=>by
  have j:b<w.heap.size:=by
   rcases Aab b w.heap.size with w0|w0
   ·exact w0
   rw[Ad6 w0] at O;cases O
  exact⟨by rw[m.block b j (by rw[hc];exact hi)];exact O,by rw[m.BF b j];exact hc⟩
 have one:∀q,Go.Lib.BuilderAtF 229 5 h.heap.size k q (Go.Lib.byteCells l) w→Go.Lib.BuilderAtF 229 5 h.heap.size k q (Go.Lib.byteCells l) w'∧c' k=i∧∀q v,w'.heap[k]?=some (.cells #[q,v] 229 (0,0))→∀b,v.ownBlock=some b→c' b=i:=by
  rintro q ⟨f,v,r,t,I⟩;have C:=w0.row _ _ r;obtain⟨p,g2⟩:=key k _ r w0.BF;refine⟨⟨f,v,p,bJ t fun b O j=>?_,I⟩,g2,?_⟩
  ·rw[m.block b j (by rw[C b O];exact hi)]
  intro j v' hv b O;rw[p] at hv;injection hv with hv;injection hv with hv;have:v=v':=(by simpa using hv:q=j∧v=v').2;subst this;obtain⟨_,j⟩:=t;rcases j with⟨rfl,_⟩|⟨g,cap,j,j,rfl,j,j,_⟩
  ·cases O
  injection O with O;subst O;exact(key _ _ j (C _ Z)).2
 rcases w0.is with f|f
 ·obtain⟨a,b1,d⟩:=one _ f;exact⟨.inl a,b1,d⟩
 obtain⟨a,b1,d⟩:=one _ f;exact⟨.inr a,b1,d⟩
theorem uD{w:World}{l:List UInt8}(w0:Go.Lib.IsBuilderF 229 5 h.heap.size k (Go.Lib.byteCells l) w)(t:AZ h w):∃c,CD h c w∧Oo h i c w k l:=by
 refine⟨fun b=>if b<h.heap.size then 0 else i,⟨t,fun b O=>zm O⟩,w0,?_,fun q v hv b O=>?_⟩
 ·have:h.heap.size≤k:=by rcases w0 with⟨w0,_⟩|⟨w0,_⟩<;>exact w0
  exact ss G
 have one:∀f,Go.Lib.BuilderAtF 229 5 h.heap.size k f (Go.Lib.byteCells l) w→h.heap.size≤b:=by
  rintro f ⟨J,v',j,o,R⟩;rw[j] at hv;injection hv with hv;injection hv with hv;have:v'=v:=(by simpa using hv:f=q∧v'=v).2;subst this;obtain⟨_,p⟩:=o;rcases p with⟨rfl,_⟩|⟨g,cap,C,I,rfl,r,U,_⟩
  ·cases O
  injection O with O;subst O;exact r
 have:h.heap.size≤b:=by rcases w0 with w0|w0<;>exact one _ w0
 exact ss G
theorem iV(l:List UInt8):Go.Lib.strCells ⟨l.toArray⟩=Go.Lib.byteCells l:=by simp[Go.Lib.strCells,Go.Lib.byteCells]
theorem iW(a b:List UInt8):Go.Lib.byteCells (a++b)=Go.Lib.byteCells a++Go.Lib.byteCells b:=by simp[Go.Lib.byteCells]
theorem XH{w:World}{l:List UInt8}(hO:CD h c w)(w0:Oo h i c w k l)(hl:l.length+s.length≤1099511627776):Calls QP 144 #[P1 k,St s] w (Bt fun u w'=>u= .tuple #[I s.length, .nilIface]∧∃c',CD h c' w'∧Oo h i c' w' k (l++s)):=by
 have r:=Go.Proofs.Any.Builder_WriteString_k (P:=QP) (ρ:=Og) {gp with} LU h.heap.size k (Go.Lib.byteCells l) ⟨s.toArray⟩ w w0.is (by rw[Go.Lib.byteCells_length,size_mk];omega) hO.below.size;refine r.mono fun e w' p=>?_;obtain⟨rfl,f,g,_⟩:=p;rw[iV,←iW] at f;obtain⟨c',j,o⟩:=uD (i:=i) (.inr f) (hO.below.trans g);exact⟨_,Z,by rw[size_mk],c',j,o⟩
theorem Vk{w:World}(hO:CD h c w)(w0:Oo h i c w k s):Calls QP 146 #[P1 k] w (Bt fun u w'=>u=St s∧AZ h w'):=by
 refine(Tryz.Builder_String_any_k h.heap.size k s w w0.is hO.below.size).mono fun e w' g=>?_;obtain⟨rfl,_,f,_⟩:=g;exact⟨_,Z,Z,hO.below.trans f⟩
theorem Vl(h:Bu FG c w e a P)(O:k<P.length):∃cs,DG c w e (Bz a 6 k) cs∧EA (fun w'=>FG.rd w'.heap.size w' cs P[k]) c w e∧cs.length=6:=by
 obtain⟨cs,g,_,f⟩:=Bu.el h O AO;exact⟨cs,g,f,FG.len f.AB⟩
theorem qB(hi:i<P.length):EL (P.take i)+Jq P[i]≤EL P:=by
 have f:P=P.take i++(P[i]::P.drop (i+1)):=by rw[←Aav hi,Aas]
 have g:EL P=EL (P.take i++(P[i]::P.drop (i+1))):=by rw[←f]
 rw[g,ec,Ng];omega
theorem PY(h:Rd FG w a P)(U:∀r∈P,FT r=true)(a8:EL P≤1000000):Calls QP 156 #[a] w (Bt fun u w'=>AZ w w'∧u=St (Gf 0 P)):=by
 have f:=h.small;obtain⟨c,hO,f⟩:=Ay w;have g:=hO.rd h;refine AY 19 #[.tmp 2] func156 Z<|Q<|V Z<|Q<|EK c 103 ga fun w1 b3 c1 f AR=>?_;refine Ah<|Ag<|Ag ?_;replace hO:=hO.D f;have o:w.heap.size≤b3:=by
  rcases Aab b3 w.heap.size with h|h
  ·have:=hO.BF _ h;rw[AR.BF] at this;cases this
  exact h
 obtain⟨f,j,f⟩:=uD (i:=103) (l:=[]) (.inl ⟨o,_,AR.AE,⟨Z, .inl ⟨Z,Z⟩⟩,fun e=>by cases e⟩) hO.below;have hO:=j;have g:=j.rd h;refine cg<|M Z<|E (BN GQ) ?_;refine M Z<|Ah<|An<|AG (σ:=Nat) (fun i=>[(3,P1 b3),(6,a),(7,I P.length),(8,I i)]) (fun i w'=>i≤P.length∧∃c',CD w c' w'∧Bu FG c' w' [0] a P∧Oo w 103 c' w' b3 (Gf 0 (P.take i))) (fun i=>P.length-i) 0 AL ⟨Wm _,_,hO,g,f⟩ ?_;rintro i j ⟨hi,o,hO,g,f⟩;refine Q<|E (AX Z Z)<|Ah<|Ag<|BA Z (fun j=>?_) fun j=>?_
 ·have j:i<P.length:=G;obtain⟨cs,C,p,J⟩:=Vl g j;have a1:=U _ (mv j);have t:=qB j;obtain⟨vl,vs,R,a6,a7,_⟩:=p.AB;have b0:=a6.AD;have a6:=a7.AD;subst R;refine As<|Ag<|An<|Q<|M Z<|E (Cv GQ) ?_;refine E (DT Df Z C.DF Z)<|EK o 105 Kw fun w2 b5 c2 o Bv=>?_;refine za Z<|Av (Am Df Z Z Bv Z Z Bg) ?_;rintro _ o ⟨Bv,o⟩;refine Ah<|cg<|E (Ba Df Z Bv.AE Z)<|M Z<|ve (Ac c2 1 (Ab ya Z (im (r:=P[i]) (n:=((i:Nat):Int)) p.D.AB a1))) ?_;rintro o o ⟨o,o,o,rfl⟩;refine ve (Ab sk Z (XH (l:=Gf 0 (P.take i)) (s:=Hc P[i] ((i:Nat):Int)) hO.D f.D (by rw[Gr,Nc];rw[Jq] at t;omega))) ?_;rintro _ J ⟨rfl,o,o,t⟩;have hO:=o;have f:=t;have g:=o.rd h;refine Ah<|cg<|E (Bc Z Z Ai Ai)<|M Z<|Ah ?_;have e:Gf 0 (P.take (i+1))=Gf 0 (P.take i)++Hc P[i] ((i:Nat):Int):=by
   rw[pk j,Xu,kL,show 0+min i P.length=i by omega]
  exact⟨i+1,AL,⟨G,_,hO,g,by rw[e];exact f⟩,G⟩
 have e:i=P.length:=G;subst e;rw[Abi] at f;refine Az Z<|Q<|ve (Ab sm Z (Vk hO f)) ?_;rintro _ J ⟨rfl,f⟩;refine V Z<|Af Z Z ?_;exact⟨f,Z⟩
theorem mO(hl:life≤4611686018427387904):Calls QP 157 #[I life] w (Bt fun u w'=>AZ w w'∧∃s:Tx,s.length=64∧u=St s):=by
 obtain⟨c,hO,f⟩:=Ay w;refine AY 20 #[.tmp 2] func157 Z<|Q<|V Z<|Q<|ve (Ht c 8 EE Z Z Z (by simp[Value.cells]) Z Z) ?_;rintro _ w1 ⟨b4,c1,rfl,f,Bd⟩;refine ve ((Kx underlying74 underlying5 Z Bd Z AO)) ?_;rintro f w2 ⟨c2,f,rfl,hv⟩;replace hv:AJ _ _ 8 5 1 _ 8 (AS [115,105,108,111,32,108,111,103]):=hv;refine M Z<|E (ED underlying3 underlying278 Z Ai Ai) ?_;refine ve (Ab Li Z (LP hv (life:Int) 8 AO AO G)) ?_;rintro f f ⟨g,f,hv⟩;refine V Z<|Ag ?_;obtain⟨H,f⟩:∃H,H=[115,105,108,111,32,108,111,103]++be 8 (life:Int):=⟨_,Z⟩;have i:H.length=16:=by rw[f];simp[Be]
 replace hv:=hv.ae (ys:=AS H) (m:=16) (by rw[f];rfl) Z;refine cg<|M Z<|M Z<|E (Ij underlying74 underlying9 underlying5 Z hv.own)<|ve (Ac g 1 (Ab Uv Z (PG (s:=H) G))) ?_;rintro f f ⟨f,f,f,rfl⟩;refine ve (Ab Li Z (LP hv.D (TA H:Nat) 8 AO AO G)) ?_;rintro f f ⟨f,f,hv⟩;refine V Z<|Ag ?_;obtain⟨f,g⟩:∃f,f=H++be 8 ((TA H:Nat):Int):=⟨_,Z⟩;have j:f.length=24:=by rw[g,ft,Be,i]
 replace hv:=hv.ae (ys:=AS f) (m:=24) (by rw[g];rfl) Z;refine cg<|M Z<|M Z<|E (Tv EE hv Z)<|E (Gu Z Z G G) ?_;rw[show(64:Int)-((24:Nat):Int)=((40:Nat):Int) by omega];refine ve ((Nl EE underlying3 hv Z Z Z G G AO)) ?_;rintro g g ⟨g,g,hv⟩;replace hv:=hv.ae (ys:=AS (f++replicate 40 0)) (m:=64) (by rw[GI];simp[AS]) G;refine E (Ij underlying74 underlying9 underlying5 Z hv.own)<|V Z<|Af Z Z ?_;exact⟨hO.D.below,_,by rw[ft,j,Iz],Z⟩
structure SV where
 v:Value
 one:v.oneCell'=true
abbrev Gs:=CV×SV
variable {U:List Gs}
abbrev Vm:=KA×SV
def CL(x:Gs):List Value:=[I x.1.id,I x.1.len,I x.1.gen,x.2.v]
def Fk(x:Vm):List Value:=[St x.1.AK,I x.1.len, .bool x.1.ur,x.2.v]
theorem EW(x:Gs):(CL x).length=4:=rfl
theorem Gc(x:Vm):(Fk x).length=4:=rfl
theorem Lo(x:Gs):∀u∈CL x,u.oneCell'=true:=fun u hu=>by simp[CL] at hu;rcases hu with rfl|rfl|rfl|rfl<;>first|rfl|exact x.2.one
theorem Lp(x:Vm):∀u∈Fk x,u.oneCell'=true:=fun u hu=>by simp[Fk] at hu;rcases hu with rfl|rfl|rfl|rfl<;>first|rfl|exact x.2.one
theorem qC(w:World)(args:Array Value)(h:(Extern.SlicesOverlaps.overlaps #[54,54] #[4] args).run QP w= .ok (.bool false) w):(callFunc 229 args).run QP w= .ok (.value (.bool false)) w:=by
 rw[run_callFunc_extern func229 Ao Ao Ao (e:=Extern.SlicesOverlaps.overlaps #[54,54] #[4]) Ao,h];rfl
theorem qD{v:Value}{j:Nat}{x:Gs}(h:AJ c w 121 115 4 v U.length (U.flatMap CL))(p:AI c w j n (CL x) 115)(b3:AU [121] j=false)(O:k≤U.length)(hl:U.length≤1000):Calls QP 159 #[v,I k, .slice (some ⟨n,0,none⟩) 1 1] w (Bt fun v' w'=>∃c',Mv c w c' w' [121]∧AJ c' w' 121 115 4 v' (U.length+1) ((U.take k++x::U.drop k).flatMap CL)):=by
 have hJ:=BE.start c w [121];have f:=h.Dt (J:=[121]) Z;replace p:=p.Oc (J:=[121]) b3;generalize Bw c [121]=c0 at hJ f p;have C:=EW x;have b0:=LQ Lo U;have a7:=EN EW U;have a1:=Lo x;obtain⟨A,cp,rfl,o,o⟩:=f.own.len;have r:cp≤9223372036854775807:=by rw[HE] at o;omega
 refine AY 95 #[.tmp 6] func159 Z<|Q<|V Z<|Q<|M Z<|M Z<|E (DJ Di Z Z G G) ?_;refine Ah<|Q<|M Z<|E (BN Di) ?_;refine V Z<|Ag<|Q<|M Z<|E (BO Z Z)<|Ah<|Cz Z (fun o=>?_) fun o=>?_
 ·exact absurd (Adf o) AO
 refine As<|Q<|M Z<|E (BN Di) ?_;refine V Z<|Ag<|Q<|M Z<|M Z<|E (BO Z Z)<|Ah<|BA Z (fun r=>?_) fun r=>?_
 ·have r:k=U.length:=G;subst r;refine Q<|M Z<|M Z<|ve (Ax Di Z Z f (Aw underlying54 p.AE.AT C a1) Fh Fg) ?_;rintro r w1 ⟨c1,r,f⟩;refine V Z<|Af Z Z ?_;exact⟨_,hJ.D.out,by rw[Abi,Ag8,Aan];exact f.out (hJ.D r) Z⟩
 have t:k<U.length:=G;obtain⟨g,t,t,-,-⟩:=f.CT G;injection t with t _ _;subst t;refine As<|Ag<|Q<|M Z<|M Z<|E (Bc Z Z Ai Ai)<|M Z<|E (sO underlying54 Z) ?_;refine E (CM Z Z)<|Ah<|BA Z (fun o=>?_) fun o=>?_
 ·refine Q<|M Z<|M Z ?_;have l:En (.slice (some ⟨g,0,none⟩) U.length cp) 0 (k:Int).toNat 4= .slice (some ⟨g,0,none⟩) k cp:=by simp[En,add_lit]
  have t:=f.to (k:=k) G;rw[show En (.slice (some ⟨g,0,none⟩) U.length cp) 0 k 4= .slice (some ⟨g,0,none⟩) k cp from l] at t;refine E (MV Di Z Z G G) ?_;rw[l];refine M Z<|M Z<|E (Bc Z Z Ai Ai)<|M Z<|E (Gu Z Z Ai Ai) ?_;have o:((U.length:Int)+((1:Nat):Int)-(k:Int))=((U.length+1-k:Nat):Int):=G;rw[o];refine ve (Pv 99 Di underlying3 AO t Z Z G G G AO) ?_;rintro o w1 ⟨c1,r,o,ys,a6,hv,o⟩;rw[TJ] at a6 hv o;rw[show k+(U.length+1-k)=U.length+1 by omega] at hv o;obtain⟨g2,R⟩:∃g2,g2=w.heap.size:=⟨_,Z⟩;rw[←R] at hv;subst hv;refine V Z<|Q<|M Z<|M Z<|E (DJ Di Z Z G G)<|M Z ?_;have R:=Aw (P:=QP) (size:=4) (m:=1) (c:=1) underlying54 (p.D r).AE.AT C a1;have t:Nat.min 1 (U.length+1-k)=1:=Abl G;refine ve (Hz (news:=CL x) (a:=k) Di o G G Z Z R.lenOf (by rw[t];exact R.cells) (by rw[t];exact C) a1) ?_;rintro t w2 ⟨c2,t,a8⟩;replace o:=a8;refine Ah<|Ag ?_;replace hJ:=(hJ.D r).D t;replace f:=(f.D r).D t;replace p:=(p.D r).D t;refine AM c2 [99] [0,0,0,0,0,0,0,0,2] [0,1,2,3,4,5,6,7,8] fun w2 t r=>Bm Z Z<|Bm Z Z<|Bm Z Z<|AN Z (Bc Z Z Ai Ai) ?_;rw[show((k:Int)+((1:Nat):Int))=((k+1:Nat):Int) from Z];refine AN Z (DJ Di Z Z G G) ?_;rw[show((k+1:Nat):Int).toNat=k+1 from Z];refine Bm Z Z<|Bm Z Z<|AN Z (DJ Di Z Z G G) ?_;have a8:=(f.D t).gl (P:=QP) underlying54 b0 (k:=k) G;rw[Jd EW] at a8;have b1:Nat.min (U.length-k) (U.length+1-(k+1))=U.length-k:=Abl G;refine Db Z ((Hz (x:= .tmp 50) (y:= .tmp 53) (news:=(U.drop k).flatMap CL) (a:=k+1) Di o.D G G Z Z a8.lenOf (by rw[b1];exact a8.cells) (by rw[b1,EN EW,kK]) (LQ Lo _))) ?_;rintro a8 a8 ⟨a8,a8,o⟩;refine r.Bl a8 fun r=>AP ?_;refine Q<|M Z<|V Z<|Af Z Z ?_;rw[aR EW O a6 Z Z] at o;obtain⟨b1,b2,b4⟩:=((hJ.D t).D a8).yH (i:=121) (j:=99) Z;exact⟨b1,b2,b4 o⟩
 refine As<|Q<|M Z<|M Z<|M Z<|E (Bc Z Z Ai Ai) ?_;rw[show((U.length:Int)+((1:Nat):Int))=((U.length+1:Nat):Int) from Z];obtain⟨ys,a6,o⟩:=f.wide (k:=1) G;have l:En (.slice (some ⟨g,0,none⟩) U.length cp) 0 ((U.length+1:Nat):Int).toNat 4= .slice (some ⟨g,0,none⟩) (U.length+1) cp:=by simp[En,add_lit]
 rw[show En (.slice (some ⟨g,0,none⟩) U.length cp) 0 (U.length+1) 4= .slice (some ⟨g,0,none⟩) (U.length+1) cp from l] at o;have f:=o;refine E (MV Di Z Z G G) ?_;rw[l];refine V Z<|Ag<|Q<|M Z<|M Z<|M Z<|M Z<|E (Bc Z Z Ai Ai) ?_;rw[show((k:Int)+((1:Nat):Int))=((k+1:Nat):Int) from Z];refine E (DJ Di Z Z G G) ?_;have o:=qC _ _ (Of (P:=QP) (tR:=4) (m:=1) (lo:=k+1) Di p f G AO AO);refine E (mh Z o)<|E (BL Z)<|Ah<|Wr Z (fun l=>?_) fun l=>?_
 ·refine Ag ?_;refine AM c0 [121] [0,0,0,0,0,0,0,0,2] [0,1,2,3,4,5,6,7,8] fun o o r=>Bm Z Z<|Bm Z Z<|Bm Z Z<|AN Z (Bc Z Z Ai Ai) ?_;rw[show((k:Int)+((1:Nat):Int))=((k+1:Nat):Int) from Z];refine AN Z (DJ Di Z Z G G) ?_;rw[show((k+1:Nat):Int).toNat=k+1 from Z];refine Bm Z Z<|Bm Z Z<|AN Z (DJ Di Z Z G G) ?_;have a8:=(f.D o).Sh (P:=QP) (k:=k) (m:=U.length-k) G;have b2:∀W:World,(Builtin.lenOf (En (.slice (some ⟨g,0,none⟩) (U.length+1) cp) k (U.length+1) 4)).run QP W= .ok (U.length+1-k) W:=fun W=>by
   unfold En;dsimp only;split<;>simp[Builtin.lenOf]
  have t:Nat.min (U.length+1-k) (U.length+1-(k+1))=U.length-k:=by rw[show U.length+1-(k+1)=U.length-k by omega];exact Aft G
  have b1:(((U.flatMap CL++ys).drop (k*4)).take ((U.length-k)*4)).length=(U.length-k)*4:=by rw[kL,kK,ft,a7,a6];omega
  have b4:∀y∈((U.flatMap CL++ys).drop (k*4)).take ((U.length-k)*4),y.oneCell'=true:=fun y hy=>by
   rw[Ae7 (by rw[a7];omega),Ade (by rw[kK,a7];omega)] at hy;exact b0 y (Acy (Aca hy))
  refine Db Z ((Hz (x:= .tmp 73) (y:= .tmp 76) (a:=k+1) (m:=U.length+1-k) Di f.D G G Z Z b2 (by rw[t];exact a8) (by rw[t];exact b1) b4)) ?_;rintro t t ⟨t,t,f⟩;refine r.Bl t fun r=>AP ?_;refine Q<|M Z<|M Z<|E (DJ Di Z Z G G) ?_;have R:=Aw (P:=QP) (size:=4) (m:=1) (c:=1) underlying54 ((p.D o).D t).AE.AT C a1;have o:Nat.min 1 (U.length+1-k)=1:=Abl G;refine M Z ?_;refine ve ((Hz (news:=CL x) (a:=k) Di f G G Z Z R.lenOf (by rw[o];exact R.cells) (by rw[o];exact C) a1)) ?_;rintro o o ⟨o,o,f⟩;refine Ah<|Q<|M Z<|V Z<|Af Z Z ?_;rw[Xl EW O a6 Z Z Z] at f;exact⟨_,hJ.D.out,f.out hJ.D Z⟩
 cases l
theorem qE(w:World)(args:Array Value)(h:(Extern.SlicesOverlaps.overlaps #[55,55] #[4] args).run QP w= .ok (.bool false) w):(callFunc 231 args).run QP w= .ok (.value (.bool false)) w:=by
 rw[run_callFunc_extern func231 Ao Ao Ao (e:=Extern.SlicesOverlaps.overlaps #[55,55] #[4]) Ao,h];rfl
theorem qF{v:Value}{l:List Vm}{j:Nat}{x:Vm}(h:AJ c w 123 141 4 v l.length (l.flatMap Fk))(p:AI c w j n (Fk x) 141)(b3:AU [123] j=false)(O:k≤l.length)(hl:l.length≤1000):Calls QP 161 #[v,I k, .slice (some ⟨n,0,none⟩) 1 1] w (Bt fun v' w'=>∃c',Mv c w c' w' [123]∧AJ c' w' 123 141 4 v' (l.length+1) ((l.take k++x::l.drop k).flatMap Fk)):=by
 have hJ:=BE.start c w [123];have f:=h.Dt (J:=[123]) Z;replace p:=p.Oc (J:=[123]) b3;generalize Bw c [123]=c0 at hJ f p;have C:=Gc x;have b0:=LQ Lp l;have a7:=EN Gc l;have a1:=Lp x;obtain⟨A,cp,rfl,o,o⟩:=f.own.len;have r:cp≤9223372036854775807:=by rw[HE] at o;omega
 refine AY 95 #[.tmp 6] func161 Z<|Q<|V Z<|Q<|M Z<|M Z<|E (DJ Ge Z Z G G) ?_;refine Ah<|Q<|M Z<|E (BN Ge) ?_;refine V Z<|Ag<|Q<|M Z<|E (BO Z Z)<|Ah<|Cz Z (fun o=>?_) fun o=>?_
 ·exact absurd (Adf o) AO
 refine As<|Q<|M Z<|E (BN Ge) ?_;refine V Z<|Ag<|Q<|M Z<|M Z<|E (BO Z Z)<|Ah<|BA Z (fun r=>?_) fun r=>?_
 ·have r:k=l.length:=G;subst r;refine Q<|M Z<|M Z<|ve (Ax Ge Z Z f (Aw underlying55 p.AE.AT C a1) Fh Fg) ?_;rintro r w1 ⟨c1,r,f⟩;refine V Z<|Af Z Z ?_;exact⟨_,hJ.D.out,by rw[Abi,Ag8,Aan];exact f.out (hJ.D r) Z⟩
 have t:k<l.length:=G;obtain⟨g,t,t,-,-⟩:=f.CT G;injection t with t _ _;subst t;refine As<|Ag<|Q<|M Z<|M Z<|E (Bc Z Z Ai Ai)<|M Z<|E (sO underlying55 Z) ?_;refine E (CM Z Z)<|Ah<|BA Z (fun o=>?_) fun o=>?_
 ·refine Q<|M Z<|M Z ?_;have U:En (.slice (some ⟨g,0,none⟩) l.length cp) 0 (k:Int).toNat 4= .slice (some ⟨g,0,none⟩) k cp:=by simp[En,add_lit]
  have t:=f.to (k:=k) G;rw[show En (.slice (some ⟨g,0,none⟩) l.length cp) 0 k 4= .slice (some ⟨g,0,none⟩) k cp from U] at t;refine E (MV Ge Z Z G G) ?_;rw[U];refine M Z<|M Z<|E (Bc Z Z Ai Ai)<|M Z<|E (Gu Z Z Ai Ai) ?_;have o:((l.length:Int)+((1:Nat):Int)-(k:Int))=((l.length+1-k:Nat):Int):=G;rw[o];refine ve (Pv 99 Ge underlying3 AO t Z Z G G G AO) ?_;rintro o w1 ⟨c1,r,o,ys,a6,hv,o⟩;rw[TJ] at a6 hv o;rw[show k+(l.length+1-k)=l.length+1 by omega] at hv o;obtain⟨g2,R⟩:∃g2,g2=w.heap.size:=⟨_,Z⟩;rw[←R] at hv;subst hv;refine V Z<|Q<|M Z<|M Z<|E (DJ Ge Z Z G G)<|M Z ?_;have R:=Aw (P:=QP) (size:=4) (m:=1) (c:=1) underlying55 (p.D r).AE.AT C a1;have t:Nat.min 1 (l.length+1-k)=1:=Abl G;refine ve (Hz (news:=Fk x) (a:=k) Ge o G G Z Z R.lenOf (by rw[t];exact R.cells) (by rw[t];exact C) a1) ?_;rintro t w2 ⟨c2,t,a8⟩;replace o:=a8;refine Ah<|Ag ?_;replace hJ:=(hJ.D r).D t;replace f:=(f.D r).D t;replace p:=(p.D r).D t;refine AM c2 [99] [0,0,0,0,0,0,0,0,2] [0,1,2,3,4,5,6,7,8] fun w2 t r=>Bm Z Z<|Bm Z Z<|Bm Z Z<|AN Z (Bc Z Z Ai Ai) ?_;rw[show((k:Int)+((1:Nat):Int))=((k+1:Nat):Int) from Z];refine AN Z (DJ Ge Z Z G G) ?_;rw[show((k+1:Nat):Int).toNat=k+1 from Z];refine Bm Z Z<|Bm Z Z<|AN Z (DJ Ge Z Z G G) ?_;have a8:=(f.D t).gl (P:=QP) underlying55 b0 (k:=k) G;rw[Jd Gc] at a8;have b1:Nat.min (l.length-k) (l.length+1-(k+1))=l.length-k:=Abl G;refine Db Z ((Hz (x:= .tmp 50) (y:= .tmp 53) (news:=(l.drop k).flatMap Fk) (a:=k+1) Ge o.D G G Z Z a8.lenOf (by rw[b1];exact a8.cells) (by rw[b1,EN Gc,kK]) (LQ Lp _))) ?_;rintro a8 a8 ⟨a8,a8,o⟩;refine r.Bl a8 fun r=>AP ?_;refine Q<|M Z<|V Z<|Af Z Z ?_;rw[aR Gc O a6 Z Z] at o;obtain⟨b1,b2,b4⟩:=((hJ.D t).D a8).yH (i:=123) (j:=99) Z;exact⟨b1,b2,b4 o⟩
 refine As<|Q<|M Z<|M Z<|M Z<|E (Bc Z Z Ai Ai) ?_;rw[show((l.length:Int)+((1:Nat):Int))=((l.length+1:Nat):Int) from Z];obtain⟨ys,a6,o⟩:=f.wide (k:=1) G;have U:En (.slice (some ⟨g,0,none⟩) l.length cp) 0 ((l.length+1:Nat):Int).toNat 4= .slice (some ⟨g,0,none⟩) (l.length+1) cp:=by simp[En,add_lit]
 rw[show En (.slice (some ⟨g,0,none⟩) l.length cp) 0 (l.length+1) 4= .slice (some ⟨g,0,none⟩) (l.length+1) cp from U] at o;have f:=o;refine E (MV Ge Z Z G G) ?_;rw[U];refine V Z<|Ag<|Q<|M Z<|M Z<|M Z<|M Z<|E (Bc Z Z Ai Ai) ?_;rw[show((k:Int)+((1:Nat):Int))=((k+1:Nat):Int) from Z];refine E (DJ Ge Z Z G G) ?_;have o:=qE _ _ (Of (P:=QP) (tR:=4) (m:=1) (lo:=k+1) Ge p f G AO AO);refine E (mh Z o)<|E (BL Z)<|Ah<|Wr Z (fun U=>?_) fun U=>?_
 ·refine Ag ?_;refine AM c0 [123] [0,0,0,0,0,0,0,0,2] [0,1,2,3,4,5,6,7,8] fun o o r=>Bm Z Z<|Bm Z Z<|Bm Z Z<|AN Z (Bc Z Z Ai Ai) ?_;rw[show((k:Int)+((1:Nat):Int))=((k+1:Nat):Int) from Z];refine AN Z (DJ Ge Z Z G G) ?_;rw[show((k+1:Nat):Int).toNat=k+1 from Z];refine Bm Z Z<|Bm Z Z<|AN Z (DJ Ge Z Z G G) ?_;have a8:=(f.D o).Sh (P:=QP) (k:=k) (m:=l.length-k) G;have b2:∀W:World,(Builtin.lenOf (En (.slice (some ⟨g,0,none⟩) (l.length+1) cp) k (l.length+1) 4)).run QP W= .ok (l.length+1-k) W:=fun W=>by
   unfold En;dsimp only;split<;>simp[Builtin.lenOf]
  have t:Nat.min (l.length+1-k) (l.length+1-(k+1))=l.length-k:=by rw[show l.length+1-(k+1)=l.length-k by omega];exact Aft G
  have b1:(((l.flatMap Fk++ys).drop (k*4)).take ((l.length-k)*4)).length=(l.length-k)*4:=by rw[kL,kK,ft,a7,a6];omega
  have b4:∀y∈((l.flatMap Fk++ys).drop (k*4)).take ((l.length-k)*4),y.oneCell'=true:=fun y hy=>by
   rw[Ae7 (by rw[a7];omega),Ade (by rw[kK,a7];omega)] at hy;exact b0 y (Acy (Aca hy))
  refine Db Z ((Hz (x:= .tmp 73) (y:= .tmp 76) (a:=k+1) (m:=l.length+1-k) Ge f.D G G Z Z b2 (by rw[t];exact a8) (by rw[t];exact b1) b4)) ?_;rintro t t ⟨t,t,f⟩;refine r.Bl t fun r=>AP ?_;refine Q<|M Z<|M Z<|E (DJ Ge Z Z G G) ?_;have R:=Aw (P:=QP) (size:=4) (m:=1) (c:=1) underlying55 ((p.D o).D t).AE.AT C a1;have o:Nat.min 1 (l.length+1-k)=1:=Abl G;refine M Z ?_;refine ve ((Hz (news:=Fk x) (a:=k) Ge f G G Z Z R.lenOf (by rw[o];exact R.cells) (by rw[o];exact C) a1)) ?_;rintro o o ⟨o,o,f⟩;refine Ah<|Q<|M Z<|V Z<|Af Z Z ?_;rw[Xl Gc O a6 Z Z Z] at f;exact⟨_,hJ.D.out,f.out hJ.D Z⟩
 cases U
abbrev FX(p:Int×Int):List Value:=[I p.1,I p.2]
theorem mP{j:Array Value}{q:Int×Int→Bool}(g:Rd Bx w a u)(hf:Aj QP S=true)(t:∀(w':World) (x:Int×Int),AZ w w'→Calls QP S (#[.agg (FX x).toArray]++j) w' (Bt fun a w''=>AZ w' w''∧a= .bool (q x))):
 Calls QP 191 #[a, .func (.func S) #[] j] w (Bt fun v' w'=>AZ w w'∧∃i:Int,v'=I i∧decide (0≤i)=u.any q):=by
 have o:=g.small;have hK:FY w w:=Bf w;refine AY 19 #[.tmp 4] func191 Z<|Q<|V Z<|Ag<|Q<|M Z ?_
 first|refine E (Ez DL (by assumption) Z) ?_|refine E (Fo underlying50 Z) ?_
 refine M Z<|Ah<|An<|AG (σ:=Nat) (fun k=>[(0,a),(1, .func (.func S) #[] j),(7,I u.length),(8,I k)]) (fun k w'=>Rd Bx w' a u∧FY w w'∧k≤u.length∧∀x∈u.take k,q x=false) (fun k=>u.length-k) 0 AL ⟨g,hK,G,by simp⟩ ?_;rintro k o ⟨g,hK,O,r⟩;refine Q<|E (AX Z Z)<|Ah<|Ag<|BA Z (fun o=>?_) fun o=>?_
 ·have ka:k<u.length:=G;obtain⟨o,o,rfl,p⟩:=g.el ka;refine As<|Ag<|An<|Q<|M Z<|V Z<|Q<|M Z<|M Z<|M Z<|E (BJ DL (by assumption) Z Z Z Ai Ai)<|E (DT Dj Z o Z) ?_;refine ve (DV Z hf Z (t _ _ hK)) ?_;rintro _ o ⟨p,rfl⟩;refine Ah<|BA Z (fun o=>?_) fun o=>?_
  ·refine Q<|M Z<|V Z ?_;refine Af Z Z ?_;exact⟨(hK.up p),_,Z,by rw[Aa8.2 ⟨_,mv ka,o⟩];simp⟩
  refine As<|cg<|E (Bc Z Z Ai Ai)<|M Z<|Ah ?_;exact⟨k+1,AL,⟨(g.up p),(hK.up p),ka,Ha r ka o⟩,G⟩
 refine Az Z<|Q<|V Z<|Af Z Z ?_;exact⟨hK,-1,Z,by rw[TS r G];decide⟩
theorem bK{g:Array Value}{q:Int×Int→Bool}(j:Rd Bx w a u)(hf:Aj QP S=true)(p:∀(w':World) (x:Int×Int),AZ w w'→Calls QP S (#[.agg (FX x).toArray]++g) w' (Bt fun a w''=>AZ w' w''∧a= .bool (q x))):
 Calls QP 171 #[a, .func (.func S) #[] g] w (Bt fun v' w'=>AZ w w'∧v'= .bool (u.any q)):=by
 have hK:FY w w:=Bf w;refine AY 9 #[.tmp 4] func171 Z<|Q<|V Z<|Q<|M Z<|M Z<|ve (Ab lE Z (mP j hf p)) ?_;rintro r w1 ⟨o,i,rfl,hi⟩;refine E (Dh Z Z)<|V Z<|Af Z Z ?_;exact⟨(hK.up o),by rw[←hi]⟩
theorem bM(n:Int):Calls QP 187 #[I n] w (Bt fun v w'=>AZ w w'∧v= .bool (Fb n)):=by
 have hK:FY w w:=Bf w;refine AY 9 #[.tmp 2] func187 Z<|Q<|V Z<|Q<|M Z<|E (Dh Z Z)<|M Z ?_;apply AW true 2 _ CK
 ·intro f;refine wo<|M Z<|wo<|E (Gw Z Z) ?_;exact EQ 2
 refine V Z<|Af Z Z ?_;exact⟨hK,Z⟩
theorem bO{x:Int×Int}:Calls QP 190 #[.agg (FX x).toArray] w (Bt fun v w'=>AZ w w'∧v= .bool (Ki x)):=by
 obtain⟨c,hO,g⟩:=Ay w;refine AY 26 #[.tmp 2] func190 Z<|Q<|Fa c 101 fun w1 b1 c1 i f=>?_;refine V Z<|Q<|E (Aa Ct Z)<|E (Al AF Z f.AE Z)<|E (Dh Z Z)<|M Z ?_;apply AW true 3 _ CK
 ·intro p;refine wo<|E (Aa Ct Z)<|wo<|E (Al AF Z f.AE Z)<|wo<|E (AX Z Z) ?_;exact EQ 3
 refine M Z ?_;apply AW true 3 _ CK
 ·intro j;refine wo<|E (Aa GP Z)<|wo<|E (Al AF Z f.AE Z)<|wo<|E (Dh Z Z) ?_;exact EQ 3
 refine M Z ?_;apply AW true 3 _ CK
 ·intro l;refine wo<|E (Aa GP Z)<|wo<|E (Al AF Z f.AE Z)<|wo<|E (AX Z Z) ?_;exact EQ 3
 refine M Z ?_;apply AW false 3 _ CK
 ·intro o;refine wo<|E (Ba Dj Z f.AE Z)<|wo<|E (By (cells:=#[.int .i64 (-1), .int .i64 0]) Z Ao)<|wo<|E (vY fF Z Z Z (by simp[GW])) ?_;exact EQ 3
 refine V Z<|Af Z Z ?_;exact⟨hO.D.below,by simp[Ki,MT,Un,Aho]⟩
theorem mQ{x:Int×Int}:Calls QP 189 #[.agg (FX x).toArray] w (Bt fun v w'=>AZ w w'∧v= .bool (!Ki x)):=by
 obtain⟨c,hO,g⟩:=Ay w;refine AY 6 #[.tmp 2] func189 Z<|Q<|Fa c 101 fun w1 b1 c1 i f=>?_;refine V Z<|Q<|E (Ba Dj Z f.AE Z)<|ve (Ac c1 1 (Ab sC Z (bO (x:=x)))) ?_;rintro v4 w2 ⟨c2,j,l,rfl⟩;refine E (BL Z)<|V Z<|Af Z Z ?_;exact⟨hO.D.below,Z⟩
theorem en{x s:Int×Int}(g:Gt w k (FX s) 125):Calls QP 254 #[.agg (FX x).toArray,P1 k] w (Bt fun v w'=>AZ w w'∧v= .bool (decide (x.1=s.1))):=by
 obtain⟨c,hO,f⟩:=Ay w;have j:AI c w 0 k (FX s) 125:=⟨g,f k⟩;refine AY 9 #[.tmp 3] func254 Z<|Q<|Fa c 102 fun w1 b2 c1 l i=>?_;refine V Z<|Q<|E (Aa Ct Z)<|E (Al AF Z i.AE Z)<|E (Aa Ct Z)<|E (Al AF Z j.D.AE Z)<|E (BO Z Z)<|V Z<|Af Z Z ?_;exact⟨hO.D.below,Z⟩
theorem XI(h:Rd Bx w a u):Calls QP 188 #[a] w (Bt fun v' w'=>AZ w w'∧v'= .bool (KB [] u)):=by
 have f:=h.small;obtain⟨c,hO,f⟩:=Ay w;have g:Bu Bx c w [0] a u:=Rd.Du h (fun k O=>by simp[f,AU]);obtain⟨A,cp,rfl,f,f⟩:=h.form;refine AY 25 #[.tmp 2] func188 Z<|Q<|V Z<|Ag<|Q<|M Z<|E (BN DL) ?_;refine M Z<|Ah<|An<|AG (σ:=Nat) (fun i=>[(0, .slice A u.length cp),(6, .slice A u.length cp),(7,I u.length),(8,I i)]) (fun i w'=>(i≤u.length∧KB (u.take i) (u.drop i)=KB [] u)∧∃c',CD w c' w'∧Bu Bx c' w' [0] (.slice A u.length cp) u) (fun i=>u.length-i) 0 AL ⟨⟨Wm _,Z⟩,_,hO,g⟩ ?_;rintro i f ⟨⟨hi,f⟩,p,hO,g⟩;refine Q<|E (AX Z Z)<|Ah<|Ag<|BA Z (fun j=>?_) fun j=>?_
 ·have o:i<u.length:=G;have j:=(Co g o AO).1;rw[Aav o,KB] at f;obtain⟨s,hs⟩:∃s,s=u[i]:=⟨_,Z⟩;rw[←hs] at f j;refine As<|Ag<|An<|Q<|M Z<|E (Cv DL) ?_;refine E (DT Dj Z j.DF Z)<|EK p 104 JU fun w1 b4 c1 j Bd=>?_;refine za Z<|Av (Am Dj Z Z Bd Z Z Bg) ?_;rintro _ w2 ⟨Bd,j⟩;refine Ah<|Q<|E (Dn Z)<|V Z<|Q<|E (Aa Ct Z)<|E (Al AF Z Bd.AE Z)<|E (BK Z Z)<|M Z ?_;apply BU c1 true 5 _ CK
  ·intro j p;refine wo<|M Z<|wo<|M Z<|wo<|E (MV DL Z Z G G)<|wo<|M Z<|wo ?_;refine ve (Ac c1 1 (Ab lD Z (bK (q:=fun x↦decide (x.1=s.1)) (g.D.AB.part (lo:=0) (hi:=i) G G) yk (fun w' x j↦en ((j.block _ Bd.AE.lt).trans Bd.AE))))) ?_;rintro j j ⟨j,j,j,rfl⟩;exact BV 5 p.D
  intro j j j;refine Ah<|BA Z (fun j=>?_) fun j=>?_
  ·have e:KB [] u=false:=by
    rw[←f,zm];exact⟨by simpa using j.1,by simpa using j.2⟩
   refine Q<|V Z<|Af Z Z ?_;exact⟨hO.D.below,by rw[e]⟩
  rw[ss (by rintro⟨p,g2⟩;simp[p,g2] at j)] at f;refine As<|cg<|E (Bc Z Z Ai Ai)<|M Z<|Ah ?_;exact⟨i+1,AL,⟨⟨G,by rw[pk o,←hs];exact f⟩,_,hO.D,g.D⟩,G⟩
 rw[Abn G,KB] at f;refine Az Z<|Q<|V Z<|Af Z Z ?_;exact⟨hO.below,by rw[←f]⟩
theorem Vn{x:CV}(hs:z.ok)(hu:Rd Bx w a x.Ad):Calls QP 116 #[.agg (DB z).toArray, .agg #[I x.id,I x.len,I x.gen,a]] w (Bt fun v w'=>AZ w w'∧v= .bool (Dg z x)):=by
 obtain⟨f,f,f,f,f⟩:=id hs;obtain⟨P,g⟩:∃P,P=z.k*z.size:=⟨_,Z⟩;have f:P≤8*200:=by rw[g];exact WO G G
 have i:(z.k:Int)*(z.size:Int)=(P:Nat):=by rw[g];simp
 have f:=hu.AD;obtain⟨c,hO,f⟩:=Ay w;have r:Bu Bx c w [0] a x.Ad:=Rd.Du hu (fun k O=>by simp[f,AU]);refine AY 55 #[.tmp 4] func116 Z<|Q<|Fa c 102 fun w1 b2 c1 f f=>?_;refine Fa c1 103 fun w2 b3 c2 j AR=>?_;refine V Z<|Ag<|Q<|E (Ba CP Z f.D.AE Z)<|ve (Ac c2 1 (Ab YM Z (KP hs))) ?_;rintro v6 j ⟨j,l,l,rfl⟩;refine E (BL Z)<|M Z ?_;apply BU j false 4 _ CK
 ·intro J l;refine wo<|E (Aa Dy Z)<|wo<|E (Al AF Z AR.D.AE Z)<|wo<|ve (Ac j 1 (Ab sA Z (bM x.id))) ?_;rintro v11 j ⟨j,j,j,rfl⟩;refine wo<|E (BL Z) ?_;exact BV 4 l.D
 intro j j o;refine M Z ?_;apply BU j false 4 _ CK
 ·intro o o;refine wo<|E (Aa NO Z)<|wo<|E (Al AF Z AR.D.AE Z)<|wo<|ve (Ac j 1 (Ab sA Z (bM x.gen))) ?_;rintro j j ⟨j,j,j,rfl⟩;refine wo<|E (BL Z) ?_;exact BV 4 o.D
 intro j o j;refine M Z ?_;apply AW false 3 _ CK
 ·intro j;refine wo<|E (Aa HW Z)<|wo<|E (Al AF Z AR.D.AE Z)<|wo<|E (AX Z Z) ?_;exact EQ 3
 refine M Z ?_;apply AW false 8 _ CK
 ·intro j;refine wo<|E (Aa HW Z)<|wo<|E (Al AF Z AR.D.AE Z)<|wo<|E (Aa CN Z)<|wo<|E (Al AF Z f.D.AE Z)<|wo ?_;refine E (Aa DO Z)<|wo<|E (Al AF Z f.D.AE Z)<|wo<|E (HK Z Z (by rw[i];omega) (by rw[i];omega))<|wo<|E (CM Z Z) ?_;exact EQ 8
 refine M Z ?_;apply AW false 9 _ CK
 ·intro j;refine wo<|E (Aa Cl Z)<|wo<|E (Al CH Z AR.D.AE Z)<|wo<|E (BN DL) ?_;refine wo<|E (Aa CN Z)<|wo<|E (Al AF Z f.D.AE Z)<|wo<|E (Aa Hk Z)<|wo<|E (Al AF Z f.D.AE Z)<|wo<|E (Bc Z Z Ai Ai)<|wo<|E (BK Z Z) ?_;exact EQ 9
 refine Ah<|BA Z (fun f=>?_) fun f=>?_
 ·have e:Dg z x=false:=by
   rw[i] at f;rw[Dg,←g];rw[Bool.eq_false_iff];intro h;simp only[kg,pn] at h;obtain⟨⟨⟨⟨⟨j,g2⟩,t⟩,p⟩,C⟩,_⟩:=h;rw[j,g2] at f;simp at f;omega
  refine Q<|V Z<|Af Z Z ?_;exact⟨hO.D.below,by rw[e]⟩
 refine As<|Q<|E (Aa Cl Z)<|E (Al CH Z AR.D.AE Z)<|ve (Ac o 1 (Ab sB Z (XI r.D.AB))) ?_;rintro o o ⟨o,R,R,rfl⟩;refine M Z ?_;apply BU o true 4 _ CK
 ·intro J l;refine wo<|E (Aa Cl Z)<|wo<|E (Al CH Z AR.D.AE Z)<|wo<|ve (Ac o 1 (Ab lD Z (bK (q:=fun x↦ !Ki x) r.D.AB xJ (fun w' x o↦mQ)))) ?_;rintro o o ⟨o,o,o,rfl⟩;refine wo<|E (BL Z) ?_;exact BV 4 l.D
 intro l l l;refine V Z<|Af Z Z<|⟨hO.D.below,?_⟩;obtain⟨⟨⟨⟨⟨_,j⟩,g2⟩,t⟩,p⟩,C⟩:=f;rw[i] at p;rw[Dg,←g,j,g2,Aby (show 1≤x.len by omega),Aby (show x.len≤(P:Nat) by omega),Aby (show x.Ad.length=z.k+z.m by omega)];rfl
structure Te {α:Type} (enc:α→List Value) (c:Nat→Nat) (w:World) (J:List Nat) (v:Value) (n:Nat) (Y:List α):Prop where
 el:∀k (O:k<Y.length),DG c w J (Bz v n k) (enc Y[k])
theorem Te.D{enc:α→List Value}{c:Nat→Nat}{w:World}{I:List Nat}(h:Te enc c w e a n t)(m:Mv c w c' w' I:=by exact Go.Eng.KU)(hi:BB e I=true:=by rfl):Te enc c' w' e a n t:=⟨fun k O=>(h.el k O).D m hi⟩
theorem bP(h:Bu DS c w e a C):∃Y:List Gs,Y.map (·.1)=C∧Te CL c w e a 4 Y∧∀y∈Y,Bu Bx c w e y.2.v y.1.Ad∧Go.Eng.Int64 y.1.id∧Go.Eng.Int64 y.1.len∧Go.Eng.Int64 y.1.gen:=by
 have g:∀k:Fin C.length,∃u:SV,DG c w e (Bz a 4 k) (CL (C[k],u))∧Bu Bx c w e u.v C[k].Ad∧Go.Eng.Int64 C[k].id∧Go.Eng.Int64 C[k].len∧Go.Eng.Int64 C[k].gen:=fun k=>by
  obtain⟨u,j,f,l⟩:=GK h k.2;exact⟨⟨u,f.AB.AD⟩,j,f,l⟩
 refine⟨List.ofFn fun k:Fin C.length=>(C[k],Classical.choose (g k)),?_,⟨fun k O=>?_⟩,fun y hy=>?_⟩
 ·rw[List.map_ofFn];refine Ab6 Bb fun i j f=>?_;simp
 ·have o:k<C.length:=by simpa using O
  have:=(Ae0 (g ⟨k,o⟩)).1;rw[Ag3];exact this
 obtain⟨k,rfl⟩:=List.mem_ofFn.1 hy;exact(Ae0 (g k)).2
theorem mR{L:List KA}(h:Bu Ie c w e a L):∃Y:List Vm,Y.map (·.1)=L∧Te Fk c w e a 4 Y∧∀y∈Y,Bu Cg c w e y.2.v y.1.list∧Go.Eng.Int64 y.1.len∧y.1.AK.length≤140737488355328:=by
 have g:∀k:Fin L.length,∃u:SV,DG c w e (Bz a 4 k) (Fk (L[k],u))∧Bu Cg c w e u.v L[k].list∧Go.Eng.Int64 L[k].len∧L[k].AK.length≤140737488355328:=fun k=>by
  obtain⟨u,j,f,l⟩:=PS h k.2;exact⟨⟨u,f.AB.AD⟩,j,f,l⟩
 refine⟨List.ofFn fun k:Fin L.length=>(L[k],Classical.choose (g k)),?_,⟨fun k O=>?_⟩,fun y hy=>?_⟩
 ·rw[List.map_ofFn];refine Ab6 Bb fun i j f=>?_;simp
 ·have o:k<L.length:=by simpa using O
  have:=(Ae0 (g ⟨k,o⟩)).1;rw[Ag3];exact this
 obtain⟨k,rfl⟩:=List.mem_ofFn.1 hy;exact(Ae0 (g k)).2
theorem EX(f:Rd Bx w a u)(hl:u.length≤1048576):Calls QP 82 #[a] w (Bt fun v' w'=>AZ w w'∧CJ w' w.heap.size 125 2 v' u.length (u.flatMap FX)):=by
 obtain⟨c,hO,hc⟩:=Ay w;have j:Bu Bx c w [0] a u:=Rd.Du f (fun k O=>by simp[hc,AU]);have o:=f.addr;obtain⟨A,cp,rfl,_⟩:=f.form;refine AY 8 #[.tmp 2] func82 Z<|Q<|V Z<|Ag<|Q<|M Z<|E (UT underlying50 Z)<|Ah<|BA Z (fun i=>?_) fun i=>?_
 ·refine Q<|V Z ?_;refine Af Z Z ?_;have f:u=[]:=by
   cases u with
   |nil=>rfl
   |cons v r=>
    obtain⟨b,c',h⟩:=o Bb;injection h with h _ _;rw[h] at i;cases i
  subst f;exact⟨hO.below,CJ.nil _ _ _ _⟩
 refine As<|Q<|ve ((GJ c DL)) ?_;rintro C w1 ⟨c1,p,⟨b5,rfl⟩⟩;have g:AJ c1 w1 50 125 2 (.slice (some ⟨b5,0,none⟩) 0 0) 0 []:=PN;refine M Z<|ve (Ax DL Z Z g (Src.flat underlying50 j.D.AB) Fh Fg) ?_;rintro I w2 ⟨c2,t,g⟩;rw[Abu,Abs] at g;refine V Z<|Af Z Z ?_;exact⟨hO.D.below,g.OO hO.D AO⟩
theorem GN(f:Rd Cg w a l)(hl:l.length≤1048576):Calls QP 85 #[a] w (Bt fun v' w'=>AZ w w'∧CJ w' w.heap.size 3 1 v' l.length (l.flatMap (fun x=>[I x]))):=by
 obtain⟨c,hO,hc⟩:=Ay w;have j:Bu Cg c w [0] a l:=Rd.Du f (fun k O=>by simp[hc,AU]);have o:=f.addr;obtain⟨A,cp,rfl,_⟩:=f.form;refine AY 8 #[.tmp 2] func85 Z<|Q<|V Z<|Ag<|Q<|M Z<|E (UT underlying23 Z)<|Ah<|BA Z (fun i=>?_) fun i=>?_
 ·refine Q<|V Z ?_;refine Af Z Z ?_;have f:l=[]:=by
   cases l with
   |nil=>rfl
   |cons v r=>
    obtain⟨b,c',h⟩:=o Bb;injection h with h _ _;rw[h] at i;cases i
  subst f;exact⟨hO.below,CJ.nil _ _ _ _⟩
 refine As<|Q<|ve ((GJ c BM)) ?_;rintro C w1 ⟨c1,p,⟨b5,rfl⟩⟩;have g:AJ c1 w1 50 3 1 (.slice (some ⟨b5,0,none⟩) 0 0) 0 []:=PN;refine M Z<|ve (Ax BM Z Z g (Src.flat underlying23 j.D.AB) Fh Fg) ?_;rintro J w2 ⟨c2,t,g⟩;rw[Abu,Abs] at g;refine V Z<|Af Z Z ?_;exact⟨hO.D.below,g.OO hO.D AO⟩
theorem iX(f:Rd DS w a C)(l:U.map (·.1)=C)(hc:∀k (O:k<U.length),lb w (Bz a 4 k) (CL U[k]))(hl:C.length≤1048576):Calls QP 111 #[a] w (Bt fun v' w'=>AZ w w'∧CJ w' w.heap.size 115 4 v' U.length (U.flatMap CL)):=by
 have j:U.length=C.length:=by rw[←l,kr]
 obtain⟨c,hO,g⟩:=Ay w;have o:Bu DS c w [0] a C:=Rd.Du f (fun k O=>by simp[g,AU]);have p:Te CL c w [0] a 4 U:=⟨fun k O=>⟨hc k O,by simp[g,AU]⟩⟩;have t:=f.addr;obtain⟨A,cp,rfl,_⟩:=f.form;refine AY 8 #[.tmp 2] func111 Z<|Q<|V Z<|Ag<|Q<|M Z<|E (UT underlying54 Z)<|Ah<|BA Z (fun g=>?_) fun g=>?_
 ·refine Q<|V Z ?_;refine Af Z Z ?_;have f:C=[]:=by
   cases C with
   |nil=>rfl
   |cons v r=>
    obtain⟨b,c',h⟩:=t Bb;injection h with h _ _;rw[h] at g;cases g
  have g:U=[]:=rY (by rw[j,f];rfl);subst g;exact⟨hO.below,CJ.nil _ _ _ _⟩
 refine As<|Q<|ve ((GJ c Di)) ?_;rintro g w1 ⟨c1,t,⟨b5,rfl⟩⟩;have g:AJ c1 w1 50 115 4 (.slice (some ⟨b5,0,none⟩) 0 0) 0 []:=PN;refine M Z ?_;refine ve (Ax Di Z Z g (Src.rd (css:=U.map CL) underlying54 o.D.AB (by rw[kr,j]) (fun i cs hi↦by rw[Aah] at hi;obtain⟨y,hy,rfl⟩:=Abm.1 hi;obtain⟨o,rfl⟩:=kJ.1 hy;exact⟨Z,Lo _,((p.D t).el i o).DF.1⟩)) Fh Fg) ?_;rintro o w2 ⟨c2,o,g⟩;rw[Abu,Abs,←Acj,←j] at g;refine V Z<|Af Z Z ?_;exact⟨hO.D.below,g.OO hO.D AO⟩
theorem iY{l:List KA}{Y:List Vm}(f:Rd Ie w a l)(C:Y.map (·.1)=l)(hc:∀k (O:k<Y.length),lb w (Bz a 4 k) (Fk Y[k]))(hl:l.length≤1048576):Calls QP 112 #[a] w (Bt fun v' w'=>AZ w w'∧CJ w' w.heap.size 141 4 v' Y.length (Y.flatMap Fk)):=by
 have j:Y.length=l.length:=by rw[←C,kr]
 obtain⟨c,hO,g⟩:=Ay w;have o:Bu Ie c w [0] a l:=Rd.Du f (fun k O=>by simp[g,AU]);have p:Te Fk c w [0] a 4 Y:=⟨fun k O=>⟨hc k O,by simp[g,AU]⟩⟩;have t:=f.addr;obtain⟨A,cp,rfl,_⟩:=f.form;refine AY 8 #[.tmp 2] func112 Z<|Q<|V Z<|Ag<|Q<|M Z<|E (UT underlying55 Z)<|Ah<|BA Z (fun g=>?_) fun g=>?_
 ·refine Q<|V Z ?_;refine Af Z Z ?_;have f:l=[]:=by
   cases l with
   |nil=>rfl
   |cons v r=>
    obtain⟨b,c',h⟩:=t Bb;injection h with h _ _;rw[h] at g;cases g
  have g:Y=[]:=rY (by rw[j,f];rfl);subst g;exact⟨hO.below,CJ.nil _ _ _ _⟩
 refine As<|Q<|ve ((GJ c Ge)) ?_;rintro g w1 ⟨c1,t,⟨b5,rfl⟩⟩;have g:AJ c1 w1 50 141 4 (.slice (some ⟨b5,0,none⟩) 0 0) 0 []:=PN;refine M Z ?_;refine ve (Ax Ge Z Z g (Src.rd (css:=Y.map Fk) underlying55 o.D.AB (by rw[kr,j]) (fun i cs hi↦by rw[Aah] at hi;obtain⟨y,hy,rfl⟩:=Abm.1 hi;obtain⟨o,rfl⟩:=kJ.1 hy;exact⟨Z,Lp _,((p.D t).el i o).DF.1⟩)) Fh Fg) ?_;rintro o w2 ⟨c2,o,g⟩;rw[Abu,Abs,←Acj,←j] at g;refine V Z<|Af Z Z ?_;exact⟨hO.D.below,g.OO hO.D AO⟩
theorem iZ{l:List Tg}(f:Rd Wo w a l)(hp:HO a)(hl:l.length≤1048576):Calls QP 113 #[a] w (Bt fun v' w'=>AZ w w'∧CJ w' w.heap.size 171 2 v' l.length (l.flatMap Xp)):=by
 obtain⟨c,hO,hc⟩:=Ay w;have o:Bu Wo c w [0] a l:=Rd.Du f (fun k O=>by simp[hc,AU]);obtain⟨A,n,cp,rfl,p⟩:=hp;have t:l.length=n:=by obtain⟨C,c',j,_⟩:=f.form;injection j with _ j _;exact j.symm
 clear f;refine AY 8 #[.tmp 2] func113 Z<|Q<|V Z<|Ag<|Q<|M Z<|E (UT underlying56 Z)<|Ah<|BA Z (fun i=>?_) fun i=>?_
 ·refine Q<|V Z ?_;refine Af Z Z ?_;have f:l=[]:=by
   cases l with
   |nil=>rfl
   |cons v r=>
    obtain⟨b,off,h⟩:=p (by rw[←t];simp);rw[h] at i;cases i
  subst f;exact⟨hO.below,CJ.nil _ _ _ _⟩
 refine As<|Q<|ve ((GJ c hX)) ?_;rintro R w1 ⟨c1,I,⟨b5,rfl⟩⟩;have g:AJ c1 w1 50 171 2 (.slice (some ⟨b5,0,none⟩) 0 0) 0 []:=PN;refine M Z<|ve (Ax hX Z Z g (Src.flat underlying56 o.D.AB) Fh Fg) ?_;rintro U w2 ⟨c2,J,g⟩;rw[Abu,Abs] at g;refine V Z<|Af Z Z ?_;exact⟨hO.D.below,g.OO hO.D AO⟩
theorem search_end{p q:α→Bool}(R:∀j k (g:j<t.length) (O:k<t.length),j<k→q t[k]=true→p t[j]=true)(J:∀k (O:k<t.length),q t[k]=true→p t[k]=false)(hi:i≤t.length)(l:∀k (O:k<t.length),k<i→p t[k]=true)(C:∀k (O:k<t.length),i≤k→p t[k]=false):
 Ej p t=i∧(decide ((i:Int)<(t.length:Int))&&(t[i]?.map q).getD false)=(t.findIdx? q).isSome:=by
 refine⟨UY hi l (fun h=>C i h (kM _)),?_⟩;rw[Adn,kg,pn,Ach];constructor
 ·rintro⟨h,hx⟩;have r:i<t.length:=G;rw[dd r] at hx;cases hf:t.findIdx? q with
  |some j=>exact⟨j,Z⟩
  |none=>
   rw[Abq] at hf;have:=hf _ (mv r);simp only[Aa7,Ada] at hx;rw[hx] at this;cases this
 rintro⟨j,g⟩;rw[WM] at g;obtain⟨f,o,_⟩:=g;have I:j=i:=by
  rcases Aet j i with h|h|h
  ·have:=l j f h;rw[J j f o] at this;cases this
  ·exact h
  have:=R i j G f h o;rw[C i G (kM _)] at this;cases this
 subst I;exact⟨G,by rw[dd f];exact o⟩
theorem Vo{p q:α→Bool}(r:∀j k (l:j<t.length) (O:k<t.length),j<k→q t[k]=true→p t[j]=true)(o:∀k (O:k<t.length),q t[k]=true→p t[k]=false)(h:t.findIdx? q=some i):Ej p t=i:=by
 rw[WM] at h;obtain⟨hi,f,_⟩:=h;exact UY G (fun k O g=>r k i O hi g f) (fun _=>o i hi f)
def Lz(a b:Int):Int:=if a<b then-1 else if b<a then 1 else 0
theorem bQ{b:Int}:(Lz p b<0)=(decide (p<b)=true):=by
 unfold Lz;rw[pn];split
 ·simp[*]
 ·split<;>simp[*]
theorem ja{b:Int}:(Lz p b=0)=(p=b):=by
 unfold Lz;apply propext;split
 ·constructor<;>intro h<;>omega
 ·split<;>constructor<;>intro h<;>omega
theorem MC(a b:Int):Calls QP 154 #[I a,I b] w (Bt fun v w'=>AZ w w'∧v=I (Lz a b)):=by
 refine(Tryz.cmp_Compare_int a b w).mono fun e w' f=>?_;obtain⟨rfl,rfl⟩:=f;exact⟨_,Z,Aar _ _,Z⟩
def KH(l:List KA):Prop:=∀i j (hi:i<l.length) (f:j<l.length),i<j→Op.bytesLess l[i].AK l[j].AK=true
def Mh(l:List KA)(d:Tx):Nat:=Ej (fun t=>Op.bytesLess t.AK d) l
def Vp(l:List KA)(d:Tx):Option Nat:=l.findIdx? fun x=>x.AK==d
theorem gI(h:Ic C)(d:Int):∀j k (f:j<C.length) (O:k<C.length),j<k→(fun t:CV=>decide (t.id=d)) C[k]=true→(fun t:CV=>decide (t.id<d)) C[j]=true:=fun j k f O g i=>by
 have:=h j k f O g;have e:C[k].id=d:=by simpa using i
 rw[e] at this;simpa using this
theorem gJ(d:Int):∀k (O:k<C.length),(fun t:CV=>decide (t.id=d)) C[k]=true→(fun t:CV=>decide (t.id<d)) C[k]=false:=fun k O f=>by
 have e:C[k].id=d:=by simpa using f
 simp[e]
theorem gK{l:List KA}(h:KH l)(d:Tx):∀j k (f:j<l.length) (O:k<l.length),j<k→(fun t:KA=>t.AK==d) l[k]=true→(fun t:KA=>Op.bytesLess t.AK d) l[j]=true:=fun j k f O g i=>by
 have:=h j k f O g;have e:l[k].AK=d:=by simpa using i
 rw[e] at this;exact this
theorem gL{l:List KA}(d:Tx):∀k (O:k<l.length),(fun t:KA=>t.AK==d) l[k]=true→(fun t:KA=>Op.bytesLess t.AK d) l[k]=false:=fun k O f=>by
 have e:l[k].AK=d:=by simpa using f
 show Op.bytesLess l[k].AK d=false
 rw[e];exact IB d
theorem Iw(h:Ic C)(hf:Ib C p=some i):Pw C p=i:=Vo (gI h p) (gJ p) hf
theorem OU{l:List KA}(h:KH l)(hf:Vp l W=some i):Mh l W=i:=Vo (gK h W) (gL W) hf
theorem OV(p:α→Bool)(l:List α):Ej p l≤l.length:=by
 rw[Ej];exact(List.takeWhile_prefix p).length_le
theorem bT{s:CO}{L:List CV}:∀{l:List KA} {o:Option Tx} {T:List Int},Ln s L o T l=true→∀x∈l,∀y,o=some y→Op.bytesLess y x.AK=true
 |[],_,_,_,x,hx=>by simp at hx
 |z::r,o,T,h,x,hx=>fun y hy=>by
  unfold Ln at h;simp only[kg,pn] at h;obtain⟨⟨⟨⟨⟨⟨_,f⟩,_⟩,_⟩,_⟩,_⟩,_,g⟩:=h;subst hy;rcases Aak.1 hx with rfl|hx
  ·exact f
  ·exact JE _ _ _ f (bT g x hx z.AK Z)
theorem XJ{s:CO}{L:List CV}:∀{l:List KA} {o:Option Tx} {T:List Int},Ln s L o T l=true→KH l
 |[],_,_,_=>fun i j hi=>by simp at hi
 |z::r,o,T,h=>fun i j hi g t=>by
  have p:=h;unfold Ln at h;simp only[kg,pn] at h;obtain⟨_,_,f⟩:=h;cases j with
  |zero=>omega
  |succ j=>cases i with
   |zero=>exact bT f _ (mv (by simpa using g)) z.AK Z
   |succ i=>exact XJ f i j (by simpa using hi) (by simpa using g) G
theorem IE{b:Bk}(h:Ek z b=true):KH b.AQ:=XJ (El h).2.2.1
theorem gM{x:CV}(d:Int)(hu:a.oneCell'=true):Calls QP 121 #[.agg #[I x.id,I x.len,I x.gen,a],I d] w (Bt fun v w'=>AZ w w'∧v=I (Lz x.id d)):=by
 obtain⟨c,hO,g⟩:=Ay w;refine AY 9 #[.tmp 4] func121 Z<|Q<|Fa c 102 fun w1 b2 c1 i f=>?_;refine V Z<|Q<|E (Aa Dy Z)<|E (Al AF Z f.AE Z)<|M Z<|ve (Ac c1 1 (Ab az Z (MC x.id d))) ?_;rintro o w2 ⟨c2,j,l,rfl⟩;refine V Z<|Af Z Z ?_;exact⟨hO.D.below,Z⟩
theorem bU{x:KA}(d:Tx)(hu:a.oneCell'=true):Calls QP 99 #[.agg #[St x.AK,I x.len, .bool x.ur,a],St d] w (Bt fun v w'=>AZ w w'∧v=I (bf x.AK d)):=by
 obtain⟨c,hO,g⟩:=Ay w;refine AY 9 #[.tmp 4] func99 Z<|Q<|Fa c 102 fun w1 b2 c1 i f=>?_;refine V Z<|Q<|E (Aa Kd Z)<|E (Al CQ Z f.AE Z)<|M Z<|ve (Ac c1 1 (Ab xv Z (dZ x.AK d))) ?_;rintro o w2 ⟨c2,j,l,rfl⟩;refine V Z<|Af Z Z ?_;exact⟨hO.D.below,Z⟩
theorem uE{d:Int}(f:Rd DS w a C)(a6:Ic C):
 Calls QP 120 #[a,I d, .func (.func 121) #[] #[]] w (Bt fun v' w'=>AZ w w'∧v'= .tuple #[I (Pw C d:Nat), .bool (Ib C d).isSome]):=by
 have hK:FY w w:=Bf w;have g:=f.small;refine AY 49 #[.tmp 6, .tmp 7] func120 Z<|Q<|za Z<|V Z<|Q<|M Z ?_
 first|refine E (Ez Di (by assumption) Z) ?_|refine E (Fo underlying54 Z) ?_
 refine V Z<|Q<|M Z<|za Z<|V Z<|Ag<|An ?_;refine AG (σ:=Nat×Nat) (fun g=>[(0,a),(1,I d),(2, .func (.func 121) #[] #[]),(8,I C.length),(9,I g.1),(10,I g.2)]) (fun g w'=>Rd DS w' a C∧FY w w'∧g.1≤g.2∧g.2≤C.length∧(∀k (O:k<C.length),k<g.1→(fun t:CV=>decide (t.id<d)) C[k]=true)∧∀k (O:k<C.length),g.2≤k→(fun t:CV=>decide (t.id<d)) C[k]=false) (fun g=>g.2-g.1) (0,C.length) AL ⟨f,hK,by simp,by simp,fun k _ h=>absurd h (Nat.not_lt_zero _),fun k O h=>by dsimp only at h;omega⟩ ?_;rintro⟨i,j⟩ b1 ⟨f,hK,g,J,r,T⟩;dsimp only at g J r T⊢;refine Ag<|Q<|M Z<|M Z<|E (AX Z Z)<|Ah<|BA Z (fun g=>?_) fun g=>?_
 ·have g:i<j:=G;refine As<|An<|Q<|M Z<|M Z<|E (Bc Z Z Ai Ai)<|E (ED underlying3 underlying73 Z Ai Ai)<|E (al Z Z Ai (by simp[IntKind.bits]<;>omega)) ?_;refine E (EY underlying73 underlying3 Z Ai Ai)<|V Z ?_;have g:((i:Int)+(j:Int))/2^(1:Int).toNat=((i+j)/2:Nat):=by
   rw[show(2:Int)^(1:Int).toNat=2 from Z];omega
  rw[g];have U:(i+j)/2<C.length:=G;have a1:i≤(i+j)/2:=G;have g:(i+j)/2<j:=G;generalize(i+j)/2=h at U a1 g⊢;obtain⟨b2,g,b5,rfl,l,b4⟩:=f.el U;have l:=l.AD;refine Q<|M Z<|M Z<|M Z<|E (BJ Di (by assumption) Z Z Z Ai Ai)<|E (DT Cn Z g Z)<|M Z ?_;refine ve (DV Z se Z (gM (x:=C[h]) d l)) ?_;rintro v30 w1 ⟨R,rfl⟩;refine E (AX Z Z)<|Ah<|BA Z (fun g=>?_) fun g=>?_
  ·rw[bQ] at g;have a7:∀k (O:k<C.length),k<h+1→(fun t:CV=>decide (t.id<d)) C[k]=true:=fun k O b0=>by
    rcases Aab k h with o|o
    ·have b3:=a6 k h O U o;simp only[pn] at g⊢;omega
    have:k=h:=G;subst this;exact g
   refine cg<|M Z<|E (Bc Z Z Ai Ai)<|V Z ?_;replace f:=f.up R;replace hK:=hK.up R
   first
   |exact⟨(h+1,j),AL,⟨f,hK,by dsimp only;omega,J,a7,T⟩,by dsimp only;omega⟩
   |exact⟨(i,h),AL,⟨f,hK,a1,by dsimp only;omega,r,a8⟩,by dsimp only;omega⟩
  rw[bQ,Ae1] at g;have a8:∀k (O:k<C.length),h≤k→(fun t:CV=>decide (t.id<d)) C[k]=false:=fun k O b0=>by
   rcases Agw b0 with o|o
   ·subst o;exact g
   have b3:=a6 h k U O o;simp only[Aay] at g⊢;omega
  refine cg<|M Z<|V Z ?_;replace f:=f.up R;replace hK:=hK.up R
  first
  |exact⟨(h+1,j),AL,⟨f,hK,by dsimp only;omega,J,a7,T⟩,by dsimp only;omega⟩
  |exact⟨(i,h),AL,⟨f,hK,a1,by dsimp only;omega,r,a8⟩,by dsimp only;omega⟩
 have:i=j:=G;subst this;obtain⟨R,U⟩:=search_end (p:=fun t:CV=>decide (t.id<d)) (q:=fun t:CV=>decide (t.id=d)) (gI a6 d) (gJ d) J r T;refine Az Z<|Q<|M Z<|M Z<|M Z<|E (AX Z Z)<|M Z ?_;apply GC true 8 ((C[i]?.map (fun t:CV=>decide (t.id=d))).getD false) CK
 ·intro g;have hi:i<C.length:=G;obtain⟨b2,o,b5,rfl,l,b4⟩:=f.el hi;have l:=l.AD;have r:((C[i]?.map (fun t:CV=>decide (t.id=d))).getD false)=(fun t:CV=>decide (t.id=d)) C[i]:=by rw[dd hi];rfl
  have g:FY b1 b1:=Bf _;refine wo<|M Z<|wo<|M Z<|wo<|M Z<|wo<|E (BJ Di (by assumption) Z Z Z Ai Ai)<|wo ?_;refine E (DT Cn Z o Z)<|wo<|M Z<|wo<|ve (DV Z se Z (gM (x:=C[i]) d l)) ?_;rintro l w2 ⟨l,rfl⟩;refine wo<|E (BO Z Z) ?_;exact Et ⟨(by rw[r];simp only[look,ja];rfl),Sub.drop _ 8 _ Z Z,(g.up l)⟩
 intro g g;refine za Z<|V Z<|BR Z Z Z ?_;exact⟨(hK.up g),by rw[show Pw C d=i from R,show(Ib C d).isSome=_ from U.symm];rfl⟩
theorem Lq{vG:Value}{n:Int}{d:Int}(f:Rd DS w a C)(r:a.oneCell'=true)(t:y.oneCell'=true)(T:vG.oneCell'=true)(l:Ic C):Calls QP 60 #[.agg #[a,y,vG,I n],I d] w (Bt fun v' w'=>AZ w w'∧v'= .tuple #[I (Pw C d:Nat), .bool (Ib C d).isSome]):=by
 obtain⟨c,hO,g⟩:=Ay w;have i:Bu DS c w [0] a C:=Rd.Du f (fun k O=>by simp[g,AU]);refine AY 12 #[.tmp 4, .tmp 5] func60 Z<|Q<|Fa c 102 fun w1 b2 c1 o j=>?_;refine za Z<|V Z<|Q<|E (Aa CA Z)<|E (Al Ei Z j.AE Z)<|M Z<|ve (Ac c1 1 (Ab xa Z (uE i.D.AB l))) ?_;rintro R w2 ⟨c2,p,J,rfl⟩;refine E (Aq Z Z)<|E (Aq Z Z)<|za Z<|V Z<|BR Z Z Z ?_;exact⟨hO.D.below,Z⟩
theorem uF{T:List KA}(f:Rd Ie w a T)(a7:KH T):
 Calls QP 98 #[a,St W, .func (.func 99) #[] #[]] w (Bt fun v' w'=>AZ w w'∧v'= .tuple #[I (Mh T W:Nat), .bool (Vp T W).isSome]):=by
 have hK:FY w w:=Bf w;have g:=f.small;refine AY 49 #[.tmp 6, .tmp 7] func98 Z<|Q<|za Z<|V Z<|Q<|M Z ?_
 first|refine E (Ez Ge (by assumption) Z) ?_|refine E (Fo underlying55 Z) ?_
 refine V Z<|Q<|M Z<|za Z<|V Z<|Ag<|An ?_;refine AG (σ:=Nat×Nat) (fun g=>[(0,a),(1,St W),(2, .func (.func 99) #[] #[]),(8,I T.length),(9,I g.1),(10,I g.2)]) (fun g w'=>Rd Ie w' a T∧FY w w'∧g.1≤g.2∧g.2≤T.length∧(∀k (O:k<T.length),k<g.1→(fun t:KA=>Op.bytesLess t.AK W) T[k]=true)∧∀k (O:k<T.length),g.2≤k→(fun t:KA=>Op.bytesLess t.AK W) T[k]=false) (fun g=>g.2-g.1) (0,T.length) AL ⟨f,hK,by simp,by simp,fun k _ h=>absurd h (Nat.not_lt_zero _),fun k O h=>by dsimp only at h;omega⟩ ?_;rintro⟨i,j⟩ b2 ⟨f,hK,g,J,r,C⟩;dsimp only at g J r C⊢;refine Ag<|Q<|M Z<|M Z<|E (AX Z Z)<|Ah<|BA Z (fun g=>?_) fun g=>?_
 ·have g:i<j:=G;refine As<|An<|Q<|M Z<|M Z<|E (Bc Z Z Ai Ai)<|E (ED underlying3 underlying73 Z Ai Ai)<|E (al Z Z Ai (by simp[IntKind.bits]<;>omega)) ?_;refine E (EY underlying73 underlying3 Z Ai Ai)<|V Z ?_;have g:((i:Int)+(j:Int))/2^(1:Int).toNat=((i+j)/2:Nat):=by
   rw[show(2:Int)^(1:Int).toNat=2 from Z];omega
  rw[g];have U:(i+j)/2<T.length:=G;have a6:i≤(i+j)/2:=G;have g:(i+j)/2<j:=G;generalize(i+j)/2=h at U a6 g⊢;obtain⟨b3,g,b5,rfl,l,b4⟩:=f.el U;have l:=l.AD;refine Q<|M Z<|M Z<|M Z<|E (BJ Ge (by assumption) Z Z Z Ai Ai)<|E (DT Mc Z g Z)<|M Z ?_;refine ve (DV Z wK Z (bU (x:=T[h]) W l)) ?_;rintro v30 w1 ⟨R,rfl⟩;refine E (AX Z Z)<|Ah<|BA Z (fun g=>?_) fun g=>?_
  ·rw[bg] at g;have a8:∀k (O:k<T.length),k<h+1→(fun t:KA=>Op.bytesLess t.AK W) T[k]=true:=fun k O b1=>by
    rcases Aab k h with o|o
    ·have a1:=a7 k h O U o;exact JE _ _ _ a1 g
    have:k=h:=G;subst this;exact g
   refine cg<|M Z<|E (Bc Z Z Ai Ai)<|V Z ?_;replace f:=f.up R;replace hK:=hK.up R
   first
   |exact⟨(h+1,j),AL,⟨f,hK,by dsimp only;omega,J,a8,C⟩,by dsimp only;omega⟩
   |exact⟨(i,h),AL,⟨f,hK,a6,by dsimp only;omega,r,b0⟩,by dsimp only;omega⟩
  rw[bg,Ae1] at g;have b0:∀k (O:k<T.length),h≤k→(fun t:KA=>Op.bytesLess t.AK W) T[k]=false:=fun k O b1=>by
   rcases Agw b1 with o|o
   ·subst o;exact g
   have a1:=a7 h k U O o;cases hx:Op.bytesLess T[k].AK W with
   |false=>exact hx
   |true=>rw[JE _ _ _ a1 hx] at g;cases g
  refine cg<|M Z<|V Z ?_;replace f:=f.up R;replace hK:=hK.up R
  first
  |exact⟨(h+1,j),AL,⟨f,hK,by dsimp only;omega,J,a8,C⟩,by dsimp only;omega⟩
  |exact⟨(i,h),AL,⟨f,hK,a6,by dsimp only;omega,r,b0⟩,by dsimp only;omega⟩
 have:i=j:=G;subst this;obtain⟨R,U⟩:=search_end (p:=fun t:KA=>Op.bytesLess t.AK W) (q:=fun t:KA=>t.AK==W) (gK a7 W) (gL W) J r C;refine Az Z<|Q<|M Z<|M Z<|M Z<|E (AX Z Z)<|M Z ?_;apply GC true 8 ((T[i]?.map (fun t:KA=>t.AK==W)).getD false) CK
 ·intro g;have hi:i<T.length:=G;obtain⟨b3,o,b5,rfl,l,b4⟩:=f.el hi;have l:=l.AD;have r:((T[i]?.map (fun t:KA=>t.AK==W)).getD false)=(fun t:KA=>t.AK==W) T[i]:=by rw[dd hi];rfl
  have g:FY b2 b2:=Bf _;refine wo<|M Z<|wo<|M Z<|wo<|M Z<|wo<|E (BJ Ge (by assumption) Z Z Z Ai Ai)<|wo ?_;refine E (DT Mc Z o Z)<|wo<|M Z<|wo<|ve (DV Z wK Z (bU (x:=T[i]) W l)) ?_;rintro l w2 ⟨l,rfl⟩;refine wo<|E (BO Z Z) ?_;exact Et ⟨(by rw[r];simp only[look,iz];exact Aao (fun b=>some (Value.bool b)) (by rw[Adn];simp)),Sub.drop _ 8 _ Z Z,(g.up l)⟩
 intro g g;refine za Z<|V Z<|BR Z Z Z ?_;exact⟨(hK.up g),by rw[show Mh T W=i from R,show(Vp T W).isSome=_ from U.symm];rfl⟩
theorem OW{vG:Value}{n:Int}{T:List KA}{d:Tx}(f:Rd Ie w y T)(r:a.oneCell'=true)(t:y.oneCell'=true)(C:vG.oneCell'=true)(l:KH T):Calls QP 38 #[.agg #[a,y,vG,I n],St d] w (Bt fun v' w'=>AZ w w'∧v'= .tuple #[I (Mh T d:Nat), .bool (Vp T d).isSome]):=by
 obtain⟨c,hO,g⟩:=Ay w;have i:Bu Ie c w [0] y T:=Rd.Du f (fun k O=>by simp[g,AU]);refine AY 12 #[.tmp 4, .tmp 5] func38 Z<|Q<|Fa c 102 fun w1 b2 c1 o j=>?_;refine za Z<|V Z<|Q<|E (Aa Ev Z)<|E (Al HI Z j.AE Z)<|M Z<|ve (Ac c1 1 (Ab aaq Z (uF i.D.AB l))) ?_;rintro R w2 ⟨c2,p,J,rfl⟩;refine E (Aq Z Z)<|E (Aq Z Z)<|za Z<|V Z<|BR Z Z Z ?_;exact⟨hO.D.below,Z⟩
section
open Go.ChangeMaps Go.Maps
structure qG {κ:Type} (enc:κ→Value) (es:Array MapEntry) (T:List κ):Prop where
 dx:∀e∈es.toList,∃k∈T,e.key=enc k∧e.val= .bool true
 all:∀k∈T,∃e∈es.toList,e.key=enc k
structure PZ {κ:Type} (enc:κ→Value) (c:Nat→Nat) (w:World) (i b:Nat) (T:List κ):Prop where
 obj:∃es clock,w.heap[b]?=some (.map es clock)∧qG enc es T
 BF:c b=i
structure Tf (P:Program) {κ:Type} (enc:κ→Value) (ok:κ→Prop) (t kt e:TypeId):Prop where
 iu:P.underlying t=some (.map kt e)
 key:Keyed P kt
 lit:∀k,ok k→∃l,keyOf P kt (enc k)=some l
 inj:∀a b,enc a=enc b→a=b
 zero:(P.info? e).bind (·.zero)=some (.bool false)
section
variable {κ:Type} {enc:κ→Value} {ok:κ→Prop} {c c':Nat→Nat} {w w':World} {i b:Nat} {T:List κ}
theorem PZ.lt(h:PZ enc c w i b T):b<w.heap.size:=by obtain⟨g,clock,f,_⟩:=h.obj;exact Cp f
theorem PZ.D(h:PZ enc c w i b T)(m:Mv c w c' w' e:=by exact Go.Eng.KU)(hi:AU e i=false:=by rfl):PZ enc c' w' i b T:=by
 have f:=h.lt;obtain⟨g,clock,l,j⟩:=h.obj;exact⟨⟨g,clock,(m.block b f (by rw[h.BF];exact hi)).trans l,j⟩,(m.BF b f).trans h.BF⟩
variable {P:Program} {env:Env} {ty t kt e:TypeId}
theorem Tf.zeroV(h:Tf P enc ok t kt e)(w:World):(zeroValue e).run P w= .ok (.bool false) w:=by
 have:=h.zero;cases hi:P.info? e with
 |none=>rw[hi] at this;cases this
 |some i=>
  rw[hi] at this;have f:i.zero=some (.bool false):=this;simp[zeroValue,typeInfo,Sem.run,hi,f]
theorem qG.find{f:Array MapEntry}(h:qG enc f T)(hT:Tf P enc ok t kt e)(R:∀k∈T,ok k){k:κ}(O:ok k)(w:World):
 ((Instr.findKey kt (enc k) f.toList).run P w= .ok none w∧k∉T)∨∃j e,(Instr.findKey kt (enc k) f.toList).run P w= .ok (some (j,e.val)) w∧f[j]?=some e∧e.key=enc k∧e.val= .bool true∧k∈T:=by
 obtain⟨l,hl⟩:=hT.lit k O;have p:∀e∈f.toList,∃l,keyOf P kt e.key=some l:=fun e r=>by
  obtain⟨o,i,g,_⟩:=h.dx e r;rw[g];exact hT.lit o (R o i)
 rcases hT.key.find w hl f.toList p with⟨i,g⟩|⟨j,e,i,g,C⟩
 ·refine .inl ⟨i,fun I=>?_⟩;obtain⟨e,r,p⟩:=h.all k I;exact g e r p
 have r:f[j]?=some e:=by simpa using g
 obtain⟨o,p,I,J⟩:=h.dx e (Lx g);have:k=o:=hT.inj _ _ (C.symm.trans I);subst this;exact .inr ⟨j,e,i,r,C,J,p⟩
theorem Rx(c:Nat→Nat)(i:Nat)(enc:κ→Value){t:TypeId}:Hh P env w (.makeMap t none) ty (fun v w'=>∃c',Mv c w c' w' []∧∃b,v= .map (some b)∧PZ enc c' w' i b []):=
 Cr fun _ a o d pos l g=>by
  obtain⟨c',j,hx⟩:=Mv.pure c i ((Aar _ w).alloc (kM _) (.map #[] 0));exact⟨.map (some w.heap.size),w.alloc (.map #[] 0),by simp[execOp,Instr.makeMap],c',j,_,Z,⟨⟨#[],0,Ads _ _,⟨fun e f=>by simp at f,fun k O=>by simp at O⟩⟩,hx _ (kM _)⟩⟩
theorem bV [DecidableEq κ](hT:Tf P enc ok t kt e)(h:PZ enc c w i b T)(J:∀k∈T,ok k){k:κ}(O:ok k):(Instr.lookup t (.map (some b)) (enc k) false).run P w= .ok (.bool (decide (k∈T))) w:=by
 obtain⟨p,clock,o,I⟩:=h.obj;obtain⟨l,hl⟩:=hT.lit k O;have Ze:=hT.key.check w p.isEmpty hl;rcases I.find hT J O w with⟨f,g⟩|⟨j,R,f,U,g,r,C⟩
 ·simp[Instr.lookup,Aaj hT.iu,Acd o,Ze,f,hT.zeroV,Result.andThen,g]
 ·simp[Instr.lookup,Aaj hT.iu,Acd o,Ze,f,Result.andThen,r,C]
theorem gN [DecidableEq κ]{k:κ}(hT:Tf P enc ok t kt e)(j:BY env f=some (.map (some b)))(h:PZ enc c w i b T)(l:∀k∈T,ok k)(hx:BY env K=some (enc k))(O:ok k):DP P env w (.lookup t f K false) ty (.bool (decide (k∈T))):=fun _ a m d pos o g=>by
 simp[execOp,m.eval j,m.eval hx,bV hT h l O,Result.andThen]
theorem Th{k:κ}(hT:Tf P enc ok t kt e)(b2:BY env f=some (.map (some b)))(h:PZ enc c w i b T)(b3:∀k∈T,ok k)(hx:BY env K=some (enc k))(O:ok k):
 Hh P env w (.mapUpdate t f K (.const (.bool true))) ty (fun _ w'=>∃c',Mv c w c' w' [i]∧PZ enc c' w' i b (k::T)):=
 FL fun _ a U d pos m g=>by
  obtain⟨J,clock,I,R⟩:=h.obj;obtain⟨l,hl⟩:=hT.lit k O;have a1:∀o,(setBlock w b o).heap[b]?=some o:=fun o=>heap_setBlock_same I o;have C:∀o,w.grownBy (setBlock w b o) (some b):=fun o=>⟨Z,Z,Z,by simp[setBlock],fun i _ hi=>heap_setBlock_other I o (fun e=>hi (by rw[e]))⟩;have b0:∀m p,qG enc m (k::T)→∃c',Mv c w c' (setBlock w b (.map m p)) [i]∧PZ enc c' (setBlock w b (.map m p)) i b (k::T):=fun m p hs=>by
   obtain⟨c',r,_⟩:=Mv.grown (i:=i) c i (C (.map m p)) (fun j m=>by cases m;exact h.BF);exact⟨c',r,⟨_,_,a1 _,hs⟩,(r.BF b h.lt).trans h.BF⟩
  have Ze:=hT.key.check w false hl;have hy:a.eval (.const (.bool true))= .bool true:=rfl;rcases R.find hT b3 O w with⟨a1,_⟩|⟨j,a8,a1,b1,a6,_,_⟩
  ·refine⟨setBlock w b (.map (J.push ⟨enc k, .bool true,clock⟩) (clock+1)),?_,b0 _ _ ⟨fun e p=>?_,fun C r=>?_⟩⟩
   ·simp[execOp,U.eval b2,U.eval hx,hy,Instr.mapUpdate,Aaj hT.iu,Acd I,Ze,a1,Ad8 _ I,Result.andThen,setBlock]
   ·simp only[Aeb,Aac,pv] at p;rcases p with p|rfl
    ·obtain⟨C,m,g2⟩:=R.dx e p;exact⟨C,Aaw _ m,g2⟩
    exact⟨k,Aau,Z,Z⟩
   simp only[Aeb];rcases Aak.1 r with rfl|r
   ·exact⟨_,Abr _ (pv.2 Z),Z⟩
   obtain⟨e,m,g2⟩:=R.all C r;exact⟨e,Abj _ m,g2⟩
  have a7:J.toList[j]?=some a8:=by simpa using b1
  refine⟨setBlock w b (.map (J.modify j fun e=>{e with key:=enc k,val:= .bool true}) clock),?_,b0 _ _ ⟨fun e p=>?_,fun C r=>?_⟩⟩
  ·have b0:(Instr.keyThatStays (enc k) (enc k)).run P w= .ok (enc k) w:=hT.key.stays w hl;simp[execOp,U.eval b2,U.eval hx,hy,Instr.mapUpdate,Aaj hT.iu,Acd I,Ze,a1,b1,a6,b0,Ad8 _ I,Result.andThen,setBlock]
  ·rw[Agn] at p;rcases mem_modify a7 p with e|e
   ·subst e;exact⟨k,Aau,Z,Z⟩
   obtain⟨C,m,g2⟩:=R.dx _ e;exact⟨C,Aaw _ m,g2⟩
  have key:∀e∈J.toList,∃I∈(J.modify j fun e=>{e with key:=enc k,val:= .bool true}).toList,I.key=e.key:=fun e p=>by
   obtain⟨q,J⟩:=Aba p;rw[Agn];refine⟨if j=q then{e with key:=enc k,val:= .bool true} else e,Lx (i:=q) (by rw[Aee,J];split<;>rfl),?_⟩;split
   ·rename_i p;subst p;rw[a7] at J;injection J with J;subst J;exact a6.symm
   rfl
  rcases Aak.1 r with rfl|r
  ·obtain⟨I,m,g2⟩:=key a8 (Lx a7);exact⟨I,m,g2.trans a6⟩
  obtain⟨e,m,g2⟩:=R.all C r;obtain⟨I,p,r⟩:=key e m;exact⟨I,p,r.trans g2⟩
end
end
section
open Go.Maps
abbrev gO(p:Int×Int):Value:= .agg #[I p.1,I p.2]
abbrev uG(p:Int×Int):Prop:=Go.Eng.Int64 p.1∧Go.Eng.Int64 p.2
theorem uH(h:Go.Eng.Int64 p):(Lit.int .i64 p).wf=true:=by
 obtain⟨f,g⟩:=h;simp[Lit.wf,IntKind.min,IntKind.max,IntKind.bits,IntKind.signed];omega
theorem mS:Tf QP gO uG 254 125 4 where
 iu:=underlying254
 key:=Keyed.of_law (deep_law_laid Ao (m:=2) G (Adf Ao) Ao Ao)
 lit:=fun k O=>by
  obtain⟨a,b⟩:=k;obtain⟨i,j⟩:=O;have hu:=underlying125;have g:=underlying3;have o:QP.keyType 125=true:=Ao;have hc:QP.cellsOf 125=2:=Ao;have l:QP.cellsOf 3=1:=Ao;obtain⟨n,p⟩:∃n,QP.types.size+1=n+2:=⟨QP.types.size-1,by have:0<QP.types.size:=Adf Ao;omega⟩;have f:QP.keyLits (n+2) 125 [I a,I b]=some [.int .i64 a, .int .i64 b]:=by
   simp[Program.keyLits,hu,g,hc,l,uH i,uH j]
  have hf:(Value.agg #[I a,I b]).formed QP 125=true:=by simp[Value.formed,hu,hc]
  unfold keyOf;rw[hu];dsimp only;rw[o,hf,p];have e:(Value.agg #[I a,I b]).cells.toList=[I a,I b]:=rfl;rw[e,f];exact⟨_,Z⟩
 inj:=fun a b h=>by
  obtain⟨r,t⟩:=a;obtain⟨b1,b2⟩:=b;simpa using h
 zero:=Ao
theorem th:Tf QP (fun n:Int=>I n) (fun n=>Go.Eng.Int64 n) 255 3 4 where
 iu:=underlying255
 key:=int_keyed underlying3
 lit:=fun k O=>⟨_,Aez underlying3 (uH O)⟩
 inj:=fun a b h=>by injection h
 zero:=Ao
end
def yU(l:List CV):Nat→Option Int
 |0=>none
 |i+1=>l[i]?.map (·.id)
theorem Vq{o:Option Int}{x:CV}(h:Dg z x=false∨p≤x.id∨(∃y,o=some y∧x.id≤y)∨Nx u x.Ad=false):Gy z p o u (x::C)=false:=by
 unfold Gy;rcases h with h|h|⟨y,rfl,h⟩|h
 ·rw[h];rfl
 ·rw[Ae9 (show¬x.id<p by omega)];simp
 ·dsimp only;rw[decide_eq_false (show¬y<x.id by omega)];simp
 ·rw[h];simp
theorem jb{o:Option Int}{x:CV}(f:Dg z x=true)(g:x.id<p)(i:∀y,o=some y→y<x.id)(j:Nx u x.Ad=true):Gy z p o u (x::C)=Gy z p (some x.id) (x.Ad.reverse++u) C:=by
 rw[Gy.eq_def];dsimp only;rw[f,decide_eq_true g,j];cases o with
 |none=>simp
 |some y=>dsimp only;rw[decide_eq_true (i y Z)];simp
section
open Go.Maps
theorem _root_.Go.Eng.DG.zB{J:List Nat}{p:Addr}{cs:List Value}{i:Nat}{v:Value}(h:DG c w J p cs)(hi:cs[i]?=some v):DG c w J (p.add i) [v]:=by
 have f:(p.add i).block=p.block:=by rw[Gk]
 refine⟨⟨fun j u hu=>?_,by rw[f];exact h.DF.2⟩,by rw[f];exact h.BF⟩;cases j with
 |zero=>
  simp at hu;subst hu;rw[add_zero];exact h.DF.1 i v hi
 |succ j=>simp at hu
theorem bW{vG:Value}(hs:z.ok)(U:Rd DS w a C)(b6:y.oneCell'=true)(b8:vG.oneCell'=true):
 Calls QP 91 #[.agg (DB z).toArray, .agg #[a,y,vG,I p]] w (Bt fun v w'=>AZ w w'∧v= .bool (Gy z p none [] C)):=by
 have f:=U.small;have f:=U.AD;obtain⟨f,f,f,f,f⟩:=id hs;obtain⟨c,hO,f⟩:=Ay w;have o:Bu DS c w [0] a C:=Rd.Du U (fun k O=>by simp[f,AU]);refine AY 65 #[.tmp 4] func91 Z<|Q<|Fa c 102 fun w1 b2 c1 f t=>?_;refine Fa c1 103 fun w2 b3 c2 f AR=>?_;refine V Z<|Q<|ve ((Rx c2 77 gO)) ?_;rintro v10 f ⟨f,f,⟨R,rfl,l⟩⟩;refine V Z<|Ag<|Q<|E (Aa CA Z)<|E (Al Ei Z AR.D.AE Z)<|E (BN Di) ?_;refine M Z<|Ah<|An<|AG (σ:=Nat×List (Int×Int)) (fun f=>[(2,P1 b2),(3,P1 b3),(5, .map (some R)),(12,a),(13,I C.length),(14,I f.1)]) (fun f w'=>(f.1≤C.length∧Gy z p (yU C f.1) f.2 (C.drop f.1)=Gy z p none [] C∧∀n∈f.2,uG n)∧∃c',CD w c' w'∧Bu DS c' w' [0] a C∧AI c' w' 102 b2 (DB z) 29∧AI c' w' 103 b3 [a,y,vG,I p] 58∧PZ gO c' w' 77 R f.2) (fun f=>C.length-f.1) (0,[]) AL ⟨⟨Nat.zero_le _,Z,fun n hp=>by simp at hp⟩,_,hO.D,o.D,t.D,AR.D,l⟩ ?_;rintro⟨i,T⟩ g ⟨⟨hi,hF,a8⟩,r,hO,o,t,AR,l⟩;dsimp only at hi hF a8 l;refine Q<|E (AX Z Z)<|Ah<|Ag<|BA Z (fun g=>?_) fun g=>?_
 ·have a6:i<C.length:=G;obtain⟨x,hx⟩:∃x,x=C[i]:=⟨_,Z⟩;obtain⟨u,g,L,J,a1,a7⟩:=GK o a6;rw[←hx] at g L J a1 a7;have J:=L.AB.AD;rw[Aav a6,←hx] at hF;refine As<|Ag<|An<|Q<|M Z<|E (Cv Di) ?_;refine E (DT Cn Z g.DF Z)<|EK r 107 HF fun g b7 a1 g J=>?_;refine za Z<|Av (Am Cn Z Z J Z Z Bg) ?_;rintro _ r ⟨J,a7⟩;refine Ah<|Ag<|Ag ?_;have b1:=fun(r:0<i)↦GK ((o.D g).D a7) (k:=i-1) G;have a7:∀r:0<i,yU C i=some (C[i-1]'(by omega)).id:=fun r↦by
   obtain⟨j,rfl⟩:∃j,i=j+1:=⟨i-1,G⟩;rw[yU,dd G];rfl
  refine AM a1 [] [1,1,2,0,0,0,1,0,1,0,0,0,0,0,0,0,1,0,1,0,0,0,0,1,0,0,0] [0,1,2,3,4,5,6,7,8,9,10,11,12,13,14,15,16,17,18,19,20,21,22,23,24,25,26] fun g g g=>vc Z g.kp (t.D.kn CP Z Z)<|vc Z g.kp (J.D.kn Cn Z Z)<|Db Z (Ac a1 1 (Ab lx Z (Vn hs L.D.AB))) ?_;rintro a1 a1 ⟨a1,a1,b0,rfl⟩;refine g.Bl a1 fun g=>AN Z (BL Z)<|Bm Z Z ?_;apply JV false 5 _ g.kp Mq
  ·intro a1;refine AN Z (Aa Dy Z)<|vc Z g.kp (J.D.kb AF Z Z)<|AN Z (Aa Ik Z)<|vc Z g.kp (AR.D.kb AF Z Z)<|AN Z (Dh Z Z) ?_;exact po 5
  refine Bm Z Z ?_;apply JV false 14 _ g.kp Mq
  ·intro a1;refine Bm Z Z<|AN Z (CM Z Z)<|Bm Z Z ?_;apply JV true 10 (decide (x.id≤((C[i-1]?).map (·.id)).getD 0)) g.kp Mq
   ·intro a1;have r:0<i:=G;obtain⟨a1,b0,_⟩:=b1 r;refine AN Z (Aa Dy Z)<|vc Z g.kp (J.D.kb AF Z Z)<|AN Z (Aa CA Z)<|vc Z g.kp (AR.D.kb Ei Z Z)<|Bm Z Z<|AN Z (Gu Z Z Ai Ai)<|AN Z (Ky Di o.D Z Z G G) ?_;rw[show((i:Int)-1).toNat=i-1 by omega]
    first|refine AN Z (Aa Dy Z) ?_|refine AN Z (Bn Dy Z) ?_
    refine vc Z g.kp (fun W a1=>Cc AF Z ((b0.zB (i:=0) Z).kp a1 Z).DF)<|AN Z (Gw Z Z) ?_;exact po 10 ((by rw[dd (show i-1<C.length by omega)];rfl))
   exact po 4
  refine AP ?_;refine BA Z (fun a1=>?_) fun a1=>?_
  ·have e:Gy z p none [] C=false:=by
    rw[←hF];refine Vq ?_;rcases a1 with(h|h)|⟨h,g⟩
    ·exact .inl h
    ·exact .inr (.inl h)
    have r:0<i:=G;rw[dd (show i-1<C.length by omega)] at g;exact .inr (.inr (.inl ⟨_,a7 r,g⟩))
   refine Q<|V Z<|Af Z Z ?_;exact⟨hO.D.below,by rw[e]⟩
  have b0:Dg z x=true:=a1.1.1;have b4:=(CI b0).2.2.2.2.1;have b4:x.id<p:=G;have b5:∀vT,yU C i=some vT→vT<x.id:=fun vT hy↦by
   rcases Aa6 i with r|r
   ·subst r;cases hy
   have g:=a1.2;rw[dd (show i-1<C.length by omega),Aby (show(0:Int)<(i:Int) by omega)] at g;rw[a7 r] at hy;injection hy with hy;simp at g;omega
  refine As<|Q<|E (Aa Cl Z)<|E (Al CH Z J.D.AE Z)<|E (BN DL) ?_;refine M Z<|Ah<|An<|AG (σ:=Nat×List (Int×Int)) (fun f=>[(2,P1 b2),(3,P1 b3),(5, .map (some R)),(12,a),(13,I C.length),(14,I i),(7,P1 b7),(47,u),(48,I x.Ad.length),(49,I f.1)]) (fun f w'=>(f.1≤x.Ad.length∧Nx f.2 (x.Ad.drop f.1)=Nx T x.Ad∧f.2=(x.Ad.take f.1).reverse++T∧∀n∈f.2,uG n)∧∃c',CD w c' w'∧Bu DS c' w' [0] a C∧AI c' w' 102 b2 (DB z) 29∧AI c' w' 103 b3 [a,y,vG,I p] 58∧Bu Bx c' w' [0] u x.Ad∧PZ gO c' w' 77 R f.2) (fun f=>x.Ad.length-f.1) (0,T) AL ⟨⟨Nat.zero_le _,Z,Z,a8⟩,_,hO.D,o.D,t.D,AR.D,L.D,l.D⟩ ?_;rintro⟨j,a8⟩ f ⟨⟨f,hf,r,g⟩,J,hO,o,t,AR,L,l⟩;dsimp only at f hf r g l;refine Q<|E (AX Z Z)<|Ah<|Ag<|BA Z (fun f=>?_) fun f=>?_
  ·have a1:j<x.Ad.length:=G;obtain⟨q,a7⟩:∃q,q=x.Ad[j]:=⟨_,Z⟩;obtain⟨f,R⟩:=Co L a1 AO;rw[←a7] at f R;rw[Aav a1,←a7,Nx] at hf;refine As<|Ag<|An<|Q<|E (Cv DL) ?_;refine E (DT Dj Z f.DF Z)<|EK J 109 JU fun f f f f f=>?_;refine Av (Am Dj Z Z f Z Z Bg) ?_;rintro _ J ⟨f,J⟩;refine Ah<|Ag<|Q<|E (Aa Ct Z)<|E (Al AF Z f.AE Z)<|E (Dh Z Z)<|M Z ?_;apply AW true 3 _ CK
   ·intro J;refine wo<|M Z<|wo<|E (Ba Dj Z f.AE Z)<|wo<|E (gN mS Z l.D g Z R) ?_;exact EQ 3
   refine Ah<|BA Z (fun J=>?_) fun J=>?_
   ·have e:Gy z p none [] C=false:=by
     rw[←hF];refine Vq (.inr (.inr (.inr ?_)));rw[←hf,zm];exact⟨by simpa using J.1,by simpa using J.2⟩
    refine Q<|V Z<|Af Z Z ?_;exact⟨hO.D.below,by rw[e]⟩
   rw[if_neg (by rintro⟨b1,g2⟩;simp[b1,g2] at J)] at hf;refine As<|cg<|M Z<|E (Ba Dj Z f.AE Z)<|Av ((Th mS Z l.D g Z R)) ?_;rintro _ f ⟨f,f,l⟩;refine Ah<|cg<|E (Bc Z Z Ai Ai)<|M Z<|Ah ?_;refine⟨(j+1,q::a8),AL,⟨⟨by dsimp only;omega,hf,?_,fun n hp↦?_⟩,_,hO.D,o.D,t.D,AR.D,L.D,l⟩,by show x.Ad.length-(j+1)<x.Ad.length-j;omega⟩
   ·rw[r,pk a1,List.reverse_append,←a7];rfl
   rcases Aak.1 hp with rfl|hp
   ·exact R
   exact g n hp
  have f:j=x.Ad.length:=G;rw[List.drop_of_length_le G,Nx] at hf;rw[List.take_of_length_le G] at r;rw[jb b0 b4 b5 hf.symm] at hF;refine Az Z<|cg<|E (Bc Z Z Ai Ai)<|M Z<|Ah ?_;refine⟨(i+1,a8),AL,⟨⟨by dsimp only;omega,?_,g⟩,_,hO,o,t,AR,l⟩,by show C.length-(i+1)<C.length-i;omega⟩;rw[←hF,r,yU,List.getElem?_eq_getElem a6,←hx];rfl
 rw[Abn G,Gy] at hF;refine Az Z<|Q<|V Z<|Af Z Z ?_;exact⟨hO.below,by rw[←hF]⟩
end
theorem Ry{enc:α→List Value}(g:∀x,(enc x).length=n){l:List α}{x:α}(O:k<l.length)(hf:m<n)(hx:enc x=(enc l[k]).set m a):(l.flatMap enc).set (k*n+m) a=(l.set k x).flatMap enc:=by
 have hl:l=l.take k++l[k]::l.drop (k+1):=by rw[←Aav O,Aas]
 have i:((l.take k).flatMap enc).length=k*n:=by rw[EN g,kL,Abl G]
 conv=>lhs;rw[hl]
 rw[Acg (l:=l),zm O,Aan,Aaa,Aan,Aaa,Adm (h:=by omega),i,Ab3,Age (h:=by rw[g];exact hf),hx]
theorem Vr(h:Rd Bx w a u):∀p∈u,Go.Eng.Int64 p.1∧Go.Eng.Int64 p.2:=fun p hp=>by
 obtain⟨k,O⟩:=Aba hp;obtain⟨cs,_,f⟩:=h.elem k p O;exact f.2
theorem Rz(h:Rd Cg w a l):∀p∈l,Go.Eng.Int64 p:=fun p hp=>by
 obtain⟨k,O⟩:=Aba hp;obtain⟨cs,_,f⟩:=h.elem k p O;exact f.2
structure tj (c:Nat→Nat) (w:World) (J:List Nat) (Y:List Gs):Prop where
 el:∀y∈Y,Bu Bx c w J y.2.v y.1.Ad
structure tk (c:Nat→Nat) (w:World) (J:List Nat) (Y:List Vm):Prop where
 el:∀y∈Y,Bu Cg c w J y.2.v y.1.list
theorem tj.D{c:Nat→Nat}{w:World}{I:List Nat}(h:tj c w e U)(m:Mv c w c' w' I:=by exact Go.Eng.KU)(hi:BB e I=true:=by rfl):tj c' w' e U:=⟨fun y hy=>(h.el y hy).D m hi⟩
theorem tk.D{c:Nat→Nat}{w:World}{I:List Nat}{Y:List Vm}(h:tk c w e Y)(m:Mv c w c' w' I:=by exact Go.Eng.KU)(hi:BB e I=true:=by rfl):tk c' w' e Y:=⟨fun y hy=>(h.el y hy).D m hi⟩
structure ND (c:Nat→Nat) (w:World) (vS vT vG:Value) (b:Bk) (YS:List Gs) (YT:List Vm):Prop where
 s:AJ c w 121 115 4 vS YS.length (YS.flatMap CL)
 sl:YS.map (·.1)=b.Ae
 sp:tj c w [122] YS
 si:∀y∈YS,Go.Eng.Int64 y.1.id∧Go.Eng.Int64 y.1.len∧Go.Eng.Int64 y.1.gen
 t:AJ c w 123 141 4 vT YT.length (YT.flatMap Fk)
 tl:YT.map (·.1)=b.AQ
 tp:tk c w [124] YT
 ti:∀y∈YT,Go.Eng.Int64 y.1.len∧y.1.AK.length≤140737488355328
 g:AJ c w 125 171 2 vG b.De.length (b.De.flatMap Xp)
theorem ND.D{c:Nat→Nat}{w:World}{vG:Value}{b:Bk}{YT:List Vm}(h:ND c w a y vG b U YT)(m:Mv c w c' w' e:=by exact Go.Eng.KU)(hi:BB [121,122,123,124,125] e=true:=by rfl):ND c' w' a y vG b U YT:=by
 have O:∀i∈[121,122,123,124,125],AU e i=false:=fun i h=>BD hi h;exact⟨h.s.D m (O 121 Bb),h.sl,h.sp.D m (CC hi Bb),h.si,h.t.D m (O 123 Bb),h.tl,h.tp.D m (CC hi Bb),h.ti,h.g.D m (O 125 Bb)⟩
theorem XK{x:α}(O:k<t.length):(t.set k x).take (k+1)=t.take k++[x]∧(t.set k x).drop (k+1)=t.drop (k+1):=by
 rw[Acg,zm O];have f:(t.take k).length=k:=by rw[kL];omega
 refine⟨?_,?_⟩
 ·rw[Ag7,f,Ab3,vq G];rfl
 rw[List.drop_append,f,Ab3,Abn G];rfl
section
variable {c0 c:Nat→Nat} {w0 w:World} {J:List Nat}
theorem AJ.dz(h:AJ c w i d k a n b)(f:n=m):AJ c w i d k a m b:=by subst f;exact h
theorem Oq(h:BE c0 w0 J c w)(hi:(Nat.blt 0 i&& !AU J i)=true)(O:c k=i):back c0 w0 c k=i:=by
 rw[kg,Aa9] at hi;have g:0<i:=Aat hi.1;unfold back;split
 ·rename_i f;rw[h.BF k f] at O;unfold Bw at O;split at O
  ·rename_i hh;rw[O,hi.2] at hh;cases hh
  ·omega
 ·exact O
theorem AJ.EO(f:AJ c w i d k a n b)(h:BE c0 w0 J c w)(hi:(Nat.blt 0 i&& !AU J i)=true:=by rfl):AJ (back c0 w0 c) w i d k a n b:=⟨f.own,fun size O=>Oq h hi (f.BF size O)⟩
theorem AI.EO(f:AI c w i k cs d)(h:BE c0 w0 J c w)(hi:(Nat.blt 0 i&& !AU J i)=true:=by rfl):AI (back c0 w0 c) w i k cs d:=⟨f.AE,Oq h hi f.BF⟩
theorem EA.EO(f:EA X c w [i])(h:BE c0 w0 J c w)(hi:(Nat.blt 0 i&& !AU J i)=true:=by rfl):EA X (back c0 w0 c) w [i]:=HM.mono f fun k _ O=>by
 show AU [i] (back c0 w0 c k)=true
 rw[Oq h hi (Mm.1 O)];simp[AU]
end
theorem gP{vS vT vG:Value}{b:Bk}(h0:Rd DS w vS b.Ae)(h1:Rd Ie w vT b.AQ)(h2:Rd Wo w vG b.De)(l8:HO vG)(hl:b.Ae.length≤1000∧b.AQ.length≤1000∧b.De.length≤1000)(l9:∀x∈b.Ae,x.Ad.length≤1000)(l5:∀x∈b.AQ,x.list.length≤100000):
 Calls QP 47 #[.agg #[vS,vT,vG,I b.next]] w (Bt fun v w'=>∃c',Mv c w c' w' []∧∃k0 k1 j9 YS YT,v= .agg #[k0,k1,j9,I b.next]∧ND c' w' k0 k1 j9 b YS YT):=by
 have p7:=h0.AD;have p8:=h1.AD;have p9:=h2.AD;have hJ:=BE.start c w [];have e2:Bu DS (Bw c []) w [0] vS b.Ae:=Rd.Du h0 (fun k O=>rfl);have e3:Bu Ie (Bw c []) w [0] vT b.AQ:=Rd.Du h1 (fun k O=>rfl);have h7:Bu Wo (Bw c []) w [0] vG b.De:=Rd.Du h2 (fun k O=>rfl);clear h0 h1 h2;generalize Bw c []=c0 at hJ e2 e3 h7;obtain⟨YS,e8,j4,h4⟩:=bP e2;obtain⟨YT,e9,j5,h5⟩:=mR e3;have j6:tj c0 w [0] YS:=⟨fun y hy=>(h4 y hy).1⟩;have U:tk c0 w [0] YT:=⟨fun y hy=>(h5 y hy).1⟩;have l2:=fun y hy=>(h4 y hy).2;have l3:=fun y hy=>(h5 y hy).2;clear h4 h5;have n5:YS.length=b.Ae.length:=by rw[←e8,kr]
 have n6:YT.length=b.AQ.length:=by rw[←e9,kr]
 refine AY 56 #[.cell 2 58] func47 Z<|Q<|Fa c0 101 fun w1 b1 c1 o6 r=>?_;refine EK c1 102 Uz fun w2 b2 c2 p0 C=>Ah<|Ag<|AM c2 [] [0,1,2,0,1,2,0,1,2,0,3,0,3,0,3] [0,1,3,4,6,7,2,9,5,8,10,11,12,13,14] fun r5 p1 p=>?_;have c9:=r;have k9:=C;refine AN Z (Aa CA Z)<|vc Z p.kp (c9.D.kb Ei Z Z)<|AN Z (Aa Ev Z)<|vc Z p.kp (c9.D.kb HI Z Z)<|AN Z (Aa Qz Z)<|vc Z p.kp (c9.D.kb aC Z Z)<|Db Z (Ac c2 121 (Ab wT Z (iX e2.D.AB e8 (fun k O↦(j4.D.el k O).DF) G))) ?_;rintro b9 r6 ⟨k2,k8,n2,f⟩;refine p.Bl k8 fun p=>?_;replace f:=f.Du n2;refine AN Z (Aa CA Z)<|Db Z (Ac k2 123 (Ab wU Z (iY e3.D.AB e9 (fun k O↦(j5.D.el k O).DF) G))) ?_;rintro v10 r7 ⟨k3,j1,n3,o⟩;refine p.Bl j1 fun p=>?_;replace o:=o.Du n3;refine Db Z (Ac k3 125 (Ab wV Z (iZ h7.D.AB l8 G))) ?_;rintro b8 r8 ⟨o3,h3,n4,t⟩;refine p.Bl h3 fun p=>?_;replace t:=t.Du n4;replace f:=(f.D j1).D h3;replace o:=o.D h3;have q0:=f.AD;have q1:=f.AA;have q2:=o.AD;have q3:=o.AA;have q4:=t.AD;have q5:=t.AA;refine LG Z (Ap Ei Z Z ra ra r.D Z) ?_;rintro _ r9 ⟨r,p2⟩;refine AN Z (Aa Ev Z)<|LG Z (Ap HI Z Z ra ra r Z) ?_;rintro _ s0 ⟨r,p3⟩;refine AN Z (Aa Qz Z)<|LG Z (Ap aC Z Z ra ra r Z) ?_;rintro _ s3 ⟨r,p4⟩;refine AP ?_;clear c9 k9;clear p;refine Ag<|Q<|E (Aa CA Z)<|E (Al Ei Z r.AE Z)<|E (BN Di) ?_;refine M Z<|Ah<|An ?_;refine AG (σ:=Nat×List Gs) (fun l=>[(1,P1 b1),(2,P1 b2),(19,I YS.length),(20,I l.1)]) (fun l w'=>(l.1≤YS.length∧l.2.length=YS.length∧l.2.map (·.1)=b.Ae∧(∀y∈l.2,Go.Eng.Int64 y.1.id∧Go.Eng.Int64 y.1.len∧Go.Eng.Int64 y.1.gen))∧∃c',BE c w [] c' w'∧AI c' w' 101 b1 [b9,v10,b8,I b.next] 58∧AI c' w' 102 b2 [.slice none 0 0, .slice none 0 0, .slice none 0 0,I 0] 58∧AJ c' w' 121 115 4 b9 YS.length (l.2.flatMap CL)∧AJ c' w' 123 141 4 v10 YT.length (YT.flatMap Fk)∧AJ c' w' 125 171 2 b8 b.De.length (b.De.flatMap Xp)∧tj c' w' [122] (l.2.take l.1)∧tj c' w' [0] (l.2.drop l.1)∧tk c' w' [0] YT) (fun l=>YS.length-l.1) (0,YS) (by rw[n5];exact AL) ⟨⟨Nat.zero_le _,Z,e8,l2⟩,_,hJ.D,r,C.D,f.D,o.D,t.D,⟨fun y hy=>by simp at hy⟩,j6.D,U.D⟩ ?_;clear hJ r C f o t j6 U e2 e3 h7 j4 j5;rintro⟨i,Y⟩ n7 ⟨⟨hi,b3,c6,c5⟩,e6,hJ,r,C,f,o,t,a1,e0,U⟩;dsimp only at hi b3 c6 c5 f a1 e0;refine Q<|E (AX Z Z)<|Ah<|Ag<|BA Z (fun l0=>?_) fun l0=>?_
 ·have a6:i<Y.length:=G;rw[←b3] at f;obtain⟨y,hy⟩:∃y,y=Y[i]:=⟨_,Z⟩;have j7:y∈Y:=by rw[hy];exact mv a6
  have p5:=l9 y.1 (by rw[←c6];exact Afi j7);have b5:Bu Bx e6 n7 [0] y.2.v y.1.Ad:=e0.el y (by rw[hy,Aav a6];exact Aau);obtain⟨g,cp,rfl,l7,l6⟩:=f.CT G;have j2:=f.elem EW AO a6;rw[←hy] at j2;have h6:=Vr b5.AB;refine As<|Ag<|An<|Q<|M Z<|V Z<|AM e6 [] [0,1,0,0,1,0,0,0,1,2,0,0,3] [0,1,2,3,4,5,6,7,8,9,10,11,12] fun q8 o7 p=>?_;refine AN Z (Aa CA Z)<|vc Z p.kp (r.D.kb Ei Z Z)<|Bm Z Z<|AN Z (Aa CA Z)<|vc Z p.kp (r.D.kb Ei Z Z)<|Bm Z Z<|AN Z (BS Di f.D Z Z G G)<|AN Z (Bn Cl Z)<|vc Z p.kp (j2.D.kf CH Z Z) ?_;refine Db Z (Ac e6 122 (Ab Tw Z (EX b5.D.AB G))) ?_;rintro h9 q9 ⟨n9,k4,n0,J⟩;refine p.Bl k4 fun p=>?_;replace J:=J.Du n0;have b7:=J.AD;have h8:=J.AA;have a8:Bu Bx _ _ [122] h9 y.1.Ad:=J.Gl G h6;refine AN Z (BS Di f.D Z Z G G) ?_
  first|refine AN Z (Aa Cl Z) ?_|refine AN Z (Bn Cl Z) ?_
  refine LG Z ((Dv (j:=i*4+3) (x:= .tmp 34) (y:= .tmp 32) (u:=h9) CH f.D Z G (by rw[show(⟨g,i*4+3,none⟩:Addr)=(Bz (.slice (some ⟨g,0,none⟩) Y.length cp) 4 (i:Int).toNat).add 3 by simp[Bz,add_lit]];rfl) Z h8 b7)) ?_;rintro _ r0 ⟨o0,k5,f⟩;obtain⟨c3,e4⟩:∃c3:Gs,c3=(y.1,⟨h9,b7⟩):=⟨_,Z⟩;rw[Ry EW (x:=c3) a6 AO (by rw[e4,←hy];rfl)] at f;obtain⟨t1,t2⟩:=XK (x:=c3) a6;refine AP ?_;clear p;refine cg<|E (Bc Z Z Ai Ai)<|M Z<|Ah ?_;refine⟨(i+1,Y.set i c3),AL,⟨⟨by dsimp only;omega,by dsimp only;rw[List.length_set];exact b3,?_,fun z R↦?_⟩,_,hJ.D,r.D,C.D,f.dz b3,o.D,t.D,?_,?_,U.D⟩,by show YS.length-(i+1)<YS.length-i;omega⟩
  ·rw[←c6];exact Ed _ (dd a6) (by rw[e4,←hy])
  ·rcases Aa4 R with h|h
   ·exact c5 z h
   rw[h,e4];exact c5 y j7
  ·dsimp only;rw[t1];refine⟨fun z R↦?_⟩;rcases List.mem_append.1 R with h|h
   ·exact a1.D.el z h
   replace a8:=a8.D k5;rw[pv.1 h,e4];exact a8
  dsimp only;rw[t2];exact⟨fun z R↦e0.D.el z (by rw[List.drop_eq_getElem_cons a6];exact List.mem_cons_of_mem _ R)⟩
 have o4:i=YS.length:=G;rw[List.take_of_length_le G] at a1;replace f:=f.dz b3.symm;have q6:=f.AD;have q7:=f.AA;refine Az Z<|Ag<|Q<|E (Aa Ev Z)<|E (Al HI Z r.AE Z)<|E (BN Ge) ?_;refine M Z<|Ah<|An ?_;refine AG (σ:=Nat×List Vm) (fun l=>[(1,P1 b1),(2,P1 b2),(38,I YT.length),(39,I l.1)]) (fun l w'=>(l.1≤YT.length∧l.2.length=YT.length∧l.2.map (·.1)=b.AQ∧(∀y∈l.2,Go.Eng.Int64 y.1.len∧y.1.AK.length≤140737488355328))∧∃c',BE c w [] c' w'∧AI c' w' 101 b1 [b9,v10,b8,I b.next] 58∧AI c' w' 102 b2 [.slice none 0 0, .slice none 0 0, .slice none 0 0,I 0] 58∧AJ c' w' 121 115 4 b9 Y.length (Y.flatMap CL)∧AJ c' w' 123 141 4 v10 YT.length (l.2.flatMap Fk)∧AJ c' w' 125 171 2 b8 b.De.length (b.De.flatMap Xp)∧tj c' w' [122] Y∧tk c' w' [124] (l.2.take l.1)∧tk c' w' [0] (l.2.drop l.1)) (fun l=>YT.length-l.1) (0,YT) (by first|exact AL|(rw[n6];exact AL)) ⟨⟨Nat.zero_le _,Z,e9,l3⟩,_,hJ,r,C,f,o,t,a1,⟨fun y hy=>by simp at hy⟩,U⟩ ?_;clear hJ r C f o t a1 U e0;rintro⟨j,b0⟩ n8 ⟨⟨l4,b4,c8,c7⟩,e7,hJ,r,C,f,o,t,a1,e1,U⟩;dsimp only at l4 b4 c8 c7 o e1 U;refine Q<|E (AX Z Z)<|Ah<|Ag<|BA Z (fun l1=>?_) fun l1=>?_
 ·have a7:j<b0.length:=G;rw[←b4] at o;obtain⟨z,R⟩:∃z,z=b0[j]:=⟨_,Z⟩;have j8:z∈b0:=by rw[R];exact mv a7
  have p6:=l5 z.1 (by rw[←c8];exact Afi j8);have b5:Bu Cg e7 n8 [0] z.2.v z.1.list:=U.el z (by rw[R,Aav a7];exact Aau);obtain⟨g,cp,rfl,l7,l6⟩:=o.CT G;have j3:=o.elem Gc AO a7;rw[←R] at j3;have h6:=Rz b5.AB;refine As<|Ag<|An<|Q<|M Z<|V Z<|AM e7 [] [0,1,0,0,1,0,0,0,1,2,0,0,3] [0,1,2,3,4,5,6,7,8,9,10,11,12] fun r1 o8 p=>?_;refine AN Z (Aa Ev Z)<|vc Z p.kp (r.D.kb HI Z Z)<|Bm Z Z<|AN Z (Aa Ev Z)<|vc Z p.kp (r.D.kb HI Z Z)<|Bm Z Z<|AN Z (BS Ge o.D Z Z G G)<|AN Z (Bn Hv Z)<|vc Z p.kp (j3.D.kf BQ Z Z) ?_;refine Db Z (Ac e7 124 (Ab YN Z (GN b5.D.AB G))) ?_;rintro j0 r2 ⟨o1,k6,n1,J⟩;refine p.Bl k6 fun p=>?_;replace J:=J.Du n1;have b7:=J.AD;have h8:=J.AA;have a8:Bu Cg _ _ [124] j0 z.1.list:=J.Gl G h6;refine AN Z (BS Ge o.D Z Z G G) ?_
  first|refine AN Z (Aa Hv Z) ?_|refine AN Z (Bn Hv Z) ?_
  refine LG Z ((Dv (j:=j*4+3) (x:= .tmp 53) (y:= .tmp 51) (u:=j0) BQ o.D Z G (by rw[show(⟨g,j*4+3,none⟩:Addr)=(Bz (.slice (some ⟨g,0,none⟩) b0.length cp) 4 (j:Int).toNat).add 3 by simp[Bz,add_lit]];rfl) Z h8 b7)) ?_;rintro _ r3 ⟨o2,k7,o⟩;obtain⟨c4,e5⟩:∃c4:Vm,c4=(z.1,⟨j0,b7⟩):=⟨_,Z⟩;rw[Ry Gc (x:=c4) a7 AO (by rw[e5,←R];rfl)] at o;obtain⟨t1,t2⟩:=XK (x:=c4) a7;refine AP ?_;clear p;refine cg<|E (Bc Z Z Ai Ai)<|M Z<|Ah ?_;refine⟨(j+1,b0.set j c4),AL,⟨⟨by dsimp only;omega,by dsimp only;rw[List.length_set];exact b4,?_,fun q b6↦?_⟩,_,hJ.D,r.D,C.D,f.D,o.dz b4,t.D,a1.D,?_,?_⟩,by show YT.length-(j+1)<YT.length-j;omega⟩
  ·rw[←c8];exact Ed _ (dd a7) (by rw[e5,←R])
  ·rcases Aa4 b6 with h|h
   ·exact c7 q h
   rw[h,e5];exact c7 z j8
  ·dsimp only;rw[t1];refine⟨fun q b6↦?_⟩;rcases List.mem_append.1 b6 with h|h
   ·exact e1.D.el q h
   replace a8:=a8.D k7;rw[pv.1 h,e5];exact a8
  dsimp only;rw[t2];exact⟨fun q b6↦U.D.el q (by rw[List.drop_eq_getElem_cons a7];exact List.mem_cons_of_mem _ b6)⟩
 have o5:j=YT.length:=G;rw[vq G] at e1;replace o:=o.dz b4.symm;refine Az Z<|Q<|E (Ba Fy Z r.AE Z)<|Av (Am Fy Z Z C Z Z Bg) ?_;rintro _ r4 ⟨C,o9⟩;refine Ah<|FH Z (DZ Fy Z C.AE Z)<|⟨_,hJ.D.out,b9,v10,b8,Y,b0,Z,f.D.EO hJ.D,c6,⟨fun y hy↦(a1.D.el y hy).EO hJ.D⟩,c5,o.D.EO hJ.D,c8,⟨fun y hy↦(e1.D.el y hy).EO hJ.D⟩,c7,t.D.EO hJ.D⟩
theorem MD{c d vl vs:Value}{r:Rec}(h:FG.rd k w [a,y,c,d,vl,vs] r):FC Cg k w vl r.list:=by
 obtain⟨i,l,f,g,j,_⟩:=h;simp only[Ac8] at f;have:vl=i:=f.2.2.2.2.1;subst this;exact g
theorem KX{c d vl vs:Value}{r:Rec}(h:FG.rd k w [a,y,c,d,vl,vs] r):FC Bx k w vs r.Bo:=by
 obtain⟨l,i,f,j,g,_⟩:=h;simp only[Ac8] at f;have:vs=i:=f.2.2.2.2.2.1;subst this;exact g
theorem qH{v:Value}{L:List Rec}(h:Rd FG w v L)(j6:L.length≤100000)(hl:∀r∈L,r.list.length≤1048576∧r.Bo.length≤1048576):Calls QP 80 #[v] w (Bt fun u w'=>AZ w w'∧∃cs,(∀y∈cs,y.oneCell'=true)∧CJ w' w.heap.size 52 6 u L.length cs):=by
 have k3:=h.small;obtain⟨c,hO,e7⟩:=Ay w;clear e7;have o:=hO.rd h;refine AY 25 #[.tmp 2] func80 Z<|Q<|V Z<|Ag<|Ag ?_;have g:=Br c w 8 52 6;refine cg<|M Z<|E (BN GQ) ?_;refine M Z<|Ah<|An<|AG (σ:=Nat×Value) (fun t=>[(2,t.2),(5,v),(6,I L.length),(7,I t.1)]) (fun t w'=>t.1≤L.length∧∃c' cs,CD w c' w'∧Bu FG c' w' [0] v L∧AJ c' w' 8 52 6 t.2 t.1 cs∧∀y∈cs,y.oneCell'=true) (fun t=>L.length-t.1) (0,_) AL ⟨Nat.zero_le _,_,_,hO,o,g,fun y hy=>by cases hy⟩ ?_;clear hO o g;rintro⟨i,c0⟩ n5 ⟨hi,c6,xs,hO,o,g,a8⟩;dsimp only at hi g;have h7:=g.AD;have h8:=g.AA;refine Q<|E (AX Z Z)<|Ah<|Ag<|BA Z (fun e6=>?_) fun e6=>?_
 ·have b5:i<L.length:=G;obtain⟨cs,b3,p,e8⟩:=Vl o b5;have R:=hl _ (mv b5);obtain⟨vl,vs,e9,b6,b7,_⟩:=p.AB;have k4:=b6.AD;have k5:=b7.AD;have k6:=b6.AA;have k7:=b7.AA;subst e9;clear e8;refine As<|Ag<|An<|Q<|E (Cv GQ) ?_;refine E (DT Df Z b3.DF Z)<|EK c6 104 Kw fun w1 b4 c1 j7 Bd=>?_;refine Av (Am Df Z Z Bd Z Z Bg) ?_;rintro _ w2 ⟨Bd,k0⟩;refine Ah<|Ag<|WC.mono (N:=(fun e w'=>∃(c':Nat→Nat) (a6 a7:Value),Sub [(4000000, .tuple #[]),(2,c0),(4,P1 b4),(5,v),(6,I L.length),(7,I i)] e∧CD w c' w'∧Bu FG c' w' [0] v L∧AJ c' w' 8 52 6 c0 i xs∧AI c' w' 104 b4 [I L[i].Ar,I L[i].id,St L[i].name,St L[i].AK,a6,a7] 52∧a6.oneCell'=true∧a6.cells=#[a6]∧a7.oneCell'=true∧a7.cells=#[a7])) ?_ ?_
  ·refine EB c1 [104] [0,2,2,0,2,2,0,2,0,3] (.Au 0 (.Au 3 (.two 1 (.two 2 (.one 4 (.Au 6 (.one 5 (.one 7 (.Au 8 (.one 9 .nil)))))) 4 (.one 2 (.Au 6 (.one 5 (.one 7 (.Au 8 (.one 9 .nil))))))) 4 (.one 1 (.one 2 (.Au 6 (.one 5 (.one 7 (.Au 8 (.one 9 .nil)))))))))) fun l7 k1 f=>?_;refine Cd Z (Aa DE Z)<|Cd Z (Aa Gh Z)<|Ck ?_ ?_
   ·refine EM Z (Cs (Al BQ Z Bd.D.AE Z)) ?_;rintro _ _ ⟨rfl,rfl⟩;refine⟨id,?_⟩;refine Ck ?_ ?_
    ·refine EM Z (Ac c1 12 (Ab YN Z (GN (MD p.D.AB) R.1))) ?_;rintro b8 l8 ⟨c3,e1,h3,j⟩;refine f.Bl e1 fun f=>?_;replace j:=j.Du h3;have C:=j.AD;have U:=j.AA;refine EZ Z (Cs (Al CH Z Bd.D.AE Z)) ?_;rintro _ _ ⟨rfl,rfl⟩;refine⟨id,?_⟩;refine Cd Z (Aa DE Z)<|EZ Z (Ac c3 13 (Ab Tw Z (EX (KX p.D.AB) R.2))) ?_;rintro b9 l9 ⟨j3,e2,h4,l⟩;refine f.Bl e2 fun f=>?_;replace l:=l.Du h4;have J:=l.AD;have a1:=l.AA;refine AV<|CY Z Z Z (Ap BQ Z Z ra ra Bd.D Z) ?_;rintro _ n0 ⟨Bd,e3⟩;refine f.Bl e3 fun f=>Cd Z (Aa Gh Z)<|AV<|Bj Z Z Z (Ap CH Z Z ra ra Bd Z) ?_;rintro _ n1 ⟨Bd,k2⟩;refine Bs ?_;exact⟨_,_,_,AL,hO.D,o.D,g.D,Bd,C,U,J,a1⟩
    refine EM Z (Cs (Al CH Z Bd.D.AE Z)) ?_;rintro _ _ ⟨rfl,rfl⟩;refine⟨id,?_⟩;refine EZ Z (Ac c1 12 (Ab YN Z (GN (MD p.D.AB) R.1))) ?_;rintro b8 n2 ⟨c4,e4,h5,j⟩;refine f.Bl e4 fun f=>?_;replace j:=j.Du h5;have C:=j.AD;have U:=j.AA;refine Cd Z (Aa DE Z)<|EZ Z (Ac c4 13 (Ab Tw Z (EX (KX p.D.AB) R.2))) ?_;rintro b9 n3 ⟨j4,e5,h6,l⟩;refine f.Bl e5 fun f=>?_;replace l:=l.Du h6;have J:=l.AD;have a1:=l.AA;refine AV<|CY Z Z Z (Ap BQ Z Z ra ra Bd.D Z) ?_;rintro _ k9 ⟨Bd,c7⟩;refine f.Bl c7 fun f=>Cd Z (Aa Gh Z)<|AV<|Bj Z Z Z (Ap CH Z Z ra ra Bd Z) ?_;rintro _ l0 ⟨Bd,j8⟩;refine Bs ?_;exact⟨_,_,_,AL,hO.D,o.D,g.D,Bd,C,U,J,a1⟩
   refine EM Z (Cs (Al CH Z Bd.D.AE Z)) ?_;rintro _ _ ⟨rfl,rfl⟩;refine⟨id,?_⟩;refine EZ Z (Cs (Al BQ Z Bd.D.AE Z)) ?_;rintro _ _ ⟨rfl,rfl⟩;refine⟨id,?_⟩;refine EZ Z (Ac c1 12 (Ab YN Z (GN (MD p.D.AB) R.1))) ?_;rintro b8 l1 ⟨c2,c8,h1,j⟩;refine f.Bl c8 fun f=>?_;replace j:=j.Du h1;have C:=j.AD;have U:=j.AA;refine Cd Z (Aa DE Z)<|EZ Z (Ac c2 13 (Ab Tw Z (EX (KX p.D.AB) R.2))) ?_;rintro b9 l2 ⟨j0,c9,h2,l⟩;refine f.Bl c9 fun f=>?_;replace l:=l.Du h2;have J:=l.AD;have a1:=l.AA;refine AV<|CY Z Z Z (Ap BQ Z Z ra ra Bd.D Z) ?_;rintro _ l3 ⟨Bd,e0⟩;refine f.Bl e0 fun f=>Cd Z (Aa Gh Z)<|AV<|Bj Z Z Z (Ap CH Z Z ra ra Bd Z) ?_;rintro _ l4 ⟨Bd,j9⟩;refine Bs ?_;exact⟨_,_,_,AL,hO.D,o.D,g.D,Bd,C,U,J,a1⟩
  clear hO o g Bd b3 p;rintro j5 n4 ⟨c5,a6,a7,h0,hO,o,g,Bd,C,U,J,a1⟩;refine DN h0<|cg<|M Z<|E (Ba Df Z Bd.AE Z)<|ve (AH c5 121 GQ Z Z Z Z Z) ?_;rintro _ l5 ⟨h9,j1,rfl,b0,b2⟩;refine ve (Ax GQ Z Z g.D (Aw underlying94 b2.AE.AT Z Bg) Fh Fg) ?_;rintro k8 l6 ⟨j2,b1,g⟩;clear b2;have h7:=g.AD;have h8:=g.AA;refine V Z<|cg<|E (Bc Z Z Ai Ai)<|M Z<|Ah ?_;replace hO:=(hO.D b0).D b1;replace o:=(o.D b0).D b1;exact⟨(i+1,_),AL,⟨by dsimp only;omega,_,_,hO,o,g,fun y hy↦by rcases List.mem_append.1 hy with h|h;exact a8 y h;simp at h;rcases h with rfl|rfl|rfl|rfl|rfl|rfl<;>first|rfl|exact C|exact J⟩,by show L.length-(i+1)<L.length-i;omega⟩
 have e:i=L.length:=G;subst e;refine Az Z<|Q<|M Z<|V Z<|Af Z Z ?_;exact⟨hO.below,_,a8,g.Mw hO AO⟩
theorem bY{j:Jl}(o:Dz c w k m j)(f:BW c w m F)(hc:F.BC≤1000000000)(hl:life≤4000000000000000000):Calls QP 79 #[P1 k,I life] w (Bt fun u w'=>AZ w w'∧∃p:Nat,p≤max life 1000000000+1∧1≤p∧u=I p):=by
 obtain⟨C,vl,cs,i,hh,r⟩:=o;have g:=DD.start c w Dw;replace i:=i.Dt (J:=Dw) Z;replace f:=f.Mz (K:=Dw);generalize Bw c Dw=c0 at g i f;refine AY 13 #[.tmp 4] func79 Z<|Q<|V Z<|Q<|M Z<|M Z<|E (Ak Z)<|E (Aa IV Z)<|E (Al LK Z i.AE Z)<|ve (Ac c0 1 (Ab xr Z (bn f))) ?_;rintro v10 w1 ⟨c1,l,t,rfl⟩;refine E (qw Z Z)<|E (Bc Z Z Ai Ai)<|V Z ?_;refine Af Z Z ?_;replace g:=g.D l;exact⟨g.below,max life F.BC+1,G,G,by congr 1;omega⟩
theorem _root_.Go.Eng.BW.Ih{c0 c:Nat→Nat}{w0 w:World}{J:List Nat}{p:Nat}{A:CS}(f:BW c w p A)(h:BE c0 w0 J c w)(hi:BX.all (AU J)=true:=by rfl):BW (back c0 w0 c) w p A:=by
 obtain⟨v,X,a,b⟩:=f;have O:∀i∈BX,(Nat.blt 0 i&&AU J i)=true:=fun i hx=>by
  rw[Aae.1 hi i hx,Bool.and_true];simp at hx;rcases hx with rfl|rfl|rfl|rfl<;>rfl
 exact⟨v,X,a.out h (O 60 Bb),b.liveQ,b.own.out h (O 61 Bb),b.rows.out h (O 62 Bb),b.maps.out h (O 63 Bb)⟩
theorem KY(l:List UInt8)(hl:l.length≤8):
 Calls QP 199 #[St l] w (Bt fun v' w'=>AZ w w'∧v'=Wt (Bi l)):=by
 refine AY 18 #[.tmp 2] func199 Z<|Q<|V Z<|Ag<|Q<|M Z<|E (Ey underlying9 Z)<|M Z<|Ah<|An<|AG (σ:=Nat) (fun k=>[(0,St l),(2,Wt (Bi (l.take k))),(5,I l.length),(6,I k)]) (fun k w'=>k≤l.length∧w'=w) (fun k=>l.length-k) 0 AL ⟨G,Z⟩ ?_;rintro k p ⟨O,rfl⟩;refine Q<|E (AX Z Z)<|Ah<|Ag<|BA Z (fun j=>?_) fun j=>?_
 ·have f:k<l.length:=G;have o:=HV (l.take k);have g:Bi (l.take k)<72057594037927936:=by
   rw[Ur O] at o;have:256^k≤256^7:=Acm AO G;omega
  refine As<|Ag<|An<|Q<|M Z<|V Z<|cg ?_;refine M Z<|E (Uk Z Z g)<|M Z<|M Z<|E (Ks underlying9 Z Z G (show l[((k:Nat):Int).toNat]?=some l[k] by rw[TJ];exact dd f))<|E (OG underlying5 underlying278 Z)<|E (RW Z Z g l[k].toNat_lt)<|V Z ?_;refine cg<|E (Bc Z Z Ai Ai)<|M Z<|Ah ?_;have i:Bi (l.take (k+1))=Bi (l.take k)*256+l[k].toNat:=by rw[pk f,Jy]
  refine⟨k+1,?_,⟨f,Z⟩,G⟩;rw[i]
  repeat (first|exact Sub.nil _|refine Sub.cons Z ?_|refine WQ Z ?_)
 refine Az Z<|Q<|M Z<|V Z<|Af Z Z ?_;exact⟨Aar _ _,by rw[vq G]⟩
theorem bZ{j:Jl}{d s:Int}(C:Dz c w k m j)(g:BW c w m F)(r:SX F)(R:Bp F d s=(zT,0)):Calls QP 148 #[P1 k,I d,I s] w (Bt fun u w'=>AZ w w'∧u= .tuple #[I 0,I 0]):=by
 obtain⟨f,vl,cs,i,hh,f⟩:=C;have f:=DD.start c w Dw;replace i:=i.Dt (J:=Dw) Z;replace g:=g.Mz (K:=Dw);generalize Bw c Dw=c0 at f i g;refine AY 37 #[.tmp 6, .tmp 7] func148 Z<|Q<|za Z<|V Z<|Q<|M Z<|E (Ak Z)<|E (Aa IV Z)<|E (Al LK Z i.AE Z)<|M Z<|M Z<|ve (Ac c0 1 (Ab fO Z (Ri (d:=d) (s:=s) g r))) ?_;rintro l w1 ⟨c1,l,o,rfl⟩;rw[R];refine M Z<|E (Aq Z Z)<|E (Aq Z Z)<|za Z<|V Z<|Ag<|Q<|M Z<|E (BK Z Z)<|Ah<|Cz Z (fun o=>?_) fun o=>?_
 ·exact absurd o AO
 refine As<|Q<|M Z<|E (Ip underlying9 Z Z Z Ai Ai Ai) ?_;refine ve (Ac c1 1 (Ab KE Z (KY (replicate 8 0) AO))) ?_;rintro o w2 ⟨c2,o,U,rfl⟩;rw[show Bi (replicate 8 0)=0 from Z];refine E (EY underlying278 underlying3 Z G G)<|V Z<|Ag<|Q<|M Z<|E (AX Z Z)<|M Z ?_;replace f:=(f.D l).D o;replace i:=(i.D l).D o;replace g:=(g.D l).D o;apply TT false 4 (fun x w'=>∃c',DD c w Dw c' w') CK ((fun _=>⟨true,_,f⟩))
 ·intro i;refine wo<|M Z<|wo<|ve (Ac c2 1 (Ab lC Z (mO (life:=0) G))) ?_;rintro i i ⟨i,i,i,⟨t,ht,rfl⟩⟩;refine wo<|M Z<|wo<|E (tJ Z Z) ?_;exact Et ⟨_,Z,Sub.drop _ 4 _ Z Z,⟨_,f.D⟩⟩
 rintro x i ⟨i,f⟩;refine Ah<|Wr Z (fun i=>?_) fun i=>?_
 ·refine Q<|za Z<|V Z<|BR Z Z Z ?_;exact⟨f.below,Z⟩
 exact absurd i Bb
theorem XL{j:Jl}{d:Int}(g:Dz c w k m j)(f:BW c w m F)(r:SX F)(C:∀i:Int,0≤i∧i≤1→Bp F d (512*i)=(zT,0)):Calls QP 76 #[P1 k,I d] w (Bt fun u w'=>AZ w w'∧u= .tuple #[.agg #[I 0,I 0,St [], .slice none 0 0],I 0]):=by
 have l:=DD.start c w Dw;replace g:=g.Dt (K:=Dw);replace f:=f.Mz (K:=Dw);generalize Bw c Dw=c0 at l g f;refine AY 81 #[.cell 4 156, .tmp 5] func76 Z<|Q<|EK c0 104 LM fun w1 b4 c1 o Bd=>?_;refine V Z<|Ag<|Q<|M Z<|Ah<|An<|AG (σ:=Nat) (fun i=>[(0,P1 k),(1,I d),(4,P1 b4),(5,I 0),(15,I i)]) (fun i w'=>i≤2∧∃c',DD c w Dw c' w'∧Dz c' w' k m j∧BW c' w' m F∧AI c' w' 104 b4 [I 0,I 0,St [], .slice none 0 0] 156) (fun i=>2-i) 0 AL ⟨Wm _,_,l.D,g.D,f.D,Bd⟩ ?_;rintro i o ⟨hi,o,l,g,f,Bd⟩;refine Q<|E (AX Z Z)<|Ah<|Ag<|BA Z (fun t=>?_) fun t=>?_
 ·have t:i<2:=G;refine As<|Ag<|An<|Q<|M Z<|V Z<|Q<|M Z<|M Z<|M Z<|ve (Ac o 1 (Ab ay Z (MB (n:=i) G))) ?_;rintro o w2 ⟨c2,o,o,rfl⟩;refine ve (Ac c2 1 (Ab sn Z (bZ (d:=d) (s:=512*(i:Int)) g.D f.D r (C i G)))) ?_;rintro o o ⟨o,o,o,rfl⟩;refine M Z<|E (Aq Z Z)<|E (Aq Z Z)<|za Z<|V Z<|Ag<|Q<|M Z<|E (BK Z Z)<|Ah<|Cz Z (fun o=>?_) fun o=>?_
  ·exact absurd o AO
  refine As<|Q<|M Z<|E (Aa Gm Z)<|E (Al AF Z Bd.D.AE Z)<|E (CM Z Z)<|Ah<|Cz Z (fun o=>?_) fun o=>?_
  ·exact absurd o AO
  refine As<|cg<|E (Bc Z Z Ai Ai)<|M Z<|Ah ?_;exact⟨i+1,AL,⟨G,_,l.D,g.D,f.D,Bd.D⟩,G⟩
 refine Az Z<|Ag<|Q<|E (Aa Gm Z)<|E (Al AF Z Bd.AE Z)<|E (BO Z Z)<|Ah<|Wr Z (fun o=>?_) fun o=>?_
 ·refine Q<|E (Ba GG Z Bd.AE Z)<|Av (Am GG Z Z Bd Z Z Bg) ?_;rintro _ t ⟨Bd,t⟩;refine V Z<|DI Z (DZ GG Z Bd.AE Z) (FD.tmp Z) ?_;exact⟨l.D.below,Z⟩
 exact absurd o AO
section
variable {P:Program} {env:Env} {w:World} {ty ty2 t:TypeId} {x y:Operand} {a:Option Addr}
theorem aaE(ht:P.underlying t=some (.pointer (P.pointee t)))(hx:BY env x=some (.pointer a)):DP P env w (.binOp .eql t x (.const (.pointer none)) ty2) ty (.bool a.isNone):=fun _ f l d pos o g=>by
 have i:=Agk (P:=P) w t a ht;have j:f.eval (.const (.pointer none))= .pointer none:=rfl;simp[execOp,l.eval hx,eqGuard,binOp,i,j]
theorem aaF(ht:P.underlying t=some (.pointer (P.pointee t)))(hx:BY env x=some (.pointer a)):DP P env w (.binOp .neq t x (.const (.pointer none)) ty2) ty (.bool (!a.isNone)):=fun _ f l d pos o g=>by
 have i:=Agk (P:=P) w t a ht;have j:f.eval (.const (.pointer none))= .pointer none:=rfl;simp[execOp,l.eval hx,eqGuard,binOp,i,j]
end
theorem _root_.Go.Eng.Dz.EO{c0 c:Nat→Nat}{w0 w:World}{p pa:Nat}{j:Jl}(h:Dz c w p pa j)(hJ:BE c0 w0 BX c w):Dz (back c0 w0 c) w p pa j:=by
 obtain⟨f,vl,cs,a,b,d⟩:=h;exact⟨f,vl,cs,a.EO hJ Z,b.EO hJ Z,d.EO hJ Z⟩
theorem yV(k:Nat):(replicate k [Value.int .i64 0]).flatten=(replicate k (0:Int)).map I:=by
 induction k with
 |zero=>rfl
 |succ k f=>rw[Abo,Abo,Abc,f];rfl
def ca(n:Nat):Jl:=⟨0,0,0,0,[],replicate n 0,false,0⟩
theorem qI(n:Nat):Ta n (ca n):=⟨Iz,fun h hh=> .inl (Ack hh),Z,kM _,by show 0≤32704;omega,kM _,kM _,by show 0≤_;omega⟩
theorem cb(f:BW c w k F):Calls QP 74 #[P1 k] w (Bt fun u w'=>AZ w w'∧u= .bool (decide (1024≤(F.CU:Int)))):=by
 have g:=DD.start c w Dw;replace f:=f.Mz (K:=Dw);generalize Bw c Dw=c0 at g f;refine AY 10 #[.tmp 2] func74 Z<|Q<|V Z<|Q<|M Z<|E (aaF underlying33 Z)<|M Z ?_;apply BU c0 true 3 (decide (1024≤(F.CU:Int))) CK
 ·intro o i;refine wo<|M Z<|wo<|ve (Ac c0 1 (Ab wD Z (SY f))) ?_;rintro r w1 ⟨c1,j,p,rfl⟩;refine wo<|E (Dh Z Z) ?_;exact BV 3 i.D
 intro w2 c2 l;refine V Z<|Af Z Z ?_;exact⟨g.D.below,Z⟩
theorem mT{r:Rec}(h:UA w cs r):Calls QP 251 #[.agg cs.toArray] w (Bt fun v w'=>AZ w w'∧v= .bool (!FT r)):=by
 obtain⟨c,hO,hc⟩:=Ay w;have g:EA (fun w'=>FG.rd w'.heap.size w' cs r) c w [0]:=tL h (fun k O=>by simp[hc,AU]);obtain⟨vl,vs,rfl,hl,hs,l⟩:=id h;have p:=hl.AD;have t:=hs.AD;have C:=hl.AA;have I:=hs.AA;refine AY 6 #[.tmp 2] func251 Z<|Q<|Fa c 101 fun w1 b1 c1 i f=>?_;refine V Z<|Q<|E (Ba Df Z f.AE Z)<|ve (Ac c1 1 (Ab tU Z (dN g.D.AB))) ?_;rintro v4 w2 ⟨c2,j,o,rfl⟩;refine E (BL Z)<|V Z<|Af Z Z ?_;exact⟨hO.D.below,Z⟩
theorem qJ(f:Rd FG w a P):Calls QP 296 #[a, .func (.func 251) #[] #[]] w (Bt fun v' w'=>AZ w w'∧∃i:Int,v'=I i∧decide (0≤i)=P.any (fun r=> !FT r)):=by
 have g:=f.small;have hK:FY w w:=Bf w;refine AY 19 #[.tmp 4] func296 Z<|Q<|V Z<|Ag<|Q<|M Z ?_
 first|refine E (Ez GQ (by assumption) Z) ?_|refine E (Fo underlying94 Z) ?_
 refine M Z<|Ah<|An<|AG (σ:=Nat) (fun k=>[(0,a),(1, .func (.func 251) #[] #[]),(7,I P.length),(8,I k)]) (fun k w'=>Rd FG w' a P∧FY w w'∧k≤P.length∧∀x∈P.take k,(!FT x)=false) (fun k=>P.length-k) 0 AL ⟨f,hK,G,by simp⟩ ?_;rintro k g ⟨f,hK,O,l⟩;refine Q<|E (AX Z Z)<|Ah<|Ag<|BA Z (fun g=>?_) fun g=>?_
 ·have ka:k<P.length:=G;obtain⟨g,j,g⟩:=f.el ka;obtain⟨vl,vs,rfl,o,p,t⟩:=id g;have t:=o.AD;have o:=p.AD;refine As<|Ag<|An<|Q<|M Z<|V Z<|Q<|M Z<|M Z<|M Z<|E (BJ GQ (by assumption) Z Z Z Ai Ai)<|E (DT Df Z j Z) ?_;refine ve (DV Z yh Z (mT g)) ?_;rintro _ g ⟨j,rfl⟩;refine Ah<|BA Z (fun g=>?_) fun g=>?_
  ·refine Q<|M Z<|V Z ?_;refine Af Z Z ?_;exact⟨(hK.up j),_,Z,by rw[Aa8.2 ⟨_,mv ka,by simpa using g⟩];simp⟩
  refine As<|cg<|E (Bc Z Z Ai Ai)<|M Z<|Ah ?_;exact⟨k+1,AL,⟨(f.up j),(hK.up j),ka,Ha (q:=fun r=> !FT r) l ka (by simpa using g)⟩,G⟩
 refine Az Z<|Q<|V Z<|Af Z Z ?_;exact⟨hK,-1,Z,by rw[TS l G];decide⟩
theorem qK(f:Rd FG w a P)(j:∀r∈P,FT r=true):Calls QP 250 #[a, .func (.func 251) #[] #[]] w (Bt fun v' w'=>AZ w w'∧v'= .bool false):=by
 have hK:FY w w:=Bf w;refine AY 9 #[.tmp 4] func250 Z<|Q<|V Z<|Q<|M Z<|M Z<|ve (Ab yy Z (qJ f)) ?_;rintro o w1 ⟨g,i,rfl,hi⟩;refine E (Dh Z Z)<|V Z<|Af Z Z ?_;exact⟨(hK.up g),by rw[hi,Ab9.2 fun r l=>by rw[j r l];decide]⟩
theorem mU{j:Jl}(i:Dz c w k m j)(hl:j.long≤1000000):Calls QP 182 #[P1 k] w (Bt fun u w'=>AZ w w'∧u=I (32680-j.long)):=by
 obtain⟨o,vl,cs,g,hh,l⟩:=i;have hK:FY w w:=Bf w;have f:=g.AE;refine AY 8 #[.tmp 2] func182 Z<|Q<|V Z<|Q<|M Z<|E (Ak Z)<|E (Aa QE Z)<|E (Al AF Z f Z)<|E (Gu Z Z Ai Ai)<|V Z ?_;refine Af Z Z ?_;exact⟨hK,Z⟩
theorem eo{j:Jl}(i:Dz c w k m j):Calls QP 100 #[P1 k] w (Bt fun u w'=>AZ w w'∧u= .bool j.failed):=by
 obtain⟨o,vl,cs,g,hh,l⟩:=i;have hK:FY w w:=Bf w;have f:=g.AE;refine AY 7 #[.tmp 2] func100 Z<|Q<|V Z<|Q<|M Z<|E (Ak Z)<|E (Aa NQ Z)<|E (Al IW Z f Z)<|V Z<|Af Z Z ?_;exact⟨hK,Z⟩
theorem mV{j:Jl}{e:Int}(g:Dz c w k m j):Calls QP 183 #[P1 k,I e] w (Bt fun u w'=>∃c',Mv c w c' w' [91]∧Dz c' w' k m {j with failed:=j.failed|| !decide (e=0)}∧u=I e):=by
 obtain⟨l,vl,cs,f,hh,i⟩:=g;have hJ:=BE.start c w [91];replace f:=f.Dt (J:=[91]) Z;generalize Bw c [91]=c0 at hJ f;refine AY 17 #[.tmp 4] func183 Z<|Q<|V Z<|Q<|M Z<|M Z<|E (Ak Z)<|E (Aa NQ Z)<|E (Al IW Z f.AE Z)<|M Z ?_;apply AW false 2 _ CK
 ·intro r;refine wo<|M Z<|wo<|E (BK Z Z) ?_;exact EQ 2
 refine E (Ak Z)<|E (Aa NQ Z)<|Av (Ap IW Z Z ra ra f Z) ?_;rintro _ w1 ⟨f,o⟩;refine Ah<|Q<|M Z<|V Z<|Af Z Z<|⟨_,hJ.D.out,⟨l,vl,cs,f.out hJ.D Z,hh.D hJ.D.out,i.D hJ.D.out⟩,Z⟩
theorem _root_.Go.Eng.EA.Zy{Φ:World→Prop}{K J:List Nat}(h:EA Φ c w K)(hi:BB K J=true):EA Φ (Bw c J) w [0]:=HM.mono h fun k _ O=>by
 show AU [0] (Bw c J k)=true
 rw[Ia (Fs hi O)];rfl
theorem ep(L:List Rec):L.length≤EL L:=by
 induction L with
 |nil=>exact Wm _
 |cons r L f=>rw[Ng,SG,Jq];omega
theorem _root_.Go.Eng.Dz.uI{c0 c:Nat→Nat}{w0 w:World}{J:List Nat}{p pa:Nat}{j:Jl}(h:Dz c w p pa j)(hJ:BE c0 w0 J c w)(hi:Dw.all (AU J)=true:=by rfl):Dz (back c0 w0 c) w p pa j:=by
 obtain⟨f,vl,cs,a,b,d⟩:=h;have O:∀i∈[91,92,93],(Nat.blt 0 i&&AU J i)=true:=fun i hx=>by
  rw[Aae.1 hi i (by simp at hx⊢;omega),Bool.and_true];simp at hx;rcases hx with rfl|rfl|rfl<;>rfl
 exact⟨f,vl,cs,a.out hJ (O 91 Bb),b.out hJ (O 92 Bb),d.out hJ (O 93 Bb)⟩
def KQ:Shape (List Int) where
 size:=1
 rd:=fun B w cs l=>∃v,cs=[v]∧FC Cg B w v l
 len:=fun⟨_,h,_⟩=>by rw[h];rfl
 keep:=fun O ⟨v,h,f⟩=>⟨v,h,f.keep O⟩
 mono:=fun g ⟨v,h,f⟩=>⟨v,h,f.mono g⟩
 one:=fun⟨v,h,f⟩ u hu=>by
  obtain⟨A,c,rfl,_⟩:=f.form;rw[h] at hu;simp at hu;subst hu;rfl
theorem HR(h:Bu KQ c w e a q)(O:k<q.length):∃u,DG c w e (Bz a 1 k) [u]∧Bu Cg c w e u q[k]:=by
 obtain⟨cs,g,_,f⟩:=Bu.el h O AO;obtain⟨u,rfl,_⟩:=f.AB;refine⟨u,g,?_⟩;exact HM.imp f fun w' _ ⟨u',j,i⟩=>by
  have:u=u':=by simpa using j
  subst this;exact i
def He(n:Nat):List Int:=(List.range n).map fun(k:Nat)=>(k:Int)
theorem ME(n:Nat):(He n).length=n:=by simp[He]
theorem XM(n:Nat):He (n+1)=He n++[(n:Int)]:=by simp[He,Abf]
theorem er(f:Rd DW w a x)(hl:x.length≤1048576):Calls QP 193 #[a] w (Bt fun v' w'=>AZ w w'∧CJ w' w.heap.size 4 1 v' x.length (x.flatMap (fun l=>[.bool l]))):=by
 obtain⟨c,hO,hc⟩:=Ay w;have j:Bu DW c w [0] a x:=Rd.Du f (fun k O=>by simp[hc,AU]);have o:=f.addr;obtain⟨A,cp,rfl,_⟩:=f.form;refine AY 8 #[.tmp 2] func193 Z<|Q<|V Z<|Ag<|Q<|M Z<|E (UT underlying64 Z)<|Ah<|BA Z (fun i=>?_) fun i=>?_
 ·refine Q<|V Z ?_;refine Af Z Z ?_;have f:x=[]:=by
   cases x with
   |nil=>rfl
   |cons v r=>
    obtain⟨b,c',h⟩:=o Bb;injection h with h _ _;rw[h] at i;cases i
  subst f;exact⟨hO.below,CJ.nil _ _ _ _⟩
 refine As<|Q<|ve ((GJ c Fi)) ?_;rintro C w1 ⟨c1,p,⟨b5,rfl⟩⟩;have g:AJ c1 w1 50 4 1 (.slice (some ⟨b5,0,none⟩) 0 0) 0 []:=PN;refine M Z<|ve (Ax Fi Z Z g (Src.flat underlying64 j.D.AB) Fh Fg) ?_;rintro I w2 ⟨c2,t,g⟩;rw[Abu,Abs] at g;refine V Z<|Af Z Z ?_;exact⟨hO.D.below,g.OO hO.D AO⟩
theorem qL(p:n≤100000):Calls QP 194 #[I n] w (Bt fun u w'=>AZ w w'∧CJ w' w.heap.size 3 1 u n ((He n).map I)):=by
 obtain⟨c,hO,hc⟩:=Ay w;refine AY 14 #[.tmp 2] func194 Z<|Q<|V Z<|Ag<|Ag ?_;have f:=Br c w 8 3 1;refine cg<|M Z<|M Z<|Ah<|An<|AG (σ:=Nat×Value) (fun g=>[(2,g.2),(4,I n),(5,I g.1)]) (fun g w'=>g.1≤n∧∃c',CD w c' w'∧AJ c' w' 8 3 1 g.2 g.1 ((He g.1).map I)) (fun g=>n-g.1) (0,_) AL ⟨Nat.zero_le _,_,hO,f⟩ ?_;rintro⟨i,g⟩ g ⟨hi,g,hO,f⟩;dsimp only at hi f;have l:=f.AD;have o:=f.AA;refine Q<|E (AX Z Z)<|Ah<|Ag<|BA Z (fun j=>?_) fun j=>?_
 ·have j:i<n:=G;refine As<|Ag<|An<|Q<|M Z<|V Z<|cg<|M Z<|M Z<|ve (AH g 110 BM Z Z Z Z Z) ?_;rintro _ w1 ⟨g,c1,rfl,g,g⟩;refine ve (Ax BM Z Z f.D (Aw underlying23 g.AE.AT Z Bg) Fh Fg) ?_;rintro v11 w2 ⟨c2,j,f⟩;have l:=f.AD;have o:=f.AA;refine V Z<|cg<|E (Bc Z Z Ai Ai)<|M Z<|Ah ?_;exact⟨(i+1,_),AL,⟨by dsimp only;omega,_,hO.D,by dsimp only;rw[XM,List.map_append];exact f⟩,by show n-(i+1)<n-i;omega⟩
 have e:i=n:=G;subst e;refine Az Z<|Q<|M Z<|V Z<|Af Z Z ?_;exact⟨hO.below,f.Mw hO AO⟩
theorem yW:∀n:Nat,Go.Lib.repeatL [0] n=replicate n (0:UInt8)
 |0=>rfl
 |n+1=>by rw[Go.Lib.repeatL,yW n];rfl
theorem MF{s:CO}{t:Tx}(h:t.length≤s.k*s.size):(DR s t).length=s.k∧∀x∈DR s t,x.length=s.size:=by
 refine⟨by simp[DR],fun x hx=>?_⟩;obtain⟨i,hi,rfl⟩:=Aag.1 hx;rw[Aax] at hi;have:(i+1)*s.size≤s.k*s.size:=WN _ hi;rw[Aad,Aa2] at this;rw[kL,kK,ft,Iz];omega
theorem mW{s:CO}{t:Tx}(h:s.ok)(r:1≤t.length)(ht:t.length≤s.k*s.size):Calls QP 103 #[.agg (DB s).toArray,St t] w (Bt fun v w'=>AZ w w'∧∃C,v= .tuple #[C,I 0]∧CJ w' w.heap.size 9 1 C s.k ((DR s t).map St)):=by
 have l:=h;obtain⟨f,g,g,g,j⟩:=id h;obtain⟨P,j⟩:∃P,P=s.k*s.size:=⟨_,Z⟩;have o:1≤P:=by rw[j];exact WO f g
 have f:P≤8*200:=by rw[j];exact WO G G
 have g:(s.k:Int)*(s.size:Int)=(P:Nat):=by rw[j];simp
 have f:=ht;rw[←j] at ht;have o:t≠[]:=by intro e;rw[e] at r;simp at r
 obtain⟨c,hO,f⟩:=Ay w;refine AY 57 #[.tmp 4, .tmp 5] func103 Z<|Q<|Fa c 102 fun w1 b2 c1 f f=>?_;refine za Z<|V Z<|Ag<|Q<|E (Ba CP Z f.AE Z)<|ve (Ac c1 1 (Ab YM Z (KP l))) ?_;rintro l w2 ⟨c2,l,l,rfl⟩;refine E (BL Z)<|M Z ?_;apply AW false 2 _ CK
 ·intro l;refine wo<|M Z<|wo<|E (YD Z Z) ?_;exact EQ 2
 refine M Z ?_;apply AW false 8 _ CK
 ·intro l;refine wo<|M Z<|wo<|E (Ey underlying9 Z)<|wo<|E (Aa CN Z)<|wo<|E (Al AF Z f.D.AE Z)<|wo ?_;refine E (Aa DO Z)<|wo<|E (Al AF Z f.D.AE Z)<|wo<|E (HK Z Z (by rw[g];omega) (by rw[g];omega))<|wo<|E (CM Z Z) ?_;exact EQ 8
 refine Ah<|Cz Z (fun l=>?_) fun l=>?_
 ·exact absurd l (by rw[g];simp[o];omega)
 refine As<|Q<|M Z<|E (Aa CN Z)<|E (Al AF Z f.D.AE Z)<|E (Aa DO Z)<|E (Al AF Z f.D.AE Z)<|E (HK Z Z Ai Ai) ?_;refine M Z<|E (Ey underlying9 Z)<|E (Gu Z Z Ai Ai) ?_;refine ve (Ac c2 1 (Ab pK Z (by have l:=Nd (w:=w2) (s:=[0]) (n:=P-t.length) (by simp;omega) G;rw[yW,show((P-t.length:Nat):Int)=(s.k:Int)*(s.size:Int)-(t.length:Int) by rw[g];omega] at l;exact l))) ?_;rintro g g ⟨g,g,g,rfl⟩;obtain⟨T,hT⟩:∃T,T=t++replicate (P-t.length) 0:=⟨_,Z⟩;have g:T.length=P:=by rw[hT,ft,Iz];omega
 refine E (dE Z Z (by simp;omega))<|V Z<|Ag ?_;rw[←hT];refine cg<|V Z<|Ag<|Q<|E (Aa CN Z)<|E (Al AF Z f.D.AE Z)<|M Z<|Ah<|An<|AG (σ:=Nat×Value) (fun g=>[(1,St T),(2, .pointer (some ⟨b2,0,none⟩)),(6,g.2),(37,I s.k),(38,I g.1)]) (fun g w'=>g.1≤s.k∧∃c',CD w c' w'∧AI c' w' 102 b2 (DB s) 29∧AJ c' w' 6 9 1 g.2 g.1 ((List.range g.1).map fun i=>St ((T.drop (i*s.size)).take s.size))) (fun g=>s.k-g.1) (0, .slice none 0 0) AL ⟨Nat.zero_le _,_,hO.D,f.D,Br _ _ _ _ _⟩ ?_;rintro⟨i,v6⟩ g ⟨hi,J,hO,f,g⟩;dsimp only at hi hO f g;refine Q<|E (AX Z Z)<|Ah<|Ag<|BA Z (fun l=>?_) fun l=>?_
 ·have l:=g.AA;have l:=g.AD;obtain⟨a,o⟩:∃a,a=i*s.size:=⟨_,Z⟩;have l:(i:Int)*(s.size:Int)=(a:Nat):=by rw[o];simp
  have p:((i:Int)+1)*(s.size:Int)=((a+s.size:Nat):Int):=by rw[Ahd,l];simp
  have R:a+s.size≤P:=by
   have:(i+1)*s.size≤s.k*s.size:=WN _ G;rw[Aad,Aa2,←o,←j] at this;exact this
  refine As<|Ag<|An<|Q<|M Z<|V Z<|cg ?_;refine M Z<|M Z<|M Z<|E (Aa DO Z)<|E (Al AF Z f.AE Z)<|E (HK Z Z (by rw[l];omega) (by rw[l];omega)) ?_;rw[l];refine M Z<|E (Bc Z Z Ai Ai)<|E (Aa DO Z)<|E (Al AF Z f.AE Z)<|E (HK Z Z (by rw[p];omega) (by rw[p];omega)) ?_;rw[p];refine E (Ip underlying9 Z Z Z Ai Ai Ai) ?_;refine ve (AH J 153 Ch Z Z Z Z Z) ?_;rintro _ l ⟨l,l,rfl,l,l⟩;refine ve (Ax Ch Z Z g.D (Aw underlying37 l.AE.AT Z Bg) Fh Fg) ?_;rintro p p ⟨p,p,g⟩;refine V Z<|cg<|E (Bc Z Z Ai Ai)<|M Z<|Ah ?_;refine⟨(i+1,_),AL,⟨G,_,hO.D,f.D,?_⟩,by show s.k-(i+1)<s.k-i;omega⟩;rw[TJ,TJ,Ab3,o] at g;rw[Abf,Aaf,Adb];exact g
 have e:i=s.k:=G;subst e;refine Az Z<|Q<|M Z<|za Z<|V Z<|BR Z Z Z<|⟨hO.below,_,Z,?_⟩;have:=g.Mw hO AO;rw[DR,Acu,←j,←hT];exact this
theorem XN(a b:Tx):HJ (a++b)=(HJ a&&HJ b):=by simp[HJ]
theorem gQ(b:UInt8):decide (((b.toNat:Nat):Int)=0)=decide (some b=some 0):=by
 rw[decide_eq_decide];constructor
 ·intro h;congr 1;apply Af3.1;show b.toNat=0
  omega
 ·intro h;injection h with h;subst h;rfl
theorem jc(h:HJ W=true){b:UInt8}(f:b∈W):b=0:=by
 rw[HJ,Aae] at h;simpa using h b f
theorem mY{s:Tx}(hs:s.length≤1048576):Calls QP 211 #[St s, .int .u8 0] w (Bt fun v w'=>AZ w w'∧∃m,m≤s.length∧v=St (s.drop m)∧HJ (s.take m)=true∧(m<s.length→s[m]?≠some 0)):=by
 have hK:FY w w:=Bf w;refine AY 17 #[.tmp 4] func211 Z<|Q<|V Z<|Ag<|An<|AG (σ:=Nat) (fun m=>[(0,St (s.drop m)),(1, .int .u8 0)]) (fun m w'=>FY w w'∧m≤s.length∧HJ (s.take m)=true) (fun m=>s.length-m) 0 AL ⟨hK,G,Z⟩ ?_;rintro m r ⟨hK,l,j⟩;refine Ag<|Q<|M Z<|E (Ey underlying9 Z)<|E (CM Z Z)<|M Z ?_;apply AW true 4 (decide (s[m]?=some 0)) CK
 ·intro o;have i:m<s.length:=by rw[kK] at o;omega
  refine wo<|M Z<|wo<|E (Ks underlying9 Z Z G (by rw[Acb];exact dd G))<|wo<|M Z<|wo<|E (BO Z Z) ?_;exact EQ 4 ((by rw[dd i,←gQ];rfl))
 refine Ah<|BA Z (fun f=>?_) fun f=>?_
 ·rw[kK] at f;have i:m<s.length:=G;refine As<|An<|cg<|M Z<|E (GB underlying9 Z Z G (by rw[kK];omega)) ?_;rw[Ab7,show m+(1:Int).toNat=m+1 from Z];refine V Z ?_;have p:HJ (s.take (m+1))=true:=by
   have g:=dd i;rw[f.2] at g;injection g with g;rw[pk i,XN,j,←g];rfl
  exact⟨m+1,AL,⟨hK,G,p⟩,G⟩
 refine Az Z<|Q<|M Z<|V Z<|Af Z Z<|⟨hK,m,l,Z,j,fun h e↦?_⟩;rw[kK,e] at f;rw[Aby (show(0:Int)<((s.length-m:Nat):Int) by omega)] at f;simp at f
theorem mZ(hs:W.length≤1048576):Calls QP 212 #[St W, .int .u8 0] w (Bt fun v w'=>AZ w w'∧∃n,n≤W.length∧v=St (W.take n)∧HJ (W.drop n)=true∧(0<n→W[n-1]?≠some 0)):=by
 have hK:FY w w:=Bf w;refine AY 23 #[.tmp 4] func212 Z<|Q<|V Z<|Ag<|An ?_;refine AG (σ:=Nat) (fun n=>[(0,St (W.take n)),(1, .int .u8 0)]) (fun n w'=>FY w w'∧n≤W.length∧HJ (W.drop n)=true) (fun n=>n) W.length (by rw[vq (kM _)];exact AL) ⟨hK,G,by rw[Abn (kM _)];rfl⟩ ?_;rintro n r ⟨hK,j,i⟩;have hl:(W.take n).length=n:=by rw[kL];omega
 refine Ag<|Q<|M Z<|E (Ey underlying9 Z)<|E (CM Z Z)<|M Z ?_;apply AW true 7 (decide (W[n-1]?=some 0)) CK
 ·intro p;have l:0<n:=G;refine wo<|M Z<|wo<|M Z<|wo<|E (Ey underlying9 Z)<|wo<|E (Gu Z Z Ai Ai)<|wo ?_;refine E (Ks underlying9 Z Z G (by rw[Ab2,zm G,show((((W.take n).length:Nat):Int)-1).toNat=n-1 by omega];exact dd G))<|wo<|M Z<|wo<|E (BO Z Z) ?_;exact EQ 7 ((by rw[dd (show n-1<W.length by omega),←gQ];rfl))
 refine Ah<|BA Z (fun g=>?_) fun g=>?_
 ·have l:0<n:=G;refine As<|An<|cg<|M Z<|M Z<|E (Ey underlying9 Z)<|E (Gu Z Z Ai Ai)<|E (IN underlying9 Z Z G G) ?_;rw[Aed,show min ((((W.take n).length:Nat):Int)-1).toNat n=n-1 by omega];refine V Z ?_;have o:HJ (W.drop (n-1))=true:=by
   have f:=dd (show n-1<W.length by omega);rw[g.2] at f;injection f with f;rw[Aav (show n-1<W.length by omega),←f,show n-1+1=n by omega];exact i
  exact⟨n-1,AL,⟨hK,G,o⟩,G⟩
 refine Az Z<|Q<|M Z<|V Z<|Af Z Z<|⟨hK,n,j,Z,i,fun h e↦?_⟩;rw[e,Aby (show(0:Int)<(((W.take n).length:Nat):Int) by omega)] at g;simp at g
theorem gR{s:Tx}(hs:s.length≤1048576):Calls QP 139 #[St s,St [0]] w (Bt fun v w'=>AZ w w'∧∃r,v=St r∧decide (r=[])=HJ s):=by
 obtain⟨c,hO,f⟩:=Ay w;refine AY 43 #[.tmp 4] func139 Z<|Q<|V Z<|Ag<|Q<|M Z<|E (YD Z Z)<|M Z ?_;apply AW false 2 _ CK
 ·intro f;refine wo<|M Z<|wo<|E (YD Z Z) ?_;exact EQ 2
 refine Ah<|BA Z (fun f=>?_) fun f=>?_
 ·refine Q<|M Z<|V Z ?_;refine Af Z Z ?_;have e:s=[]:=by simpa using f
  subst e;exact⟨hO.below,_,Z,Z⟩
 refine As<|Ag<|Q<|M Z<|E (Ey underlying9 Z)<|E (BO Z Z)<|M Z ?_;apply AW true 3 _ CK
 ·intro f;refine wo<|M Z<|wo<|E (Ks underlying9 Z Z G (by rfl))<|wo<|E (AX Z Z) ?_;exact EQ 3
 refine Ah<|Wr Z (fun g=>?_) fun g=>?_
 ·refine Ag ?_;refine AM c [] [0,0,0,2,0,0,2,0] [0,1,2,4,5,3,6,7] fun w1 f f=>Bm Z Z<|Bm Z Z<|AN Z (Ks underlying9 Z Z G (by rfl))<|Bm Z Z<|AN Z (Ks underlying9 Z Z G (by rfl)) ?_;refine Db Z (Ac c 1 (Ab xX Z (mZ hs))) ?_;rintro i w2 ⟨c2,i,j,⟨n,j,rfl,o,l⟩⟩;refine f.Bl i fun f=>?_;refine Db Z (Ac c2 1 (Ab xW Z (mY (s:=s.take n) (by rw[kL];omega)))) ?_;rintro i i ⟨i,j,i,⟨m,i,rfl,i,p⟩⟩;refine f.Bl j fun f=>Ir Z Z<|AP ?_;refine Af Z Z<|⟨hO.D.below,_,Z,?_⟩;have j:=Aas n s;have hl:(s.take n).length=n:=by rw[kL];omega
  rw[Adn,pn];constructor
  ·intro e;have f:=Aao List.length e;rw[kK,Ace] at f;rw[vq G] at i;rw[←j,XN,i,o];rfl
  intro e;have i:n=0:=by
   rcases Aa6 n with h|h
   ·exact h
   have f:=dd (show n-1<s.length by omega);have j:=jc e (mv (show n-1<s.length by omega));rw[j] at f;exact absurd f (l h)
  subst i;simp
 exact absurd g AO
theorem jd:∀xs:List Tx,Go.Lib.join xs []=xs.flatten
 |[]=>rfl
 |x::r=>by
  rw[Go.Lib.join_cons,Abc,Go.Lib.joinTail];congr 2;rw[Abw (g:=id) (by intro a _;simp),Aep]
theorem Zz{v:Value}{L:List Tx}(h:Rd DQ w v L)(hp:HO v)(hl:L.length≤1048576)(hf:L.flatten.length≤140737488355328):Calls QP 138 #[v,St []] w (Bt fun v' w'=>AZ w w'∧v'=St L.flatten):=by
 obtain⟨A,n,c,rfl,o⟩:=hp;have a6:L.length=n:=by obtain⟨J,c',i,_⟩:=h.form;injection i with _ i _;exact i.symm
 have hc:n≤c:=by obtain⟨J,c',i,hc,_⟩:=h.form;injection i with _ _ i;omega
 subst a6;rcases Aa6 L.length with l|l
 ·have U:L=[]:=rY l;subst U;refine(Tryz.strings_Join_none A c ⟨#[]⟩ w).mono fun e w' i=>?_;obtain⟨rfl,rfl⟩:=i;exact⟨_,Z,Aar _ _,Z⟩
 obtain⟨b,off,o⟩:=o l;subst o;have p:b<w.heap.size:=by
  have:=h.RX (show 0<L.length from l);simpa[Bz,Gk] using this
 obtain⟨f,t⟩:∃f:Tx→ByteArray,f=fun x=>⟨x.toArray⟩:=⟨_,Z⟩;have R:(L.map f).map (·.data.toList)=L:=by
  rw[Acu,Abw (g:=id) (by intro a _;rw[t];simp),Aep]
 have r:(Go.Lib.join ((L.map f).map (·.data.toList)) (ByteArray.mk #[]).data.toList)=L.flatten:=by
  rw[R];exact jd L
 have I:=Tryz.strings_Join b off c (L.map f) ⟨#[]⟩ w (fun j x C=>by
  rw[Aah] at C;obtain⟨y,hy,rfl⟩:=Abm.1 C;obtain⟨a1,rfl⟩:=kJ.1 hy;obtain⟨cs,hc,rfl,_⟩:=h.el a1;have:=hc.1 0 (St L[j]) Z;rw[t];simpa[Bz,add_lit,DQ,Shape.flat] using this) p (by rw[kr];omega) (by rw[kr];exact hc) (by rw[r];exact hf)
 rw[r,kr] at I;refine I.mono fun e w' i=>?_;obtain⟨rfl,p⟩:=i;exact⟨_,Z,p,Z⟩
theorem je{x:List UInt8}(f:Gt w k (DB z) 29):Calls QP 136 #[St x, .pointer (some ⟨k,0,none⟩)] w (Bt fun v w'=>AZ w w'∧v= .bool (!decide (x.length=z.size))):=by
 have hK:FY w w:=Bf w;refine AY 9 #[.tmp 3] func136 Z<|Q<|V Z<|Q<|M Z<|E (Ey underlying9 Z)<|E (Aa DO Z)<|E (Al AF Z f Z)<|E (BK Z Z)<|V Z<|Af Z Z ?_;have e:(((x.length:Nat):Int)=((z.size:Nat):Int))↔x.length=z.size:=G;exact⟨hK,by simp[e]⟩
abbrev yX(o:Option Tx):Value:= .tuple #[St (o.getD []),I (if o.isSome then 0 else 7)]
theorem na{s:CO}{vl:Value}{L:List Tx}{n:Int}(h:s.ok)(hl:Rd DQ w vl L)(hp:HO vl)(o:L.length=s.k)(hs:∀x∈L,x.length=s.size)(C:1≤n)(g:n≤(s.k*s.size:Nat)):
 Calls QP 67 #[.agg (DB s).toArray,vl,I n] w (Bt fun v w'=>AZ w w'∧v=yX (Pt s L n)):=by
 have b2:=h;obtain⟨b5,b6,b7,b8,b9⟩:=id h;obtain⟨P,f⟩:∃P,P=s.k*s.size:=⟨_,Z⟩;have e0:P≤8*200:=by rw[f];exact WO G G
 have i:(s.k:Int)*(s.size:Int)=(P:Nat):=by rw[f];simp
 have b1:L.flatten.length=P:=by
  rw[f,←o];clear hl hp o C g;induction L with
  |nil=>simp
  |cons a r b4=>rw[Abc,ft,b4 (fun x hx=>hs x (Aaw _ hx)),hs a (Aau),SG,Aad,Aa2,Adi]
 have a7:(L.any fun x=> !decide (x.length=s.size))=false:=by
  rw[Ab9];intro x hx;simp[hs x hx]
 rw[←f] at g;obtain⟨N,rfl⟩:∃N:Nat,n=N:=⟨n.toNat,G⟩;obtain⟨c,hO,R⟩:=Ay w;have l:Bu DQ c w [0] vl L:=Rd.Du hl (fun k O=>by simp[R,AU]);clear R hl;have e9:=l.AB.AD;refine AY 49 #[.tmp 6, .tmp 7] func67 Z<|Q<|Fa c 103 fun w1 b3 c1 c4 AR=>?_;refine za Z<|V Z<|Q<|E (Dn Z)<|V Z<|Ag<|Q<|E (Ba CP Z AR.AE Z)<|ve (Ac c1 1 (Ab YM Z (KP b2))) ?_;rintro h0 w2 ⟨c2,c5,e5,rfl⟩;refine E (BL Z)<|M Z ?_;apply AW false 5 _ CK
 ·intro e4;refine wo<|M Z<|wo<|E (BN Ch) ?_;refine wo<|E (Aa CN Z)<|wo<|E (Al AF Z AR.D.AE Z)<|wo<|E (BK Z Z) ?_;exact EQ 5
 refine M Z ?_;apply BU c2 false 3 _ CK
 ·intro e1 b0;refine wo<|M Z<|wo<|M Z<|wo<|ve (Ac c2 1 (Ab lz Z (Zw l.D.AB xl (fun w' x a8↦je ((a8.block _ AR.D.AE.lt).trans AR.D.AE))))) ?_;rintro h1 h4 ⟨c0,c6,e6,rfl⟩;exact BV 3 b0.D
 intro h5 a1 c7;refine M Z ?_;apply AW false 2 _ CK
 ·intro e2;refine wo<|M Z<|wo<|E (AX Z Z) ?_;exact EQ 2
 refine M Z ?_;apply AW false 7 _ CK
 ·intro e3;refine wo<|M Z<|wo<|E (Aa CN Z)<|wo<|E (Al AF Z AR.D.AE Z)<|wo<|E (Aa DO Z)<|wo ?_;refine E (Al AF Z AR.D.AE Z)<|wo<|E (HK Z Z (by rw[i];omega) (by rw[i];omega))<|wo<|E (CM Z Z) ?_;exact EQ 7
 refine Ah<|Cz Z (fun J=>?_) fun J=>?_
 ·exact absurd J (by rw[i,a7];simp[o];omega)
 refine As<|Q<|M Z<|ve (Ac a1 1 (Ab lA Z (Zz l.D.AB hp G G))) ?_;rintro h2 h6 ⟨a6,c8,e7,rfl⟩;obtain⟨t,ht⟩:∃t,t=L.flatten:=⟨_,Z⟩;rw[←ht] at b1⊢;refine V Z<|Ag<|Q<|M Z<|M Z<|E (GB underlying9 Z Z Ai Ai) ?_;refine ve (Ac a6 1 (Ab sj Z (gR (s:=t.drop N) (by rw[kK];omega)))) ?_;rintro h3 h7 ⟨c3,c9,e8,⟨r,rfl,U⟩⟩;refine E (tJ Z Z)<|Ah<|BA Z (fun j=>?_) fun j=>?_
 ·have p:HJ (t.drop N)=false:=by
   rw[←U];simpa using j
  refine Q<|za Z<|V Z<|BR Z Z Z ?_;exact⟨hO.D.below,by rw[Pt,←ht,ss (by rw[TJ,p];simp)];rfl⟩
 have p:HJ (t.drop N)=true:=by
  rw[←U];simpa using j
 refine As<|Q<|M Z<|M Z<|E (IN underlying9 Z Z Ai Ai)<|za Z<|V Z ?_;refine BR Z Z Z ?_;exact⟨hO.D.below,by rw[Pt,←ht,zm ⟨C,by rw[←f];exact g,by rw[TJ];exact p⟩];rfl⟩
theorem cc{L:List Tx}(h:L=[]∨Ca 120<L.length∨(L.any fun t=> !decide (t.length=64))=true):Hy L=none:=by rw[Hy,zm h]
theorem nb:∀{L:List Tx},(∀x∈L,x.length=64)→L.flatten.length=64*L.length
 |[],_=>rfl
 |a::l,h=>by
  rw[Abc,ft,nb (fun x hx=>h x (Aaw _ hx)),h a (Aau),SG];omega
theorem jf(h:W.length=2):Bi W<65536:=by
 have:=HV W;rw[h] at this;exact this
theorem XO(h:W.length=4):Bi W<4294967296:=by
 have:=HV W;rw[h] at this;exact this
theorem Im{L:List Tx}(h:AJ c w i d 1 a L.length (L.map St))(g:L.length≤1048576)(hl:∀x∈L,x.length≤1048576):Bu DQ c w [i] a L:=by
 have f:AJ c w i d 1 a L.length (L.flatMap fun x=>[St x]):=by rw[tg];exact h
 exact f.Gl G fun x hx=>by have:=hl x hx;omega
theorem gS{L:List Tx}(hl:Rd DQ w a L)(hp:HO a):Calls QP 124 #[a] w (Bt fun v w'=>AZ w w'∧v= .tuple #[.agg (PW ((Hy L).getD aaD)).toArray,I (if(Hy L).isSome then 0 else 7)]):=by
 obtain⟨c,hO,f⟩:=Ay w;have j:Bu DQ c w [0] a L:=Rd.Du hl (fun k O=>by simp[f,AU]);refine AY 65 #[.cell 2 205, .tmp 3] func124 Z<|Q<|EK c 102 OI fun w1 b2 c1 f f=>?_;refine V Z<|Ag<|Q<|M Z<|E (BN Ch) ?_;refine E (BO Z Z)<|M Z ?_;apply BU c1 false 4 _ CK
 ·intro C i;refine wo<|M Z<|wo<|E (BN Ch) ?_;refine wo<|ve (Ac c1 1 (Ab lu Z (On (n:=120) G))) ?_;rintro g w2 ⟨c2,g,g,rfl⟩;refine wo<|E (CM Z Z) ?_;exact BV 4 i.D
 intro g g l;refine M Z ?_;apply BU g false 2 _ CK
 ·intro l l;refine wo<|M Z<|wo<|ve (Ac g 1 (Ab lz Z (Zw j.D.AB xO (fun w' x g↦iS)))) ?_;rintro g g ⟨g,g,g,rfl⟩;exact BV 2 l.D
 intro g l g;refine Ah<|BA Z (fun g=>?_) fun g=>?_
 ·have e:Hy L=none:=cc (by
   try simp only[Aa3,pn] at g
   rcases g with(h|h)|h
   ·exact .inl (rY G)
   ·exact .inr (.inl G)
   exact .inr (.inr h))
  rw[e];refine Q<|E (By (cells:=#[.int .i64 0, .int .i64 0, .int .i64 0, .string ⟨[].toArray⟩]) Z Ao) ?_;refine Av (Am HN Z Z f.D Z Z Bg) ?_;rintro _ o ⟨f,o⟩;refine V Z<|DI Z (DZ HN Z f.AE Z) (FD.tmp Z) ?_;exact⟨hO.D.below,Z⟩
 have o:¬(L=[]∨Ca 120<L.length∨(L.any fun t=> !decide (t.length=64))=true):=by
  try simp only[Aa1,Aay] at g
  rintro(h|h|h)
  ·subst h;simp at g
  ·omega
  rw[h] at g;simp at g
 have g:L.length≤3:=by
  have:Ca 120=3:=by decide
  omega
 have g:0<L.length:=Adt.2 (fun h=>o (.inl h));have p:∀x∈L,x.length=64:=fun x hx=>by
  have:=mt (fun h=>Aa8.2 ⟨x,hx,h⟩) (fun h=>o (.inr (.inr h)));simpa using this
 have g:=nb p;refine As<|Q<|M Z ?_;refine ve (Ac l 1 (Ab lA Z (Zz j.D.AB hp G (by rw[g];omega)))) ?_;rintro l l ⟨p,l,l,rfl⟩;obtain⟨t,ht⟩:∃t,t=L.flatten:=⟨_,Z⟩;rw[←ht] at g⊢;have l:Hy L=if 120<QW t∨Ca (QW t)≠L.length then none else if Nb (UK t (QW t))=true∧Gb (UK t (QW t))=L then some (UK t (QW t)) else none:=by rw[Hy,ss o,←ht]
 have g:((t.drop 13).take 2).length=2:=by rw[kL,kK];omega
 have r:=jf g;refine V Z<|Q<|M Z<|E (Ip underlying9 Z Z Z Ai Ai Ai) ?_;refine ve (Ac p 1 (Ab KE Z (It ((t.drop 13).take 2) (by rw[g];omega)))) ?_;rintro g g ⟨o,g,g,rfl⟩;refine E (EY underlying278 underlying3 Z G G) ?_;obtain⟨n,g⟩:∃n,n=QW t:=⟨_,Z⟩;rw[show(Bi ((t.drop 13).take 2):Nat)=n from g.symm];rw[←g] at l;have p:n<65536:=by rw[g];exact r
 refine V Z<|Ag<|Q<|M Z<|E (CM Z Z)<|M Z ?_;apply BU o false 5 _ CK
 ·intro C i;refine wo<|M Z<|wo<|ve (Ac o 1 (Ab lu Z (On (n:=n) G))) ?_;rintro g g ⟨g,g,g,rfl⟩;refine wo<|M Z<|wo<|E (BN Ch) ?_;refine wo<|E (BK Z Z) ?_;exact BV 5 i.D
 intro g p g;refine Ah<|BA Z (fun g=>?_) fun g=>?_
 ·have e:Hy L=none:=by
   rw[l,zm];try simp only[Aa3,pn,Aa9,Aay] at g
   rcases g with h|h
   ·exact .inl G
   exact .inr G
  rw[e];refine Q<|E (By (cells:=#[.int .i64 0, .int .i64 0, .int .i64 0, .string ⟨[].toArray⟩]) Z Ao) ?_;refine Av (Am HN Z Z f.D Z Z Bg) ?_;rintro _ i ⟨f,i⟩;refine V Z<|DI Z (DZ HN Z f.AE Z) (FD.tmp Z) ?_;exact⟨hO.D.below,Z⟩
 have i:¬(120<n∨Ca n≠L.length):=by
  try simp only[Aa1,Aay,Ad4,pn] at g
  omega
 rw[ss i] at l;have g:=Sd n;have C:((t.drop 4).take 4).length=4:=by rw[kL,kK];omega
 have o:((t.drop 8).take 4).length=4:=by rw[kL,kK];omega
 have g:=XO C;have g:=XO o;have i:12<t.length:=G;obtain⟨R,U⟩:∃R,R=UK t n:=⟨_,Z⟩;have r:PW R=[I (Bi ((t.drop 4).take 4):Nat),I ((t[12]).toNat:Nat),I (Bi ((t.drop 8).take 4):Nat),St ((t.drop 15).take n)]:=by rw[U,UK,PW,hk,dd i];rfl
 refine As<|Ag<|WC.mono (N:=(fun e w'=>∃(c':Nat→Nat) (b6:Nat),Sub [(4000000, .tuple #[]),(0,a),(2, .pointer (some ⟨b2,0,none⟩)),(6, .pointer (some ⟨b6,0,none⟩))] e∧CD w c' w'∧Bu DQ c' w' [0] a L∧AI c' w' 102 b2 [I 0,I 0,I 0,St []] 205∧AI c' w' 106 b6 (PW R) 205)) ?_ ?_
 ·refine EB p [] [0,0,2,0,0,0,2,0,0,0,0,0,0,0,0,0,2,3] (.Au 0 (.Au 1 (.Au 4 (.Au 5 (.Au 8 (.Au 9 (.Au 10 (.Au 11 (.Au 12 (.Au 13 (.Au 14 (.two 2 (.Au 3 (.two 6 (.Au 7 (.Au 15 (.one 16 (.one 17 .nil)))) 16 (.one 6 (.Au 7 (.Au 15 (.one 17 .nil)))))) 16 (.one 2 (.Au 3 (.one 6 (.Au 7 (.Au 15 (.one 17 .nil)))))))))))))))))) fun g g g=>?_;refine Cd Z (Cf Z)<|Cd Z (Ip underlying9 Z Z Z Ai Ai Ai) ?_;refine Cd Z (Cf Z)<|Cd Z (Ip underlying9 Z Z Z Ai Ai Ai) ?_;refine Cd Z (Cf Z)<|Cd Z (Ks underlying9 Z Z G (dd i)) ?_;refine Cd Z (dF underlying5 underlying3 Z)<|Cd Z (Cf Z)<|Cd Z (Cf Z)<|Cd Z (Bc Z Z Ai Ai) ?_;refine Cd Z (Ip underlying9 Z Z Z G G G) ?_;rw[show(15+(n:Int)).toNat-(15:Int).toNat=n by omega];refine Ck ?_ ?_
  ·refine EM Z (Ac p 1 (Ab KE Z (It ((t.drop 4).take 4) (by rw[C];omega)))) ?_;rintro a7 i ⟨J,i,a1,rfl⟩;refine g.Bl i fun g=>Cd Z (EY underlying278 underlying3 Z Ai Ai) ?_;refine Ck ?_ ?_
   ·refine EM Z (Ac J 1 (Ab KE Z (It ((t.drop 8).take 4) (by rw[o];omega)))) ?_;rintro a1 i ⟨i,a6,a8,rfl⟩;refine g.Bl a6 fun g=>Cd Z (EY underlying278 underlying3 Z Ai Ai) ?_;refine Cd Z (By (cells:=#[I (Bi ((t.drop 4).take 4):Nat),I ((t[12]).toNat:Nat),I (Bi ((t.drop 8).take 4):Nat),St ((t.drop 15).take n)]) Z Ao) ?_;refine EZ Z (CB i 106 OI) ?_;rintro _ i ⟨b6,i,rfl,a6,i⟩;refine g.Bl a6 fun g=>AV<|Bj Z Z Z (Am HN Z Z i Z Z Bg) ?_;rintro _ a6 ⟨i,a6⟩;refine Bs ?_;exact⟨_,_,AL,hO.D,j.D,f.D,by rw[r];exact i⟩
   refine EM Z (CB J 106 OI) ?_;rintro _ J ⟨b6,J,rfl,a6,i⟩;refine g.Bl a6 fun g=>AV ?_;refine EM Z (Ac J 1 (Ab KE Z (It ((t.drop 8).take 4) (by rw[o];omega)))) ?_;rintro a1 J ⟨J,J,a6,rfl⟩;refine g.Bl J fun g=>Cd Z (EY underlying278 underlying3 Z Ai Ai) ?_;refine Cd Z (By (cells:=#[I (Bi ((t.drop 4).take 4):Nat),I ((t[12]).toNat:Nat),I (Bi ((t.drop 8).take 4):Nat),St ((t.drop 15).take n)]) Z Ao) ?_;refine AV<|Bj Z Z Z (Am HN Z Z i.D Z Z Bg) ?_;rintro _ J ⟨i,J⟩;refine Bs ?_;exact⟨_,_,AL,hO.D,j.D,f.D,by rw[r];exact i⟩
  refine EM Z (CB p 106 OI) ?_;rintro _ p ⟨b6,p,rfl,J,i⟩;refine g.Bl J fun g=>AV ?_;refine EM Z (Ac p 1 (Ab KE Z (It ((t.drop 4).take 4) (by rw[C];omega)))) ?_;rintro a7 p ⟨p,C,J,rfl⟩;refine g.Bl C fun g=>Cd Z (EY underlying278 underlying3 Z Ai Ai) ?_;refine AV ?_;refine EM Z (Ac p 1 (Ab KE Z (It ((t.drop 8).take 4) (by rw[o];omega)))) ?_;rintro a1 o ⟨o,o,p,rfl⟩;refine g.Bl o fun g=>Cd Z (EY underlying278 underlying3 Z Ai Ai) ?_;refine Cd Z (By (cells:=#[I (Bi ((t.drop 4).take 4):Nat),I ((t[12]).toNat:Nat),I (Bi ((t.drop 8).take 4):Nat),St ((t.drop 15).take n)]) Z Ao) ?_;refine AV<|Bj Z Z Z (Am HN Z Z i.D Z Z Bg) ?_;rintro _ g ⟨i,g⟩;refine Bs ?_;exact⟨_,_,AL,hO.D,j.D,f.D,by rw[r];exact i⟩
 clear hO j f;rintro g g ⟨g,b6,o,hO,j,f,i⟩;refine DN o<|Ag<|Ag ?_;rw[←U] at l;refine cg<|E (Ba HN Z i.AE Z)<|ve (Ac g 1 (Ab xP Z (qA (s:=R)))) ?_;rintro g g ⟨g,o,o,rfl⟩;refine E (BL Z)<|M Z ?_;apply BU g false 5 _ CK
 ·intro o r;refine wo<|E (Ba HN Z i.D.AE Z)<|wo<|ve (Ac g 11 (Ab sw Z (XG (s:=R) (by simpa using o)))) ?_;rintro g g ⟨p,g,C,g⟩;replace g:=g.Du C;refine wo<|M Z<|wo ?_;refine ve (Ac p 1 (Ab xQ Z (iT (Im g (by rw[(Na R).1];have:Ca R.text.length≤3:=by{have:=(PX (s:=R) (by simpa using o)).2.2.2.2;unfold Ca;omega};omega) (fun x hx↦by rw[(Na R).2 x hx];omega)).AB j.D.AB))) ?_;rintro g g ⟨g,g,g,rfl⟩;refine wo<|E (BL Z) ?_;exact BV 5 r.D
 intro g g g;refine Ah<|BA Z (fun g=>?_) fun g=>?_
 ·have e:Hy L=none:=by
   rw[l,ss];rintro⟨j,g2⟩;rw[j] at g;simp[g2] at g
  rw[e];refine Q<|E (By (cells:=#[.int .i64 0, .int .i64 0, .int .i64 0, .string ⟨[].toArray⟩]) Z Ao) ?_;refine Av (Am HN Z Z f.D Z Z Bg) ?_;rintro _ j ⟨f,j⟩;refine V Z<|DI Z (DZ HN Z f.AE Z) (FD.tmp Z) ?_;exact⟨hO.D.below,Z⟩
 have e:Hy L=some R:=by
  rw[l,zm];cases j:Nb R with
  |false=>rw[j] at g;simp at g
  |true=>rw[j] at g;exact⟨Z,by simpa using g⟩
 rw[e];refine As<|Q<|E (Ba HN Z i.D.AE Z)<|Av (Am HN Z Z f.D Z Z Bg) ?_;rintro _ g ⟨f,g⟩;refine V Z<|DI Z (DZ HN Z f.AE Z) (FD.tmp Z) ?_;exact⟨hO.D.below,Z⟩
theorem gT:∀{L:List Tx},(∀x∈L,x.length≤64)→L.flatten.length≤64*L.length
 |[],_=>kM _
 |a::l,h=>by
  have f:=gT (L:=l) (fun x hx=>h x (Aaw _ hx));have g:=h a Aau;rw[Abc,ft,SG];omega
theorem nc{L:List Tx}{g x:Int}(hl:Rd DQ w a L)(hp:HO a)(J:L.length≤1000)(C:∀x∈L,x.length≤64):Calls QP 123 #[a,I p,I g,I x] w (Bt fun v w'=>AZ w w'∧v=I (Ja L p g x)):=by
 obtain⟨c,hO,f⟩:=Ay w;have j:Bu DQ c w [0] a L:=Rd.Du hl (fun k O=>by simp[f,AU]);have f:=gT C;obtain⟨o,i⟩:∃o,o=Hy L:=⟨_,Z⟩;refine AY 42 #[.tmp 8] func123 Z<|Q<|V Z<|Q<|M Z<|ve (Ac c 1 (Ab sf Z (gS j.AB hp))) ?_;rintro f w1 ⟨c1,f,f,rfl⟩;rw[←i];refine M Z<|E (Aq Z Z)<|E (Aq Z Z)<|EK c1 109 OI fun w2 f c2 f f=>?_;refine Av (Am HN Z Z f Z Z Bg) ?_;rintro _ l ⟨f,l⟩;refine V Z<|Ag<|An<|Q<|M Z<|E (BO Z Z)<|M Z ?_;apply AW true 4 _ CK
 ·intro l;refine wo<|E (Aa QI Z)<|wo<|E (Al AF Z f.AE Z)<|wo<|M Z<|wo<|E (BO Z Z) ?_;exact EQ 4
 refine M Z ?_;apply AW true 4 _ CK
 ·intro l;refine wo<|E (Aa QK Z)<|wo<|E (Al AF Z f.AE Z)<|wo<|M Z<|wo<|E (BO Z Z) ?_;exact EQ 4
 refine M Z ?_;apply AW true 4 _ CK
 ·intro l;refine wo<|E (Aa QJ Z)<|wo<|E (Al AF Z f.AE Z)<|wo<|M Z<|wo<|E (BO Z Z) ?_;exact EQ 4
 refine V Z<|GO Z (fun f=>?_) fun f=>?_
 ·have e:Ja L p g x=2:=by
   rw[Ja,←i];cases o with
   |none=>simp at f
   |some s=>simp at f;dsimp only;rw[if_pos ⟨f.1.1,f.1.2,f.2⟩]
  refine Q<|V Z<|Af Z Z ?_;exact⟨hO.D.below,by rw[e]⟩
 have e:Ja L p g x=if HJ L.flatten then 0 else 1:=by
  rw[Ja,←i];cases o with
  |none=>rfl
  |some s=>dsimp only;rw[if_neg];rintro⟨i,l,t⟩;simp[i,l,t] at f
 refine Q<|M Z<|ve (Ac c2 1 (Ab lA Z (Zz j.D.AB hp G G))) ?_;rintro f f ⟨f,i,i,rfl⟩;refine ve (Ac f 1 (Ab sj Z (gR (s:=L.flatten) G))) ?_;rintro f f ⟨f,f,f,⟨r,rfl,j⟩⟩;refine E (YD Z Z)<|V Z<|BA Z (fun f=>?_) fun f=>?_
 ·have i:HJ L.flatten=true:=by rw[←j];simpa using f
  refine Q<|V Z<|Af Z Z ?_;exact⟨hO.D.below,by rw[e,i];rfl⟩
 have i:HJ L.flatten=false:=by rw[←j];simpa using f
 refine As<|Q<|V Z<|Af Z Z ?_;exact⟨hO.D.below,by rw[e,i];rfl⟩
theorem Ti{A:CS}{d f:Int}{k:Nat}(h:(Bp A d (f+(k:Nat))).2≠0):∀m,k<m→Dk A d f m=none
 |0,i=>by omega
 |m+1,i=>by
  rw[Dk];rcases Aab k m with g|g
  ·rw[Ti h m g]
  ·have e:m=k:=G;subst e;cases Dk A d f m with
   |none=>rfl
   |some l=>dsimp only;rw[if_neg h]
theorem Tj{f:Int}{l:List Tx}(g:Dk F p f k=some l)(h:(Bp F p (f+(k:Nat))).2=0):Dk F p f (k+1)=some (l++[(Bp F p (f+(k:Nat))).1]):=by
 rw[Dk,g];dsimp only;rw[if_pos h]
theorem et{A:CS}{s:CO}{x:CV}{q:Int×Int}(f:x.Ad[i]?=some q)(g:Dk A q.1 (1024+q.2*(BZ s:Nat)) (BZ s)=none):Dp A s x i=([],false):=by
 rw[Dp,f];dsimp only;rw[g]
theorem eu{A:CS}{s:CO}{x:CV}{q:Int×Int}{l:List Tx}(f:x.Ad[i]?=some q)(g:Dk A q.1 (1024+q.2*(BZ s:Nat)) (BZ s)=some l):Dp A s x i=if Ja l x.id x.gen (i:Nat)=2 then match Hy l with
 |none=>([],false)
 |some h=>(h.text,decide (h.text.length=s.size))
 else([],false):=by
 rw[Dp,f];dsimp only;rw[g];rfl
theorem CJ.nf(h:CJ w k d m a n b):HO a:=by
 obtain⟨A,q,d,_,f⟩:=h.ta;exact⟨A,_,q,d,f⟩
theorem ZA{p:Nat}{P:HQ}{x:CV}{u:Value}(hp:WA c w p P)(hs:P.s.ok)(b5:GR n m P.A)(b6:SX P.A)(hu:Rd Bx w u x.Ad)(b7:Dg P.s x=true)(hi:i<x.Ad.length):
 Calls QP 61 #[P1 p, .agg #[I x.id,I x.len,I x.gen,u],I i] w (Bt fun v w'=>AZ w w'∧v= .tuple #[St (Dp P.A P.s x i).1, .bool (Dp P.A P.s x i).2]):=by
 obtain⟨pa,pj,vS,vT,vG,f⟩:=hp;have r:=DD.start c w DA;replace f:=f.Dt (K:=DA);have g:=hu.AD;replace hu:=hu.mL (c:=c) DA;generalize Bw c DA=c0 at r f hu;obtain⟨C,J,g,g⟩:=f;obtain⟨f,f,f,f,f,t⟩:=CI b7;obtain⟨f,o⟩:∃f,f=BZ P.s:=⟨_,Z⟩;have g:f≤3:=by rw[o,BZ,Ca];have:=hs.2.2.2.2;omega
 obtain⟨q,g⟩:∃q,q=x.Ad[i]:=⟨_,Z⟩;have b0:x.Ad[i]?=some q:=by rw[dd hi,g]
 have j:(0≤q.2∧q.2<64)∧-1≤q.1∧q.1<12:=by
  have:=t q (by rw[g];exact mv hi);simp only[Ki,Aa3,kg,pn] at this;omega
 obtain⟨z,R⟩:∃z:Nat,q.2*(f:Int)=(z:Nat):=⟨(q.2*(f:Int)).toNat,by have:=Aef j.1.1 (Ad3 f);omega⟩;have j:z≤189:=by
  have j:q.2*(f:Int)≤63*3:=Int.mul_le_mul G G G G;omega
 have j:=(Co hu hi AO).1;rw[←g] at j;refine AY 78 #[.tmp 6, .tmp 7] func61 Z<|Q<|Fa c0 104 fun w1 b4 c1 g Bd=>?_;refine za Z<|V Z<|Q<|E (Aa Cl Z)<|E (Al CH Z Bd.AE Z)<|M Z<|E (BJ DL hu.D.AB Z Z Z G G) ?_;refine E (DT Dj Z j.D.DF Z)<|EK c1 108 JU fun w2 b8 c2 g t=>?_;refine Av (Am Dj Z Z t Z Z Bg) ?_;rintro _ g ⟨t,g⟩;refine Ah<|Q<|V Z<|Ag<|Q<|M Z<|E (Ak Z)<|E (Aa Ut Z)<|E (Al AF Z C.D.AE Z)<|M Z<|Ah<|An<|AG (σ:=Nat×Value×List Tx) (fun g=>[(0,P1 p),(2,I i),(4,P1 b4),(8,P1 b8),(9,g.2.1),(23,I (BZ P.s)),(24,I g.1)]) (fun g w'=>(g.1≤f∧g.2.2.length=g.1∧(∀x∈g.2.2,x.length=64)∧Dk P.A q.1 (1024+q.2*(f:Int)) g.1=some g.2.2)∧∃c',DD c w DA c' w'∧AI c' w' 90 p (Dq pa pj vS vT vG P) 101∧BW c' w' pa P.A∧AI c' w' 104 b4 [I x.id,I x.len,I x.gen,u] 115∧AI c' w' 108 b8 [I q.1,I q.2] 125∧AJ c' w' 9 9 1 g.2.1 g.1 (g.2.2.map St)) (fun g=>f-g.1) (0, .slice none 0 0,[]) AL ⟨⟨Nat.zero_le _,Z,by simp,Z⟩,_,r.D,C.D,J.D,Bd.D,t,Br _ _ _ _ _⟩ ?_;rintro⟨k,g,l⟩ g ⟨⟨O,a7,U,a8⟩,a6,r,C,J,Bd,t,j⟩;dsimp only at O a7 U a8 r C J Bd t j;refine Q<|E (AX Z Z)<|Ah<|Ag<|BA Z (fun g=>?_) fun g=>?_
 ·have b1:k<f:=G;have b9:=j.AA;have c3:=j.AD;refine As<|Ag<|An<|Q<|M Z<|V Z<|Ag<|AM a6 [] [0,0,0,1,0,1,0,1,0,0,0,1,0,0,0,0,2,0,0,0,0,0] [0,1,2,3,4,5,6,7,8,9,10,11,12,13,14,15,16,17,18,19,20,21] fun g g g=>?_;refine Bm Z Z<|AN Z (Ak Z)<|AN Z (Aa NN Z)<|vc Z g.kp (C.D.kb LK Z Z)<|AN Z (Aa Ct Z)<|vc Z g.kp (t.D.kb AF Z Z)<|AN Z (Aa GP Z)<|vc Z g.kp (t.D.kb AF Z Z)<|Bm Z Z ?_;refine AN Z (Ak Z)<|AN Z (Aa Ut Z)<|vc Z g.kp (C.D.kb AF Z Z)<|AN Z (HK Z Z (by rw[←o,R];omega) (by rw[←o,R];omega))<|AN Z (Bc Z Z (by rw[←o,R];omega) (by rw[←o,R];omega))<|Bm Z Z<|AN Z (Bc Z Z (by rw[←o,R];omega) (by rw[←o,R];omega)) ?_;refine Db Z (Ac a6 1 (Ab fO Z (Ri J.D b6))) ?_;rintro R R ⟨b3,R,a1,rfl⟩;refine g.Bl R fun g=>?_;rw[←o];obtain⟨rd,R⟩:∃rd,rd=Bp P.A q.1 (1024+q.2*(f:Int)+(k:Int)):=⟨_,Z⟩;rw[←R];refine Bm Z Z<|AN Z (Aq Z Z)<|AN Z (Aq Z Z)<|Ir Z Z<|Ir Z Z<|AP ?_;refine Ag<|Q<|M Z<|E (BK Z Z)<|Ah<|BA Z (fun a1=>?_) fun a1=>?_
  ·have e:=et b0 (s:=P.s) (A:=P.A) (by rw[←o];exact Ti (k:=k) (by rw[←R];exact a1) _ b1);refine Q<|za Z<|V Z<|BR Z Z Z ?_;exact⟨r.D.below,by rw[e]⟩
  have b1:=b5.qh (d:=q.1) (s:=1024+q.2*(f:Int)+(k:Int)) (by rw[←R];exact a1);have b2:=Tj a8 (by rw[←R];exact a1);rw[←R] at b1 b2;refine As<|cg<|M Z<|M Z<|ve (AH b3 151 Ch Z Z Z Z Z) ?_;rintro _ R ⟨R,R,rfl,R,R⟩;refine ve (Ax Ch Z Z j.D (Aw underlying37 R.AE.AT Z Bg) Fh Fg) ?_;rintro a1 a1 ⟨a1,a1,j⟩;refine V Z<|cg<|E (Bc Z Z Ai Ai)<|M Z<|Ah ?_;refine⟨(k+1,_,l++[rd.1]),AL,⟨⟨by dsimp only;omega,by dsimp only;rw[List.length_append,a7];rfl,fun x hx↦?_,b2⟩,_,r.D,C.D,J.D,Bd.D,t.D,by simpa using j⟩,by show f-(k+1)<f-k;omega⟩;rcases List.mem_append.1 hx with h|h
  ·exact U x h
  rw[pv.1 h];exact b1
 have e:k=f:=G;subst e;have f:=eu b0 (s:=P.s) (A:=P.A) (by rw[←o];exact a8);rw[f];rw[←a7] at j;have o:=j.own.nf;have b9:=j.AA;have c3:=j.AD;refine Az Z<|Ag<|Q<|M Z<|E (Aa Dy Z)<|E (Al AF Z Bd.AE Z)<|E (Aa NO Z)<|E (Al AF Z Bd.AE Z)<|M Z ?_;refine ve (Ac a6 1 (Ab xb Z (nc (Im j G (fun y hy↦by rw[U y hy];omega)).AB o G (fun y hy↦by rw[U y hy];omega)))) ?_;rintro f f ⟨J,f,f,rfl⟩;refine E (BK Z Z)<|Ah<|BA Z (fun f=>?_) fun f=>?_
 ·rw[ss f];refine Q<|za Z<|V Z<|BR Z Z Z ?_;exact⟨r.D.below,Z⟩
 obtain⟨sh,t,_⟩:=UR f;rw[zm f,t];refine As<|Q<|M Z ?_;refine ve (Ac J 1 (Ab sf Z (gS (Im j.D G (fun y hy↦by rw[U y hy];omega)).AB o))) ?_;rintro f f ⟨f,j,j,rfl⟩;rw[t];refine M Z<|E (Aq Z Z)<|E (Aq Z Z)<|EK f 113 OI fun f f j f f=>?_;refine Av (Am HN Z Z f Z Z Bg) ?_;rintro _ o ⟨f,o⟩;refine V Z<|Ag<|AM j [] [0,1,0,1,0,0,0,0,0,1,0,0,0] [0,1,2,3,4,5,6,7,8,9,10,11,12] fun j j g=>?_;refine AN Z (Aa Lg Z)<|vc Z g.kp (f.D.kb CQ Z Z)<|AN Z (Aa Lg Z)<|vc Z g.kp (f.D.kb CQ Z Z)<|AN Z (Ey underlying9 Z)<|Bm Z Z<|AN Z (Ak Z)<|AN Z (Aa FR Z)<|AN Z (Aa DO Z)<|vc Z g.kp (C.D.kb AF Z Z)<|AN Z (BO Z Z)<|Ir Z Z<|Ir Z Z<|AP ?_;refine BR Z Z Z ?_;have f:(((sh.text.length:Nat):Int)=((P.s.size:Nat):Int))↔sh.text.length=P.s.size:=G;refine⟨r.D.below,?_⟩;simp[PW,f]
theorem ev{x:CV}(hu:a.oneCell'=true):Calls QP 134 #[P1 k, .agg #[I x.id,I x.len,I x.gen,a]] w (Bt fun f w'=>AZ w w'∧∃b2 b3,f= .func (.func 206) #[] #[P1 b3,P1 b2]∧(w.heap.size≤b2∧w.heap.size≤b3)∧Gt w' b2 [P1 k] 34∧Gt w' b3 [I x.id,I x.len,I x.gen,a] 115):=by
 obtain⟨c,hO,hc⟩:=Ay w;refine AY 6 #[.tmp 4] func134 Z<|Q<|Mn c 102 fun w1 b2 c1 j g=>?_;refine Fa c1 103 fun w2 b3 c2 i AR=>?_;refine V Z<|Q<|E (Dn Z)<|V Z<|Af Z Z ?_;replace hO:=(hO.D j).D i;replace g:=g.D i;have l:w.heap.size≤b2:=by
  rcases Aab b2 w.heap.size with h|h
  ·have:=hO.BF _ h;rw[g.BF] at this;cases this
  exact h
 have o:w.heap.size≤b3:=by
  rcases Aab b3 w.heap.size with h|h
  ·have:=hO.BF _ h;rw[AR.BF] at this;cases this
  exact h
 exact⟨hO.below,_,_,Z,⟨l,o⟩,g.AE,AR.AE⟩
def ng(P:HQ)(x:CV)(i:Nat):List Value:=[St (Dp P.A P.s x i).1, .bool (Dp P.A P.s x i).2]
theorem cd{pj b2 b3 :Nat}{vG u:Value}{P:HQ}{x:CV}(f:DM j h k i pj a y vG P)(hs:P.s.ok)(a7:GR n m P.A)(a8:SX P.A)(hu:Bu Bx j h (0::DA) u x.Ad)(C:Dg P.s x=true)
 (g:AI j h 76 b2 [P1 k] 34)(AR:AI j h 76 b3 [I x.id,I x.len,I x.gen,u] 115)(O:P.s.k+P.s.m≤100):
 LH QP 206 [P1 b3,P1 b2] (ng P x) [] (76::0::DA) (List.range x.Ad.length) j h:=by
 intro l J c0 c1 W K c0 hK t o hy r;have o:∀pa∈(76::0::DA),AU K pa=false:=fun pa hi=>BD hK (by simpa using hi);have R:=(CI C).2.2.2.2.1;replace g:=g.D c0 (o 76 Bb);replace AR:=AR.D c0 (o 76 Bb);replace f:=f.D c0 (CC hK Bb);replace hu:=hu.D c0 (CC hK Bb);have hJ:JC (J []) [] c1 W:=⟨r,fun _ _ _ _ w0 m=>t _ _ _ _ _ w0 m⟩;have r:=hu.AB.AD;have r:=hu.AB.AA;show Calls _ _ [_,_,_].toArray _ _
 refine AY 21 #[] func206 Z<|Q<|E (Aa Cl Z)<|E (Al CH Z AR.AE Z)<|E (BN DL) ?_;refine M Z<|Ah<|An<|AG (σ:=Nat) (fun pa=>[(0, .func (.yield l) #[] #[]),(1,P1 b3),(2,P1 b2),(7,I x.Ad.length),(8,I pa)]) (fun pa w'=>pa≤x.Ad.length∧∃c',AI c' w' 76 b2 [P1 k] 34∧AI c' w' 76 b3 [I x.id,I x.len,I x.gen,u] 115∧DM c' w' k i pj a y vG P∧Bu Bx c' w' (0::DA) u x.Ad∧JC (J (List.range pa)) [] c' w') (fun pa=>x.Ad.length-pa) 0 AL ⟨G,_,g,AR,f,hu,hJ⟩ ?_;rintro pa c0 ⟨hi,c0,g,AR,f,hu,hJ⟩;refine Q<|E (AX Z Z)<|Ah<|Ag<|BA Z (fun o=>?_) fun o=>?_
 ·have o:pa<x.Ad.length:=G;refine As<|Ag<|An<|Q<|M Z<|V Z<|Q<|M Z<|E (Al SQ Z g.AE Z)<|E (Ba Cn Z AR.AE Z)<|M Z<|ve (Ac c0 1 (Ab tX Z (ZA ⟨i,pj,a,y,vG,f⟩ hs a7 a8 hu.AB C o))) ?_;rintro c0 w1 ⟨c1,c0,o,rfl⟩;refine E (Aq Z Z)<|E (Aq Z Z) ?_;have o:List.range pa++[pa]<+:List.range x.Ad.length:=by
   rw[←Abf];exact⟨(List.range (x.Ad.length-(pa+1))).map (·+(pa+1)),by rw[show x.Ad.length=(pa+1)+(x.Ad.length-(pa+1)) by omega,Agf];simp[Adi]⟩
  obtain⟨r,r,R⟩:=hy _ _ _ _ (hJ.D c0).AB o;refine ve (FQ Z Z R) ?_;rintro _ b0 ⟨b,a6,rfl,o,a1,U⟩;replace g:=g.D c0;replace AR:=AR.D c0;replace f:=f.D c0;replace hu:=hu.D c0;replace g:=g.D o (BD r Bb);replace AR:=AR.D o (BD r Bb);replace f:=f.D o (CC r Bb);replace hu:=hu.D o (CC r Bb);refine E (BL Z)<|Ah<|BA Z (fun c0=>?_) fun c0=>?_
  ·refine FK Z ?_;exact⟨_, .inr ⟨_,U c0⟩⟩
  have hJ:JC (J (List.range (pa+1))) [] a6 b0:=⟨by rw[Abf];exact a1 c0,fun _ _ _ _ w0 m=>t _ _ _ _ _ w0 m⟩;refine As<|cg<|E (Bc Z Z Ai Ai)<|M Z<|Ah ?_;exact⟨pa+1,AL,⟨G,_,g,AR,f,hu,hJ⟩,G⟩
 have e:pa=x.Ad.length:=G;subst e;refine Az Z<|⟨_,_,Z,Z,?_⟩;exact⟨Z,_, .inl hJ.AB⟩
theorem OX(A:CS)(s:CO)(x:CV):(Hd A s x).length=s.k+s.m:=by simp[Hd]
theorem OY(A:CS)(s:CO)(x:CV):(KC A s x).length=s.k+s.m:=by simp[KC]
theorem XP{x:CV}(h:(Dp F z x i).2=true):(Dp F z x i).1.length=z.size:=by
 revert h;unfold Dp;split
 ·intro h;cases h
 ·split
  ·intro h;cases h
  ·split
   ·split
    ·intro h;cases h
    ·intro h;simpa using h
   ·intro h;cases h
theorem nh{A:CS}{s:CO}{x:CV}:(Dp A s x i).1.length≤120:=by
 unfold Dp;split
 ·simp
 ·split
  ·simp
  ·split
   ·rename_i hc;obtain⟨sh,f,_⟩:=UR hc;rw[f];dsimp only;unfold Hy at f;split at f
    ·cases f
    ·split at f
     ·cases f
     ·split at f
      ·rename_i g;injection f with f;rw[←f];exact(PX g.1).2.2.2.2
      ·cases f
   ·simp
theorem Tk{x:CV}(i:Nat)(f:i<(Hd F z x).length)(g:i<(KC F z x).length)(h:(Hd F z x)[i]=true):(KC F z x)[i].length=z.size:=by
 simp only[Hd,KC,Ac0,Adk] at h⊢;exact XP h
theorem MG(h:AJ c w i d 1 a x.length (x.map .bool))(o:x.length≤1048576):Bu DW c w [i] a x:=by
 have f:∀l:List Bool,l.flatMap (fun b=>[Value.bool b])=l.map .bool:=fun l=>by
  induction l with
  |nil=>rfl
  |cons v l j=>rw[Aci,Aaa,j];rfl
 have g:AJ c w i d 1 a x.length (x.flatMap fun L=>[Value.bool L]):=by rw[f];exact h
 exact g.Gl G fun L hx=>trivial
theorem ni{L:List (List UInt8)}{bs:List Bool}(h:Small z)(hl:Rd DQ w a L)(o:Rd DW w y bs)(r:L.length=z.k+z.m)(t:bs.length=z.k+z.m)(hs:∀(i:Nat) (g:i<bs.length) (J:i<L.length),bs[i]=true→L[i].length=z.size):
 Calls QP 135 #[.agg (DB z).toArray,a,y] w (Bt fun v w'=>AZ w w'∧∃f,v= .tuple #[f,I (if(Sf z L bs).isSome then 0 else 8)]∧CJ w' w.heap.size 9 1 f ((Sf z L bs).getD []).length (((Sf z L bs).getD []).map St)):=by
 refine(qv h hl o r t hs).mono fun e w' p=>?_;obtain⟨v,rfl,l,hv⟩:=p;refine⟨_,Z,l,?_⟩;cases j:Sf z L bs with
 |none=>
  rw[j] at hv;rw[show v=_ from hv];exact⟨_,Z,CJ.nil _ _ _ _⟩
 |some C=>
  rw[j] at hv;obtain⟨f,rfl,hv⟩:=hv;refine⟨f,Z,?_⟩;have g:=hv.1;rw[kr,Acn] at g;rw[Ada,g];exact hv
def uJ(w0 w:World)(P:HQ)(x:CV)(v:Value):Prop:=∃g f,v= .tuple #[g,f, .bool (JG P.A P.s x).isSome]∧CJ w w0.heap.size 4 1 f (Hd P.A P.s x).length ((Hd P.A P.s x).map .bool)∧CJ w w0.heap.size 9 1 g ((JG P.A P.s x).getD []).length (((JG P.A P.s x).getD []).map St)
theorem nj(P:HQ)(x:CV):(List.range (P.s.k+P.s.m)).map (fun i=>Value.bool (Dp P.A P.s x i).2)=(Hd P.A P.s x).map .bool:=by rw[Hd,Acu];rfl
theorem nk(P:HQ)(x:CV):(List.range (P.s.k+P.s.m)).map (fun i=>St (Dp P.A P.s x i).1)=(KC P.A P.s x).map St:=by rw[KC,Acu];rfl
theorem nm{p:Nat}{P:HQ}{n m:Nat}{x:CV}{u:Value}(hp:WA c w p P)(hs:Small P.s)(J:GR n m P.A)(p1:SX P.A)(hu:Rd Bx w u x.Ad)(e7:Dg P.s x=true):
 Calls QP 66 #[P1 p, .agg #[I x.id,I x.len,I x.gen,u]] w (Bt fun v w'=>AZ w w'∧uJ w w' P x v):=by
 obtain⟨pa,pj,vS,vT,vG,r⟩:=hp;have t:=DD.start c w DA;replace r:=r.Dt (K:=DA);have p6:=hu.AD;replace hu:=hu.mL (c:=c) DA;generalize Bw c DA=c0 at t r hu;have e9:=(CI e7).2.2.2.2.1;obtain⟨w0,w3,w4,w5,w6⟩:=id hs;refine AY 37 #[.cell 4 37, .cell 5 64, .tmp 6] func66 Z<|Q<|Fa c0 103 fun w1 b3 c1 s5 AR=>?_;refine EK c1 104 dK fun w2 b4 c2 c3 Bd=>EK c2 105 ud fun y9 b5 j0 u0 Bv=>V Z<|Ag<|Q<|M Z<|E (Ba Cn Z AR.D.AE Z)<|ve (Ac j0 76 (Ab xj Z (ev (x:=x) p6))) ?_;rintro w7 h0 ⟨e0,u3,e8,⟨b8,h7,rfl,⟨p3,p4⟩,b7,b9⟩⟩;have c4:AI _ _ 76 b8 [P1 p] 34:=⟨b7,e8 _ p3⟩;have c5:AI _ _ 76 h7 [I x.id,I x.len,I x.gen,u] 115:=⟨b9,e8 _ p4⟩;have j:AJ _ _ 4 9 1 (.slice none 0 0) 0 []:=Br e0 h0 _ _ _;have g:AJ _ _ 5 4 1 (.slice none 0 0) 0 []:=Br e0 h0 _ _ _;refine Ah<|An<|EJ (α:=Nat) (encs:=ng P x) (κ:=[]) (F:=76::0::DA) (L:=List.range x.Ad.length)
  (fun pre d A=>DD c w DA d A∧DM d A p pa pj vS vT vG P∧∃v4 b1,AI d A 104 b4 [v4] 37∧AI d A 105 b5 [b1] 64∧AJ d A 4 9 1 v4 pre.length (pre.map fun i=>St (Dp P.A P.s x i).1)∧AJ d A 5 4 1 b1 pre.length (pre.map fun i=> .bool (Dp P.A P.s x i).2)) [] (fun _ _ _=>False) [4,5,104,105] Z Z xU (cd r.D hs.ok J p1 hu.D e7 c4 c5 G) Z (fun _=>rfl) Bb Z
  (fun s d A j4 B ⟨h1,h2,v4,b1,h3,h4,h5,h6⟩ m=>⟨h1.D m,h2.D m,v4,b1,h3.D m,h4.D m,h5.D m,h6.D m⟩) (fun p hp=>by simp at hp) (fun s d A j4 B h _=>h.elim)
  ⟨t.D,r.D,_,_,Bd.D,Bv.D,j,g⟩ ?_ ?_ ?_ ?_
 ·clear t r hu AR Bd Bv j g c4 c5 b7 b9;rintro l pre k d A1 ⟨t,r,v4,b1,Bd,Bv,j,g⟩ p5;have J:=Acc.refl d A1 [4,5,104,105];refine Q<|V Z<|cg<|V Z<|⟨_,J,?_⟩;intro A2 c3;have J:=Acc.refl d A2 [4,5,104,105];have u9:pre.length≤1000:=by
   have:=p5.length_le;rw[ft,Aap] at this;omega
  replace j:=j.D c3;have R:=j.AD;have U:=j.AA;replace g:=g.D c3;have a1:=g.AD;have a6:=g.AA;refine An<|WC.mono (N:=(fun e w'=>∃(c':Nat→Nat) (c6 c7:Value),DD c w DA c' w'∧DM c' w' p pa pj vS vT vG P∧AI c' w' 104 b4 [c6] 37∧AI c' w' 105 b5 [c7] 64∧AJ c' w' 4 9 1 c6 (pre.length+1) ((pre.map fun i=>St (Dp P.A P.s x i).1)++[St (Dp P.A P.s x k).1])∧AJ c' w' 5 4 1 c7 (pre.length+1) ((pre.map fun i=> .bool (Dp P.A P.s x i).2)++[.bool (Dp P.A P.s x k).2])∧Acc d A2 [4,5,104,105] c' w')) ?_ ?_
  ·refine EB d [4,5,104] [2,0,2,2,1,0,2,2,2,3] (.Au 1 (.Au 4 (.Au 5 (.three 0 (.two 2 (.two 3 (.one 6 (.one 7 (.one 8 (.one 9 .nil)))) 6 (.one 3 (.one 7 (.one 8 (.one 9 .nil))))) 6 (.one 2 (.one 3 (.one 7 (.one 8 (.one 9 .nil)))))) 2 (.two 0 (.two 3 (.one 6 (.one 7 (.one 8 (.one 9 .nil)))) 6 (.one 3 (.one 7 (.one 8 (.one 9 .nil))))) 6 (.one 0 (.one 3 (.one 7 (.one 8 (.one 9 .nil)))))) 6 (.two 0 (.one 2 (.one 3 (.one 7 (.one 8 (.one 9 .nil))))) 2 (.one 0 (.one 3 (.one 7 (.one 8 (.one 9 .nil)))))))))) fun a15 u6 f=>?_;refine Cd Z (Cf Z)<|Cj Z Z Z f.kp (Bv.D.kb Hw Z Z) Z<|Cd Z (Cf Z)<|WX ?_ ?_ ?_
   ·refine EM Z (Cs (Al Eh Z Bd.D.AE Z)) ?_;rintro _ _ ⟨rfl,rfl⟩;refine⟨id,?_⟩;refine Ck ?_ ?_
    ·refine EM Z (AH d 117 Ch Z Z Z Z Z) ?_;rintro _ a22 ⟨b6,j2,rfl,o5,C⟩;refine f.Bl o5 fun f=>Ck ?_ ?_
     ·refine EM Z (Ax Ch Z Z j.D (Aw underlying37 C.AE.AT Z Bg) Fh Fg) ?_;rintro a7 a23 ⟨j3,o6,j⟩;refine f.Bl o6 fun f=>?_;clear C;have R:=j.AD;have U:=j.AA;refine EZ Z (AH j3 121 Fi Z Z Z Z Z) ?_;rintro _ a24 ⟨b0,r9,rfl,o7,o⟩;refine f.Bl o7 fun f=>EZ Z (Ax Fi Z Z g.D (Aw underlying64 o.AE.AT Z Bg) Fh Fg) ?_;rintro a8 a25 ⟨s0,o8,g⟩;refine f.Bl o8 fun f=>?_;clear o;have a1:=g.AD;have a6:=g.AA;refine AV<|CY Z Z Z (Ap Eh Z Z ra ra Bd.D Z) ?_;rintro _ w9 ⟨Bd,k0⟩;refine f.Bl k0 fun f=>AV<|Bj Z Z Z (Ap Hw Z Z ra ra Bv.D Z) ?_;rintro _ x0 ⟨Bv,s6⟩;refine Bs ?_;exact⟨_,_,_,t.D,r.D,Bd.D,Bv,j.D,g.D,J.D⟩
     refine EM Z (AH j2 121 Fi Z Z Z Z Z) ?_;rintro _ x1 ⟨b0,p9,rfl,k1,o⟩;refine f.Bl k1 fun f=>EZ Z (Ax Ch Z Z j.D (Aw underlying37 C.D.AE.AT Z Bg) Fh Fg) ?_;rintro a7 x2 ⟨q0,k2,j⟩;refine f.Bl k2 fun f=>?_;clear C;have R:=j.AD;have U:=j.AA;refine EZ Z (Ax Fi Z Z g.D (Aw underlying64 o.D.AE.AT Z Bg) Fh Fg) ?_;rintro a8 x3 ⟨q1,k3,g⟩;refine f.Bl k3 fun f=>?_;clear o;have a1:=g.AD;have a6:=g.AA;refine AV<|CY Z Z Z (Ap Eh Z Z ra ra Bd.D Z) ?_;rintro _ x4 ⟨Bd,k4⟩;refine f.Bl k4 fun f=>AV<|Bj Z Z Z (Ap Hw Z Z ra ra Bv.D Z) ?_;rintro _ x5 ⟨Bv,s7⟩;refine Bs ?_;exact⟨_,_,_,t.D,r.D,Bd.D,Bv,j.D,g.D,J.D⟩
    refine EM Z (AH d 121 Fi Z Z Z Z Z) ?_;rintro _ x6 ⟨b0,h8,rfl,k5,o⟩;refine f.Bl k5 fun f=>EZ Z (AH h8 117 Ch Z Z Z Z Z) ?_;rintro _ x7 ⟨b6,q2,rfl,k6,C⟩;refine f.Bl k6 fun f=>EZ Z (Ax Ch Z Z j.D (Aw underlying37 C.AE.AT Z Bg) Fh Fg) ?_;rintro a7 x8 ⟨q3,k7,j⟩;refine f.Bl k7 fun f=>?_;clear C;have R:=j.AD;have U:=j.AA;refine EZ Z (Ax Fi Z Z g.D (Aw underlying64 o.D.AE.AT Z Bg) Fh Fg) ?_;rintro a8 x9 ⟨q4,k8,g⟩;refine f.Bl k8 fun f=>?_;clear o;have a1:=g.AD;have a6:=g.AA;refine AV<|CY Z Z Z (Ap Eh Z Z ra ra Bd.D Z) ?_;rintro _ y0 ⟨Bd,k9⟩;refine f.Bl k9 fun f=>AV<|Bj Z Z Z (Ap Hw Z Z ra ra Bv.D Z) ?_;rintro _ y1 ⟨Bv,s8⟩;refine Bs ?_;exact⟨_,_,_,t.D,r.D,Bd.D,Bv,j.D,g.D,J.D⟩
   ·refine EM Z (AH d 117 Ch Z Z Z Z Z) ?_;rintro _ y2 ⟨b6,c8,rfl,l0,C⟩;refine f.Bl l0 fun f=>Ck ?_ ?_
    ·refine EM Z (Cs (Al Eh Z Bd.D.AE Z)) ?_;rintro _ _ ⟨rfl,rfl⟩;refine⟨id,?_⟩;refine Ck ?_ ?_
     ·refine EM Z (Ax Ch Z Z j.D (Aw underlying37 C.AE.AT Z Bg) Fh Fg) ?_;rintro a7 y3 ⟨h9,l1,j⟩;refine f.Bl l1 fun f=>?_;clear C;have R:=j.AD;have U:=j.AA;refine EZ Z (AH h9 121 Fi Z Z Z Z Z) ?_;rintro _ y4 ⟨b0,q5,rfl,l2,o⟩;refine f.Bl l2 fun f=>EZ Z (Ax Fi Z Z g.D (Aw underlying64 o.AE.AT Z Bg) Fh Fg) ?_;rintro a8 y5 ⟨q6,l3,g⟩;refine f.Bl l3 fun f=>?_;clear o;have a1:=g.AD;have a6:=g.AA;refine AV<|CY Z Z Z (Ap Eh Z Z ra ra Bd.D Z) ?_;rintro _ y6 ⟨Bd,l4⟩;refine f.Bl l4 fun f=>AV<|Bj Z Z Z (Ap Hw Z Z ra ra Bv.D Z) ?_;rintro _ y7 ⟨Bv,s9⟩;refine Bs ?_;exact⟨_,_,_,t.D,r.D,Bd.D,Bv,j.D,g.D,J.D⟩
     refine EM Z (AH c8 121 Fi Z Z Z Z Z) ?_;rintro _ y8 ⟨b0,q7,rfl,l5,o⟩;refine f.Bl l5 fun f=>EZ Z (Ax Ch Z Z j.D (Aw underlying37 C.D.AE.AT Z Bg) Fh Fg) ?_;rintro a7 z1 ⟨q8,l6,j⟩;refine f.Bl l6 fun f=>?_;clear C;have R:=j.AD;have U:=j.AA;refine EZ Z (Ax Fi Z Z g.D (Aw underlying64 o.D.AE.AT Z Bg) Fh Fg) ?_;rintro a8 z6 ⟨q9,l7,g⟩;refine f.Bl l7 fun f=>?_;clear o;have a1:=g.AD;have a6:=g.AA;refine AV<|CY Z Z Z (Ap Eh Z Z ra ra Bd.D Z) ?_;rintro _ zJ ⟨Bd,l8⟩;refine f.Bl l8 fun f=>AV<|Bj Z Z Z (Ap Hw Z Z ra ra Bv.D Z) ?_;rintro _ z7 ⟨Bv,u1⟩;refine Bs ?_;exact⟨_,_,_,t.D,r.D,Bd.D,Bv,j.D,g.D,J.D⟩
    refine EM Z (AH c8 121 Fi Z Z Z Z Z) ?_;rintro _ z8 ⟨b0,r0,rfl,l9,o⟩;refine f.Bl l9 fun f=>EZ Z (Cs (Al Eh Z Bd.D.AE Z)) ?_;rintro _ _ ⟨rfl,rfl⟩;refine⟨id,?_⟩;refine EZ Z (Ax Ch Z Z j.D (Aw underlying37 C.D.AE.AT Z Bg) Fh Fg) ?_;rintro a7 a00 ⟨r1,n0,j⟩;refine f.Bl n0 fun f=>?_;clear C;have R:=j.AD;have U:=j.AA;refine EZ Z (Ax Fi Z Z g.D (Aw underlying64 o.D.AE.AT Z Bg) Fh Fg) ?_;rintro a8 a01 ⟨r2,n1,g⟩;refine f.Bl n1 fun f=>?_;clear o;have a1:=g.AD;have a6:=g.AA;refine AV<|CY Z Z Z (Ap Eh Z Z ra ra Bd.D Z) ?_;rintro _ a02 ⟨Bd,n2⟩;refine f.Bl n2 fun f=>AV<|Bj Z Z Z (Ap Hw Z Z ra ra Bv.D Z) ?_;rintro _ a03 ⟨Bv,u2⟩;refine Bs ?_;exact⟨_,_,_,t.D,r.D,Bd.D,Bv,j.D,g.D,J.D⟩
   refine EM Z (AH d 121 Fi Z Z Z Z Z) ?_;rintro _ a04 ⟨b0,c9,rfl,n3,o⟩;refine f.Bl n3 fun f=>Ck ?_ ?_
   ·refine EM Z (Cs (Al Eh Z Bd.D.AE Z)) ?_;rintro _ _ ⟨rfl,rfl⟩;refine⟨id,?_⟩;refine EZ Z (AH c9 117 Ch Z Z Z Z Z) ?_;rintro _ a05 ⟨b6,r3,rfl,n4,C⟩;refine f.Bl n4 fun f=>EZ Z (Ax Ch Z Z j.D (Aw underlying37 C.AE.AT Z Bg) Fh Fg) ?_;rintro a7 a06 ⟨r4,n5,j⟩;refine f.Bl n5 fun f=>?_;clear C;have R:=j.AD;have U:=j.AA;refine EZ Z (Ax Fi Z Z g.D (Aw underlying64 o.D.AE.AT Z Bg) Fh Fg) ?_;rintro a8 a07 ⟨r5,n6,g⟩;refine f.Bl n6 fun f=>?_;clear o;have a1:=g.AD;have a6:=g.AA;refine AV<|CY Z Z Z (Ap Eh Z Z ra ra Bd.D Z) ?_;rintro _ a08 ⟨Bd,n7⟩;refine f.Bl n7 fun f=>AV<|Bj Z Z Z (Ap Hw Z Z ra ra Bv.D Z) ?_;rintro _ a09 ⟨Bv,u4⟩;refine Bs ?_;exact⟨_,_,_,t.D,r.D,Bd.D,Bv,j.D,g.D,J.D⟩
   refine EM Z (AH c9 117 Ch Z Z Z Z Z) ?_;rintro _ a10 ⟨b6,r6,rfl,n8,C⟩;refine f.Bl n8 fun f=>EZ Z (Cs (Al Eh Z Bd.D.AE Z)) ?_;rintro _ _ ⟨rfl,rfl⟩;refine⟨id,?_⟩;refine EZ Z (Ax Ch Z Z j.D (Aw underlying37 C.AE.AT Z Bg) Fh Fg) ?_;rintro a7 a11 ⟨r7,n9,j⟩;refine f.Bl n9 fun f=>?_;clear C;have R:=j.AD;have U:=j.AA;refine EZ Z (Ax Fi Z Z g.D (Aw underlying64 o.D.AE.AT Z Bg) Fh Fg) ?_;rintro a8 a12 ⟨r8,o0,g⟩;refine f.Bl o0 fun f=>?_;clear o;have a1:=g.AD;have a6:=g.AA;refine AV<|CY Z Z Z (Ap Eh Z Z ra ra Bd.D Z) ?_;rintro _ a13 ⟨Bd,o1⟩;refine f.Bl o1 fun f=>AV<|Bj Z Z Z (Ap Hw Z Z ra ra Bv.D Z) ?_;rintro _ a14 ⟨Bv,u5⟩;refine Bs ?_;exact⟨_,_,_,t.D,r.D,Bd.D,Bv,j.D,g.D,J.D⟩
  clear t r Bd Bv j g J;rintro s4 a26 ⟨s3,c6,c7,t,r,Bd,Bv,j,g,J⟩;refine⟨_,J,t,r,_,_,Bd,Bv,?_,?_⟩
  ·rw[ft,Aaf];exact j
  rw[ft,Aaf];exact g
 ·clear t r hu AR Bd Bv j g c4 c5 b7 b9;rintro p8 d B ⟨t,r,v4,b1,Bd,Bv,j,g⟩ j9;have p2:=r.AE;rw[Aap,e9,nk,←OY P.A P.s x] at j;rw[Aap,e9,nj,←OX P.A P.s x] at g;have R:=j.AD;have U:=j.AA;have a1:=g.AD;have a6:=g.AA;refine Ag<|AM d [] [0,0,0,1,1,1,2,0,0,0,3,0] [0,1,2,3,4,5,6,7,8,9,10,11] fun a16 o2 f=>?_;have e4:=Bd;have e5:=Bv;have e6:=p2;refine Bm Z Z<|AN Z (Ak Z)<|AN Z (Aa FR Z)<|vc Z f.kp (fun W p0=>ES CP Z (e6.D.kp p0 Z).AE (Aat Z))<|vc Z f.kp (e4.D.kb Eh Z Z)<|vc Z f.kp (e5.D.kb Hw Z Z) ?_;refine Db Z (Ac d 7 (Ab xk Z (ni (L:=KC P.A P.s x) (bs:=Hd P.A P.s x) hs (Im j.D (by rw[OY];omega) (fun y hy↦by obtain⟨i,_,rfl⟩:=Aag.1 hy;have:=nh (A:=P.A) (s:=P.s) (x:=x) (i:=i);omega)).AB (MG g.D (by rw[OX];omega)).AB (OY _ _ _) (OX _ _ _) (fun i j6 j7 j8↦Tk i j6 j7 j8)))) ?_;rintro v30 a17 ⟨j1,e1,p7,⟨w8,rfl,b2⟩⟩;refine f.Bl e1 fun f=>?_;replace b2:=b2.Du p7;have v7:=b2.AD;have v8:=b2.AA;refine Bm Z Z<|AN Z (Aq Z Z)<|AN Z (Aq Z Z)<|LG Z (Ap Eh Z Z ra ra Bd.D Z) ?_;rintro _ a18 ⟨Bd,o3⟩;refine Ir Z Z<|AP ?_;clear e4 e5 e6;clear f;refine Ag<|AM j1 [104] [2,1,0,0,2,3,0] [1,2,3,0,4,5,6] fun a19 o4 f=>?_;refine vc Z f.kp (Bv.D.kb Hw Z Z)<|Bm Z Z<|AN Z (BO Z Z)<|Db Z (Cs (Al Eh Z Bd.D.AE Z)) ?_;rintro _ _ ⟨rfl,rfl⟩;refine⟨id,?_⟩;refine Kb Z Z Z (Ap Eh Z Z ra ra Bd.D Z) ?_;rintro _ a20 ⟨Bd,e2⟩;refine f.Bl e2 fun f=>LG Z (Ap Hw Z Z ra ra Bv.D Z) ?_;rintro _ a21 ⟨Bv,e3⟩;try replace f:=f.tr e3 Z
  refine Ir Z Z<|AP ?_;clear f;obtain⟨o9,u7⟩:=((((((j9.D o2).D e1).D o3).D o4).D e2).D e3).take;refine Up Z Z o9 (IR Eh Z Bd.D.AE Z) (IR Hw Z Bv.D.AE Z) (FD.tmp Z) ?_;have j5:decide ((if(Sf P.s (KC P.A P.s x) (Hd P.A P.s x)).isSome=true then(0:Int) else 8)=0)=(JG P.A P.s x).isSome:=by
   rw[JG];cases(Sf P.s (KC P.A P.s x) (Hd P.A P.s x)).isSome<;>rfl
  refine⟨t.D.below,_,_,?_,g.D.uC t.D,b2.D.uC t.D⟩;rw[j5]
 ·intro p hp;simp at hp
 exact fun _ _ _ _ h=>h.elim
theorem Vs{m:Mx}{l:List Tx}(g:m.ok)(hc:m.c≤l.length)(p:1≤m.c)(o:∀x∈l,x.length=n):(JB m l).length=m.r∧∀x∈JB m l,x.length=n:=by
 refine⟨by simp[JB],fun x hx=>?_⟩;obtain⟨i,hi,rfl⟩:=Aag.1 hx;rw[Aax] at hi;have hg:∀k,k<m.c→(l.getD k []).length=n:=fun k O=>by
  rw[hk,dd G];exact o _ (mv G)
 refine JH _ _ _ (by rw[Iz];exact hg 0 G) fun j _ f=>?_;rw[Hp g hi] at f;rw[hg j G];exact kM _
theorem nn{L:List Tx}{Ojq:List Tx}(h:Small z)(C:x.length=z.k+z.m)(a1:L.length=z.k+z.m)(hs:∀(i:Nat) (R:i<x.length) (U:i<L.length),x[i]=true→L[i].length=z.size)(hO:Sf z L x=some Ojq):Ojq.length=z.k+z.m∧∀bs∈Ojq,bs.length=z.size:=by
 unfold Sf at hO;split at hO
 ·cases hO
 ·rename_i r;injection hO with hO;subst hO;have j:=Rv x z.k 0;have p:=My x z.k 0;have f:=XD h C;have o:=Sn x z.k 0;obtain⟨H,g⟩:∃H,H=Dl z.k 0 x:=⟨_,Z⟩;rw[←g] at r j p f o⊢;have g:H.length=z.k:=G;have f:=f g;obtain⟨t,g2,p⟩:=Sl h;have I:=mH h (fun i hi=>by have:=j i hi;omega) g;have r:=Zt I f;obtain⟨I,f,J⟩:=bE r p g2;obtain⟨p,r⟩:=Vs (m:=Me (Hr z.k z.m) (HG (IY (Hr z.k z.m) H))) (l:=H.map fun i=>L.getD i []) (n:=z.size) J (by rw[f,kr,g];exact kM _) (by rw[f];exact h.1) (fun bs hx=>by
   obtain⟨k,O,rfl⟩:=Aag.1 hx;have f:=j k O;have f:=o k O;rw[Ag2] at f;obtain⟨g,j⟩:=kJ.1 f;have hc:=hs k g G j;rw[hk,dd G];exact hc)
  exact⟨by rw[p,I,t],r⟩
theorem jg{x:CV}{Ojq:List Tx}(h:Small z)(hO:JG F z x=some Ojq):Ojq.length=z.k+z.m∧∀y∈Ojq,y.length=z.size:=
 nn h (OX _ _ _) (OY _ _ _) (fun i f g j=>Tk i f g j) hO
theorem np{A:CS}{s:CO}{b:Bk}{t:Tx}(f:k<l.length):TE A s b t (l.drop k)=match OP A s b l[k] with
 |none=>none
 |some u=>TE A s b (t++u) (l.drop (k+1)):=by
 rw[Aav f,TE];rfl
theorem ew{A:CS}{s:CO}{b:Bk}{x:CV}(f:Ib b.Ae p=some k)(g:b.Ae[k]?=some x):OP A s b p=match JG A s x with
 |none=>none
 |some l=>Pt s (l.take s.k) x.len:=by
 rw[OP,f];dsimp only;rw[g];rfl
theorem jh{l:List Tx}(h:Pt z l p=some W):W.length≤z.k*z.size:=by
 unfold Pt at h;split at h
 ·rename_i f;injection h with h;rw[←h,kL];omega
 ·cases h
theorem Vt{p:Nat}{P:HQ}{n m:Nat}{d:Tx}(hp:WA c w p P)(hs:Small P.s)(h4:GR n m P.A)(h9:SX P.A)(a6:Ek P.s P.b=true):
 Calls QP 23 #[P1 p,St d] w (Bt fun v w'=>AZ w w'∧v= .tuple #[St (Ny P.A P.s P.b d).1,I (Ny P.A P.s P.b d).2]):=by
 obtain⟨pa,pj,vS,vT,vG,g⟩:=hp;have r:=DD.start c w DA;replace g:=g.Dt (K:=DA);generalize Bw c DA=c0 at r g;have R:=g.AE;have b2:=g.bk.s;have b8:=g.bk.t;have e7:=g.bk.s.AB.AD;have e8:=g.bk.t.AB.AD;have e9:=g.bk.g.AB.AD;obtain⟨j9,k0,n5,k1,k2⟩:=id hs;obtain⟨Qjq,b0⟩:∃Qjq,Qjq=P.s.k*P.s.size:=⟨_,Z⟩;have l4:Qjq≤360:=by rw[b0];exact WO k0 k2
 refine AY 94 #[.tmp 4, .tmp 5] func23 Z<|Q<|za Z<|V Z<|Q<|M Z<|E (Ak Z)<|E (Aa DK Z)<|E (ES Fy Z R.AE (Aat Z))<|M Z<|ve (Ac c0 1 (Ab pH Z (OW (n:=P.b.next) (d:=d) b8.AB e7 e8 e9 (IE a6)))) ?_;rintro n6 w1 ⟨c1,h5,l5,rfl⟩;refine M Z<|E (Aq Z Z)<|E (Aq Z Z)<|za Z<|V Z<|Ag<|Q<|M Z<|E (BL Z)<|Ah<|BA Z (fun b4=>?_) fun b4=>?_
 ·have e:Ny P.A P.s P.b d=([],3):=by
   have a1:P.b.AQ.findIdx? (fun e=>e.AK==d)=none:=by
    cases h:Vp P.b.AQ d with
    |none=>exact h
    |some i=>rw[h] at b4;simp at b4
   rw[Ny,a1]
  refine Q<|za Z<|V Z<|BR Z Z Z ?_;exact⟨r.D.below,by rw[e]⟩
 obtain⟨i,hi⟩:=Ach.1 (show(Vp P.b.AQ d).isSome=true by simpa using b4);have j3:=OU (IE a6) hi;obtain⟨c4,_,_⟩:=WM.1 hi;rw[j3];obtain⟨f,b7⟩:∃f,f=P.b.AQ[i]:=⟨_,Z⟩;have e2:f∈P.b.AQ:=by rw[b7];exact mv c4
 have c9:Ny P.A P.s P.b d=match TE P.A P.s P.b [] f.list with
  |none=>([],8)
  |some t=>(t,0):=by
  have a1:P.b.AQ.findIdx? (fun e=>e.AK==d)=some i:=hi;rw[Ny,a1];dsimp only;rw[List.getElem?_eq_getElem c4,←b7];rfl
 have k8:f.list.length≤100000:=by
  obtain⟨_,k6,k7,h3,_⟩:=Oi (El a6).2.2.1 f e2;rw[h3,BI,←b0];have l3:1≤Qjq:=by rw[b0];exact WO j9 k1
  have:=Afb (f.len.toNat+Qjq-1) Qjq;omega
 obtain⟨h0,c3,U,_⟩:=PS (b8.D h5) c4;rw[←b7] at c3 U;have n3:=U.AB.AD;refine As<|Q<|V Z<|Ag<|Q<|M Z<|E (Ak Z)<|E (Aa DK Z)<|E (Aa Ev Z)<|E (Al HI Z R.D.AE Z)<|M Z<|E (Cv Ge) ?_;refine E (Bn Hv Z)<|E (FF BQ Z c3.DF Z)<|E (BN BM) ?_;refine M Z<|Ah<|An<|AG (σ:=Nat×Tx) (fun J=>[(0,P1 p),(8,St J.2),(38,h0),(39,I f.list.length),(40,I J.1)]) (fun J w'=>(J.1≤f.list.length∧J.2.length≤400*J.1∧TE P.A P.s P.b [] f.list=TE P.A P.s P.b J.2 (f.list.drop J.1))∧∃c',DD c w DA c' w'∧DM c' w' p pa pj vS vT vG P∧Bu Cg c' w' [94] h0 f.list) (fun J=>f.list.length-J.1) (0,[]) AL ⟨⟨Nat.zero_le _,by simp,Z⟩,_,r.D,g.D,U⟩ ?_;clear r g R b2 b8 c3 U;rintro⟨j,t⟩ o7 ⟨⟨j2,j7,b5⟩,h2,r,g,U⟩;dsimp only at j2 j7 b5 r g U;have R:=g.AE;have b2:=g.bk.s;refine Q<|E (AX Z Z)<|Ah<|Ag<|BA Z (fun j1=>?_) fun j1=>?_
 ·have c5:j<f.list.length:=G;have j0:=(Co U c5 AO).1;obtain⟨k,O⟩:=bi a6 e2 (mv c5);have j4:=Iw (JF a6) O;obtain⟨c6,_,_⟩:=WM.1 O;have j5:=fun(x:CV) (h:P.b.Ae[k]?=some x)↦ew (A:=P.A) (s:=P.s) O h;have C:=np (A:=P.A) (s:=P.s) (b:=P.b) (t:=t) c5;rw[←b5] at C;refine As<|Ag<|An<|Q<|E (Cv BM) ?_;refine E (Cc AF Z j0.DF)<|V Z<|Q<|M Z<|E (Ak Z)<|E (Aa DK Z)<|E (ES Fy Z R.AE (Aat Z))<|M Z<|ve (Ac h2 1 (Ab ls Z (Lq (n:=P.b.next) (d:=f.list[j]) b2.AB e7 e8 e9 (JF a6)))) ?_;rintro n7 w2 ⟨c2,h6,l6,rfl⟩;rw[j4];obtain⟨x,hx⟩:∃x,x=P.b.Ae[k]:=⟨_,Z⟩;have e5:=(IC a6 x (by rw[hx];exact mv c6)).1;obtain⟨u,e3,c8,_⟩:=GK (b2.D h6) c6;rw[←hx] at e3 c8;have n4:=c8.AB.AD;have j6:=j5 x (by rw[dd c6,hx]);rw[j6] at C;refine M Z<|E (Aq Z Z)<|E (Aq Z Z)<|za Z<|V Z<|Q<|M Z<|E (Ak Z)<|E (Aa DK Z)<|E (Aa CA Z)<|E (Al Ei Z R.D.AE Z)<|M Z<|E (Cv Di) ?_;refine E (DT Cn Z e3.DF Z)<|EK c2 113 HF fun o2 k4 h1 k9 b1=>?_;refine Av (Am Cn Z Z b1 Z Z Bg) ?_;rintro _ o3 ⟨b1,l0⟩;refine Ah<|Q<|M Z<|E (Ba Cn Z b1.AE Z)<|ve (Ac h1 10 (Ab aag Z (nm ⟨pa,pj,vS,vT,vG,g.D⟩ hs h4 h9 c8.D.AB e5))) ?_;rintro n8 o4 ⟨e1,l1,e4,⟨o1,o0,rfl,b6,a7⟩⟩;replace b6:=b6.Du e4;replace a7:=a7.Du e4;have l9:=a7.AD;have n0:=a7.AA;have n1:=b6.AD;have n2:=b6.AA;refine M Z<|E (Aq Z Z)<|E (Aq Z Z)<|E (Aq Z Z)<|za Z<|za Z<|V Z<|Ag<|Q<|M Z<|E (BL Z)<|Ah<|BA Z (fun b3=>?_) fun b3=>?_
  ·have a1:JG P.A P.s x=none:=by
    cases h:JG P.A P.s x with
    |none=>rfl
    |some l=>rw[h] at b3;simp at b3
   rw[a1] at C;refine Q<|za Z<|V Z<|BR Z Z Z ?_;exact⟨r.D.below,by rw[c9,C]⟩
  obtain⟨e0,hO⟩:=Option.isSome_iff_exists.1 (show(JG P.A P.s x).isSome=true by simpa using b3);obtain⟨l8,e6⟩:=jg hs hO;rw[hO] at C a7;obtain⟨k3,q0,rfl,f1,f2⟩:=a7.own.ta;obtain⟨o8,o9,p0,x4,p1,p2⟩:=CI e5;refine As<|Ag<|AM e1 [] [0,0,0,1,0,0,0,0,0,1,0,0,1,2,0,0,0,0,0] [0,1,2,3,4,5,6,7,8,9,10,11,12,13,14,15,16,17,18] fun o5 l2 a8=>?_;refine Bm Z Z<|AN Z (Ak Z)<|AN Z (Aa FR Z)<|vc Z a8.kp (fun W h8=>ES CP Z (R.D.kp h8 Z).AE (Nat.le_of_ble_eq_true Z))<|Bm Z Z<|Bm Z Z<|AN Z (Ak Z)<|AN Z (Aa FR Z)<|AN Z (Aa CN Z) ?_;refine vc Z a8.kp (R.D.kb AF Z Z)<|AN Z (MV Ch Z Z G (by simp only[Option.getD_some] at f1;omega))<|AN Z (Aa HW Z)<|vc Z a8.kp (b1.D.kb AF Z Z) ?_;refine Db Z (Ac e1 1 (Ab aah Z (na (L:=e0.take P.s.k) (n:=x.len) hs.ok (FC.part (lo:=0) (hi:=P.s.k) (Im a7.D (by simp only[Option.getD_some];omega) (fun y hy↦by rw[e6 y hy];omega)).AB G (by simp only[Option.getD_some];omega)) (HO.sub f2 (by simp only[Option.getD_some];omega)) (by rw[List.length_take];omega) (fun y hy↦e6 y (List.mem_of_mem_take hy)) G x4))) ?_;rintro n9 o6 ⟨k5,h7,l7,rfl⟩;refine a8.Bl h7 fun a8=>?_;obtain⟨o,c7⟩:∃o,o=Pt P.s (e0.take P.s.k) x.len:=⟨_,Z⟩;dsimp only at C;rw[←c7] at C;rw[←c7];refine Bm Z Z<|AN Z (Aq Z Z)<|AN Z (Aq Z Z)<|Ir Z Z<|Ir Z Z<|AP ?_;clear a8;refine Ag<|Q<|M Z<|E (BK Z Z)<|Ah<|BA Z (fun b9=>?_) fun b9=>?_
  ·have a1:o=none:=by
    cases o with
    |none=>rfl
    |some l=>simp at b9
   rw[a1] at C;refine Q<|za Z<|V Z<|BR Z Z Z ?_;exact⟨r.D.below,by rw[c9,C]⟩
  obtain⟨y,rfl⟩:∃y,o=some y:=by
   cases o with
   |none=>simp at b9
   |some l=>exact⟨l,Z⟩
  have j8:=jh c7.symm;rw[←b0] at j8;refine As<|cg<|M Z<|M Z<|E (dE Z Z (by simp only[Option.getD_some];omega))<|V Z<|cg<|E (Bc Z Z Ai Ai) ?_;refine M Z<|Ah ?_;exact⟨(j+1,t++y),AL,⟨⟨by dsimp only;omega,by dsimp only;rw[List.length_append];omega,C⟩,_,r.D,g.D,U.D⟩,by show f.list.length-(j+1)<f.list.length-j;omega⟩
 have e:f.list.drop j=[]:=Abn G;rw[e,TE] at b5
 refine Az Z<|Q<|M Z<|za Z<|V Z<|BR Z Z Z ?_;exact⟨r.below,by rw[c9,b5]⟩
structure ZB (c:Nat→Nat) (w:World) (J:List Nat) (vs:List Value) (F:List (List Int)):Prop where
 len:vs.length=F.length
 row:∀(j:Nat) (v:Value) (l:List Int),vs[j]?=some v→F[j]?=some l→Bu Cg c w J v l
structure KD (c:Nat→Nat) (w:World) (vL vF:Value) (liveQ:List Bool) (F:List (List Int)):Prop where
 kQ:AJ c w 130 4 1 vL liveQ.length (liveQ.map .bool)
 row:∃vs,AJ c w 131 23 1 vF F.length vs∧ZB c w [132] vs F
section
variable {c c':Nat→Nat} {w w':World} {J I:List Nat} {vs:List Value} {F:List (List Int)} {vL vF:Value} {liveQ:List Bool}
theorem ZB.D(h:ZB c w J vs F)(m:Mv c w c' w' I:=by exact Go.Eng.KU)(hi:BB J I=true:=by rfl):ZB c' w' J vs F:=⟨h.len,fun j v l f g=>EA.D (h.row j v l f g) m hi⟩
theorem ZB.set(h:ZB c w J vs F)(hv:Bu Cg c w J a l):ZB c w J (vs.set k a) (F.set k l):=⟨by rw[Yy,Yy];exact h.len,fun j u p g f=>by
 rcases HA g with⟨rfl,rfl,_⟩|⟨i,g⟩
 ·rcases HA f with⟨_,rfl,_⟩|⟨o,_⟩
  ·exact hv
  ·exact absurd Z o
 ·rcases HA f with⟨e,_,_⟩|⟨_,f⟩
  ·exact absurd e i
  ·exact h.row j u p g f⟩
theorem KD.D(h:KD c w vL vF liveQ F)(m:Mv c w c' w' I:=by exact Go.Eng.KU)(hi:BB [130,131,132] I=true:=by rfl):KD c' w' vL vF liveQ F:=by
 obtain⟨vs,f,g⟩:=h.row;exact⟨h.kQ.D m (BD hi Bb),vs,f.D m (BD hi Bb),g.D m (CC hi Bb)⟩
theorem ji(l:List Bool):l.flatMap (fun x=>[Value.bool x])=l.map .bool:=by
 induction l with
 |nil=>rfl
 |cons a l f=>rw[Aaa,f];rfl
theorem nq(vs:List Value):(vs.map fun v=>[v]).flatten=vs:=by
 induction vs with
 |nil=>rfl
 |cons a l f=>rw[Aci,Abc,f];rfl
theorem KD.tm(h:KD c w vL vF liveQ F)(p:F.length≤1048576):Bu KQ c w [131,132] vF F:=by
 obtain⟨vs,f,g,i⟩:=h.row;refine AJ.rd (css:=vs.map fun v=>[v]) (by rw[nq];exact f) G (by rw[kr,g]) (by rfl) fun k cs x O hx=>?_;rw[Aah] at O;obtain⟨v,hv,rfl⟩:=Abm.1 O;refine HM.imp (HM.mono (i k v x hv hx) fun j _ l=>?_) fun w' _ o=>⟨v,Z,o⟩;have:c j=132:=Mm.1 l;show AU [131,132] (c j)=true
 rw[this];rfl
theorem KD.uK(h:KD c w vL vF liveQ F)(f:liveQ.length≤1048576):Bu DW c w [130] vL liveQ:=MG h.kQ f
end
def gU(c:Nat→Nat)(w:World)(f:FuncId)(g:Array Value)(q:Int→Int→Int)(xs:List Int):Prop:=
 ∀(c':Nat→Nat) (w':World) (x y:Int),Mv c w c' w' [135]→x∈xs→y∈xs→Calls QP f (#[I x,I y]++g) w' (Bt fun u w''=>AZ w' w''∧u=I (q x y))
theorem nr{r:Array Value}{q:Int→Int→Int}(xs:AJ c w 135 3 1 a n (l.map I))(hx:l.length=n)(b5:n≤12)(hf:Aj QP S=true)(b4:gU c w S r q l):
 Calls QP 321 #[a,I 0,I n, .func (.func S) #[] r] w (Bt fun _ w'=>∃c',Mv c w c' w' [135]∧∃ys:List Int,ys.Perm l∧AJ c' w' 135 3 1 a n (ys.map I)):=by
 have hJ:=BE.start c w [135];replace xs:=xs.Dt (J:=[135]) Z;rcases Aa6 n with p|p
 ·subst p;have o:l=[]:=rY hx;subst o;refine AY 53 #[] func321 Z<|Q<|M Z<|E (Bc Z Z Ai Ai)<|V Z<|An ?_;refine AG (σ:=Unit) (fun _=>[(0,a),(1,I 0),(2,I 0),(3, .func (.func S) #[] r),(8,I 1)]) (fun _ w'=>∃c',BE c w [135] c' w'∧AJ c' w' 135 3 1 a 0 []) (fun _=>0) () AL ⟨_,hJ,xs⟩ ?_;rintro _ C ⟨t,hJ,xs⟩;refine Ag<|Q<|M Z<|M Z<|E (AX Z Z)<|Ah<|Cz Z (fun o=>?_) fun o=>?_
  ·exact absurd o AO
  refine Az Z<|⟨_,_,Z,Z,?_⟩;exact⟨Z,_,hJ.out,[],List.Perm.refl _,xs.out hJ Z⟩
 obtain⟨g,cp,rfl,R,R⟩:=xs.CT p;generalize Bw c [135]=c0 at hJ xs;refine AY 53 #[] func321 Z<|Q<|M Z<|E (Bc Z Z Ai Ai)<|V Z<|An ?_;refine AG (σ:=Nat) (fun i=>[(0, .slice (some ⟨g,0,none⟩) n cp),(1,I 0),(2,I n),(3, .func (.func S) #[] r),(8,I i)]) (fun i w'=>i≤n∧∃c' ys,ys.Perm l∧BE c w [135] c' w'∧AJ c' w' 135 3 1 (.slice (some ⟨g,0,none⟩) n cp) n (ys.map I)) (fun i=>n-i) 1 AL ⟨G,_,l,List.Perm.refl _,hJ,xs⟩ ?_;rintro i C ⟨hi,t,ys,hp,hJ,xs⟩;refine Ag<|Q<|M Z<|M Z<|E (AX Z Z)<|Ah<|BA Z (fun o=>?_) fun o=>?_
 ·have o:i<n:=G;refine As<|Ag<|An<|Q<|M Z<|V Z<|An<|AG (σ:=Nat) (fun j=>[(0, .slice (some ⟨g,0,none⟩) n cp),(1,I 0),(2,I n),(3, .func (.func S) #[] r),(8,I i),(9,I j)]) (fun j w'=>j≤i∧∃c' ys,ys.Perm l∧BE c w [135] c' w'∧AJ c' w' 135 3 1 (.slice (some ⟨g,0,none⟩) n cp) n (ys.map I)) (fun j=>j) i AL ⟨G,_,ys,hp,hJ,xs⟩ ?_;rintro j o ⟨o,R,p,hp,hJ,xs⟩;have a8:p.length=n:=by rw[hp.length_eq,hx]
  have a6:j<p.length:=G;have a7:j-1<p.length:=G;have o:=xs;rw[←a8] at o;have t:=o.XF a6;have C:=o.XF a7;obtain⟨v,U⟩:∃v,v=p[j]:=⟨_,Z⟩;obtain⟨b,a1⟩:∃b,b=p[j-1]:=⟨_,Z⟩;have b1:v∈l:=hp.mem_iff.1 (by rw[U];exact mv a6);have b3:b∈l:=hp.mem_iff.1 (by rw[a1];exact mv a7);rw[←U] at t;rw[←a1] at C;rw[a8] at t C;refine Ag<|Ag<|AM R [] [0,0,0,0,0,0,0,0,1,0,0,0,0,1,2,0,0] [0,1,2,3,4,5,6,7,8,9,10,11,12,13,14,15,16] fun w1 a8 o=>?_;refine Bm Z Z<|Bm Z Z<|AN Z (CM Z Z)<|Bm Z Z ?_;apply Dc R true 12 _ o.kp Mq
  ·intro b0 b0;have b2:0<j:=G;refine Bm Z Z<|Bm Z Z<|Bm Z Z<|AN Z (BS BM xs.D Z Z G G)<|vc Z o.kp (t.D.ke AF Z)<|Bm Z Z<|Bm Z Z<|AN Z (Gu Z Z Ai Ai)<|AN Z (BS BM xs.D Z Z G G) ?_;rw[show((j:Int)-1).toNat=j-1 by omega];refine vc Z o.kp (C.D.ke AF Z)<|Db Z (Ac R 1 (DV Z hf Z (b4 _ _ v b hJ.D.out b1 b3))) ?_;rintro R w2 ⟨c2,R,b1,rfl⟩;refine o.Bl R fun o=>AN Z (AX Z Z) ?_;exact Dd 12 b0.D
  intro R b0 R;refine AP ?_;refine BA Z (fun b1=>?_) fun b1=>?_
  ·have b2:0<j:=G;replace t:=(t.D a8).D R;replace C:=(C.D a8).D R;have R:=C;have C:=t;refine As<|Ag<|An<|WC.mono (N:=(fun e w'=>Sub [(4000000, .tuple #[]),(0, .slice (some ⟨g,0,none⟩) n cp),(1,I 0),(2,I n),(3, .func (.func S) #[] r),(8,I i),(9,I j)] e∧∃c',BE c w [135] c' w'∧AJ c' w' 135 3 1 (.slice (some ⟨g,0,none⟩) n cp) n (((p.map I).set j (I b)).set (j-1) (I v)))) ?_ ?_
   ·refine EB b0 [135] [0,0,0,0,0,0,0,0,0,2,0,0,0,2,0,2,0,3] (.Au 0 (.Au 1 (.Au 2 (.Au 3 (.Au 4 (.Au 5 (.Au 6 (.Au 7 (.Au 8 (.Au 10 (.Au 11 (.Au 12 (.two 9 (.one 13 (.Au 14 (.one 15 (.Au 16 (.one 17 .nil))))) 13 (.one 9 (.Au 14 (.one 15 (.Au 16 (.one 17 .nil)))))))))))))))))) fun t t o=>?_;refine Cd Z (Cf Z)<|Cd Z (Cf Z)<|Cd Z (Cf Z)<|Cd Z (Cf Z)<|Cd Z (Gu Z Z Ai Ai) ?_;refine Cd Z (Cf Z)<|Cd Z (Cf Z)<|Cd Z (Gu Z Z Ai Ai) ?_;refine Cd Z (BS BM xs.D Z Z G G) ?_;rw[show((j:Int)-1).toNat=j-1 by omega];refine Cd Z (Cf Z)<|Cd Z (Cf Z)<|Cd Z (BS BM xs.D Z Z G G) ?_;refine Ck ?_ ?_
    ·refine EM Z (Cs (Cc AF Z R.D.DF)) ?_;rintro _ _ ⟨rfl,rfl⟩;refine⟨id,?_⟩;refine EZ Z (Cs (Cc AF Z C.D.DF)) ?_;rintro _ _ ⟨rfl,rfl⟩;refine⟨id,?_⟩;refine Cd Z (BS BM xs.D Z Z G G) ?_;refine AV ?_;refine CY Z Z Z ((Dv (j:=j) (x:= .tmp 51) (y:= .tmp 46) (u:=I b) AF xs.D Z G (by rw[show(⟨g,j,none⟩:Addr)=Bz (.slice (some ⟨g,0,none⟩) n cp) 1 (j:Int).toNat by simp[Bz,add_lit]];rfl) Z Z Z)) ?_;rintro _ t ⟨t,t,xs⟩;refine o.Bl t fun o=>Cd Z (BS BM xs Z Z G G) ?_;rw[show((j:Int)-1).toNat=j-1 by omega];refine AV ?_;refine Bj Z Z Z ((Dv (j:=j-1) (x:= .tmp 52) (y:= .tmp 50) (u:=I v) AF xs Z G (by rw[show(⟨g,j-1,none⟩:Addr)=Bz (.slice (some ⟨g,0,none⟩) n cp) 1 (j-1) by simp[Bz,add_lit]];rfl) Z Z Z)) ?_;rintro _ t ⟨t,t,xs⟩;refine Bs ?_;exact⟨AL,_,hJ.D,xs⟩
    refine EM Z (Cs (Cc AF Z C.D.DF)) ?_;rintro _ _ ⟨rfl,rfl⟩;refine⟨id,?_⟩;refine EZ Z (Cs (Cc AF Z R.D.DF)) ?_;rintro _ _ ⟨rfl,rfl⟩;refine⟨id,?_⟩;refine Cd Z (BS BM xs.D Z Z G G) ?_;refine AV ?_;refine CY Z Z Z ((Dv (j:=j) (x:= .tmp 51) (y:= .tmp 46) (u:=I b) AF xs.D Z G (by rw[show(⟨g,j,none⟩:Addr)=Bz (.slice (some ⟨g,0,none⟩) n cp) 1 (j:Int).toNat by simp[Bz,add_lit]];rfl) Z Z Z)) ?_;rintro _ t ⟨t,t,xs⟩;refine o.Bl t fun o=>Cd Z (BS BM xs Z Z G G) ?_;rw[show((j:Int)-1).toNat=j-1 by omega];refine AV ?_;refine Bj Z Z Z ((Dv (j:=j-1) (x:= .tmp 52) (y:= .tmp 50) (u:=I v) AF xs Z G (by rw[show(⟨g,j-1,none⟩:Addr)=Bz (.slice (some ⟨g,0,none⟩) n cp) 1 (j-1) by simp[Bz,add_lit]];rfl) Z Z Z)) ?_;rintro _ o ⟨o,o,xs⟩;refine Bs ?_;exact⟨AL,_,hJ.D,xs⟩
   clear hJ xs R C;rintro o o ⟨o,t,hJ,xs⟩;refine DN o ?_;have o:(((p.map I).set j (I b)).set (j-1) (I v))=(((p.set j b).set (j-1) v)).map I:=by rw[Ab0,Ab0]
   rw[o] at xs;have o:((p.set j b).set (j-1) v).Perm l:=by rw[U,a1];exact(List.set_set_perm a6 a7).trans hp
   refine cg<|M Z<|E (Gu Z Z G G) ?_;rw[show(j:Int)-1=((j-1:Nat):Int) by omega];refine V Z ?_;exact⟨j-1,AL,⟨G,_,_,o,hJ,xs⟩,G⟩
  refine Az Z<|cg<|M Z<|E (Bc Z Z Ai Ai)<|V Z ?_;exact⟨i+1,AL,⟨G,_,_,hp,hJ.D,xs.D⟩,G⟩
 refine Az Z<|⟨_,_,Z,Z,?_⟩;exact⟨Z,_,hJ.out,ys,hp,xs.out hJ Z⟩
theorem ey{i:Array Value}{q:Int→Int→Int}(g:AJ c w 135 3 1 a n (l.map I))(hx:l.length=n)(r:n≤12)(hf:Aj QP S=true)(t:gU c w S i q l):
 Calls QP 310 #[a,I n, .func (.func S) #[] i] w (Bt fun _ w'=>∃c',Mv c w c' w' [135]∧∃ys:List Int,ys.Perm l∧AJ c' w' 135 3 1 a n (ys.map I)):=by
 refine AY 63 #[] func310 Z<|Q<|V Z<|Q<|M Z<|za Z<|V Z<|Ag<|An<|AG (σ:=Unit) (fun _=>[(0,a),(1,I n),(2, .func (.func S) #[] i),(6,I 20),(7,I 0),(8,I 20)]) (fun _ w'=>w'=w) (fun _=>0) () AL Z ?_;rintro _ C rfl;refine Ag<|Q<|M Z<|M Z<|E (Gw Z Z)<|Ah<|Cz Z (fun j=>?_) fun j=>?_
 ·simp only[YF] at j;omega
 refine Az Z<|Q<|M Z<|M Z<|M Z<|M Z<|ve (Ab yF Z (nr g hx r hf t)) ?_;rintro R w1 ⟨c1,p,⟨ys,hp,g⟩⟩;refine Ah<|An<|AG (σ:=Unit) (fun _=>[(1,I n),(6,I 20)]) (fun _ w'=>∃c',Mv c C c' w' [135]∧∃ys:List Int,ys.Perm l∧AJ c' w' 135 3 1 a n (ys.map I)) (fun _=>0) () AL ⟨_,p,ys,hp,g⟩ ?_;rintro _ U ⟨J,o,ys,hp,g⟩;refine Ag<|Q<|M Z<|M Z<|E (AX Z Z)<|Ah<|Cz Z (fun xs=>?_) fun xs=>?_
 ·simp only[YF] at xs;omega
 refine Az Z<|⟨_,_,Z,Z,?_⟩;exact⟨Z,_,o,ys,hp,g⟩
theorem ns{i:Array Value}{q:Int→Int→Int}(g:AJ c w 135 3 1 a n (l.map I))(hx:l.length=n)(xs:n≤12)(hf:Aj QP S=true)(o:gU c w S i q l):
 Calls QP 280 #[a, .func (.func S) #[] i] w (Bt fun _ w'=>∃c',Mv c w c' w' [135]∧∃ys:List Int,ys.Perm l∧AJ c' w' 135 3 1 a n (ys.map I)):=by
 refine AY 9 #[] func280 Z<|cg<|M Z<|M Z<|E (Tv BM g Z)<|M Z<|ve (Ab yD Z (ey g hx xs hf o)) ?_;rintro p w1 ⟨c1,j,⟨ys,hp,g⟩⟩;refine Ah<|⟨_,_,Z,Z,?_⟩;exact⟨Z,_,j,ys,hp,g⟩
def Nz(liveQ:List Bool)(nt:List Int)(d:Nat):Bool:=liveQ.getD d false&& !nt.contains (d:Int)
def TV(liveQ:List Bool)(F:List (List Int))(nt:List Int)(d:Nat):Bool:=Nz liveQ nt d&& !(F.getD d []).isEmpty
def Gd(liveQ:List Bool)(F:List (List Int))(nt:List Int)(k:Nat):List Nat:=(List.range k).filter (TV liveQ F nt)
def WG(liveQ:List Bool)(nt:List Int)(k:Nat):Nat:=((List.range k).filter (Nz liveQ nt)).length
def TG(F:List (List Int))(f:List Nat):List (List Int):=f.foldl (fun(F:List (List Int)) (d:Nat)=>F.set d (F.getD d []).tail) F
def Hf(F:List (List Int))(f:List Nat):List (Int×Int):=f.map fun(d:Nat)=>((d:Int),(F.getD d []).headD 0)
theorem Qa(liveQ:List Bool)(F:List (List Int))(nt:List Int)(k:Nat):Gd liveQ F nt (k+1)=if TV liveQ F nt k=true then Gd liveQ F nt k++[k] else Gd liveQ F nt k:=by
 rw[Gd,Abf,Acp,Gd];cases h:TV liveQ F nt k<;>simp[h]
theorem XQ(liveQ:List Bool)(nt:List Int)(k:Nat):WG liveQ nt (k+1)=if Nz liveQ nt k=true then WG liveQ nt k+1 else WG liveQ nt k:=by
 rw[WG,Abf,Acp,WG];cases h:Nz liveQ nt k<;>simp[h]
theorem jj(liveQ:List Bool)(F:List (List Int))(nt:List Int)(k:Nat):(Gd liveQ F nt k).length≤k:=by
 have:=Aa0 (TV liveQ F nt) (List.range k);rwa [Aap] at this
theorem Ot(liveQ:List Bool)(F:List (List Int))(nt:List Int)(k:Nat):(Gd liveQ F nt k).Nodup:=(Adv (p:=TV liveQ F nt)).nodup List.nodup_range
theorem MH:m∈Gd x q l k↔m<k∧TV x q l m=true:=by simp[Gd]
theorem RA(f:List Nat):∀F:List (List Int),(TG F f).length=F.length:=by
 induction f with
 |nil=>exact fun _=>rfl
 |cons d f g=>exact fun F=>by rw[TG,Afd];show(TG _ f).length=_;rw[g,Yy]
theorem nu(F:List (List Int))(f:List Nat)(d:Nat):TG F (f++[d])=(TG F f).set d ((TG F f).getD d []).tail:=by rw[TG,Adq];rfl
theorem TW(f:List Nat):∀(F:List (List Int)) (d:Nat),d∉f→(TG F f).getD d []=F.getD d []:=by
 induction f with
 |nil=>exact fun _ _ _=>rfl
 |cons e f i=>
  intro F d hd;rw[TG,Afd];show(TG _ f).getD d []=_
  rw[i _ _ (fun h=>hd (Aaw _ h))];simp only[hk];rw[Ac1 (fun g=>hd (by rw[g];exact Aau))]
theorem qM(g:List Nat):∀(F:List (List Int)) {l:List Int} {x:Int},l∈TG F g→x∈l→∃l'∈F,x∈l':=by
 induction g with
 |nil=>exact fun F l x i j=>⟨l,i,j⟩
 |cons e g C=>
  intro F l x i j;obtain⟨l',t,o⟩:=C _ i j;rcases Aa4 t with p|p
  ·exact⟨l',p,o⟩
  ·rw[p] at o;have f:=List.mem_of_mem_tail o;rw[hk] at f;cases r:F[e]? with
   |none=>rw[r] at f;simp at f
   |some y=>rw[r] at f;exact⟨y,Lx r,f⟩
theorem jk(h:l.Perm (e.map fun(k:Nat)=>(k:Int))):∃f:List Nat,f.Perm e∧l=f.map fun(k:Nat)=>(k:Int):=by
 have j:∀y∈l,0≤y:=fun y hy=>by
  obtain⟨k,_,rfl⟩:=Aag.1 (h.mem_iff.1 hy);omega
 refine⟨l.map Int.toNat,?_,?_⟩
 ·have i:=h.map Int.toNat
  rw[Acu] at i;rwa [Abw (g:=id) (by intro a _;simp),Aep] at i
 rw[Acu,Abw (g:=id),Aep];intro a ys;have:=j a ys;simp only[Function.comp,id];omega
theorem jl(h:Rd Cg w a l)(hp:HO a):Calls QP 279 #[a,I p] w (Bt fun v' w'=>AZ w w'∧v'= .bool (l.contains p)):=by
 obtain⟨A,n,c,rfl,i⟩:=hp;have t:l.length=n:=by obtain⟨C,c',f,_⟩:=h.form;injection f with _ f _;exact f.symm
 subst t;have J:=h.small;rcases Aa6 l.length with g|g
 ·have x:l=[]:=rY g;subst x;refine(Tryz.slices_Contains_int_empty A c p w).mono fun e w' f=>?_;obtain⟨rfl,rfl⟩:=f;exact⟨_,Z,Aar _ _,Z⟩
 obtain⟨b,off,i⟩:=i g;subst i;refine(Tryz.slices_Contains_int b off l.length c l p w (kM _) G (fun j o=>?_)).mono fun e w' f=>?_
 ·obtain⟨cs,hc,rfl,_⟩:=h.el o;have r:=hc.1 0 (I l[j]) Z;rw[hk,dd o,Ada];simpa[Bz,add_lit,Cg,Shape.flat] using r
 obtain⟨rfl,rfl⟩:=f;rw[Abi];exact⟨_,Z,Aar _ _,Z⟩
def uL(F:List (List Int))(a b:Int):Int:=Lz ((F.getD b.toNat []).length:Nat) ((F.getD a.toNat []).length:Nat)
theorem nv{vL:Nat}(AR:Gt w k [P1 m] 184)(g:Gt w m [a,y] 67)(hF:Rd KQ w y q)(i:vL<q.length)(j:n<q.length):
 Calls QP 281 #[I vL,I n,P1 k] w (Bt fun u w'=>AZ w w'∧u=I (uL q vL n)):=by
 obtain⟨c,hO,f⟩:=Ay w;have AR:AI c w 0 k _ _:=⟨AR,hO.BF _ AR.lt⟩;have g:AI c w 0 m _ _:=⟨g,hO.BF _ g.lt⟩;have hF:=hO.rd hF;obtain⟨f,o,f⟩:=HR hF j;obtain⟨l,p,l⟩:=HR hF i;have r:=f.AB.AD;have r:=l.AB.AD;have r:=hF.AB.AD;have r:=f.AB.small;have f:=l.AB.small;have r:q.getD n []=q[n]:=by rw[hk,dd j];rfl
 have t:q.getD vL []=q[vL]:=by rw[hk,dd i];rfl
 refine AY 23 #[.tmp 5] func281 Z<|Q<|V Z<|Ag<|AM c [] [1,0,0,1,0,0,1,0,1,0,0,1,0,0,1,0,2,0] [0,1,2,3,4,5,6,7,8,9,10,11,12,13,14,15,16,17] fun w1 f f=>?_;refine vc Z f.kp (AR.D.kb NU Z Z)<|AN Z (Ak Z)<|AN Z (Aa Cq Z)<|vc Z f.kp (g.D.kb Ea Z Z)<|Bm Z Z<|AN Z (Ky FZ hF.D Z Z G G)<|vc Z f.kp (o.D.ke BQ Z)<|AN Z (BN BM) ?_;refine vc Z f.kp (AR.D.kb NU Z Z)<|AN Z (Ak Z)<|AN Z (Aa Cq Z)<|vc Z f.kp (g.D.kb Ea Z Z)<|Bm Z Z<|AN Z (Ky FZ hF.D Z Z G G)<|vc Z f.kp (p.D.ke BQ Z)<|AN Z (BN BM) ?_;refine Db Z (Ac c 1 (Ab az Z (MC _ _))) ?_;rintro l w2 ⟨c2,l,o,rfl⟩;refine f.Bl l fun f=>Ir Z Z<|AP ?_;refine Af Z Z<|⟨hO.D.below,?_⟩;rw[uL,TJ,TJ,r,t]
def IJ{α:Type}(l:List α)(i:Nat)(is:Bool)(x:α):List α:=if is=true then l.set i x else l.take i++x::l.drop i
theorem cf(l:List α)(i:Nat)(x:α)(h:i≤l.length):(l.take i++x::l.drop i).length=l.length+1:=by
 rw[ft,SG,kL,kK];omega
theorem ch{is:Bool}{x:Gs}(h:AJ c w 121 115 4 a U.length (U.flatMap CL))(O:i≤U.length)(hi:is=true→i<U.length)(hl:U.length≤1000):
 Calls QP 81 #[a,I i, .bool is, .agg (CL x).toArray] w (Bt fun v' w'=>∃c',Mv c w c' w' [121]∧AJ c' w' 121 115 4 v' (IJ U i is x).length ((IJ U i is x).flatMap CL)):=by
 have hJ:=BE.start c w [121];have f:=h.Dt (J:=[121]) Z;generalize Bw c [121]=c0 at hJ f;have p:=Lo x;have g:=f.AD;have g:=f.AA;refine AY 20 #[.tmp 8] func81 Z<|Q<|Fa c0 107 fun w1 b7 c1 g o=>?_;refine V Z<|Ag<|Q<|M Z<|Ah<|GO Z (fun l=>?_) fun l=>?_
 ·have g:i<U.length:=hi l;refine Q<|M Z<|M Z<|E (Ba Cn Z o.AE Z)<|E (BS Di f.D Z Z G G) ?_;refine Av ((Jc Cn f.D (j:=i) g (by rw[TJ];rfl) Z (EW x) p)) ?_;rintro _ w2 ⟨c2,p,f⟩;rw[LR EW U i g] at f;refine Ah<|Q<|M Z<|V Z<|Af Z Z<|⟨_,hJ.D.out,?_⟩;rw[IJ,l,zm Z,Yy];exact f.out hJ.D Z
 have g:is=false:=by cases is<;>simp_all
 refine As<|Q<|M Z<|M Z<|E (Ba Cn Z o.AE Z)<|ve (AH c1 118 Di Z Z Z Z Z) ?_;rintro _ l ⟨l,l,rfl,l,l⟩;refine ve (Ab xt Z (qD f.D l Z O hl)) ?_;rintro l l ⟨l,l,f⟩;refine V Z<|Af Z Z<|⟨_,hJ.D.out,?_⟩;rw[IJ,g,ss AO,cf _ _ _ O];exact f.out hJ.D Z
theorem cj{Y:List Vm}{is:Bool}{x:Vm}(h:AJ c w 123 141 4 a Y.length (Y.flatMap Fk))(O:i≤Y.length)(hi:is=true→i<Y.length)(hl:Y.length≤1000):
 Calls QP 84 #[a,I i, .bool is, .agg (Fk x).toArray] w (Bt fun v' w'=>∃c',Mv c w c' w' [123]∧AJ c' w' 123 141 4 v' (IJ Y i is x).length ((IJ Y i is x).flatMap Fk)):=by
 have hJ:=BE.start c w [123];have f:=h.Dt (J:=[123]) Z;generalize Bw c [123]=c0 at hJ f;have p:=Lp x;have g:=f.AD;have g:=f.AA;refine AY 20 #[.tmp 8] func84 Z<|Q<|Fa c0 107 fun w1 b7 c1 g o=>?_;refine V Z<|Ag<|Q<|M Z<|Ah<|GO Z (fun l=>?_) fun l=>?_
 ·have g:i<Y.length:=hi l;refine Q<|M Z<|M Z<|E (Ba Mc Z o.AE Z)<|E (BS Ge f.D Z Z G G) ?_;refine Av ((Jc Mc f.D (j:=i) g (by rw[TJ];rfl) Z (Gc x) p)) ?_;rintro _ w2 ⟨c2,p,f⟩;rw[LR Gc Y i g] at f;refine Ah<|Q<|M Z<|V Z<|Af Z Z<|⟨_,hJ.D.out,?_⟩;rw[IJ,l,zm Z,Yy];exact f.out hJ.D Z
 have g:is=false:=by cases is<;>simp_all
 refine As<|Q<|M Z<|M Z<|E (Ba Mc Z o.AE Z)<|ve (AH c1 118 Ge Z Z Z Z Z) ?_;rintro _ l ⟨l,l,rfl,l,l⟩;refine ve (Ab xu Z (qF f.D l Z O hl)) ?_;rintro l l ⟨l,l,f⟩;refine V Z<|Af Z Z<|⟨_,hJ.D.out,?_⟩;rw[IJ,g,ss AO,cf _ _ _ O];exact f.out hJ.D Z
theorem EA.WH{c:Nat→Nat}{w:World}(f:EA X c w [i])(w0:BE j h e c w)(hi:(Nat.blt 0 i&&AU e i)=true:=by rfl):EA X (back j h c) w [i]:=HM.mono f fun k _ O=>by
 rw[kg] at hi;show AU [i] (back j h c k)=true
 rw[QY w0 hi.2 (by have:=Aat hi.1;omega) (Mm.1 O)];simp[AU]
theorem EA.qN(h:EA X c w [i])(hi:AU e i=true:=by rfl):EA X (Bw c e) w [i]:=HM.mono h fun k _ O=>by
 show AU [i] (Bw c e k)=true
 have:c k=i:=Mm.1 O;rw[KN (by rw[this];exact hi),this];simp[AU]
abbrev RB:List Nat:=[120,121,122,123,124,125]
def jm(b:Bk)(x:CV):Bk:={b with Ae:=IJ b.Ae (Pw b.Ae x.id) (Ib b.Ae x.id).isSome x,next:=max b.next (x.id+1)}
def pp(b:Bk)(e:KA):Bk:={b with AQ:=IJ b.AQ (Mh b.AQ e.AK) (Vp b.AQ e.AK).isSome e}
theorem RC{g:Type}(f:α→g)(l:List α)(i:Nat)(is:Bool)(x:α):(IJ l i is x).map f=IJ (l.map f) i is (f x):=by
 unfold IJ;split
 ·rw[Ab0]
 ·rw[Aaf,Aci,Afq,List.map_drop]
theorem Km{x y:α}(h:y∈IJ t i B x):y∈t∨y=x:=by
 unfold IJ at h;split at h
 ·exact Aa4 h
 ·rcases Aac.1 h with h|h
  ·exact .inl (Aca h)
  ·rcases Aak.1 h with h|h
   ·exact .inr h
   ·exact .inl (Acy h)
theorem ck(l:List α)(i:Nat)(is:Bool)(x:α):(IJ l i is x).length≤l.length+1:=by
 unfold IJ;split
 ·rw[Yy];omega
 ·rw[ft,SG,kL,kK];omega
section
variable {c c':Nat→Nat} {w w':World} {vS vT vG:Value} {b:Bk} {YS:List Gs} {YT:List Vm}
theorem ND.yY(h:ND c w vS vT vG b YS YT)(hl:b.Ae.length≤1048576):Bu DS c w [121,122] vS b.Ae:=by
 have e:YS.length=b.Ae.length:=by rw[←h.sl,kr]
 have i:AJ c w 121 115 DS.size vS b.Ae.length (YS.map CL).flatten:=by rw[←e,←Acj];exact h.s
 refine i.rd G (by rw[kr,e]) (by rfl) fun k cs x O hx=>?_;rw[←h.sl,Aah] at hx;rw[Aah] at O;obtain⟨y,hy,rfl⟩:=Abm.1 O;rw[hy] at hx;injection hx with hx;subst hx;have f:=Lx hy;exact(EA.more (K:=[121,122]) (h.sp.el y f) (by rfl)).imp fun w' _ g=>⟨y.2.v,Z,g,h.si y f⟩
theorem ND.yZ(h:ND c w vS vT vG b YS YT)(hl:b.AQ.length≤1048576):Bu Ie c w [123,124] vT b.AQ:=by
 have e:YT.length=b.AQ.length:=by rw[←h.tl,kr]
 have i:AJ c w 123 141 Ie.size vT b.AQ.length (YT.map Fk).flatten:=by rw[←e,←Acj];exact h.t
 refine i.rd G (by rw[kr,e]) (by rfl) fun k cs x O hx=>?_;rw[←h.tl,Aah] at hx;rw[Aah] at O;obtain⟨y,hy,rfl⟩:=Abm.1 O;rw[hy] at hx;injection hx with hx;subst hx;have f:=Lx hy;exact(EA.more (K:=[123,124]) (h.tp.el y f) (by rfl)).imp fun w' _ g=>⟨y.2.v,Z,g,h.ti y f⟩
theorem ND.Dt(h:ND c w vS vT vG b YS YT):ND (Bw c RB) w vS vT vG b YS YT:=⟨h.s.Dt Z,h.sl,⟨fun y hy=>(h.sp.el y hy).qN⟩,h.si,h.t.Dt Z,h.tl,⟨fun y hy=>(h.tp.el y hy).qN⟩,h.ti,h.g.Dt Z⟩
theorem ND.out(w0:ND c w vS vT vG b YS YT)(hJ:BE j h RB c w):ND (back j h c) w vS vT vG b YS YT:=⟨w0.s.out hJ Z,w0.sl,⟨fun y hy=>(w0.sp.el y hy).WH hJ⟩,w0.si,w0.t.out hJ Z,w0.tl,⟨fun y hy=>(w0.tp.el y hy).WH hJ⟩,w0.ti,w0.g.out hJ Z⟩
end
theorem Jf(h:AJ c w i d 2 a u.length (u.flatMap FX))(hl:u.length≤140737488355328)(f:∀p∈u,Go.Eng.Int64 p.1∧Go.Eng.Int64 p.2):Bu Bx c w [i] a u:=h.Gl hl f
theorem Jg(h:AJ c w i d 1 a l.length (l.flatMap fun x=>[I x]))(hl:l.length≤140737488355328)(f:∀p∈l,Go.Eng.Int64 p):Bu Cg c w [i] a l:=h.Gl hl f
theorem qO{vG vl vs:Value}{b:Bk}{YT:List Vm}{x:CV}(j:AI c w 120 m [a,y,vG,I b.next] 58)(g:ND c w a y vG b U YT)(b2:Ic b.Ae)(hl:b.Ae.length≤900)
 (o:Bu Cg c w e vl [x.len,x.gen])(r:Bu Bx c w e vs x.Ad)(hK:BB e RB=true)(hx:0≤x.id∧x.id≤1073741824)(hp:x.Ad.length≤1000):
 Calls QP 35 #[P1 m, .agg #[I 2,I x.id,St [],St [],vl,vs]] w (Bt fun v w'=>∃c',Mv c w c' w' RB∧v=I 0∧∃b5 b6,AI c' w' 120 m [b5,y,vG,I (jm b x).next] 58∧ND c' w' b5 y vG (jm b x) b6 YT):=by
 have hJ:=BE.start c w RB;replace j:=j.Dt (J:=RB) Z;replace g:=g.Dt;replace o:=o.Dt hK;replace r:=r.Dt hK;generalize Bw c RB=c0 at hJ j g o r;have c2:=Vr r.AB;have b1:=Rz o.AB;have f:=o.AB.AD;have f:=r.AB.AD;have C:=g.s.AD;have a1:=g.t.AD;have q5:=g.g.AD;have f:=g.s.AA;have f:=g.t.AA;have f:=g.g.AA;have a8:U.length=b.Ae.length:=by rw[←g.sl,kr]
 refine AY 190 #[.tmp 4] func35 Z<|Q<|Fa c0 103 fun w1 b3 c1 R AR=>?_;refine V Z<|Ag<|Q<|E (Aa Gg Z)<|E (Al AF Z AR.AE Z)<|Ah<|An<|Q<|E (BO Z Z)<|V Z<|Cz Z (fun f=>?_) fun f=>?_
 ·exact absurd f AO
 refine Q<|E (BO Z Z)<|V Z<|Wr Z (fun b0=>?_) fun b0=>?_
 ·refine Ag<|AM c1 [] [0,0,1,0,1,2,0,0,0,0,0] [0,1,2,3,4,5,6,7,8,9,10] fun w2 YS f=>?_;have t:=j;have l:=AR;refine Bm Z Z<|AN Z (Ak Z)<|vc Z f.kp (t.D.kn Fy Z Z)<|AN Z (Aa Hl Z)<|vc Z f.kp (l.D.kb AF Z Z)<|Db Z (Ac c1 1 (Ab ls Z (Lq (n:=b.next) (d:=x.id) (g.D.yY G).AB C a1 q5 b2))) ?_;rintro C C ⟨a6,C,a1,rfl⟩;refine f.Bl C fun f=>?_;obtain⟨i,hi⟩:∃i,i=Pw b.Ae x.id:=⟨_,Z⟩;obtain⟨is,a1⟩:∃is,is=(Ib b.Ae x.id).isSome:=⟨_,Z⟩;rw[←hi,←a1];refine Bm Z Z<|AN Z (Aq Z Z)<|AN Z (Aq Z Z)<|Ir Z Z<|Ir Z Z<|AP ?_;refine Ag ?_;obtain⟨hs,b9,c3,b8,ht,c5,c6,c4,hg⟩:=(((g.D R).D YS).D C);have O:i≤U.length:=by rw[hi,a8];exact OV _ _
  have b7:is=true→i<U.length:=fun h↦by
   rw[a1] at h;obtain⟨k,a7⟩:=Ach.1 h;rw[hi,a8,Iw b2 a7];exact(WM.1 a7).1
  have a7:=(Co (((o.D R).D YS).D C) (k:=0) Bb AO).1;have a8:=(Co (((o.D R).D YS).D C) (k:=1) Bb AO).1;refine AM a6 [121] [0,0,0,0,1,0,0,0,1,0,1,0,1,0,1,0,1,0,1,2,0,2,0,0,3] [0,1,2,3,4,5,6,7,8,9,10,11,12,13,14,15,16,17,18,19,20,21,22,23,24] fun C C f=>?_;have t:=j;have l:=AR;refine Bm Z Z<|Bm Z Z<|AN Z (Ak Z)<|AN Z (Aa CA Z)<|vc Z f.kp (t.D.kb Ei Z Z)<|Bm Z Z<|Bm Z Z<|AN Z (Aa Hl Z)<|vc Z f.kp (l.D.kb AF Z Z)<|AN Z (Aa DE Z)<|vc Z f.kp (l.D.kb BQ Z Z)<|AN Z (Cv BM) ?_;refine vc Z f.kp (a7.D.ke AF Z)<|AN Z (Aa DE Z)<|vc Z f.kp (l.D.kb BQ Z Z)<|AN Z (Cv BM) ?_;refine vc Z f.kp (a8.D.ke AF Z)<|AN Z (Aa Gh Z)<|vc Z f.kp (l.D.kb CH Z Z)<|Db Z (Ac a6 122 (Ab Tw Z (EX r.D.AB G))) ?_;rintro C C ⟨C,C,YS,R⟩;refine f.Bl C fun f=>?_;replace R:=R.Du YS;obtain⟨a7,a8,rfl,_,_⟩:=R.own.len;obtain⟨C,a6⟩:∃C,C=Value.slice a7 x.Ad.length a8:=⟨_,Z⟩;have b4:C.oneCell'=true:=by rw[a6];rfl
  have YS:=Jf R G c2;rw[←a6] at YS;refine AN Z (By (cells:=#[I x.id,I x.len,I x.gen, .slice a7 x.Ad.length a8]) Z Ao) ?_;rw[←a6];refine Db Z (Ab wI Z (ch (i:=i) (is:=is) (x:=(x,⟨C,b4⟩)) hs.D O b7 G)) ?_;rintro b7 R ⟨a7,R,hs⟩;refine f.Bl R fun f=>?_;have a6:=hs.AD;have a6:=hs.AA;have a8:Go.Eng.Int64 x.id∧Go.Eng.Int64 x.len∧Go.Eng.Int64 x.gen:=⟨⟨G,G⟩,b1 _ Bb,b1 _ Bb⟩;refine AN Z (Ak Z)<|AN Z (Aa CA Z)<|LG Z (Ap Ei Z Z ra ra j.D Z) ?_;rintro _ a6 ⟨j,a6⟩;try replace f:=f.tr a6 Z
  refine AP ?_;refine AM a7 [] [0,0,0,0,1,0,1,0,0,0,0,3] [0,1,2,3,4,5,6,7,8,9,10,11] fun l l f=>Bm Z Z<|Bm Z Z<|AN Z (Ak Z)<|AN Z (Aa Ik Z)<|vc Z f.kp (j.D.kb AF Z Z)<|AN Z (Aa Hl Z)<|vc Z f.kp (AR.D.kb AF Z Z)<|AN Z (Bc Z Z Ai Ai)<|AN Z (qw Z Z) ?_;refine AN Z (Ak Z)<|AN Z (Aa Ik Z)<|LG Z (Ap AF Z Z ra ra j.D Z) ?_;rintro _ t ⟨j,t⟩;refine AP ?_;refine Q<|V Z<|Af Z Z<|⟨_,hJ.D.out,Z,b7,IJ U i is (x,⟨C,b4⟩),j.out hJ.D Z,ND.out ⟨hs.D,?_,⟨fun vT hy↦?_⟩,fun vT hy↦?_,ht.D,c5,c6.D,c4,hg.D⟩ hJ.D⟩
  ·rw[RC,b9,jm,hi,a1]
  ·rcases Km hy with h|h
   ·exact c3.D.el vT h
   replace YS:=(((YS.D R).D a6).D l).D t;rw[h];exact YS
  rcases Km hy with h|h
  ·exact b8 vT h
  rw[h];exact a8
 exact absurd b0 AO
theorem qP{vG vl vs:Value}{b:Bk}{YT:List Vm}{d:Tx}{n:Int}(j:AI c w 120 k [a,y,vG,I b.next] 58)(g:ND c w a y vG b U YT)(a7:KH b.AQ)(hl:b.AQ.length≤900)
 (o:Bu Cg c w e vl l)(c4:vs.oneCell'=true)(hK:BB e RB=true)(b4:Go.Eng.Int64 n)(hd:d.length≤140737488355328)(hp:l.length≤100000):
 Calls QP 35 #[P1 k, .agg #[I 4,I n,St [],St d,vl,vs]] w (Bt fun v w'=>∃c',Mv c w c' w' RB∧v=I 0∧∃b0 b1,AI c' w' 120 k [a,b0,vG,I b.next] 58∧ND c' w' a b0 vG (pp b ⟨d,n,false,l⟩) U b1):=by
 have hJ:=BE.start c w RB;replace j:=j.Dt (J:=RB) Z;replace g:=g.Dt;replace o:=o.Dt hK;generalize Bw c RB=c0 at hJ j g o;have b7:=Rz o.AB;have f:=o.AB.AD;have r:=g.s.AD;have t:=g.t.AD;have q5:=g.g.AD;have f:=g.s.AA;have f:=g.t.AA;have f:=g.g.AA;have a1:YT.length=b.AQ.length:=by rw[←g.tl,kr]
 refine AY 190 #[.tmp 4] func35 Z<|Q<|Fa c0 103 fun w1 b3 c1 a6 AR=>?_;refine V Z<|Ag<|Q<|E (Aa Gg Z)<|E (Al AF Z AR.AE Z)<|Ah<|An<|Q<|E (BO Z Z)<|V Z<|Fw Z<|Q<|E (BO Z Z)<|V Z<|Fw Z<|Q<|E (BO Z Z)<|V Z<|Fw Z<|Ag<|Q<|E (BO Z Z)<|V Z<|JN Z<|As<|JN Z<|Ag<|AM c1 [] [0,0,1,0,1,2,0,0,0,0,0] [0,1,2,3,4,5,6,7,8,9,10] fun w2 a8 f=>?_;have C:=j;have YS:=AR;refine Bm Z Z<|AN Z (Ak Z)<|vc Z f.kp (C.D.kn Fy Z Z)<|AN Z (Aa JS Z)<|vc Z f.kp (YS.D.kb CQ Z Z)<|Db Z (Ac c1 1 (Ab pH Z (OW (n:=b.next) (d:=d) (g.D.yZ G).AB r t q5 a7))) ?_;rintro r r ⟨r,t,R,rfl⟩;refine f.Bl t fun f=>?_;obtain⟨i,hi⟩:∃i,i=Mh b.AQ d:=⟨_,Z⟩;obtain⟨is,R⟩:∃is,is=(Vp b.AQ d).isSome:=⟨_,Z⟩;rw[←hi,←R];refine Bm Z Z<|AN Z (Aq Z Z)<|AN Z (Aq Z Z)<|Ir Z Z<|Ir Z Z<|AP ?_;obtain⟨hs,b6,b8,b5,ht,c2,c3,b9,hg⟩:=(((g.D a6).D a8).D t);have O:i≤YT.length:=by rw[hi,a1];exact OV _ _
 have b2:is=true→i<YT.length:=fun h↦by
  rw[R] at h;obtain⟨p,t⟩:=Ach.1 h;rw[hi,a1,OU a7 t];exact(WM.1 t).1
 refine AM r [123] [0,0,0,0,1,0,0,0,1,0,1,0,1,0,0,1,2,0,2,0,0,3] [0,1,2,3,4,5,6,7,8,9,10,11,12,13,14,15,16,17,18,19,20,21] fun t t f=>Bm Z Z<|Bm Z Z<|AN Z (Ak Z)<|AN Z (Aa Ev Z)<|vc Z f.kp (j.D.kb HI Z Z)<|Bm Z Z<|Bm Z Z<|AN Z (Aa JS Z)<|vc Z f.kp (AR.D.kb CQ Z Z)<|AN Z (Aa Hl Z)<|vc Z f.kp (AR.D.kb AF Z Z)<|AN Z (Aa Gg Z)<|vc Z f.kp (AR.D.kb AF Z Z)<|AN Z (BO Z Z)<|AN Z (Aa DE Z)<|vc Z f.kp (AR.D.kb BQ Z Z)<|Db Z (Ac r 124 (Ab YN Z (GN o.D.AB G))) ?_;rintro r r ⟨r,r,C,t⟩;refine f.Bl r fun f=>?_;replace t:=t.Du C;obtain⟨a1,a6,rfl,_,_⟩:=t.own.len;obtain⟨r,YS⟩:∃r,r=Value.slice a1 l.length a6:=⟨_,Z⟩;have a8:r.oneCell'=true:=by rw[YS];rfl
 have C:=Jg t G b7;rw[←YS] at C;refine AN Z (By (cells:=#[St d,I n, .bool false, .slice a1 l.length a6]) Z Ao) ?_;rw[←YS];refine Db Z (Ab wJ Z (cj (i:=i) (is:=is) (x:=(⟨d,n,false,l⟩,⟨r,a8⟩)) ht.D O b2 G)) ?_;rintro a1 t ⟨t,t,ht⟩;refine f.Bl t fun f=>?_;have YS:=ht.AD;have YS:=ht.AA;refine AN Z (Ak Z)<|AN Z (Aa Ev Z)<|LG Z (Ap HI Z Z ra ra j.D Z) ?_;rintro _ YS ⟨j,YS⟩;try replace f:=f.tr YS Z
 refine AP ?_;refine Q<|V Z<|Af Z Z<|⟨_,hJ.D.out,Z,a1,IJ YT i is (⟨d,n,false,l⟩,⟨r,a8⟩),j.out hJ.D Z,ND.out ⟨hs.D,b6,b8.D,b5,ht.D,?_,⟨fun vT hy↦?_⟩,fun vT hy↦?_,hg.D⟩ hJ.D⟩
 ·rw[RC,c2,pp,hi,R]
 ·rcases Km hy with h|h
  ·exact c3.D.el vT h
  replace C:=(C.D t).D YS;rw[h];exact C
 rcases Km hy with h|h
 ·exact b9 vT h
 rw[h];exact⟨b4,hd⟩
theorem Vu{x:CV}(hu:Rd Bx w a x.Ad)(hp:x.Ad.length≤1000):Calls QP 45 #[.agg #[I x.id,I x.len,I x.gen,a]] w (Bt fun v w'=>AZ w w'∧∃vl vs,v= .agg #[I 2,I x.id,St [],St [],vl,vs]∧CJ w' w.heap.size 3 1 vl 2 [I x.len,I x.gen]∧CJ w' w.heap.size 125 2 vs x.Ad.length (x.Ad.flatMap FX)):=by
 have f:=hu.AD;obtain⟨c,hO,f⟩:=Ay w;have r:Bu Bx c w [0] a x.Ad:=Rd.Du hu (fun k O=>by simp[f,AU]);refine AY 14 #[.cell 2 52] func45 Z<|Q<|Fa c 101 fun w1 b1 c1 f g=>?_;refine EK c1 102 Kw fun w2 b2 c2 f i=>Ah<|Ag<|WC.mono (N:=(fun e w'=>∃(c':Nat→Nat) (j:Nat) (vs:Value),Sub [(4000000, .tuple #[]),(2,P1 b2)] e∧CD w c' w'∧AI c' w' 102 b2 [I 2,I x.id,St [],St [], .slice (some ⟨j,0,none⟩) 2 2,vs] 52∧AI c' w' 109 j [I x.len,I x.gen] 3∧AJ c' w' 112 125 2 vs x.Ad.length (x.Ad.flatMap FX))) ?_ ?_
 ·refine EB c2 [] [0,1,0,1,0,1,2,0,1,2,0,3] (.Au 0 (.Au 1 (.Au 2 (.Au 3 (.Au 4 (.Au 5 (.Au 7 (.Au 8 (.two 6 (.one 9 (.Au 10 (.one 11 .nil))) 9 (.one 6 (.Au 10 (.one 11 .nil)))))))))))) fun f f f=>?_;refine Cd Z (Aa Dy Z)<|Cj Z Z Z f.kp (g.D.kb AF Z Z) Z<|Cd Z (Aa HW Z)<|Cj Z Z Z f.kp (g.D.kb AF Z Z) Z<|Cd Z (Aa NO Z)<|Cj Z Z Z f.kp (g.D.kb AF Z Z) Z<|Cd Z (Aa Cl Z)<|Cj Z Z Z f.kp (g.D.kb CH Z Z) Z<|Ck ?_ ?_
  ·refine EM Z (Ht c2 109 BM Z Z Z (by simp[Value.cells]) Z Z) ?_;rintro _ g ⟨j,g,rfl,o,l⟩;refine f.Bl o fun f=>EZ Z (Ac g 112 (Ab Tw Z (EX r.D.AB G))) ?_;rintro t g ⟨g,o,p,g⟩;refine f.Bl o fun f=>?_;replace g:=g.Du p;obtain⟨o,p,rfl,_,_⟩:=g.own.len;refine Cd Z (By (cells:=#[I 2,I x.id,St [],St [], .slice (some ⟨j,0,none⟩) 2 2, .slice o x.Ad.length p]) Z Ao) ?_;refine AV<|Bj Z Z Z (Am Df Z Z i.D Z Z Bg) ?_;rintro _ C ⟨i,C⟩;refine Bs ?_;exact⟨_,_,_,AL,hO.D,i,l.D,g.D⟩
  refine EM Z (Ac c2 112 (Ab Tw Z (EX r.D.AB G))) ?_;rintro t t ⟨t,C,J,g⟩;refine f.Bl C fun f=>?_;replace g:=g.Du J;obtain⟨o,p,rfl,_,_⟩:=g.own.len;refine EZ Z (Ht t 109 BM Z Z Z (by simp[Value.cells]) Z Z) ?_;rintro _ t ⟨j,t,rfl,t,l⟩;refine f.Bl t fun f=>Cd Z (By (cells:=#[I 2,I x.id,St [],St [], .slice (some ⟨j,0,none⟩) 2 2, .slice o x.Ad.length p]) Z Ao) ?_;refine AV<|Bj Z Z Z (Am Df Z Z i.D Z Z Bg) ?_;rintro _ f ⟨i,f⟩;refine Bs ?_;exact⟨_,_,_,AL,hO.D,i,l.D,g.D⟩
 clear hO r i;rintro f f ⟨f,j,vs,f,hO,i,l,g⟩;have j:=g.AD;refine DN f<|FH Z (DZ Df Z i.AE Z) ?_;have hv:=l.own (n:=2) (size:=1) Z AO;exact⟨hO.below,_,_,Z,hv.Mw hO AO,g.Mw hO AO⟩
theorem AJ.nw(h:AJ c w i d 1 a n b)(O:b[k]?=some y):DG c w [i] (Bz a 1 k) [y]:=by
 have hl:=h.own.1;rw[Acn] at hl;have g:AJ c w i d 1 a b.length (b.flatMap fun x=>[x]):=by
  have f:∀l:List Value,(l.flatMap fun x=>[x])=l:=fun l=>by
   induction l with
   |nil=>rfl
   |cons v l o=>rw[Aaa,o];rfl
  rw[f,hl];exact h
 obtain⟨j,rfl⟩:=kJ.1 O;exact g.elem (fun _=>rfl) AO j
theorem qQ{A:Option Addr}(h:Bu Cg c w e (.slice A m k) l)(hl:0<l.length):Bu Cg c w e (En (.slice A m k) 1 m 1) l.tail:=by
 have i:l.length=m:=by obtain⟨o,c',f,_⟩:=h.AB.form;injection f with _ f _;exact f.symm
 refine HM.imp h fun w' _ j=>?_;have g:=FC.from_ j (lo:=1) G;rw[List.drop_one] at g;subst i;exact g
abbrev LA:List Nat:=[130,131,132,133]
def NA(liveQ:List Bool)(F:List (List Int))(nt:List Int)(n:Nat)(e:Int)(f:List Nat):Prop:=
 (e=6∧WG liveQ nt liveQ.length<n∧f=[])∨(e=5∧(Gd liveQ F nt liveQ.length).length<n∧f=[])∨(e=0∧∃Djq:List Nat,Djq.Perm (Gd liveQ F nt liveQ.length)∧f=Djq.take n∧n≤Djq.length)
theorem qR{K:List Nat}{vF c4:Value}{liveQ:List Bool}{nt:List Int}(p:AI c w 133 i [a,vF] 67)(c8:KD c w a vF liveQ q)(h2:liveQ.length=q.length∧q.length≤12)(e7:0<q.length)(C:Bu Cg c w K c4 nt)(e6:HO c4)(hK:BB K LA=true)(h3:n≤12):
 Calls QP 238 #[P1 i,I n,c4] w (Bt fun u w'=>∃c',Mv c w c' w' LA∧∃vl e o,AI c' w' 133 i [a,vF] 67∧KD c' w' a vF liveQ (TG q o)∧NA liveQ q nt n e o∧AJ c' w' 136 125 2 vl o.length ((Hf q o).flatMap FX)∧u= .tuple #[vl,I e]):=by
 obtain⟨r,vs,hF,g⟩:=c8;have hJ:=BE.start c w LA;replace p:=p.Dt (J:=LA) Z;replace r:=r.Dt (J:=LA) Z;replace hF:=hF.Dt (J:=LA) Z;replace g:ZB (Bw c LA) w [132] vs q:=⟨g.len,fun j v l b5 a7=>iP (g.row j v l b5 a7) Z⟩;replace C:=C.Zy hK;obtain⟨b1,b4,rfl,t,t⟩:=hF.CT e7;have t:=C.AB.AD;have t:=r.AD;have t:=hF.AD;have t:=g.len;generalize Bw c LA=c0 at hJ p r hF g C;refine AY 98 #[.tmp 6, .tmp 7] func238 Z<|Q<|Mn c0 103 fun w1 b3 c1 t AR=>?_;refine za Z<|V Z<|Q<|V Z<|Q<|V Z<|Ag<|Ag ?_;have t:AJ c1 w1 135 3 1 (.slice none 0 0) 0 []:=Br _ _ _ _ _;refine cg<|E (Al NU Z AR.AE Z)<|E (Ak Z)<|E (Aa JT Z)<|E (Al Hw Z p.D.AE Z)<|E (Tv Fi r.D Z)<|M Z<|Ah<|An<|AG (σ:=Nat×Nat×Value) (fun U=>[(1,I n),(2,c4),(3,P1 b3),(6, .slice none 0 0),(7,I 0),(8,U.2.2),(9,I U.2.1),(18,a),(19,I liveQ.length),(20,I U.1)]) (fun U w'=>(U.1≤liveQ.length∧U.2.1=WG liveQ nt U.1)∧∃c',BE c w LA c' w'∧AI c' w' 133 i [a,(.slice (some ⟨b1,0,none⟩) q.length b4)] 67∧AJ c' w' 130 4 1 a liveQ.length (liveQ.map .bool)∧AJ c' w' 131 23 1 (.slice (some ⟨b1,0,none⟩) q.length b4) q.length vs∧ZB c' w' [132] vs q∧Bu Cg c' w' [0] c4 nt∧AI c' w' 103 b3 [P1 i] 184∧AJ c' w' 135 3 1 U.2.2 (Gd liveQ q nt U.1).length ((Gd liveQ q nt U.1).map fun(k:Nat)=>I (k:Int))) (fun U=>liveQ.length-U.1) (0,0,_) AL ⟨⟨Nat.zero_le _,Z⟩,_,hJ.D,p.D,r.D,hF.D,g.D,C.D,AR,t⟩ ?_;rintro⟨k,a1,b8⟩ c9 ⟨⟨O,c3⟩,b9,hJ,p,r,hF,g,C,AR,t⟩;dsimp only at O c3 t;have e9:=t.AD;have h0:=t.AA;have e1:=jj liveQ q nt k;have e2:a1≤k:=by rw[c3];have:=List.length_filter_le (Nz liveQ nt) (List.range k);rwa [List.length_range] at this
 refine Q<|E (AX Z Z)<|Ah<|Ag<|BA Z (fun R=>?_) fun R=>?_
 ·have R:k<liveQ.length:=G;have c5:liveQ.getD k false=liveQ[k]:=by rw[hk,dd R];rfl
  have a6:DG _ _ [130] (Bz a 1 k) [.bool liveQ[k]]:=r.nw (by rw[Aah,dd R];rfl);obtain⟨u,hu⟩:∃u,vs[k]?=some u:=⟨vs[k]'(by omega),dd _⟩;have R:q[k]?=some q[k]:=dd G;have c6:q.getD k []=q[k]:=by rw[hk,R];rfl
  have b2:=g.row k u _ hu R;have e0:DG _ _ [131] (Bz (.slice (some ⟨b1,0,none⟩) q.length b4) 1 k) [u]:=hF.nw hu;have R:=b2.AB.AD;have R:=b2.AB.AA;have e8:=b2.AB.small;refine As<|Ag<|An<|Q<|M Z<|E (BS Fi r Z Z G G)<|E (Cc IW Z a6.DF)<|za Z ?_;refine V Z<|Ag<|Q<|M Z<|E (BL Z)<|M Z ?_;apply BU b9 false 3 (nt.contains (k:Int)) CK
  ·intro R R;refine wo<|M Z<|wo<|M Z<|wo<|ve (Ac b9 1 (Ab yu Z (jl C.AB e6))) ?_;rintro v30 w2 ⟨c2,a6,a6,rfl⟩;exact BV 3 R.D
  intro R c7 R;refine Ah<|BA Z (fun b7=>?_) fun b7=>?_
  ·have b6:Nz liveQ nt k=false:=by rw[Nz,c5];rcases b7 with h|h;rw[h];rfl;rw[h];simp
   have a6:Gd liveQ q nt (k+1)=Gd liveQ q nt k:=by rw[Qa,ss (by rw[TV,b6];simp)]
   have a8:WG liveQ nt (k+1)=a1:=by rw[XQ,ss (by rw[b6];simp),c3]
   refine Az Z<|cg<|E (Bc Z Z Ai Ai)<|M Z<|Ah ?_;replace hJ:=hJ.D R;replace p:=p.D R;replace r:=r.D R;replace hF:=hF.D R;replace g:=g.D R;replace C:=C.D R;replace AR:=AR.D R;replace t:=t.D R
   first
   |exact⟨(k+1,a1,b8),AL,⟨⟨by dsimp only;omega,a8.symm⟩,_,hJ,p,r,hF,g,C,AR,by dsimp only;rw[a6];exact t⟩,by show liveQ.length-(k+1)<liveQ.length-k;omega⟩
   |exact⟨(k+1,a1+1,b8),AL,⟨⟨by dsimp only;omega,a8.symm⟩,_,hJ,p,r,hF,g,C,AR,by dsimp only;rw[a6];exact t⟩,by show liveQ.length-(k+1)<liveQ.length-k;omega⟩
   |exact⟨(k+1,a1+1,_),AL,⟨⟨by dsimp only;omega,a8.symm⟩,_,hJ,p,r,hF,g,C,AR,by dsimp only;rw[a6,List.length_append,List.map_append];exact t⟩,by show liveQ.length-(k+1)<liveQ.length-k;omega⟩
  have b6:Nz liveQ nt k=true:=by rw[Nz,c5,kg,Aa9];exact b7
  have a8:WG liveQ nt (k+1)=a1+1:=by rw[XQ,zm b6,c3]
  refine As<|Q<|M Z<|E (Bc (m:=(a1:Int)) (n:=1) Z Z G G)<|V Z<|Q ?_;refine E (Al NU Z AR.D.AE Z)<|E (Ak Z)<|E (Aa Cq Z)<|E (Al Ea Z p.D.AE Z)<|M Z<|E (BS FZ hF.D Z Z G G)<|E (Cc BQ Z e0.D.DF)<|E (BN BM) ?_;refine E (CM Z Z)<|Ah<|BA Z (fun b7=>?_) fun b7=>?_
  ·have a6:Gd liveQ q nt (k+1)=Gd liveQ q nt k++[k]:=by rw[Qa,zm (by rw[TV,b6,c6];simp;intro e;rw[e] at b7;simp at b7)]
   refine cg<|M Z<|M Z<|ve (AH c7 145 BM Z Z Z Z Z) ?_;rintro _ b6 ⟨b6,b6,rfl,b6,c5⟩;refine ve (Ax BM Z Z t.D (Aw underlying23 c5.AE.AT Z Bg) Fh Fg) ?_;rintro b7 b7 ⟨b7,b7,t⟩;refine V Z<|cg<|E (Bc Z Z Ai Ai)<|M Z<|Ah ?_;replace hJ:=((hJ.D R).D b6).D b7;replace p:=((p.D R).D b6).D b7;replace r:=((r.D R).D b6).D b7;replace hF:=((hF.D R).D b6).D b7;replace g:=((g.D R).D b6).D b7;replace C:=((C.D R).D b6).D b7;replace AR:=((AR.D R).D b6).D b7
   first
   |exact⟨(k+1,a1,b8),AL,⟨⟨by dsimp only;omega,a8.symm⟩,_,hJ,p,r,hF,g,C,AR,by dsimp only;rw[a6];exact t⟩,by show liveQ.length-(k+1)<liveQ.length-k;omega⟩
   |exact⟨(k+1,a1+1,b8),AL,⟨⟨by dsimp only;omega,a8.symm⟩,_,hJ,p,r,hF,g,C,AR,by dsimp only;rw[a6];exact t⟩,by show liveQ.length-(k+1)<liveQ.length-k;omega⟩
   |exact⟨(k+1,a1+1,_),AL,⟨⟨by dsimp only;omega,a8.symm⟩,_,hJ,p,r,hF,g,C,AR,by dsimp only;rw[a6,List.length_append,List.map_append];exact t⟩,by show liveQ.length-(k+1)<liveQ.length-k;omega⟩
  have a6:Gd liveQ q nt (k+1)=Gd liveQ q nt k:=by rw[Qa,ss (by have b6:q[k]=[]:=rY G;rw[TV,c6,b6];simp)]
  refine As<|cg<|E (Bc Z Z Ai Ai)<|M Z<|Ah ?_;replace hJ:=hJ.D R;replace p:=p.D R;replace r:=r.D R;replace hF:=hF.D R;replace g:=g.D R;replace C:=C.D R;replace AR:=AR.D R;replace t:=t.D R
  first
  |exact⟨(k+1,a1,b8),AL,⟨⟨by dsimp only;omega,a8.symm⟩,_,hJ,p,r,hF,g,C,AR,by dsimp only;rw[a6];exact t⟩,by show liveQ.length-(k+1)<liveQ.length-k;omega⟩
  |exact⟨(k+1,a1+1,b8),AL,⟨⟨by dsimp only;omega,a8.symm⟩,_,hJ,p,r,hF,g,C,AR,by dsimp only;rw[a6];exact t⟩,by show liveQ.length-(k+1)<liveQ.length-k;omega⟩
  |exact⟨(k+1,a1+1,_),AL,⟨⟨by dsimp only;omega,a8.symm⟩,_,hJ,p,r,hF,g,C,AR,by dsimp only;rw[a6,List.length_append,List.map_append];exact t⟩,by show liveQ.length-(k+1)<liveQ.length-k;omega⟩
 have R:k=liveQ.length:=G;subst R;rw[c3] at e2;have a6:=t;rw[show(fun(k:Nat)=>I (k:Int))=I∘(fun(k:Nat)=>(k:Int)) from Z,←Acu] at a6;obtain⟨R,a8⟩:∃R,R=Gd liveQ q nt liveQ.length:=⟨_,Z⟩;have c7:∀d∈R,d<liveQ.length:=fun d hd↦(MH.1 (by rw[←a8];exact hd)).1;have e4:∀d∈R,q.getD d []≠[]:=fun d hd↦by have:=(MH.1 (by rw[←a8];exact hd)).2;rw[TV] at this;simp at this;simpa using this.2
 have e5:R.Nodup:=by rw[a8];exact Ot _ _ _ _
 rw[←a8] at e1 t a6;refine Az Z<|Ag<|An<|Q<|M Z<|M Z<|E (AX Z Z)<|V Z<|BA Z (fun a1=>?_) fun a1=>?_
 ·refine Q<|za Z<|V Z<|BR Z Z Z ?_;exact⟨_,hJ.out,_,6,[],p.out hJ Z,⟨r.out hJ Z,vs,hF.out hJ Z,⟨g.len,fun j v l b5 a7↦(g.row j v l b5 a7).WH hJ Z⟩⟩, .inl ⟨Z,by rw[c3] at a1;omega,Z⟩,Br _ _ _ _ _,Z⟩
 refine Q<|M Z<|E (Tv BM a6 Z)<|M Z<|E (AX Z Z)<|V Z<|BA Z (fun a1=>?_) fun a1=>?_
 ·refine Q<|za Z<|V Z<|BR Z Z Z ?_;exact⟨_,hJ.out,_,5,[],p.out hJ Z,⟨r.out hJ Z,vs,hF.out hJ Z,⟨g.len,fun j v l b5 a7↦(g.row j v l b5 a7).WH hJ Z⟩⟩, .inr (.inl ⟨Z,by rw[←a8];omega,Z⟩),Br _ _ _ _ _,Z⟩
 refine As<|Ag ?_;have b6:gU b9 c9 281 #[P1 b3] (fun x y=>uL q x y) (R.map fun(k:Nat)=>(k:Int)):=fun c' w' x y m hx hy↦by
  obtain⟨vL,b7,rfl⟩:=Aag.1 hx;obtain⟨b,a1,rfl⟩:=Aag.1 hy;have c8:KD b9 c9 a (.slice (some ⟨b1,0,none⟩) q.length b4) liveQ q:=⟨r,vs,hF,g⟩;exact nv (AR.D m).AE (p.D m).AE (EA.D (c8.tm G) m Z).AB (by have:=c7 vL b7;omega) (by have:=c7 b a1;omega)
 refine cg<|M Z<|E (Dn Z)<|ve (Ab yv Z (ns a6 (by rw[kr]) G yw b6)) ?_;rintro a1 h1 ⟨e2,a1,⟨ys,hp,a6⟩⟩;obtain⟨c5,c3,rfl⟩:=jk hp;obtain⟨b6,e3,rfl,a1,a1⟩:=a6.own.len;refine Ah<|Q<|V Z<|Ag<|Q<|M Z<|M Z<|E (MV BM Z Z G G) ?_;have a1:=a6.to (k:=n) G;obtain⟨c6,e1⟩:∃e0,e0=En (.slice b6 R.length e3) 0 n 1:=⟨_,Z⟩;rw[←e1] at a1;obtain⟨o,b6⟩:∃o,o=c5.take n:=⟨_,Z⟩;have e0:c5.length=R.length:=c3.length_eq;have e0:o.length=n:=by rw[b6,kL];omega
 rw[Acn,←Afq,←Afq,←b6,←e0] at a1;have e0:∀d∈o,d∈R:=fun d hd↦c3.mem_iff.1 (Aca (by rw[←b6];exact hd));have e3:o.Nodup:=by rw[b6];exact(Aev _ _).nodup (c3.symm.nodup e5)
 rw[Int.toNat_natCast,←e1];refine E (Tv BM a1 Z) ?_;have hl:AJ _ _ 136 125 2 (.slice none 0 0) 0 []:=Br e2 h1 _ _ _;refine M Z<|Ah<|An<|AG (σ:=Nat×Value) (fun U=>[(3,P1 b3),(12,U.2),(62,c6),(63,I o.length),(64,I U.1)]) (fun U w'=>U.1≤o.length∧∃c' vs,BE c w LA c' w'∧AI c' w' 133 i [a,(.slice (some ⟨b1,0,none⟩) q.length b4)] 67∧AJ c' w' 130 4 1 a liveQ.length (liveQ.map .bool)∧AJ c' w' 131 23 1 (.slice (some ⟨b1,0,none⟩) q.length b4) q.length vs∧ZB c' w' [132] vs (TG q (o.take U.1))∧AI c' w' 103 b3 [P1 i] 184∧AJ c' w' 135 3 1 c6 o.length ((o.map fun(k:Nat)=>(k:Int)).map I)∧AJ c' w' 136 125 2 U.2 U.1 ((Hf q (o.take U.1)).flatMap FX)) (fun U=>o.length-U.1) (0,_) AL ⟨Nat.zero_le _,_,vs,hJ.D,p.D,r.D,hF.D,g.D,AR.D,a1,hl⟩ ?_;rintro⟨b0,b8⟩ c9 ⟨hi,b9,vs,hJ,p,r,hF,g,AR,a1,hl⟩;dsimp only at hi g hl;have e9:=hl.AD;have h0:=hl.AA;refine Q<|E (AX Z Z)<|Ah<|Ag<|BA Z (fun t=>?_) fun t=>?_
 ·have t:b0<o.length:=G;obtain⟨d,hd⟩:∃d,d=o[b0]:=⟨_,Z⟩;have R:d∈o:=by rw[hd];exact mv t
  have U:=c7 d (e0 d R);have a6:=e4 d (e0 d R);have b8:o.take (b0+1)=o.take b0++[d]:=by rw[pk t,hd]
  have U:d∉o.take b0:=fun h↦by
   have a7:(o.take (b0+1)).Nodup:=(Aev _ _).nodup e3;rw[b8,Ac5] at a7;exact a7.2.2 d h d Bb Z
  have R:=TW (o.take b0) q d U;obtain⟨f,hf⟩:∃f,f=q.getD d []:=⟨_,Z⟩;rw[←hf] at R a6;have U:0<f.length:=Adt.2 a6;have a6:vs.length=q.length:=by rw[g.len,RA]
  have a6:(TG q (o.take b0))[d]?=some f:=by
   rw[dd (by rw[RA];omega)];rw[hk,dd (by rw[RA];omega)] at R;exact Aao some R
  obtain⟨u,hu⟩:∃u,vs[d]?=some u:=⟨vs[d]'(by omega),dd _⟩;have b2:=g.row d u _ hu a6;obtain⟨c7,c9,rfl,a6,_⟩:=b2.AB.form;have e0:DG _ _ [135] (Bz c6 1 b0) [I d]:=a1.nw (by rw[Aah,Aah,dd t,←hd];rfl);have t:DG _ _ [131] (Bz (.slice (some ⟨b1,0,none⟩) q.length b4) 1 d) [.slice c7 f.length c9]:=hF.nw hu;have e1:=t;obtain⟨a6,c6⟩:=Co b2 U AO;have e8:=b2.AB.small;obtain⟨vL,b7⟩:∃vL,vL=f[0]:=⟨_,Z⟩;have c6:f.headD 0=vL:=by rw[b7];cases f with|nil=>simp at U|cons x l=>rfl
  rw[←b7] at a6;refine As<|Ag<|An<|Q<|E (BS BM a1 Z Z G G)<|E (Cc AF Z e0.DF)<|V Z ?_;refine Q<|M Z<|M Z<|E (Al NU Z AR.AE Z)<|E (Ak Z)<|E (Aa Cq Z)<|E (Al Ea Z p.AE Z)<|M Z<|E (BS FZ hF Z Z G G)<|E (Cc BQ Z t.DF)<|E (Ky BM b2 Z Z G G)<|E (Cc AF Z a6.DF)<|E (By (cells:=#[I d,I vL]) Z Ao) ?_;refine ve (AH b9 180 DL Z Z Z Z Z) ?_;rintro _ t ⟨t,t,rfl,b7,t⟩;refine ve (Ax DL Z Z hl.D (Aw underlying50 t.AE.AT Z Bg) Fh Fg) ?_;rintro a6 a6 ⟨a6,b9,hl⟩;refine V Z<|AM a6 [] [1,0,0,1,0,1,0,0,1,0,0,1,0,0,3] [0,1,2,3,4,5,6,7,8,9,10,11,12,13,14] fun t a6 t=>?_;refine vc Z t.kp (AR.D.kb NU Z Z)<|AN Z (Ak Z)<|AN Z (Aa Cq Z)<|vc Z t.kp (p.D.kb Ea Z Z)<|Bm Z Z<|vc Z t.kp (AR.D.kb NU Z Z)<|AN Z (Ak Z)<|AN Z (Aa Cq Z)<|vc Z t.kp (p.D.kb Ea Z Z)<|Bm Z Z<|AN Z (BS FZ hF.D Z Z G G)<|vc Z t.kp (e1.D.ke BQ Z)<|AN Z (DJ BM Z Z G G) ?_;have e0:=qQ (((b2.D b7).D b9).D a6) U;refine AN Z (BS FZ hF.D Z Z G G) ?_;refine LG Z ((Dv (j:=d) (x:= .tmp 95) (y:= .tmp 94) (u:=En (.slice c7 f.length c9) 1 f.length 1) BQ hF.D Z G (by rw[show(⟨b1,d,none⟩:Addr)=Bz (.slice (some ⟨b1,0,none⟩) q.length b4) 1 (d:Int).toNat by simp[Bz,add_lit]];rfl) Z Z Z)) ?_;rintro _ U ⟨U,U,hF⟩;refine AP ?_;refine cg<|E (Bc Z Z Ai Ai)<|M Z<|Ah ?_;have t:TG q (o.take (b0+1))=(TG q (o.take b0)).set d f.tail:=by rw[b8,nu,R]
  have R:(Hf q (o.take (b0+1))).flatMap FX=(Hf q (o.take b0)).flatMap FX++[I d,I vL]:=by
   rw[b8,Hf,Aaf,Aan];congr 1;show FX ((d:Int),(q.getD d []).headD 0)++[]=_
   rw[←hf,c6,Aaz]
  exact⟨(b0+1,_),AL,⟨by dsimp only;omega,_,_,hJ.D,p.D,r.D,hF,by dsimp only;rw[t];exact((((g.D b7).D b9).D a6).D U).set (e0.D U),AR.D,a1.D,by dsimp only;rw[R];exact((hl.D a6).D U)⟩,by show o.length-(b0+1)<o.length-b0;omega⟩
 have t:b0=o.length:=G;subst t;rw[Abi] at g hl;refine Az Z<|Q<|M Z<|za Z<|V Z<|BR Z Z Z ?_;exact⟨_,hJ.out,_,0,o,p.out hJ Z,⟨r.out hJ Z,vs,by rw[RA];exact hF.out hJ Z,⟨g.len,fun j v l b5 a7↦(g.row j v l b5 a7).WH hJ Z⟩⟩, .inr (.inr ⟨Z,c5,by rw[←a8];exact c3,b6,G⟩),hl.EO hJ,Z⟩
section
open Go.Sort Go.ChangeMaps
theorem ez(h:CJ w k 3 1 a l.length (l.map encZ))(hi:i<l.length):
 Calls QP 196 #[a,I i,I ((i:Int)+1)] w (Bt fun u w'=>w.grownBy w' a.rowOf∧u.rowOf=a.rowOf∧CJ w' k 3 1 u (l.eraseIdx i).length ((l.eraseIdx i).map encZ)):=by
 rcases h.dV with⟨rfl,A,cap,rfl⟩|⟨g,cap,f,p,rfl,U,t,C,o,r,J,j,R⟩
 ·simp at hi
 have a1:=Tryz.slices_Delete_int g 0 cap i (i+1) l w R o (by unfold maxLen at r;omega) (Ae6 _) hi;refine a1.mono fun e w' o=>?_;obtain⟨rfl,q,rfl⟩:=o;have o:l.eraseIdx i=l.take i++l.drop (i+1):=List.eraseIdx_eq_take_drop_succ _ _;have hl:(l.eraseIdx i).length=l.length-1:=by rw[List.length_eraseIdx,zm hi]
 have hg:=@grownBy_sorted_i w g q #[] (l.take i++l.drop (i+1)++replicate (i+1-i) 0).toArray;have hh:=@heap_sorted_i w g q #[] f 3 p (l.take i++l.drop (i+1)++replicate (i+1-i) 0).toArray t;rw[grow_empty] at hg hh;have t:(l.take i++l.drop (i+1)++replicate (i+1-i) (0:Int)).length=l.length:=by rw[←o,ft,Iz,hl];omega
 refine⟨_,Z,by rw[Bh j];exact hg,by rw[Bh j,Bh j],⟨by simp, .inr ⟨g,cap,_,p,by rw[hl,show i+1-i=1 by omega],U,hh,?_,G,r,?_,?_,j⟩⟩⟩
 ·simpa[putCells] using C
 ·simp[putCells,J]
 have p:=take_putCells_i f (l.take i++l.drop (i+1)++replicate (i+1-i) 0) G;have j:=Aao (List.take (l.eraseIdx i).length) p;rw[Aed,t,Acn] at*;rw[Abl G] at j;rw[j,←o,Aaf,Ad7 Bb]
theorem cl(h:CJ w k 3 1 a l.length (l.map encZ))(U:l.length<4611686018427387904):
 Calls QP 179 #[a] w (Bt fun v' w'=>w.grownBy w' a.rowOf∧v'.rowOf=a.rowOf∧CJ w' k 3 1 v' (Lib.compact l).length ((Lib.compact l).map encZ)):=by
 rcases h.dV with⟨rfl,A,cap,rfl⟩|⟨g,cap,f,o,rfl,R,p,r,t,C,I,i,J⟩
 ·refine(Tryz.slices_Compact_int_empty A cap w).mono fun e w' j=>?_;obtain⟨rfl,rfl⟩:=j;exact⟨_,Z,⟨Z,Z,Z,kM _,fun _ _ _=>rfl⟩,Z,by simpa[Lib.compact,Lib.compactUpTo] using h⟩
 refine(Tryz.slices_Compact_int g 0 cap l w J G t).mono fun e w' j=>?_;obtain⟨rfl,q,rfl⟩:=j;have hl:=Lib.compact_length_le l;have hg:=@grownBy_sorted_i w g q #[] (Lib.compact l++replicate (l.length-(Lib.compact l).length) 0).toArray;have hh:=@heap_sorted_i w g q #[] f 3 o (Lib.compact l++replicate (l.length-(Lib.compact l).length) 0).toArray p;rw[grow_empty] at hg hh;have p:(Lib.compact l++replicate (l.length-(Lib.compact l).length) 0).length=l.length:=by rw[ft,Iz];omega
 refine⟨_,Z,by rw[Bh i];exact hg,by rw[Bh i,Bh i],⟨by simp, .inr ⟨g,cap,_,o,Z,R,hh,?_,G,C,?_,?_,i⟩⟩⟩
 ·simpa[putCells] using r
 ·simp[putCells,I]
 have j:=take_putCells_i f (Lib.compact l++replicate (l.length-(Lib.compact l).length) 0) G;rw[Acn];have i:=Aao (List.take (Lib.compact l).length) j;rw[Aed,p,Abl hl,Aaf,Ad7 Bb] at i;exact i
structure Gz (c:Nat→Nat) (w:World) (i:Nat) (vs:List Value) (L:List (List Int)):Prop where
 len:vs.length=L.length
 row:∀(j:Nat) (v:Value) (l:List Int),vs[j]?=some v→L[j]?=some l→AJ c w i 3 1 v l.length (l.map I)
 apart:vs.Pairwise fun u v=>∀k,u.rowOf=some k→v.rowOf≠some k
section
variable {c c':Nat→Nat} {w w':World} {i:Nat} {vs:List Value} {L:List (List Int)} {J:List Nat}
theorem Gz.D(h:Gz c w i vs L)(m:Mv c w c' w' J:=by exact Go.Eng.KU)(hi:AU J i=false:=by rfl):Gz c' w' i vs L:=⟨h.len,fun j v l f g=>(h.row j v l f g).D m hi,h.apart⟩
theorem Gz.nil:Gz c w i [] []:=⟨Z,fun j v l h=>by simp at h,List.Pairwise.nil⟩
theorem Gz.snoc(h:Gz c w i vs L){l':List Int}(p:AJ c w i 3 1 a l'.length (l'.map I))(o:∀(k:Nat) (u:Value) (l:List Int) (b:Nat),vs[k]?=some u→L[k]?=some l→u.rowOf=some b→a.rowOf≠some b):Gz c w i (vs++[a]) (L++[l']):=by
 refine⟨by simp[h.len],fun k u l O hl=>?_,?_⟩
 ·rcases JW O with⟨rfl,rfl⟩|O
  ·rcases JW hl with⟨_,rfl⟩|hl
   ·exact p
   rw[Aam (by rw[h.len];omega)] at hl;cases hl
  rcases JW hl with⟨e,rfl⟩|hl
  ·rw[Aam (by rw[e,h.len];omega)] at O;cases O
  exact h.row k u l O hl
 rw[Abp];refine⟨h.apart,by simp,fun x hx y hy b f g=>?_⟩;simp at hy;subst hy;obtain⟨k,O⟩:=Aba hx;obtain⟨j,_⟩:=kJ.1 O;exact o k x _ b O (dd (by rw[←h.len];exact j)) f g
theorem Gz.newRow(w0:Gz j h i vs L){v:Value}(hv:∀k,v.rowOf=some k→h.heap.size≤k):∀(k:Nat) (u:Value) (l:List Int) (b:Nat),vs[k]?=some u→L[k]?=some l→u.rowOf=some b→v.rowOf≠some b:=fun k u l b O hl g f=>by
 have:=((w0.row k u l O hl).own.lt b g).2;have:=hv b f;omega
theorem Gz.zb(h:Gz c w i vs L){l':List Int}(o:vs[k]?=some a)(hu:y.rowOf=a.rowOf)(C:AJ c' w' i 3 1 y l'.length (l'.map I))(hg:w.grownBy w' a.rowOf)(hc:∀j,j<w.heap.size→c' j=c j):Gz c' w' i (vs.set k y) (L.set k l'):=by
 refine⟨by rw[Yy,Yy];exact h.len,fun j u l O hl=>?_,UZ Kj h.apart fun j u O hy b f r=>?_⟩
 ·rcases HA O with⟨rfl,rfl,_⟩|⟨p,O⟩
  ·rcases HA hl with⟨_,rfl,_⟩|⟨t,_⟩
   ·exact C
   exact absurd Z t
  rcases HA hl with⟨e,_,_⟩|⟨_,hl⟩
  ·exact absurd e p
  have f:=h.row j u l O hl;exact⟨f.own.SL fun b g=>hg.block b (f.own.lt b g).2 fun e=>Rc Kj h.apart O o p b g e.symm,fun b g=>(hc b (f.own.lt b g).2).trans (f.BF b g)⟩
 rw[hu] at f;exact Rc Kj h.apart hy o O b r f
theorem Gz.uM(h:Gz c w i vs L)(hs:∀l∈L,l.length≤1048576∧∀x∈l,Go.Eng.Int64 x):ZB c w [i] vs L:=⟨h.len,fun j v l o f=>by
 have r:=hs l (Lx f);have g:∀l:List Int,(l.flatMap fun x=>[I x])=l.map I:=fun l=>by
  induction l with
  |nil=>rfl
  |cons a l t=>rw[Aaa,t];rfl
 have p:AJ c w i 3 1 v l.length (l.flatMap fun x=>[I x]):=by rw[g];exact h.row j v l o f
 exact p.Gl G r.2⟩
end
end
def eA(n:Nat)(F:List (List Int)):Prop:=∀l∈F,l.Pairwise (·< ·)∧(∀x∈l,0≤x∧x<(n:Int))∧l.length≤n
theorem Sr(n:Nat):(He n).Pairwise (·< ·):=by
 rw[He,Adg];exact List.pairwise_lt_range.imp fun h=>by omega
theorem TY(n m:Nat):eA n (replicate m (He n)):=fun l hl=>by
 rw[Ack hl];refine⟨Sr n,fun x hx=>?_,by rw[ME];exact kM _⟩;simp[He] at hx;omega
theorem qS(h:eA n q){d:Nat}(hf:l∈q):eA n (q.set d (l.eraseIdx k)):=fun f hl=>by
 rcases Aa4 hl with g|g
 ·exact h f g
 ·rw[g];obtain⟨a,b,c⟩:=h l hf;have hs:(l.eraseIdx k).Sublist l:=List.eraseIdx_sublist l k;exact⟨a.sublist hs,fun x hx=>b x (hs.subset hx),rX hs.length_le c⟩
def tq(P:Program)(j:FuncId)(o:List Value){α:Type}(encs:α→List Value)(κ F:List Nat)(Φ:List α→(Nat→Nat)→World→Prop)(Qjq:List α→α→(Nat→Nat)→World→Prop)(Fin:List α→Prop)(c:Nat→Nat)(w:World):Prop:=
 ∀(l:Nat) (J g:List α→(Nat→Nat)→World→Prop) (c1:Nat→Nat) (W:World) (K:List Nat),Mv c w c1 W K→BB (κ++F) K=true→
  (∀s d A f B,J s d A→Mv d A f B κ→J s f B)→(∀s d A f B,g s d A→Mv d A f B κ→g s f B)→(∀s d A,J s d A→Φ s d A)→
  (∀pre x d A,J pre d A→Qjq pre x d A→∃i,BB (κ++F) i=true∧YieldAt (FW none) 0 P l (encs x).toArray A (fun e B=>∃b f,e= .returned (.bool b)∧Mv d A f B i∧(b=true→J (pre++[x]) f B)∧(b=false→g (pre++[x]) f B)))→
  J [] c1 W→
  Calls P j ([Value.func (.yield l) #[] #[]]++o).toArray W (Bt fun _ B=>∃f,(∃L,Fin L∧J L f B)∨∃pre,g pre f B)
section
variable {c:Cx} {B:List (Nat×EI)} {env:Env} {w:World} {N:EI}
theorem Vv{C:Array Tmp}{assign body:Code}{κ F:List Nat}{Φ:List α→(Nat→Nat)→World→Prop}{ms:List Value}
 (I:List α→(Nat→Nat)→World→Prop)(X:hU α)(b0:List α→(Nat→Nat)→World→Prop)(K:List Nat)
 (b9:c.Yz=none)(hg:BY env f=some (.func (.func S) #[] b.toArray))(hf:Aj c.P S=true)(hit:tq c.P S b encs κ F Φ Qjq Fin j w)(c2:AU (κ++F) 901=false)
 (e4:∀x,(encs x).length=C.size)(c5:C.all (fun p=>Nat.blt p c.n)=true)(hK:(BB (κ++F) K&& !AU K 901)=true)
 (b5:∀s d A g B,I s d A→Mv d A g B (901::κ)→I s g B)(b7:∀p∈X,∀s d A g B,p.2 s d A→Mv d A g B (901::κ)→p.2 s g B)(b8:∀s d A g B,b0 s d A→Mv d A g B (901::κ)→b0 s g B)
 (e5:∀s d A,I s d A→Φ s d A)(c8:I [] j w)
 (round:∀l pre x d A,I pre d A→Qjq pre x d A→WC ⟨c.P,c.n,#[],fun _ _=>False,some l⟩ [] assign ((4000000, .tuple #[])::NJ C.toList (encs x) env) A (fun b4 A1=>∃d1,Acc d A K d1 A1∧
  ∀A2,Mv d1 A1 d1 A2 [901]→WC ⟨c.P,c.n,#[],fun _ B'=>∃g,Acc d1 A2 K g B'∧b0 (pre++[x]) g B',some l⟩ (SO X K (pre++[x]) d1 A2) body b4 A2 (fun _ B'=>∃g,Acc d1 A2 K g B'∧I (pre++[x]) g B')))
 (done:∀L Djq d B',Fin L→I L d B'→Kv d B' Djq→N ((4000000, .tuple (I' Djq::ms).toArray)::env) B')
 (c7:∀p∈X,∀Djq pre d B',p.2 pre d B'→Kv d B' Djq→∃k,LB B p.1=some k∧k ((4000000, .tuple (I' Djq::ms).toArray)::env) B')
 (e6:∀Djq pre d B',b0 pre d B'→Kv d B' Djq→WC c B .ret ((4000000, .tuple (I' Djq::ms).toArray)::env) B' N)
 (e2:Ef env=some (.tuple ms.toArray):=by rfl):WC c B (.rangeFunc f C assign body) env w N:=by
 intro a U;have e3:∀p∈C.toList,Nat.blt p c.n=true:=by
  rw[Array.all_eq_true'] at c5;intro p hp;exact c5 p (by simpa using hp)
 simp only[kg,Aa9] at hK;have a7:AU κ 901=false:=by
  simp only[AU,Aek,Aa1] at c2;exact c2.1
 refine wpIn_rangeFunc ?_;intro fn r;rw[show(FW c.Yz).round=none from b9];obtain⟨R,r⟩:∃R,(w.alloc (.deferred (some []))).alloc (.loop (LI fn a.tmps C assign body w.heap.size .ready none))=R:=⟨_,Z⟩;have c9:R.heap[w.heap.size+1]?=some (.loop (LI fn a.tmps C assign body w.heap.size .ready none)):=by
  rw[←r];have:=Ads (w.alloc (.deferred (some []))) (.loop (LI fn a.tmps C assign body w.heap.size .ready none));rwa [Ahh] at this
 have c6:R.heap[w.heap.size]?=some (.deferred (some [])):=by
  rw[←r];exact(Agz _ _ _ Bb).trans (Ads w _)
 have a1:Below w.heap.size w R:=by
  rw[←r];exact((Aar _ w).alloc (kM _) _).alloc Bb _
 obtain⟨c1,c4,J⟩:=Mv.pure j 901 a1;have e0:c1 w.heap.size=901:=J _ (kM _);have e1:c1 (w.heap.size+1)=901:=J _ G;have marks:∀(Djq:Nat),Ex c.n ((4000000, .tuple (I' Djq::ms).toArray)::env) {a with defers:={target:= .collected Djq,args:=#[]}::a.defers}:=fun Djq=>
  ⟨U.Qp,fun v hv=>by
   have:Value.tuple (I' Djq::ms).toArray=v:=by simpa[Ef] using hv
   subst this;rw[U.defers _ e2];simp[marksOf,I'],U.size,fun k v O=>U.II k v (by
   unfold look at O;cases a1:Nat.beq 4000000 k with
   |true=>rw[a1] at O;simp at O
   |false=>rw[a1] at O;simpa using O)⟩
 refine⟨w.heap.size+1,[{target:= .collected w.heap.size,args:=#[]}],R,{target:= .fn (.func S) b.toArray,args:=#[.func (.yield (w.heap.size+1)) #[] #[]]},R,S,
  #[.func (.yield (w.heap.size+1)) #[] #[]]++b.toArray,R,?_,?_,fun _ _=>trivial,?_,fun h=>by simp[FW,Fence.wide] at h,?_⟩
 ·rw[←r];exact run_enterLoop_outer _ _ _ _ _
 ·simp only[resolve,U.eval hg];simp[go_sem]
 ·simp[invoke,go_sem,IP hf]
 let r:=LI fn a.tmps C assign body w.heap.size
 have b6:∀{d:Nat→Nat} {A:World} {g:Nat→Nat} {B':World} {k:Nat} {o:Obj},Mv d A g B' κ→d k=901→A.heap[k]?=some o→g k=901∧B'.heap[k]?=some o:=fun m hd O=>by
  have b3:=Cp O;exact⟨(m.BF _ b3).trans hd,(m.block _ b3 (by rw[hd];exact a7)).trans O⟩
 have RT:∀{d:Nat→Nat} {A:World} {g:Nat→Nat} {B':World},Mv d A g B' κ→Mv d A g B' (901::κ):=fun m=>m.more (by
  rw[Aae];intro i hi;simp only[AU,Ac3,Aa3];exact .inr (Aa8.2 ⟨i,hi,by simp⟩))
 have a7:∀{d:Nat→Nat} {A:World} {g:Nat→Nat} {B':World},Mv d A g B' [901]→Mv d A g B' (901::κ):=fun m=>m.more (by simp[AU]);have c3:=hit (w.heap.size+1)
  (fun pre d A=>I pre d A∧(d (w.heap.size+1)=901∧A.heap[w.heap.size+1]?=some (.loop (r .ready none)))∧d w.heap.size=901∧A.heap[w.heap.size]?=some (.deferred (some [])))
  (fun pre d A=>∃c0,((c0= .ret∧b0 pre d A)∨∃p∈X,c0= .exit p.1∧p.2 pre d A)∧(d (w.heap.size+1)=901∧A.heap[w.heap.size+1]?=some (.loop (r .done (some c0))))∧d w.heap.size=901∧A.heap[w.heap.size]?=some (.deferred (some [])))
  c1 R [] c4 (by simp[BB,AU])
  (fun s d A g B' ⟨J,b1,b2⟩ m=>⟨b5 _ _ _ _ _ J (RT m),b6 m b1.1 b1.2,b6 m b2.1 b2.2⟩)
  (fun s d A g B' ⟨c0,J,b1,b2⟩ m=>⟨c0,J.imp (fun h=>⟨h.1,b8 _ _ _ _ _ h.2 (RT m)⟩) (fun⟨p,hp,e,h⟩=>⟨p,hp,e,b7 p hp _ _ _ _ _ h (RT m)⟩),b6 m b1.1 b1.2,b6 m b2.1 b2.2⟩)
  (fun s d A ⟨J,_⟩=>e5 s d A J) ?_ ⟨b5 _ _ _ _ _ c8 (c4.more Z),⟨e1,c9⟩,e0,c6⟩
 ·rw[show([Value.func (.yield (w.heap.size+1)) #[] #[]]++b).toArray=#[.func (.yield (w.heap.size+1)) #[] #[]]++b.toArray by simp] at c3;have J:CallsIn (FW none) (0-1) c.P S (#[.func (.yield (w.heap.size+1)) #[] #[]]++b.toArray) R _:=(Ahc (n:=0)).2 c3;rw[b9];refine J.mono ?_;rintro e R ⟨v,rfl,g,(⟨L,hF,hi,hl,O⟩|⟨pre,c0,b6,hl,O⟩)⟩
  ·have b1:Mv g R g (R.putObj (w.heap.size+1) (.loop {r .ready none with state:= .exhausted})) [901]:=GX _ hl.1;refine⟨none,_,Ahk hl.2 (by simp[r,LI]),_,marks _,done L _ g _ hF (b5 _ _ _ _ _ hi (a7 b1)) ⟨(Abx G).trans O.2,O.1⟩⟩
  have b1:Mv g R g (R.putObj (w.heap.size+1) (.loop {r .done (some c0) with state:= .exhausted})) [901]:=GX _ hl.1;have b2:Kv g (R.putObj (w.heap.size+1) (.loop {r .done (some c0) with state:= .exhausted})) w.heap.size:=⟨(Abx G).trans O.2,O.1⟩;refine⟨some c0,_,Ahk hl.2 (by simp[r,LI]),?_⟩;rcases b6 with⟨rfl,hx⟩|⟨p,hp,rfl,hx⟩
  ·have:=e6 _ pre g _ (b8 _ _ _ _ _ hx (a7 b1)) b2 _ (marks _);rw[b9] at this;exact this
  obtain⟨k,R,b6⟩:=c7 p hp _ pre g _ (b7 p hp _ _ _ _ _ hx (a7 b1)) b2;exact wpIn_exit ⟨k,_,R,marks _,b6⟩
 rintro pre x d A ⟨hi,hl,O⟩ R;refine⟨901::K,Uo c2 hK.1,fn,_,assign,body,run_yield hl.2 (by simp[r,LI,e4 x]),?_⟩;refine roundIn_of_wpIn trivial (Aer (round (w.heap.size+1) pre x d A hi R _ ?_) ?_)
 ·have R:Ex c.n ((4000000, .tuple #[])::env) {tmps:=a.tmps,defers:=[]}:=
   ⟨U.Qp,fun v hv=>by
    have:Value.tuple #[]=v:=by simpa[Ef] using hv
    subst this;rfl,U.size,fun k v O=>U.II k v (by
    unfold look at O;cases a1:Nat.beq 4000000 k with
    |true=>rw[a1] at O;simp at O
    |false=>rw[a1] at O;simpa using O)⟩
  have b4:Ex c.n env {tmps:=a.tmps,defers:=a.defers}:=U;have J:=YG C.toList (encs x) _ _ b4 e3
  have U:((C.zip (encs x).toArray).foldl (fun R (t,a)=>R.setIfInBounds t a) a.tmps)=(C.toList.zip (encs x)).foldl (fun t (x:Nat×Value)=>t.setIfInBounds x.1 x.2) a.tmps:=by
   rw[←Ag0,Array.toList_zip]
  refine⟨J.Qp,fun v hv=>?_,?_,fun k v O=>?_⟩
  ·have:Value.tuple #[]=v:=by simpa[Ef] using hv
   subst this;rfl
  ·have:=J.size;show((C.zip (encs x).toArray).foldl (fun R (t,a)=>R.setIfInBounds t a) a.tmps).size=c.n
   rw[U];exact this
  have b1:look (NJ C.toList (encs x) env) k=some v:=by
   unfold look at O;cases a1:Nat.beq 4000000 k with
   |true=>rw[a1] at O;simp at O
   |false=>rw[a1] at O;simpa using O
  have:=J.II k v b1;show((C.zip (encs x).toArray).foldl (fun R (t,a)=>R.setIfInBounds t a) a.tmps)[k]?=some v
  rw[U];exact this
 intro e b1 A1 J;cases e with
 |normal=>
  obtain⟨b4,c3,d1,U,c4⟩:=J;have b3:=Cp hl.2;have R:=Cp O.2;have a1:d1 (w.heap.size+1)=901∧A1.heap[w.heap.size+1]?=some (.loop (r .ready none)):=⟨(U.RS.BF _ b3).trans hl.1,(U.RS.block _ b3 (by rw[hl.1];exact hK.2)).trans hl.2⟩;have b2:d1 w.heap.size=901∧A1.heap[w.heap.size]?=some (.deferred (some [])):=⟨(U.RS.BF _ R).trans O.1,(U.RS.block _ R (by rw[O.1];exact hK.2)).trans O.2⟩;refine⟨_,run_beginRound a1.2 Z,?_⟩;have c6:Mv d1 A1 d1 (A1.putObj (w.heap.size+1) (.loop {r .ready none with state:= .busy})) [901]:=GX _ a1.1;have b6:(A1.putObj (w.heap.size+1) (.loop {r .ready none with state:= .busy})).heap[w.heap.size+1]?=some (.loop {r .ready none with state:= .busy}):=Aey (Cp a1.2);have b3:(A1.putObj (w.heap.size+1) (.loop {r .ready none with state:= .busy})).heap[w.heap.size]?=some (.deferred (some [])):=(Abx G).trans b2.2;refine Aer (c4 _ c6 b1 c3) ?_;have b1:∀(c0:Option Code) (A3:World) (d3:Nat→Nat),Acc d1 (A1.putObj (w.heap.size+1) (.loop {r .ready none with state:= .busy})) K d3 A3→
   (Instr.endRound (w.heap.size+1) c0).run c.P A3= .ok (.bool c0.isNone) (A3.putObj (w.heap.size+1) (.loop (r (if c0.isNone then .ready else .done) c0)))∧
   Mv d A d3 (A3.putObj (w.heap.size+1) (.loop (r (if c0.isNone then .ready else .done) c0))) (901::K)∧Mv d3 A3 d3 (A3.putObj (w.heap.size+1) (.loop (r (if c0.isNone then .ready else .done) c0))) [901]∧
   (d3 (w.heap.size+1)=901∧(A3.putObj (w.heap.size+1) (.loop (r (if c0.isNone then .ready else .done) c0))).heap[w.heap.size+1]?=some (.loop (r (if c0.isNone then .ready else .done) c0)))∧
   d3 w.heap.size=901∧(A3.putObj (w.heap.size+1) (.loop (r (if c0.isNone then .ready else .done) c0))).heap[w.heap.size]?=some (.deferred (some [])):=fun c0 A3 d3 R=>by
   have c3:d3 (w.heap.size+1)=901:=(R.RS.BF _ (Cp b6)).trans a1.1;have c4:A3.heap[w.heap.size+1]?=some (.loop {r .ready none with state:= .busy}):=(R.RS.block _ (Cp b6) (by rw[a1.1];exact hK.2)).trans b6;have b6:A3.heap[w.heap.size]?=some (.deferred (some [])):=(R.RS.block _ (Cp b3) (by rw[b2.1];exact hK.2)).trans b3;have a1:Mv d3 A3 d3 (A3.putObj (w.heap.size+1) (.loop (r (if c0.isNone then .ready else .done) c0))) [901]:=GX _ c3;have sub:K.all (AU (901::K))=true:=by
    rw[Aae];intro i hi;simp only[AU,Ac3,Aa3];exact .inr (Aa8.2 ⟨i,hi,by simp⟩)
   have one:[901].all (AU (901::K))=true:=by simp[AU]
   refine⟨run_endRound c0 c4,(((U.RS.more sub).tr c6 one).tr R.RS sub).tr a1 one,a1,⟨c3,Aey (Cp c4)⟩,(R.RS.BF _ (Cp b3)).trans b2.1,(Abx G).trans b6⟩
  intro r a1 A3 hp;cases r with
  |normal=>
   obtain⟨_,_,d3,r,R⟩:=hp;obtain⟨f1,f2,f3,f4,f5⟩:=b1 none A3 d3 r;exact⟨_,_,f1,true,d3,Z,f2,fun _=>⟨b5 _ _ _ _ _ R (a7 f3),f4,f5⟩,fun h=>(by cases h)⟩
  |ret=>
   obtain⟨w',⟨ht,R⟩,v,hv,d3,r,U⟩:=hp;have R:a1.defers=[]:=R.resolve_left Bb;rw[R] at ht;have:w'=A3:=ht;subst this;obtain⟨f1,f2,f3,f4,f5⟩:=b1 (some .ret) w' d3 r;exact⟨_,_,f1,false,d3,Z,f2,fun h=>(by cases h),fun _=>⟨_, .inl ⟨Z,b8 _ _ _ _ _ U (a7 f3)⟩,f4,f5⟩⟩
  |exit id=>
   obtain⟨k,R,R,_,b2⟩:=hp;obtain⟨p,a1,rfl,rfl⟩:=PB R;obtain⟨d3,r,U⟩:=b2;obtain⟨f1,f2,f3,f4,f5⟩:=b1 (some (.exit p.1)) A3 d3 r;exact⟨_,_,f1,false,d3,Z,f2,fun h=>(by cases h),fun _=>⟨_, .inr ⟨p,a1,Z,b7 p a1 _ _ _ _ _ U (a7 f3)⟩,f4,f5⟩⟩
  |goto t=>exact hp.elim
  |panic r=>exact hp.elim
  |outgrown=>exact hp.elim
 |exit id=>obtain⟨k,_,R,_⟩:=J;simp[LB] at R
 |ret=>obtain⟨_,_,_,_,h⟩:=J;exact h.elim
 |goto t=>exact J.elim
 |panic r=>exact J.elim
 |outgrown=>exact J.elim
end
abbrev OZ:=Go.Value×Int×List Nat×List (List Int)
def Em(F:List (List Int))(pre:List OZ):List (List Int):=pre.foldl (fun F x=>TG F x.2.2.1) F
theorem Qb(F:List (List Int))(pre:List OZ)(x:OZ):Em F (pre++[x])=TG (Em F pre) x.2.2.1:=by rw[Em,Adq];rfl
theorem Pa(pre:List OZ):∀F:List (List Int),(Em F pre).length=F.length:=by
 induction pre with
 |nil=>exact fun _=>rfl
 |cons x pre f=>exact fun F=>by show(Em (TG F x.2.2.1) pre).length=_;rw[f,RA]
theorem cm{s:CO}{b0:Nat}:Calls QP 172 #[.agg (DB s).toArray,P1 b0] w (Bt fun u w'=>AZ w w'∧∃b2 b3,u= .func (.func 237) #[] #[P1 b3,P1 b2]∧(w.heap.size≤b2∧w.heap.size≤b3)∧Gt w' b2 (DB s) 29∧Gt w' b3 [P1 b0] 184):=by
 obtain⟨c,hO,hc⟩:=Ay w;refine AY 6 #[.tmp 4] func172 Z<|Q<|Fa c 102 fun w1 b2 c1 i f=>?_;refine Mn c1 103 fun w2 b3 c2 g AR=>?_;refine V Z<|Q<|E (Dn Z)<|V Z<|Af Z Z ?_;replace hO:=(hO.D i).D g;replace f:=f.D g;have j:w.heap.size≤b2:=by
  rcases Aab b2 w.heap.size with h|h
  ·have:=hO.BF _ h;rw[f.BF] at this;cases this
  exact h
 have l:w.heap.size≤b3:=by
  rcases Aab b3 w.heap.size with h|h
  ·have:=hO.BF _ h;rw[AR.BF] at this;cases this
  exact h
 exact⟨hO.below,_,_,Z,⟨j,l⟩,f.AE,AR.AE⟩
def StQ(liveQ:List Bool)(F:List (List Int))(km:Nat)(pre:List OZ)(x:OZ)(d:Nat→Nat)(A:World):Prop:=
 x.2.2.2=Em F pre∧NA liveQ (Em F pre) [] km x.2.1 x.2.2.1∧AJ d A 136 125 2 x.1 x.2.2.1.length ((Hf (Em F pre) x.2.2.1).flatMap FX)
theorem WI{N:Nat}(f:AI j h 76 m (DB z) 29)(AR:AI j h 76 n [P1 k] 184)(c0:AI j h 133 k [a,y] 67)(g:KD j h a y x q)(a8:x.length=q.length∧q.length≤12)(b1:0<q.length)(hs:z.k+z.m≤12):
 tq QP 237 [P1 n,P1 m] (fun liveQ:OZ=>[liveQ.1,I liveQ.2.1]) LA [76] (fun pre _ _=>pre.length≤N) (StQ x q (z.k+z.m)) (fun _=>False) j h:=by
 intro l J o c1 W K o hK C p a6 hy r;have p:∀i∈[130,131,132,133,76],AU K i=false:=fun i hi=>BD hK (by simpa using hi);replace f:=f.D o (p 76 Bb);replace AR:=AR.D o (p 76 Bb);replace c0:=c0.D o (p 133 Bb);replace g:=g.D o (CC hK Bb);have hJ:JC (J []) LA c1 W:=⟨r,fun _ _ _ _ w0 b2=>C _ _ _ _ _ w0 b2⟩;show Calls _ _ [_,_,_].toArray _ _
 refine AY 21 #[] func237 Z<|An<|AG (σ:=List OZ) (fun pre=>[(0, .func (.yield l) #[] #[]),(1,P1 n),(2,P1 m)]) (fun pre w'=>∃c',AI c' w' 76 m (DB z) 29∧AI c' w' 76 n [P1 k] 184∧AI c' w' 133 k [a,y] 67∧KD c' w' a y x (Em q pre)∧JC (J pre) LA c' w') (fun pre=>N+1-pre.length) [] AL ⟨_,f,AR,c0,g,hJ⟩ ?_;rintro pre o ⟨o,f,AR,c0,g,hJ⟩;have o:pre.length≤N:=a6 _ _ _ hJ.AB;have o:=Pa pre q;refine An<|Q<|E (Al NU Z AR.AE Z)<|E (Aa CN Z)<|E (Al AF Z f.AE Z)<|E (Aa Hk Z)<|E (Al AF Z f.AE Z)<|E (Bc Z Z G G) ?_;rw[show(z.k:Int)+(z.m:Int)=((z.k+z.m:Nat):Int) by omega];refine ve (Ab yc Z (qR (K:=[]) (nt:=[]) c0 g (by rw[o];exact a8) (by rw[o];exact b1) (fun w' _ _↦FC.nil Cg _ _) ⟨none,0,0,Z,fun w0↦by omega⟩ Z hs)) ?_;rintro o w1 ⟨c1,t,⟨vl,e,o,c0,g,p,hl,rfl⟩⟩;refine M Z<|E (Aq Z Z)<|E (Aq Z Z)<|za Z<|V Z<|Q<|M Z<|M Z<|M Z ?_;obtain⟨r,r,R⟩:=hy pre (vl,e,o,Em q pre) _ _ (hJ.D t).AB ⟨Z,p,hl⟩;refine ve (FQ Z Z R) ?_;rintro _ b4 ⟨b,a7,rfl,p,a1,U⟩;replace f:=f.D t;replace AR:=AR.D t;replace f:=f.D p (BD r Bb);replace AR:=AR.D p (BD r Bb);replace c0:=c0.D p (BD r Bb);replace g:=g.D p (CC r Bb);refine E (BL Z)<|Ah<|BA Z (fun r=>?_) fun r=>?_
 ·refine FK Z ?_;exact⟨_, .inr ⟨_,U (by simpa using r)⟩⟩
 have hJ:JC (J (pre++[(vl,e,o,Em q pre)])) LA a7 b4:=⟨a1 (by simpa using r),fun _ _ _ _ w0 b2=>C _ _ _ _ _ w0 b2⟩;refine As ?_;have p:(pre++[(vl,e,o,Em q pre)]).length≤N:=a6 _ _ _ hJ.AB;refine⟨pre++[(vl,e,o,Em q pre)],AL,⟨_,f,AR,c0,by rw[Qb];exact g,hJ⟩,?_⟩;have p:(pre++[(vl,e,o,Em q pre)]).length=pre.length+1:=by simp
 show N+1-(pre++[(vl,e,o,Em q pre)]).length<N+1-pre.length
 omega
def Fz(liveQ:List Bool)(F:List (List Int))(km:Nat)(pre:List OZ):Prop:=∀(i:Nat) (x:OZ),pre[i]?=some x→x.2.1=0∧x.2.2.2=Em F (pre.take i)∧NA liveQ (Em F (pre.take i)) [] km 0 x.2.2.1
def Ou(x:OZ):List (Int×Int):=Hf x.2.2.2 x.2.2.1
section
variable {liveQ:List Bool} {F:List (List Int)} {km:Nat} {pre:List OZ} {x:OZ}
theorem Fz.nil:Fz liveQ F km []:=fun i x h=>by simp at h
theorem Fz.snoc(h:Fz liveQ F km pre)(f:x.2.1=0)(j:x.2.2.2=Em F pre)(g:NA liveQ (Em F pre) [] km x.2.1 x.2.2.1):Fz liveQ F km (pre++[x]):=fun i y hy=>by
 rcases Aab i pre.length with hi|hi
 ·rw[Abh hi] at hy;rw[Ade (Nat.le_of_lt hi)];exact h i y hy
 ·rw[Abb hi] at hy;have e:i=pre.length:=by
   rcases Aab (i-pre.length) 1 with h|h
   ·omega
   ·rw[Aam (by simpa using h)] at hy;cases hy
  subst e;simp at hy;subst hy;rw[Aco];rw[f] at g;exact⟨f,j,g⟩
theorem XR:∀(pre:List OZ) (F:List (List Int)) {l:List Int} {y:Int},l∈Em F pre→y∈l→∃l'∈F,y∈l'
 |[],F,l,y,f,g=>⟨l,f,g⟩
 |x::pre,F,l,y,f,g=>by
  obtain⟨l',i,j⟩:=XR pre (TG F x.2.2.1) f g;exact qM _ _ i j
theorem Fz.each(h:Fz liveQ F km pre)(hl:liveQ.length=F.length)(hF:∀l∈F,∀y∈l,0≤y∧y<64)(hx:x∈pre):(Ou x).length=km∧x.2.2.1.length=km∧∀p∈Ou x,(0≤p.1∧p.1<(liveQ.length:Nat))∧0≤p.2∧p.2<64:=by
 obtain⟨i,hi⟩:=Aba hx;obtain⟨_,o,g⟩:=h i x hi;rcases g with⟨g,_⟩|⟨g,_⟩|⟨_,Djq,t,j,C⟩
 ·simp at g
 ·simp at g
 have g:x.2.2.1.length=km:=by rw[j,kL];omega
 refine⟨by rw[Ou,Hf,kr,g],g,fun p hp=>?_⟩;rw[Ou,Hf] at hp;obtain⟨d,hd,rfl⟩:=Aag.1 hp;have g:d∈Gd liveQ (Em F (pre.take i)) [] liveQ.length:=t.mem_iff.1 (by rw[j] at hd;exact Aca hd);obtain⟨j,j⟩:=MH.1 g;refine⟨⟨by show(0:Int)≤(d:Int);omega,by show(d:Int)<_;omega⟩,?_⟩;show 0≤(x.2.2.2.getD d []).headD 0∧(x.2.2.2.getD d []).headD 0<64
 rw[o];have o:d<(Em F (pre.take i)).length:=by rw[Pa];omega
 rw[TV,kg] at j;have g:=j.2;rw[hk,dd o] at g⊢;simp only[Ada] at g⊢;have j:=mv o;generalize(Em F (pre.take i))[d]=f at g j⊢;cases f with
 |nil=>simp at g
 |cons a r=>
  obtain⟨t,g,o⟩:=XR _ _ j (Aau (a:=a) (l:=r));exact hF t g a o
end
section
open Go.Sort Go.ChangeMaps
theorem eB(h:CJ w k 3 1 a l.length (l.map I))(hi:i<l.length):
 Calls QP 196 #[a,I i,I ((i:Int)+1)] w (Bt fun u w'=>w.grownBy w' a.rowOf∧w.grownBy w' a.rowOf∧u.rowOf=a.rowOf∧CJ w' k 3 1 u (l.eraseIdx i).length ((l.eraseIdx i).map I)):=
 (ez h hi).mono fun e w' ⟨u,f,g,j⟩=>⟨u,f,g,g,j⟩
theorem Gz.rdE(h:Gz c w i b q)(hO:eA n q)(o:n≤1000)(f:b[k]?=some a)(g:q[k]?=some l):Bu Cg c w [i] a l:=by
 refine(h.uM fun l hl=>?_).row k a l f g;obtain⟨v,vs,d⟩:=hO l hl;exact⟨G,fun x hx=>by have:=vs x hx;exact⟨G,G⟩⟩
end
def aaG(liveQ:List Bool)(F:List (List Int))(km many:Nat)(c':Nat→Nat)(w':World)(vl:Value)(e:Int):Prop:=
 (e=0∧∃pre,Fz liveQ F km pre∧pre.length=many∧AJ c' w' 137 50 1 vl pre.length (pre.map (·.1))∧∀x∈pre,Bu Bx c' w' [136] x.1 (Ou x))∨
 (e≠0∧vl= .slice none 0 0∧∃p f,Fz liveQ F km p∧p.length<many∧NA liveQ (Em F p) [] km e f)
theorem jn{f:List Nat}(h:NA x q [] k p f):0≤p∧p≤6:=by
 rcases h with⟨h,_⟩|⟨h,_⟩|⟨h,_⟩<;>omega
structure vI (c:Nat→Nat) (w:World) (pre:List OZ):Prop where
 el:∀x∈pre,Bu Bx c w [136] x.1 (Ou x)
theorem vI.D{c:Nat→Nat}{w:World}{pre:List OZ}(h:vI c w pre)(m:Mv c w c' w' e:=by exact Go.Eng.KU)(hi:BB [136] e=true:=by rfl):vI c' w' pre:=⟨fun x hx=>(h.el x hx).D m hi⟩
structure eC (c0:Nat→Nat) (w0:World) (d:Nat→Nat) (B:World) (b6 b7 b8 many:Nat) (pre:List OZ):Prop where
 old:BE c0 w0 LA d B
 b7:AI d B 107 b7 [I 0] 44
 b8:AI d B 108 b8 [I many] 3
 l:∃vl,AI d B 106 b6 [vl] 181∧AJ d B 137 50 1 vl pre.length (pre.map (·.1))
 p:vI d B pre
theorem eC.D{c0:Nat→Nat}{d f:Nat→Nat}{B':World}{b8 many:Nat}{pre:List OZ}(w0:eC c0 h d N k n b8 many pre)(m:Mv d N f B' e:=by exact Go.Eng.KU)(g:AU e 0=false:=by rfl)(hi:BB [106,107,108,136,137] e=true:=by rfl):eC c0 h f B' k n b8 many pre:=by
 obtain⟨vl,i,j⟩:=w0.l;exact⟨w0.old.D m g,w0.b7.D m (BD hi Bb),w0.b8.D m (BD hi Bb),⟨vl,i.D m (BD hi Bb),j.D m (BD hi Bb)⟩,w0.p.D m (CC hi Bb)⟩
theorem qT{s:CO}{b0:Nat}{vF:Value}{F:List (List Int)}(hs:Small s)(R:AI c w 133 b0 [y,vF] 67)(C:KD c w y vF x F)(e3:x.length=F.length∧F.length≤12)(e9:0<F.length)(hF:∀l∈F,∀vL∈l,0≤vL∧vL<64)(h1:n≤2000):
 Calls QP 101 #[.agg (DB s).toArray,P1 b0,I n] w (Bt fun u w'=>∃c',Mv c w c' w' LA∧∃vl e,aaG x F (s.k+s.m) (BI s n) c' w' vl e∧u= .tuple #[vl,I e]):=by
 have hJ:=BE.start c w LA;replace R:=R.Dt (J:=LA) Z;replace C:KD (Bw c LA) w y vF x F:=by
  obtain⟨g,vs,hF,f⟩:=C;exact⟨g.Dt Z,vs,hF.Dt Z,⟨f.len,fun j v l t r=>iP (f.row j v l t r) Z⟩⟩
 generalize Bw c LA=c0 at hJ R C;obtain⟨f,g,g,i,g⟩:=id hs;have a8:BI s n≤n:=by
  rw[BI];have g:1≤s.k*s.size:=WO f i;have r:=Nat.div_le_div_left (a:=n+s.k*s.size-1) g G;rcases Aa6 n with f|f
  ·subst f;rw[Adx G];omega
  refine Nat.div_le_of_le_mul ?_;have U:n+s.k*s.size-1≤s.k*s.size*n:=by
   have b1:=WN (n-1) g;have f:s.k*s.size*n=s.k*s.size*(n-1)+s.k*s.size:=by
    rw[show n=n-1+1 by omega,Nat.mul_add,Acn];simp
   omega
  exact U
 refine AY 41 #[.cell 6 181, .cell 7 44] func101 Z<|Q<|Fa c0 103 fun w1 b3 c1 c5 AR=>?_;refine EK c1 106 pO fun w2 b6 c2 a7 f=>EK c2 107 Uy fun g b7 i c7 g=>Ah<|Q<|E (Ba CP Z AR.D.AE Z)<|M Z<|ve (Ac i 1 (Ab tV Z (Zx hs.ok G))) ?_;rintro i i ⟨i,a6,o,rfl⟩;refine EK i 108 QN fun i b8 a1 b2 o=>Av (Ap AF Z Z ra ra o Z) ?_;rintro _ i ⟨o,b4⟩;refine Ah<|Ag<|An<|Ag ?_;obtain⟨many,i⟩:∃many,many=BI s n:=⟨_,Z⟩;rw[←i] at o a8;rw[←i];refine cg<|E (Al AF Z o.AE Z)<|E (BO Z Z)<|V Z<|BA Z (fun i=>?_) fun i=>?_
 ·have i:many=0:=G;refine Q<|Av (Ap Md Z Z ra ra f.D Z) ?_;rintro _ a8 ⟨f,a8⟩;refine Av (Ap KF Z Z ra ra g.D Z) ?_;rintro _ a8 ⟨g,a8⟩;refine Ah<|DI Z (IR Md Z f.D.AE Z) (IR KF Z g.AE Z) ?_;exact⟨_,hJ.D.out,_,0, .inl ⟨Z,[],Fz.nil,by rw[i];rfl,Br _ _ _ _ _,fun liveQ hx=>by simp at hx⟩,Z⟩
 refine Q<|E (Aa CN Z)<|E (Al AF Z AR.D.AE Z)<|E (Aa Hk Z)<|E (Al AF Z AR.D.AE Z)<|E (Bc Z Z Ai Ai)<|E (CM Z Z)<|za Z ?_;refine Ah<|Cz Z (fun i=>?_) fun i=>?_
 ·simp only[YF] at i;omega
 refine As<|Ag<|Q<|E (Ba CP Z AR.D.AE Z)<|M Z<|ve (Ac a1 76 (Ab xz Z (cm (s:=s) (b0:=b0)))) ?_;rintro i e1 ⟨b9,a1,i,⟨a8,b5,rfl,⟨c6,e0⟩,c3,c4⟩⟩;have c8:AI _ _ 76 a8 (DB s) 29:=⟨c3,i _ c6⟩;have c9:AI _ _ 76 b5 [P1 b0] 184:=⟨c4,i _ e0⟩;have c6:eC c w b9 e1 b6 b7 b8 many []:=⟨(((((((hJ.D c5).D a7).D c7).D a6).D b2).D b4).D a1),((((g.D a6).D b2).D b4).D a1),(o.D a1),⟨_,(((((f.D c7).D a6).D b2).D b4).D a1),Br _ _ _ _ _⟩,⟨fun liveQ hx=>by simp at hx⟩⟩;refine Ah<|An<|Vv (α:=OZ) (encs:=fun liveQ:OZ=>[liveQ.1,I liveQ.2.1]) (κ:=LA) (F:=[76]) (Φ:=fun pre _ _=>pre.length≤many) (Qjq:=StQ x F (s.k+s.m)) (Fin:=fun _=>False)
  (fun pre d B=>(Fz x F (s.k+s.m) pre∧pre.length<many)∧eC c w d B b6 b7 b8 many pre) [(1,fun pre d B=>(Fz x F (s.k+s.m) pre∧pre.length=many)∧eC c w d B b6 b7 b8 many pre)]
  (fun _ d B=>BE c w LA d B∧∃p i e,(Fz x F (s.k+s.m) p∧p.length<many∧NA x (Em F p) [] (s.k+s.m) e i∧e≠0)∧AI d B 106 b6 [.slice none 0 0] 181∧AI d B 107 b7 [I e] 44) [106,107,137] Z Z yb (WI (N:=many) c8 c9 R.D C.D e3 e9 G) Z (fun _=>rfl) Bb Z
  (fun s d A a8 B ⟨t,r⟩ m=>⟨t,r.D m⟩) (fun p hp=>by
   simp only[pv] at hp;subst hp;exact fun s d A a8 B ⟨t,r⟩ m=>⟨t,r.D m⟩) (fun s d A a8 B ⟨t,p,i,e,r,U,b1⟩ m=>⟨t.D m,p,i,e,r,U.D m,b1.D m⟩)
  (fun s d A h=>Nat.le_of_lt h.1.2) ⟨⟨Fz.nil,by show 0<many;omega⟩,c6⟩ ?_ ?_ ?_ ?_
 ·clear hJ R C c6 c8 c9 c3 c4 f g o;rintro l pre ⟨r,e,i,b1⟩ d B ⟨⟨hp,a8⟩,c5⟩ ⟨e0,U,e1⟩;dsimp only at e0 U e1;have hK:=Acc.refl d B [106,107,137];obtain⟨b5,b9,rfl,r⟩:=e1.own.len;have e2:=jn U;refine Q<|V Z<|cg<|V Z<|⟨_,hK,?_⟩;replace AR:=(((((AR.D a7).D c7).D a6).D b2).D b4).D a1;intro A2 a7;have hK:=Acc.refl d A2 [106,107,137];obtain⟨hJ,g,o,⟨vl,f,r⟩,b4⟩:=(c5.D a7);have e6:=r.AD;have e7:=r.AA;have t:pre.length≤2000:=G;refine An<|Ag<|Q<|M Z<|E (BK Z Z)<|Ah<|BA Z (fun t=>?_) fun t=>?_
  ·refine Q<|M Z<|Av (Ap Md Z Z ra ra f Z) ?_;rintro _ t ⟨f,t⟩;refine Av (Ap KF Z Z ra ra g.D Z) ?_;rintro _ t ⟨g,t⟩;refine Ah<|FK Z ?_;exact⟨_,hK.D,hJ.D,pre,i,e,⟨hp,a8,U,G⟩,f.D,g⟩
  have t:e=0:=G;subst t;refine As<|Q<|E (Al Md Z f.AE Z)<|M Z<|ve (AH d 134 fY Z Z Z Z Z) ?_;rintro _ t ⟨t,t,rfl,a1,t⟩;refine ve (Ax fY Z Z r.D (Aw underlying181 t.AE.AT Z Bg) Fh Fg) ?_;rintro a6 a6 ⟨c7,a6,r⟩;have e6:=r.AD;have e7:=r.AA;refine Av (Ap Md Z Z ra ra f.D Z) ?_;rintro _ e8 ⟨f,t⟩;refine Ah<|Ag ?_;have b2:Fz x F (s.k+s.m) (pre++[(Value.slice b5 i.length b9,(0:Int),i,b1)]):=hp.snoc Z e0 U;have e4:=b2.each e3.1 hF (Abr _ (pv.2 Z));have h0:Bu Bx c7 e8 [136] (Value.slice b5 i.length b9) (Hf b1 i):=by
   have e5:(Hf b1 i).length=i.length:=List.length_map _;refine Jf (by rw[e5,e0];exact((((e1.D a7).D a1).D a6).D t)) (by rw[e5];have a7:=e4.2.1;dsimp only at a7;omega) fun p hp=>?_;have:=e4.2.2 p hp;exact⟨⟨G,G⟩,G,G⟩
  have a7:eC c w c7 e8 b6 b7 b8 many (pre++[(Value.slice b5 i.length b9,(0:Int),i,b1)]):=⟨(((hJ.D a1).D a6).D t),(((g.D a1).D a6).D t),(((o.D a1).D a6).D t),⟨_,f,by rw[ft,Aaf];exact(r.D t)⟩,⟨fun vL hy=>by
   rcases Aac.1 hy with h|h
   ·exact(((b4.D a1).D a6).D t).el vL h
   rw[pv.1 h];exact h0⟩⟩
  refine cg<|E (Al Md Z f.AE Z)<|E (BN fY) ?_;refine E (Al AF Z o.D.AE Z)<|E (BO Z Z)<|Ah<|BA Z (fun t=>?_) fun t=>?_
  ·refine Az Z ?_;exact⟨_,hK.D,⟨b2,by rw[ft];show pre.length+1=many;omega⟩,a7⟩
  refine As ?_;exact⟨_,hK.D,⟨b2,by rw[ft];show pre.length+1<many;omega⟩,a7⟩
 ·exact fun L Djq d B h=>h.elim
 ·intro p hp;simp only[pv] at hp;subst hp;rintro Djq pre d B ⟨⟨hp,a8⟩,c5⟩ t;refine⟨_,Z,?_⟩;obtain⟨hJ,g,o,⟨vl,f,r⟩,b4⟩:=c5;have e6:=r.AD;have e7:=r.AA;refine Q<|E (Al Md Z f.AE Z)<|Av (Ap Md Z Z ra ra f Z) ?_;rintro _ o ⟨f,a1⟩;refine Av (Ap KF Z Z ra ra g.D Z) ?_;rintro _ o ⟨g,a6⟩;refine Ah ?_;obtain⟨o,a7⟩:=((t.D a1).D a6).take;refine Jx Z Z o (IR Md Z f.D.AE Z) (IR KF Z g.D.AE Z) ?_;exact⟨_,hJ.D.out,_,0, .inl ⟨Z,pre,hp,a8,r.D.EO hJ.D,fun liveQ hx=>(b4.D.el liveQ hx).EO hJ.D⟩,Z⟩
 rintro Djq pre d B ⟨hJ,p,i,e,⟨hp,a8,U,e2⟩,f,g⟩ t;skip;obtain⟨o,a7⟩:=t.take;refine Jx Z Z o (IR Md Z f.D.AE Z) (IR KF Z g.D.AE Z) ?_;exact⟨_,hJ.D.out,_,e, .inr ⟨e2,Z,p,i,hp,a8,U⟩,Z⟩
def Ce(n m:Nat)(f:List (Int×Int)):List (List Int):=(List.range m).map fun(d:Nat)=>(He n).filter fun a=> !f.contains ((d:Int),a)
theorem Hb(n m:Nat)(f:List (Int×Int)):(Ce n m f).length=m:=by simp[Ce]
theorem Ss(n m:Nat):Ce n m []=replicate m (He n):=by
 apply Ab6
 ·simp[Ce]
 ·intro j f g;simp[Ce]
theorem Pb(h:k<m):(Ce n m u)[k]?=some ((He n).filter fun a=> !u.contains ((k:Int),a)):=by simp[Ce,h]
theorem XT{a:Int}(h:p<0∨(m:Int)≤p):Ce n m (u++[(p,a)])=Ce n m u:=by
 refine Abw fun k O=>Aea fun x _=>?_;rw[Aax] at O;have:(((k:Int),x)==(p,a))=false:=by simp;omega
 rw[Agi];simp only[List.contains_cons,this,List.contains_nil,Ad9]
theorem RD(h:k<m)(hf:(Ce n m u)[k]?=some l):Ce n m (u++[((k:Int),p)])=(Ce n m u).set k (l.filter fun x=>x≠p):=by
 rw[Pb h] at hf;injection hf with hf;apply Ab6
 ·simp[Ce]
 intro d i j;rw[Adc];split
 ·rename_i e;subst e;simp only[Ce,Ac0,Adk,←hf,Agy];refine Aea fun x _=>?_;rw[Agi];by_cases e:x=p
  ·subst e;simp
  simp[e]
 rename_i e;simp only[Ce,Ac0,Adk];refine Aea fun x _=>?_;rw[Agi];have:(((d:Int),x)==((k:Int),p))=false:=by simp;omega
 simp only[List.contains_cons,this,List.contains_nil,Ad9]
theorem Nn(h:p∉l):(l.filter fun x=>x≠p)=l:=List.filter_eq_self.2 fun x hx=>by
 have:x≠p:=fun e=>h (e▸hx);simp[this]
theorem cn{x:α}(h:t[k]?=some x):t.set k x=t:=by
 apply Ab6
 ·simp
 ·intro d f g;rw[Adc];split
  ·rename_i e;subst e;exact(kJ.1 h).2.symm
  ·rfl
theorem cq(hs:l.Pairwise (·< ·))(hx:p∈l):l.countP (·<p)<l.length∧l.eraseIdx (l.countP (·<p))=l.filter fun y=>y≠p:=by
 induction l with
 |nil=>simp at hx
 |cons y l x=>
  obtain⟨f,i⟩:=Abg.1 hs;rcases Aak.1 hx with rfl|hx
  ·have g:l.countP (·<p)=0:=List.countP_eq_zero.2 fun z j=>by have:=f z j;simp;omega
   rw[List.countP_cons_of_neg Bb,g];refine⟨by simp,?_⟩;rw[List.eraseIdx_cons_zero,List.filter_cons_of_neg Bb];exact(Nn fun h=>by have:=f p h;omega).symm
  have hy:=f p hx;obtain⟨r,o⟩:=x i hx;rw[List.countP_cons_of_pos (by simpa using hy)];refine⟨by rw[SG];omega,?_⟩;rw[List.eraseIdx_cons_succ,Ac2 (by simp;omega),o]
def Cu(n:Nat)(A:CS):List Bool:=(List.range n).map fun(k:Nat)=>BG A (k:Int)
theorem DC(n:Nat)(A:CS):(Cu n A).length=n:=by simp[Cu]
theorem Tl(n:Nat)(A:CS):Cu (n+1) A=Cu n A++[BG A (n:Int)]:=by simp[Cu,Abf]
section
open Go.Sort Go.ChangeMaps
theorem uN(h:Rd Cg w a l)(hp:HO a)(hs:l.Pairwise (·< ·))(hl:l.length≤1048576):Calls QP 195 #[a,I p] w (Bt fun u w'=>AZ w w'∧∃(k:Nat) (b:Bool),u= .tuple #[I k, .bool b]∧(b=true→k<l.length∧l.eraseIdx k=l.filter fun y=>y≠p)∧(b=false→p∉l)):=by
 obtain⟨A,n,c,rfl,i⟩:=hp;have C:l.length=n:=by obtain⟨J,c',f,_⟩:=h.form;injection f with _ f _;exact f.symm
 subst C;rcases Aa6 l.length with g|g
 ·have r:l=[]:=rY g;subst r;refine(Tryz.slices_BinarySearch_int_empty A c p w).mono fun e w' f=>?_;obtain⟨rfl,rfl⟩:=f;exact⟨_,Z,Aar _ _,0,false,Z,(fun h=>by cases h),fun _=>by simp⟩
 obtain⟨b,off,i⟩:=i g;subst i;refine(Tryz.slices_BinarySearch_int b off l.length c l p w (kM _) G (fun j x=>?_) (by rw[Abi];exact hs.imp fun h=>by omega)).mono fun e w' f=>?_
 ·obtain⟨cs,hc,rfl,_⟩:=h.el x;have t:=hc.1 0 (I l[j]) Z;rw[hk,dd x,Ada];simpa[Bz,add_lit,Cg,Shape.flat] using t
 obtain⟨rfl,q,rfl⟩:=f;rw[Abi];refine⟨_,Z,?_,_,_,Z,fun o=>?_,fun o=>?_⟩
 ·exact⟨Z,Z,Z,kM _,fun _ _=>rfl⟩
 ·exact cq hs (by simpa using o)
 simpa using o
theorem jo{vS vT vG vL:Value}{b:Bk}{liveQ:List Bool}{n:Nat}(c4:Rd DS w vS b.Ae)(s7:vT.oneCell'=true)(s8:vG.oneCell'=true)(h6:Rd DW w vL liveQ)(hl:liveQ.length≤12)(r8:n≤64):
 Calls QP 119 #[.agg #[vS,vT,vG,I b.next],vL,I n] w (Bt fun u w'=>∃c',Mv c w c' w' []∧∃k6 k5 F,KD c' w' k6 k5 liveQ F∧F=Ce n liveQ.length (b.Ae.flatMap (·.Ad))∧u= .agg #[k6,k5]):=by
 have s6:=c4.AD;have s9:=h6.AD;have hJ:=BE.start c w [];have a1:=c4.mL (c:=c) [];have U:=h6.mL (c:=c) [];have x9:=c4.small;generalize Bw c []=c0 at hJ a1 U;refine AY 84 #[.cell 6 67] func119 Z<|Q<|Fa c0 103 fun w1 b3 c1 r1 AR=>?_;refine EK c1 106 NV fun w2 b6 c2 r4 R=>Ah<|Q<|M Z<|ve (Ac c2 130 (Ab xK Z (er U.D.AB G))) ?_;rintro u4 x0 ⟨k9,r5,p5,C⟩;replace C:=C.Du p5;obtain⟨h0,h4,rfl,_⟩:=C.own.len;refine E (By (cells:=#[.slice h0 liveQ.length h4, .slice none 0 0]) Z Ao) ?_;refine EK k9 107 NV fun x1 b7 h3 n2 t=>Av (Am IU Z Z t Z Z Bg) ?_;rintro _ k7 ⟨t,n3⟩;refine Ah<|Ag<|Ag ?_;replace C:=(C.D n2).D n3;rw[ji] at C;have o:AJ h3 k7 131 23 1 (.slice none 0 0) 0 []:=Br _ _ _ _ _;have r:Gz h3 k7 132 [] (replicate 0 (He n)):=Gz.nil;obtain⟨b1,e3⟩:∃b1,b1=Value.slice h0 liveQ.length h4:=⟨_,Z⟩;have u7:b1.oneCell'=true:=by rw[e3];rfl
 rw[←e3] at C t;clear e3;refine cg<|M Z<|E (BN Fi) ?_;refine M Z<|Ah<|An<|AG (σ:=Nat) (fun i=>[(1,vL),(2,I n),(3,P1 b3),(6,P1 b6),(7,P1 b7),(18,I liveQ.length),(19,I i)]) (fun i w'=>i≤liveQ.length∧∃c' a7 vs,BE c w [] c' w'∧Bu DS c' w' [0] vS b.Ae∧Bu DW c' w' [0] vL liveQ∧AI c' w' 103 b3 [vS,vT,vG,I b.next] 58∧AI c' w' 106 b6 [.slice none 0 0, .slice none 0 0] 67∧AI c' w' 107 b7 [b1,a7] 67∧AJ c' w' 130 4 1 b1 liveQ.length (liveQ.map .bool)∧AJ c' w' 131 23 1 a7 i vs∧Gz c' w' 132 vs (replicate i (He n))) (fun i=>liveQ.length-i) 0 AL ⟨Wm _,_,_,_,hJ.D,a1.D,U.D,AR.D,R.D,t,C,o,r⟩ ?_;clear hJ a1 U AR R t C o r;rintro i q0 ⟨hi,c8,a7,vs,hJ,a1,U,AR,R,t,C,o,r⟩;have e9:=o.AD;have k4:=o.AA;refine Q<|E (AX Z Z)<|Ah<|Ag<|BA Z (fun o1=>?_) fun o1=>?_
 ·have c6:i<liveQ.length:=G;have e7:=r;refine As<|Ag<|An<|AM c8 [131] [0,1,0,2,2,2,0,3] [0,1,2,3,4,5,6,7] fun x2 h9 p=>?_;refine AN Z (Aa Cq Z)<|vc Z p.kp (t.D.kb Ea Z Z)<|Bm Z Z<|Db Z (Ac c8 132 (Ab xL Z (qL G))) ?_;rintro p8 x3 ⟨l0,j0,p6,k0⟩;refine p.Bl j0 fun p=>?_;have p0:=e7.newRow (v:=p8) (fun k O↦rX h9.size (k0.lt k O).1);have k1:=k0.Du p6;obtain⟨h1,h5,rfl,_⟩:=k1.own.len;replace r:=(r.D h9).D j0;replace r:=r.snoc (l':=He n) (by rw[ME];exact k1) p0;rw[←Adp] at r;refine Db Z (AH l0 125 FZ Z Z Z Z Z) ?_;rintro _ x4 ⟨q3,q9,rfl,n4,j2⟩;refine p.Bl n4 fun p=>Db Z (Ax FZ Z Z o.D (Aw underlying65 j2.AE.AT Z Bg) Fh Fg) ?_;rintro u5 x5 ⟨r0,n5,o⟩;refine p.Bl n5 fun p=>?_;clear j2;have e9:=o.AD;have k4:=o.AA;refine AN Z (Aa Cq Z)<|LG Z (Ap Ea Z Z ra ra t.D Z) ?_;rintro _ u9 ⟨t,l7⟩;try replace p:=p.tr l7 Z
  refine AP ?_;clear p;refine cg<|E (Bc Z Z Ai Ai)<|M Z<|Ah ?_;exact⟨i+1,AL,⟨G,_,_,_,hJ.D,a1.D,U.D,AR.D,R.D,t,C.D,o.D,r.D⟩,G⟩
 have e:i=liveQ.length:=G;subst e;obtain⟨F,hF⟩:∃F,F=replicate liveQ.length (He n):=⟨_,Z⟩;have b2:F.length=liveQ.length:=by rw[hF,Iz]
 have a6:eA n F:=by rw[hF];exact TY _ _
 rw[←hF] at r;rw[←b2] at o;refine Az Z<|Ag<|Q<|E (Aa CA Z)<|E (Al Ei Z AR.AE Z)<|E (BN Di) ?_;refine M Z<|Ah<|An ?_;refine AG (σ:=Nat) (fun i=>[(1,vL),(2,I n),(3,P1 b3),(6,P1 b6),(7,P1 b7),(30,vS),(31,I b.Ae.length),(32,I i)]) (fun i w'=>i≤b.Ae.length∧∃c' a7 vs F,(F.length=liveQ.length∧eA n F∧F=Ce n liveQ.length ((b.Ae.take i).flatMap (·.Ad)))∧BE c w [] c' w'∧Bu DS c' w' [0] vS b.Ae∧Bu DW c' w' [0] vL liveQ∧AI c' w' 106 b6 [.slice none 0 0, .slice none 0 0] 67∧AI c' w' 107 b7 [b1,a7] 67∧AJ c' w' 130 4 1 b1 liveQ.length (liveQ.map .bool)∧AJ c' w' 131 23 1 a7 F.length vs∧Gz c' w' 132 vs F) (fun i=>b.Ae.length-i) 0 AL ⟨Wm _,_,_,_,F,⟨b2,a6,by rw[hF];exact(Ss _ _).symm⟩,hJ,a1,U,R,t,C,o,r⟩ ?_;clear hJ a1 U AR R t C o r hF b2 a6 e9 k4;rintro i q0 ⟨hi,c8,a7,vs,F,⟨b2,a6,a8⟩,hJ,a1,U,R,t,C,o,r⟩;refine Q<|E (AX Z Z)<|Ah<|Ag<|BA Z (fun o2=>?_) fun o2=>?_
 ·have c6:i<b.Ae.length:=G;have s0:b.Ae≠[]:=fun e↦by rw[e] at c6;simp at c6
  obtain⟨u,e6,b0,_⟩:=GK a1 c6;have u0:=b0.AB.AD;have u1:=b0.AB.AA;have p7:=b0.AB.small;obtain⟨x,hx⟩:∃x,x=b.Ae[i]:=⟨_,Z⟩;rw[←hx] at e6 b0 p7;refine As<|Ag<|An<|Q<|E (Cv Di) ?_;refine E (DT Cn Z e6.DF Z)<|EK c8 109 HF fun v7 q4 q6 r2 e5=>?_;refine Av (Am Cn Z Z e5 Z Z Bg) ?_;rintro _ v8 ⟨e5,r3⟩;refine Ah<|Q<|E (Aa Cl Z)<|E (Al CH Z e5.AE Z)<|E (BN DL) ?_;refine M Z<|Ah<|An ?_;refine AG (σ:=Nat) (fun q=>[(1,vL),(2,I n),(3,P1 b3),(6,P1 b6),(7,P1 b7),(30,vS),(31,I b.Ae.length),(32,I i),(37,u),(38,I x.Ad.length),(39,I q)]) (fun q w'=>q≤x.Ad.length∧∃c' a7 vs F,(F.length=liveQ.length∧eA n F∧F=Ce n liveQ.length ((b.Ae.take i).flatMap (·.Ad)++x.Ad.take q))∧BE c w [] c' w'∧Bu DS c' w' [0] vS b.Ae∧Bu DW c' w' [0] vL liveQ∧Bu Bx c' w' [0] u x.Ad∧AI c' w' 106 b6 [.slice none 0 0, .slice none 0 0] 67∧AI c' w' 107 b7 [b1,a7] 67∧AJ c' w' 130 4 1 b1 liveQ.length (liveQ.map .bool)∧AJ c' w' 131 23 1 a7 F.length vs∧Gz c' w' 132 vs F) (fun q=>x.Ad.length-q) 0 AL ⟨Wm _,_,_,_,F,⟨b2,a6,by rw[Aeu,Aaz];exact a8⟩,hJ.D,a1.D,U.D,b0.D,R.D,t.D,C.D,o.D,r.D⟩ ?_;clear hJ a1 U R t C o r b2 a6 a8 b0 e6;rintro m x6 ⟨r6,l1,a7,vs,F,⟨b2,a6,a8⟩,hJ,a1,U,b0,R,t,C,o,r⟩;refine Q<|E (AX Z Z)<|Ah<|Ag<|BA Z (fun n9=>?_) fun n9=>?_
  ·have j9:m<x.Ad.length:=G;obtain⟨j4,e8⟩:=Co b0 j9 AO;obtain⟨d,hd⟩:∃d,d=x.Ad[m].1:=⟨_,Z⟩;obtain⟨a,j1⟩:∃a,a=x.Ad[m].2:=⟨_,Z⟩;rw[←hd,←j1] at j4;have e0:(b.Ae.take i).flatMap (·.Ad)++x.Ad.take (m+1)=((b.Ae.take i).flatMap (·.Ad)++x.Ad.take m)++[(d,a)]:=by rw[pk j9,←oo,hd,j1]
   obtain⟨c3,n6⟩:∃c3,c3=(b.Ae.take i).flatMap (·.Ad)++x.Ad.take m:=⟨_,Z⟩;rw[←n6] at e0 a8;refine As<|Ag<|An<|Q<|E (Cv DL) ?_;refine E (DT Dj Z j4.DF Z)<|EK l1 111 JU fun w0 q2 h2 b8 b5=>?_;refine Av (Am Dj Z Z b5 Z Z Bg) ?_;rintro _ w3 ⟨b5,b9⟩;refine Ah<|Ag<|Q<|E (Aa Ct Z)<|E (Al AF Z b5.AE Z)<|E (AX Z Z)<|M Z ?_;apply AW false 5 _ CK
   ·intro s3;refine wo<|E (Aa Ct Z)<|wo<|E (Al AF Z b5.AE Z)<|wo<|M Z<|wo<|E (BN Fi) ?_;refine wo<|E (Dh Z Z) ?_;exact EQ 5
   refine Ah<|BA Z (fun o0=>?_) fun o0=>?_
   ·have c5:F=Ce n liveQ.length (c3++[(d,a)]):=by rw[XT G];exact a8
    refine Az Z<|cg<|E (Bc Z Z Ai Ai)<|M Z<|Ah ?_;exact⟨m+1,AL,⟨G,_,_,_,_,⟨by assumption,by assumption,by rw[e0];exact c5⟩,hJ.D,a1.D,U.D,b0.D,R.D,t.D,C.D,o.D,r.D⟩,G⟩
   obtain⟨J,o6⟩:∃J:Nat,d=J:=⟨d.toNat,G⟩;subst o6;have o5:J<F.length:=G;have s4:=((r.D b8).D b9).len;obtain⟨g,cp,rfl,r9,r7⟩:=((o.D b8).D b9).CT G;obtain⟨e2,e1⟩:∃e2,vs[J]?=some e2:=⟨vs[J]'(by omega),dd _⟩;obtain⟨f,hf⟩:∃f,f=F[J]:=⟨_,Z⟩;have b4:F[J]?=some f:=by rw[hf];exact dd o5
   have p3:=((r.D b8).D b9).rdE a6 G e1 b4;have p4:=a6 f (Lx b4);have c7:=((r.D b8).D b9).row J e2 f e1 b4;have p2:=c7.own.nf;have j5:DG _ _ [131] (Bz (.slice (some ⟨g,0,none⟩) F.length cp) 1 J) [e2]:=((o.D b8).D b9).nw e1;have j7:=j5;have u2:=c7.AD;have u3:=c7.AA;refine As<|Ag<|AM h2 [] [0,1,0,1,0,1,0,1,2,0,0,0,0,0] [0,1,2,3,4,5,6,7,8,9,10,11,12,13] fun w4 l8 p=>?_;have n8:=R;have j3:=t;have e4:=b5;have j6:=j5;have o3:=j7;refine AN Z (Aa Cq Z)<|vc Z p.kp (j3.D.kb Ea Z Z)<|AN Z (Aa Ct Z)<|vc Z p.kp (e4.D.kb AF Z Z)<|AN Z (BS FZ o.D Z Z G G)<|vc Z p.kp (j6.D.ke BQ Z)<|AN Z (Aa GP Z)<|vc Z p.kp (e4.D.kb AF Z Z) ?_;refine Db Z (Ac h2 1 (Ab xM Z (uN p3.D.AB p2 p4.1 G))) ?_;rintro u6 w5 ⟨k8,h7,s5,⟨k,q5,rfl,j8,o7⟩⟩;refine p.Bl h7 fun p=>Bm Z Z<|AN Z (Aq Z Z)<|AN Z (Aq Z Z)<|Ir Z Z<|Ir Z Z<|AP ?_;clear n8 j3 e4 j6 o3;clear p;refine Q<|M Z<|Ah<|BA Z (fun c9=>?_) fun c9=>?_
   ·have o8:=(j8 c9).1;have o9:=(j8 c9).2;have c5:F.set J (f.eraseIdx k)=Ce n liveQ.length (c3++[((J:Int),a)]):=by rw[RD G (by rw[←a8];exact b4),o9,a8]
    refine AM k8 [132] [0,1,0,1,0,1,0,1,0,1,0,0,0,2,0,3] [0,1,2,3,4,5,6,7,8,9,10,11,12,13,14,15] fun w6 l9 p=>AN Z (Aa Cq Z)<|vc Z p.kp (t.D.kb Ea Z Z)<|AN Z (Aa Ct Z)<|vc Z p.kp (b5.D.kb AF Z Z)<|AN Z (Aa Cq Z)<|vc Z p.kp (t.D.kb Ea Z Z)<|AN Z (Aa Ct Z)<|vc Z p.kp (b5.D.kb AF Z Z)<|AN Z (BS FZ o.D Z Z G G) ?_;refine vc Z p.kp (j7.D.ke BQ Z)<|Bm Z Z<|Bm Z Z<|AN Z (Bc Z Z G G) ?_;have e7:=r;refine Db Z (Je c7.D (Ab xN Z (eB c7.D.own o8))) ?_;rintro p9 w7 ⟨q7,h8,o4,hg,k3,p1⟩;refine p.Bl h8 fun p=>?_;have k2:AJ _ _ 132 3 1 p9 (f.eraseIdx k).length ((f.eraseIdx k).map I):=⟨p1.Eu (Wm _),fun b n7↦o4 b (k3▸n7)⟩;replace r:=(((((e7.D b8).D b9).D l8).D h7).D l9).zb (l':=f.eraseIdx k) e1 k3 k2 hg h8.BF;obtain⟨h1,h5,rfl,_⟩:=k2.own.len;refine AN Z (BS FZ o.D Z Z G G) ?_;refine LG Z ((Dv (j:=J) (x:= .tmp 80) (y:= .tmp 79) (u:= .slice h1 (f.eraseIdx k).length h5) BQ o.D Z G (by rw[show(⟨g,J,none⟩:Addr)=Bz (.slice (some ⟨g,0,none⟩) F.length cp) 1 (J:Int).toNat by simp[Bz,add_lit]];rfl) Z Z Z)) ?_;rintro _ w8 ⟨q8,n0,o⟩;try replace p:=p.tr n0 Z
    have l5:(F.set J (f.eraseIdx k)).length=liveQ.length:=by rw[Yy];exact b2
    have l6:=qS (d:=J) (k:=k) a6 (Lx b4);have l3:(F.set J (f.eraseIdx k)).length=F.length:=Yy;replace o:=o.dz l3.symm;refine AP ?_;clear p;refine cg<|E (Bc Z Z Ai Ai)<|M Z<|Ah ?_;exact⟨m+1,AL,⟨G,_,_,_,_,⟨by assumption,by assumption,by rw[e0];exact c5⟩,hJ.D,a1.D,U.D,b0.D,R.D,t.D,C.D,o,r.D⟩,G⟩
   have l5:=b2;have l6:=a6;have c5:F=Ce n liveQ.length (c3++[((J:Int),a)]):=by rw[RD G (by rw[←a8];exact b4),Nn (o7 (by simpa using c9)),←a8,cn b4]
   refine As<|cg<|E (Bc Z Z Ai Ai)<|M Z<|Ah ?_;exact⟨m+1,AL,⟨G,_,_,_,_,⟨by assumption,by assumption,by rw[e0];exact c5⟩,hJ.D,a1.D,U.D,b0.D,R.D,t.D,C.D,o.D,r.D⟩,G⟩
  refine Az Z<|cg<|E (Bc Z Z Ai Ai)<|M Z<|Ah ?_;have l4:F=Ce n liveQ.length ((b.Ae.take (i+1)).flatMap (·.Ad)):=by rw[pk c6,Aan,a8,vq (show x.Ad.length≤m by omega),←hx];simp
  exact⟨i+1,AL,⟨G,_,_,_,_,⟨b2,a6,l4⟩,hJ,a1,U,R,t,C,o,r⟩,G⟩
 have e9:=o.AD;refine Az Z<|Q<|E (Ba IU Z t.AE Z)<|Av (Am IU Z Z R Z Z Bg) ?_;rintro _ w9 ⟨R,n1⟩;refine Ah<|FH Z (DZ IU Z R.AE Z)<|⟨_,hJ.D.out,b1,a7,F,⟨C.D.EO hJ.D,vs,o.D.EO hJ.D,?_⟩,?_,Z⟩
 ·have e8:=(r.D n1).uM fun l hl↦by
   obtain⟨x7,q1,x8⟩:=a6 l hl;exact⟨G,fun x hx↦by have:=q1 x hx;exact⟨G,G⟩⟩
  exact⟨e8.len,fun j v l c4 l2↦(e8.row j v l c4 l2).EO hJ.D⟩
 rw[a8,vq G]
end
section
variable {c0 c:Nat→Nat} {w0 w:World} {J:List Nat}
theorem DD.eD(h:DD c0 w0 J c w):BE c0 w0 J c w:=⟨h.below.os,h.below.tape,h.below.output,h.below.size,h.BF,fun k O _=>h.below.block k O⟩
theorem DD.out(h:DD c0 w0 J c w):Mv c0 w0 (back c0 w0 c) w []:=⟨h.below.os,h.below.tape,h.below.output,h.below.size,fun k O=>by simp[back,O],fun k O _=>h.below.block k O⟩
end
section
variable {c:Nat→Nat} {w:World} {p n m:Nat} {P:HQ}
theorem Vw(hp:WA c w p P):Calls QP 39 #[P1 p] w (Bt fun u w'=>AZ w w'∧u= .bool (P.failed||P.J.failed)):=by
 obtain⟨pa,pj,vS,vT,vG,f⟩:=hp;have g:=DD.start c w DA;replace f:=f.Dt (K:=DA);generalize Bw c DA=c0 at g f;obtain⟨i,o,j,r⟩:=f;refine AY 14 #[.tmp 2] func39 Z<|Q<|V Z<|Q<|M Z<|E (Ak Z)<|E (Aa QC Z)<|E (Al IW Z i.AE Z)<|M Z ?_;apply BU c0 false 5 (P.J.failed) CK
 ·intro I l;refine wo<|M Z<|wo<|E (Ak Z)<|wo<|E (Aa av Z)<|wo<|E (Al Gx Z i.AE Z)<|wo<|ve (Ac c0 1 (Ab wL Z (eo j))) ?_;rintro R w1 ⟨c1,t,J,rfl⟩;exact BV 5 l.D
 intro w2 c2 C;refine V Z<|Af Z Z ?_;exact⟨g.D.below,Z⟩
theorem ZC(hp:WA c w p P)(hs:Small P.s)(hl:P.b.Ae.length≤100000):Calls QP 24 #[P1 p] w (Bt fun u w'=>AZ w w'∧u=I ((P.b.Ae.length*(P.s.k+P.s.m):Nat):Int)):=by
 obtain⟨pa,pj,vS,vT,vG,f⟩:=hp;have j:=DD.start c w DA;replace f:=f.Dt (K:=DA);generalize Bw c DA=c0 at j f;obtain⟨g,i,i,i⟩:=f;obtain⟨f,f,f,f,f⟩:=hs;have f:=i.s.AB.AD;have f:=i.s;have f:P.b.Ae.length*(P.s.k+P.s.m)≤100000*5:=WO hl G;have i:(P.b.Ae.length:Int)*((P.s.k:Int)+(P.s.m:Int))=((P.b.Ae.length*(P.s.k+P.s.m):Nat):Int):=by rw[Acf,Acs]
 refine AY 21 #[.tmp 2] func24 Z<|Q<|V Z<|Ag<|AM c0 [] [0,0,0,0,1,0,0,0,0,0,1,0,0,0,0,1,0,0,0] [0,1,2,3,4,5,6,7,8,9,10,11,12,13,14,15,16,17,18] fun w1 f f=>?_;refine Bm Z Z<|AN Z (Ak Z)<|AN Z (Aa DK Z)<|AN Z (Aa CA Z)<|vc Z f.kp (g.D.kb Ei Z Z)<|AN Z (BN Di) ?_;refine Bm Z Z<|AN Z (Ak Z)<|AN Z (Aa FR Z)<|AN Z (Aa CN Z)<|vc Z f.kp (g.D.kb AF Z Z)<|Bm Z Z<|AN Z (Ak Z)<|AN Z (Aa FR Z)<|AN Z (Aa Hk Z) ?_;refine vc Z f.kp (g.D.kb AF Z Z)<|AN Z (Bc Z Z Ai Ai)<|AN Z (HK (m:=(P.b.Ae.length:Int)) (n:=(P.s.k:Int)+(P.s.m:Int)) Z Z (by rw[i];omega) (by rw[i];omega)) ?_;rw[i];refine Ir Z Z<|AP ?_;refine Af Z Z ?_;exact⟨j.D.below,Z⟩
theorem No(hp:WA c w p P)(b5:GR n m P.A)(c5:n≤12)(b8:P.n≤64)(hl:P.b.Ae.length≤100000):Calls QP 59 #[P1 p] w (Bt fun u w'=>∃c',Mv c w c' w' []∧∃vL vF,KD c' w' vL vF (Cu n P.A) (Ce P.n n (P.b.Ae.flatMap (·.Ad)))∧u= .agg #[vL,vF]):=by
 obtain⟨pa,pj,vS,vT,vG,a1⟩:=hp;have f:=DD.start c w DA;replace a1:=a1.Dt (K:=DA);generalize Bw c DA=c0 at f a1;obtain⟨t,J,e8,r⟩:=a1;have h7:=r.s.AB.AD;have c9:=r.t.AB.AD;have e0:=r.g.AB.AD;have c4:=b5.len;refine AY 33 #[.cell 2 67] func59 Z<|Q<|EK c0 102 NV fun w1 b2 c1 e9 C=>?_;refine Ah<|Q<|V Z<|Ag<|Q<|M Z<|E (Ak Z)<|E (Aa NN Z)<|E (Al LK Z t.D.AE Z)<|ve (Ac c1 1 (Ab Ws Z (GZ J.D))) ?_;rintro j3 w2 ⟨c2,h0,a7,rfl⟩;rw[c4];refine M Z<|Ah<|An<|AG (σ:=Nat×Value) (fun o=>[(0,P1 p),(2,P1 b2),(3,o.2),(9,I n),(10,I o.1)]) (fun o w'=>o.1≤n∧∃c',DD c w DA c' w'∧AI c' w' 90 p (Dq pa pj vS vT vG P) 101∧BW c' w' pa P.A∧eb c' w' [94] vS vT vG P.b∧AI c' w' 102 b2 [.slice none 0 0, .slice none 0 0] 67∧AJ c' w' 8 4 1 o.2 o.1 ((Cu o.1 P.A).map .bool)) (fun o=>n-o.1) (0,_) AL ⟨Nat.zero_le _,_,f.D,t.D,J.D,r.D,C.D,Br _ _ _ _ _⟩ ?_;clear f t J r C;rintro⟨i,e3⟩ k1 ⟨hi,a6,f,t,J,r,C,g⟩;dsimp only at hi g;have e1:=g.AD;have e2:=g.AA;refine Q<|E (AX Z Z)<|Ah<|Ag<|BA Z (fun c3=>?_) fun c3=>?_
 ·have h5:i<n:=G;refine As<|Ag<|An<|Q<|M Z<|V Z<|cg<|M Z<|M Z<|E (Ak Z)<|E (Aa NN Z)<|E (Al LK Z t.AE Z)<|M Z<|ve (Ac a6 1 (Ab pI Z (Rh J))) ?_;rintro j0 j5 ⟨b1,h1,h6,rfl⟩;refine ve (AH b1 120 Fi Z Z Z Z Z) ?_;rintro _ j6 ⟨e4,e5,rfl,h2,b0⟩;refine ve (Ax Fi Z Z g.D (Aw underlying64 b0.AE.AT Z Bg) Fh Fg) ?_;rintro j1 j7 ⟨e6,h3,g⟩;clear b0;have e1:=g.AD;have e2:=g.AA;refine V Z<|cg<|E (Bc Z Z Ai Ai)<|M Z<|Ah ?_;exact⟨(i+1,_),AL,⟨by dsimp only;omega,_,f.D,t.D,J.D,r.D,C.D,by dsimp only;rw[Tl,List.map_append];exact g⟩,by show n-(i+1)<n-i;omega⟩
 have e:i=n:=G;subst e;have c6:Bu DW _ _ [8] e3 (Cu i P.A):=MG (by rw[DC];exact g) (by rw[DC];omega);refine Az Z<|Ag<|AM a6 [] [0,0,0,1,0,0,0,0,1,2,3] [0,1,2,3,4,5,6,7,8,9,10] fun j8 h4 R=>?_;refine Bm Z Z<|AN Z (Ak Z)<|AN Z (Aa DK Z)<|vc Z R.kp (fun W b9=>ES Fy Z (t.D.kp b9 Z).AE (Aat Z))<|Bm Z Z<|Bm Z Z<|AN Z (Ak Z)<|AN Z (Aa lr Z)<|vc Z R.kp (t.D.kb AF Z Z) ?_;refine Db Z (Ab wZ Z (jo (c:=a6) (vT:=vT) (vG:=vG) (b:=P.b) (liveQ:=Cu i P.A) (n:=P.n) r.D.s.AB c9 e0 c6.D.AB (by rw[DC];exact c5) b8)) ?_;rintro j2 j9 ⟨e7,b6,⟨vL,vF,F,U,a8,rfl⟩⟩;refine R.Bl b6 fun R=>?_;rw[DC] at a8;subst a8;have h8:=U.kQ.AD;obtain⟨j4,c8,_⟩:=id U.row;have h9:=c8.AD;refine LG Z (Am IU Z Z C.D Z Z Bg) ?_;rintro _ k0 ⟨C,b7⟩;refine AP ?_;clear R;refine FH Z (DZ IU Z C.AE Z)<|⟨_,f.D.out,vL,vF,?_,Z⟩;obtain⟨vs,c7,a7⟩:=(U.D b7).row;exact⟨U.D.kQ.EO f.D.eD,vs,c7.EO f.D.eD,⟨a7.len,fun j v l b3 b4=>(a7.row j v l b3 b4).EO f.D.eD⟩⟩
end
end Go.Eng
