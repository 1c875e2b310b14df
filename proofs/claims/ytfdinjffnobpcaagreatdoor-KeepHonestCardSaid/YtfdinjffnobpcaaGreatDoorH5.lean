/- The program, walked: part 5. No condition. -/
import Derived.Test.YtfdinjffnobpcaaGreatDoorH4
set_option linter.unusedSimpArgs false
set_option linter.unusedVariables false
set_option maxRecDepth 100000
set_option maxHeartbeats 4000000
open Go.Proofs.Tryz renaming prog → QP
variable {c : Nat → Nat} {w : Go.World}
namespace Go.Proofs.K
open Go Go.Eng Go.RowKit Silo TryzT
theorem Rh{p pa pj n m:Nat}{vS vT vG:Value}{P:Ek}{e4 c6:FuncId}{k0:List Value}{tc:Array Value}{L:List (Fx×Nat)}{T:Fx×Nat→Tx}(C:BU c w p pa pj vS vT vG P)(hs:Small P.s)(j7:0<n∧n≤12)(j6:0<m∧m≤2048)(l3:FF n m P.A)(hc:P.A.changes≤900000000)(p7:L.length≤1000)
 (o2:Af QP e4=true)(o8:Af QP c6=true)(hit:JW QP e4 k0 st [128] [76,0,94] L (AT c Dw) w)
 (o9:∀c1 w1,AZ c w Dw c1 w1→∀q∈L,Calls QP c6 (#[.agg (BQ q.1).toArray,I q.2]++tc) w1 (AP fun v w'=>Below w1.heap.size w1 w'∧v=St (T q)))
 (j8:∀q∈L,Bi Bg (AT c Dw) w [0] q.1.2.v q.1.1.place)(h2:∀q∈L,nV P.s T q):
 Calls QP 99 #[P1 p, .func (.func e4) #[] k0.toArray, .func (.func c6) #[] tc] w (AP fun v w'=>∃c',Mv c w c' w' Dw∧∃b2 f e,BU c' w' p pa pj vS vT vG {P with A:=b2,failed:=f}∧HK n m (4*L.length) P.A b2∧v=I e∧((∀q∈L,ZC m P.s P.A q)→(L.map fun q=>(Ja q).1).Nodup→e=0∧f=P.failed∧∀q∈L,Qs P.s T b2 q)):=by
 have hJ:=AZ.start c w Dw;replace C:=C.Ca (K:=Dw);have p8:Ee P.s≤3:=by rw[Ee,Bn];have:=hs.2.2.2.2;omega
 refine enter (n:=53) (res:=#[.cell 6 46]) Tryz.func99 Z Z Z Z ?_;generalize n9:AT c Dw=c0 at hJ C hit j8;refine Ab<|cg<|MJ c0 103 fun w1 b3 c1 h8 U=>?_;refine MJ c1 105 fun w2 b5 c2 b1 b0=>?_;refine Db c2 106 Wg fun s3 b6 l0 e0 o=>Ac<|Ab<|cg<|Db l0 107 qM fun k3 b7 h4 c4 a1=>Ac<|Ab<|Ab ?_;have j:Ao _ _ 97 3 1 (.slice none 0 0) 0 []:=Ao.nil h4 k3 _ _ _;have e6:wj c w h4 k3 b3 b5 b6 b7 p pa pj n m vS vT vG (.func (.func c6) #[] tc) P T L []:=⟨((((hJ.mv h8).mv b1).mv e0).mv c4),(((U.mv b1).mv e0).mv c4),((b0.mv e0).mv c4),(o.mv c4),⟨P.A,((((C.mv h8).mv b1).mv e0).mv c4),HK.refl l3,fun _ _ q h2=>by simp at h2⟩,_,a1,j⟩;refine cg<|zm Z<|Ac<|Ai<|WC.rangeFunc (α:=Fx×Nat) (encs:=st) (κ:=[128]) (F:=[76,0,94]) (L:=L)
  (fun pre d B=>wj c w d B b3 b5 b6 b7 p pa pj n m vS vT vG (.func (.func c6) #[] tc) P T L pre) [] (fun _ d B=>AZ c w Dw d B∧∃A e f,BU d B p pa pj vS vT vG {P with A:=A,failed:=f}∧HK n m (4*L.length) P.A A∧Ar d B 106 b6 [I e] 46∧¬∀q∈L,ZC m P.s P.A q) [60,61,62,63,90,97,106,107,108] Z Z o2 hit.mv Z (fun _=>rfl) ss Z
  (fun s d A l1 B h m=>h.mv m) (fun p hp=>by simp at hp) (fun s d A l1 B ⟨k4,b2,e,f,k5,k6,k7,k8⟩ m=>⟨k4.mv m,b2,e,f,k5.mv m,k6,k7.mv m,k8⟩)
  e6 ?_ ?_ ?_ ?_
 ·clear e6 hJ C U b0 o a1 j hit;rintro l pre ⟨y,i⟩ d B ⟨hJ,U,b0,o,⟨A1,C,R,e9⟩,p2,a1,j⟩ h1;have c9:=Acc.refl d B [60,61,62,63,90,97,106,107,108];have e3:(y,i)∈L:=h1.subset (Acw _ (yN.2 Z));have q6:=y.2.one;have a6:=h2 _ e3;have o3:i<y.1.place.length:=a6.lt;have hu:Bi Bg d B [0] y.2.v y.1.place:=Fq.mv (j8 _ e3) (n9▸hJ.rR) Z;obtain⟨r,j9⟩:∃r,r=y.1.place[i]'a6.lt:=⟨_,Z⟩;have o7:Ja (y,i)=r:=by rw[j9,Ja];show(y.1.place[i]?).getD _=_;rw[aa a6.lt];rfl
  have j5:DF d B [0] (Bh y.2.v 2 i) [I r.1,I r.2]:=by
   rw[j9];exact(BP hu o3 dd).1
  have q3:pre.length+1≤L.length:=by
   have l2:=h1.length_le;rwa [bU] at l2
  refine Ab<|cg<|Db d 108 GZ fun s4 b8 a8 j0 e1=>?_;refine WR.AI (Am BB Z Z e1 Z Z AG) ?_;rintro _ s5 ⟨e1,j1⟩;refine Ac<|cg<|za Z<|Ac<|⟨_,c9.mv,?_⟩;intro A2 b1;have c9:=Acc.refl a8 A2 [60,61,62,63,90,97,106,107,108];obtain⟨c5,b4,c3,b9⟩:=(((C.mv j0).mv j1).mv b1);have J:Ar a8 A2 90 p (DH pa pj vS vT vG P) 109:=c5;have a7:By a8 A2 pa A1:=b4;have c8:DI a8 A2 pj pa P.J:=c3;have c7:dg a8 A2 [94] vS vT vG P.b:=b9;clear c5 b4 c3 b9;replace j:=((j.mv j0).mv j1).mv b1;have k1:=j.Av;have k2:=j.Aw;refine Ai<|Ab<|Ab<|AY a8 [60,61,62,63] [1,1,0,1,1,0,2,2,0] [0,1,2,3,4,5,6,7,8] fun s6 q2 g=>?_;have j2:=U;have j4:=b0;have n5:=o;have n6:=a1;have h0:=e1;have n7:=J;have e2:=j5;refine vc Z g.kp (j2.mv.kb Jt Z Z)<|vc Z g.kp (h0.mv.kn BB Z Z)<|AK Z Z<|vc Z g.kp (j4.mv.kb qK Z Z)<|vc Z g.kp (h0.mv.kn BB Z Z)<|AK Z Z<|WD.AW Z Z Z (Al a8 1 (Gg Z o8 Z (o9 _ _ hJ.mv _ e3))) Z ?_;rintro q7 s7 ⟨p6,n1,q5,rfl⟩;refine g.AX n1 fun g=>?_;refine WD.AW Z Z Z (Ay.call tJ Z (nU (x:=y.1) (u:=y.2.v) (i:=i) (t:=T (y,i)) J.mv a7.mv hs j7 j6 R.pw (by have:=R.Lj;omega) hu.mv Z a6.lt a6.slot a6.may a6.len)) Z ?_;rintro q8 s8 ⟨h5,n2,⟨A3,e,a7,e7,rfl⟩⟩;refine g.AX n2 fun g=>Ga Z Z<|WD.nil ?_;clear j2 j4 n5 n6 h0 n7 e2;clear g;refine Ab ?_;have h7:HK n m (3*(pre.length+1)) P.A A3:=(R.tr e7.lay).more oo;refine cg<|zm Z<|vq (Bm Z Z)<|Ac<|AS Z (fun n8=>?_) fun n8=>?_
  ·refine Ab<|cg<|vq (Ah Jt Z U.mv.Ap Z)<|vq (Ae Z)<|vq (Aa Od Z)<|WR.AI (AJ Jc Z Z ra ra J.mv Z) ?_;rintro _ r1 ⟨J,p9⟩;refine Ac<|Ab<|cg<|zm Z<|WR.AI (AJ Js Z Z ra ra o.mv Z) ?_;rintro _ r2 ⟨o,q0⟩;refine Ac<|TO Z ?_;exact⟨_,c9.mv,hJ.mv,A3,e,true,⟨J.mv,a7.mv,c8.mv,c7.mv⟩,h7.more oo,o,fun h=>absurd (br (h _ e3) R.live a6.lt e7) oo⟩
  have o0:e=0:=oo;subst o0;refine Aj<|AY h5 [97] [1,0,1,0,0,0,1,2,2,3] [0,1,2,3,4,5,6,7,8,9] fun r3 q1 g=>?_;have e2:=j5;refine vc Z g.kp (a1.mv.kb BL Z Z)<|vd Z (fun _=>Aa Ck Z)<|vc Z g.kp (e1.mv.kb BV Z Z)<|AK Z Z<|vd Z (fun _=>ER CQ) ?_
  first|refine vd Z (fun _=>Aa CE Z) ?_|refine vd Z (fun _=>AR CE Z) ?_
  refine vc Z g.kp (fun W n4=>Bl Au Z ((e2.mv.wQ (i:=0) Z).kp n4 Z).CY)<|WD.AW Z Z Z (Bb h5 136 Bu Z Z Z Z Z) Z ?_;rintro _ r4 ⟨p3,p4,rfl,l5,j3⟩;refine g.AX l5 fun g=>WD.AW Z Z Z (AN Bu Z Z j.mv (Src.An zU j3.Ap.An Z AG) EY Fb) Z ?_;rintro q9 r5 ⟨p5,l6,j⟩;refine g.AX l6 fun g=>?_;clear j3;have k1:=j.Av;have k2:=j.Aw;refine WD.wild Z Z Z (AJ BL Z Z ra ra a1.mv Z) ?_;rintro _ r6 ⟨a1,h9⟩;try replace g:=g.tr h9 Z
  refine WD.nil ?_;clear e2;clear g;refine⟨_,c9.mv,hJ.mv,U.mv,b0.mv,o.mv,⟨A3,⟨J.mv,a7.mv,c8.mv,c7.mv⟩,?_,e9.snoc h1 a6.lt e7⟩,_,a1,?_⟩
  ·rw[bU];exact h7
  replace j:=j.mv h9;rw[bU,zB,zB,Abp,o7];exact j
 ·clear e6 hJ C U b0 o a1 j hit;rintro D d B ⟨hJ,U,b0,o,⟨A1,C,R,e9⟩,p2,a1,j⟩ e5;obtain⟨c5,b4,c3,b9⟩:=C;have J:Ar d B 90 p (DH pa pj vS vT vG P) 109:=c5;have a7:By d B pa A1:=b4;have c8:DI d B pj pa P.J:=c3;have c7:dg d B [94] vS vT vG P.b:=b9;clear c5 b4 c3 b9;have k1:=j.Av;have k2:=j.Aw;have p0:=j.lD (m:=(L.map fun q=>(Ja q).1).length) (by rw[yF]);refine Ab<|cg<|vq (Ah Jt Z U.Ap Z)<|vq (Ah BL Z a1.Ap Z) ?_;refine ve (Ay.call tK Z (fY (l:=L.map fun q↦(Ja q).1) J a7 j7 j6 R.pw (by have:=R.Lj;omega) p0 (by rw[yF];omega))) ?_;rintro r0 r7 ⟨k9,l7,⟨A3,e,a7,l4,o6,o1,rfl⟩⟩;refine za Z<|Ac<|Ab<|AY k9 [] [1,1,0,0,1,0,0,0,0,0,0,3] [0,1,2,3,4,5,6,7,8,9,10,11] fun r8 l8 g=>?_;refine vc Z g.kp (U.mv.kb Jt Z Z)<|vc Z g.kp (U.mv.kb Jt Z Z)<|vd Z (fun _=>Ae Z)<|vd Z (fun _=>Aa Od Z)<|vc Z g.kp (J.mv.kb Jc Z Z)<|AK Z Z ?_;apply WD.CJ false 2 _ g.kp RH
  ·intro q4;refine AK rfl rfl<|vd rfl (fun _=>Bm rfl rfl) ?_;exact Xm 2
  refine vd Z (fun _=>Ae Z)<|vd Z (fun _=>Aa Od Z)<|WD.wild Z Z Z (AJ Jc Z Z ra ra J.mv Z) ?_;rintro _ r9 ⟨J,l9⟩;refine WD.nil ?_;clear g;refine Ab<|cg<|zm Z<|WR.AI (AJ Js Z Z ra ra o.mv Z) ?_;rintro _ s0 ⟨o,n0⟩;refine Ac ?_;obtain⟨e8,n3⟩:=((((e5.mv l7).mv l8).mv l9).mv n0).take;refine Kw Z Z e8 (Jm Js Z o.mv.Ap Z) ?_;refine⟨_,hJ.mv.out,A3,P.failed|| !decide (e=0),e,BU.out (P:={P with A:=A3,failed:=P.failed|| !decide (e=0)}) ⟨J.mv,a7.mv,c8.mv,c7.mv⟩ hJ.mv,(R.tr l4).more ?_,Z,fun hg o4=>?_⟩
  ·rw[yF];omega
  have h6:=o1 fun d hd=>by
   obtain⟨q,h3,rfl⟩:=zc.1 hd;rw[R.live];exact(hg q h3).1
  refine⟨h6,by rw[h6];simp,fun q h3=>?_⟩;rw[Qs,KT fun p1=>o6 _ p1];exact e9 hg o4 q h3
 ·intro p hp;simp at hp
 rintro D pre d B ⟨hJ,A1,e,f,C,R,o,o5⟩ e5;skip;obtain⟨e8,n3⟩:=e5.take;refine Kw rfl rfl e8 (Jm Js rfl o.mv.Ap rfl) ?_;exact⟨_,hJ.mv.out,A1,f,e,C.mv.out hJ.mv,R,rfl,fun h _=>absurd h o5⟩
end Go.Proofs.K
namespace Silo
open Go Go.Eng
theorem TD{α:Type}(p:α→Bool):∀(l:List α) (a:α) (r:List α),l.drop (BS p l)=a::r→p a=false
 |[],a,r,h=>by simp[BS] at h
 |b::l,a,r,h=>by
  cases f:p b with
  |true=>
   have e:BS p (b::l)=BS p l+1:=by simp[BS,Aan,f]
   rw[e,Ad3] at h;exact TD p l a r h
  |false=>
   have e:BS p (b::l)=0:=by simp[BS,Aan,f]
   rw[e,Ac0] at h;injection h with g _;rw[←g];exact f
theorem Qt{α:Type}(p:α→Bool):∀(l:List α) (y:α),y∈l.take (BS p l)→p y=true
 |[],y,h=>by simp at h
 |b::l,y,h=>by
  cases f:p b with
  |true=>
   have e:BS p (b::l)=BS p l+1:=by simp[BS,Aan,f]
   rw[e,Ad2] at h;rcases zN.1 h with rfl|h
   ·exact f
   ·exact Qt p l y h
  |false=>
   have e:BS p (b::l)=0:=by simp[BS,Aan,f]
   rw[e] at h;simp at h
theorem VD{α:Type}{lt:α→α→Prop}{p q:α→Bool}{l:List α}{x:α}(h:∀i j (hi:i<l.length) (a7:j<l.length),i<j→lt l[i] l[j])
 (hp:∀y,p y=true→lt y x)(a8:∀y,p y=false→q y=false→lt x y)(b1:∀y z,q y=true→lt y z→lt x z)(tr:∀y z,lt x y→lt y z→lt x z)(a6:∀k,l.findIdx? q=some k→BS p l=k):
 ∀i j (hi:i<(IZ l (BS p l) (l.findIdx? q).isSome x).length) (a7:j<(IZ l (BS p l) (l.findIdx? q).isSome x).length),i<j→lt (IZ l (BS p l) (l.findIdx? q).isSome x)[i] (IZ l (BS p l) (l.findIdx? q).isSome x)[j]:=by
 rw[←Aa8] at h⊢;have ht:(l.take (BS p l)).Pairwise lt:=h.sublist (Afw _ _);cases o:l.findIdx? q with
 |none=>
  have b0:∀y∈l,q y=false:=by simpa using Abm.1 o
  show(l.take (BS p l)++x::l.drop (BS p l)).Pairwise lt
  have hx:∀z∈l.drop (BS p l),lt x z:=by
   cases hd:l.drop (BS p l) with
   |nil=>intro z f;simp at f
   |cons a r=>
    have t:lt x a:=a8 a (TD p l a r hd) (b0 a (Abg (by rw[hd];exact Aag)));have b3:(a::r).Pairwise lt:=hd▸h.sublist (List.drop_sublist _ _);intro z f;rcases zN.1 f with rfl|f
    ·exact t
    exact tr a z t ((Abf.1 b3).1 z f)
  refine Aab.2 ⟨ht,Abf.2 ⟨hx,h.sublist (List.drop_sublist _ _)⟩,fun y hy z f=>?_⟩;rcases zN.1 f with rfl|f
  ·exact hp y (Qt p l y hy)
  have g:(l.take (BS p l)++l.drop (BS p l)).Pairwise lt:=by rw[zM];exact h
  exact(Aab.1 g).2.2 y hy z f
 |some k=>
  have hk:=a6 k o;obtain⟨C,b2,_⟩:=zJ.1 o;show(l.set (BS p l) x).Pairwise lt
  rw[hk,Aa0,yP C];have g:(l.take k++l[k]::l.drop (k+1)).Pairwise lt:=by rw[←zO C,zM];exact h
  obtain⟨I,J,R⟩:=Aab.1 g;obtain⟨U,a1⟩:=Abf.1 J;refine Aab.2 ⟨I,Abf.2 ⟨fun z f=>b1 _ z b2 (U z f),a1⟩,fun y hy z f=>?_⟩;rcases zN.1 f with rfl|f
  ·exact hp y (Qt p l y (by rw[hk];exact hy))
  exact R y hy z (Aad _ f)
theorem kC{b:Bk}{x:CZ}(h:Ib b.stripes):Ib (wi b x).stripes:=
 VD (lt:=fun a b:CZ=>a.id<b.id) (p:=fun t=>decide (t.id<x.id)) (q:=fun t=>decide (t.id=x.id)) h (fun y hy=>by simpa using hy) (fun y f g=>by simp at f g;show x.id<y.id;omega) (fun y z f g=>by simp at f;show x.id<z.id;rw[←f];exact g) (fun y z f g=>Int.lt_trans f g) (fun k hk=>IX h hk)
theorem kD{b:Bk}{e:Jf}(h:JH b.things):JH (wR b e).things:=
 VD (lt:=fun a b:Jf=>Op.bytesLess a.Ak b.Ak=true) (p:=fun t=>Op.bytesLess t.Ak e.Ak) (q:=fun t=>t.Ak==e.Ak) h (fun y hy=>hy) (fun y f g=>KB _ _ f (by simpa using g)) (fun y z f g=>by
  have i:y.Ak=e.Ak:=by simpa using f
  show Op.bytesLess e.Ak z.Ak=true
  rw[←i];exact g) (fun y z f g=>EE _ _ _ f g) (fun k hk=>Qn h hk)
inductive Nt where
 |ZD (x:CZ)
 |Xf (d:Tx) (n:Int) (l:List Int)
def Hk:Nt→Rec
 | .ZD x=>Rr x
 | .Xf d n l=>Kj d n l
def lE(b:Bk):Nt→Bk
 | .ZD x=>wi b x
 | .Xf d n l=>wR b ⟨d,n,false,l⟩
def kE:Nt→Prop
 | .ZD x=>(0≤x.id∧x.id≤1073741824)∧x.place.length≤1000
 | .Xf d n l=>Go.Eng.Int64 n∧d.length≤140737488355328∧l.length≤100000
theorem kF{b:Bk}{r:Nt}(h:Ib b.stripes)(f:JH b.things):Ib (lE b r).stripes∧JH (lE b r).things:=by
 cases r with
 |ZD x=>exact⟨kC h,f⟩
 |Xf d n l=>exact⟨h,kD f⟩
theorem nW(b:Bk)(r:Nt):(lE b r).stripes.length≤b.stripes.length+1∧(lE b r).things.length≤b.things.length+1∧(lE b r).tags=b.tags:=by
 cases r with
 |ZD x=>exact⟨Zu _ _ _ _,Adu _,Z⟩
 |Xf d n l=>exact⟨Adu _,Zu _ _ _ _,Z⟩
def bt(l:List Jf):Nat→Option Tx
 |0=>none
 |i+1=>l[i]?.map (·.Ak)
def wm(s:Cn)(L:List CZ)(o:Option Tx)(x:Jf):Bool:=decide (x.Ak.length=32)&&(match o with|none=>true|some y=>Op.bytesLess y x.Ak)&&decide (0≤x.len)&&decide (x.len≤2000)&&decide (x.list.length=BF s x.len.toNat)&&Hh s L x.len x.list
theorem kG{s:Cn}{L:List CZ}{o:Option Tx}{T:List Int}{x:Jf}{r:List Jf}:LV s L o T (x::r)=(wm s L o x&&(LU T x.list&&LV s L (some x.Ak) (x.list.reverse++T) r)):=by
 rw[LV.eq_def];rfl
end Silo
namespace Go.Proofs.K
open Go Go.Eng Go.RowKit Silo TryzT
theorem nX{p:Nat}{vS vT vG:Value}{b:Bk}{YS:List Fx}{YT:List WZ}{r:Nt}{cs:List Value}{K:List Nat}(a7:Ar c w 120 p [vS,vT,vG,I b.next] 105)(a1:Tv c w vS vT vG b YS YT)(b1:Ib b.stripes)(b2:JH b.things)(hl:b.stripes.length≤900∧b.things.length≤900)
 (h:Fq (fun w'=>Il.rd w'.heap.size w' cs (Hk r)) c w K)(a6:Bd K Ps=true)(g:kE r):
 Calls QP 184 #[P1 p, .agg cs.toArray] w (AP fun v w'=>∃c',Mv c w c' w' Ps∧v=I 0∧∃i j o t,Ar c' w' 120 p [i,j,vG,I (lE b r).next] 105∧Tv c' w' i j vG (lE b r) o t):=by
 obtain⟨b3,vs,rfl,_⟩:=h.now;have a8:Bi Bw c w K b3 (Hk r).list:=Hm.imp h fun w' _ ⟨b4,b5,e,f,_⟩=>by
  simp only[Abe,Ad7] at e;rw[e.2.2.2.2.1];exact f
 have b0:Bi Bg c w K vs (Hk r).CF:=Hm.imp h fun w' _ ⟨b4,b5,e,_,f,_⟩=>by
  simp only[Abe,Ad7] at e;rw[e.2.2.2.2.2];exact f
 cases r with
 |ZD x=>
  refine(nM (x:=x) a7 a1 b1 hl.1 a8 b0 a6 g.1 g.2).mono fun e w' ⟨v,U,c',R,f,i,o,C,J⟩=>?_;exact⟨v,U,c',R,f,i,vT,o,YT,C,J⟩
 |Xf d n l=>
  refine(nN (d:=d) (n:=n) (l:=l) a7 a1 b2 hl.2 a8 b0.now.Av a6 g.1 g.2.1 g.2.2).mono fun e w' ⟨v,U,c',R,f,j,t,C,J⟩=>?_;exact⟨v,U,c',R,f,vS,j,YS,t,C,J⟩
end Go.Proofs.K
namespace Silo
theorem fZ{s:Cn}{l:List CZ}{left id:Int}{r:List Int}{i:Nat}{x:CZ}(h1:ID l id=some i)(f:l[i]?=some x)(g:x.len=min left (s.k*s.size:Nat)):Hh s l left (id::r)=Hh s l (left-x.len) r:=by
 rw[Hh,h1];dsimp only;rw[f];dsimp only;rw[if_pos g]
theorem nY{s:Cn}{l:List CZ}{left id:Int}{r:List Int}{i:Nat}{x:CZ}(h1:ID l id=some i)(f:l[i]?=some x)(g:¬x.len=min left (s.k*s.size:Nat)):Hh s l left (id::r)=false:=by
 rw[Hh,h1];dsimp only;rw[f];dsimp only;rw[if_neg g]
theorem ga{s:Cn}{l:List CZ}{left id:Int}{r:List Int}(h1:ID l id=none):Hh s l left (id::r)=false:=by
 rw[Hh,h1]
end Silo
namespace Go.Proofs.K
open Go Go.Eng Go.RowKit Go.Maps Silo TryzT
theorem kH{s:Cn}{vS vT vG a1:Value}{n:Int}{L:List CZ}{x:Jf}(hs:s.ok)(h1:Rd ES w vS L)(h0:vT.oneCell'=true)(h2:vG.oneCell'=true)(c0:Ib L)(hu:Rd Bw w a1 x.list)(hx:0≤x.len∧x.len≤2000):
 Calls QP 349 #[.agg (DO s).toArray, .agg #[vS,vT,vG,I n], .agg #[St x.Ak,I x.len, .bool x.sn,a1]] w (AP fun v w'=>Below w.heap.size w w'∧v= .bool (Hh s L x.len x.list)):=by
 have j3:=hu.small;have e9:=h1.Av;have j5:=hu.Av;obtain⟨c4,h4,h5,c5,h6⟩:=id hs;obtain⟨P,J⟩:∃P,P=s.k*s.size:=⟨_,Z⟩;have j1:1≤P:=by rw[J];exact yQ c4 c5
 have j2:P≤8*200:=by rw[J];exact yQ oo oo
 have a8:(s.k:Int)*(s.size:Int)=(P:Nat):=by rw[J];simp
 obtain⟨c,p,b1⟩:=AQ.start w;have g:Bi ES c w [0] vS L:=Rd.Cl h1 (fun k hk=>by simp[b1,AA]);have U:Bi Bw c w [0] a1 x.list:=Rd.Cl hu (fun k hk=>by simp[b1,AA]);clear b1 h1 hu;refine enter (n:=56) (res:=#[.tmp 6]) Tryz.func349 Z Z Z Z<|Ab<|cg<|Dz c 103 fun w1 b3 c1 h8 t=>?_;refine Dz c1 104 fun w2 b4 c2 h9 j=>?_;refine Dz c2 105 fun j7 b5 h7 j0 b0=>?_;refine za Z<|Ac<|Ab<|cg<|vq (Aa Ol Z)<|vq (Ah Au Z b0.Ap Z)<|za Z<|Ac<|Ab<|Ab<|cg<|vq (Aa IL Z)<|vq (Ah BL Z b0.Ap Z)<|vq (BI Bu) ?_;refine zm Z<|Ac<|Ai<|WC.loop (σ:=Nat×Int) (fun f=>[(3,P1 b3),(4,P1 b4),(7,I f.2),(15,a1),(16,I x.list.length),(17,I f.1)]) (fun f w'=>(f.1≤x.list.length∧(0≤f.2∧f.2≤2000)∧Hh s L f.2 (x.list.drop f.1)=Hh s L x.len x.list)∧∃c',AQ w c' w'∧Bi ES c' w' [0] vS L∧Bi Bw c' w' [0] a1 x.list∧Ar c' w' 103 b3 (DO s) 31∧Ar c' w' 104 b4 [vS,vT,vG,I n] 105) (fun f=>x.list.length-f.1) (0,x.len) Aq ⟨⟨Nat.zero_le _,hx,Z⟩,_,p.mv,g.mv,U.mv,t.mv,j.mv⟩ ?_;clear p g U t j b0;rintro⟨i,left⟩ k0 ⟨⟨hi,e4,o⟩,c7,p,g,U,t,j⟩;dsimp only at hi e4 o;refine Ab<|cg<|vq (AE Z Z)<|Ac<|Ab<|AS Z (fun e0=>?_) fun e0=>?_
 ·have b8:i<x.list.length:=oo;obtain⟨b7,e2⟩:=BP U b8 dd;obtain⟨id,hid⟩:∃id,id=x.list[i]:=⟨_,Z⟩;rw[←hid] at b7 e2;rw[zO b8,←hid] at o;refine Aj<|Ab<|Ai<|Ab<|cg<|vq (ER Bu) ?_;refine vq (Bl Au Z b7.CY)<|za Z<|Ac<|Ab<|cg<|vq (AD EB Z j.Ap Z)<|zm Z<|ve (Al c7 1 (Ay.call hF Z (IY (n:=n) (d:=id) g.now e9 h0 h2 c0))) ?_;rintro j6 j8 ⟨c6,b6,j4,rfl⟩;obtain⟨le,b9⟩:∃le,le=OV L id:=⟨_,Z⟩;rw[←b9];have e7:=fun(h:le<L.length)↦KM (g.mv b6) h;have b2:∀k,ID L id=some k→le=k∧k<L.length:=fun k hk↦⟨by rw[b9];exact IX c0 hk,(zJ.1 hk).1⟩;refine zm Z<|vq (Ag Z Z)<|vq (Ag Z Z)<|za Z<|za Z<|Ac<|Ab<|Ab<|AY c6 [] [0,0,0,0,1,0,0,0,1,0,0,1,0,1,0,0,0,0] [0,1,2,3,4,5,6,7,8,9,10,11,12,13,14,15,16,17] fun j9 c8 l=>?_;refine AK Z Z<|vd Z (fun _=>Bq Z)<|AK Z Z ?_;apply WD.CJ false 14 (!decide (((L[le]?).map (·.len)).getD 0=min left (P:Nat))) l.kp RH
  ·intro e6;obtain⟨k,hk⟩:=Aaa.1 (show(ID L id).isSome=true by simpa using e6);obtain⟨a6,a7⟩:=b2 k hk;have C:le<L.length:=oo;have e5:=aa C;obtain⟨h3,e8,_⟩:=e7 C;refine vd rfl (fun _=>Aa CN rfl)<|vc rfl l.kp (j.mv.kb EC rfl rfl)<|AK rfl rfl<|vd rfl (fun _=>LH Cg g.mv rfl rfl oo oo) ?_;rw[pv]
   first|refine vd Z (fun _=>Aa IJ Z) ?_|refine vd Z (fun _=>AR IJ Z) ?_
   refine vc Z l.kp (fun W c9=>Bl Au Z ((e8.wQ (i:=1) Z).kp c9 Z).CY)<|AK Z Z<|vd Z (fun _=>Aa Ce Z)<|vc Z l.kp (t.mv.kb Au Z Z)<|vd Z (fun _=>Aa DL Z)<|vc Z l.kp (t.mv.kb Au Z Z)<|vd Z (fun _=>FZ Z Z (by rw[a8];omega) (by rw[a8];omega)) ?_;rw[a8];refine vd Z (fun _=>rF Z Z)<|vd Z (fun _=>Bm Z Z) ?_;exact Xm 14 ((by rw[e5];rfl))
  refine WD.nil ?_;clear l;refine AS Z (fun R=>?_) fun R=>?_
  ·have e:Hh s L x.len x.list=false:=by
    rw[←o];cases hk:ID L id with
    |none=>exact ga hk
    |some k=>
     obtain⟨a6,a7⟩:=b2 k hk;subst a6;refine nY hk (aa a7) fun h↦?_;rw[←J] at h;rw[hk,aa a7] at R;simp[h] at R
   refine Ab<|cg<|za Z<|Ac<|Az Z Z ?_;exact⟨p.mv.below,by rw[e]⟩
  obtain⟨k,hk⟩:=Aaa.1 R.1;obtain⟨a6,a7⟩:=b2 k hk;have C:le<L.length:=oo;have e3:L[le].len=min left (P:Nat):=by
   have:=R.2;rw[aa C] at this;exact this
  have c3:=fZ (s:=s) (r:=x.list.drop (i+1)) (by rw[a6];exact hk) (List.getElem?_eq_getElem C) (by rw[←J];exact e3);rw[o] at c3;obtain⟨h3,e1,_⟩:=KM ((g.mv b6).mv c8) C;refine Aj<|cg<|zm Z<|vq (Aa CN Z)<|vq (Ah EC Z j.mv.Ap Z)<|zm Z<|vq (ER Cg) ?_;refine vq (AR IJ Z)<|vq (EA Au Z e1.CY Z)<|vq (EX Z Z Ad Ad)<|za Z<|Ac<|cg<|vq (AH Z Z Ad Ad)<|zm Z<|Ac ?_;exact⟨(i+1,left-L[le].len),Aq,⟨⟨by dsimp only;omega,by dsimp only;omega,c3.symm⟩,_,p.mv,g.mv,U.mv,t.mv,j.mv⟩,by show x.list.length-(i+1)<x.list.length-i;omega⟩
 rw[Rx oo,Hh] at o;refine WC.exit Z<|Ab<|cg<|zm Z<|vq (AU Z Z)<|za Z<|Ac<|Az Z Z ?_;exact⟨p.below,by rw[←o]⟩
theorem kI{s:Cn}{x:Int}(h:s.ok)(h0:0≤x∧x≤2000):Calls QP 97 #[.agg (DO s).toArray,I x] w (AP fun v w'=>Below w.heap.size w w'∧v=I (BF s x.toNat:Nat)):=by
 have f:=WX (w:=w) h (n:=x.toNat) oo;rw[Int.toNat_of_nonneg h0.1] at f;exact f
theorem bu{s:Cn}{vS vT vG:Value}{n:Int}{L:List CZ}{E:List Jf}(hs:s.ok)(h1:Rd ES w vS L)(J:Rd IU w vT E)(k3:vG.oneCell'=true)(j9:Ib L):
 Calls QP 283 #[.agg (DO s).toArray, .agg #[vS,vT,vG,I n]] w (AP fun v w'=>Below w.heap.size w w'∧v= .bool (LV s L none [] E&&decide (E.length≤60))):=by
 have n8:=J.small;have o2:=h1.Av;have k2:=J.Av;obtain⟨h0,k4,k5,h2,k6⟩:=id hs;obtain⟨P,c0⟩:∃P,P=s.k*s.size:=⟨_,Z⟩;have n0:1≤P:=by rw[c0];exact yQ h0 h2
 have n1:P≤8*200:=by rw[c0];exact yQ oo oo
 obtain⟨c,t,c4⟩:=AQ.start w;have a1:Bi ES c w [0] vS L:=Rd.Cl h1 (fun k hk=>by simp[c4,AA]);have C:Bi IU c w [0] vT E:=Rd.Cl J (fun k hk=>by simp[c4,AA]);clear c4 h1 J;refine enter (n:=84) (res:=#[.tmp 4]) Tryz.func283 Z Z Z Z<|Ab<|cg<|Dz c 102 fun w1 b2 c1 l4 R=>?_;refine Dz c1 103 fun w2 b3 c2 l7 o=>?_;refine za Z<|Ac<|Ab<|cg<|ve ((dB c2 77 (fun n:Int↦I n))) ?_;rintro v10 o9 ⟨k9,l8,⟨b4,rfl,l⟩⟩;refine za Z<|Ac<|Ab<|Ab<|cg<|vq (Aa EK Z)<|vq (Ah HA Z o.mv.Ap Z)<|vq (BI Dt) ?_;refine zm Z<|Ac<|Ai<|WC.loop (σ:=Nat×List Int) (fun g=>[(2,P1 b2),(3,P1 b3),(5, .map (some b4)),(12,vT),(13,I E.length),(14,I g.1)]) (fun g w'=>(g.1≤E.length∧LV s L (bt E g.1) g.2 (E.drop g.1)=LV s L none [] E∧∀p∈g.2,Go.Eng.Int64 p)∧∃c',AQ w c' w'∧Bi ES c' w' [0] vS L∧Bi IU c' w' [0] vT E∧Ar c' w' 102 b2 (DO s) 31∧Ar c' w' 103 b3 [vS,vT,vG,I n] 105∧NM (fun n:Int↦I n) c' w' 77 b4 g.2) (fun g=>E.length-g.1) (0,[]) Aq ⟨⟨Nat.zero_le _,Z,fun p hp=>by simp at hp⟩,_,t.mv,a1.mv,C.mv,R.mv,o.mv,l⟩ ?_;clear t a1 C R o l;rintro⟨i,T⟩ p6 ⟨⟨hi,r,e8⟩,h3,t,a1,C,R,o,l⟩;dsimp only at hi r e8 l;refine Ab<|cg<|vq (AE Z Z)<|Ac<|Ab<|AS Z (fun j4=>?_) fun j4=>?_
 ·have c5:i<E.length:=oo;obtain⟨x,hx⟩:∃x,x=E[i]:=⟨_,Z⟩;obtain⟨u,e5,a8,k0,k1⟩:=WK C c5;rw[←hx] at e5 a8 k0 k1;have o3:=a8.now.Av;rw[zO c5,←hx,kG] at r;refine Aj<|Ab<|Ai<|Ab<|cg<|zm Z<|vq (ER Dt) ?_;refine vq (Dg Lt Z e5.CY Z)<|Db h3 107 ma fun p0 b7 b9 h8 U=>?_;refine za Z<|WR.AI (Am Lt Z Z U Z Z AG) ?_;rintro _ p1 ⟨U,h9⟩;refine Ac<|Ab<|Ab ?_;have e9:=fun(a6:0<i)↦WK ((C.mv h8).mv h9) (k:=i-1) oo;have j7:∀a6:0<i,bt E i=some (E[i-1]'(by omega)).Ak:=fun a6↦by
   obtain⟨j,rfl⟩:∃j,i=j+1:=⟨i-1,by omega⟩;rw[bt,aa oo];rfl
  have e7:(match bt E i with|none=>true|some y=>Op.bytesLess y x.Ak)= !(decide (0<(i:Int))&&(Op.bytesLess x.Ak (((E[i-1]?).map (·.Ak)).getD [])||x.Ak==(((E[i-1]?).map (·.Ak)).getD []))):=by
   rcases zX i with a6|a6
   ·subst a6;rfl
   rw[j7 a6,aa (show i-1<E.length by omega),Aal (show(0:Int)<(i:Int) by omega),Ael];exact Sy _ _
  refine AY b9 [] [0,1,0,0,0,0,0,0,0,1,0,1,0,0,0,0,1,0,0,0,0,0,1,0,0,0,0,1,0,0,0,0,1,0,1,0,1,2,0,0,0,1,1,1,2,0,0] [0,1,2,3,4,5,6,7,8,9,10,11,12,13,14,15,16,17,18,19,20,21,22,23,24,25,26,27,28,29,30,31,32,33,34,35,36,37,38,39,40,41,42,43,44,45,46] fun p2 l9 f=>vd Z (fun _=>Aa LC Z)<|vc Z f.kp (U.mv.kb BK Z Z)<|vd Z (fun _=>Bp.BY gx Z)<|vd Z (fun _=>Bm Z Z)<|AK Z Z ?_;apply WD.CJ false 14 _ f.kp RH
  ·intro n3;refine AK rfl rfl<|vd rfl (fun _=>BZ rfl rfl)<|AK rfl rfl ?_;apply WD.CJ true 10 (Op.bytesLess x.Ak (((E[i-1]?).map (·.Ak)).getD [])||x.Ak==(((E[i-1]?).map (·.Ak)).getD [])) f.kp RH
   ·intro n2;have a6:0<i:=oo;obtain⟨o4,j8,_⟩:=e9 a6;refine vd rfl (fun _=>Aa LC rfl)<|vc rfl f.kp (U.mv.kb BK rfl rfl)<|vd rfl (fun _=>Aa EK rfl)<|vc rfl f.kp (o.mv.kb HA rfl rfl)<|AK rfl rfl<|vd rfl (fun _=>EX rfl rfl Ad Ad)<|vd rfl (fun _=>LH Dt C.mv rfl rfl oo oo) ?_;rw[show((i:Int)-1).toNat=i-1 by omega]
    first|refine vd Z (fun _=>Aa LC Z) ?_|refine vd Z (fun _=>AR LC Z) ?_
    refine vc Z f.kp (fun W j3=>Bl BK Z ((j8.wQ (i:=0) Z).kp j3 Z).CY)<|vd Z (fun _=>sE Z Z) ?_;exact Xm 10 ((by rw[aa (show i-1<E.length by omega)];rfl))
   exact Xm 4
  refine AK Z Z ?_;apply WD.CJ false 3 _ f.kp RH
  ·intro n4;refine vd rfl (fun _=>Aa Ol rfl)<|vc rfl f.kp (U.mv.kb Au rfl rfl)<|vd rfl (fun _=>AE rfl rfl) ?_;exact Xm 3
  refine AK Z Z ?_;apply WD.CJ false 3 _ f.kp RH
  ·intro n5;refine vd rfl (fun _=>Aa Ol rfl)<|vc rfl f.kp (U.mv.kb Au rfl rfl)<|vd rfl (fun _=>BZ rfl rfl) ?_;exact Xm 3
  refine AK Z Z ?_;apply WD.Ko b9 false 8 _ f.kp RH
  ·intro n6 h6;have c8:0≤x.len∧x.len≤2000:=oo;refine vd rfl (fun _=>Aa IL rfl)<|vc rfl f.kp (U.mv.kb BL rfl rfl)<|vd rfl (fun _=>BI Bu) ?_;refine vc rfl f.kp (R.mv.kn Cq rfl rfl)<|vd rfl (fun _=>Aa Ol rfl)<|vc rfl f.kp (U.mv.kb Au rfl rfl)<|WD.AW rfl rfl rfl (Al b9 1 (Ay.call qJ rfl (kI hs c8))) rfl ?_;rintro o5 p3 ⟨l0,j0,n9,rfl⟩;refine f.AX j0 fun f=>vd rfl (fun _=>Bm rfl rfl) ?_;exact WD.Kq 8 h6.mv
  intro p4 e0 j1;refine AK rfl rfl ?_;replace f:=f.tr j1 rfl;apply WD.Ko e0 false 5 _ f.kp RH
  ·intro n7 h7;have c8:0≤x.len∧x.len≤2000:=oo;refine vc rfl f.kp (R.mv.kn Cq rfl rfl)<|vc rfl f.kp (o.mv.kn EB rfl rfl)<|vc rfl f.kp (U.mv.kn Lt rfl rfl)<|WD.AW rfl rfl rfl (Al e0 1 (Ay.call vf rfl (kH hs a1.mv.now k2 k3 j9 a8.mv.now c8))) rfl ?_;rintro o6 p5 ⟨l1,j2,o0,rfl⟩;refine f.AX j2 fun f=>vd rfl (fun _=>Bq rfl) ?_;exact WD.Kq 5 h7.mv
  intro o7 k7 l5;refine WD.nil ?_;clear f;refine AS rfl (fun b0=>?_) fun b0=>?_
  ·have ht:wm s L (bt E i) x=false:=by
    rw[Bool.eq_false_iff];intro h;unfold wm at h;rw[e7] at h;simp only[kg,yI,zV] at h;obtain⟨⟨⟨⟨⟨e1,g2⟩,e2⟩,e3⟩,e4⟩,b5⟩:=h;rw[b5] at b0;rcases b0 with((((h|h)|h)|h)|h)|h
    ·omega
    ·obtain⟨h1,J⟩:=h;rw[Aal h1,Ael,VJ] at g2;rcases J with J|J
     ·rw[J] at g2;cases g2.1
     simp[J] at g2
    ·omega
    ·omega
    ·omega
    cases h
   rw[ht,Agm] at r;refine Ab<|cg<|za Z<|Ac<|Az Z Z ?_;exact⟨t.mv.below,by rw[←r];rfl⟩
  have ht:wm s L (bt E i) x=true:=by
   obtain⟨⟨⟨⟨⟨e1,g2⟩,e2⟩,e3⟩,e4⟩,b5⟩:=b0;unfold wm;rw[e7,g2,b5,Aal (show x.Ak.length=32 by omega),Aal (show 0≤x.len by omega),Aal (show x.len≤2000 by omega),Aal (show x.list.length=BF s x.len.toNat by omega)];rfl
  rw[ht,Ael] at r;have o1:x.list.length≤10000:=by
   obtain⟨⟨⟨⟨⟨e1,g2⟩,e2⟩,e3⟩,e4⟩,b5⟩:=b0;have h5:x.list.length=BF s x.len.toNat:=oo;rw[h5,BF,←c0];have:=Adb (x.len.toNat+P-1) P;omega
  refine Aj<|Ab<|cg<|vq (Aa IL Z)<|vq (Ah BL Z U.mv.Ap Z)<|vq (BI Bu) ?_;refine zm Z<|Ac<|Ai<|WC.loop (σ:=Nat×List Int) (fun g=>[(2,P1 b2),(3,P1 b3),(5, .map (some b4)),(12,vT),(13,I E.length),(14,I i),(7,P1 b7),(67,u),(68,I x.list.length),(69,I g.1)]) (fun g w'=>(g.1≤x.list.length∧LU g.2 (x.list.drop g.1)=LU T x.list∧g.2=(x.list.take g.1).reverse++T∧∀p∈g.2,Go.Eng.Int64 p)∧∃c',AQ w c' w'∧Bi ES c' w' [0] vS L∧Bi IU c' w' [0] vT E∧Ar c' w' 102 b2 (DO s) 31∧Ar c' w' 103 b3 [vS,vT,vG,I n] 105∧Bi Bw c' w' [0] u x.list∧NM (fun n:Int↦I n) c' w' 77 b4 g.2) (fun g=>x.list.length-g.1) (0,T) Aq ⟨⟨Nat.zero_le _,Z,Z,e8⟩,_,t.mv,a1.mv,C.mv,R.mv,o.mv,a8.mv,l.mv⟩ ?_;clear t a1 C R o a8 l e9;rintro⟨j,c9⟩ p7 ⟨⟨j6,a7,b6,b1⟩,l2,t,a1,C,R,o,a8,l⟩;dsimp only at j6 a7 b6 b1 l;refine Ab<|cg<|vq (AE Z Z)<|Ac<|Ab<|AS Z (fun j5=>?_) fun j5=>?_
  ·have c6:j<x.list.length:=oo;obtain⟨q,c7⟩:∃q,q=x.list[j]:=⟨_,Z⟩;obtain⟨e6,b8⟩:=BP a8 c6 dd;rw[←c7] at e6 b8;rw[zO c6,←c7,LU] at a7;refine Aj<|Ab<|Ai<|Ab<|cg<|vq (ER Bu) ?_;refine vq (Bl Au Z e6.CY)<|za Z<|Ac<|Ab<|Ab<|cg<|zm Z<|zm Z<|vq (dC qg Z l b1 Z b8)<|Ac<|AS Z (fun c3=>?_) fun c3=>?_
   ·rw[yP (by simpa using c3)] at a7;rw[←a7,Agm] at r;refine Ab<|cg<|za Z<|Ac<|Az Z Z ?_;exact⟨t.below,by rw[←r];rfl⟩
   rw[if_neg (by simpa using c3)] at a7;refine Aj<|cg<|zm Z<|zm Z<|WR.AI ((jE qg Z l b1 Z b8)) ?_;rintro _ o8 ⟨k8,l6,l⟩;refine Ac<|cg<|vq (AH Z Z Ad Ad)<|zm Z<|Ac ?_;refine⟨(j+1,q::c9),Aq,⟨⟨by dsimp only;omega,a7,?_,fun p hp↦?_⟩,_,t.mv,a1.mv,C.mv,R.mv,o.mv,a8.mv,l⟩,by show x.list.length-(j+1)<x.list.length-j;omega⟩
   ·rw[b6,yG c6,List.reverse_append,←c7];rfl
   rcases zN.1 hp with rfl|hp
   ·exact b8
   exact b1 p hp
  have l3:j=x.list.length:=oo;rw[List.drop_of_length_le oo,LU] at a7;rw[List.take_of_length_le oo] at b6;rw[←a7,Bool.true_and] at r;refine WC.exit Z<|cg<|vq (AH Z Z Ad Ad)<|zm Z<|Ac ?_;refine⟨(i+1,c9),Aq,⟨⟨by dsimp only;omega,?_,b1⟩,_,t,a1,C,R,o,l⟩,by show E.length-(i+1)<E.length-i;omega⟩;rw[←r,b6,bt,List.getElem?_eq_getElem c5,←hx];rfl
 rw[Rx oo,LV] at r;refine WC.exit Z<|Ab<|cg<|vq (Aa EK Z)<|vq (Ah HA Z o.Ap Z)<|vq (BI Dt) ?_;refine vq (FV Z Z)<|za Z<|Ac<|Az Z Z ?_;have h4:((E.length:Int)≤60)↔E.length≤60:=oo;exact⟨t.below,by rw[←r];simp[h4]⟩
theorem kJ{vG:Value}(h:Rd RJ w vG []):Calls QP 284 #[vG] w (AP fun v w'=>Below w.heap.size w w'∧v= .bool true):=by
 have f:Bz w w:=Bz.refl w;refine enter (n:=47) (res:=#[.tmp 2]) Tryz.func284 Z Z Z Z<|Ab<|cg<|za Z<|Ac<|Ab<|Ab<|cg<|zm Z ?_
 first|refine vq (BN Wf (by assumption) Z) ?_|refine vq (CH Ada Z) ?_
 refine zm Z<|Ac<|Ai<|WC.loop (σ:=Unit) (fun _=>[(0,vG),(5,vG),(6,I ([]:List Tg).length),(7,I 0)]) (fun _ w'=>Rd RJ w' vG []∧Bz w w') (fun _=>0) () Aq ⟨h,f⟩ ?_;rintro _ i ⟨h,f⟩;refine Ab<|cg<|vq (AE Z Z)<|Ac<|Ab<|CD Z (fun g=>?_) fun g=>?_
 ·exact absurd g ss
 refine WC.exit Z<|Ab<|cg<|zm Z ?_
 first|refine vq (BN Wf (by assumption) Z) ?_|refine vq (CH Ada Z) ?_
 refine vq (FV Z Z)<|za Z<|Ac<|Az Z Z ?_;exact⟨f,Z⟩
theorem nZ{s:Cn}{vS vT vG:Value}{b:Bk}(hs:s.ok)(h1:Rd ES w vS b.stripes)(j:Rd IU w vT b.things)(g:Rd RJ w vG b.tags)(h0:b.tags=[]):
 Calls QP 185 #[.agg (DO s).toArray, .agg #[vS,vT,vG,I b.next]] w (AP fun v w'=>Below w.heap.size w w'∧v= .bool (Dv s b)):=by
 have e7:=h1.Av;have b1:=j.Av;have J:=g.Av;rw[h0] at g;obtain⟨c,a6,i⟩:=AQ.start w;have C:Bi ES c w [0] vS b.stripes:=Rd.Cl h1 (fun k hk=>by simp[i,AA]);have b0:Bi IU c w [0] vT b.things:=Rd.Cl j (fun k hk=>by simp[i,AA]);have a8:Bi RJ c w [0] vG []:=Rd.Cl g (fun k hk=>by simp[i,AA]);clear i h1 j g;refine enter (n:=32) (res:=#[.tmp 4]) Tryz.func185 Z Z Z Z<|Ab<|cg<|Dz c 102 fun w1 b2 c1 b8 l=>?_;refine Dz c1 103 fun w2 b3 c2 b9 f=>?_;refine za Z<|Ac<|Ab<|cg<|vq (AD Cq Z l.mv.Ap Z)<|ve (Al c2 1 (Ay.call QG Z (JG hs))) ?_;rintro v6 e9 ⟨p,c0,e3,rfl⟩;refine zm Z ?_;apply WR.CJ true 3 _ BT
 ·intro e2;refine wo<|vq (Aa HT rfl)<|wo<|vq (Ah Au rfl f.mv.Ap rfl)<|wo<|vq (Cu rfl rfl) ?_;exact Dm 3
 refine zm Z ?_;apply WR.CJ true 3 _ BT
 ·intro c9;refine wo<|vq (Aa HT rfl)<|wo<|vq (Ah Au rfl f.mv.Ap rfl)<|wo<|vq (FV rfl rfl) ?_;exact Dm 3
 refine zm Z ?_;apply WR.Ko p true 3 _ BT
 ·intro e0 R;refine wo<|vq (AD Cq rfl l.mv.Ap rfl)<|wo<|vq (AD EB rfl f.mv.Ap rfl)<|wo<|ve (Al p 1 (Ay.call uF rfl (Zm hs C.mv.now b1 J))) ?_;rintro v20 h2 ⟨b4,c3,e4,rfl⟩;exact WR.Kq 3 R.mv
 intro h3 r c4;refine zm rfl ?_;apply WR.Ko r true 3 _ BT
 ·intro a7 U;refine wo<|vq (AD Cq rfl l.mv.Ap rfl)<|wo<|vq (AD EB rfl f.mv.Ap rfl)<|wo<|ve (Al r 1 (Ay.call uG rfl (bu hs C.mv.now b0.mv.now J (NB (s:=s) (next:=b.next) (o:=none) (T:=[]) (by simpa using a7.2))))) ?_;rintro e8 h4 ⟨b5,c5,e5,rfl⟩;exact WR.Kq 3 U.mv
 intro h5 t c6;refine zm rfl ?_;apply WR.Ko t true 3 _ BT
 ·intro e1 a1;refine wo<|vq (Aa Sh rfl)<|wo<|vq (Ah Uq rfl f.mv.Ap rfl)<|wo<|ve (Al t 1 (Ay.call uH rfl (kJ a8.mv.now))) ?_;rintro v30 h6 ⟨b6,c7,e6,rfl⟩;exact WR.Kq 3 a1.mv
 intro h7 b7 c8;refine za rfl<|Ac<|Az rfl rfl<|⟨a6.mv.below,?_⟩;rw[Dv,h0];simp[Gl,YD,Agn]
end Go.Proofs.K
namespace Silo
open Go Go.Eng
def FY(b:Bk)(L:List Nt):Bk:=L.foldl lE b
theorem bw(b:Bk){L:List Nt}{k:Nat}(hk:k<L.length):FY b (L.take (k+1))=lE (FY b (L.take k)) L[k]:=by
 rw[FY,yG hk,Adj];rfl
theorem Qu{b:Bk}(h1:Ib b.stripes)(f:JH b.things):∀L:List Nt,Ib (FY b L).stripes∧JH (FY b L).things∧(FY b L).stripes.length≤b.stripes.length+L.length∧(FY b L).things.length≤b.things.length+L.length∧(FY b L).tags=b.tags:=fun L=>by
 induction L generalizing b with
 |nil=>exact⟨h1,f,lx _,lx _,Z⟩
 |cons r L o=>
  obtain⟨g,i⟩:=kF (r:=r) h1 f;obtain⟨I,J,p⟩:=nW b r;obtain⟨j,g2,t,C,l⟩:=o g i;have e:FY b (r::L)=FY (lE b r) L:=rfl;rw[e,yZ];exact⟨j,g2,by omega,by omega,l.trans p⟩
structure rS (n m:Nat) (P:Ek) (L:List Nt) (A:Cr) (J:JQ) (b:Bk) (e:Int):Prop where
 lay:Hj n m 6156 P.A A
 j:Rs n J
 used:J.used≤P.J.used+24+EL (L.map Hk)
 may:Dv P.s b=true
 tags:b.tags=[]
 new:b=P.b∨(e=0∧b=FY P.b L)
 zero:e=0→b=FY P.b L
 rQ:Dv P.s (FY P.b L)=true→(∀k:Nat,k<n→Cf P.A k=true)→P.J.failed=false→e=0∧J.failed=false
theorem gb{v:Value}{α:Type}{s:Shape α}(h:Rd s w v ([]:List α)):Dc v:=by
 obtain⟨A,c,rfl,_⟩:=h.form;exact⟨A,_,c,Z,fun h=>by simp at h⟩
def JR(s:Cn)(t:Tx)(i:Nat):List Tx:=eQ s (JP s ((GG s t).getD i []))
theorem oa{s:Cn}{u:Tx}(hs:Small s)(hu:u.length≤s.k*s.size):(eQ s (JP s u)).length=s.k+s.m∧∀x∈eQ s (JP s u),x.length=s.size:=by
 obtain⟨i,g2,j⟩:=Go.Proofs.K.Tq hs;obtain⟨o,p⟩:=Vq hu;obtain⟨f,g⟩:=Tz (m:=MM s.k s.m) (l:=JP s u) (n:=s.size) j (by rw[g2,o];exact lx _) (by rw[g2];exact hs.1) p;exact⟨f.trans i,g⟩
theorem ZE{s:Cn}{t:Tx}{i:Nat}(hs:Small s):(JR s t i).length=s.k+s.m∧∀x∈JR s t i,x.length=s.size:=by
 refine oa hs ?_;rcases yT i (GG s t).length with h|h
 ·rw[gy,aa h];exact((KQ s (Af8 hs.1 hs.2.2.2.1) t).2 _ (oy h)).2
 rw[gy,yW h];exact yU _
theorem TE{s:Cn}(hs:Small s)(n:Nat):BF s n≤n:=by
 rw[BF];have g:1≤s.k*s.size:=yQ hs.1 hs.2.2.2.1;rcases zX n with f|f
 ·subst f;rw[Acf oo];omega
 refine Nat.div_le_of_le_mul ?_;have i:=yL (n-1) g;have j:s.k*s.size*n=s.k*s.size*(n-1)+s.k*s.size:=by
  rw[show n=n-1+1 by omega,Nat.mul_add,Aa2];simp
 omega
def MR(s:Cn)(next:Int)(t:Tx)(pre:List Pu)(i:Nat):CZ:=⟨next+(i:Nat),((GG s t).getD i []).length,0,((pre[i]?).map Rt).getD []⟩
end Silo
namespace Go.Eng
open Go Go.RowKit Silo
abbrev gf:List Nat:=[121,122,123,124,125]
def EO(c:Nat→Nat):Nat→Nat:=fun k=>if AA gf (c k)=true then 94 else c k
theorem kK{k:Nat}(h:AA gf (c k)=true):EO c k=94:=by simp[EO,h]
theorem Fp{k i:Nat}(h:c k=i)(hi:AA gf i=false:=by rfl):EO c k=i:=by
 unfold EO;rw[h,hi];rfl
section
variable {c0 c:Nat→Nat} {w0 w:World}
theorem AZ.EO(h:AZ c0 w0 CT c w):AZ c0 w0 CT (Go.Eng.EO c) w:=⟨h.os,h.tape,h.output,h.size,fun k hk=>by
 have f:=h.Bf k hk;have hi:AA gf (AT c0 CT k)=false:=by
  cases hc:AA CT (c0 k) with
  |false=>rw[Ha hc];rfl
  |true=>
   rw[IA hc];exact DS Z hc
 exact Fp f hi,h.block⟩
theorem By.EO{p:Nat}{A:Cr}(h:By c w p A):By (Go.Eng.EO c) w p A:=by
 obtain⟨v,X,a,b⟩:=h;exact⟨v,X,⟨a.Ap,Fp a.Bf⟩,b.live,⟨b.own.own,fun k hk=>Fp (b.own.Bf k hk)⟩,⟨b.rows.len,fun j v l f g=>⟨(b.rows.row j v l f g).own,fun k hk=>Fp ((b.rows.row j v l f g).Bf k hk)⟩,b.rows.apart⟩,⟨b.maps.len,fun j v l f g=>⟨(b.maps.row j v l f g).obj,Fp (b.maps.row j v l f g).Bf⟩,b.maps.apart⟩⟩
theorem DI.EO{p pa:Nat}{j:JQ}(h:DI c w p pa j):DI (Go.Eng.EO c) w p pa j:=by
 obtain⟨f,g,cs,a,b,d⟩:=h;exact⟨f,g,cs,⟨a.Ap,Fp a.Bf⟩,⟨b.own,fun k hk=>Fp (b.Bf k hk)⟩,⟨d.own,fun k hk=>Fp (d.Bf k hk)⟩⟩
theorem Fq.EO{Φ:World→Prop}{S:List Nat}(h:Fq Φ c w S)(g:S.all (AA gf)=true:=by rfl):Fq Φ (Go.Eng.EO c) w [94]:=Hm.mono h fun k _ hk=>by
 show AA [94] (Go.Eng.EO c k)=true
 cases f:AA gf (c k) with
 |true=>rw[kK f];rfl
 |false=>rw[Hy g f] at hk;cases hk
end
end Go.Eng
namespace Go.Proofs.K
open Go Go.Eng Go.RowKit Silo TryzT
theorem VE{p pa pj n m:Nat}{vS vT vG u:Value}{P:Ek}{L:List Nt}{K:List Nat}(e0:BU c w p pa pj vS vT vG P)(hs:Small P.s)(l7:0<n∧n≤12)(l4:1024≤m∧m≤2048)(h3:FF n m P.A)(hc:P.A.changes≤900000000)(j3:Rs n P.J)(b6:Dv P.s P.b=true)(ht:P.b.tags=[])
 (h:Bi Il c w K u (L.map Hk))(k0:Bd K CT=true)(p0:1≤L.length∧L.length≤500)(l5:∀r∈L,JN (Hk r)=true)(h9:∀r∈L,kE r)(p7:P.b.stripes.length+L.length≤900∧P.b.things.length+L.length≤900)(j9:P.J.used+24+EL (L.map Hk)≤32704):
 Calls QP 103 #[P1 p,u] w (AP fun v w'=>∃c',Mv c w c' w' CT∧∃h0 h1 h2 e b0 b1 a6,BU c' w' p pa pj b0 b1 a6 {P with A:=h0,J:=h1,b:=h2}∧rS n m P L h0 h1 h2 e∧v=I e):=by
 have hJ:=AZ.start c w CT;replace e0:=e0.Ca (K:=CT);have a7:Bi Il (AT c CT) w [0] u (L.map Hk):=h.Ca k0;generalize AT c CT=c0 at hJ e0 a7;obtain⟨i,j,o,g⟩:=e0;have p9:=a7.now.Av;have p5:=g.s.now;have p6:=g.t.now;have j0:=g.g.now;have n2:=HE b6;have n1:=GP b6;have n0:∀x∈P.b.stripes,x.place.length≤1000:=fun x hx=>by
  have b2:=(CW (Mz b6 x hx).1).2.2.2.2.1;have:=hs.2.1;have:=hs.2.2.1;omega
 have l3:∀x∈P.b.things,x.list.length≤100000:=fun x hx=>by
  obtain⟨_,g2,o9,j7,_⟩:=LW (DV b6).2.2.1 x hx;rw[j7,BF];have b2:=Adb (x.len.toNat+P.s.k*P.s.size-1) (P.s.k*P.s.size);have b3:P.s.k*P.s.size≤3*120:=yQ hs.2.1 hs.2.2.2.2;omega
 have l9:Dc vG:=gb (by rw[ht] at j0;exact j0);refine enter (n:=67) (res:=#[.tmp 4]) Tryz.func103 Z Z Z Z<|Ab<|cg<|za Z<|Ac<|Ab<|cg<|zm Z<|vq (Ae Z)<|vq (Aa Dr Z)<|vq (Cy EB Z i.Ap (yV Z)) ?_;refine ve (Ay.call tL Z (nA (c:=c0) g.s.now g.t.now g.g.now l9 ⟨by omega,by omega,by rw[ht];simp⟩ n0 l3)) ?_;rintro q4 w1 ⟨c1,k1,⟨b0,b1,a6,YS,YT,rfl,f⟩⟩;have n9:=f.s.Av;have o0:=f.t.Av;have o1:=f.g.Av;refine Db c1 120 cE fun w2 b5 c2 k2 a1=>WR.AI (Am EB Z Z a1 Z Z AG) ?_;rintro _ q9 ⟨a1,k3⟩;refine Ac<|Ab<|Ab ?_;have k4:=(((a7.mv k1).mv k2).mv k3).now.small;rw[yF] at k4;have p4:(L.map Hk).length=L.length:=yF _;refine cg<|zm Z<|vq (BI Hp) ?_;refine zm Z<|Ac<|Ai<|WC.loop (σ:=Nat) (fun k=>[(0,P1 p),(1,u),(5,P1 b5),(15,u),(16,I (L.map Hk).length),(17,I k)]) (fun k w'=>k≤L.length∧∃c' b0 b1 a6 YS YT,AZ c w CT c' w'∧Ar c' w' 90 p (DH pa pj vS vT vG P) 109∧By c' w' pa P.A∧DI c' w' pj pa P.J∧dg c' w' [94] vS vT vG P.b∧Bi Il c' w' [0] u (L.map Hk)∧Ar c' w' 120 b5 [b0,b1,a6,I (FY P.b (L.take k)).next] 105∧Tv c' w' b0 b1 a6 (FY P.b (L.take k)) YS YT) (fun k=>L.length-k) 0 Aq ⟨yU _,_,b0,b1,a6,YS,YT,hJ.mv,i.mv,j.mv,o.mv,g.mv,a7.mv,a1,f.mv⟩ ?_;clear hJ i j o g a7 a1 f;rintro k o4 ⟨hk,c8,b0,b1,a6,YS,YT,hJ,i,j,o,g,a7,a1,f⟩;obtain⟨b,a8⟩:∃b,b=FY P.b (L.take k):=⟨_,Z⟩;have h8:=Qu n2 n1 (L.take k);rw[←a8] at h8 a1 f;obtain⟨n4,n5,n6,n7,n8⟩:=h8
 rw[ly] at n6 n7;refine Ab<|cg<|vq (AE Z Z)<|Ac<|Ab<|AS Z (fun k8=>?_) fun k8=>?_
 ·have e7:k<L.length:=oo;have l1:k<(L.map Hk).length:=by rw[yF];exact e7
  obtain⟨cs,k7,e9,k9⟩:=aW a7 l1;rw[Ach] at e9;obtain⟨q8,vs,l0,j1,j2,_⟩:=e9.now;have q0:=j1.Av;have q1:=j2.Av;have q2:=j1.Aw;have q3:=j2.Aw;subst l0;clear k9;refine Aj<|Ab<|Ai<|Ab<|cg<|vq (AF Hp a7.now Z Z Z oo (by rw[yF];omega))<|vq (Dg Fs Z k7.CY Z) ?_;refine Db c8 107 RD fun r0 b7 o5 p1 e5=>WR.AI (Am Fs Z Z e5 Z Z AG) ?_;rintro _ r1 ⟨e5,p2⟩;refine Ac<|Ab<|cg<|vq (AD Fs Z e5.Ap Z)<|ve (Ay.call tM Z (nX a1.mv f.mv n4 n5 ⟨by omega,by omega⟩ e9.mv Z (h9 _ (oy e7)))) ?_;rintro q5 r2 ⟨o6,p3,⟨rfl,o2,o3,j4,j5,a1,f⟩⟩;refine za Z<|Ac<|Ab<|cg<|zm Z<|vq (Bm Z Z)<|Ac<|CD Z (fun h6=>?_) fun h6=>?_
  ·exact absurd h6 dd
  refine Aj<|cg<|vq (AH Z Z Ad Ad)<|zm Z<|Ac ?_;rw[a8,←bw P.b e7] at a1 f;exact⟨k+1,Aq,⟨by omega,_,o2,o3,a6,j4,j5,hJ.mv,i.mv,j.mv,o.mv,g.mv,a7.mv,a1,f⟩,by omega⟩
 have j6:k=L.length:=oo;subst j6;rw[Ui] at a8;have n9:=f.s.Av;have o0:=f.t.Av;have o1:=f.g.Av;have b9:=f.ri oo;have c3:=f.mG oo;have c6:b.tags=[]:=n8.trans ht;have b8:Bi RJ c8 o4 [125] a6 b.tags:=f.g.Ez (by rw[c6];simp) (fun t ht=>by rw[c6] at ht;cases ht);refine WC.exit Z<|Ab<|Ab<|AY c8 [] [0,0,0,1,1,2,0] [0,1,2,3,4,5,6] fun r3 R c5=>?_;refine AK Z Z<|vd Z (fun _=>Ae Z)<|vd Z (fun _=>Aa Eb Z)<|vc Z c5.kp (fun W k5=>Cy Cq Z (i.mv.kp k5 Z).Ap (yV Z))<|vc Z c5.kp (a1.mv.kn EB Z Z)<|WD.AW Z Z Z (Al c8 1 (Ay.call tN Z (nZ hs.ok b9.mv.now c3.mv.now b8.mv.now c6))) Z ?_;rintro q6 r4 ⟨o7,C,p8,rfl⟩;refine c5.AX C fun c5=>vd Z (fun _=>Bq Z)<|WD.nil ?_;clear c5;refine AS Z (fun e6=>?_) fun e6=>?_
 ·have l8:¬Dv P.s (FY P.b L)=true:=by rw[←a8];simpa using e6
  refine Ab<|cg<|za Z<|Ac<|Az Z Z ?_;exact⟨_,hJ.mv.out,P.A,P.J,P.b,2,vS,vT,vG,BU.out ⟨i.mv,j.mv,o.mv,g.mv⟩ hJ.mv,⟨(Hj.refl h3).more oo,j3,by omega,b6,ht, .inl Z,fun e=>(by cases e),fun h=>absurd h l8⟩,Z⟩
 have n3:Dv P.s (FY P.b L)=true:=by rw[←a8];simpa using e6
 have l6:∀r∈L.map Hk,JN r=true:=fun r e8=>by
  obtain⟨y,hy,rfl⟩:=zc.1 e8;exact l5 y hy
 have l2:∀r∈L.map Hk,r.list.length≤1048576∧r.CF.length≤1048576:=fun r e8=>by
  obtain⟨y,hy,rfl⟩:=zc.1 e8;have b2:=h9 y hy;cases y with
  |ZD x=>exact⟨by show 2≤_;omega,by have:=b2.2;show x.place.length≤_;omega⟩
  |Xf d n l=>exact⟨by have:=b2.2.2;show l.length≤_;omega,by show 0≤_;omega⟩
 refine Aj<|Ab<|cg<|zm Z<|vq (Ae Z)<|vq (Aa XJ Z)<|vq (Ah Fu Z i.mv.Ap Z)<|zm Z<|ve (Ay.call tO Z (nG o.mv j.mv j3 l7 l4 h3 hc a7.mv Z ⟨by omega,by omega⟩ l6 l2 j9)) ?_;rintro q7 r5 ⟨o8,U,⟨A2,c7,e,j,o,c9,e4,e3,rfl,e2,j8⟩⟩;refine za Z<|Ac<|Ab<|Ab<|cg<|zm Z<|vq (AU Z Z)<|Ac<|CD Z (fun h5=>?_) fun h5=>?_
 ·exact absurd (by simpa using h5) j8
 refine Aj<|Ab<|Ab<|cg<|zm Z<|vq (AU Z Z)<|Ac<|AS Z (fun k6=>?_) fun k6=>?_
 ·have h7:e=0:=oo;have h4:Dv P.s b=true:=by rw[a8];exact n3
  refine cg<|zm Z<|vq (AD EB Z a1.mv.Ap Z)<|vq (Ae Z)<|vq (Aa Dr Z)<|WR.AI (Mk EB Z Z i.mv Z (yV Z) AG) ?_;rintro _ r6 ⟨e1,c4⟩;refine Ac<|Ab<|cg<|zm Z<|za Z<|Ac<|Az Z Z ?_;replace hJ:=(((hJ.mv R).mv C).mv U).mv c4;replace i:=((i.mv R).mv C).mv U;replace g:=((g.mv R).mv C).mv U;replace b9:=(((b9.mv R).mv C).mv U).mv c4;replace c3:=(((c3.mv R).mv C).mv U).mv c4;replace b8:=(((b8.mv R).mv C).mv U).mv c4;replace j:=j.mv c4;replace o:=o.mv c4
  first
  |exact⟨_,AZ.out hJ.EO,A2,c7,b,e,b0,b1,a6,BU.out ⟨⟨e1.Ap,Fp e1.Bf⟩,j.EO,o.EO,⟨b9.EO,c3.EO,b8.EO⟩⟩ hJ.EO,⟨c9,e4,e3,h4,c6, .inr ⟨h7,a8⟩,fun _=>a8,fun b2 b3 b4=>e2 b3 b4⟩,Z⟩
  |exact⟨_,hJ.out,A2,c7,P.b,e,vS,vT,vG,BU.out ⟨i,j,o,g⟩ hJ,⟨c9,e4,e3,b6,ht, .inl Z,fun h=>absurd h oo,fun b2 b3 b4=>e2 b3 b4⟩,Z⟩
 refine Aj<|Ab<|cg<|zm Z<|za Z<|Ac<|Az Z Z ?_;replace hJ:=((hJ.mv R).mv C).mv U;replace i:=((i.mv R).mv C).mv U;replace g:=((g.mv R).mv C).mv U;replace b9:=((b9.mv R).mv C).mv U;replace c3:=((c3.mv R).mv C).mv U;replace b8:=((b8.mv R).mv C).mv U
 first
 |exact⟨_,AZ.out hJ.EO,A2,c7,b,e,b0,b1,a6,BU.out ⟨⟨e1.Ap,Fp e1.Bf⟩,j.EO,o.EO,⟨b9.EO,c3.EO,b8.EO⟩⟩ hJ.EO,⟨c9,e4,e3,h4,c6, .inr ⟨h7,a8⟩,fun _=>a8,fun b2 b3 b4=>e2 b3 b4⟩,Z⟩
 |exact⟨_,hJ.out,A2,c7,P.b,e,vS,vT,vG,BU.out ⟨i,j,o,g⟩ hJ,⟨c9,e4,e3,b6,ht, .inl Z,fun h=>absurd h oo,fun b2 b3 b4=>e2 b3 b4⟩,Z⟩
end Go.Proofs.K
namespace Go.Eng
open Go Go.RowKit Silo
structure ob (c:Nat→Nat) (w:World) (vts:List Value) (n:Nat) (T:Nat→List Tx):Prop where
 len:vts.length=n
 row:∀(i:Nat) (v:Value),vts[i]?=some v→Bi CL c w [142] v (T i)
theorem ob.mv{c c':Nat→Nat}{w w':World}{f:List Value}{n:Nat}{T:Nat→List Tx}{I:List Nat}(h:ob c w f n T)(m:Mv c w c' w' I:=by exact Go.Eng.Jb)(hi:Bd [142] I=true:=by rfl):ob c' w' f n T:=⟨h.len,fun i v hv=>(h.row i v hv).mv m hi⟩
theorem ob.snoc{f:List Value}{n:Nat}{T:Nat→List Tx}{v:Value}(h:ob c w f n T)(hv:Bi CL c w [142] v (T n)):ob c w (f++[v]) (n+1) T:=⟨by rw[bU,h.len];rfl,fun i u hu=>by
 rcases FU hu with⟨rfl,rfl⟩|hu
 ·rw[h.len];exact hv
 ·exact h.row i u hu⟩
structure rT (c:Nat→Nat) (w:World) (Y:List Fx):Prop where
 el:∀y∈Y,Bi Bg c w [136] y.2.v y.1.place
theorem rT.mv{c c':Nat→Nat}{w w':World}{Y:List Fx}{I:List Nat}(h:rT c w Y)(m:Mv c w c' w' I:=by exact Go.Eng.Jb)(hi:Bd [136] I=true:=by rfl):rT c' w' Y:=⟨fun y hy=>(h.el y hy).mv m hi⟩
end Go.Eng
namespace Go.Proofs.K
open Go Go.Eng Go.RowKit Silo TryzT
def RS(s:Cn)(next:Int)(t:Tx)(live:List Bool)(F:List (List Int))(c':Nat→Nat)(w':World)(vl g:Value)(e:Int):Prop:=
 (e≠0∧vl= .slice none 0 0∧g= .slice none 0 0∧∃p E,Fh live F (s.k+s.m) p∧p.length<BF s t.length∧Mc live (EN F p) [] (s.k+s.m) e E)∨
 (e=0∧∃pre Y f,Fh live F (s.k+s.m) pre∧pre.length=BF s t.length∧Y.map (·.1)=(List.range (BF s t.length)).map (MR s next t pre)∧Ao c' w' 140 144 4 vl Y.length (Y.flatMap BQ)∧rT c' w' Y∧Ao c' w' 141 38 1 g f.length f∧ob c' w' f (BF s t.length) (JR s t))
theorem bx{p pa pj n m:Nat}{vS vT vG:Value}{P:Ek}{t:Tx}(a8:BU c w p pa pj vS vT vG P)(hs:Small P.s)(n0:0<n∧n≤12)(k5:FF n m P.A)(l3:P.n≤64)(hl:P.b.stripes.length≤100000)(ht:t.length≤2000)(hx:0≤P.b.next∧P.b.next≤1073741824):
 Calls QP 98 #[P1 p,St t] w (AP fun u w'=>∃c',Mv c w c' w' []∧∃vl j7 e F,RS P.s P.b.next t (CK n P.A) F c' w' vl j7 e∧F.length=n∧dL P.n F∧(P.b.stripes=[]→F=List.replicate n (Fg P.n))∧u= .tuple #[vl,j7,I e]):=by
 have g:=Dh.start c w CT;replace a8:=a8.Ca (K:=CT);generalize AT c CT=c0 at g a8;obtain⟨o5,o6,r1,o7,o8⟩:=id hs;have e2:=KQ P.s (Af8 o5 o7) t;have l9:=Cc n P.A;have q1:P.s.k*P.s.size≤3*120:=yQ o6 o8;refine enter (n:=90) (res:=#[.tmp 4, .tmp 5, .tmp 6]) Tryz.func98 Z Z Z Z<|Ab<|cg<|za Z<|za Z<|za Z<|Ac<|Ab<|cg<|zm Z<|ve (Ay.call ed Z (IH (c:=c0) ⟨pa,pj,vS,vT,vG,a8⟩ k5 n0.2 l3 hl)) ?_;rintro r2 w1 ⟨c1,k9,⟨vL,vF,F,c8,b9,c3,h3,rfl⟩⟩;have q9:=c8.kh.Av;obtain⟨s4,n9,_⟩:=id c8.row;have r0:=n9.Av;refine Db c1 133 Fv fun w2 b7 c2 l0 c9=>WR.AI (Am Cz Z Z c9 Z Z AG) ?_;rintro _ s8 ⟨c9,l1⟩;refine Ac<|Ab ?_;obtain⟨C,k6,k8,k7⟩:=(((a8.mv k9).mv l0).mv l1);refine cg<|zm Z<|vq (Ae Z)<|vq (Aa Eb Z)<|vq (Cy Cq Z C.Ap (yV Z))<|zm Z<|vq (Bp.BY gx Z) ?_;refine ve (Ay.call tF Z (nR (n:=t.length) hs c9 c8.mv ⟨by rw[l9,b9],by omega⟩ oo (fun l hl y hy↦by have:=(c3 l hl).2.1 y hy;omega) ht)) ?_;rintro r3 o9 ⟨e9,p7,⟨vl,e,h2,rfl⟩⟩;refine zm Z<|vq (Ag Z Z)<|vq (Ag Z Z)<|za Z<|za Z<|Ac<|Ab<|Ab<|cg<|zm Z<|vq (Bm Z Z)<|Ac<|AS Z (fun l4=>?_) fun l4=>?_
 ·refine Ab<|cg<|zm Z<|za Z<|za Z<|za Z<|Ac<|su Z Z Z Z ?_;rcases h2 with⟨b8,_⟩|⟨b8,rfl,hp⟩
  ·exact absurd b8 oo
  exact⟨_,g.mv.out,_,_,e,F, .inl ⟨b8,Z,Z,hp⟩,b9,c3,h3,Z⟩
 obtain⟨l8,pre,n4,j2,r,n5⟩|⟨n1,_⟩:=h2
 case inr=>exact absurd oo n1
 subst l8;have b1:sr e9 o9 pre:=⟨n5⟩;refine Aj<|Ab<|cg<|zm Z<|vq (Ae Z)<|vq (Aa Eb Z)<|vq (Cy Cq Z C.mv.Ap (yV Z))<|zm Z<|ve (Al e9 143 (Ay.call tG Z (jA (t:=t) hs.ok ht))) ?_;rintro r4 s9 ⟨p4,l2,n6,⟨e5,rfl,f⟩⟩;replace f:=f.Cl n6;refine zm Z<|vq (Ag Z Z)<|vq (Ag Z Z)<|za Z<|za Z<|Ac<|Ab<|Ab ?_;obtain⟨L,h4⟩:∃L,L=GG P.s t:=⟨_,Z⟩;rw[←h4] at f e2;obtain⟨many,b5⟩:∃many,many=BF P.s t.length:=⟨_,Z⟩;rw[←b5] at j2 e2;have q2:many≤2000:=by
  have p6:=TE hs t.length;omega
 replace r:=r.mv l2;have q4:=f.Av;have q5:=f.Aw;have q6:=r.Av;have q7:=r.Aw;refine cg<|zm Z<|vq (NX BE f Z)<|zm Z<|Ac<|Ai<|WC.loop (σ:=Nat×Value×Value) (fun o=>[(0,P1 p),(1,St t),(4,o.2.1),(5,o.2.2),(6,I 0),(8,vl),(41,e5),(42,I L.length),(43,I o.1)]) (fun o w'=>o.1≤many∧∃c' Y a6,Dh c w CT c' w'∧Ar c' w' 90 p (DH pa pj vS vT vG P) 109∧Ao c' w' 137 125 1 vl pre.length (pre.map (·.1))∧sr c' w' pre∧Ao c' w' 143 9 1 e5 L.length (L.map St)∧Y.map (·.1)=(List.range o.1).map (MR P.s P.b.next t pre)∧Ao c' w' 140 144 4 o.2.1 Y.length (Y.flatMap BQ)∧rT c' w' Y∧Ao c' w' 141 38 1 o.2.2 a6.length a6∧ob c' w' a6 o.1 (JR P.s t)) (fun o=>many-o.1) (0, .slice none 0 0, .slice none 0 0) Aq ⟨Nat.zero_le _,_,[],[],g.mv,C.mv,r,b1.mv,f,Z,Ao.nil _ _ _ _ _,⟨fun y hy=>by simp at hy⟩,Ao.nil _ _ _ _ _,⟨Z,fun i v h=>by simp at h⟩⟩ ?_;clear g C k6 k8 k7 r b1 f;rintro⟨k,v4,r5⟩ j8 ⟨hk,b6,Y,a6,g,C,r,b1,f,b3,j,j3,J,b2⟩;dsimp only at hk b3 j J b2;have p9:Y.length=k:=by have:=congrArg List.length b3;simpa using this
 have q3:=b2.len;have o0:=j.Av;have o1:=j.Aw;have o2:=J.Av;have o3:=J.Aw;refine Ab<|cg<|vq (AE Z Z)<|Ac<|Ab<|AS Z (fun l6=>?_) fun l6=>?_
 ·have q0:k<many:=oo;have e0:k<L.length:=oo;obtain⟨u,hu⟩:∃u,u=L[k]:=⟨_,Z⟩;have e3:=e2.2 u (by rw[hu];exact oy e0);have l5:DF b6 j8 [143] (Bh e5 1 k) [St u]:=f.nO (by rw[yY,aa e0,hu];rfl);have j5:(GG P.s t).getD k []=u:=by rw[←h4,gy,aa e0,hu];rfl
  have e1:k<pre.length:=oo;obtain⟨⟨e6,j9⟩,e4⟩:∃x,x=pre[k]:=⟨_,Z⟩;have a1:=b1.el (e6,j9) (by rw[e4];exact List.getElem_mem e1);dsimp only at a1;obtain⟨e7,h1,j6,_⟩:=a1.now.form;obtain⟨a7,h8⟩:∃a7,a7=Rt (e6,j9):=⟨_,Z⟩;rw[←h8] at a1 j6;have l7:DF b6 j8 [137] (Bh vl 1 k) [e6]:=r.nO (by rw[List.getElem?_map,List.getElem?_eq_getElem e1];show some (pre[k]).1=_;rw[←e4]);subst j6;have o4:=a1.now.Av;have q8:=a1.now.Aw;refine Aj<|Ab<|Ai<|Ab<|cg<|zm Z<|vq (Bj BE f Z Z oo oo)<|vq (Bl BK Z l5.CY)<|za Z ?_;refine za Z<|Ac<|Ab<|cg<|zm Z<|vq (Ae Z)<|vq (Aa Eb Z)<|vq (Cy Cq Z C.Ap (Nat.le_of_ble_eq_true Z))<|zm Z<|ve (Al b6 144 (Ay.call tH Z (jQ (t:=u) hs.ok e3.1 e3.2))) ?_;rintro r6 u0 ⟨k2,h5,n7,⟨s3,rfl,b0⟩⟩;replace b0:=b0.Cl n7;have b4:=Vq (s:=P.s) (t:=u) e3.2;replace b0:=b0.lD b4.1.symm;refine zm Z<|vq (Ag Z Z)<|vq (Ag Z Z)<|za Z<|za Z<|Ac<|Ab<|cg<|zm Z<|vq (Ae Z)<|vq (Aa Eb Z)<|vq (Cy Cq Z C.mv.Ap (Nat.le_of_ble_eq_true Z))<|zm Z ?_;refine ve (Al k2 142 (Ay.call tI Z (nl hs (JI b0 oo (fun y hy↦by rw[b4.2 y hy];omega)).now b4.1 b4.2))) ?_;rintro r7 u1 ⟨h0,h6,n8,⟨s0,rfl,U⟩⟩;replace U:=U.Cl n8;refine zm Z<|vq (Ag Z Z)<|vq (Ag Z Z)<|za Z<|za Z<|Ac<|Ab ?_;have j1:=ZE (s:=P.s) (t:=t) (i:=k) hs;have n3:eQ P.s (JP P.s u)=JR P.s t k:=by rw[JR,j5]
  rw[n3] at U;replace U:=U.lD j1.1.symm;obtain⟨k0,k3,rfl,_,_⟩:=U.own.len;have n2:Bi CL _ _ [142] _ (JR P.s t k):=JI U oo (fun y hy↦by rw[j1.2 y hy];omega);obtain⟨e8,p8⟩:∃e8,e8=Value.slice k0 (JR P.s t k).length k3:=⟨_,Z⟩;refine AY h0 [140] [0,0,0,0,0,1,0,0,0,0,0,0,0,1,0,2,2,0] [0,1,2,3,4,5,6,7,8,9,10,11,12,13,14,15,16,17] fun u2 h7 R=>AK Z Z<|AK Z Z<|vd Z (fun _=>Ae Z)<|vd Z (fun _=>Aa Dr Z)<|vd Z (fun _=>Aa HT Z)<|vc Z R.kp (C.mv.kb Au Z Z)<|AK Z Z<|vd Z (fun _=>AH Z Z Ad Ad)<|AK Z Z ?_;refine vd Z (fun _=>Bp.BY gx Z)<|AK Z Z<|AK Z Z<|vd Z (fun _=>Bj cC r.mv Z Z oo oo)<|vc Z R.kp (l7.mv.ke BV Z)<|vd Z (fun _=>AB (cells:=#[I (P.b.next+(k:Int)),I u.length,I 0, .slice e7 a7.length h1]) Z kr) ?_;refine WD.AW Z Z Z (Bb h0 181 Cg Z Z Z Z Z) Z ?_;rintro _ u3 ⟨p0,p5,rfl,c7,h9⟩;refine R.AX c7 fun R=>WD.AW Z Z Z (AN Cg Z Z j.mv (Src.An Abk h9.Ap.An Z AG) EY Fb) Z ?_;rintro r8 s5 ⟨k1,c4,j⟩;refine R.AX c4 fun R=>?_;clear h9;have o0:=j.Av;have o1:=j.Aw;refine Ga Z Z<|WD.nil ?_;clear R;refine cg<|zm Z<|zm Z<|ve (Bb k1 185 QI Z Z Z Z Z) ?_;rintro _ s6 ⟨p1,p2,rfl,c5,j0⟩;refine ve (AN QI Z Z J.mv (Src.An Tryz.underlying195 j0.Ap.An Z AG) EY Fb) ?_;rintro r9 s7 ⟨p3,c6,J⟩;clear j0;have o2:=J.Av;have o3:=J.Aw;refine za Z<|Ac<|cg<|vq (AH Z Z Ad Ad)<|zm Z<|Ac ?_;have j4:MR P.s P.b.next t pre k=⟨P.b.next+(k:Int),u.length,0,a7⟩:=by rw[MR,j5,aa e1,←e4,h8];rfl
  refine⟨(k+1,_,_),Aq,⟨by dsimp only;omega,_,Y++[(MR P.s P.b.next t pre k,⟨.slice e7 a7.length h1,o4⟩)],a6++[_],g.mv,C.mv,r.mv,b1.mv,f.mv,?_,?_,?_,?_,b2.mv.snoc n2.mv⟩,by show many-(k+1)<many-k;omega⟩
  ·dsimp only;rw[List.map_append,b3,List.range_succ,List.map_append];rfl
  ·replace j:=(j.mv c5).mv c6;dsimp only;rw[List.length_append,List.flatMap_append,j4];exact j
  ·exact⟨fun y hy=>by
    rcases zH.1 hy with h|h
    ·exact(((((((j3.mv h5).mv h6).mv h7).mv c7).mv c4).mv c5).mv c6).el y h
    rw[yN.1 h,j4];exact(((((((a1.mv h5).mv h6).mv h7).mv c7).mv c4).mv c5).mv c6)⟩
  dsimp only;rw[List.length_append];exact J
 have k4:k=many:=oo;subst k4;refine WC.exit Z<|Ab<|cg<|zm Z<|zm Z<|za Z<|za Z<|za Z<|Ac<|su Z Z Z Z ?_;refine⟨_,g.out,_,_,0,F, .inr ⟨Z,pre,Y,a6,n4,by rw[←b5];exact j2,by rw[←b5];exact b3,j.Ej g.dN,⟨fun y hy=>(j3.el y hy).Ej g.dN⟩,J.Ej g.dN,⟨by rw[←b5];exact b2.len,fun i v hv=>(b2.row i v hv).Ej g.dN⟩⟩,b9,c3,h3,Z⟩
end Go.Proofs.K
namespace Silo
open Go Go.Eng
theorem oc{i j:Nat}{v:Value}{Y:List Fx}(h:Ao c w i 144 4 v Y.length (Y.flatMap BQ))(hs:∀y∈Y,Bi Bg c w [j] y.2.v y.1.place)(hi:∀y∈Y,Go.Eng.Int64 y.1.id∧Go.Eng.Int64 y.1.len∧Go.Eng.Int64 y.1.gen)(hl:Y.length≤1048576):Bi ES c w [i,j] v (Y.map (·.1)):=by
 have l:Ao c w i 144 ES.size v (Y.map (·.1)).length (Y.map BQ).flatten:=by rw[yF,←Abq];exact h
 refine l.rd (by rw[yF];omega) (by rw[yF,yF]) (by simp[AA]) fun k cs x hk hx=>?_;rw[yY] at hx hk;obtain⟨y,hy,rfl⟩:=Aam.1 hk;rw[hy] at hx;injection hx with hx;subst hx;have f:=zx hy;exact(Fq.more (K:=[i,j]) (hs y f) (by simp[AA])).imp fun w' _ g=>⟨y.2.v,Z,g,hi y f⟩
theorem Xg{i:Nat}{v:Value}{l:List Int}(h:Ao c w i 3 1 v l.length (l.map I))(hl:l.length≤140737488355328)(g:∀p∈l,Go.Eng.Int64 p):Bi Bw c w [i] v l:=by
 have f:∀l:List Int,(l.flatMap fun x=>[I x])=l.map I:=fun l=>by
  induction l with
  |nil=>rfl
  |cons a l j=>rw[zD,j];rfl
 exact RR (by rw[f];exact h) hl g
abbrev wq:=Rec×SV×SV
def dO(z:wq):List Value:=[I z.1.kind,I z.1.id,St z.1.name,St z.1.Ak,z.2.1.v,z.2.2.v]
structure rU (c:Nat→Nat) (w:World) (J:List Nat) (Z:List wq):Prop where
 l:∀z∈Z,Bi Bw c w J z.2.1.v z.1.list
 s:∀z∈Z,Bi Bg c w [149] z.2.2.v z.1.CF
theorem rU.mv{c c':Nat→Nat}{w w':World}{J:List Nat}{g:List wq}{I:List Nat}(h:rU c w J g)(m:Mv c w c' w' I:=by exact Go.Eng.Jb)(hi:Bd (149::J) I=true:=by rfl):rU c' w' J g:=⟨fun z f=>(h.l z f).mv m (BC hi (fun i hi=>Aad _ hi)),fun z f=>(h.s z f).mv m (BC hi ss)⟩
theorem dP{v:Value}{f:List wq}(h:Ao c w 147 127 6 v f.length (f.flatMap dO))(hs:rU c w [146,149] f)(hi:∀z∈f,Go.Eng.Int64 z.1.kind∧Go.Eng.Int64 z.1.id∧z.1.name.length≤140737488355328∧z.1.Ak.length≤140737488355328)(hl:f.length≤1048576):Bi Il c w [146,147,149] v (f.map (·.1)):=by
 have o:Ao c w 147 127 Il.size v (f.map (·.1)).length (f.map dO).flatten:=by rw[yF,←Abq];exact h
 refine o.rd (by rw[yF];omega) (by rw[yF,yF]) (by rfl) fun k cs x hk hx=>?_;rw[yY] at hx hk;obtain⟨z,l,rfl⟩:=Aam.1 hk;rw[l] at hx;injection hx with hx;subst hx;have g:=zx l;have p:=Fq.more (K:=[146,147,149]) (hs.l z g) (by rfl);have r:=Fq.more (K:=[146,147,149]) (hs.s z g) (by rfl);exact fun w' j i=>⟨z.2.1.v,z.2.2.v,Z,p w' j i,r w' j i,hi z g⟩
end Silo
namespace Go.Proofs.K
open Go Go.Eng Go.RowKit Silo TryzT
theorem kL{r t k i:Nat}{p:Value}{j:List Value}{T:Nat→List Tx}{first:Int}{y:Fx}(l:Ar c w 0 r [p] 195)(o:Ar c w 0 t [I first] 3)(f:Ao c w 0 38 1 p j.length j)
 (a6:∀v,j[k]?=some v→Bi CL c w [0] v (T k))(hk:k<j.length)(hid:y.1.id=first+(k:Nat))(a8:0≤first∧first≤4611686018427387904)(b0:k≤100000)(hi:i<(T k).length):
 Calls QP 101 #[.agg (BQ y).toArray,I i,P1 r,P1 t] w (AP fun v w'=>Below w.heap.size w w'∧v=St ((T k).getD i [])):=by
 have C:=Dh.start c w [];replace l:=l.Kc (J:=[]) Z;replace o:=o.Kc (J:=[]) Z;replace f:=f.Kc (J:=[]) Z;have hu:∃u,j[k]?=some u:=⟨_,aa hk⟩;obtain⟨u,hu⟩:=hu;have g:Bi CL (AT c []) w [0] u (T k):=(a6 u hu).Ca Z;generalize AT c []=c0 at C l o f g;have U:DF c0 w [0] (Bh p 1 k) [u]:=f.nO hu;have a1:=(BP g hi dd).1;have b2:=f.Av;have b3:=g.now.Av;have b5:=g.now.Aw;have b6:=y.2.one;have b7:=g.now.small;have b8:=f.Aw;have b1:((k:Int)).toNat=k:=pv k;refine enter (n:=17) (res:=#[.tmp 6]) Tryz.func101 Z Z Z Z<|Ab<|cg<|Dz c0 104 fun w1 b4 c1 a7 R=>?_;refine za Z<|Ac<|Ab<|cg<|vq (Ah hW Z l.mv.Ap Z)<|vq (Aa Es Z)<|vq (Ah Au Z R.Ap Z)<|vq (Ah Au Z o.mv.Ap Z)<|vq (EX Z Z (by rw[hid];omega) (by rw[hid];omega)) ?_;rw[show y.1.id-first=((k:Nat):Int) by rw[hid];omega];refine vq (Bj QI f.mv Z Z oo oo)<|vq (Bl CB Z U.mv.CY)<|zm Z<|vq (ER BE) ?_;refine vq (Bl BK Z a1.mv.CY)<|za Z<|Ac<|Az Z Z<|⟨C.mv.below,?_⟩;rw[gy,aa hi];rfl
end Go.Proofs.K
namespace Silo
open Go Go.Eng Go.Proofs.K
def EP(s:Cn)(next:Int)(t:Tx)(pre:List Pu):List CZ:=(List.range (BF s t.length)).map (MR s next t pre)
def KU(next:Int)(many:Nat):List Int:=(List.range many).map fun(i:Nat)=>next+(i:Int)
def Fa(s:Cn)(next:Int)(t:Tx)(pre:List Pu)(d:Tx):List Nt:=(EP s next t pre).map Nt.ZD++[Nt.Xf d (t.length:Nat) (KU next (BF s t.length))]
def TF(s:Cn)(next:Int)(t:Tx)(pre:List Pu)(A:Cr):Prop:=∀(k:Nat) (x:CZ),(EP s next t pre)[k]?=some x→∀(i:Nat) (q:Int×Int),x.place[i]?=some q→DN A q.1 (1024+q.2*(Ee s:Nat)) (Ee s)=some (Ge ⟨x.id,i,x.gen,(JR s t k).getD i []⟩)
structure ZF (n m:Nat) (P:Ek) (t d:Tx) (F:List (List Int)):Prop where
 f:P.failed=false
 j:P.J.failed=false
 no:ny P.b.things d=none
 zw:P.b.things.length<60
 next:P.b.next+(BF P.s t.length:Nat)≤1073741824
 live:∀k:Nat,k<n→Cf P.A k=true
 room:∀p e E,Fh (CK n P.A) F (P.s.k+P.s.m) p→p.length<BF P.s t.length→Mc (CK n P.A) (EN F p) [] (P.s.k+P.s.m) e E→e=0
 ok:∀pre,Fh (CK n P.A) F (P.s.k+P.s.m) pre→pre.length=BF P.s t.length→(∀x∈EP P.s P.b.next t pre,∀q∈x.place,Cf P.A q.1=true∧1024+(q.2+1)*(Ee P.s:Nat)≤m)∧((EP P.s P.b.next t pre).flatMap fun x=>x.place.map (·.1)).Nodup∧Dv P.s (FY P.b (Fa P.s P.b.next t pre d))=true
structure Xh (n m:Nat) (P:Ek) (t d:Tx) (A:Cr) (J:JQ) (b:Bk) (f:Bool) (e:Int):Prop where
 lay:HK n m 8000 P.A A
 j:Rs n J
 used:J.used≤P.J.used+3200
 may:Dv P.s b=true
 tags:b.tags=[]
 size:b.stripes.length≤P.b.stripes.length+41
 exact:∃F,F.length=n∧dL P.n F∧(P.b.stripes=[]→F=List.replicate n (Fg P.n))∧(ZF n m P t d F→e=0∧f=false∧J.failed=false∧∃pre,Fh (CK n P.A) F (P.s.k+P.s.m) pre∧pre.length=BF P.s t.length∧b=FY P.b (Fa P.s P.b.next t pre d)∧TF P.s P.b.next t pre A)
theorem Xh.none{n m:Nat}{P:Ek}{t d:Tx}{e:Int}(l:FF n m P.A)(p:Rs n P.J)(o:Dv P.s P.b=true)(ht:P.b.tags=[])(hx:∃F,F.length=n∧dL P.n F∧(P.b.stripes=[]→F=List.replicate n (Fg P.n))∧¬ZF n m P t d F):Xh n m P t d P.A P.J P.b P.failed e:=by
 obtain⟨F,f,g,i,j⟩:=hx;exact⟨(HK.refl l).more oo,p,by omega,o,ht,by omega,F,f,g,i,fun h=>absurd h j⟩
theorem yz{n m:Nat}{P:Ek}{t d:Tx}(h:∀F,¬ZF n m P t d F):∃F,F.length=n∧dL P.n F∧(P.b.stripes=[]→F=List.replicate n (Fg P.n))∧¬ZF n m P t d F:=
 ⟨_,yX,dM _ _,fun _=>rfl,h _⟩
theorem VF{d:Tx}{n:Nat}{l:List Int}(hd:d.length=32)(f:n≤1073741824)(hl:l.length≤2000)(hi:∀x∈l,Gl x=true):JN (Kj d (n:Nat) l)=true:=by
 rw[OM];refine⟨by rfl,by rfl,by show Gl ((n:Nat):Int)=true;simp only[Gl,kg,yI];omega,fun h=>?_,fun _=>by simp[Kj,hd],by simp[Kj];omega,fun h=>?_,fun h=>?_,hi,fun x hx=>?_⟩
 ·exact absurd (show hasB 4 110=true from h) dd
 ·simp[Kj] at h
 ·exact absurd (show hasB 4 115=true from h) dd
 simp[Kj] at hx
theorem ZG{x:CZ}(h1:Gl x.id=true)(f:Gl x.len=true)(g:Gl x.gen=true)(j:1≤x.place.length∧x.place.length≤14)(i:∀p∈x.place,IC p=false):JN (Rr x)=true:=by
 rw[OM];refine⟨by rfl,by rfl,h1,fun h=>?_,fun h=>?_,by show(2:Int)≤2000;omega,fun _=>rfl,fun _=>⟨by show 1≤((x.place.length:Nat):Int);omega,by show((x.place.length:Nat):Int)≤14;omega⟩,fun y hy=>?_,i⟩
 ·exact absurd (show hasB 2 110=true from h) dd
 ·exact absurd (show hasB 2 100=true from h) dd
 simp only[Rr,zN,Abz,Aeo] at hy;rcases hy with rfl|rfl
 ·exact f
 exact g
theorem Me{Y:List Fx}{q:Fx×Nat}:q∈FO Y↔q.1∈Y∧q.2<q.1.1.place.length:=by
 rw[FO,Af2];constructor
 ·rintro⟨y,hy,h⟩;obtain⟨k,hk,rfl⟩:=zc.1 h;exact⟨hy,Aac.1 hk⟩
 ·rintro⟨f,g⟩;exact⟨q.1,f,zc.2 ⟨q.2,Aac.2 g,rfl⟩⟩
theorem kM{q:Fx×Nat}(h:q.2<q.1.1.place.length):Ja q∈q.1.1.place:=by
 rw[Ja,aa h];exact oy h
theorem od(y:Fx):(Md y y.1.place.length).map (fun q=>(Ja q).1)=y.1.place.map (·.1):=by
 refine Aer (by simp[Md]) fun i j f=>?_;have g:i<y.1.place.length:=by simpa using f
 simp[Md,Ja,aa g]
theorem ZH{Y:List Fx}{S:List CZ}(h:Y.map (·.1)=S):(FO Y).map (fun q=>(Ja q).1)=S.flatMap fun x=>x.place.map (·.1):=by
 subst h;rw[FO,List.map_flatMap,List.flatMap_map];congr 1;funext y;exact od y
theorem ZI{Y:List Fx}{n:Nat}(h:∀y∈Y,y.1.place.length=n):(FO Y).length=Y.length*n:=by
 induction Y with
 |nil=>simp[FO]
 |cons y Y i=>
  have f:=i fun z g=>h z (Aad _ g);rw[FO] at f⊢;rw[zD,bU,f,Md,yF,zI,h y Aag,yZ,yS];omega
section
variable {s:Cn} {next:Int} {t:Tx} {pre:List Pu} {live:List Bool} {F:List (List Int)} {Y:List Fx}
def kN(s:Cn)(next:Int)(t:Tx)(q:Fx×Nat):Tx:=(JR s t (q.1.1.id-next).toNat).getD q.2 []
theorem ZJ{k:Nat}(hk:k<BF s t.length):(EP s next t pre)[k]?=some (MR s next t pre k):=by
 rw[EP,yY,List.getElem?_range hk];rfl
theorem HL:(EP s next t pre).length=BF s t.length:=by simp[EP]
theorem MH{x:CZ}(h:x∈EP s next t pre):∃k,k<BF s t.length∧x=MR s next t pre k:=by
 obtain⟨k,hk,rfl⟩:=zc.1 h;exact⟨k,Aac.1 hk,Z⟩
theorem RT(hs:Small s)(hp:Fh live F (s.k+s.m) pre)(hl:pre.length=BF s t.length)(I:live.length=F.length)(R:live.length≤12)(C:∀l∈F,∀y∈l,0≤y∧y<64){k:Nat}(hk:k<BF s t.length):
 (MR s next t pre k).id=next+(k:Nat)∧(MR s next t pre k).gen=0∧1≤(MR s next t pre k).len∧(MR s next t pre k).len≤(s.k*s.size:Nat)∧(MR s next t pre k).place.length=s.k+s.m∧∀p∈(MR s next t pre k).place,(0≤p.1∧p.1<(live.length:Nat))∧0≤p.2∧p.2<64:=by
 have j:k<pre.length:=oo;have J:=KQ s (Af8 hs.1 hs.2.2.2.1) t;have f:=hp.each I C (oy j);have r:(MR s next t pre k).place=Rt pre[k]:=by
  show((pre[k]?).map Rt).getD []=_
  rw[aa j];rfl
 have o:(MR s next t pre k).len=(((GG s t).getD k []).length:Nat):=rfl;have i:k<(GG s t).length:=oo;have U:=J.2 _ (oy i);have g:((GG s t).getD k []).length=((GG s t)[k]).length:=by rw[gy,aa i];rfl
 refine⟨Z,Z,by rw[o,g];omega,by rw[o,g];omega,by rw[r];exact f.1,by rw[r];exact f.2.2⟩
theorem ZK{m:Nat}{A:Cr}(i:Y.map (·.1)=EP s next t pre)(h:∀x∈EP s next t pre,∀q∈x.place,Cf A q.1=true∧1024+(q.2+1)*(Ee s:Nat)≤m):∀q∈FO Y,ZC m s A q:=fun q j=>by
 obtain⟨f,g⟩:=Me.1 j;exact h q.1.1 (by rw[←i];exact zc.2 ⟨q.1,f,Z⟩) _ (kM g)
theorem gg{A:Cr}(o:Y.map (·.1)=EP s next t pre)(h:∀q∈FO Y,Qs s (kN s next t) A q):TF s next t pre A:=fun k x hx i q j=>by
 have hk:k<BF s t.length:=by
  have:=(yO.1 hx).1;rwa [HL] at this
 have f:=hx;rw[←o,yY] at hx;obtain⟨y,hy,rfl⟩:=Aam.1 hx;have p:=(yO.1 j).1;have g:=h (y,i) (Me.2 ⟨zx hy,p⟩);have hp:Ja (y,i)=q:=by show(y.1.place[i]?).getD (0,0)=q;rw[j];rfl
 rw[ZJ hk] at f;injection f with f;have hid:y.1.id=next+(k:Nat):=by rw[←f];rfl
 have l:kN s next t (y,i)=(JR s t k).getD i []:=by
  show(JR s t (y.1.id-next).toNat).getD i []=_
  rw[hid,show next+(k:Int)-next=(k:Int) by omega,pv]
 rw[Qs,hp,l] at g;exact g
theorem wu(hs:Small s)(hp:Fh live F (s.k+s.m) pre)(hl:pre.length=BF s t.length)(b0:live.length=F.length)(a8:live.length≤12)(a6:∀l∈F,∀y∈l,0≤y∧y<64)(b4:0≤next∧next+(BF s t.length:Nat)≤1073741824)(a7:Y.map (·.1)=EP s next t pre):
 ∀q∈FO Y,nV s (kN s next t) q∧∃k,k<BF s t.length∧q.1.1.id=next+(k:Nat)∧q.2<(JR s t k).length∧kN s next t q=(JR s t k).getD q.2 []:=fun q b1=>by
 obtain⟨R,U⟩:=Me.1 b1;have a1:q.1.1∈EP s next t pre:=by rw[←a7];exact zc.2 ⟨q.1,R,Z⟩
 obtain⟨k,hk,hx⟩:=MH a1;obtain⟨f,g2,C,I,J,j⟩:=RT (next:=next) hs hp hl b0 a8 a6 hk;rw[←hx] at f g2 C I J j;obtain⟨b6,b7,b8,b9,c0⟩:=id hs;have o:kN s next t q=(JR s t k).getD q.2 []:=by
  rw[kN,f,show next+(k:Int)-next=(k:Int) by omega,pv]
 obtain⟨b5,b3⟩:=ZE (s:=s) (t:=t) (i:=k) hs;have g:q.2<(JR s t k).length:=oo;have p:(kN s next t q).length=s.size:=by
  rw[o,gy,aa g];exact b3 _ (oy g)
 refine⟨⟨U,fun r b2=>?_,?_,p⟩,k,hk,f,g,o⟩
 ·have:=j r b2;omega
 simp only[Li,kg,yI];rw[p];omega
end
theorem Ri{A B:Cr}{d f:Int}(h:∀d s,1024≤s→Cb B d s=Cb A d s)(g:1024≤f):∀k,DN B d f k=DN A d f k
 |0=>rfl
 |k+1=>by rw[DN,DN,Ri h g k,h _ _ oo]
theorem TF.keep{s:Cn}{next:Int}{t:Tx}{pre:List Pu}{A B:Cr}(h:TF s next t pre A)(hk:∀d s,1024≤s→Cb B d s=Cb A d s)(hp:∀x∈EP s next t pre,∀q∈x.place,0≤q.2):TF s next t pre B:=fun k x hx i q f=>by
 have g:=hp x (zx hx) q (zx f);have j:0≤q.2*(Ee s:Nat):=Ae7 g (Afo _);rw[Ri hk oo];exact h k x hx i q f
theorem kO{n:Nat}:∀{S:List CZ},(∀x∈S,x.place.length≤n)→EL (S.map Rr)≤S.length*(33+8*n)
 |[],_=>by simp[EL]
 |x::S,h=>by
  have h1:=kO (S:=S) fun y hy=>h y (Aad _ hy);have f:=h x Aag;rw[Rw,RM,YL,yZ,yS,zS];omega
theorem VG(s:Cn)(next:Int)(t:Tx)(pre:List Pu)(d:Tx):(Fa s next t pre d).map Hk=(EP s next t pre).map Rr++[Kj d (t.length:Nat) (KU next (BF s t.length))]:=by
 rw[Fa,zB,Abd];rfl
theorem Pv(next:Int)(k:Nat):(KU next k).length=k:=by simp[KU]
theorem gh(next:Int)(k:Nat):KU next (k+1)=KU next k++[next+(k:Nat)]:=by simp[KU,ZZ]
theorem ZL{next:Int}{k:Nat}{x:Int}(h:x∈KU next k):next≤x∧x<next+(k:Nat):=by
 obtain⟨i,hi,rfl⟩:=zc.1 h;have:=Aac.1 hi;exact⟨by omega,by omega⟩
theorem ZM{r:Nt}(h:kE r):Go.Eng.Int64 (Hk r).kind∧Go.Eng.Int64 (Hk r).id∧(Hk r).name.length≤140737488355328∧(Hk r).Ak.length≤140737488355328:=by
 cases r with
 |ZD x=>
  have f:=h.1;exact⟨⟨by show _≤(2:Int);omega,by show(2:Int)≤_;omega⟩,⟨by show _≤x.id;omega,by show x.id≤_;omega⟩,by show 0≤_;omega,by show 0≤_;omega⟩
 |Xf d n l=>exact⟨⟨by show _≤(4:Int);omega,by show(4:Int)≤_;omega⟩,h.1,by show 0≤_;omega,h.2.1⟩
theorem kP{s:Cn}{next:Int}{t d:Tx}{pre:List Pu}{live:List Bool}{F:List (List Int)}(hs:Small s)(hp:Fh live F (s.k+s.m) pre)(hl:pre.length=BF s t.length)(a6:live.length=F.length)(a1:live.length≤12)(U:∀l∈F,∀y∈l,0≤y∧y<64)(b2:0≤next∧next+(BF s t.length:Nat)≤1073741824)(hd:d.length=32)(ht:t.length≤40):
 (Fa s next t pre d).length=BF s t.length+1∧(∀r∈Fa s next t pre d,JN (Hk r)=true)∧(∀r∈Fa s next t pre d,kE r)∧EL ((Fa s next t pre d).map Hk)≤3176:=by
 have b1:=TE hs t.length;obtain⟨b3,a7,b4,b5,a8⟩:=id hs;have b0:s.k*s.size≤3*120:=yQ a7 a8;have hx:∀x∈EP s next t pre,(0≤x.id∧x.id≤1073741824)∧x.gen=0∧(1≤x.len∧x.len≤360)∧x.place.length=s.k+s.m∧∀p∈x.place,(0≤p.1∧p.1<12)∧0≤p.2∧p.2<64:=fun x hx=>by
  obtain⟨k,hk,rfl⟩:=MH hx;obtain⟨i,g2,o,C,g,I⟩:=RT (next:=next) hs hp hl a6 a1 U hk;exact⟨by omega,g2,by omega,g,fun p hp=>by have:=I p hp;omega⟩
 have hid:∀x∈KU next (BF s t.length),0≤x∧x≤1073741824:=fun x hx=>by have:=ZL hx;omega
 refine⟨by simp[Fa,HL],fun r j=>?_,fun r j=>?_,?_⟩
 ·rcases zH.1 j with h|h
  ·obtain⟨x,f,rfl⟩:=zc.1 h;obtain⟨i,g2,o,C,g⟩:=hx x f;refine ZG (by simp only[Gl,kg,yI];omega) (by simp only[Gl,kg,yI];omega) (by rw[g2];rfl) oo fun p hp=>?_;have:=g p hp;simp only[IC,VJ,zY];omega
  rw[yN.1 h];exact VF hd oo (by rw[Pv];omega) fun x hx=>by
   have:=hid x hx;simp only[Gl,kg,yI];omega
 ·rcases zH.1 j with h|h
  ·obtain⟨x,f,rfl⟩:=zc.1 h;obtain⟨i,g2,o,C,g⟩:=hx x f;exact⟨i,by omega⟩
  rw[yN.1 h];exact⟨⟨by omega,by omega⟩,by omega,by rw[Pv];omega⟩
 rw[VG,ji];have J:=kO (n:=5) (S:=EP s next t pre) fun x f=>by have:=(hx x f).2.2.2.1;omega
 rw[HL] at J;have R:EL [Kj d (t.length:Nat) (KU next (BF s t.length))]=Ld (Kj d (t.length:Nat) (KU next (BF s t.length))):=by simp[EL]
 rw[R,fh,hd,Pv];omega
end Silo
namespace Go.Proofs.K
open Go Go.Eng Go.RowKit Silo TryzT
theorem RS.mv{s:Cn}{next:Int}{t:Tx}{live:List Bool}{F:List (List Int)}{c c':Nat→Nat}{w w':World}{vl f:Value}{e:Int}{I:List Nat}(h:RS s next t live F c w vl f e)(m:Mv c w c' w' I:=by exact Go.Eng.Jb)(hi:Bd [136,140,141,142] I=true:=by rfl):RS s next t live F c' w' vl f e:=by
 rcases h with h|⟨g,pre,Y,J,i,j,l,o,p,r,C⟩
 ·exact .inl h
 ·exact .inr ⟨g,pre,Y,J,i,j,l,o.mv m (Bo hi ss),p.mv m (BC hi ss),r.mv m (Bo hi ss),C.mv m (BC hi ss)⟩
theorem kQ{b1:Nat}{v:Value}{Y:List Fx}(l:Ar c w 76 b1 [v] 102)(i:Ao c w 140 144 4 v Y.length (Y.flatMap BQ))(j:rT c w Y)(hi:∀y∈Y,Go.Eng.Int64 y.1.id∧Go.Eng.Int64 y.1.len∧Go.Eng.Int64 y.1.gen)(hl:Y.length≤1000)(o:∀y∈Y,y.1.place.length≤1000):
 JW QP 181 [P1 b1] st [128] [76,0,94] (FO Y) (AT c Dw) w:=by
 refine VC (v:=v) ⟨l.Ca Z,Fq.more (K:=[0,94]) ((oc i j.el hi oo).Ca Z) Z,⟨fun k hk=>?_⟩,fun y hy=>Fq.more (K:=[0,94]) ((j.el y hy).Ca Z) Z⟩ oo (fun y hy=>by have:=o y hy;omega);have f:=(i.elem (fun x=>DD x) dd hk).Ca (J:=Dw) Z;exact⟨f.CY,by
  have g:=f.Bf;simp only[AA,Acb,List.any_nil,Bool.or_false] at g⊢;rw[g];rfl⟩
theorem kR{i j:Nat}{o:Value}{g:List Value}{s:Cn}{next:Int}{t:Tx}{Y:List Fx}(r:Ar c w 110 i [o] 195)(C:Ar c w 112 j [I next] 3)(a6:Ao c w 141 38 1 o g.length g)(l:ob c w g (BF s t.length) (JR s t))(R:0≤next∧next≤1073741824)(a7:BF s t.length≤1000)
 (U:∀q∈FO Y,nV s (kN s next t) q∧∃k,k<BF s t.length∧q.1.1.id=next+(k:Nat)∧q.2<(JR s t k).length∧kN s next t q=(JR s t k).getD q.2 []):
 ∀c1 w1,AZ c w Dw c1 w1→∀q∈FO Y,Calls QP 101 (#[.agg (BQ q.1).toArray,I q.2]++#[P1 i,P1 j]) w1 (AP fun v w'=>Below w1.heap.size w1 w'∧v=St (kN s next t q)):=fun c1 w1 hJ q a1=>by
 obtain⟨_,k,hk,hid,J,p⟩:=U q a1;rw[p];have f:=hJ.rR;exact kL (T:=JR s t) (k:=k) ((r.Kc Z).mv f Z) ((C.Kc Z).mv f Z) ((a6.Kc Z).mv f Z) (fun v hv=>Fq.mv ((l.row k v hv).Ca Z) f Z) (by rw[l.len];exact hk) hid ⟨R.1,by omega⟩ oo J
theorem oe{p pa pj n m:Nat}{vS vT vG:Value}{P:Ek}{t d:Tx}(h0:BU c w p pa pj vS vT vG P)(hs:Small P.s)(k2:0<n∧n≤12)(p1:1024≤m∧m≤2048)(c6:FF n m P.A)(u1:P.n≤64)(hc:P.A.changes≤800000000)(c8:Rs n P.J)(a1:Dv P.s P.b=true)(ht:P.b.tags=[])
 (hd:d.length=32)(x5:t.length≤40)(a46:P.b.stripes.length≤800)(a17:P.J.used+3224≤32704):
 Calls QP 52 #[P1 p,St t, .agg #[I 4,I t.length,St [],St d, .slice none 0 0, .slice none 0 0]] w (AP fun v w'=>∃c',Mv c w c' w' Dw∧∃l3 l4 l6 f e k8 k9 k7,BU c' w' p pa pj k8 k9 k7 {P with A:=l3,J:=l4,b:=l6,failed:=f}∧Xh n m P t d l3 l4 l6 f e∧v=I e):=by
 have hJ:=AZ.start c w Dw;replace h0:=h0.Ca (K:=Dw);generalize a36:AT c Dw=c0 at hJ h0;have h6:=(DV a1).1;simp only[Gl,kg,yI] at h6;have a38:=TE hs t.length;have a47:=(DV a1).2.2.2.1;have w7:=VF (d:=d) (n:=t.length) (l:=[]) hd oo ss ss;obtain⟨a57,z6,a58,a59,z7⟩:=id hs;refine enter (n:=135) (res:=#[.tmp 6]) Tryz.func52 Z Z Z Z<|Ab<|cg<|Dz c0 105 fun w1 b5 c1 s0 j=>?_;refine za Z<|Ac<|Ab<|Ab ?_;have x1:Ur w1 [I 4,I t.length,St [],St d, .slice none 0 0, .slice none 0 0] (Kj d (t.length:Nat) []):=⟨_,_,Z,Dx.nil Bw _ _,Dx.nil Bg _ _,⟨by show-9223372036854775808≤(4:Int);omega,by show(4:Int)≤_;omega⟩,⟨by show _≤((t.length:Nat):Int);omega,by show((t.length:Nat):Int)≤_;omega⟩,by show 0≤_;omega,by show d.length≤_;omega⟩;obtain⟨R,b7,b9,i⟩:=(h0.mv s0);have y2:=i.s.now.Av;have y3:=i.t.now.Av;have y4:=i.g.now.Av;refine cg<|vq (Aa Fc Z)<|vq (Ah Au Z j.Ap Z)<|vq (Bm Z Z)<|zm Z ?_;apply WR.CJ true 3 _ BT
 ·intro a44;refine wo<|vq (Aa Fc rfl)<|wo<|vq (Ah Au rfl j.Ap rfl)<|wo<|vq (Bm rfl rfl) ?_;exact Dm 3
 refine zm Z ?_;apply WR.Ko c1 false 3 false BT
 ·intro a39 r6;refine wo<|vq (AD Fs rfl j.Ap rfl)<|wo<|ve (Al c1 1 (Ay.call sP rfl (iR x1))) ?_;rintro a67 w2 ⟨c2,a27,a49,rfl⟩;rw[w7];refine wo<|vq (Bq rfl) ?_;exact WR.Kq 3 r6.mv
 intro a94 q6 s6;refine zm rfl ?_;apply WR.CJ false 5 _ BT
 ·intro a40;refine wo<|vq (Aa HU rfl)<|wo<|vq (Ah Au rfl j.mv.Ap rfl)<|wo<|zm rfl<|wo<|vq (Bp.BY gx rfl)<|wo<|vq (Bm rfl rfl) ?_;exact Dm 5
 refine zm Z ?_;apply WR.Ko q6 false 4 false BT
 ·intro a42 r8;refine wo<|vq (Aa DG rfl)<|wo<|vq (Ah BL rfl j.mv.Ap rfl)<|wo<|vq (BI Bu) ?_;refine wo<|vq (BZ rfl rfl) ?_;exact WR.Kq 4 r8
 intro a95 q7 s7;refine zm rfl ?_;apply WR.Ko q7 false 3 (decide (2000<(t.length:Int))) BT
 ·intro a43 r9;refine wo<|zm rfl<|wo<|vq (Bp.BY gx rfl)<|wo<|vq (BZ rfl rfl) ?_;exact WR.Kq 3 r9
 intro a96 l8 s8;refine Ac<|CD rfl (fun o8=>?_) fun o8=>?_
 ·exfalso;simp at o8;omega
 refine Aj<|Ab<|AY l8 [] [0,0,0,1,0,1,2,0,0,0,0,0] [0,1,2,3,4,5,6,7,8,9,10,11] fun a97 s9 o=>?_;have o6:=j;have o7:=R;refine AK Z Z<|vd Z (fun _=>Ae Z)<|vd Z (fun _=>Aa Dr Z)<|vc Z o.kp (fun W j5=>Cy EB Z (o7.mv.kp j5 Z).Ap (yV Z))<|vd Z (fun _=>Aa JY Z)<|vc Z o.kp (o6.mv.kb BK Z Z)<|WD.AW Z Z Z (Al l8 1 (Ay.call qI Z (Qp (n:=P.b.next) (d:=d) i.mv.t.now y2 y3 y4 (GP a1)))) Z ?_;rintro a68 a98 ⟨q8,n7,a50,rfl⟩;refine o.AX n7 fun o=>AK Z Z<|vd Z (fun _=>Ag Z Z)<|vd Z (fun _=>Ag Z Z)<|Ga Z Z<|Ga Z Z<|WD.nil ?_;clear o6 o7;clear o;refine Ab<|Ai<|Ab ?_;replace i:=((((i.mv s6).mv s7).mv s8).mv s9).mv n7;have a45:=i.s;have x4:=i.t;refine cg<|zm Z<|ve (Al q8 1 (Ay.call qD Z (NO ⟨pa,pj,vS,vT,vG,⟨R.mv,b7.mv,b9.mv,i⟩⟩))) ?_;rintro a69 a99 ⟨h9,u0,a51,rfl⟩;refine za Z<|Ac<|AS Z (fun j9=>?_) fun j9=>?_
 ·refine Ab<|cg<|za Z<|Ac<|Az Z Z ?_;exact⟨_,hJ.mv.out,P.A,P.J,P.b,P.failed,10,vS,vT,vG,BU.out ⟨R.mv,b7.mv,b9.mv,i.mv⟩ hJ.mv,Xh.none c6 c8 a1 ht (yz fun F h=>by rw[h.f,h.j] at j9;simp at j9),Z⟩
 refine Ab<|cg<|zm Z<|za Z<|Ac<|AS Z (fun k0=>?_) fun k0=>?_
 ·refine Ab<|cg<|za Z<|Ac<|Az Z Z ?_;exact⟨_,hJ.mv.out,P.A,P.J,P.b,P.failed,4,vS,vT,vG,BU.out ⟨R.mv,b7.mv,b9.mv,i.mv⟩ hJ.mv,Xh.none c6 c8 a1 ht (yz fun F h=>by rw[h.no] at k0;simp at k0),Z⟩
 have x4:=(i.mv u0).t;refine Ab<|AY h9 [] [0,0,0,0,1,0,0,0,0,0,0,0,1,0,0,0,1,0,0,2,0,0,0,0] [0,1,2,3,4,5,6,7,8,9,10,11,12,13,14,15,16,17,18,19,20,21,22,23] fun b00 a33 o=>?_;refine AK Z Z<|vd Z (fun _=>Ae Z)<|vd Z (fun _=>Aa Dr Z)<|vd Z (fun _=>Aa EK Z)<|vc Z o.kp (R.mv.kb HA Z Z)<|vd Z (fun _=>BI Dt) ?_;refine vd Z (fun _=>Cu Z Z)<|AK Z Z ?_;apply WD.Ko h9 false 14 (decide (1073741824<P.b.next+(BF P.s t.length:Nat))) o.kp RH
 ·intro a41 r7;refine AK rfl rfl<|vd rfl (fun _=>Ae rfl)<|vd rfl (fun _=>Aa Dr rfl)<|vd rfl (fun _=>Aa HT rfl)<|vc rfl o.kp (R.mv.kb Au rfl rfl)<|AK rfl rfl<|vd rfl (fun _=>Ae rfl)<|vd rfl (fun _=>Aa Eb rfl)<|vc rfl o.kp (fun W j5=>Cy Cq rfl (R.mv.kp j5 rfl).Ap (yV rfl))<|AK rfl rfl<|vd rfl (fun _=>Bp.BY gx rfl)<|WD.AW rfl rfl rfl (Al h9 1 (Ay.call qJ rfl (WX (s:=P.s) (n:=t.length) hs.ok oo))) rfl ?_;rintro a70 a75 ⟨a07,s3,a48,rfl⟩;refine o.AX s3 fun o=>vd rfl (fun _=>AH rfl rfl Ad Ad)<|vd rfl (fun _=>BZ rfl rfl) ?_;exact WD.Kq 14 r7.mv
 intro a76 a08 a20;refine Ga rfl rfl<|WD.nil ?_;clear o;refine AS rfl (fun o9=>?_) fun o9=>?_
 ·refine Ab<|cg<|za Z<|Ac<|Az Z Z ?_;exact⟨_,hJ.mv.out,P.A,P.J,P.b,P.failed,2,vS,vT,vG,BU.out ⟨R.mv,b7.mv,b9.mv,i.mv⟩ hJ.mv,Xh.none c6 c8 a1 ht (yz fun F h=>by have a6:=h.zw;have j2:=h.next;omega),Z⟩
 refine Aj<|Ab<|cg<|zm Z<|zm Z<|ve (Ay.call yd Z (bx ⟨R.mv,b7.mv,b9.mv,i.mv⟩ hs k2 c6 u1 oo oo oo)) ?_;rintro a71 a77 ⟨q0,a21,⟨l0,l2,e,F,e1,b8,e8,j4,rfl⟩⟩;have z1:l0.oneCell'=true∧l0.cells=#[l0]∧l2.oneCell'=true∧l2.cells=#[l2]:=by
  rcases e1 with⟨_,rfl,rfl,_⟩|⟨_,_,_,_,_,_,_,C,_,h7,_⟩
  ·exact⟨Z,Z,Z,Z⟩
  exact⟨C.Av,C.Aw,h7.Av,h7.Aw⟩
 obtain⟨a53,a54,a55,a56⟩:=z1;refine zm Z<|vq (Ag Z Z)<|vq (Ag Z Z)<|vq (Ag Z Z)<|Db q0 110 mb fun a78 a01 q1 n2 j7=>?_;refine za Z<|WR.AI (AJ hW Z Z ra ra j7 Z) ?_;rintro _ a79 ⟨j7,n3⟩;refine za Z<|Ac<|Ab<|Ab<|cg<|zm Z<|vq (Bm Z Z)<|Ac<|AS Z (fun u5=>?_) fun u5=>?_
 ·refine Ab<|cg<|zm Z<|za Z<|Ac<|Az Z Z<|⟨_,hJ.mv.out,P.A,P.J,P.b,P.failed,e,vS,vT,vG,BU.out ⟨R.mv,b7.mv,b9.mv,i.mv⟩ hJ.mv,Xh.none c6 c8 a1 ht ⟨F,b8,e8,j4,fun h=>?_⟩,Z⟩;replace e1:=(e1.mv n2).mv n3;rcases e1 with⟨k3,_,_,y5,E,a6,j2,j3⟩|⟨a16,_⟩
  ·exact k3 (h.room y5 e E a6 j2 j3)
  omega
 obtain⟨k3,_⟩|⟨v8,pre,Y,a74,c3,c4,u2,C,c5,h7,x6⟩:=((e1.mv n2).mv n3)
 case inl=>exact absurd oo k3
 subst v8;have h3:=Cc n P.A;have e7:∀l∈F,∀y∈l,0≤y∧y<64:=fun l hl y hy=>by have:=(e8 l hl).2.1 y hy;omega
 have p2:0≤P.b.next∧P.b.next+(BF P.s t.length:Nat)≤1073741824:=⟨h6.1,by simp at o9;omega⟩;have b0:Y.map (·.1)=EP P.s P.b.next t pre:=u2;have p4:=wu hs c3 c4 (by rw[h3,b8]) oo e7 p2 b0;have o0:Y.length=BF P.s t.length:=by have:=zC List.length b0;rw[yF,HL] at this;exact this
 obtain⟨a34,w8,p3,a18⟩:=kP (next:=P.b.next) (d:=d) hs c3 c4 (by rw[h3,b8]) oo e7 p2 hd x5;have j6:∀y∈Y,(0≤y.1.id∧y.1.id≤1073741824)∧(1≤y.1.len∧y.1.len≤360)∧y.1.gen=0∧y.1.place.length=P.s.k+P.s.m∧∀p∈y.1.place,(0≤p.1∧p.1<12)∧0≤p.2∧p.2<64:=fun y hy=>by
  have j3:y.1∈EP P.s P.b.next t pre:=by rw[←b0];exact zc.2 ⟨y,hy,Z⟩
  obtain⟨k,hk,hx⟩:=MH j3;obtain⟨c9,g2,l9,r3,n0,n1⟩:=RT (next:=P.b.next) hs c3 c4 (by rw[h3,b8]) oo e7 hk;rw[←hx] at c9 g2 l9 r3 n0 n1;have a37:P.s.k*P.s.size≤3*120:=yQ z6 z7;exact⟨by omega,by omega,g2,n0,fun p hp=>by have:=n1 p hp;omega⟩
 have n9:∀y∈Y,Go.Eng.Int64 y.1.id∧Go.Eng.Int64 y.1.len∧Go.Eng.Int64 y.1.gen:=fun y hy=>by
  obtain⟨c9,g2,l9,_⟩:=j6 y hy;exact⟨⟨by omega,by omega⟩,⟨by omega,by omega⟩,by omega,by omega⟩
 have o1:∀y∈Y,y.1.place.length=P.s.k+P.s.m:=fun y hy=>(j6 y hy).2.2.2.1;have a19:(FO Y).length≤200:=by
  rw[ZI o1,o0];exact zz (yQ (by omega:BF P.s t.length≤40) (by omega:P.s.k+P.s.m≤5)) oo
 obtain⟨e4,e5,rfl,_,_⟩:=C.own.len;refine Aj<|Ab<|cg<|zm Z<|vq (Ae Z)<|vq (Aa Dr Z)<|vq (Aa HT Z)<|vq (Ah Au Z R.mv.Ap Z)<|Db q1 112 Ss fun a80 a03 q2 a22 j8=>?_;refine WR.AI (AJ Au Z Z ra ra j8 Z) ?_;rintro _ a81 ⟨j8,a23⟩;refine Ac<|Ab<|Ab<|cg<|zm Z<|zm Z<|ve (Al q2 76 (Ay.call oI Z (ZA))) ?_;rintro a60 a82 ⟨a09,a24,x8,⟨p9,rfl,w3,r5⟩⟩;have u4:Ar _ _ 76 p9 [.slice e4 Y.length e5] 102:=⟨r5,x8 _ w3⟩;refine vq (CI Z) ?_;refine ve (Ay.call sQ Z (Rh (L:=FO Y) (T:=kN P.s P.b.next t) ⟨R.mv,b7.mv,b9.mv,i.mv⟩ hs k2 ⟨by omega,p1.2⟩ c6 oo oo pb sR (kQ u4 C.mv c5.mv n9 oo (fun y hy↦by have:=o1 y hy;omega)) (kR j7.mv j8.mv h7.mv x6.mv ⟨h6.1,h6.2⟩ oo p4) (fun q e3↦(c5.mv.el q.1 (Me.1 e3).1).Ca Z) (fun q e3↦(p4 q e3).1))) ?_;rintro a61 a83 ⟨a10,a25,⟨A1,e6,r0,b4,e0,rfl,p5⟩⟩;refine za Z<|Ac<|Ab<|cg<|zm Z<|vq (Bm Z Z)<|Ac<|AS Z (fun u7=>?_) fun u7=>?_
 ·refine Ab<|cg<|zm Z<|za Z<|Ac<|Az Z Z<|⟨_,hJ.mv.out,A1,P.J,P.b,e6,r0,vS,vT,vG,b4.out hJ.mv,⟨e0.more oo,c8,by omega,a1,ht,by omega,F,b8,e8,j4,fun h=>?_⟩,Z⟩;obtain⟨k5,k6,_⟩:=h.ok pre c3 c4;exact absurd (p5 (ZK b0 k5) (by rw[ZH b0];exact k6)).1 oo
 refine Aj<|Ab<|cg<|za Z<|Ac<|Ab<|Ab<|cg<|zm Z<|vq (NX Cg C.mv Z)<|zm Z<|Ac<|Ai<|WC.loop (σ:=Nat×Value) (fun a7=>[(0,P1 p),(5,P1 b5),(14,a7.2),(110, .slice e4 Y.length e5),(111,I Y.length),(112,I a7.1)]) (fun a7 w'=>a7.1≤Y.length∧∃c' b3 l1,AZ c w Dw c' w'∧BU c' w' p pa pj vS vT vG {P with A:=A1,failed:=e6}∧Ao c' w' 140 144 4 (.slice e4 Y.length e5) Y.length (Y.flatMap BQ)∧rT c' w' Y∧Ar c' w' 105 b5 [I 4,I t.length,St [],St d,l1, .slice none 0 0] 127∧Ao c' w' 146 3 1 l1 a7.1 ((KU P.b.next a7.1).map I)∧Ao c' w' 147 127 6 a7.2 b3.length (b3.flatMap dO)∧rU c' w' [149] b3∧b3.map (·.1)=((EP P.s P.b.next t pre).take a7.1).map Rr) (fun a7=>Y.length-a7.1) (0, .slice none 0 0) Aq ⟨Nat.zero_le _,_,[],_,hJ.mv,b4,C.mv,c5.mv,j.mv,Ao.nil _ _ _ _ _,Ao.nil _ _ _ _ _,⟨fun z g=>by simp at g,fun z g=>by simp at g⟩,Z⟩ ?_;clear hJ b4 C c5 j;rintro⟨k,a66⟩ a00 ⟨hk,j0,b3,l1,hJ,b4,C,c5,j,U,g,c7,e2⟩;dsimp only at hk U g e2;have y6:=U.Av;have y7:=U.Aw;have y8:=g.Av;have y9:=g.Aw;have a35:b3.length=k:=by
  have:=zC List.length e2;rw[yF,yF,ly,HL] at this;omega
 refine Ab<|cg<|vq (AE Z Z)<|Ac<|Ab<|AS Z (fun u9=>?_) fun u9=>?_
 ·have k1:k<Y.length:=oo;obtain⟨y,hy⟩:∃y,y=Y[k]:=⟨_,Z⟩;have k4:y∈Y:=by rw[hy];exact oy k1
  have u6:DF j0 a00 [140] (Bh (.slice e4 Y.length e5) 4 k) (BQ y):=by rw[hy];exact C.elem (fun x=>DD x) dd k1
  have hu:=c5.el y k4;have a52:=y.2.one;have x9:=j6 y k4;refine Aj<|Ab<|Ai<|Ab<|cg<|vq (Bj Cg C Z Z oo oo)<|vq (Dg BB Z u6.CY Z) ?_;refine Db j0 116 GZ fun a84 a06 q3 a26 h2=>WR.AI (Am BB Z Z h2 Z Z AG) ?_;rintro _ a85 ⟨h2,a28⟩;refine Ac<|Ab<|cg<|zm Z<|vq (AD BB Z h2.Ap Z)<|ve (Al q3 149 (Ay.call oJ Z (TC (x:=y.1) hu.mv.now oo))) ?_;rintro a62 a86 ⟨q4,a29,p6,⟨a72,a73,rfl,h4,h5⟩⟩;replace h4:=h4.Cl p6;replace h5:=h5.Cl p6;obtain⟨h8,j1,rfl,_⟩:=h4.own.len;obtain⟨p8,q9,rfl,_⟩:=h5.own.len;refine ve (Bb q4 219 Hp Z Z Z Z Z) ?_;rintro _ a87 ⟨a02,a11,rfl,a30,o3⟩;refine ve (AN Hp Z Z g.mv (Src.An Aez o3.Ap.An Z AG) EY Fb) ?_;rintro a63 a88 ⟨q5,a31,g⟩;clear o3;have y8:=g.Av;have y9:=g.Aw;refine za Z<|Ac<|cg<|vq (Aa DG Z)<|vq (Ah BL Z j.mv.Ap Z)<|vq (Aa Es Z)<|vq (Ah Au Z h2.mv.Ap Z)<|ve (Bb q5 225 Bu Z Z Z Z Z) ?_;rintro _ a89 ⟨a04,a12,rfl,s4,o4⟩;refine ve (AN Bu Z Z U.mv (Src.An zU o4.Ap.An Z AG) EY Fb) ?_;rintro a64 a90 ⟨a13,s5,U⟩;clear o4;have y6:=U.Av;have y7:=U.Aw;refine vq (Aa DG Z)<|WR.AI (AJ BL Z Z ra ra j.mv Z) ?_;rintro _ a91 ⟨j,n4⟩;refine Ac<|cg<|vq (AH Z Z Ad Ad)<|zm Z<|Ac ?_;have e9:(EP P.s P.b.next t pre)[k]?=some y.1:=by rw[←b0,yY,aa k1,hy];rfl
  have hid:y.1.id=P.b.next+(k:Nat):=by
   rw[ZJ oo] at e9;injection e9 with e;rw[←e];rfl
  have p0:k<(EP P.s P.b.next t pre).length:=by rw[HL];omega
  refine⟨(k+1,_),Aq,⟨by dsimp only;omega,_,b3++[(Rr y.1,⟨.slice h8 2 j1,Z⟩,⟨.slice p8 y.1.place.length q9,Z⟩)],_,hJ.mv,b4.mv,C.mv,c5.mv,j,?_,?_,?_,?_⟩,by show Y.length-(k+1)<Y.length-k;omega⟩
  ·replace U:=U.mv n4;dsimp only;rw[gh,List.map_append,←hid];exact U
  ·replace g:=((g.mv s4).mv s5).mv n4;dsimp only;rw[List.length_append,List.flatMap_append];exact g
  ·refine⟨fun z b1=>?_,fun z b1=>?_⟩
   ·rcases zH.1 b1 with h|h
    ·exact c7.mv.l z h
    rw[yN.1 h];exact Fq.more (RR (l:=[y.1.len,y.1.gen]) h4.mv (by show 2≤_;omega) (fun p hp=>by
     have:=n9 y k4;simp only[zN,Abz,Aeo] at hp;rcases hp with rfl|rfl
     ·exact this.2.1
     exact this.2.2)) Z
   rcases zH.1 b1 with h|h
   ·exact c7.mv.s z h
   rw[yN.1 h];exact Kl h5.mv (by show y.1.place.length≤_;omega) (fun p hp=>by have:=x9.2.2.2.2 p hp;exact⟨⟨by omega,by omega⟩,by omega,by omega⟩)
  dsimp only;rw[List.map_append,e2,List.take_succ_eq_append_getElem p0,List.map_append];rw[List.getElem?_eq_getElem p0] at e9;injection e9 with e;rw[e];rfl
 have r2:k=Y.length:=oo;subst r2;rw[yM (by rw[HL];omega)] at e2;obtain⟨h8,j1,rfl,_⟩:=U.own.len;have w4:=Pv P.b.next Y.length;have w5:∀x∈KU P.b.next Y.length,0≤x∧x≤1073741824:=fun x hx=>by have:=ZL hx;omega
 refine WC.exit Z<|Ab<|cg<|zm Z<|zm Z<|vq (AD Fs Z j.Ap Z)<|ve (Bb j0 232 Hp Z Z Z Z Z) ?_;rintro _ a92 ⟨a05,a14,rfl,n5,o5⟩;refine ve (AN Hp Z Z g.mv (Src.An Aez o5.Ap.An Z AG) EY Fb) ?_;rintro z8 p7 ⟨l7,n6,g⟩;clear o5;obtain⟨b6,h1⟩:∃b6,b6=b3++[(Kj d (t.length:Nat) (KU P.b.next Y.length),⟨.slice h8 Y.length j1,rfl⟩,⟨.slice none 0 0,rfl⟩)]:=⟨_,Z⟩;have y0:Ao l7 p7 147 127 6 z8 b6.length (b6.flatMap dO):=by rw[h1,bU,zP];exact g
 have o2:b6.map (·.1)=(Fa P.s P.b.next t pre d).map Hk:=by rw[h1,zB,e2,VG,o0];rfl
 replace c7:=(c7.mv n5).mv n6;have x0:rU l7 p7 [146,149] b6:=by
  rw[h1];refine⟨fun z b1=>?_,fun z b1=>?_⟩
  ·rcases zH.1 b1 with h|h
   ·exact Fq.more (c7.l z h) Z
   rw[yN.1 h];exact Fq.more (Xg (l:=KU P.b.next Y.length) (((U.mv n5).mv n6).lD w4.symm) oo (fun p hp=>by have:=w5 p hp;exact⟨by omega,by omega⟩)) Z
  rcases zH.1 b1 with h|h
  ·exact c7.s z h
  rw[yN.1 h];exact fun w' _ _=>Dx.nil Bg _ _
 have u3:∀z∈b6,Go.Eng.Int64 z.1.kind∧Go.Eng.Int64 z.1.id∧z.1.name.length≤140737488355328∧z.1.Ak.length≤140737488355328:=fun z b1=>by
  have a6:z.1∈(Fa P.s P.b.next t pre d).map Hk:=by rw[←o2];exact zc.2 ⟨z,b1,Z⟩
  obtain⟨r,w9,v7⟩:=zc.1 a6;rw[←v7];exact ZM (p3 r w9)
 have n8:=dP y0 x0 u3 (by rw[h1,bU];simp;omega);rw[o2] at n8;have r4:A1.changes≤900000000:=by have:=e0.Lj;omega
 have x2:P.b.stripes.length+(Fa P.s P.b.next t pre d).length≤900:=oo;have x3:P.b.things.length+(Fa P.s P.b.next t pre d).length≤900:=oo;refine ve (Ay.call oK Z (VE (P:={P with A:=A1,failed:=e6}) (L:=Fa P.s P.b.next t pre d) b4.mv hs k2 p1 e0.pw r4 c8 a1 ht n8 Z ⟨by omega,by omega⟩ w8 p3 ⟨x2,x3⟩ (by show P.J.used+24+_≤_;omega))) ?_;rintro a65 a93 ⟨a15,a32,⟨A2,l5,b2,r1,k8,k9,k7,b4,a8,rfl⟩⟩;refine za Z<|Ac<|Az Z Z ?_;have w6:=Qu (HE a1) (GP a1) (Fa P.s P.b.next t pre d);refine⟨_,hJ.mv.out,A2,l5,b2,e6,r1,k8,k9,k7,b4.out hJ.mv,⟨(e0.tr a8.lay.zj).more oo,a8.j,?_,a8.may,a8.tags,?_,F,b8,e8,j4,fun h=>?_⟩,Z⟩
 ·have a6:=a8.used;have j2:l5.used≤P.J.used+24+EL ((Fa P.s P.b.next t pre d).map Hk):=a6;omega
 ·rcases a8.new with a6|⟨_,a6⟩
  ·rw[show b2=P.b from a6];omega
  rw[show b2=FY P.b (Fa P.s P.b.next t pre d) from a6];have:=w6.2.2.1;omega
 obtain⟨k5,k6,y1⟩:=h.ok pre c3 c4;obtain⟨_,w0,x7⟩:=p5 (ZK b0 k5) (by rw[ZH b0];exact k6);obtain⟨c9,g2⟩:=a8.rQ y1 (fun k hk=>by show Cf A1 k=true;rw[e0.live];exact h.live k hk) h.j;refine⟨c9,w0.trans h.f,g2,pre,c3,c4,a8.zero c9,(gg b0 x7).keep a8.lay.keep fun x hx q e3=>?_⟩;obtain⟨k,hk,rfl⟩:=MH hx;exact((RT (next:=P.b.next) hs c3 c4 (by rw[h3,b8]) oo e7 hk).2.2.2.2.2 q e3).2.1
end Go.Proofs.K
namespace Silo
open Go Go.Eng
def Xi(A:Cr)(s:Cn)(q:Fx×Nat):Bool:=(DW A s q.1.1 q.2).2
def Xj(A:Cr)(s:Cn)(S:List CZ):Nat:=(S.flatMap fun x=>(List.range x.place.length).filter fun i=>(DW A s x i).2).length
theorem og(A:Cr)(s:Cn){Y:List Fx}{S:List CZ}(h:Y.map (·.1)=S):((FO Y).filter (Xi A s)).length=Xj A s S:=by
 subst h;induction Y with
 |nil=>rfl
 |cons y Y f=>
  rw[FO] at f⊢;rw[zD,Acq,bU,f,Rw,Xj,Xj,zD,bU];congr 1;rw[Md,List.filter_map,yF];rfl
theorem Rj{α:Type}(p:α→Bool)(l:List α)(x:α):((l++[x]).filter p).length=(l.filter p).length+if p x=true then 1 else 0:=by
 rw[Acq,bU];congr 1;by_cases h:p x=true<;>simp[h]
end Silo
namespace Go.Proofs.K
open Go Go.Eng Go.RowKit Silo TryzT
theorem kS{p n m:Nat}{P:Ek}(hp:Ts c w p P)(hs:Small P.s)(h3:FF n m P.A)(h8:UR P.A)(h9:Dv P.s P.b=true)(hl:P.b.stripes.length≤1000):
 Calls QP 68 #[P1 p] w (AP fun u w'=>Below w.heap.size w w'∧u=I (Xj P.A P.s P.b.stripes:Nat)):=by
 obtain⟨pa,pj,vS,vT,vG,j⟩:=hp;have g:=Dh.start c w Dw;replace j:=j.Ca (K:=Dw);generalize AT c Dw=c0 at g j;obtain⟨k5,k6,k7,k8,k9⟩:=id hs;have j1:=Mz h9;refine enter (n:=27) (res:=#[.tmp 2]) Tryz.func68 Z Z Z Z<|Ab<|cg<|MJ c0 101 fun w1 b1 c1 h5 r=>?_;refine za Z<|Ac<|Ab<|cg<|Db c1 103 Ss fun w2 b3 c2 c8 f=>?_;refine WR.AI (AJ Au Z Z ra ra f Z) ?_;rintro _ l1 ⟨f,h6⟩;refine Ac<|Ab<|Ab ?_;obtain⟨a8,b5,b7,U⟩:=(((j.mv h5).mv c8).mv h6);have C:=U.s;obtain⟨J,R,rfl,_⟩:=C.now.form;refine cg<|vq (Ah Jt Z r.mv.Ap Z)<|vq (Ae Z)<|vq (Aa Dr Z)<|vq (Aa CN Z)<|vq (Ah EC Z a8.Ap Z)<|ve (Al c2 76 (Ay.call oI Z (ZA))) ?_;rintro l0 j3 ⟨h0,c9,j2,⟨b0,rfl,j0,b6⟩⟩;have c3:Ar _ _ 76 b0 [.slice J P.b.stripes.length R] 102:=⟨b6,j2 _ j0⟩;obtain⟨Y,a7,a6,b8⟩:=Zi (C.mv c9);have k0:Y.length=P.b.stripes.length:=by rw[←a7,yF]
 have e1:∀y∈Y,DM P.s y.1=true:=fun y hy=>(j1 y.1 (by rw[←a7];exact zc.2 ⟨y,hy,Z⟩)).1;have e0:∀y∈Y,y.1.place.length=P.s.k+P.s.m:=fun y hy=>(CW (e1 y hy)).2.2.2.2.1;have o:ZB h0 j3 b0 (.slice J P.b.stripes.length R) Y:=⟨c3,by rw[a7];exact Fq.more (C.mv c9) Z,⟨fun k hk=>⟨(a6.el k hk).CY,by
  have b2:=(a6.el k hk).Bf;simp only[AA,Acb,List.any_nil,Bool.or_false] at b2⊢;rw[b2,Bool.or_true]⟩⟩,fun y hy=>Fq.more (b8 y hy).1 Z⟩
 refine Ac<|Ai<|WC.rangeFunc (α:=Fx×Nat) (encs:=st) (κ:=[128]) (F:=[76,0,94]) (L:=FO Y)
  (fun pre d A=>Dh c w Dw d A∧ZB d A b0 (.slice J P.b.stripes.length R) Y∧BU d A p pa pj (.slice J P.b.stripes.length R) vT vG P∧Ar d A 101 b1 [P1 p] 66∧Ar d A 103 b3 [I ((pre.filter (Xi P.A P.s)).length:Nat)] 3) [] (fun _ _ _=>False) [103,104] Z Z pb (VC o oo (fun y hy=>by have:=e0 y hy;omega)) Z (fun _=>rfl) ss Z
  (fun s d A h1 B ⟨e6,e5,e7,e8,e9⟩ m=>⟨e6.mv m,e5.mv m,e7.mv m,e8.mv m,e9.mv m⟩) (fun p hp=>by simp at hp) (fun s d A h1 B h _=>h.elim)
  ⟨g.mv,o,⟨a8.mv,b5.mv,b7.mv,U.mv⟩,r.mv,f.mv⟩ ?_ ?_ ?_ ?_
 ·clear o g a8 b5 b7 r f c3 b6 U C a6 b8;rintro l pre ⟨y,i⟩ d B ⟨g,o,j,r,f⟩ e4;have a1:=Acc.refl d B [103,104];have c6:=Me.1 (e4.subset (Acw _ (yN.2 Z)));have k2:pre.length≤100000:=by
   have h2:=e4.length_le;rw[ZI e0,bU] at h2;have b2:Y.length*(P.s.k+P.s.m)≤1000*5:=yQ oo oo;omega
  have k1:=Abc (Xi P.A P.s) pre;have k4:=y.2.one;have hu:Bi Bg d B [0,94] y.2.v y.1.place:=o.p y c6.1;refine Ab<|cg<|Db d 104 GZ fun l2 b4 c7 j5 b9=>?_;refine WR.AI (Am BB Z Z b9 Z Z AG) ?_;rintro _ l3 ⟨b9,j6⟩;refine Ac<|cg<|za Z<|Ac<|⟨_,a1.mv,?_⟩;intro A2 c8;have a1:=Acc.refl c7 A2 [103,104];refine Ai<|Ab<|cg<|vq (Ah Jt Z r.mv.Ap Z)<|vq (AD BB Z b9.mv.Ap Z)<|zm Z<|ve (Al c7 1 (Ay.call qG Z (Xb (x:=y.1) (u:=y.2.v) (i:=i) ⟨pa,pj,_,vT,vG,j.mv⟩ hs.ok h3 h8 hu.mv.now (e1 y c6.1) c6.2))) ?_;rintro v20 l4 ⟨j4,j7,k3,rfl⟩;refine zm Z<|vq (Ag Z Z)<|vq (Ag Z Z)<|za Z<|za Z<|Ac<|Ab ?_;obtain⟨t,e2⟩:∃t,t=(DW P.A P.s y.1 i).2:=⟨_,Z⟩;have e3:Xi P.A P.s (y,i)=t:=e2.symm;rw[←e2];refine cg<|zm Z<|Ac<|AS Z (fun c4=>?_) fun c4=>?_
  ·have c5:t=true:=by simpa using c4
   refine cg<|vq (Ah Au Z f.mv.Ap Z)<|vq (AH Z Z Ad Ad) ?_;refine WR.AI (AJ Au Z Z ra ra f.mv Z) ?_;rintro _ l5 ⟨f,j8⟩;refine Ac<|⟨_,a1.mv,g.mv,o.mv,j.mv,r.mv,?_⟩;rw[Rj,e3,c5];exact f
  have c5:t=false:=by simpa using c4
  refine Aj<|⟨_,a1.mv,g.mv,o.mv,j.mv,r.mv,?_⟩;rw[Rj,e3,c5];exact f.mv
 ·clear o g a8 b5 b7 r f c3 b6 U C a6 b8;rintro D d B ⟨g,o,j,r,f⟩ h4;rw[og _ _ a7] at f;refine Ab<|cg<|vq (Ah Au Z f.Ap Z)<|za Z<|Ac ?_;obtain⟨h7,j9⟩:=h4.take;refine Kw Z Z h7 (Cp.tmp Z) ?_;exact⟨g.mv.below,Z⟩
 ·intro p hp;simp at hp
 exact fun _ _ _ _ h=>h.elim
theorem kT{pa pj N:Nat}{s:Cn}(hs:Small s):Calls QP 71 #[P1 pa, .agg (DO s).toArray,I N,P1 pj] w (AP fun u w'=>Below w.heap.size w w'∧∃p,u=P1 p∧w.heap.size≤p∧FG w' p [P1 pa,I s.k,I s.m,I s.size,I N,I (Bn s.size:Nat),P1 pj, .slice none 0 0, .slice none 0 0, .slice none 0 0,I 0,I (-1),I (-1), .bool false] 109):=by
 obtain⟨c,g,R⟩:=AQ.start w;clear R;obtain⟨a7,a8,b0,b1,b2⟩:=id hs;refine enter (n:=19) (res:=#[.tmp 8]) Tryz.func71 Z Z Z Z<|Ab<|cg<|Dz c 105 fun w1 b5 c1 C r=>?_;refine za Z<|Ac<|Ab<|AY c1 [] [0,1,0,0,1,2,0,0,0,2,0] [0,1,2,3,4,6,7,5,8,9,10] fun w2 J f=>?_;refine AK Z Z<|vc Z f.kp (r.mv.kn Cq Z Z)<|AK Z Z<|vd Z (fun _=>Aa DL Z)<|vc Z f.kp (r.mv.kb Au Z Z)<|AK Z Z<|vd Z (fun _=>AB (cells:=#[.int .i64 (-1), .int .i64 (-1)]) Z kr) ?_;refine WD.AW Z Z Z (Al c1 1 (Ay.call XN Z (Mb oo))) Z ?_;rintro b3 b4 ⟨t,j,a6,rfl⟩;refine f.AX j fun f=>vd Z (fun _=>AB (cells:=#[P1 pa,I s.k,I s.m,I s.size,I N,I (Bn s.size:Nat),P1 pj, .slice none 0 0, .slice none 0 0, .slice none 0 0,I 0,I (-1),I (-1), .bool false]) Z kr) ?_;refine WD.AW Z Z Z (sC t 118 Z) Z ?_;rintro _ b6 ⟨i,a1,rfl,l,o⟩;refine f.AX l fun f=>Ga Z Z<|WD.nil ?_;clear f;refine Az Z Z ?_;replace g:=(((g.mv C).mv J).mv j).mv l;have U:w.heap.size≤i:=by
  rcases yT i w.heap.size with h|h
  ·have:=g.Bf _ h;rw[o.Bf] at this;cases this
  exact h
 exact⟨g.below,_,Z,U,o.Ap⟩
theorem oh{pa n m N:Nat}{A:Cr}{s:Cn}(f:By c w pa A)(hs:Small s)(b0:s.k+s.m≤n∧n≤7)(a1:1≤N∧N≤12)(r:1024+N*Bn s.size≤m∧m≤2048)(hp:FF n m A)(hc:A.changes≤800000000)(hl:∀k:Nat,k<n→Cf A k=true)(b1:∀d s:Nat,d<n→s<1024→Cb A d s=(zT,0)):
 Calls QP 38 #[P1 pa, .agg (DO s).toArray,I N] w (AP fun u w'=>∃c',Mv c w c' w' Bt∧∃g p pj j,BU c' w' p pa pj (.slice none 0 0) (.slice none 0 0) (.slice none 0 0) ⟨s,N,g,j,eZ,(-1,-1),false⟩∧Hj n m 20000 A g∧Rs n j∧j.used=24∧j.failed=false∧u= .tuple #[P1 p,I 0]):=by
 have hJ:=AZ.start c w Bt;replace f:=f.NF (K:=Bt);generalize AT c Bt=c0 at hJ f;have c4:=hs.1;refine enter (n:=31) (res:=#[.tmp 6, .tmp 7]) Tryz.func38 Z Z Z Z<|Ab<|cg<|Dz c0 104 fun w1 b4 c1 b6 i=>?_;refine za Z<|za Z<|Ac<|Ab<|Ab<|cg<|zm Z<|vq (AD Cq Z i.Ap Z)<|zm Z<|ve (Al c1 1 (Ay.call xN Z (nT f.mv hs hp b0 a1 r))) ?_;rintro c5 w2 ⟨c2,b7,c3,rfl⟩;refine za Z<|Ac<|Ab<|cg<|zm Z<|vq (Bm Z Z)<|Ac<|CD Z (fun l=>?_) fun l=>?_
 ·exact absurd l dd
 refine Aj<|Ab<|cg<|zm Z<|ve (Ay.call xO Z (nC f.mv ⟨by omega,by omega⟩ ⟨by omega,r.2⟩ hp hc hl b1)) ?_;rintro v20 c6 ⟨C,b8,⟨A1,pj,j,f,a8,U,b2,hu,_,a7,rfl⟩⟩;refine zm Z<|vq (Ag Z Z)<|vq (Ag Z Z)<|za Z<|za Z<|Ac<|Ab<|Ab<|cg<|zm Z<|vq (Bm Z Z)<|Ac<|CD Z (fun o=>?_) fun o=>?_
 ·exact absurd o dd
 refine Aj<|Ab<|cg<|zm Z<|vq (AD Cq Z i.mv.Ap Z)<|zm Z<|zm Z<|ve (Al C 90 (Ay.call xP Z (kT hs))) ?_;rintro v30 b5 ⟨J,b9,b3,⟨t,rfl,hg,R⟩⟩;refine za Z<|za Z<|Ac<|Dn Z Z Z ?_;have a6:Ar J b5 90 t (DH pa pj (.slice none 0 0) (.slice none 0 0) (.slice none 0 0) ⟨s,N,A1,j,eZ,(-1,-1),false⟩) 109:=⟨R,b3 _ hg⟩;refine⟨_,hJ.mv.out,A1,t,pj,j,⟨a6.Ej hJ.mv,By.MP f.mv hJ.mv,DI.Ej a8.mv hJ.mv,⟨?_,?_,?_⟩⟩,U,b2,hu,a7,Z⟩
 ·exact fun w' _ _=>Dx.nil ES _ _
 ·exact fun w' _ _=>Dx.nil IU _ _
 exact fun w' _ _=>Dx.nil RJ _ _
theorem kU{l:List CZ}{x:CZ}(h:x∈l):(ID l x.id).isSome=true:=by
 cases f:ID l x.id with
 |none=>
  have:=Abm.1 f x h;simp at this
 |some k=>rfl
theorem TG{s:Cn}{b:Bk}{vS vT vG:Value}{g1 g2:Int}(hs:Small s)(h1:Rd ES w vS b.stripes)(c8:vT.oneCell'=true)(c9:vG.oneCell'=true)(c5:Ib b.stripes)(hc:-1≤g2∧g2≤1000)(hl:b.stripes.length≤100000):
 Calls QP 60 #[.agg (DO s).toArray, .agg #[vS,vT,vG,I b.next], .agg #[I g1,I g2]] w (AP fun u w'=>Below w.heap.size w w'∧∃R C ok,u= .tuple #[.agg #[I R,I C], .bool ok]∧(ok=true→(ID b.stripes R).isSome=true∧0≤C∧C<(s.k+s.m:Nat))):=by
 have c7:=h1.Av;have g:=Dh.start (fun _=>0) w [];have l:Bi ES (AT (fun _=>0) []) w [0] vS b.stripes:=Rd.Cl h1 (fun k hk=>rfl);generalize AT (fun _=>0) []=c0 at g l;obtain⟨h6,h7,h8,h9,j0⟩:=id hs;have c3:=Qo (fun t:CZ=>decide (t.id<g1)) b.stripes;refine enter (n:=54) (res:=#[.cell 6 107, .tmp 7]) Tryz.func60 Z Z Z Z<|Ab<|cg<|Dz c0 103 fun w1 b3 c1 e1 J=>?_;refine Dz c1 104 fun w2 b4 c2 e3 i=>?_;refine Dz c2 105 fun j3 b5 a7 e4 o=>?_;refine Db a7 106 Wh fun j4 b6 a8 e5 f=>za Z<|Ac<|Ab<|Ab<|cg<|vq (Aa CN Z)<|vq (Ah EC Z i.mv.Ap Z)<|vq (BI Cg) ?_;refine vq (AU Z Z)<|Ac<|AS Z (fun b7=>?_) fun b7=>?_
 ·refine Ab<|cg<|vq (AD Ii Z o.mv.Ap Z)<|WR.AI (Am Ii Z Z f Z Z AG) ?_;rintro _ j5 ⟨f,e6⟩;refine za Z<|Ac<|DR Z (Br Ii Z f.Ap Z) (Cp.tmp Z) ?_;exact⟨g.mv.below,_,_,_,Z,fun h=>(by cases h)⟩
 refine Aj<|Ab<|cg<|vq (AD EB Z i.mv.Ap Z)<|vq (Aa Si Z)<|vq (Ah Au Z o.mv.Ap Z)<|ve (Al a8 1 (Ay.call hF Z (IY (n:=b.next) (d:=g1) l.mv.now c7 c8 c9 c5))) ?_;rintro j1 j6 ⟨b0,e7,h5,rfl⟩;obtain⟨p,a1⟩:∃p,p=OV b.stripes g1:=⟨_,Z⟩;have h2:p≤b.stripes.length:=by rw[a1];exact c3
 rw[←a1];refine zm Z<|vq (Ag Z Z)<|vq (Ag Z Z)<|za Z<|za Z<|Ac<|Ab<|Ab<|cg<|zm Z<|zm Z ?_;apply WR.Ko b0 true 9 (decide (g2<(s.k:Int)+(s.m:Int)-1)) BT
 ·intro h4 b2;refine wo<|vq (Aa Sj rfl)<|wo<|vq (Ah Au rfl o.mv.Ap rfl)<|wo<|vq (Aa Ce rfl)<|wo<|vq (Ah Au rfl J.mv.Ap rfl)<|wo<|vq (Aa Gr rfl)<|wo<|vq (Ah Au rfl J.mv.Ap rfl)<|wo<|vq (AH rfl rfl Ad Ad)<|wo<|vq (EX rfl rfl Ad Ad)<|wo<|vq (AE rfl rfl) ?_;exact WR.Kq 9 b2
 intro j7 e0 e8;refine Ac<|AS rfl (fun U=>?_) fun U=>?_
 ·refine Ab<|cg<|vq (Aa Si Z)<|vq (Ah Au Z o.mv.Ap Z)<|vq (Aa Sj Z)<|vq (Ah Au Z o.mv.Ap Z)<|vq (AH Z Z Ad Ad)<|vq (AB (cells:=#[I g1,I (g2+1)]) Z kr) ?_;refine WR.AI (Am Ii Z Z f.mv Z Z AG) ?_;rintro _ j8 ⟨f,e9⟩;refine za Z<|Ac<|DR Z (Br Ii Z f.Ap Z) (Cp.tmp Z) ?_;exact⟨g.mv.below,_,_,_,Z,fun _=>⟨U.1,by omega,by omega⟩⟩
 refine Aj<|Ab<|Ab<|cg<|zm Z<|Ac<|WC.mono (N:=(fun e w'=>∃j:Nat,j≤100001∧Sub [(4000000, .tuple #[]),(8,I j),(4,P1 b4),(6,P1 b6),(7, .bool false)] e∧∃c',Dh (fun _=>0) w [] c' w'∧Bi ES c' w' [0] vS b.stripes∧Ar c' w' 104 b4 [vS,vT,vG,I b.next] 105∧Ar c' w' 106 b6 [I 0,I 0] 107)) ?_ ?_
 ·refine AS Z (fun b9=>?_) fun b9=>?_
  ·refine cg<|zm Z<|vq (AH Z Z Ad Ad)<|za Z<|Ac ?_;exact⟨p+1,by omega,Aq,_,g.mv,l.mv,i.mv,f.mv⟩
  refine Aj ?_;exact⟨p,by omega,Aq,_,g.mv,l.mv,i.mv,f.mv⟩
 clear g l i f J o;rintro e k0 ⟨j,h3,c6,b1,g,l,i,f⟩;refine WC.sub c6 ?_;have c4:0<b.stripes.length:=oo;have a6:j%b.stripes.length<b.stripes.length:=Nat.mod_lt _ c4;obtain⟨u,b8,_⟩:=KM l a6;refine Ab<|AY b1 [] [0,1,0,0,1,0,0,0,0,1,0,3,0] [0,1,2,3,4,5,6,7,8,9,10,11,12] fun j9 h0 r=>?_;refine vd Z (fun _=>Aa CN Z)<|vc Z r.kp (i.mv.kb EC Z Z)<|AK Z Z<|vd Z (fun _=>Aa CN Z)<|vc Z r.kp (i.mv.kb EC Z Z)<|vd Z (fun _=>BI Cg) ?_;refine vd Z (fun _=>Xr Z Z oo oo) ?_;rw[show(j:Int)%(b.stripes.length:Int)=((j%b.stripes.length:Nat):Int) by rw[Int.natCast_emod]];refine vd Z (fun _=>ER Cg) ?_;refine vd Z (fun _=>AR Es Z)<|vc Z r.kp (b8.mv.kf Au Z Z)<|vd Z (fun _=>AB (cells:=#[I b.stripes[j%b.stripes.length].id,I 0]) Z kr) ?_;refine WD.wild Z Z Z (Am Ii Z Z f.mv Z Z AG) ?_;rintro _ j2 ⟨f,e2⟩;refine Ga Z Z<|WD.nil ?_;clear r;refine DR Z (Br Ii Z f.Ap Z) (Cp.tmp Z) ?_;exact⟨g.mv.below,_,_,_,Z,fun _=>⟨kU (oy a6),by omega,by omega⟩⟩
theorem ZN{live:List Bool}{F:List (List Int)}{nt:List Int}{n:Nat}{E:List Nat}(g:Mc live F nt n 0 E)(hl:live.length=F.length)(J:∀l∈F,∀y∈l,0≤y∧y<64):E.length=n∧∀p∈Gf F E,(0≤p.1∧p.1<(live.length:Nat))∧0≤p.2∧p.2<64:=by
 rcases g with⟨g,_⟩|⟨g,_⟩|⟨_,D,I,o,U⟩
 ·simp at g
 ·simp at g
 refine⟨by rw[o,ly];omega,fun p hp=>?_⟩;obtain⟨d,hd,rfl⟩:=zc.1 hp;have R:d∈FX live F nt live.length:=I.mem_iff.1 (by rw[o] at hd;exact Aa4 hd);obtain⟨a1,t⟩:=MG.1 R;refine⟨⟨by show(0:Int)≤(d:Int);omega,by show(d:Int)<_;omega⟩,?_⟩;show 0≤(F.getD d []).headD 0∧(F.getD d []).headD 0<64
 have C:d<F.length:=oo;rw[gA,kg] at t;have i:=t.2;rw[gy,aa C] at i⊢;simp only[Aa1] at i⊢;have j:=oy C;generalize F[d]=f at i j⊢;cases f with
 |nil=>simp at i
 |cons a r=>exact J _ j a Aag
def qk(s:Cn)(x:CZ)(c':Nat→Nat)(w':World)(a:Int)(j l:Value):Prop:=a=x.id∧∃(f:List Int) (g:List (Int×Int)),Ao c' w' 151 3 1 j f.length (f.map I)∧Bi Bg c' w' [136] l g∧(f.length≤s.k+s.m∧∀i∈f,0≤i∧i<(s.k+s.m:Nat))∧g.length≤12∧∀p∈g,(0≤p.1∧p.1<12)∧0≤p.2∧p.2<64
theorem gi{s:Cn}{x:CZ}{u vL vF c6:Value}{live gd:List Bool}{F:List (List Int)}(hs:Small s)(hu:Rd Bg w u x.place)(j9:DM s x=true)(C:Rd En w vL live)(t:Rd MQ w vF F)(j8:live.length=F.length∧F.length≤12)(o4:0<F.length)(k1:∀l∈F,l.length≤100∧∀y∈l,0≤y∧y<64)(hg:Rd En w c6 gd)(q9:gd.length=s.k+s.m):
 Calls QP 64 #[.agg (DO s).toArray, .agg #[I x.id,I x.len,I x.gen,u], .agg #[vL,vF],c6] w (AP fun v w'=>∃c',Mv c w c' w' []∧∃a h9 j0 w1 w2 e,v= .tuple #[.agg #[I a,h9,j0], .agg #[w1,w2],I e]∧(h9.oneCell'=true∧j0.oneCell'=true∧w1.oneCell'=true∧w2.oneCell'=true)∧(e=0→qk s x c' w' a h9 j0)):=by
 have j:=Dh.start c w [];have r3:=hu.Av;have q3:=C.Av;have q2:=t.Av;replace hu:Bi Bg (AT c []) w [0] u x.place:=Rd.Cl hu (fun k hk=>rfl);replace C:Bi En (AT c []) w [0] vL live:=Rd.Cl C (fun k hk=>rfl);replace t:Bi MQ (AT c []) w [0] vF F:=Rd.Cl t (fun k hk=>rfl);replace hg:Bi En (AT c []) w [0] c6 gd:=Rd.Cl hg (fun k hk=>rfl);generalize AT c []=c0 at j hu C t hg;obtain⟨s6,s7,s8,s9,u0⟩:=id hs;obtain⟨r6,r7,r8,r9,s0,o7⟩:=CW j9;refine enter (n:=89) (res:=#[.cell 8 150, .cell 9 55, .tmp 10]) Tryz.func64 Z Z Z Z<|Ab<|cg<|Dz c0 104 fun w1 b4 c1 e1 J=>?_;refine Dz c1 105 fun w2 b5 c2 c9 R=>?_;refine Dz c2 106 fun x8 b6 k9 c5 U=>?_;refine Db k9 108 HP fun y0 b8 l0 c4 f=>Db l0 133 Fv fun y1 h1 l1 b9 g=>za Z<|Ac<|Ab<|Ab<|cg<|vq (AD Cq Z J.mv.Ap Z)<|vq (AD BB Z R.mv.Ap Z)<|ve (Al l1 1 (Ay.call hG Z (Tt hs.ok hu.mv.now))) ?_;rintro u1 y2 ⟨l2,b3,r4,rfl⟩;rw[j9];refine vq (Bq Z)<|zm Z ?_;replace j:=(((((j.mv e1).mv c9).mv c5).mv c4).mv b9).mv b3;replace hu:=(((((hu.mv e1).mv c9).mv c5).mv c4).mv b9).mv b3;replace C:=(((((C.mv e1).mv c9).mv c5).mv c4).mv b9).mv b3;replace t:=(((((t.mv e1).mv c9).mv c5).mv c4).mv b9).mv b3;replace hg:=(((((hg.mv e1).mv c9).mv c5).mv c4).mv b9).mv b3;replace J:=((((J.mv c9).mv c5).mv c4).mv b9).mv b3;replace R:=(((R.mv c5).mv c4).mv b9).mv b3;replace U:=((U.mv c4).mv b9).mv b3;replace f:=(f.mv b9).mv b3;replace g:=g.mv b3;apply vY false 3 (fun y w'=>∃c',Dh c w [] c' w'∧Bi Bg c' w' [0] u x.place∧Bi En c' w' [0] vL live∧Bi MQ c' w' [0] vF F∧Bi En c' w' [0] c6 gd∧Ar c' w' 104 b4 (DO s) 31∧Ar c' w' 105 b5 [I x.id,I x.len,I x.gen,u] 144∧Ar c' w' 106 b6 [vL,vF] 55∧Ar c' w' 108 b8 [I 0, .slice none 0 0, .slice none 0 0] 150∧Ar c' w' 133 h1 [.slice none 0 0, .slice none 0 0] 55) BT ((fun _=>⟨true,_,j,hu,C,t,hg,J,R,U,f,g⟩))
 ·intro r2;refine wo<|vq (AD Cz rfl U.Ap rfl)<|wo<|ve (Al l2 1 (Ay.call tb rfl (kj C.now t.now))) ?_;rintro u2 y3 ⟨q0,q7,r5,⟨p5,rfl⟩⟩;refine wo<|vq (Bq rfl) ?_;exact WR.nil ⟨_,rfl,Sub.drop _ 3 _ rfl rfl,⟨_,j.mv,hu.mv,C.mv,t.mv,hg.mv,J.mv,R.mv,U.mv,f.mv,g.mv⟩⟩
 clear j hu C t hg J R U f g;rintro p4 k6 ⟨h2,j,hu,C,t,hg,J,R,U,f,g⟩;refine zm Z ?_;apply WR.CJ false 8 _ BT
 ·intro r1;refine wo<|zm rfl<|wo<|vq (BI FR) ?_;refine wo<|vq (Aa Ce rfl)<|wo<|vq (Ah Au rfl J.Ap rfl)<|wo<|vq (Aa Gr rfl)<|wo<|vq (Ah Au rfl J.Ap rfl)<|wo<|vq (AH rfl rfl Ad Ad)<|wo<|vq (Bm rfl rfl) ?_;exact Dm 8
 refine Ac<|AS Z (fun n1=>?_) fun n1=>?_
 ·refine Ab<|AY h2 [108] [2,1,2,3,0] [1,0,2,3,4] fun y4 q8 o=>?_;refine vc Z o.kp (g.mv.kn Cz Z Z)<|WD.AW Z Z Z (Ay.val (AD CO Z f.mv.Ap Z)) Z ?_;rintro _ _ ⟨rfl,rfl⟩;refine⟨id,?_⟩;refine WD.AI Z Z Z (Am CO Z Z f.mv Z Z AG) ?_;rintro _ y5 ⟨f,l9⟩;refine o.AX l9 fun o=>WD.wild Z Z Z (Am Cz Z Z g.mv Z Z AG) ?_;rintro _ u9 ⟨g,l6⟩;try replace o:=o.tr l6 Z
  refine Ga Z Z<|WD.nil ?_;clear o;refine MV Z (Br CO Z f.mv.Ap Z) (Br Cz Z g.Ap Z) (Cp.tmp Z) ?_;exact⟨_,j.mv.out,_,_,_,_,_,_,Z,⟨Z,Z,Z,Z⟩,fun h=>(by cases h)⟩
 refine Aj<|Ab<|cg<|za Z<|za Z<|Ac<|Ab<|Ab ?_;have r:Ao h2 k6 151 3 1 (.slice none 0 0) 0 []:=Ao.nil _ _ _ _ _;have a1:Ao h2 k6 152 3 1 (.slice none 0 0) 0 []:=Ao.nil _ _ _ _ _;refine cg<|zm Z<|vq (BI FR) ?_;refine zm Z<|Ac<|Ai<|WC.loop (σ:=Nat×Value×Value) (fun a7=>[(3,c6),(4,P1 b4),(5,P1 b5),(6,P1 b6),(8,P1 b8),(9,P1 h1),(10,I 0),(11,a7.2.1),(12,a7.2.2),(36,c6),(37,I gd.length),(38,I a7.1)]) (fun a7 w'=>a7.1≤gd.length∧∃(c':Nat→Nat) (a6 b7:List Int),Dh c w [] c' w'∧Bi Bg c' w' [0] u x.place∧Bi En c' w' [0] vL live∧Bi MQ c' w' [0] vF F∧Bi En c' w' [0] c6 gd∧Ar c' w' 104 b4 (DO s) 31∧Ar c' w' 105 b5 [I x.id,I x.len,I x.gen,u] 144∧Ar c' w' 106 b6 [vL,vF] 55∧Ar c' w' 108 b8 [I 0, .slice none 0 0, .slice none 0 0] 150∧Ar c' w' 133 h1 [.slice none 0 0, .slice none 0 0] 55∧Ao c' w' 151 3 1 a7.2.1 a6.length (a6.map I)∧Ao c' w' 152 3 1 a7.2.2 b7.length (b7.map I)∧(a6.length≤a7.1∧b7.length≤a7.1)∧(∀i∈a6,0≤i∧i<(a7.1:Nat))∧∀i∈b7,-1≤i∧i<12) (fun a7=>gd.length-a7.1) (0, .slice none 0 0, .slice none 0 0) Aq ⟨Nat.zero_le _,_,[],[],j,hu,C,t,hg,J,R,U,f,g,r,a1,⟨Nat.le_refl _,Nat.le_refl _⟩,by simp,by simp⟩ ?_;clear j hu C t hg J R U f g r a1;rintro⟨k,v11,k3⟩ y6 ⟨hk,e3,a6,b7,j,hu,C,t,hg,J,R,U,f,g,r,a1,o0,c3,e2⟩;dsimp only at hk r a1 o0 c3;have o8:=r.Av;have o9:=r.Aw;have s3:=a1.Av;have s4:=a1.Aw;refine Ab<|cg<|vq (AE Z Z)<|Ac<|Ab<|AS Z (fun n6=>?_) fun n6=>?_
 ·have n9:k<gd.length:=oo;have j7:k<x.place.length:=oo;have n5:=(BP hg n9 dd).1;have j6:=(BP hu j7 dd).1;have k0:=o7 _ (oy j7);simp only[LS,zZ,kg,yI] at k0;obtain⟨e8,o3⟩:∃e8,e8=x.place[k].1:=⟨_,Z⟩;obtain⟨pt,o5⟩:∃pt,pt=x.place[k].2:=⟨_,Z⟩;rw[←o3,←o5] at j6 k0;refine Aj<|Ab<|Ai<|Ab<|cg<|zm Z<|vq (ER FR) ?_;refine vq (Bl Jc Z n5.CY)<|za Z<|za Z<|Ac<|Ab<|cg<|zm Z<|Ac<|AS Z (fun n7=>?_) fun n7=>?_
  ·refine cg<|zm Z<|vq (Aa Ck Z)<|vq (Ah BV Z R.Ap Z)<|zm Z<|vq (ER CQ) ?_;refine vq (AR CE Z)<|vq (EA Au Z j6.CY Z)<|ve (Bb e3 151 Bu Z Z Z Z Z) ?_;rintro _ v7 ⟨p2,p6,rfl,a8,j4⟩;refine ve (AN Bu Z Z a1.mv (Src.An zU j4.Ap.An Z AG) EY Fb) ?_;rintro k4 v8 ⟨p7,b0,a1⟩;clear j4;refine za Z<|Ac<|cg<|vq (AH Z Z Ad Ad)<|zm Z<|Ac ?_;replace j:=(j.mv a8).mv b0;replace hu:=(hu.mv a8).mv b0;replace C:=(C.mv a8).mv b0;replace t:=(t.mv a8).mv b0;replace hg:=(hg.mv a8).mv b0;replace J:=(J.mv a8).mv b0;replace R:=(R.mv a8).mv b0;replace U:=(U.mv a8).mv b0;replace f:=(f.mv a8).mv b0;replace g:=(g.mv a8).mv b0;replace r:=(r.mv a8).mv b0
   first
   |exact⟨(k+1,v11,k4),Aq,⟨by dsimp only;omega,_,a6,b7++[e8],j,hu,C,t,hg,J,R,U,f,g,r,by dsimp only;rw[List.length_append,List.map_append];exact a1,⟨by dsimp only;omega,by dsimp only;rw[List.length_append,List.length_singleton];omega⟩,fun i hi=>by have:=c3 i hi;dsimp only;omega,fun i hi=>by
    rcases zH.1 hi with h|h
    ·exact e2 i h
    rw[yN.1 h];omega⟩,by show gd.length-(k+1)<gd.length-k;omega⟩
   |exact⟨(k+1,k5,k3),Aq,⟨by dsimp only;omega,_,a6++[(k:Int)],b7,j,hu,C,t,hg,J,R,U,f,g,by dsimp only;rw[List.length_append,List.map_append];exact r,a1,⟨by dsimp only;rw[List.length_append,List.length_singleton];omega,by dsimp only;omega⟩,fun i hi=>by
    dsimp only;rcases List.mem_append.1 hi with h|h
    ·have:=c3 i h;omega
    rw[yN.1 h];omega,e2⟩,by show gd.length-(k+1)<gd.length-k;omega⟩
  refine cg<|zm Z<|zm Z<|ve (Bb e3 155 Bu Z Z Z Z Z) ?_;rintro _ w0 ⟨p3,p8,rfl,b1,j5⟩;refine ve (AN Bu Z Z r.mv (Src.An zU j5.Ap.An Z AG) EY Fb) ?_;rintro k5 w3 ⟨p9,b2,r⟩;clear j5;refine za Z<|Ac<|cg<|vq (AH Z Z Ad Ad)<|zm Z<|Ac ?_;replace j:=(j.mv b1).mv b2;replace hu:=(hu.mv b1).mv b2;replace C:=(C.mv b1).mv b2;replace t:=(t.mv b1).mv b2;replace hg:=(hg.mv b1).mv b2;replace J:=(J.mv b1).mv b2;replace R:=(R.mv b1).mv b2;replace U:=(U.mv b1).mv b2;replace f:=(f.mv b1).mv b2;replace g:=(g.mv b1).mv b2;replace a1:=(a1.mv b1).mv b2
  first
  |exact⟨(k+1,v11,k4),Aq,⟨by dsimp only;omega,_,a6,b7++[e8],j,hu,C,t,hg,J,R,U,f,g,r,by dsimp only;rw[List.length_append,List.map_append];exact a1,⟨by dsimp only;omega,by dsimp only;rw[List.length_append,List.length_singleton];omega⟩,fun i hi=>by have:=c3 i hi;dsimp only;omega,fun i hi=>by
   rcases zH.1 hi with h|h
   ·exact e2 i h
   rw[yN.1 h];omega⟩,by show gd.length-(k+1)<gd.length-k;omega⟩
  |exact⟨(k+1,k5,k3),Aq,⟨by dsimp only;omega,_,a6++[(k:Int)],b7,j,hu,C,t,hg,J,R,U,f,g,by dsimp only;rw[List.length_append,List.map_append];exact r,a1,⟨by dsimp only;rw[List.length_append,List.length_singleton];omega,by dsimp only;omega⟩,fun i hi=>by
   dsimp only;rcases List.mem_append.1 hi with h|h
   ·have:=c3 i h;omega
   rw[yN.1 h];omega,e2⟩,by show gd.length-(k+1)<gd.length-k;omega⟩
 have r0:k=s.k+s.m:=oo;refine WC.exit Z<|Ab<|Ab<|cg<|zm Z<|vq (BI Bu) ?_;refine vq (Aa Ce Z)<|vq (Ah Au Z J.Ap Z)<|vq (AE Z Z)<|Ac<|AS Z (fun n2=>?_) fun n2=>?_
 ·refine Ab<|AY e3 [108] [2,1,2,3,0] [1,0,2,3,4] fun w4 q4 o=>?_;refine vc Z o.kp (g.mv.kn Cz Z Z)<|WD.AW Z Z Z (Ay.val (AD CO Z f.mv.Ap Z)) Z ?_;rintro _ _ ⟨rfl,rfl⟩;refine⟨id,?_⟩;refine WD.AI Z Z Z (Am CO Z Z f.mv Z Z AG) ?_;rintro _ w5 ⟨f,l7⟩;refine o.AX l7 fun o=>WD.wild Z Z Z (Am Cz Z Z g.mv Z Z AG) ?_;rintro _ w6 ⟨g,l8⟩;try replace o:=o.tr l8 Z
  refine Ga Z Z<|WD.nil ?_;clear o;refine MV Z (Br CO Z f.mv.Ap Z) (Br Cz Z g.Ap Z) (Cp.tmp Z) ?_;exact⟨_,j.mv.out,_,_,_,_,_,_,Z,⟨Z,Z,Z,Z⟩,fun h=>(by cases h)⟩
 refine Aj<|Ab<|cg<|vq (AD Cz Z U.Ap Z)<|ve (Ay.call td Z (kk (c:=e3) C.now t.now ⟨by omega,by omega⟩ (fun l hl↦(k1 l hl).1))) ?_;rintro u3 w7 ⟨k8,c7,⟨u6,u5,e6,rfl⟩⟩;have e9:=e6.kh.Av;obtain⟨u7,o6,_⟩:=id e6.row;have h0:=o6.Av;refine WR.AI (Am Cz Z Z g.mv Z Z AG) ?_;rintro _ w8 ⟨g,c8⟩;refine Ac<|Ab ?_;obtain⟨k7,l3,rfl,_⟩:=((r.mv c7).mv c8).own.len;replace r:=(r.mv c7).mv c8;have o8:=r.Av;have o9:=r.Aw;refine cg<|vq (Aa Es Z)<|vq (Ah Au Z R.mv.Ap Z)<|zm Z<|vq (AB (cells:=#[I x.id, .slice k7 a6.length l3, .slice none 0 0]) Z kr) ?_;refine WR.AI (Am CO Z Z f.mv Z Z AG) ?_;rintro _ w9 ⟨f,e0⟩;refine Ac<|Ab<|Ab<|cg<|zm Z<|vq (BI Bu) ?_;refine vq (BZ Z Z)<|Ac<|AS Z (fun n3=>?_) fun n3=>?_
 ·have l5:∀l∈F,∀y∈l,0≤y∧y<64:=fun l hl=>(k1 l hl).2;have o2:=Xg (((a1.mv c7).mv c8).mv e0) oo (fun i hi=>by have:=e2 i hi;exact⟨by omega,by omega⟩);have o1:=(((a1.mv c7).mv c8).mv e0).own.Qr;refine Ab<|cg<|zm Z<|vq (BI Bu) ?_;refine zm Z<|ve (Ay.call oO Z (dK (K:=[152]) (n:=a6.length) (nt:=b7) g.mv e6.mv j8 o4 o2 o1 Z oo)) ?_;rintro u4 x0 ⟨j1,j2,⟨p0,e,E,g,e6,n0,h8,rfl⟩⟩;have k2:=h8.Av;have s5:=h8.Aw;refine zm Z<|vq (Ag Z Z)<|vq (Ag Z Z)<|vq (Aa JZ Z)<|WR.AI (AJ BV Z Z ra ra f.mv Z) ?_;rintro _ p1 ⟨f,h4⟩;refine za Z<|Ac<|Ab<|cg<|zm Z<|vq (Bm Z Z)<|Ac<|AS Z (fun n4=>?_) fun n4=>?_
  ·refine Ab<|cg<|vq (AB (cells:=#[.int .i64 0, .slice none 0 0, .slice none 0 0]) Z kr)<|vq (AB (cells:=#[.slice none 0 0, .slice none 0 0]) Z kr)<|zm Z ?_;refine WR.AI (Am CO Z Z f Z Z AG) ?_;rintro _ x1 ⟨f,q5⟩;refine WR.AI (Am Cz Z Z g.mv Z Z AG) ?_;rintro _ x2 ⟨g,q6⟩;refine za Z<|Ac<|MV Z (Br CO Z f.mv.Ap Z) (Br Cz Z g.Ap Z) (Cp.tmp Z) ?_;exact⟨_,j.mv.out,_,_,_,_,_,_,Z,⟨Z,Z,Z,Z⟩,fun h=>absurd h oo⟩
  have n8:e=0:=oo;subst n8;obtain⟨q1,h3⟩:=ZN n0 j8.1 l5;have l4:(Gf F E).length=E.length:=yF _;have e7:Bi Bg j1 p1 [136] p0 (Gf F E):=Kl (by rw[l4];exact(h8.mv h4)) oo (fun p hp=>by have:=h3 p hp;exact⟨⟨by omega,by omega⟩,by omega,by omega⟩);refine Aj<|Ab<|AY j1 [108] [2,1,2,3,0] [1,0,2,3,4] fun x3 h5 o=>?_;refine vc Z o.kp (g.mv.kn Cz Z Z)<|WD.AW Z Z Z (Ay.val (AD CO Z f.mv.Ap Z)) Z ?_;rintro _ _ ⟨rfl,rfl⟩;refine⟨id,?_⟩;refine WD.AI Z Z Z (Am CO Z Z f.mv Z Z AG) ?_;rintro _ x4 ⟨f,e4⟩;refine o.AX e4 fun o=>WD.wild Z Z Z (Am Cz Z Z g.mv Z Z AG) ?_;rintro _ x5 ⟨g,e5⟩;try replace o:=o.tr e5 Z
  refine Ga Z Z<|WD.nil ?_;clear o;refine MV Z (Br CO Z f.mv.Ap Z) (Br Cz Z g.Ap Z) (Cp.tmp Z) ?_;replace j:=(((((((j.mv c7).mv c8).mv e0).mv j2).mv h4).mv h5).mv e4).mv e5;replace r:=(((((r.mv e0).mv j2).mv h4).mv h5).mv e4).mv e5;replace e7:=((e7.mv h5).mv e4).mv e5
  first
  |exact⟨_,j.out,_,_,_,_,_,_,Z,⟨Z,k2,e9,h0⟩,fun _=>⟨Z,a6,Gf F E,r.Ej j.dN,Fq.Ej e7 j.dN,⟨by omega,fun i hi=>by have:=c3 i hi;omega⟩,by omega,fun p hp=>by have:=h3 p hp;omega⟩⟩
  |exact⟨_,j.out,_,_,_,_,_,_,Z,⟨Z,Z,e9,h0⟩,fun _=>⟨Z,a6,[],r.Ej j.dN,fun w' _ _=>Dx.nil Bg _ _,⟨by omega,fun i hi=>by have:=c3 i hi;omega⟩,by simp,by simp⟩⟩
 refine Aj<|Ab<|AY k8 [108] [2,1,2,3,0] [1,0,2,3,4] fun x6 j3 o=>?_;refine vc Z o.kp (g.mv.kn Cz Z Z)<|WD.AW Z Z Z (Ay.val (AD CO Z f.mv.Ap Z)) Z ?_;rintro _ _ ⟨rfl,rfl⟩;refine⟨id,?_⟩;refine WD.AI Z Z Z (Am CO Z Z f.mv Z Z AG) ?_;rintro _ x7 ⟨f,h6⟩;refine o.AX h6 fun o=>WD.wild Z Z Z (Am Cz Z Z g.mv Z Z AG) ?_;rintro _ x9 ⟨g,h7⟩;try replace o:=o.tr h7 Z
 refine Ga Z Z<|WD.nil ?_;clear o;refine MV Z (Br CO Z f.mv.Ap Z) (Br Cz Z g.Ap Z) (Cp.tmp Z) ?_;replace j:=(((((j.mv c7).mv c8).mv e0).mv j3).mv h6).mv h7;replace r:=(((r.mv e0).mv j3).mv h6).mv h7
 first
 |exact⟨_,j.out,_,_,_,_,_,_,Z,⟨Z,k2,e9,h0⟩,fun _=>⟨Z,a6,Gf F E,r.Ej j.dN,Fq.Ej e7 j.dN,⟨by omega,fun i hi=>by have:=c3 i hi;omega⟩,by omega,fun p hp=>by have:=h3 p hp;omega⟩⟩
 |exact⟨_,j.out,_,_,_,_,_,_,Z,⟨Z,Z,e9,h0⟩,fun _=>⟨Z,a6,[],r.Ej j.dN,fun w' _ _=>Dx.nil Bg _ _,⟨by omega,fun i hi=>by have:=c3 i hi;omega⟩,by simp,by simp⟩⟩
theorem rV{x:CZ}{u o r:Value}{a:Int}{idx:List Int}{tos:List (Int×Int)}(hu:Rd Bg w u x.place)(hi:Rd Bw w o idx)(ht:Rd Bg w r tos):
 Calls QP 224 #[.agg #[I x.id,I x.len,I x.gen,u], .agg #[I a,o,r]] w (AP fun v w'=>Below w.heap.size w w'∧∃b:Bool,v= .bool b∧(b=true→idx.length=tos.length∧∀(j:Nat) (i:Int),idx[j]?=some i→0≤i∧i<(x.place.length:Nat))):=by
 have g:=Dh.start (fun _=>0) w [];have h3:=hu.Av;have e9:=hi.Av;have h1:=ht.Av;have h4:=hu.small;have h0:=hi.small;have h2:=ht.small;replace hu:Bi Bg (AT (fun _=>0) []) w [0] u x.place:=Rd.Cl hu (fun k hk=>rfl);replace hi:Bi Bw (AT (fun _=>0) []) w [0] o idx:=Rd.Cl hi (fun k hk=>rfl);replace ht:Bi Bg (AT (fun _=>0) []) w [0] r tos:=Rd.Cl ht (fun k hk=>rfl);generalize AT (fun _=>0) []=c0 at g hu hi ht;refine enter (n:=71) (res:=#[.tmp 4]) Tryz.func224 Z Z Z Z<|Ab<|cg<|Dz c0 102 fun w1 b2 c1 c7 l=>?_;refine Dz c1 103 fun w2 b3 c2 c8 f=>?_;refine za Z<|Ac<|Ab<|Ab<|cg<|vq (Aa hD Z)<|vq (Ah Au Z f.Ap Z)<|vq (Aa Es Z)<|vq (Ah Au Z l.mv.Ap Z)<|vq (Bm Z Z)<|zm Z ?_;apply WR.CJ false 7 _ BT
 ·intro e2;refine wo<|vq (Aa Ly rfl)<|wo<|vq (Ah BL rfl f.Ap rfl)<|wo<|vq (BI Bu) ?_;refine wo<|vq (Aa JZ rfl)<|wo<|vq (Ah BV rfl f.Ap rfl)<|wo<|vq (BI CQ) ?_;refine wo<|vq (Bm rfl rfl) ?_;exact Dm 7
 refine Ac<|AS Z (fun b5=>?_) fun b5=>?_
 ·refine Ab<|cg<|za Z<|Ac<|Az Z Z ?_;exact⟨g.mv.below,false,Z,fun h=>(by cases h)⟩
 have c3:idx.length=tos.length:=oo;refine Aj<|Ab<|Ab<|cg<|vq (Aa Ly Z)<|vq (Ah BL Z f.Ap Z)<|vq (BI Bu) ?_;refine zm Z<|Ac<|Ai<|WC.loop (σ:=Nat) (fun k=>[(2,P1 b2),(3,P1 b3),(4, .bool false),(22,o),(23,I idx.length),(24,I k)]) (fun k w'=>(k≤idx.length∧∀(j:Nat) (i:Int),j<k→idx[j]?=some i→0≤i∧i<(x.place.length:Nat))∧∃c',Dh (fun _=>0) w [] c' w'∧Bi Bg c' w' [0] u x.place∧Bi Bw c' w' [0] o idx∧Bi Bg c' w' [0] r tos∧Ar c' w' 102 b2 [I x.id,I x.len,I x.gen,u] 144∧Ar c' w' 103 b3 [I a,o,r] 150) (fun k=>idx.length-k) 0 Aq ⟨⟨yU _,fun j i h=>by omega⟩,_,g.mv,hu.mv,hi.mv,ht.mv,l.mv,f⟩ ?_;clear g hu hi ht l f;rintro k h8 ⟨⟨hk,a6⟩,J,g,hu,hi,ht,l,f⟩;refine Ab<|cg<|vq (AE Z Z)<|Ac<|Ab<|AS Z (fun b6=>?_) fun b6=>?_
 ·have a8:k<idx.length:=oo;have b9:k<tos.length:=oo;obtain⟨R,e1⟩:=BP hi a8 dd;have U:=(BP hi (show k-1<idx.length by omega) dd).1;have t:=(BP ht b9 dd).1;have a1:=t;obtain⟨b1,a7⟩:∃b1,b1=idx[k]:=⟨_,Z⟩;obtain⟨b0,b8⟩:∃b0,b0=idx[k-1]:=⟨_,Z⟩;obtain⟨q,c4⟩:∃q,q=tos[k]:=⟨_,Z⟩;rw[←a7] at R;rw[←b8] at U;rw[←c4] at t a1;refine Aj<|Ab<|Ai<|Ab<|cg<|zm Z<|vq (ER Bu) ?_;refine vq (Bl Au Z R.CY)<|za Z<|za Z<|Ac<|Ab<|cg<|zm Z<|vq (AE Z Z)<|zm Z ?_;apply WR.CJ false 5 _ BT
  ·intro e7;refine wo<|zm rfl<|wo<|vq (Aa Ck rfl)<|wo<|vq (Ah BV rfl l.Ap rfl)<|wo<|vq (BI CQ) ?_;refine wo<|vq (Cu rfl rfl) ?_;exact Dm 5
  refine zm Z ?_;apply WR.CJ false 12 _ BT
  ·intro e4;refine wo<|zm rfl<|wo<|vq (BZ rfl rfl)<|wo<|zm rfl ?_;apply WR.CJ true 8 _ BT
   ·intro e3;refine wo<|zm rfl<|wo<|vq (Aa Ly rfl)<|wo<|vq (Ah BL rfl f.Ap rfl)<|wo<|zm rfl<|wo<|vq (EX rfl rfl Ad Ad)<|wo<|vq (AF Bu hi.now rfl rfl rfl oo oo) ?_;rw[show((k:Int)-1).toNat=k-1 by omega];refine wo<|vq (Bl Au rfl U.CY)<|wo<|vq (FV rfl rfl) ?_;exact Dm 8
   exact Dm 4
  refine zm Z ?_;apply WR.Ko J false 7 (!LS q) BT
  ·intro e5 b4;refine wo<|vq (Aa JZ rfl)<|wo<|vq (Ah BV rfl f.Ap rfl)<|wo<|zm rfl<|wo<|vq (ER CQ) ?_;refine wo<|vq (Dg DK rfl t.CY rfl)<|wo<|ve (Al J 1 (Ay.call po rfl (Zh (x:=q)))) ?_;rintro h5 h6 ⟨c5,c9,e8,rfl⟩;refine wo<|vq (Bq rfl) ?_;exact WR.Kq 7 b4.mv
  intro h7 c6 e0;refine zm rfl ?_;apply WR.CJ false 7 _ BT
  ·intro e6;refine wo<|vq (Aa JZ rfl)<|wo<|vq (Ah BV rfl f.mv.Ap rfl)<|wo<|zm rfl<|wo<|vq (ER CQ) ?_;refine wo<|vq (AR CE rfl)<|wo<|vq (EA Au rfl a1.mv.CY rfl)<|wo<|vq (AU rfl rfl) ?_;exact Dm 7
  refine Ac<|AS Z (fun b7=>?_) fun b7=>?_
  ·refine Ab<|cg<|za Z<|Ac<|Az Z Z ?_;exact⟨g.mv.below,false,Z,fun h=>(by cases h)⟩
  refine Aj<|cg<|vq (AH Z Z Ad Ad)<|zm Z<|Ac ?_;refine⟨k+1,Aq,⟨⟨by omega,fun j i C p=>?_⟩,_,g.mv,hu.mv,hi.mv,ht.mv,l.mv,f.mv⟩,by omega⟩;rcases yT j k with h|h
  ·exact a6 j i h p
  have:j=k:=oo;subst this;rw[aa a8] at p;injection p with p;rw[←p,←a7];omega
 refine WC.exit Z<|Ab<|cg<|za Z<|Ac<|Az Z Z ?_;exact⟨g.below,true,Z,fun _=>⟨c3,fun j i C=>a6 j i (by have:=(yO.1 C).1;omega) C⟩⟩
theorem ql{i:Nat}{e:TypeId}{v:Value}{f:List (Int×Int)}{q:Int×Int}{g:Nat}(h:Ao c w i e 2 v f.length ((f.flatMap FE).take (g*2)++FE q++(f.flatMap FE).drop ((g+1)*2)))(j:g<f.length):Ao c w i e 2 v (f.set g q).length ((f.set g q).flatMap FE):=by
 rw[←Jv (enc:=FE) (n:=2) (fun _=>rfl) f g j q,zF];exact h
def wv(x:CZ)(idx:List Int)(c':Nat→Nat)(w':World)(l o r:Int)(g:Value):Prop:=l=x.id∧o=x.len∧r=x.gen∧(∃f,Bi Bg c' w' [153] g f∧f.length=x.place.length∧∀p∈f,(-1≤p.1∧p.1<12)∧0≤p.2∧p.2<64)∧∀(j:Nat) (i:Int),idx[j]?=some i→0≤i∧i<(x.place.length:Nat)
theorem oi{s:Cn}{x:CZ}{u b1 b9:Value}{a:Int}{idx:List Int}{tos:List (Int×Int)}(hs:Small s)(hu:Rd Bg w u x.place)(h7:DM s x=true)(hi:Rd Bw w b1 idx)(ht:Rd Bg w b9 tos)(l8:∀p∈tos,(0≤p.1∧p.1<12)∧0≤p.2∧p.2<64)(o8:idx.length≤1000):
 Calls QP 128 #[.agg (DO s).toArray, .agg #[I x.id,I x.len,I x.gen,u], .agg #[I a,b1,b9]] w (AP fun v w'=>∃c',Mv c w c' w' []∧∃j3 j4 j5 e9 n3 e,v= .tuple #[.agg #[I j3,I j4,I j5,e9],n3,I e]∧e9.oneCell'=true∧(e=0→wv x idx c' w' j3 j4 j5 e9)):=by
 have o:=Dh.start c w [];have r0:=hu.Av;have p5:=hi.Av;have q9:=ht.Av;replace hu:Bi Bg (AT c []) w [0] u x.place:=Rd.Cl hu (fun k hk=>rfl);replace hi:Bi Bw (AT c []) w [0] b1 idx:=Rd.Cl hi (fun k hk=>rfl);replace ht:Bi Bg (AT c []) w [0] b9 tos:=Rd.Cl ht (fun k hk=>rfl);generalize AT c []=c0 at o hu hi ht;obtain⟨q4,q5,q6,q7,q8⟩:=id hs;obtain⟨p6,p7,p8,p9,q0,n1⟩:=CW h7;have l5:∀p∈x.place,(-1≤p.1∧p.1<12)∧0≤p.2∧p.2<64:=fun p hp=>by
  have l4:=n1 p hp;simp only[LS,zZ,kg,yI] at l4;omega
 refine enter (n:=66) (res:=#[.cell 6 144, .tmp 7, .tmp 8]) Tryz.func128 Z Z Z Z<|Ab<|cg<|Dz c0 103 fun w1 b3 c1 e3 e4=>?_;refine Dz c1 104 fun w2 b4 c2 c6 f=>?_;refine Dz c2 105 fun s6 b5 j9 c3 r=>?_;refine Db j9 106 GZ fun s7 b6 k0 b8 g=>za Z<|za Z<|Ac<|Ab<|Ab<|cg<|vq (AD Cq Z e4.mv.Ap Z)<|vq (AD BB Z f.mv.Ap Z)<|ve (Al k0 1 (Ay.call hG Z (Tt hs.ok hu.mv.now))) ?_;rintro r1 s8 ⟨k1,b0,p3,rfl⟩;rw[h7];refine vq (Bq Z)<|zm Z ?_;replace o:=((((o.mv e3).mv c6).mv c3).mv b8).mv b0;replace hu:=((((hu.mv e3).mv c6).mv c3).mv b8).mv b0;replace hi:=((((hi.mv e3).mv c6).mv c3).mv b8).mv b0;replace ht:=((((ht.mv e3).mv c6).mv c3).mv b8).mv b0;replace e4:=(((e4.mv c6).mv c3).mv b8).mv b0;replace f:=((f.mv c3).mv b8).mv b0;replace r:=(r.mv b8).mv b0;replace g:=g.mv b0;apply vY false 4 (fun y w'=>(y=false→idx.length=tos.length∧∀(j:Nat) (i:Int),idx[j]?=some i→0≤i∧i<(x.place.length:Nat))∧∃c',Dh c w [] c' w'∧Bi Bg c' w' [0] u x.place∧Bi Bw c' w' [0] b1 idx∧Bi Bg c' w' [0] b9 tos∧Ar c' w' 104 b4 [I x.id,I x.len,I x.gen,u] 144∧Ar c' w' 105 b5 [I a,b1,b9] 150∧Ar c' w' 106 b6 [I 0,I 0,I 0, .slice none 0 0] 144) BT ((fun _=>⟨true,fun h=>(by cases h),_,o,hu,hi,ht,f,r,g⟩))
 ·intro p0;refine wo<|vq (AD BB rfl f.Ap rfl)<|wo<|vq (AD CO rfl r.Ap rfl)<|wo<|ve (Al k1 1 (Ay.call uf rfl (rV (a:=a) hu.now hi.now ht.now))) ?_;rintro r2 s9 ⟨o1,o5,p4,⟨j7,rfl,k7⟩⟩;refine wo<|vq (Bq rfl) ?_;exact WR.nil ⟨_,rfl,Sub.drop _ 4 _ rfl rfl,⟨fun h=>k7 (by cases j7 with|true=>rfl|false=>cases h),_,o.mv,hu.mv,hi.mv,ht.mv,f.mv,r.mv,g.mv⟩⟩
 clear o hu hi ht e4 f r g;rintro n6 u2 ⟨k6,k3,o,hu,hi,ht,f,r,g⟩;refine Ac<|AS Z (fun h1=>?_) fun h1=>?_
 ·refine Ab<|cg<|vq (AD BB Z g.Ap Z)<|WR.AI (Am BB Z Z g Z Z AG) ?_;rintro _ u0 ⟨g,o6⟩;refine za Z<|za Z<|Ac<|MV Z (Br BB Z g.Ap Z) (Cp.tmp Z) (Cp.tmp Z) ?_;exact⟨_,o.mv.out,_,_,_,_,_,_,Z,Z,fun h=>(by cases h)⟩
 obtain⟨o9,h4⟩:=k6 (by simpa using h1);refine Aj<|Ab<|cg<|vq (Aa Ck Z)<|vq (Ah BV Z f.Ap Z)<|ve (Al k3 153 (Ay.call QH Z (FN hu.now oo))) ?_;rintro r3 u1 ⟨k2,o7,n0,l⟩;replace l:=l.Cl n0;obtain⟨j6,k4,rfl,_⟩:=l.own.len;refine vq (Aa Ck Z)<|WR.AI (AJ BV Z Z ra ra f.mv Z) ?_;rintro _ n4 ⟨f,k5⟩;refine Ac<|Ab<|Ab ?_;have C:Ao k2 n4 154 226 2 (.slice none 0 0) 0 []:=Ao.nil _ _ _ _ _;obtain⟨c4,l9⟩:∃c4,c4=Value.slice j6 x.place.length k4:=⟨_,Z⟩;replace l:=l.mv k5;rw[←l9] at l f;refine cg<|vq (Aa Ly Z)<|vq (Ah BL Z r.mv.Ap Z)<|vq (BI Bu) ?_;refine zm Z<|Ac<|Ai<|WC.loop (σ:=Nat×Value×List (Int×Int)×List (Int×Int)) (fun R=>[(4,P1 b4),(5,P1 b5),(6,P1 b6),(7,R.2.1),(8,I 0),(27,b1),(28,I idx.length),(29,I R.1)]) (fun R w'=>(R.1≤idx.length∧R.2.2.2.length≤R.1∧R.2.2.1.length=x.place.length∧∀p∈R.2.2.1,(-1≤p.1∧p.1<12)∧0≤p.2∧p.2<64)∧∃c',Dh c w [] c' w'∧Bi Bw c' w' [0] b1 idx∧Bi Bg c' w' [0] b9 tos∧Ar c' w' 104 b4 [I x.id,I x.len,I x.gen,c4] 144∧Ar c' w' 105 b5 [I a,b1,b9] 150∧Ar c' w' 106 b6 [I 0,I 0,I 0, .slice none 0 0] 144∧Ao c' w' 153 226 2 c4 R.2.2.1.length (R.2.2.1.flatMap FE)∧Ao c' w' 154 226 2 R.2.1 R.2.2.2.length (R.2.2.2.flatMap FE)) (fun R=>idx.length-R.1) (0, .slice none 0 0,x.place,[]) Aq ⟨⟨Nat.zero_le _,Nat.le_refl _,Z,l5⟩,_,o.mv,hi.mv,ht.mv,f,r.mv,g.mv,l,C⟩ ?_;clear o hu hi ht f r g l C;rintro⟨k,j1,J,e2⟩ j2 ⟨⟨hk,l1,e5,c8⟩,c5,o,hi,ht,f,r,g,l,C⟩;dsimp only at hk l1 e5 c8 l C;have n2:=l.Av;have q1:=l.Aw;have q2:=C.Av;have q3:=C.Aw;refine Ab<|cg<|vq (AE Z Z)<|Ac<|Ab<|AS Z (fun k9=>?_) fun k9=>?_
 ·have h5:k<idx.length:=oo;have h6:k<tos.length:=oo;have l2:=h4 k _ (aa h5);have h2:=(BP hi h5 dd).1;have e8:=(BP ht h6 dd).1;obtain⟨t,l3⟩:∃t:Nat,idx[k]=(t:Int):=⟨idx[k].toNat,by omega⟩;rw[l3] at h2 l2;obtain⟨q,h8⟩:∃q,q=tos[k]:=⟨_,Z⟩;have p1:=l8 q (by rw[h8];exact oy h6);rw[←h8] at e8;have c7:t<J.length:=oo;have e7:DF c5 j2 [153] (Bh c4 2 t) [I J[t].1,I J[t].2]:=l.elem (fun _=>rfl) dd c7;have h3:=e7;obtain⟨e6,l6⟩:∃e6,e6=J[t].1:=⟨_,Z⟩;obtain⟨pt,l7⟩:∃pt,pt=J[t].2:=⟨_,Z⟩;rw[←l6,←l7] at e7 h3;refine Aj<|Ab<|Ai<|Ab<|cg<|zm Z<|vq (ER Bu) ?_;refine vq (Bl Au Z h2.CY)<|za Z<|za Z<|Ac<|Ab<|Ab<|cg<|vq (Aa Ck Z)<|vq (Ah BV Z f.Ap Z)<|zm Z<|vq (Bj CQ l Z Z oo oo)<|vq (AR CE Z)<|vq (EA Au Z e7.CY Z)<|vq (Bm Z Z)<|Ac ?_;refine AS Z (fun l0=>?_) fun l0=>?_
  ·refine cg<|zm Z<|vq (Aa Ck Z)<|vq (Ah BV Z f.Ap Z)<|zm Z<|vq (Bj CQ l Z Z oo oo)<|vq (Dg DK Z h3.CY Z) ?_;refine ve (Bb c5 147 CQ Z Z Z Z Z) ?_;rintro _ r5 ⟨n5,n7,rfl,b2,h0⟩;refine ve (AN CQ Z Z C.mv (Src.An Aa3 h0.Ap.An Z AG) EY Fb) ?_;rintro j0 r6 ⟨j8,b7,C⟩;clear h0;refine za Z<|Ac<|AY j8 [153] [0,1,0,0,1,0,0,1,0,3] [0,1,2,3,4,5,6,7,8,9] fun r7 a1 U=>?_;refine vd Z (fun _=>Aa Ck Z)<|vc Z U.kp (f.mv.kb BV Z Z)<|AK Z Z<|vd Z (fun _=>Aa JZ Z)<|vc Z U.kp (r.mv.kb BV Z Z)<|AK Z Z<|vd Z (fun _=>ER CQ) ?_;refine vc Z U.kp (e8.mv.ka DK Z Z)<|vd Z (fun _=>Bj CQ l.mv Z Z oo oo) ?_;replace l:=((l.mv b2).mv b7).mv a1;refine WD.wild Z Z Z ((Oz (x:= .tmp 57) (y:= .tmp 56) DK l (j:=t) c7 (by rw[pv];rfl) Z Z (fun u hu↦by simp only[zN,Abz,Aeo] at hu;rcases hu with rfl|rfl<;>rfl))) ?_;rintro _ r8 ⟨n8,a6,l⟩;try replace U:=U.tr a6 Z
   have e1:=ql (q:=q) l c7;have e0:(J.set t q).length=x.place.length:=by rw[zF];exact e5
   have c9:∀p∈J.set t q,(-1≤p.1∧p.1<12)∧0≤p.2∧p.2<64:=fun p hp=>by
    rcases Aak hp with h|h
    ·exact c8 p h
    rw[h];omega
   refine WD.nil ?_;clear U;refine cg<|vq (AH Z Z Ad Ad)<|zm Z<|Ac ?_;replace o:=(((o.mv b2).mv b7).mv a1).mv a6;replace hi:=(((hi.mv b2).mv b7).mv a1).mv a6;replace ht:=(((ht.mv b2).mv b7).mv a1).mv a6;replace f:=(((f.mv b2).mv b7).mv a1).mv a6;replace r:=(((r.mv b2).mv b7).mv a1).mv a6;replace g:=(((g.mv b2).mv b7).mv a1).mv a6;replace C:=(C.mv a1).mv a6
   first
   |exact⟨(k+1,j0,J.set t q,e2++[(e6,pt)]),Aq,⟨⟨by dsimp only;omega,by dsimp only;rw[List.length_append,List.length_singleton];omega,e0,c9⟩,_,o,hi,ht,f,r,g,e1,by dsimp only;rw[List.length_append,List.flatMap_append];exact C⟩,by show idx.length-(k+1)<idx.length-k;omega⟩
   |exact⟨(k+1,j1,J.set t q,e2),Aq,⟨⟨by dsimp only;omega,by dsimp only;omega,e0,c9⟩,_,o,hi,ht,f,r,g,e1,C⟩,by show idx.length-(k+1)<idx.length-k;omega⟩
  refine Aj<|AY c5 [153] [0,1,0,0,1,0,0,1,0,3] [0,1,2,3,4,5,6,7,8,9] fun r9 a7 U=>?_;refine vd Z (fun _=>Aa Ck Z)<|vc Z U.kp (f.mv.kb BV Z Z)<|AK Z Z<|vd Z (fun _=>Aa JZ Z)<|vc Z U.kp (r.mv.kb BV Z Z)<|AK Z Z<|vd Z (fun _=>ER CQ) ?_;refine vc Z U.kp (e8.mv.ka DK Z Z)<|vd Z (fun _=>Bj CQ l.mv Z Z oo oo) ?_;replace l:=l.mv a7;refine WD.wild Z Z Z ((Oz (x:= .tmp 57) (y:= .tmp 56) DK l (j:=t) c7 (by rw[pv];rfl) Z Z (fun u hu↦by simp only[zN,Abz,Aeo] at hu;rcases hu with rfl|rfl<;>rfl))) ?_;rintro _ s0 ⟨n9,a8,l⟩;try replace U:=U.tr a8 Z
  have e1:=ql (q:=q) l c7;have e0:(J.set t q).length=x.place.length:=by rw[zF];exact e5
  have c9:∀p∈J.set t q,(-1≤p.1∧p.1<12)∧0≤p.2∧p.2<64:=fun p hp=>by
   rcases Aak hp with h|h
   ·exact c8 p h
   rw[h];omega
  refine WD.nil ?_;clear U;refine cg<|vq (AH Z Z Ad Ad)<|zm Z<|Ac ?_;replace o:=(o.mv a7).mv a8;replace hi:=(hi.mv a7).mv a8;replace ht:=(ht.mv a7).mv a8;replace f:=(f.mv a7).mv a8;replace r:=(r.mv a7).mv a8;replace g:=(g.mv a7).mv a8;replace C:=(C.mv a7).mv a8
  first
  |exact⟨(k+1,j0,J.set t q,e2++[(e6,pt)]),Aq,⟨⟨by dsimp only;omega,by dsimp only;rw[List.length_append,List.length_singleton];omega,e0,c9⟩,_,o,hi,ht,f,r,g,e1,by dsimp only;rw[List.length_append,List.flatMap_append];exact C⟩,by show idx.length-(k+1)<idx.length-k;omega⟩
  |exact⟨(k+1,j1,J.set t q,e2),Aq,⟨⟨by dsimp only;omega,by dsimp only;omega,e0,c9⟩,_,o,hi,ht,f,r,g,e1,C⟩,by show idx.length-(k+1)<idx.length-k;omega⟩
 have h9:Bi Bg c5 j2 [153] c4 J:=Kl l oo (fun p hp=>by have:=c8 p hp;exact⟨⟨by omega,by omega⟩,by omega,by omega⟩);refine WC.exit Z<|Ab<|Ab<|cg<|vq (Aa Ck Z)<|vq (Ah BV Z f.Ap Z)<|ve (Al c5 1 (Ay.call pn Z (Vm h9.now))) ?_;rintro r4 s3 ⟨o0,o2,p2,rfl⟩;refine vq (Bq Z)<|Ac<|AS Z (fun k8=>?_) fun k8=>?_
 ·refine Ab<|cg<|vq (AD BB Z g.mv.Ap Z)<|WR.AI (Am BB Z Z g.mv Z Z AG) ?_;rintro _ s4 ⟨g,o3⟩;refine za Z<|za Z<|Ac<|MV Z (Br BB Z g.Ap Z) (Cp.tmp Z) (Cp.tmp Z) ?_;exact⟨_,o.mv.out,_,_,_,_,_,_,Z,Z,fun h=>(by cases h)⟩
 refine Aj<|Ab<|cg<|vq (AD BB Z f.mv.Ap Z)<|zm Z<|WR.AI (Am BB Z Z g.mv Z Z AG) ?_;rintro _ s5 ⟨g,o4⟩;refine za Z<|za Z<|Ac<|MV Z (Br BB Z g.Ap Z) (Cp.tmp Z) (Cp.tmp Z) ?_;exact⟨_,o.mv.out,_,_,_,_,_,_,Z,n2,fun _=>⟨Z,Z,Z,⟨J,Fq.Ej h9.mv o.mv.dN,e5,c8⟩,h4⟩⟩
end Go.Proofs.K
namespace Silo
open Go Go.Eng
structure Km (n m:Nat) (P:Ek) (A:Cr) (J:JQ) (b:Bk):Prop where
 lay:HK n m 8000 P.A A
 j:Rs n J
 used:J.used≤P.J.used+200
 may:Dv P.s b=true
 tags:b.tags=[]
 size:b.stripes.length≤P.b.stripes.length+1
theorem Km.none{n m:Nat}{P:Ek}(f:FF n m P.A)(i:Rs n P.J)(g:Dv P.s P.b=true)(ht:P.b.tags=[]):Km n m P P.A P.J P.b:=⟨(HK.refl f).more oo,i,by omega,g,ht,by omega⟩
def dQ(y:Fx)(idx:List Int):List (Fx×Nat):=idx.map fun i=>(y,i.toNat)
def Xk(T:List DE)(t:DE):List DE:=T.take (Io T t.Ak)++t::T.drop (Io T t.Ak)
theorem ZO{α:Type}{p:α→Bool}:∀{l:List α} {k:Nat} (hk:k<l.length),k<BS p l→p l[k]=true
 |a::r,0,_,h=>by
  cases hp:p a with
  |true=>exact hp
  |false=>simp[BS,Aan,hp] at h
 |a::r,k+1,hk,h=>by
  cases hp:p a with
  |true=>
   simp only[BS,Aan,hp,Afa,yZ] at h;have:=ZO (p:=p) (l:=r) (k:=k) (by simpa using hk) (by unfold BS;omega);simpa using this
  |false=>simp[BS,Aan,hp] at h
theorem ZP{α:Type}{p:α→Bool}:∀{l:List α} (h:BS p l<l.length),p l[BS p l]=false
 |a::r,h=>by
  by_cases hp:p a=true
  ·have e:BS p (a::r)=BS p r+1:=by simp[BS,Aan,hp]
   simp only[e,List.getElem_cons_succ];exact ZP (l:=r) (by rw[e] at h;simpa using h)
  ·have e:BS p (a::r)=0:=by simp[BS,Aan,hp]
   simp only[e,Aeu];simpa using hp
theorem Pw{T:List DE}{t x:DE}:x∈Xk T t↔x=t∨x∈T:=by
 have f:x∈T↔x∈T.take (Io T t.Ak)∨x∈T.drop (Io T t.Ak):=by rw[←zH,zM]
 rw[Xk,zH,zN,f];constructor
 ·rintro(h|h|h)
  ·exact .inr (.inl h)
  ·exact .inl h
  ·exact .inr (.inr h)
 ·rintro(h|h|h)
  ·exact .inr (.inl h)
  ·exact .inl h
  ·exact .inr (.inr h)
theorem ZQ(T:List DE)(t:DE):(Xk T t).length=T.length+1:=by
 have:=OJ (fun x:DE=>Op.bytesLess x.Ak t.Ak) T;have f:Io T t.Ak≤T.length:=this;simp only[Xk,bU,yZ,ly,lz];omega
theorem TH{T:List DE}:Hc T↔(T.map DE.Ak).Pairwise L:=by
 rw[Aa8];constructor
 ·intro h i j hi f g;simp only[yF] at hi f;simpa using h i j hi f g
 ·intro h i j hi f g;have:=h i j (by simpa using hi) (by simpa using f) g;rwa [Ach,Ach] at this
theorem bz{T:List DE}(R:Hc T){t:DE}(J:∀x∈T,x.Ak≠t.Ak):Hc (Xk T t):=by
 have hk:Io T t.Ak≤T.length:=OJ _ T;rw[TH];rw[Xk,zB,Rw];have o:(T.take (Io T t.Ak)).map DE.Ak=(T.map DE.Ak).take (Io T t.Ak):=Acv;have r:(T.drop (Io T t.Ak)).map DE.Ak=(T.map DE.Ak).drop (Io T t.Ak):=Afk;rw[o,r];have:=Yh (x:=T.map DE.Ak) (t:=t.Ak) (k:=Io T t.Ak) (TH.1 R) (by simpa using hk) (fun j i I=>by
  simp only[yF] at i;simp only[Ach];exact ZO (p:=fun x:DE=>Op.bytesLess x.Ak t.Ak) i I) (fun g=>by
  simp only[yF] at g;simp only[Ach];have C:¬L T[Io T t.Ak].Ak t.Ak:=by
   have:=ZP (p:=fun x:DE=>Op.bytesLess x.Ak t.Ak) (l:=T) g;intro f;have e:Op.bytesLess T[Io T t.Ak].Ak t.Ak=false:=this;unfold L at f;rw[e] at f;cases f
  exact mu C (J _ (oy g)))
 simpa using this
def FP(T f:List DE):Option DE:=f.find? fun x=>(CR T x.Ak).isNone
def KV(k:Int):Bool:=decide (k=4)||decide (k=5)||decide (k=6)||decide (k=10)
theorem gj{T f:List DE}{k:Nat}(hk:k<f.length)(h:∀x∈f.take k,(CR T x.Ak).isNone=false)(hx:(CR T f[k].Ak).isNone=true):FP T f=some f[k]:=by
 have e:f=f.take k++f[k]::f.drop (k+1):=by rw[←zO hk,zM]
 rw[FP]
 conv=>lhs;rw[e]
 rw[List.find?_append,List.find?_eq_none.2 (fun x hx=>by rw[h x hx];simp),Option.none_or,List.find?_cons_of_pos (p:=fun x:DE=>(CR T x.Ak).isNone) hx]
theorem TI{T f:List DE}(h:∀x∈f,(CR T x.Ak).isNone=false):FP T f=none:=List.find?_eq_none.2 fun x hx=>by rw[h x hx];simp
end Silo
namespace Go.Proofs.K
open Go Go.Eng Go.RowKit Silo TryzT
theorem kV{w0:World}{c0:Nat→Nat}{b6 o:Nat}{a:Int}{j b5:Value}{idx:List Int}{y:Fx}(g:Ar c0 w0 0 b6 [I a,j,b5] 150)(f:Ar c0 w0 0 o (BQ y) 144)(hi:Bi Bw c0 w0 [0] j idx)(c2:∀i∈idx,0≤i):
 JW QP 129 [P1 b6,P1 o] st [128] [76,0,94] (dQ y idx) c0 w0:=by
 intro l J c5 c1 W K p C a7 c8 hy b8;have U:AA K 0=false:=Bo C ss;have e0:=hi.now.Av;have e1:=hi.now.small;have e3:=y.2.one;replace g:=g.mv p U;replace f:=f.mv p U;replace hi:=hi.mv p (BC C ss);have hJ:JC (J []) [128] c1 W:=⟨b8,fun _ _ _ _ h m=>a7 _ _ _ _ _ h m⟩;clear p U C;show Calls _ _ [_,_,_].toArray _ _
 refine enter (n:=19) (res:=#[]) Tryz.func129 Z Z Z Z<|Ab<|cg<|vq (Aa Ly Z)<|vq (Ah BL Z g.Ap Z)<|vq (BI Bu) ?_;refine zm Z<|Ac<|Ai<|WC.loop (σ:=Nat) (fun k=>[(0, .func (.yield l) #[] #[]),(1,P1 b6),(2,P1 o),(7,j),(8,I idx.length),(9,I k)]) (fun k w'=>k≤idx.length∧∃c',Ar c' w' 0 b6 [I a,j,b5] 150∧Ar c' w' 0 o (BQ y) 144∧Bi Bw c' w' [0] j idx∧JC (J (dQ y (idx.take k))) [128] c' w') (fun k=>idx.length-k) 0 Aq ⟨by omega,_,g,f,hi,hJ⟩ ?_;clear hJ g f hi;rintro k e2 ⟨hk,c7,g,f,hi,hJ⟩;refine Ab<|cg<|vq (AE Z Z)<|Ac<|Ab<|AS Z (fun b9=>?_) fun b9=>?_
 ·have a6:k<idx.length:=oo;have a8:=(BP hi a6 dd).1;have c9:=c2 _ (oy a6);obtain⟨t,b0⟩:∃t:Nat,idx[k]=(t:Int):=⟨idx[k].toNat,by omega⟩;have b1:dQ y (idx.take (k+1))=dQ y (idx.take k)++[(y,t)]:=by
   rw[dQ,yG a6,zB,dQ,b0];rfl
  rw[b0] at a8;refine Aj<|Ab<|Ai<|Ab<|cg<|vq (ER Bu) ?_;refine vq (Bl Au Z a8.CY)<|za Z<|Ac<|Ab<|cg<|zm Z<|vq (AD BB Z f.Ap Z)<|zm Z ?_;have c3:dQ y (idx.take k)++[(y,t)]<+:dQ y idx:=by
   rw[←b1];exact List.IsPrefix.map _ (List.take_prefix _ _)
  obtain⟨c6,R,b2⟩:=hy _ _ _ _ hJ.now c3;refine ve (Nk Z Z b2) ?_;rintro _ c4 ⟨b,b7,rfl,r,b4,b3⟩;replace g:=g.mv r (Bo R ss);replace f:=f.mv r (Bo R ss);replace hi:=hi.mv r (BC R ss);clear hJ b2;refine vq (Bq Z)<|Ac<|AS Z (fun a1=>?_) fun a1=>?_
  ·refine TO Z ?_;exact⟨_, .inr ⟨_,b3 (by simpa using a1)⟩⟩
  have hJ:JC (J (dQ y (idx.take (k+1)))) [128] b7 c4:=⟨by rw[b1];exact b4 (by simpa using a1),fun _ _ _ _ h m=>a7 _ _ _ _ _ h m⟩;clear b4 b3 r;refine Aj<|cg<|vq (AH Z Z Ad Ad)<|zm Z<|Ac ?_;exact⟨k+1,Aq,⟨by omega,_,g,f,hi,hJ⟩,by omega⟩
 have e:k=idx.length:=oo;subst e;rw[Ui] at hJ;refine WC.exit Z<|⟨_,_,Z,Z,?_⟩;exact⟨Z,_, .inl hJ.now⟩
theorem oj{b7 i:Nat}{vl:Value}{O:List Tx}{y:Fx}(g:Ar c w 0 b7 [vl] 38)(f:Bi CL c w [0] vl O)(hi:i<O.length):
 Calls QP 130 #[.agg (BQ y).toArray,I i,P1 b7] w (AP fun v w'=>Below w.heap.size w w'∧v=St (O.getD i [])):=by
 have j:=Dh.start c w [];replace g:=g.Kc (J:=[]) Z;replace f:=f.Ca (J:=[]) Z;generalize AT c []=c0 at j g f;have l:=(BP f hi dd).1;have r:=f.now.Av;have t:=f.now.Aw;have C:=y.2.one;have R:=f.now.small;refine enter (n:=10) (res:=#[.tmp 5]) Tryz.func130 Z Z Z Z<|Ab<|cg<|Dz c0 103 fun w1 b3 c1 o p=>?_;refine za Z<|Ac<|Ab<|cg<|vq (Ah CB Z g.mv.Ap Z)<|zm Z<|vq (ER BE) ?_;refine vq (Bl BK Z l.mv.CY)<|za Z<|Ac<|Az Z Z<|⟨j.mv.below,?_⟩;rw[gy,aa hi];rfl
theorem rW{b7:Nat}{vl:Value}{O:List Tx}{y:Fx}{idx:List Int}(j:Ar c w 107 b7 [vl] 38)(g:Bi CL c w [0] vl O)(l:∀i∈idx,0≤i∧i<(O.length:Nat)):
 ∀c1 w1,AZ c w Dw c1 w1→∀q∈dQ y idx,Calls QP 130 (#[.agg (BQ q.1).toArray,I q.2]++#[P1 b7]) w1 (AP fun v w'=>Below w1.heap.size w1 w'∧v=St (O.getD q.2 [])):=fun c1 w1 hJ q o=>by
 obtain⟨i,hi,rfl⟩:=zc.1 o;have:=l i hi;have f:=hJ.rR;exact oj ((j.Kc Z).mv f Z) (Fq.mv (g.Ca Z) f Z) (by show i.toNat<O.length;omega)
def wx(x:CZ)(idx:List Int)(c':Nat→Nat)(w':World)(g i j:Int)(f:Value)(e:Int):Prop:=e=0→wv x idx c' w' g i j f
theorem wx.mv{x:CZ}{idx:List Int}{c c':Nat→Nat}{w w':World}{g i j:Int}{f:Value}{e:Int}{I:List Nat}(h:wx x idx c w g i j f e)(m:Mv c w c' w' I:=by exact Go.Eng.Jb)(hi:Bd [153] I=true:=by rfl):wx x idx c' w' g i j f e:=fun J=>by
 obtain⟨l,o,p,⟨R,r,t⟩,C⟩:=h J;exact⟨l,o,p,⟨R,r.mv m hi,t⟩,C⟩
theorem ZR{K:List Nat}{s:Cn}{x:CZ}{u g i:Value}{a:Int}{idx:List Int}{tos:List (Int×Int)}(hs:Small s)(hu:Bi Bg c w K u x.place)(t:DM s x=true)(hi:Rd Bw w g idx)(ht:Rd Bg w i tos)(C:∀p∈tos,(0≤p.1∧p.1<12)∧0≤p.2∧p.2<64)(r:idx.length≤1000):
 Calls QP 128 #[.agg (DO s).toArray, .agg #[I x.id,I x.len,I x.gen,u], .agg #[I a,g,i]] w (AP fun v w'=>∃c',Mv c w c' w' []∧∃j l o f J e,v= .tuple #[.agg #[I j,I l,I o,f],J,I e]∧f.oneCell'=true∧wx x idx c' w' j l o f e):=oi (c:=c) hs hu.now t hi ht C r
theorem gk{p pa pj n m:Nat}{vS vT vG u e2 j0 vl:Value}{P:Ek}{x:CZ}{a:Int}{idx:List Int}{tos:List (Int×Int)}{O:List Tx}{K:List Nat}(e7:BU c w p pa pj vS vT vG P)(hs:Small P.s)(k7:0<n∧n≤12)(k6:1024≤m∧m≤2048)(k0:FF n m P.A)(hc:P.A.changes≤800000000)(h9:Rs n P.J)(b9:Dv P.s P.b=true)(ht:P.b.tags=[])(s8:P.b.stripes.length≤800)(r1:P.J.used+3224≤32704)
 (hu:Bi Bg c w [94] u x.place)(hi:Bi Bw c w K e2 idx)(a1:Bi Bg c w K j0 tos)(t:Bi CL c w K vl O)(h7:Bd K Dw=true)(hx:DM P.s x=true)(l1:∀q∈tos,(0≤q.1∧q.1<12)∧0≤q.2∧q.2<64)(s4:idx.length≤5)(o1:O.length=P.s.k+P.s.m∧∀y∈O,y.length=P.s.size):
 Calls QP 66 #[P1 p, .agg #[I x.id,I x.len,I x.gen,u], .agg #[I a,e2,j0],vl] w (AP fun v w'=>∃c',Mv c w c' w' Dw∧∃j2 j3 j4 f l7 e h3 h4 h2,BU c' w' p pa pj h3 h4 h2 {P with A:=j2,J:=j3,b:=j4,failed:=f}∧Km n m P j2 j3 j4∧v= .tuple #[.bool l7,I e]):=by
 have hJ:=AZ.start c w Dw;have w8:=hu.now.Av;have u4:=hi.now.Av;have w7:=a1.now.Av;have u5:=t.now.Av;have u6:=t.now.Aw;replace e7:=e7.Ca (K:=Dw);replace hu:=WY (L:=Dw) hu Z;replace hi:=hi.Ca h7;replace a1:=a1.Ca h7;replace t:=t.Ca h7;generalize s3:AT c Dw=c0 at hJ e7 hu hi a1 t;obtain⟨w4,q0,w5,w6,q1⟩:=id hs;obtain⟨u7,u9,v7,v8,w0,w3⟩:=CW hx;have s5:P.s.k*P.s.size≤3*120:=yQ q0 q1;obtain⟨U,b1,b4,b3⟩:=e7;refine enter (n:=45) (res:=#[.tmp 8, .tmp 9]) Tryz.func66 Z Z Z Z<|Ab<|cg<|Dz c0 105 fun w1 b5 c1 r3 k4=>?_;refine Dz c1 106 fun w2 b6 c2 r7 c3=>?_;refine MJ c2 107 fun x7 b7 j6 r8 c9=>?_;refine za Z<|za Z<|Ac<|Ab<|WC.mono (N:=(fun j7 w'=>∃(c':Nat→Nat) (a6 a7 a8:Int) (C:Value) (e:Int) (b0:Nat),Sub [(4000000, .tuple #[]),(0,P1 p),(6,P1 b6),(7,P1 b7),(8, .bool false),(9,I 0),(10,P1 b0),(12,I e)] j7∧C.oneCell'=true∧wx x idx c' w' a6 a7 a8 C e∧AZ c w Dw c' w'∧Ar c' w' 90 p (DH pa pj vS vT vG P) 109∧By c' w' pa P.A∧DI c' w' pj pa P.J∧dg c' w' [94] vS vT vG P.b∧Bi Bw c' w' [0] e2 idx∧Bi CL c' w' [0] vl O∧Ar c' w' 106 b6 [I a,e2,j0] 150∧Ar c' w' 107 b7 [vl] 38∧Ar c' w' 110 b0 [I a6,I a7,I a8,C] 144)) ?_ ?_
 ·refine Rm j6 [] [0,0,0,1,1,1,2,0,0,0,0,2,3,0,0] (.quiet 0 (.quiet 1 (.quiet 2 (.quiet 3 (.quiet 4 (.quiet 5 (.two 6 (.quiet 7 (.quiet 8 (.quiet 9 (.quiet 10 (.one 11 (.one 12 (.quiet 13 (.quiet 14 .nil)))))))) 11 (.one 6 (.quiet 7 (.quiet 8 (.quiet 9 (.quiet 10 (.one 12 (.quiet 13 (.quiet 14 .nil))))))))))))))) fun x8 r9 o=>?_;refine WT.val Z Z Z (fun _=>Bx Z) Z<|WT.val Z Z Z (fun _=>Ae Z) Z<|WT.val Z Z Z (fun _=>Aa Eb Z) Z<|WT.Iw Z Z Z o.kp (fun W o2=>Cy Cq Z (U.mv.kp o2 Z).Ap (yV Z)) Z<|WT.Iw Z Z Z o.kp (k4.mv.kn BB Z Z) Z<|WT.Iw Z Z Z o.kp (c3.mv.kn CO Z Z) Z<|WT.two ?_ ?_
  ·refine WS.AW Z Z Z (Ay.call oP Z (ZR (x:=x) (a:=a) hs hu.mv hx hi.mv.now a1.mv.now l1 oo)) Z ?_;rintro q2 x9 ⟨n0,n7,⟨a6,a7,a8,C,q3,e,rfl,e1,c6⟩⟩;refine o.AX n7 fun o=>WT.val Z Z Z (fun _=>Bx Z) Z<|WT.val Z Z Z (fun _=>Ag Z Z) Z<|WT.val Z Z Z (fun _=>Ag Z Z) Z<|WT.val Z Z Z (fun _=>Ag Z Z) Z<|WT.one<|WS.AW Z Z Z (Cj n0 110 GZ) Z ?_;rintro _ y0 ⟨b0,q7,rfl,n8,R⟩;refine o.AX n8 fun o=>WT.one<|WS.wild Z Z Z (Am BB Z Z R Z Z AG) ?_;rintro _ y1 ⟨R,s0⟩;refine WT.val Z Z Z (fun _=>BD Z) Z<|WT.val Z Z Z (fun _=>BD Z) Z<|WT.nil ?_;exact⟨_,a6,a7,a8,C,e,_,Aq,e1,c6.mv,hJ.mv,U.mv,b1.mv,b4.mv,b3.mv,hi.mv,t.mv,c3.mv,c9.mv,R⟩
  refine WS.AW Z Z Z (Cj j6 110 GZ) Z ?_;rintro _ y2 ⟨b0,q8,rfl,n9,R⟩;refine o.AX n9 fun o=>WT.one<|WS.AW Z Z Z (Ay.call oP Z (ZR (x:=x) (a:=a) hs hu.mv hx hi.mv.now a1.mv.now l1 oo)) Z ?_;rintro q2 y3 ⟨q9,o0,⟨a6,a7,a8,C,q3,e,rfl,e1,c6⟩⟩;refine o.AX o0 fun o=>WT.val Z Z Z (fun _=>Bx Z) Z<|WT.val Z Z Z (fun _=>Ag Z Z) Z<|WT.val Z Z Z (fun _=>Ag Z Z) Z<|WT.val Z Z Z (fun _=>Ag Z Z) Z<|WT.one<|WS.wild Z Z Z (Am BB Z Z R.mv Z Z AG) ?_;rintro _ x4 ⟨R,r4⟩;refine WT.val Z Z Z (fun _=>BD Z) Z<|WT.val Z Z Z (fun _=>BD Z) Z<|WT.nil ?_;exact⟨_,a6,a7,a8,C,e,_,Aq,e1,c6.mv,hJ.mv,U.mv,b1.mv,b4.mv,b3.mv,hi.mv,t.mv,c3.mv,c9.mv,R⟩
 clear hJ U b1 b4 b3 hu hi a1 t k4 c3 c9;rintro j7 j1 ⟨h5,a6,a7,a8,C,e,b0,p6,e1,c6,hJ,U,b1,b4,b3,hi,t,c3,c9,R⟩;refine WC.sub p6<|Ab<|Ab<|cg<|zm Z<|vq (Bm Z Z)<|Ac<|AS Z (fun o5=>?_) fun o5=>?_
 ·refine Ab<|cg<|za Z<|za Z<|Ac<|Dn Z Z Z ?_;exact⟨_,hJ.out,P.A,P.J,P.b,P.failed,false,0,vS,vT,vG,BU.out ⟨U,b1,b4,b3⟩ hJ,Km.none k0 h9 b9 ht,Z⟩
 have o8:e=0:=oo;obtain⟨rfl,rfl,rfl,⟨h1,h0,s7,k9⟩,p0⟩:=c6 o8;obtain⟨y,hy⟩:∃y:Fx,y=(⟨x.id,x.len,x.gen,h1⟩,⟨C,e1⟩):=⟨_,Z⟩;have k5:Ar h5 j1 110 b0 (BQ y) 144:=by rw[hy];exact R
 have h8:∀i∈idx,0≤i∧i<(O.length:Nat):=fun i hi=>by
  obtain⟨j,p2⟩:=Aae hi;have:=p0 j i p2;omega
 have l0:∀q∈dQ y idx,q.1=y∧q.2<h1.length:=fun q e0=>by
  obtain⟨i,hi,rfl⟩:=zc.1 e0;have:=h8 i hi;exact⟨Z,by show i.toNat<_;omega⟩
 have p4:∀q∈dQ y idx,nV P.s (fun q=>O.getD q.2 []) q:=fun q e0=>by
  obtain⟨h6,g2⟩:=l0 q e0;have j8:q.2<O.length:=oo;have j9:(O.getD q.2 []).length=P.s.size:=by
   rw[gy,aa j8];exact o1.2 _ (oy j8)
  refine⟨by rw[h6,hy];exact g2,fun r g=>?_,?_,j9⟩
  ·rw[h6,hy] at g;have:=k9 r g;omega
  rw[h6,hy];simp only[Li,kg,yI];rw[j9];omega
 have s6:(dQ y idx).length=idx.length:=yF _;refine Aj<|Ab<|cg<|vq (CI Z)<|za Z<|Ac<|Ab<|Ab<|cg<|zm Z<|zm Z<|vq (CI Z) ?_;have o9:Bi Bw (AT h5 Dw) j1 [0] e2 idx:=hi.Ca Z;have p7:Bi Bg (AT h5 Dw) j1 [0] C h1:=h0.Ca Z;refine ve (Ay.call sQ Z (Rh (L:=dQ y idx) (T:=fun q↦O.getD q.2 []) ⟨U,b1,b4,b3⟩ hs k7 ⟨by omega,k6.2⟩ k0 oo oo tf tg (kV (c3.Kc Z) (k5.Kc Z) o9 (fun i hi↦(h8 i hi).1)) (rW c9 t h8) (fun q e0↦by rw[(l0 q e0).1,hy];exact p7) p4)) ?_;rintro w9 q4 ⟨j5,n6,⟨A1,e5,n3,c7,e6,rfl,u0⟩⟩;replace h0:=h0.mv n6;have p8:Bi Bg j5 q4 [153] y.2.v y.1.place:=by rw[hy];exact h0
 have u3:y.1.place.length=P.s.k+P.s.m:=by rw[hy];show h1.length=_;omega
 have l3:∀q∈y.1.place,(-1≤q.1∧q.1<12)∧0≤q.2∧q.2<64:=by rw[hy];exact k9
 have u2:y.1.id=x.id∧y.1.len=x.len∧y.1.gen=x.gen:=by rw[hy];exact⟨Z,Z,Z⟩
 have u1:=y.2.one;refine za Z<|Ac<|Ab<|cg<|zm Z<|vq (Bm Z Z)<|Ac<|AS Z (fun o6=>?_) fun o6=>?_
 ·refine Ab<|cg<|zm Z<|za Z<|za Z<|Ac<|Dn Z Z Z ?_;exact⟨_,hJ.mv.out,A1,P.J,P.b,e5,false,n3,vS,vT,vG,c7.out hJ.mv,⟨e6.more oo,h9,by omega,b9,ht,by omega⟩,Z⟩
 refine Aj<|Ab<|Ab<|cg<|zm Z<|vq (AD BB Z k5.mv.Ap Z)<|ve (Al j5 149 (Ay.call oJ Z (TC (x:=y.1) p8.now oo))) ?_;rintro x0 x5 ⟨l8,r5,l2,⟨x2,x3,rfl,e8,e9⟩⟩;replace e8:=e8.Cl l2;replace e9:=e9.Cl l2;obtain⟨l4,n1,rfl,_⟩:=e8.own.len;obtain⟨l5,n2,rfl,_⟩:=e9.own.len;refine ve (Bb l8 147 Hp Z Z Z Z Z) ?_;rintro _ q5 ⟨l6,l9,rfl,k1,o4⟩;have p9:=o4.own (n:=1) (size:=6) Z dd;obtain⟨e4,c8⟩:∃e4:List wq,e4=[(Rr y.1,⟨.slice l4 2 n1,rfl⟩,⟨.slice l5 y.1.place.length n2,rfl⟩)]:=⟨_,Z⟩;have p5:rU l9 q5 [146,149] e4:=by
  rw[c8];refine⟨fun z c4=>?_,fun z c4=>?_⟩
  ·rw[yN.1 c4];exact Fq.more (RR (l:=[y.1.len,y.1.gen]) (e8.mv k1) (by show 2≤_;omega) (fun r g=>by
    simp only[zN,Abz,Aeo] at g;rcases g with rfl|rfl
    ·exact⟨by omega,by omega⟩
    exact⟨by omega,by omega⟩)) Z
  rw[yN.1 c4];exact Kl (e9.mv k1) (by show y.1.place.length≤_;omega) (fun r g=>by have:=l3 r g;exact⟨⟨by omega,by omega⟩,by omega,by omega⟩)
 have k8:kE (Nt.ZD y.1):=⟨by omega,by omega⟩;have k2:=dP (v:= .slice (some ⟨l6,0,none⟩) 1 1) (by rw[c8];exact p9) p5 (fun z c4=>by rw[c8] at c4;rw[yN.1 c4];exact ZM k8) (by rw[c8];simp);have o3:e4.map (·.1)=[Nt.ZD y.1].map Hk:=by rw[c8];rfl
 rw[o3] at k2;have p3:JN (Rr y.1)=true:=ZG (by simp only[Gl,kg,yI];omega) (by simp only[Gl,kg,yI];omega) (by simp only[Gl,kg,yI];omega) oo (fun r g=>by
  have:=l3 r g;simp only[IC,VJ,zY];omega)
 have r2:EL ([Nt.ZD y.1].map Hk)≤73:=by
  have c5:EL ([Nt.ZD y.1].map Hk)=Ld (Rr y.1):=by simp[EL,Hk]
  rw[c5,YL];omega
 have n5:A1.changes≤900000000:=by have:=e6.Lj;omega
 have s9:=(DV b9).2.2.2.1;refine ve (Ay.call oK Z (VE (P:={P with A:=A1,failed:=e5}) (L:=[Nt.ZD y.1]) c7.mv hs k7 k6 e6.pw n5 h9 b9 ht k2 Z ⟨by simp,by simp⟩ (fun r g↦by rw[yN.1 g];exact p3) (fun r g↦by rw[yN.1 g];exact k8) ⟨by show P.b.stripes.length+1≤_;omega,by show P.b.things.length+1≤_;omega⟩ (by show P.J.used+24+_≤_;omega))) ?_;rintro x1 x6 ⟨q6,r6,⟨A2,e3,b2,n4,h3,h4,h2,c7,b8,rfl⟩⟩;refine za Z<|Ac<|Ab ?_;have p1:=Qu (HE b9) (GP b9) [Nt.ZD y.1];have k3:Km n m P A2 e3 b2:=by
  refine⟨(e6.tr b8.lay.zj).more oo,b8.j,?_,b8.may,b8.tags,?_⟩
  ·have r0:e3.used≤P.J.used+24+EL ([Nt.ZD y.1].map Hk):=b8.used;omega
  rcases b8.new with c5|⟨_,c5⟩
  ·rw[show b2=P.b from c5];omega
  rw[show b2=FY P.b [Nt.ZD y.1] from c5];exact p1.2.2.1
 refine cg<|zm Z<|vq (Bm Z Z)<|Ac<|AS Z (fun o7=>?_) fun o7=>?_
 ·refine Ab<|cg<|zm Z<|za Z<|za Z<|Ac<|Dn Z Z Z ?_;exact⟨_,hJ.mv.out,A2,e3,b2,e5,false,n4,h3,h4,h2,c7.out hJ.mv,k3,Z⟩
 refine Aj<|Ab<|cg<|za Z<|za Z<|Ac<|Dn Z Z Z ?_;exact⟨_,hJ.mv.out,A2,e3,b2,e5,true,0,h3,h4,h2,c7.out hJ.mv,k3,Z⟩
def ZS(s:Cn)(x:CZ)(c':Nat→Nat)(w':World)(a:Int)(f g:Value)(e:Int):Prop:=e=0→qk s x c' w' a f g
theorem ZS.mv{s:Cn}{x:CZ}{c c':Nat→Nat}{w w':World}{a:Int}{f g:Value}{e:Int}{I:List Nat}(h:ZS s x c w a f g e)(m:Mv c w c' w' I:=by exact Go.Eng.Jb)(hi:Bd [136,151] I=true:=by rfl):ZS s x c' w' a f g e:=fun p=>by
 obtain⟨i,r,t,j,l,o⟩:=h p;exact⟨i,r,t,j.mv m (Bo hi ss),l.mv m (BC hi ss),o⟩
theorem Ef{K:List Nat}{s:Cn}{x:CZ}{u vL vF j:Value}{live gd:List Bool}{F:List (List Int)}(hs:Small s)(hu:Bi Bg c w K u x.place)(r:DM s x=true)(i:KS c w vL vF live F)(p:live.length=F.length∧F.length≤12)(t:0<F.length)(C:∀l∈F,l.length≤100∧∀y∈l,0≤y∧y<64)(hg:Rd En w j gd)(o:gd.length=s.k+s.m):
 Calls QP 64 #[.agg (DO s).toArray, .agg #[I x.id,I x.len,I x.gen,u], .agg #[vL,vF],j] w (AP fun v w'=>∃c',Mv c w c' w' []∧∃a f g w1 w2 e,v= .tuple #[.agg #[I a,f,g], .agg #[w1,w2],I e]∧(f.oneCell'=true∧g.oneCell'=true∧w1.oneCell'=true∧w2.oneCell'=true)∧ZS s x c' w' a f g e):=
 gi (c:=c) hs hu.now r (i.zh oo).now (i.yx oo).now p t C hg o
theorem kW{p pa pj n m:Nat}{vS vT vG:Value}{P:Ek}(h7:BU c w p pa pj vS vT vG P)(hs:Small P.s)(e9:0<n∧n≤12)(n1:1024≤m∧m≤2048)(c4:FF n m P.A)(h4:P.n≤64)(hc:P.A.changes≤800000000)(h1:Rs n P.J)(e8:Dv P.s P.b=true)(ht:P.b.tags=[])(x6:P.b.stripes.length≤800)(p9:P.J.used+3224≤32704)(h8:-1≤P.at_.2∧P.at_.2≤1000):
 Calls QP 33 #[P1 p] w (AP fun v w'=>∃c',Mv c w c' w' Dw∧∃k6 k7 k8 f g1 g2 n8 e k3 k4 k2,BU c' w' p pa pj k3 k4 k2 {P with A:=k6,J:=k7,b:=k8,at_:=(g1,g2),failed:=f}∧Km n m P k6 k7 k8∧(-1≤g2∧g2≤1000)∧v= .tuple #[.bool n8,I e]):=by
 have hJ:=AZ.start c w Dw;replace h7:=h7.Ca (K:=Dw);generalize a53:AT c Dw=c0 at hJ h7;obtain⟨a62,a63,a64,a65,a66⟩:=id hs;have h9:=HE e8;have l3:UR P.A:=c4.wf e9 ⟨by omega,n1.2⟩ oo;obtain⟨y4,y5⟩:∃q:Int×Int,q=P.at_:=⟨_,Z⟩;have w4:=h7;obtain⟨t,R,U,C⟩:=w4;have y0:=C.s.now.Av;have k0:=C.t.now.Av;have k1:=C.g.now.Av;refine enter (n:=98) (res:=#[.tmp 2, .tmp 3]) Tryz.func33 Z Z Z Z<|Ab<|cg<|za Z<|za Z<|Ac<|Ab<|Ab<|cg<|zm Z<|ve (Al c0 1 (Ay.call qD Z (NO ⟨pa,pj,vS,vT,vG,⟨t,R,U,C⟩⟩))) ?_;rintro a68 w1 ⟨c1,a15,a56,rfl⟩;refine Ac<|AS Z (fun w8=>?_) fun w8=>?_
 ·refine Ab<|cg<|za Z<|za Z<|Ac<|Dn Z Z Z ?_;exact⟨_,hJ.mv.out,P.A,P.J,P.b,P.failed,P.at_.1,P.at_.2,false,10,vS,vT,vG,BU.out ⟨t.mv,R.mv,U.mv,C.mv⟩ hJ.mv,Km.none c4 h1 e8 ht,h8,Z⟩
 refine Aj<|Ab<|WC.mono (N:=(fun h3 w'=>∃(c':Nat→Nat) (j c8:Int) (ok:Bool) (b4:Nat),Sub [(4000000, .tuple #[]),(0,P1 p),(2, .bool false),(3,I 0),(4,P1 b4),(5, .bool ok)] h3∧(ok=true→(ID P.b.stripes j).isSome=true∧0≤c8∧c8<(P.s.k+P.s.m:Nat))∧AZ c w Dw c' w'∧Ar c' w' 90 p (DH pa pj vS vT vG P) 109∧By c' w' pa P.A∧DI c' w' pj pa P.J∧dg c' w' [94] vS vT vG P.b∧Ar c' w' 104 b4 [I j,I c8] 107)) ?_ ?_
 ·refine Rm c1 [] [0,0,0,1,0,0,0,1,0,0,0,1,2,0,0,0,2,3,0] (.quiet 0 (.quiet 1 (.quiet 2 (.quiet 3 (.quiet 4 (.quiet 5 (.quiet 6 (.quiet 7 (.quiet 8 (.quiet 9 (.quiet 10 (.quiet 11 (.two 12 (.quiet 13 (.quiet 14 (.quiet 15 (.one 16 (.one 17 (.quiet 18 .nil)))))) 16 (.one 12 (.quiet 13 (.quiet 14 (.quiet 15 (.one 17 (.quiet 18 .nil))))))))))))))))))) fun w2 a21 g=>?_;refine WT.val Z Z Z (fun _=>Bx Z) Z<|WT.val Z Z Z (fun _=>Ae Z) Z<|WT.val Z Z Z (fun _=>Aa Eb Z) Z<|WT.Iw Z Z Z g.kp (fun W e5=>Cy Cq Z (t.mv.kp e5 Z).Ap (yV Z)) Z<|WT.val Z Z Z (fun _=>Bx Z) Z<|WT.val Z Z Z (fun _=>Ae Z) Z<|WT.val Z Z Z (fun _=>Aa Dr Z) Z<|WT.Iw Z Z Z g.kp (fun W e5=>Cy EB Z (t.mv.kp e5 Z).Ap (yV Z)) Z<|WT.val Z Z Z (fun _=>Bx Z) Z<|WT.val Z Z Z (fun _=>Ae Z) Z<|WT.val Z Z Z (fun _=>Aa XK Z) Z<|WT.Iw Z Z Z g.kp (fun W e5=>Cy Ii Z (t.mv.kp e5 Z).Ap (yV Z)) Z<|WT.two ?_ ?_
  ·refine WS.AW Z Z Z (Al c1 1 (Ay.call sN Z (TG (s:=P.s) (b:=P.b) (g1:=P.at_.1) (g2:=P.at_.2) hs C.mv.s.now k0 k1 h9 h8 oo))) Z ?_;rintro y1 a92 ⟨o7,r0,a59,⟨j,c8,ok,rfl,h5⟩⟩;refine g.AX r0 fun g=>WT.val Z Z Z (fun _=>Bx Z) Z<|WT.val Z Z Z (fun _=>Ag Z Z) Z<|WT.val Z Z Z (fun _=>Ag Z Z) Z<|WT.one<|WS.AW Z Z Z (Cj o7 104 Wh) Z ?_;rintro _ b02 ⟨b4,z7,rfl,r6,c6⟩;refine g.AX r6 fun g=>WT.one<|WS.wild Z Z Z (Am Ii Z Z c6 Z Z AG) ?_;rintro _ b13 ⟨c6,a36⟩;refine WT.val Z Z Z (fun _=>BD Z) Z<|WT.nil ?_;exact⟨_,j,c8,ok,_,Aq,h5,hJ.mv,t.mv,R.mv,U.mv,C.mv,c6⟩
  refine WS.AW Z Z Z (Cj c1 104 Wh) Z ?_;rintro _ b24 ⟨b4,p4,rfl,u1,c6⟩;refine g.AX u1 fun g=>WT.one<|WS.AW Z Z Z (Al p4 1 (Ay.call sN Z (TG (s:=P.s) (b:=P.b) (g1:=P.at_.1) (g2:=P.at_.2) hs C.mv.s.now k0 k1 h9 h8 oo))) Z ?_;rintro y1 b35 ⟨a11,u9,a60,⟨j,c8,ok,rfl,h5⟩⟩;refine g.AX u9 fun g=>WT.val Z Z Z (fun _=>Bx Z) Z<|WT.val Z Z Z (fun _=>Ag Z Z) Z<|WT.val Z Z Z (fun _=>Ag Z Z) Z<|WT.one<|WS.wild Z Z Z (Am Ii Z Z c6.mv Z Z AG) ?_;rintro _ b41 ⟨c6,a48⟩;refine WT.val Z Z Z (fun _=>BD Z) Z<|WT.nil ?_;exact⟨_,j,c8,ok,_,Aq,h5,hJ.mv,t.mv,R.mv,U.mv,C.mv,c6⟩
 clear hJ t R U C;rintro h3 b43 ⟨j5,j,c8,ok,b4,j7,h5,hJ,t,R,U,C,c6⟩;refine WC.sub j7<|Ab<|Ab<|cg<|zm Z<|vq (Bq Z)<|Ac<|AS Z (fun l8=>?_) fun l8=>?_
 ·refine Ab<|cg<|za Z<|za Z<|Ac<|Dn Z Z Z ?_;exact⟨_,hJ.out,P.A,P.J,P.b,P.failed,P.at_.1,P.at_.2,false,0,vS,vT,vG,BU.out ⟨t,R,U,C⟩ hJ,Km.none c4 h1 e8 ht,h8,Z⟩
 obtain⟨w7,a51,a52⟩:=h5 (by simpa using l8);refine Aj<|Ab<|cg<|zm Z<|vq (AD Ii Z c6.Ap Z)<|vq (Ae Z)<|vq (Aa XK Z)<|WR.AI (Mk Ii Z Z t Z (yV Z) AG) ?_;rintro _ y3 ⟨l6,w0⟩;clear t;have t:Ar j5 y3 90 p (DH pa pj vS vT vG {P with at_:=(j,c8)}) 109:=l6;clear l6;refine Ac<|Ab ?_;obtain⟨k,hk⟩:=Aaa.1 w7
 have n0:k<P.b.stripes.length:=(zJ.1 hk).1;obtain⟨u,l9,hu,_⟩:=KM (C.mv w0).s n0;obtain⟨x,n3⟩:∃x,x=P.b.stripes[k]:=⟨_,Z⟩;have c3:DM P.s x=true:=(Mz e8 x (by rw[n3];exact oy n0)).1;have a61:=(CW c3).2.2.2.2.1;obtain⟨r,w6⟩:∃r:Nat,c8=(r:Int):=⟨c8.toNat,by omega⟩;subst w6;rw[←n3] at l9 hu;have a67:=hu.now.Av;refine AY j5 [] [0,0,0,1,0,1,2,0,0,0,0,0] [0,1,2,3,4,5,6,7,8,9,10,11] fun b42 a49 g=>?_;have l5:=t;have l4:=c6;refine AK Z Z<|vd Z (fun _=>Ae Z)<|vd Z (fun _=>Aa Dr Z)<|vc Z g.kp (fun W e5=>Cy EB Z (l5.mv.kp e5 Z).Ap (yV Z))<|vd Z (fun _=>Aa Si Z)<|vc Z g.kp (l4.mv.kb Au Z Z)<|WD.AW Z Z Z (Al j5 1 (Ay.call hF Z (IY (n:=P.b.next) (d:=j) C.mv.s.now y0 k0 k1 h9))) Z ?_;rintro a69 a73 ⟨o0,q0,a57,rfl⟩;refine g.AX q0 fun g=>?_;rw[IX h9 hk];refine AK Z Z<|vd Z (fun _=>Ag Z Z)<|vd Z (fun _=>Ag Z Z)<|Ga Z Z<|Ga Z Z<|WD.nil ?_;clear l5 l4;clear g;refine Ab<|cg<|zm Z<|vq (Ae Z)<|vq (Aa Dr Z)<|vq (Aa CN Z)<|vq (Ah EC Z t.mv.Ap Z)<|zm Z<|vq (AF Cg C.mv.s.now Z Z Z oo oo) ?_;refine vq (Dg BB Z l9.mv.CY Z)<|Db o0 108 GZ fun a74 b8 o1 a16 b7=>?_;refine WR.AI (Am BB Z Z b7 Z Z AG) ?_;rintro _ a75 ⟨b7,a17⟩;refine Ac<|Ab<|Ab<|cg<|zm Z<|vq (AD BB Z b7.Ap Z)<|vq (Aa Sj Z)<|vq (Ah Au Z c6.mv.Ap Z)<|ve (Al o1 1 (Ay.call qG Z (Xb (P:={P with at_:=(j,(r:Int))}) (x:=x) (i:=r) ⟨pa,pj,vS,vT,vG,⟨t.mv,R.mv,U.mv,C.mv⟩⟩ hs.ok c4 l3 hu.mv.now c3 oo))) ?_;rintro a70 a76 ⟨o2,a18,a58,rfl⟩;refine zm Z<|vq (Ag Z Z)<|vq (Ag Z Z)<|za Z<|za Z<|Ac<|Ab<|cg<|zm Z<|Ac<|AS Z (fun w9=>?_) fun w9=>?_
 ·refine Ab<|cg<|za Z<|za Z<|Ac<|Dn Z Z Z ?_;exact⟨_,hJ.mv.out,P.A,P.J,P.b,P.failed,j,r,false,0,vS,vT,vG,BU.out (P:={P with at_:=(j,(r:Int))}) ⟨t.mv,R.mv,U.mv,C.mv⟩ hJ.mv,Km.none c4 h1 e8 ht,by omega,Z⟩
 refine Aj<|Ab<|cg<|zm Z<|vq (AD BB Z b7.mv.Ap Z)<|ve (Al o2 155 (Ay.call sO Z (Zq (P:={P with at_:=(j,(r:Int))}) (x:=x) ⟨pa,pj,vS,vT,vG,⟨t.mv,R.mv,U.mv,C.mv⟩⟩ hs c4 l3 hu.mv.now c3))) ?_;rintro a71 n6 ⟨h2,a19,n2,⟨j3,y2,rfl,j8,j9⟩⟩;replace j8:=j8.Cl n2;replace j9:=j9.Cl n2;refine zm Z<|vq (Ag Z Z)<|vq (Ag Z Z)<|vq (Ag Z Z)<|za Z<|za Z<|za Z<|Ac<|Ab<|Ab<|cg<|zm Z<|vq (Bq Z)<|Ac<|AS Z (fun l7=>?_) fun l7=>?_
 ·refine Ab<|cg<|za Z<|za Z<|Ac<|Dn Z Z Z ?_;exact⟨_,hJ.mv.out,P.A,P.J,P.b,P.failed,j,r,false,0,vS,vT,vG,BU.out (P:={P with at_:=(j,(r:Int))}) ⟨t.mv,R.mv,U.mv,C.mv⟩ hJ.mv,Km.none c4 h1 e8 ht,by omega,Z⟩
 have x5:(Hi P.A P.s x).isSome=true:=by simpa using l7
 obtain⟨O,l1⟩:=Aaa.1 x5;have l2:=Vu hs l1;have b9:Ao h2 n6 155 9 1 j3 O.length (O.map St):=by
  have h:=j9;rw[show Hi ({P with at_:=(j,(r:Int))}:Ek).A ({P with at_:=(j,(r:Int))}:Ek).s x=some O from l1] at h;exact h
 have c9:=Kk P.A P.s x;have c7:Bi En h2 n6 [155] y2 (Dd P.A P.s x):=Pp j8 (by show(Dd P.A P.s x).length≤_;omega);have g1:=b9.Av;have g2:=b9.Aw;refine Aj<|Ab<|WC.mono (N:=(fun h3 w'=>∃(c':Nat→Nat) (a:Int) (a6 a7:Value) (e:Int) (c5:Nat),Sub [(4000000, .tuple #[]),(0,P1 p),(2, .bool false),(3,I 0),(8,P1 b8),(11,j3),(13,P1 c5),(15,I e)] h3∧(a6.oneCell'=true∧a7.oneCell'=true)∧ZS P.s x c' w' a a6 a7 e∧AZ c w Dw c' w'∧Ar c' w' 90 p (DH pa pj vS vT vG {P with at_:=(j,(r:Int))}) 109∧By c' w' pa P.A∧DI c' w' pj pa P.J∧dg c' w' [94] vS vT vG P.b∧Bi Bg c' w' [94] u x.place∧Ar c' w' 108 b8 [I x.id,I x.len,I x.gen,u] 144∧Ao c' w' 155 9 1 j3 O.length (O.map St)∧Ar c' w' 113 c5 [I a,a6,a7] 150)) ?_ ?_
 ·refine Rm h2 [] [0,0,0,1,1,0,2,0,2,0,0,0,0,2,2,3,3,0] (.quiet 0 (.quiet 1 (.quiet 2 (.quiet 3 (.quiet 4 (.quiet 5 (.quiet 7 (.three 6 (.three 8 (.quiet 9 (.quiet 10 (.quiet 11 (.quiet 12 (.two 13 (.one 14 (.one 15 (.one 16 (.quiet 17 .nil)))) 14 (.one 13 (.one 15 (.one 16 (.quiet 17 .nil))))))))) 13 (.two 8 (.quiet 9 (.quiet 10 (.quiet 11 (.quiet 12 (.one 14 (.one 15 (.one 16 (.quiet 17 .nil)))))))) 14 (.one 8 (.quiet 9 (.quiet 10 (.quiet 11 (.quiet 12 (.one 15 (.one 16 (.quiet 17 .nil))))))))) 14 (.two 8 (.quiet 9 (.quiet 10 (.quiet 11 (.quiet 12 (.one 13 (.one 15 (.one 16 (.quiet 17 .nil)))))))) 13 (.one 8 (.quiet 9 (.quiet 10 (.quiet 11 (.quiet 12 (.one 15 (.one 16 (.quiet 17 .nil)))))))))) 13 (.two 6 (.two 8 (.quiet 9 (.quiet 10 (.quiet 11 (.quiet 12 (.one 14 (.one 15 (.one 16 (.quiet 17 .nil)))))))) 14 (.one 8 (.quiet 9 (.quiet 10 (.quiet 11 (.quiet 12 (.one 15 (.one 16 (.quiet 17 .nil))))))))) 14 (.one 6 (.one 8 (.quiet 9 (.quiet 10 (.quiet 11 (.quiet 12 (.one 15 (.one 16 (.quiet 17 .nil)))))))))) 14 (.two 6 (.two 8 (.quiet 9 (.quiet 10 (.quiet 11 (.quiet 12 (.one 13 (.one 15 (.one 16 (.quiet 17 .nil)))))))) 13 (.one 8 (.quiet 9 (.quiet 10 (.quiet 11 (.quiet 12 (.one 15 (.one 16 (.quiet 17 .nil))))))))) 13 (.one 6 (.one 8 (.quiet 9 (.quiet 10 (.quiet 11 (.quiet 12 (.one 15 (.one 16 (.quiet 17 .nil)))))))))))))))))) fun a77 a20 g=>?_;refine WT.val Z Z Z (fun _=>Bx Z) Z<|WT.val Z Z Z (fun _=>Ae Z) Z<|WT.val Z Z Z (fun _=>Aa Eb Z) Z<|WT.Iw Z Z Z g.kp (fun W e5=>Cy Cq Z (t.mv.kp e5 Z).Ap (yV Z)) Z<|WT.Iw Z Z Z g.kp (b7.mv.kn BB Z Z) Z<|WT.val Z Z Z (fun _=>Bx Z) Z<|WT.val Z Z Z (fun _=>Bx Z) Z<|WT.three ?_ ?_ ?_
  ·refine WS.AW Z Z Z (Ay.call ed Z (IH (P:={P with at_:=(j,(r:Int))}) ⟨pa,pj,vS,vT,vG,⟨t.mv,R.mv,U.mv,C.mv⟩⟩ c4 e9.2 h4 (by show P.b.stripes.length≤_;omega))) Z ?_;rintro j2 a78 ⟨k9,q1,⟨vL,vF,F,b0,c2,a8,h6,rfl⟩⟩;refine g.AX q1 fun g=>?_;have j0:=b0.kh.Av;obtain⟨j4,e6,_⟩:=id b0.row;have j1:=e6.Av;refine WT.three ?_ ?_ ?_
   ·refine WS.AW Z Z Z (Ay.call Sn Z (Ef (F:=F) (live:=CK n P.A) (gd:=Dd P.A P.s x) hs hu.mv c3 b0 ⟨by rw[Cc,c2],by omega⟩ oo (fun l hl↦⟨by have:=(a8 l hl).2.2;show l.length≤100;have b6:({P with at_:=(j,(r:Int))}:Ek).n=P.n:=rfl;omega,fun y hy↦by have:=(a8 l hl).2.1 y hy;have b6:({P with at_:=(j,(r:Int))}:Ek).n=P.n:=rfl;omega⟩) c7.mv.now c9)) Z ?_;rintro e2 a79 ⟨l0,q2,⟨a,a6,a7,e3,e4,e,rfl,⟨b3,b5,e0,e1⟩,b1⟩⟩;refine g.AX q2 fun g=>WT.val Z Z Z (fun _=>Bx Z) Z<|WT.val Z Z Z (fun _=>Ag Z Z) Z<|WT.val Z Z Z (fun _=>Ag Z Z) Z<|WT.val Z Z Z (fun _=>Ag Z Z) Z<|WT.two ?_ ?_
    ·refine WS.AW Z Z Z (Cj l0 113 HP) Z ?_;rintro _ a80 ⟨c5,o3,rfl,q3,o⟩;refine g.AX q3 fun g=>WT.one<|WS.AW Z Z Z (Cj o3 114 Fv) Z ?_;rintro _ a81 ⟨e7,y6,rfl,q4,a1⟩;refine g.AX q4 fun g=>WT.one<|WS.wild Z Z Z (Am CO Z Z o.mv Z Z AG) ?_;rintro _ a82 ⟨o,a22⟩;refine WT.one<|WS.wild Z Z Z (Am Cz Z Z a1.mv Z Z AG) ?_;rintro _ a83 ⟨a1,a23⟩;refine WT.val Z Z Z (fun _=>BD Z) Z<|WT.nil ?_;exact⟨_,a,a6,a7,e,_,Aq,⟨b3,b5⟩,b1.mv,hJ.mv,t.mv,R.mv,U.mv,C.mv,hu.mv,b7.mv,b9.mv,o.mv⟩
    refine WS.AW Z Z Z (Cj l0 114 Fv) Z ?_;rintro _ a84 ⟨e7,o4,rfl,q5,a1⟩;refine g.AX q5 fun g=>WT.one<|WS.AW Z Z Z (Cj o4 113 HP) Z ?_;rintro _ a85 ⟨c5,y7,rfl,q6,o⟩;refine g.AX q6 fun g=>WT.one<|WS.wild Z Z Z (Am CO Z Z o Z Z AG) ?_;rintro _ a86 ⟨o,a24⟩;refine WT.one<|WS.wild Z Z Z (Am Cz Z Z a1.mv Z Z AG) ?_;rintro _ a87 ⟨a1,a25⟩;refine WT.val Z Z Z (fun _=>BD Z) Z<|WT.nil ?_;exact⟨_,a,a6,a7,e,_,Aq,⟨b3,b5⟩,b1.mv,hJ.mv,t.mv,R.mv,U.mv,C.mv,hu.mv,b7.mv,b9.mv,o.mv⟩
   ·refine WS.AW Z Z Z (Cj k9 113 HP) Z ?_;rintro _ a88 ⟨c5,o5,rfl,q7,o⟩;refine g.AX q7 fun g=>WT.two ?_ ?_
    ·refine WS.AW Z Z Z (Ay.call Sn Z (Ef (F:=F) (live:=CK n P.A) (gd:=Dd P.A P.s x) hs hu.mv c3 b0.mv ⟨by rw[Cc,c2],by omega⟩ oo (fun l hl↦⟨by have:=(a8 l hl).2.2;show l.length≤100;have b6:({P with at_:=(j,(r:Int))}:Ek).n=P.n:=rfl;omega,fun y hy↦by have:=(a8 l hl).2.1 y hy;have b6:({P with at_:=(j,(r:Int))}:Ek).n=P.n:=rfl;omega⟩) c7.mv.now c9)) Z ?_;rintro e2 a89 ⟨o6,q8,⟨a,a6,a7,e3,e4,e,rfl,⟨b3,b5,e0,e1⟩,b1⟩⟩;refine g.AX q8 fun g=>WT.val Z Z Z (fun _=>Bx Z) Z<|WT.val Z Z Z (fun _=>Ag Z Z) Z<|WT.val Z Z Z (fun _=>Ag Z Z) Z<|WT.val Z Z Z (fun _=>Ag Z Z) Z<|WT.one<|WS.AW Z Z Z (Cj o6 114 Fv) Z ?_;rintro _ a90 ⟨e7,y8,rfl,q9,a1⟩;refine g.AX q9 fun g=>WT.one<|WS.wild Z Z Z (Am CO Z Z o.mv Z Z AG) ?_;rintro _ a91 ⟨o,a26⟩;refine WT.one<|WS.wild Z Z Z (Am Cz Z Z a1.mv Z Z AG) ?_;rintro _ a93 ⟨a1,a27⟩;refine WT.val Z Z Z (fun _=>BD Z) Z<|WT.nil ?_;exact⟨_,a,a6,a7,e,_,Aq,⟨b3,b5⟩,b1.mv,hJ.mv,t.mv,R.mv,U.mv,C.mv,hu.mv,b7.mv,b9.mv,o.mv⟩
    refine WS.AW Z Z Z (Cj o5 114 Fv) Z ?_;rintro _ a94 ⟨e7,y9,rfl,r1,a1⟩;refine g.AX r1 fun g=>WT.one ?_;refine WS.AW Z Z Z (Ay.call Sn Z (Ef (F:=F) (live:=CK n P.A) (gd:=Dd P.A P.s x) hs hu.mv c3 b0.mv ⟨by rw[Cc,c2],by omega⟩ oo (fun l hl↦⟨by have:=(a8 l hl).2.2;show l.length≤100;have b6:({P with at_:=(j,(r:Int))}:Ek).n=P.n:=rfl;omega,fun y hy↦by have:=(a8 l hl).2.1 y hy;have b6:({P with at_:=(j,(r:Int))}:Ek).n=P.n:=rfl;omega⟩) c7.mv.now c9)) Z ?_;rintro e2 Rn ⟨z1,r2,⟨a,a6,a7,e3,e4,e,rfl,⟨b3,b5,e0,e1⟩,b1⟩⟩;refine g.AX r2 fun g=>WT.val Z Z Z (fun _=>Bx Z) Z<|WT.val Z Z Z (fun _=>Ag Z Z) Z<|WT.val Z Z Z (fun _=>Ag Z Z) Z<|WT.val Z Z Z (fun _=>Ag Z Z) Z<|WT.one<|WS.wild Z Z Z (Am CO Z Z o.mv Z Z AG) ?_;rintro _ a95 ⟨o,a28⟩;refine WT.one<|WS.wild Z Z Z (Am Cz Z Z a1.mv Z Z AG) ?_;rintro _ a96 ⟨a1,a29⟩;refine WT.val Z Z Z (fun _=>BD Z) Z<|WT.nil ?_;exact⟨_,a,a6,a7,e,_,Aq,⟨b3,b5⟩,b1.mv,hJ.mv,t.mv,R.mv,U.mv,C.mv,hu.mv,b7.mv,b9.mv,o.mv⟩
   refine WS.AW Z Z Z (Cj k9 114 Fv) Z ?_;rintro _ a97 ⟨e7,o8,rfl,r3,a1⟩;refine g.AX r3 fun g=>WT.two ?_ ?_
   ·refine WS.AW Z Z Z (Ay.call Sn Z (Ef (F:=F) (live:=CK n P.A) (gd:=Dd P.A P.s x) hs hu.mv c3 b0.mv ⟨by rw[Cc,c2],by omega⟩ oo (fun l hl↦⟨by have:=(a8 l hl).2.2;show l.length≤100;have b6:({P with at_:=(j,(r:Int))}:Ek).n=P.n:=rfl;omega,fun y hy↦by have:=(a8 l hl).2.1 y hy;have b6:({P with at_:=(j,(r:Int))}:Ek).n=P.n:=rfl;omega⟩) c7.mv.now c9)) Z ?_;rintro e2 a98 ⟨o9,r4,⟨a,a6,a7,e3,e4,e,rfl,⟨b3,b5,e0,e1⟩,b1⟩⟩;refine g.AX r4 fun g=>WT.val Z Z Z (fun _=>Bx Z) Z<|WT.val Z Z Z (fun _=>Ag Z Z) Z<|WT.val Z Z Z (fun _=>Ag Z Z) Z<|WT.val Z Z Z (fun _=>Ag Z Z) Z<|WT.one<|WS.AW Z Z Z (Cj o9 113 HP) Z ?_;rintro _ a99 ⟨c5,z6,rfl,r5,o⟩;refine g.AX r5 fun g=>WT.one<|WS.wild Z Z Z (Am CO Z Z o Z Z AG) ?_;rintro _ b00 ⟨o,a30⟩;refine WT.one<|WS.wild Z Z Z (Am Cz Z Z a1.mv Z Z AG) ?_;rintro _ b01 ⟨a1,a31⟩;refine WT.val Z Z Z (fun _=>BD Z) Z<|WT.nil ?_;exact⟨_,a,a6,a7,e,_,Aq,⟨b3,b5⟩,b1.mv,hJ.mv,t.mv,R.mv,U.mv,C.mv,hu.mv,b7.mv,b9.mv,o.mv⟩
   refine WS.AW Z Z Z (Cj o8 113 HP) Z ?_;rintro _ b03 ⟨c5,z8,rfl,r7,o⟩;refine g.AX r7 fun g=>WT.one ?_;refine WS.AW Z Z Z (Ay.call Sn Z (Ef (F:=F) (live:=CK n P.A) (gd:=Dd P.A P.s x) hs hu.mv c3 b0.mv ⟨by rw[Cc,c2],by omega⟩ oo (fun l hl↦⟨by have:=(a8 l hl).2.2;show l.length≤100;have b6:({P with at_:=(j,(r:Int))}:Ek).n=P.n:=rfl;omega,fun y hy↦by have:=(a8 l hl).2.1 y hy;have b6:({P with at_:=(j,(r:Int))}:Ek).n=P.n:=rfl;omega⟩) c7.mv.now c9)) Z ?_;rintro e2 b04 ⟨a00,r8,⟨a,a6,a7,e3,e4,e,rfl,⟨b3,b5,e0,e1⟩,b1⟩⟩;refine g.AX r8 fun g=>WT.val Z Z Z (fun _=>Bx Z) Z<|WT.val Z Z Z (fun _=>Ag Z Z) Z<|WT.val Z Z Z (fun _=>Ag Z Z) Z<|WT.val Z Z Z (fun _=>Ag Z Z) Z<|WT.one<|WS.wild Z Z Z (Am CO Z Z o.mv Z Z AG) ?_;rintro _ b05 ⟨o,a32⟩;refine WT.one<|WS.wild Z Z Z (Am Cz Z Z a1.mv Z Z AG) ?_;rintro _ b06 ⟨a1,a33⟩;refine WT.val Z Z Z (fun _=>BD Z) Z<|WT.nil ?_;exact⟨_,a,a6,a7,e,_,Aq,⟨b3,b5⟩,b1.mv,hJ.mv,t.mv,R.mv,U.mv,C.mv,hu.mv,b7.mv,b9.mv,o.mv⟩
  ·refine WS.AW Z Z Z (Cj h2 113 HP) Z ?_;rintro _ b07 ⟨c5,p0,rfl,r9,o⟩;refine g.AX r9 fun g=>WT.two ?_ ?_
   ·refine WS.AW Z Z Z (Ay.call ed Z (IH (P:={P with at_:=(j,(r:Int))}) ⟨pa,pj,vS,vT,vG,⟨t.mv,R.mv,U.mv,C.mv⟩⟩ c4 e9.2 h4 (by show P.b.stripes.length≤_;omega))) Z ?_;rintro j2 b08 ⟨p1,s0,⟨vL,vF,F,b0,c2,a8,h6,rfl⟩⟩;refine g.AX s0 fun g=>?_;have j0:=b0.kh.Av;obtain⟨j4,e6,_⟩:=id b0.row;have j1:=e6.Av;refine WT.two ?_ ?_
    ·refine WS.AW Z Z Z (Ay.call Sn Z (Ef (F:=F) (live:=CK n P.A) (gd:=Dd P.A P.s x) hs hu.mv c3 b0 ⟨by rw[Cc,c2],by omega⟩ oo (fun l hl↦⟨by have:=(a8 l hl).2.2;show l.length≤100;have b6:({P with at_:=(j,(r:Int))}:Ek).n=P.n:=rfl;omega,fun y hy↦by have:=(a8 l hl).2.1 y hy;have b6:({P with at_:=(j,(r:Int))}:Ek).n=P.n:=rfl;omega⟩) c7.mv.now c9)) Z ?_;rintro e2 b09 ⟨p2,s3,⟨a,a6,a7,e3,e4,e,rfl,⟨b3,b5,e0,e1⟩,b1⟩⟩;refine g.AX s3 fun g=>WT.val Z Z Z (fun _=>Bx Z) Z<|WT.val Z Z Z (fun _=>Ag Z Z) Z<|WT.val Z Z Z (fun _=>Ag Z Z) Z<|WT.val Z Z Z (fun _=>Ag Z Z) Z<|WT.one<|WS.AW Z Z Z (Cj p2 114 Fv) Z ?_;rintro _ b10 ⟨e7,a01,rfl,s4,a1⟩;refine g.AX s4 fun g=>WT.one<|WS.wild Z Z Z (Am CO Z Z o.mv Z Z AG) ?_;rintro _ b11 ⟨o,a34⟩;refine WT.one<|WS.wild Z Z Z (Am Cz Z Z a1.mv Z Z AG) ?_;rintro _ b12 ⟨a1,a35⟩;refine WT.val Z Z Z (fun _=>BD Z) Z<|WT.nil ?_;exact⟨_,a,a6,a7,e,_,Aq,⟨b3,b5⟩,b1.mv,hJ.mv,t.mv,R.mv,U.mv,C.mv,hu.mv,b7.mv,b9.mv,o.mv⟩
    refine WS.AW Z Z Z (Cj p1 114 Fv) Z ?_;rintro _ b14 ⟨e7,a02,rfl,s5,a1⟩;refine g.AX s5 fun g=>WT.one ?_;refine WS.AW Z Z Z (Ay.call Sn Z (Ef (F:=F) (live:=CK n P.A) (gd:=Dd P.A P.s x) hs hu.mv c3 b0.mv ⟨by rw[Cc,c2],by omega⟩ oo (fun l hl↦⟨by have:=(a8 l hl).2.2;show l.length≤100;have b6:({P with at_:=(j,(r:Int))}:Ek).n=P.n:=rfl;omega,fun y hy↦by have:=(a8 l hl).2.1 y hy;have b6:({P with at_:=(j,(r:Int))}:Ek).n=P.n:=rfl;omega⟩) c7.mv.now c9)) Z ?_;rintro e2 b15 ⟨a03,s6,⟨a,a6,a7,e3,e4,e,rfl,⟨b3,b5,e0,e1⟩,b1⟩⟩;refine g.AX s6 fun g=>WT.val Z Z Z (fun _=>Bx Z) Z<|WT.val Z Z Z (fun _=>Ag Z Z) Z<|WT.val Z Z Z (fun _=>Ag Z Z) Z<|WT.val Z Z Z (fun _=>Ag Z Z) Z<|WT.one<|WS.wild Z Z Z (Am CO Z Z o.mv Z Z AG) ?_;rintro _ b16 ⟨o,a37⟩;refine WT.one<|WS.wild Z Z Z (Am Cz Z Z a1.mv Z Z AG) ?_;rintro _ b17 ⟨a1,a38⟩;refine WT.val Z Z Z (fun _=>BD Z) Z<|WT.nil ?_;exact⟨_,a,a6,a7,e,_,Aq,⟨b3,b5⟩,b1.mv,hJ.mv,t.mv,R.mv,U.mv,C.mv,hu.mv,b7.mv,b9.mv,o.mv⟩
   refine WS.AW Z Z Z (Cj p0 114 Fv) Z ?_;rintro _ b18 ⟨e7,a04,rfl,s7,a1⟩;refine g.AX s7 fun g=>WT.one ?_;refine WS.AW Z Z Z (Ay.call ed Z (IH (P:={P with at_:=(j,(r:Int))}) ⟨pa,pj,vS,vT,vG,⟨t.mv,R.mv,U.mv,C.mv⟩⟩ c4 e9.2 h4 (by show P.b.stripes.length≤_;omega))) Z ?_;rintro j2 b19 ⟨a05,s8,⟨vL,vF,F,b0,c2,a8,h6,rfl⟩⟩;refine g.AX s8 fun g=>?_;have j0:=b0.kh.Av;obtain⟨j4,e6,_⟩:=id b0.row;have j1:=e6.Av;refine WT.one ?_;refine WS.AW Z Z Z (Ay.call Sn Z (Ef (F:=F) (live:=CK n P.A) (gd:=Dd P.A P.s x) hs hu.mv c3 b0 ⟨by rw[Cc,c2],by omega⟩ oo (fun l hl↦⟨by have:=(a8 l hl).2.2;show l.length≤100;have b6:({P with at_:=(j,(r:Int))}:Ek).n=P.n:=rfl;omega,fun y hy↦by have:=(a8 l hl).2.1 y hy;have b6:({P with at_:=(j,(r:Int))}:Ek).n=P.n:=rfl;omega⟩) c7.mv.now c9)) Z ?_;rintro e2 b20 ⟨a06,s9,⟨a,a6,a7,e3,e4,e,rfl,⟨b3,b5,e0,e1⟩,b1⟩⟩;refine g.AX s9 fun g=>WT.val Z Z Z (fun _=>Bx Z) Z<|WT.val Z Z Z (fun _=>Ag Z Z) Z<|WT.val Z Z Z (fun _=>Ag Z Z) Z<|WT.val Z Z Z (fun _=>Ag Z Z) Z<|WT.one<|WS.wild Z Z Z (Am CO Z Z o.mv Z Z AG) ?_;rintro _ b21 ⟨o,a39⟩;refine WT.one<|WS.wild Z Z Z (Am Cz Z Z a1.mv Z Z AG) ?_;rintro _ b22 ⟨a1,a40⟩;refine WT.val Z Z Z (fun _=>BD Z) Z<|WT.nil ?_;exact⟨_,a,a6,a7,e,_,Aq,⟨b3,b5⟩,b1.mv,hJ.mv,t.mv,R.mv,U.mv,C.mv,hu.mv,b7.mv,b9.mv,o.mv⟩
  refine WS.AW Z Z Z (Cj h2 114 Fv) Z ?_;rintro _ b23 ⟨e7,p3,rfl,u0,a1⟩;refine g.AX u0 fun g=>WT.two ?_ ?_
  ·refine WS.AW Z Z Z (Ay.call ed Z (IH (P:={P with at_:=(j,(r:Int))}) ⟨pa,pj,vS,vT,vG,⟨t.mv,R.mv,U.mv,C.mv⟩⟩ c4 e9.2 h4 (by show P.b.stripes.length≤_;omega))) Z ?_;rintro j2 b25 ⟨p5,u2,⟨vL,vF,F,b0,c2,a8,h6,rfl⟩⟩;refine g.AX u2 fun g=>?_;have j0:=b0.kh.Av;obtain⟨j4,e6,_⟩:=id b0.row;have j1:=e6.Av;refine WT.two ?_ ?_
   ·refine WS.AW Z Z Z (Ay.call Sn Z (Ef (F:=F) (live:=CK n P.A) (gd:=Dd P.A P.s x) hs hu.mv c3 b0 ⟨by rw[Cc,c2],by omega⟩ oo (fun l hl↦⟨by have:=(a8 l hl).2.2;show l.length≤100;have b6:({P with at_:=(j,(r:Int))}:Ek).n=P.n:=rfl;omega,fun y hy↦by have:=(a8 l hl).2.1 y hy;have b6:({P with at_:=(j,(r:Int))}:Ek).n=P.n:=rfl;omega⟩) c7.mv.now c9)) Z ?_;rintro e2 b26 ⟨p6,u3,⟨a,a6,a7,e3,e4,e,rfl,⟨b3,b5,e0,e1⟩,b1⟩⟩;refine g.AX u3 fun g=>WT.val Z Z Z (fun _=>Bx Z) Z<|WT.val Z Z Z (fun _=>Ag Z Z) Z<|WT.val Z Z Z (fun _=>Ag Z Z) Z<|WT.val Z Z Z (fun _=>Ag Z Z) Z<|WT.one<|WS.AW Z Z Z (Cj p6 113 HP) Z ?_;rintro _ b27 ⟨c5,a07,rfl,u4,o⟩;refine g.AX u4 fun g=>WT.one<|WS.wild Z Z Z (Am CO Z Z o Z Z AG) ?_;rintro _ b28 ⟨o,a41⟩;refine WT.one<|WS.wild Z Z Z (Am Cz Z Z a1.mv Z Z AG) ?_;rintro _ b29 ⟨a1,a42⟩;refine WT.val Z Z Z (fun _=>BD Z) Z<|WT.nil ?_;exact⟨_,a,a6,a7,e,_,Aq,⟨b3,b5⟩,b1.mv,hJ.mv,t.mv,R.mv,U.mv,C.mv,hu.mv,b7.mv,b9.mv,o.mv⟩
   refine WS.AW Z Z Z (Cj p5 113 HP) Z ?_;rintro _ b30 ⟨c5,a08,rfl,u5,o⟩;refine g.AX u5 fun g=>WT.one ?_;refine WS.AW Z Z Z (Ay.call Sn Z (Ef (F:=F) (live:=CK n P.A) (gd:=Dd P.A P.s x) hs hu.mv c3 b0.mv ⟨by rw[Cc,c2],by omega⟩ oo (fun l hl↦⟨by have:=(a8 l hl).2.2;show l.length≤100;have b6:({P with at_:=(j,(r:Int))}:Ek).n=P.n:=rfl;omega,fun y hy↦by have:=(a8 l hl).2.1 y hy;have b6:({P with at_:=(j,(r:Int))}:Ek).n=P.n:=rfl;omega⟩) c7.mv.now c9)) Z ?_;rintro e2 b31 ⟨a09,u6,⟨a,a6,a7,e3,e4,e,rfl,⟨b3,b5,e0,e1⟩,b1⟩⟩;refine g.AX u6 fun g=>WT.val Z Z Z (fun _=>Bx Z) Z<|WT.val Z Z Z (fun _=>Ag Z Z) Z<|WT.val Z Z Z (fun _=>Ag Z Z) Z<|WT.val Z Z Z (fun _=>Ag Z Z) Z<|WT.one<|WS.wild Z Z Z (Am CO Z Z o.mv Z Z AG) ?_;rintro _ b32 ⟨o,a43⟩;refine WT.one<|WS.wild Z Z Z (Am Cz Z Z a1.mv Z Z AG) ?_;rintro _ b33 ⟨a1,a44⟩;refine WT.val Z Z Z (fun _=>BD Z) Z<|WT.nil ?_;exact⟨_,a,a6,a7,e,_,Aq,⟨b3,b5⟩,b1.mv,hJ.mv,t.mv,R.mv,U.mv,C.mv,hu.mv,b7.mv,b9.mv,o.mv⟩
  refine WS.AW Z Z Z (Cj p3 113 HP) Z ?_;rintro _ b34 ⟨c5,a10,rfl,u7,o⟩;refine g.AX u7 fun g=>WT.one ?_;refine WS.AW Z Z Z (Ay.call ed Z (IH (P:={P with at_:=(j,(r:Int))}) ⟨pa,pj,vS,vT,vG,⟨t.mv,R.mv,U.mv,C.mv⟩⟩ c4 e9.2 h4 (by show P.b.stripes.length≤_;omega))) Z ?_;rintro j2 b36 ⟨a12,v7,⟨vL,vF,F,b0,c2,a8,h6,rfl⟩⟩;refine g.AX v7 fun g=>?_;have j0:=b0.kh.Av;obtain⟨j4,e6,_⟩:=id b0.row;have j1:=e6.Av;refine WT.one ?_;refine WS.AW Z Z Z (Ay.call Sn Z (Ef (F:=F) (live:=CK n P.A) (gd:=Dd P.A P.s x) hs hu.mv c3 b0 ⟨by rw[Cc,c2],by omega⟩ oo (fun l hl↦⟨by have:=(a8 l hl).2.2;show l.length≤100;have b6:({P with at_:=(j,(r:Int))}:Ek).n=P.n:=rfl;omega,fun y hy↦by have:=(a8 l hl).2.1 y hy;have b6:({P with at_:=(j,(r:Int))}:Ek).n=P.n:=rfl;omega⟩) c7.mv.now c9)) Z ?_;rintro e2 b37 ⟨a13,v8,⟨a,a6,a7,e3,e4,e,rfl,⟨b3,b5,e0,e1⟩,b1⟩⟩;refine g.AX v8 fun g=>WT.val Z Z Z (fun _=>Bx Z) Z<|WT.val Z Z Z (fun _=>Ag Z Z) Z<|WT.val Z Z Z (fun _=>Ag Z Z) Z<|WT.val Z Z Z (fun _=>Ag Z Z) Z<|WT.one<|WS.wild Z Z Z (Am CO Z Z o.mv Z Z AG) ?_;rintro _ b38 ⟨o,a45⟩;refine WT.one<|WS.wild Z Z Z (Am Cz Z Z a1.mv Z Z AG) ?_;rintro _ b39 ⟨a1,a46⟩;refine WT.val Z Z Z (fun _=>BD Z) Z<|WT.nil ?_;exact⟨_,a,a6,a7,e,_,Aq,⟨b3,b5⟩,b1.mv,hJ.mv,t.mv,R.mv,U.mv,C.mv,hu.mv,b7.mv,b9.mv,o.mv⟩
 clear hJ t R U C hu b7 b9 c7 c6;rintro h3 k5 ⟨j6,a,a6,a7,e,c5,j7,⟨b3,b5⟩,b1,hJ,t,R,U,C,hu,b7,b9,o⟩;refine WC.sub j7<|Ab<|Ab<|cg<|zm Z<|vq (Bm Z Z)<|Ac<|AS Z (fun x0=>?_) fun x0=>?_
 ·refine Ab<|cg<|za Z<|za Z<|Ac<|Dn Z Z Z ?_;exact⟨_,hJ.out,P.A,P.J,P.b,P.failed,j,r,false,0,vS,vT,vG,BU.out (P:={P with at_:=(j,(r:Int))}) ⟨t,R,U,C⟩ hJ,Km.none c4 h1 e8 ht,by omega,Z⟩
 have x1:e=0:=oo;obtain⟨a50,n4,n5,x4,x9,⟨a54,x3⟩,a55,x8⟩:=b1 x1;have x2:Bi Bw j6 k5 [136,151,155] a6 n4:=Fq.more (Xg x4 oo (fun i hi=>by have:=x3 i hi;exact⟨by omega,by omega⟩)) Z;have x7:Bi Bg j6 k5 [136,151,155] a7 n5:=Fq.more x9 Z;have w3:Bi CL j6 k5 [136,151,155] j3 O:=Fq.more (JI b9 oo (fun y hy=>by rw[l2.2 y hy];omega)) Z;refine Aj<|Ab<|cg<|zm Z<|vq (AD BB Z b7.Ap Z)<|vq (AD CO Z o.Ap Z)<|zm Z<|ve (Ay.call xK Z (gk (P:={P with at_:=(j,(r:Int))}) (K:=[136,151,155]) (O:=O) (idx:=n4) (tos:=n5) (a:=a) ⟨t,R,U,C⟩ hs e9 n1 c4 hc h1 e8 ht x6 p9 hu x2 x7 w3 Z c3 x8 oo l2)) ?_;rintro a72 b40 ⟨a14,a47,⟨A2,n7,b2,p8,n9,p7,k3,k4,k2,w5,h0,rfl⟩⟩;refine vq (Ag Z Z)<|vq (Ag Z Z)<|za Z<|za Z<|Ac<|Dn Z Z Z ?_;exact⟨_,hJ.mv.out,A2,n7,b2,p8,j,r,n9,p7,k3,k4,k2,w5.out hJ.mv,⟨h0.lay,h0.j,h0.used,h0.may,h0.tags,h0.size⟩,by omega,Z⟩
theorem gl{o:Kf}:Calls QP 24 #[.agg (FB o).toArray] w (AP fun v w'=>Below w.heap.size w w'∧v= .bool (KV o.kind)):=by
 obtain⟨c,p,r⟩:=AQ.start w;clear r;refine enter (n:=21) (res:=#[.tmp 2]) Tryz.func24 Z Z Z Z<|Ab<|cg<|Dz c 101 fun w1 b1 c1 t f=>?_;refine za Z<|Ac<|Ab<|cg<|vq (Aa Gs Z)<|vq (Ah Au Z f.Ap Z)<|vq (AU Z Z)<|zm Z ?_;apply WR.CJ false 3 _ BT
 ·intro J;refine wo<|vq (Aa Gs rfl)<|wo<|vq (Ah Au rfl f.Ap rfl)<|wo<|vq (AU rfl rfl) ?_;exact Dm 3
 refine zm Z ?_;apply WR.CJ false 3 _ BT
 ·intro C;refine wo<|vq (Aa Gs rfl)<|wo<|vq (Ah Au rfl f.Ap rfl)<|wo<|vq (AU rfl rfl) ?_;exact Dm 3
 refine zm Z ?_;apply WR.CJ false 3 _ BT
 ·intro I;refine wo<|vq (Aa Gs rfl)<|wo<|vq (Ah Au rfl f.Ap rfl)<|wo<|vq (AU rfl rfl) ?_;exact Dm 3
 refine za Z<|Ac<|Az Z Z<|⟨p.mv.below,?_⟩;rw[KV];by_cases g:o.kind=4<;>by_cases i:o.kind=5<;>by_cases j:o.kind=6<;>by_cases l:o.kind=10<;>simp[g,i,j,l]
theorem NP{e:Int}:Calls QP 25 #[I e] w (AP fun v w'=>Below w.heap.size w w'∧v= .agg (LQ ⟨0,[],e⟩).toArray):=by
 obtain⟨c,g,i⟩:=AQ.start w;clear i;refine enter (n:=5) (res:=#[.cell 2 42]) Tryz.func25 Z Z Z Z<|Ab<|cg<|Db c 102 Ik fun w1 b2 c1 j f=>?_;refine Ac<|Ab<|cg<|zm Z<|vq (AB (cells:=#[I 0,St [],I e]) Z kr) ?_;refine WR.AI (Am BH Z Z f Z Z AG) ?_;rintro _ w2 ⟨f,l⟩;refine Ac<|Fz Z (Br BH Z f.Ap Z) ?_;exact⟨g.mv.below,Z⟩
theorem ZT{vT vG vS r b0 b1:Value}{a8 c3:Int}{T f:List DE}(h1:Rd HY w vT T)(g:Rd HY w r f)(b9:Hc T)(e5:vG.oneCell'=true)(e6:vS.oneCell'=true)(e7:b0.oneCell'=true)(e8:b1.oneCell'=true):
 Calls QP 51 #[.agg #[vT,vG,vS,I a8], .agg #[r,b0,b1,I c3]] w (AP fun v w'=>Below w.heap.size w w'∧v= .tuple #[.agg (CP ((FP T f).getD ⟨[],[],false⟩)).toArray, .bool (FP T f).isSome]):=by
 have l:=Dh.start (fun _=>0) w [];have e9:=h1.Av;have h0:=g.Av;have h2:=g.small;replace h1:Bi HY (AT (fun _=>0) []) w [0] vT T:=Rd.Cl h1 (fun k hk=>rfl);replace g:Bi HY (AT (fun _=>0) []) w [0] r f:=Rd.Cl g (fun k hk=>rfl);generalize AT (fun _=>0) []=c0 at l h1 g;refine enter (n:=30) (res:=#[.cell 4 112, .tmp 5]) Tryz.func51 Z Z Z Z<|Ab<|cg<|Dz c0 102 fun w1 b2 c1 c6 o=>?_;refine Dz c1 103 fun w2 b3 c2 c7 a1=>?_;refine Db c2 104 Ov fun h4 b4 c4 c8 j=>za Z<|Ac<|Ab<|Ab<|cg<|vq (Aa FQ Z)<|vq (Ah Kb Z a1.mv.Ap Z)<|vq (BI EI) ?_;refine zm Z<|Ac<|Ai<|WC.loop (σ:=Nat) (fun k=>[(2,P1 b2),(3,P1 b3),(4,P1 b4),(5, .bool false),(11,r),(12,I f.length),(13,I k)]) (fun k w'=>(k≤f.length∧∀x∈f.take k,(CR T x.Ak).isNone=false)∧∃c',Dh (fun _=>0) w [] c' w'∧Bi HY c' w' [0] vT T∧Bi HY c' w' [0] r f∧Ar c' w' 102 b2 [vT,vG,vS,I a8] 71∧Ar c' w' 104 b4 [St [],St [], .bool false] 112) (fun k=>f.length-k) 0 Aq ⟨⟨yU _,by simp⟩,_,l.mv,h1.mv,g.mv,o.mv,j⟩ ?_;clear l h1 g o a1 j;rintro k j0 ⟨⟨hk,U⟩,b6,l,h1,g,o,j⟩;refine Ab<|cg<|vq (AE Z Z)<|Ac<|Ab<|AS Z (fun b8=>?_) fun b8=>?_
 ·have R:k<f.length:=oo;have a6:=(BP g R dd).1;obtain⟨x,hx⟩:∃x,x=f[k]:=⟨_,Z⟩;rw[←hx] at a6;refine Aj<|Ab<|Ai<|Ab<|cg<|vq (ER EI) ?_;refine vq (Dg Gc Z a6.CY Z)<|Db b6 107 Ov fun h5 b7 b5 c9 t=>?_;refine WR.AI (Am Gc Z Z t Z Z AG) ?_;rintro _ h6 ⟨t,e0⟩;refine Ac<|Ab<|cg<|vq (Aa FQ Z)<|vq (Ah Kb Z o.mv.Ap Z)<|vq (Aa Lv Z)<|vq (Ah BK Z t.Ap Z)<|ve (Al b5 1 (Ay.call qH Z (SG (d:=x.Ak) h1.mv.now b9))) ?_;rintro h3 h7 ⟨c5,e1,e4,rfl⟩;refine zm Z<|vq (Ag Z Z)<|vq (Ag Z Z)<|za Z<|za Z<|Ac<|Ab<|cg<|zm Z<|vq (Bq Z)<|Ac<|AS Z (fun p=>?_) fun p=>?_
  ·have J:(CR T x.Ak).isNone=true:=by
    cases h:CR T x.Ak with
    |none=>rfl
    |some i=>rw[h] at p;simp at p
   have C:FP T f=some x:=by rw[hx];exact gj R U (by rw[←hx];exact J)
   refine Ab<|cg<|vq (AD Gc Z t.mv.Ap Z)<|WR.AI (Am Gc Z Z j.mv Z Z AG) ?_;rintro _ h8 ⟨j,e2⟩;refine za Z<|Ac<|DR Z (Br Gc Z j.Ap Z) (Cp.tmp Z) ?_;exact⟨l.mv.below,by rw[C];rfl⟩
  have J:(CR T x.Ak).isNone=false:=by
   cases h:CR T x.Ak with
   |none=>rw[h] at p;simp at p
   |some i=>rfl
  refine Aj<|cg<|vq (AH Z Z Ad Ad)<|zm Z<|Ac ?_;refine⟨k+1,Aq,⟨⟨by omega,fun z a7=>?_⟩,_,l.mv,h1.mv,g.mv,o.mv,j.mv⟩,by omega⟩;rw[yG R,←hx] at a7;rcases zH.1 a7 with h|h
  ·exact U z h
  rw[yN.1 h];exact J
 have C:FP T f=none:=TI (by
  have e:k=f.length:=oo;subst e;rwa [Ui] at U)
 refine WC.exit Z<|Ab<|cg<|vq (AB (cells:=#[St [],St [], .bool false]) Z kr) ?_;refine WR.AI (Am Gc Z Z j Z Z AG) ?_;rintro _ h9 ⟨j,e3⟩;refine za Z<|Ac<|DR Z (Br Gc Z j.Ap Z) (Cp.tmp Z) ?_;exact⟨l.mv.below,by rw[C];rfl⟩
structure Fi (c:Nat→Nat) (w:World) (k p:Nat) (vT vG vS:Value) (S:Hq):Prop where
 Ap:Ar c w 95 k [P1 p,vT,vG,vS,I S.next] 73
 t:Bi HY c w [96] vT S.things
 g:Bi RJ c w [96] vG S.tags
 s:Bi SH c w [96] vS S.sessions
 pt:Dc vT
 pg:Dc vG
 ps:Dc vS
theorem Fi.mv{c c':Nat→Nat}{w w':World}{k p:Nat}{vT vG vS:Value}{S:Hq}{I:List Nat}(h:Fi c w k p vT vG vS S)(m:Mv c w c' w' I:=by exact Go.Eng.Jb)(hi:Bd [95,96] I=true:=by rfl):Fi c' w' k p vT vG vS S:=
 ⟨h.Ap.mv m (Bo hi ss),h.t.mv m (BC hi ss),h.g.mv m (BC hi ss),h.s.mv m (BC hi ss),h.pt,h.pg,h.ps⟩
theorem bA{k:Nat}{o:Kf}{C r t:Value}{nx:Int}(a8:C.oneCell'=true)(b0:r.oneCell'=true)(b1:t.oneCell'=true)(hk:o.kind=1∨o.kind=2∨o.kind=5):
 Calls QP 29 #[P1 k, .agg (FB o).toArray, .agg #[C,r,t,I nx]] w (AP fun v w'=>Below w.heap.size w w'∧v=I 0):=by
 obtain⟨c,J,U⟩:=AQ.start w;clear U;refine enter (n:=80) (res:=#[.tmp 6]) Tryz.func29 Z Z Z Z<|Ab<|cg<|Dz c 104 fun w1 b4 c1 a1 R=>?_;refine Dz c1 105 fun w2 b5 c2 a6 a7=>?_;refine za Z<|Ac<|Ab<|Ab<|cg<|vq (Aa Gs Z)<|vq (Ah Au Z R.mv.Ap Z)<|Ac<|Ai<|Ab<|Ab<|cg<|vq (AU Z Z)<|za Z<|Ac<|CD Z (fun l=>?_) fun l=>?_
 ·simp only[JV] at l;omega
 refine cg<|vq (AU Z Z)<|za Z<|Ac<|CD Z (fun p=>?_) fun p=>?_
 ·simp only[JV] at p;omega
 refine Ab<|cg<|vq (AU Z Z)<|za Z<|Ac<|CD Z (fun f=>?_) fun f=>?_
 ·simp only[JV] at f;omega
 refine Ab<|cg<|vq (AU Z Z)<|za Z<|Ac<|CD Z (fun g=>?_) fun g=>?_
 ·simp only[JV] at g;omega
 refine Ab<|Ab<|cg<|vq (AU Z Z)<|za Z<|Ac<|CD Z (fun i=>?_) fun i=>?_
 ·simp only[JV] at i;omega
 refine cg<|vq (AU Z Z)<|za Z<|Ac<|CD Z (fun j=>?_) fun j=>?_
 ·simp only[JV] at j;omega
 refine Aj<|Ab<|cg<|za Z<|Ac<|Az Z Z ?_;exact⟨J.mv.below,Z⟩
def kX(n m:Nat)(P:Ek)(o:Option DE)(A:Cr)(J:JQ)(b:Bk)(f:Bool)(e:Int):Prop:=match o with
 |none=>A=P.A∧J=P.J∧b=P.b∧f=P.failed∧e=0
 |some x=>Xh n m P x.text x.Ak A J b f e
theorem bB{k p pa pj n m:Nat}{vT vG vS bS bT bG e3 e1 e2:Value}{nx:Int}{P:Ek}{S:Hq}{l:List DE}{o:Kf}{K:List Nat}(R:Fi c w k p vT vG vS S)(j:BU c w p pa pj bS bT bG P)(hs:Small P.s)(j4:0<n∧n≤12)(j3:1024≤m∧m≤2048)(e9:FF n m P.A)(h8:P.n≤64)(hc:P.A.changes≤800000000)(j8:Rs n P.J)(j0:Dv P.s P.b=true)(ht:P.b.tags=[])(j7:P.b.stripes.length≤800)(h1:P.J.used+3224≤32704)
 (r:Bi HY c w K e3 l)(h2:Bd K Dw=true)(c9:e1.oneCell'=true)(e0:e2.oneCell'=true)(c6:Hc S.things)(j2:∀x,FP S.things l=some x→x.Ff=false∧x.Ak.length=32∧x.text.length≤40)(l3:o.kind=3):
 Calls QP 29 #[P1 k, .agg (FB o).toArray, .agg #[e3,e1,e2,I nx]] w (AP fun v w'=>∃c',Mv c w c' w' Dw∧∃b1 b3 b6 f e a7 a8 b0,BU c' w' p pa pj a7 a8 b0 {P with A:=b1,J:=b3,b:=b6,failed:=f}∧kX n m P (FP S.things l) b1 b3 b6 f e∧v=I e):=by
 have hJ:=AZ.start c w Dw;have l7:=r.now.Av;replace j:=j.Ca (K:=Dw);replace r:=r.Ca h2;have C:=R.Ap.Kc (J:=Dw) Z;have a6:Bi HY (AT c Dw) w [0] vT S.things:=R.t.Ca Z;have l6:=R.t.now.Av;have c7:=R.g.now.Av;have c8:=R.s.now.Av;clear R;generalize AT c Dw=c0 at hJ j r C a6;refine enter (n:=80) (res:=#[.tmp 6]) Tryz.func29 Z Z Z Z<|Ab<|cg<|Dz c0 104 fun w1 b4 c1 k7 c3=>?_;refine Dz c1 105 fun w2 b5 c2 k9 c4=>?_;refine za Z<|Ac<|Ab<|Ab<|cg<|vq (Aa Gs Z)<|vq (Ah Au Z c3.mv.Ap Z)<|Ac<|Ai<|Ab<|Ab<|cg<|vq (AU Z Z)<|za Z<|Ac<|Sb Z (fun U=>?_) fun U=>?_
 ·refine Aj<|Sb Z (fun U=>?_) fun U=>?_
  ·refine Ab<|WC.mono (N:=(fun b9 w'=>∃(c':Nat→Nat) (b7:Nat),Sub [(4000000, .tuple #[]),(0,P1 k),(6, .int .i64 0),(7,P1 b7),(8, .bool (FP S.things l).isSome)] b9∧AZ c w Dw c' w'∧BU c' w' p pa pj bS bT bG P∧Ar c' w' 0 k [P1 p,vT,vG,vS,I S.next] 73∧Ar c' w' 107 b7 (CP ((FP S.things l).getD ⟨[],[],false⟩)) 112)) ?_ ?_
   ·refine Rm c2 [] [0,0,0,1,1,2,0,0,0,2,3,0] (.quiet 0 (.quiet 1 (.quiet 2 (.quiet 3 (.quiet 4 (.two 5 (.quiet 6 (.quiet 7 (.quiet 8 (.one 9 (.one 10 (.quiet 11 .nil)))))) 9 (.one 5 (.quiet 6 (.quiet 7 (.quiet 8 (.one 10 (.quiet 11 .nil)))))))))))) fun n1 l0 g=>?_;refine WT.val Z Z Z (fun _=>Bx Z) Z<|WT.val Z Z Z (fun _=>Ae Z) Z<|WT.val Z Z Z (fun _=>Aa Wd Z) Z<|WT.Iw Z Z Z g.kp (fun W h9=>Cy MY Z (C.mv.kp h9 Z).Ap (yV Z)) Z<|WT.Iw Z Z Z g.kp (c4.mv.kn MY Z Z) Z<|WT.two ?_ ?_
    ·refine WS.AW Z Z Z (Al c2 1 (Ay.call sK Z (ZT a6.mv.now r.mv.now c6 c7 c8 c9 e0))) Z ?_;rintro k2 n2 ⟨e5,h4,l4,rfl⟩;refine g.AX h4 fun g=>WT.val Z Z Z (fun _=>Bx Z) Z<|WT.val Z Z Z (fun _=>Ag Z Z) Z<|WT.val Z Z Z (fun _=>Ag Z Z) Z<|WT.one<|WS.AW Z Z Z (Cj e5 107 Ov) Z ?_;rintro _ n3 ⟨b7,k5,rfl,h5,i⟩;refine g.AX h5 fun g=>WT.one<|WS.wild Z Z Z (Am Gc Z Z i Z Z AG) ?_;rintro _ n4 ⟨i,l1⟩;refine WT.val Z Z Z (fun _=>BD Z) Z<|WT.nil ?_;exact⟨_,_,Aq,hJ.mv,j.mv,C.mv,i⟩
    refine WS.AW Z Z Z (Cj c2 107 Ov) Z ?_;rintro _ n5 ⟨b7,e6,rfl,h6,i⟩;refine g.AX h6 fun g=>WT.one<|WS.AW Z Z Z (Al e6 1 (Ay.call sK Z (ZT a6.mv.now r.mv.now c6 c7 c8 c9 e0))) Z ?_;rintro k2 n6 ⟨k6,h7,l5,rfl⟩;refine g.AX h7 fun g=>WT.val Z Z Z (fun _=>Bx Z) Z<|WT.val Z Z Z (fun _=>Ag Z Z) Z<|WT.val Z Z Z (fun _=>Ag Z Z) Z<|WT.one<|WS.wild Z Z Z (Am Gc Z Z i.mv Z Z AG) ?_;rintro _ n7 ⟨i,l2⟩;refine WT.val Z Z Z (fun _=>BD Z) Z<|WT.nil ?_;exact⟨_,_,Aq,hJ.mv,j.mv,C.mv,i⟩
   clear hJ j C r a6 c3 c4;rintro b9 k3 ⟨b8,b7,j6,hJ,j,C,i⟩;refine WC.sub j6<|Ab<|Ab<|cg<|zm Z<|vq (Bq Z)<|Ac<|AS Z (fun a1=>?_) fun a1=>?_
   ·have j5:FP S.things l=none:=by
     cases h:FP S.things l with
     |none=>rfl
     |some x=>rw[h] at a1;simp at a1
    refine Ab<|cg<|za Z<|Ac<|Az Z Z ?_;exact⟨_,hJ.out,P.A,P.J,P.b,P.failed,0,bS,bT,bG,j.out hJ,by rw[j5];exact⟨Z,Z,Z,Z,Z⟩,Z⟩
   obtain⟨x,hx⟩:∃x,FP S.things l=some x:=by
    cases h:FP S.things l with
    |none=>rw[h] at a1;simp at a1
    |some x=>exact⟨x,Z⟩
   obtain⟨j9,k0,k1⟩:=j2 x hx;rw[hx] at i;have j1:Ar b8 k3 107 b7 [St x.Ak,St x.text, .bool false] 112:=by rw[←j9];exact i
   clear i;have i:=j1;refine Aj<|Ab<|cg<|za Z<|Ac<|Ab<|Ab<|cg<|vq (Aa XL Z)<|vq (Ah Jc Z i.Ap Z)<|Ac<|CD Z (fun c5=>?_) fun c5=>?_
   ·exact absurd c5 dd
   refine Aj<|Ab<|AY b8 Dw [0,0,0,1,0,1,0,0,1,0,1,0,0,2,0] [0,1,2,3,4,5,6,7,8,9,10,11,12,13,14] fun l9 k8 g=>?_;refine AK Z Z<|vd Z (fun _=>Ae Z)<|vd Z (fun _=>Aa Ml Z)<|vc Z g.kp (C.mv.kb Jt Z Z)<|vd Z (fun _=>Aa Lw Z)<|vc Z g.kp (i.mv.kb BK Z Z)<|AK Z Z<|vd Z (fun _=>Aa Lv Z)<|vc Z g.kp (i.mv.kb BK Z Z)<|vd Z (fun _=>Aa Lw Z)<|vc Z g.kp (i.mv.kb BK Z Z)<|vd Z (fun _=>Bp.BY gx Z)<|vd Z (fun _=>AB (cells:=#[I 4,I x.text.length,St [],St x.Ak, .slice none 0 0, .slice none 0 0]) Z kr) ?_;refine WD.AW Z Z Z (Ay.call xI Z (oe (t:=x.text) (d:=x.Ak) j.mv hs j4 j3 e9 h8 hc j8 j0 ht k0 k1 j7 h1)) Z ?_;rintro l8 n0 ⟨k4,h3,⟨A2,e4,b2,e8,e7,a7,a8,b0,j,h0,rfl⟩⟩;refine g.AX h3 fun g=>Ga Z Z<|WD.nil ?_;clear g;refine Az Z Z ?_;exact⟨_,hJ.mv.out,A2,e4,b2,e8,e7,a7,a8,b0,j.out hJ.mv,by rw[hx];exact h0,Z⟩
  simp only[JV] at U;omega
 simp only[JV] at U;omega
end Go.Proofs.K
namespace Go.Eng
open Go Go.RowKit Silo
abbrev bC:List Nat:=[71,72,73]
def EW(c:Nat→Nat):Nat→Nat:=fun k=>if AA bC (c k)=true then 96 else c k
theorem kY{k:Nat}(h:AA bC (c k)=true):EW c k=96:=by simp[EW,h]
theorem EQ{k i:Nat}(h:c k=i)(hi:AA bC i=false:=by rfl):EW c k=i:=by
 unfold EW;rw[h,hi];rfl
abbrev NQ:List Nat:=95::96::76::CT
section
variable {c0 c:Nat→Nat} {w0 w:World}
theorem AZ.EW(h:AZ c0 w0 NQ c w):AZ c0 w0 NQ (Go.Eng.EW c) w:=⟨h.os,h.tape,h.output,h.size,fun k hk=>by
 have f:=h.Bf k hk;have hi:AA bC (AT c0 NQ k)=false:=by
  cases hc:AA NQ (c0 k) with
  |false=>rw[Ha hc];rfl
  |true=>
   rw[IA hc];exact DS Z hc
 exact EQ f hi,h.block⟩
theorem By.EW{p:Nat}{A:Cr}(h:By c w p A):By (Go.Eng.EW c) w p A:=by
 obtain⟨v,X,a,b⟩:=h;exact⟨v,X,⟨a.Ap,EQ a.Bf⟩,b.live,⟨b.own.own,fun k hk=>EQ (b.own.Bf k hk)⟩,⟨b.rows.len,fun j v l f g=>⟨(b.rows.row j v l f g).own,fun k hk=>EQ ((b.rows.row j v l f g).Bf k hk)⟩,b.rows.apart⟩,⟨b.maps.len,fun j v l f g=>⟨(b.maps.row j v l f g).obj,EQ (b.maps.row j v l f g).Bf⟩,b.maps.apart⟩⟩
theorem DI.EW{p pa:Nat}{j:JQ}(h:DI c w p pa j):DI (Go.Eng.EW c) w p pa j:=by
 obtain⟨f,g,cs,a,b,d⟩:=h;exact⟨f,g,cs,⟨a.Ap,EQ a.Bf⟩,⟨b.own,fun k hk=>EQ (b.Bf k hk)⟩,⟨d.own,fun k hk=>EQ (d.Bf k hk)⟩⟩
theorem Fq.EW{Φ:World→Prop}{S:List Nat}(h:Fq Φ c w S)(g:S.all (AA bC)=true:=by rfl):Fq Φ (Go.Eng.EW c) w [96]:=Hm.mono h fun k _ hk=>by
 show AA [96] (Go.Eng.EW c k)=true
 cases f:AA bC (c k) with
 |true=>rw[kY f];rfl
 |false=>rw[Hy g f] at hk;cases hk
theorem Fq.bD{Φ:World→Prop}{i:Nat}(h:Fq Φ c w [i])(hi:AA bC i=false:=by rfl):Fq Φ (Go.Eng.EW c) w [i]:=Hm.mono h fun k _ hk=>by
 show AA [i] (Go.Eng.EW c k)=true
 rw[EQ (Lp.1 hk) hi];simp[AA]
theorem BU.EW{p pa pj:Nat}{vS vT vG:Value}{P:Ek}(h:BU c w p pa pj vS vT vG P):BU (Go.Eng.EW c) w p pa pj vS vT vG P:=
 ⟨⟨h.Ap.Ap,EQ h.Ap.Bf⟩,h.arr.EW,h.rD.EW,⟨h.bk.s.bD,h.bk.t.bD,h.bk.g.bD⟩⟩
end
end Go.Eng
namespace Go.Proofs.K
open Go Go.Eng Go.RowKit Silo TryzT
theorem Fi.Ca{k p:Nat}{vT vG vS:Value}{S:Hq}(h:Fi c w k p vT vG vS S):Fi (AT c NQ) w k p vT vG vS S:=
 ⟨h.Ap.Ca Z,WY h.t Z,WY h.g Z,WY h.s Z,h.pt,h.pg,h.ps⟩
theorem Fi.out{c0 c:Nat→Nat}{w0 w:World}{k p:Nat}{vT vG vS:Value}{S:Hq}(h:Fi c w k p vT vG vS S)(hJ:AZ c0 w0 NQ c w):Fi (back c0 w0 c) w k p vT vG vS S:=
 ⟨h.Ap.out hJ Z,h.t.TB hJ Z,h.g.TB hJ Z,h.s.TB hJ Z,h.pt,h.pg,h.ps⟩
theorem kZ{k p:Nat}{vT vG vS:Value}{S:Hq}(h:Fi c w k p vT vG vS S)(j:KG S):Calls QP 26 #[.agg #[vT,vG,vS,I S.next]] w (AP fun v w'=>∃c',Mv c w c' w' []∧∃i f g,v= .agg #[i,f,g,I S.next]∧Ao c' w' 71 112 3 i S.things.length (S.things.flatMap CP)∧Ao c' w' 72 115 2 f S.tags.length (S.tags.flatMap Is)∧Ao c' w' 73 118 2 g S.sessions.length (S.sessions.flatMap Fw)):=by
 obtain⟨_,_,_,l,o,r,_⟩:=j;exact mL (c:=c) h.t.now h.g.now h.s.now h.pt h.pg h.ps oo oo oo
theorem gm{k p pa pj n m:Nat}{vT vG vS bS bT bG a8 a6 a7:Value}{nx:Int}{P:Ek}{S:Hq}{i:List DE}{o:Kf}{K:List Nat}(b7:Fi c w k p vT vG vS S)(R:BU c w p pa pj bS bT bG P)(hs:Small P.s)(c3:0<n∧n≤12)(c2:1024≤m∧m≤2048)(b3:FF n m P.A)(b8:P.n≤64)(hc:P.A.changes≤800000000)(c6:Rs n P.J)(b9:Dv P.s P.b=true)(ht:P.b.tags=[])(c5:P.b.stripes.length≤800)(b5:P.J.used+3224≤32704)
 (C:Bi HY c w K a8 i)(b6:Bd K Dw=true)(U:a6.oneCell'=true)(a1:a7.oneCell'=true)(c4:Hc S.things)(c0:o.kind=3→∀x,FP S.things i=some x→x.Ff=false∧x.Ak.length=32∧x.text.length≤40)(c7:o.kind=1∨o.kind=2∨o.kind=3∨o.kind=5):
 Calls QP 29 #[P1 k, .agg (FB o).toArray, .agg #[a8,a6,a7,I nx]] w (AP fun v w'=>∃c',Mv c w c' w' Dw∧∃j l r f e b0 b1 b2,BU c' w' p pa pj b0 b1 b2 {P with A:=j,J:=l,b:=r,failed:=f}∧kX n m P (if o.kind=3 then FP S.things i else none) j l r f e∧v=I e):=by
 by_cases g:o.kind=3
 ·rw[yP g];exact bB b7 R hs c3 c2 b3 b8 hc c6 b9 ht c5 b5 C b6 U a1 c4 (c0 g) g
 rw[yK g];refine(bA (w:=w) (k:=k) (o:=o) (nx:=nx) C.now.Av U a1 oo).mono fun e w' ⟨v,c1,b4,hv⟩=>?_;obtain⟨c',t,_⟩:=Mv.pure c 1 b4;exact⟨v,c1,c',t.more Z,P.A,P.J,P.b,P.failed,0,bS,bT,bG,R.mv t Z,⟨Z,Z,Z,Z,Z⟩,hv⟩
def Px(P:Ek)(A:Cr)(J:JQ)(b:Bk)(f:Bool):Prop:=A=P.A∧J=P.J∧b=P.b∧f=P.failed
def PE(n m:Nat)(P:Ek)(S:Hq)(o:Kf)(A:Cr)(J:JQ)(b:Bk)(f:Bool)(S':Hq)(r:ev):Prop:=
 if(P.failed||P.J.failed)=true∧KV o.kind=false then Px P A J b f∧S'=S∧r=⟨0,[],10⟩
 else if(Jd S o).2.err≠0 then Px P A J b f∧S'=S∧r=(Jd S o).2
 else if o.kind=4∨o.kind=6 then Px P A J b f∧S'=S∧r=if(Fy P.A P.s P.b o.Ak).2≠0 then⟨0,[],(Fy P.A P.s P.b o.Ak).2⟩ else(Jd S o).2
 else∃e,kX n m P (if o.kind=3 then FP S.things (Jd S o).1.things else none) A J b f e∧if e≠0 then S'=S∧r=⟨0,[],e⟩ else S'=(Jd S o).1∧r=(Jd S o).2
theorem rX{k p pa pj n m:Nat}{vT vG vS bS bT bG:Value}{P:Ek}{S:Hq}{o:Kf}(i:Fi c w k p vT vG vS S)(j:BU c w p pa pj bS bT bG P)(hs:Small P.s)(j8:0<n∧n≤12)(j7:1024≤m∧m≤2048)(c7:FF n m P.A)(l3:P.n≤64)(hc:P.A.changes≤800000000)(n0:Rs n P.J)(j0:Dv P.s P.b=true)(ht:P.b.tags=[])(l9:P.b.stripes.length≤800)(k9:P.J.used+3224≤32704)
 (h7:KG S)(l4:SK o)(j9:Hc S.things)(l7:SJ S.sessions)(l6:1≤o.kind∧o.kind≤6)(h8:KG (Jd S o).1)(j3:o.kind=3→∀x,FP S.things (Jd S o).1.things=some x→x.Ff=false∧x.Ak.length=32∧x.text.length≤40):
 Calls QP 7 #[P1 k, .agg (FB o).toArray] w (AP fun v w'=>∃c',Mv c w c' w' NQ∧∃h0 h1 h3 f S' r c4 c5 c6 e8 e6 e7,Fi c' w' k p e8 e6 e7 S'∧BU c' w' p pa pj c4 c5 c6 {P with A:=h0,J:=h1,b:=h3,failed:=f}∧PE n m P S o h0 h1 h3 f S' r∧v= .agg (LQ r).toArray):=by
 have hJ:=AZ.start c w NQ;replace j:=j.Ca (K:=NQ);replace i:=i.Ca;generalize AT c NQ=c0 at hJ j i;have l5:UR P.A:=c7.wf j8 ⟨by omega,j7.2⟩ oo;obtain⟨l,j6,j4,j5,q2,q0,q1⟩:=id i;have r1:=j6.now.Av;have r2:=j4.now.Av;have r3:=j5.now.Av;clear l j6 j4 j5;refine enter (n:=75) (res:=#[.cell 4 42]) Tryz.func7 Z Z Z Z ?_;have l:=i.Ap;refine Ab<|cg<|Dz c0 103 fun w1 b3 c1 n9 a1=>?_;refine Db c1 104 Ik fun w2 b4 c2 o8 g=>Ac<|Ab<|Ab<|cg<|zm Z<|vq (Ae Z)<|vq (Aa Ml Z)<|vq (Ah Jt Z l.mv.Ap Z)<|ve (Al c2 1 (Ay.call qD Z (NO ⟨pa,pj,bS,bT,bG,j.mv⟩))) ?_;rintro r4 u7 ⟨h4,p2,q8,rfl⟩;refine zm Z ?_;apply WR.Ko h4 true 3 (!KV o.kind) BT
 ·intro q4 l0;refine wo<|vq (AD XI rfl a1.mv.Ap rfl)<|wo<|ve (Al h4 1 (Ay.call xo rfl (gl (o:=o)))) ?_;rintro r5 u9 ⟨n6,p3,q9,rfl⟩;refine wo<|vq (Bq rfl) ?_;exact WR.Kq 3 l0.mv
 intro v7 k7 p4;refine Ac<|AS rfl (fun c8=>?_) fun c8=>?_
 ·have C:(P.failed||P.J.failed)=true∧KV o.kind=false:=by simpa using c8
  refine Ab<|cg<|ve (Al k7 1 (Ay.call qE Z (NP (e:=10)))) ?_;rintro r6 v8 ⟨n7,p5,r0,rfl⟩;refine WR.AI (Am BH Z Z g.mv Z Z AG) ?_;rintro _ w0 ⟨g,p6⟩;refine Ac<|Fz Z (Br BH Z g.Ap Z) ?_;exact⟨_,hJ.mv.out,P.A,P.J,P.b,P.failed,S,⟨0,[],10⟩,bS,bT,bG,vT,vG,vS,i.mv.out hJ.mv,j.mv.out hJ.mv,by rw[PE,yP C];exact⟨⟨Z,Z,Z,Z⟩,Z,Z⟩,Z⟩
 have C:¬((P.failed||P.J.failed)=true∧KV o.kind=false):=by simpa using c8
 refine Aj<|Ab<|cg<|zm Z<|vq (Ae Z)<|vq (Aa Wd Z)<|vq (Cy MY Z l.mv.Ap (yV Z))<|ve (Ay.call xp Z (kZ i.mv h7)) ?_;rintro r7 w3 ⟨k8,p7,⟨e8,e6,e7,rfl,t,a7,a8⟩⟩;have n1:=t.Av;have k0:=a7.Av;have k1:=a8.Av;refine Db k8 70 hY fun w4 b5 n8 p8 a6=>WR.AI (Am MY Z Z a6 Z Z AG) ?_;rintro _ s4 ⟨a6,o0⟩;refine Ac<|Ab<|cg<|vq (AD XI Z a1.mv.Ap Z)<|ve (Ay.call xq Z (iP ⟨e8,e6,e7,a6,t.mv,a7.mv,a8.mv⟩ h7 l4 j9 l7 l6)) ?_;rintro v30 s5 ⟨k3,o1,⟨h9,rfl⟩⟩;obtain⟨R,b7⟩:∃R,R=(Jd S o).1:=⟨_,Z⟩;obtain⟨c3,b1⟩:∃c3,c3=(Jd S o).2:=⟨_,Z⟩;rw[←b7] at h9;rw[←b1];refine zm Z<|vq (Ag Z Z)<|vq (Ag Z Z)<|vq (Ag Z Z)<|Db k3 106 Ik fun s6 b6 k4 l1 b8=>?_;refine WR.AI (Am BH Z Z b8 Z Z AG) ?_;rintro _ s7 ⟨b8,l2⟩;refine za Z<|za Z<|Ac<|Ab<|Ai<|Ab<|cg<|zm Z<|vq (Bq Z)<|za Z<|Ac<|CD Z (fun j2=>?_) fun j2=>?_
 ·exact absurd j2 dd
 refine Ab<|cg<|zm Z<|vq (Bm Z Z)<|za Z<|Ac<|AS Z (fun e1=>?_) fun e1=>?_
 ·have b0:(Jd S o).2.err≠0:=by rw[←b1];simpa using e1
  refine Ab<|cg<|vq (AD BH Z b8.Ap Z)<|WR.AI (Am BH Z Z g.mv Z Z AG) ?_;rintro _ s8 ⟨g,o2⟩;refine Ac<|Fz Z (Br BH Z g.Ap Z) ?_;exact⟨_,hJ.mv.out,P.A,P.J,P.b,P.failed,S,c3,bS,bT,bG,vT,vG,vS,i.mv.out hJ.mv,j.mv.out hJ.mv,by rw[PE,yK C,yP b0];exact⟨⟨Z,Z,Z,Z⟩,Z,b1⟩,Z⟩
 have b0:¬(Jd S o).2.err≠0:=by rw[←b1];simpa using e1
 refine Aj<|Ab<|Ab<|cg<|vq (Aa Gs Z)<|vq (Ah Au Z a1.mv.Ap Z)<|vq (AU Z Z)<|zm Z ?_;apply WR.CJ false 3 _ BT
 ·intro q3;refine wo<|vq (Aa Gs rfl)<|wo<|vq (Ah Au rfl a1.mv.Ap rfl)<|wo<|vq (AU rfl rfl) ?_;exact Dm 3
 refine Ac<|AS Z (fun e2=>?_) fun e2=>?_
 ·have b9:o.kind=4∨o.kind=6:=by simpa using e2
  refine Ab<|Ab<|cg<|zm Z<|vq (Aa Ky Z)<|vq (Ah BK Z a1.mv.Ap Z)<|ve (Al k4 1 (Ay.call xr Z (kd (d:=o.Ak) l.mv ⟨pa,pj,bS,bT,bG,j.mv⟩ hs c7 l5 j0))) ?_;rintro r8 s9 ⟨k5,o3,q5,rfl⟩;obtain⟨ke,e3⟩:∃ke,ke=(Fy P.A P.s P.b o.Ak).2:=⟨_,Z⟩;rw[←e3];refine zm Z<|vq (Ag Z Z)<|vq (Ag Z Z)<|za Z<|za Z<|Ac<|Ab<|cg<|zm Z<|vq (Bm Z Z)<|Ac<|AS Z (fun c9=>?_) fun c9=>?_
  ·have e4:ke≠0:=by simpa using c9
   refine Ab<|cg<|zm Z<|ve (Al k5 1 (Ay.call qE Z (NP (e:=ke)))) ?_;rintro r9 u0 ⟨n4,o4,q6,rfl⟩;refine WR.AI (Am BH Z Z g.mv Z Z AG) ?_;rintro _ u1 ⟨g,o5⟩;refine Ac<|Fz Z (Br BH Z g.Ap Z) ?_;exact⟨_,hJ.mv.out,P.A,P.J,P.b,P.failed,S,⟨0,[],ke⟩,bS,bT,bG,vT,vG,vS,i.mv.out hJ.mv,j.mv.out hJ.mv,by rw[PE,yK C,yK b0,yP b9,←e3,yP e4];exact⟨⟨Z,Z,Z,Z⟩,Z,Z⟩,Z⟩
  have e4:¬ke≠0:=by simpa using c9
  refine Aj<|Ab<|cg<|vq (AD BH Z b8.mv.Ap Z)<|WR.AI (Am BH Z Z g.mv Z Z AG) ?_;rintro _ u2 ⟨g,o6⟩;refine Ac<|Fz Z (Br BH Z g.Ap Z) ?_;exact⟨_,hJ.mv.out,P.A,P.J,P.b,P.failed,S,c3,bS,bT,bG,vT,vG,vS,i.mv.out hJ.mv,j.mv.out hJ.mv,by rw[PE,yK C,yK b0,yP b9,←e3,yK e4];exact⟨⟨Z,Z,Z,Z⟩,Z,b1⟩,Z⟩
 have b9:¬(o.kind=4∨o.kind=6):=by simpa using e2
 rw[←b7] at h8 j3;obtain⟨wT,e9,wS,a6,t,a7,a8⟩:=((h9.mv l1).mv l2);have n1:=t.Av;have k0:=a7.Av;have k1:=a8.Av;obtain⟨k2,n2,n3,w6,w7,w8,w9⟩:=id h8;have l8:Bi HY _ _ [71] wT R.things:=t.mG oo k2;refine Aj<|Ab<|Ab<|cg<|zm Z<|vq (AD XI Z a1.mv.Ap Z)<|vq (AD MY Z a6.Ap Z)<|ve (Ay.call xt Z (gm (K:=[71]) i.mv j.mv hs j8 j7 c7 l3 hc n0 j0 ht l9 k9 l8 Z k0 k1 j9 j3 oo)) ?_;rintro s0 u3 ⟨k6,o7,⟨A2,h2,b2,h5,U,c4,c5,c6,j,h6,rfl⟩⟩;refine za Z<|Ac<|Ab<|cg<|zm Z<|vq (Bm Z Z)<|Ac<|AS Z (fun e0=>?_) fun e0=>?_
 ·have e5:U≠0:=by simpa using e0
  refine Ab<|cg<|zm Z<|ve (Al k6 1 (Ay.call qE Z (NP (e:=U)))) ?_;rintro s3 u4 ⟨n5,o9,q7,rfl⟩;refine WR.AI (Am BH Z Z g.mv Z Z AG) ?_;rintro _ u5 ⟨g,p0⟩;refine Ac<|Fz Z (Br BH Z g.Ap Z) ?_;exact⟨_,hJ.mv.out,A2,h2,b2,h5,S,⟨0,[],U⟩,c4,c5,c6,vT,vG,vS,i.mv.out hJ.mv,j.mv.out hJ.mv,by rw[PE,yK C,yK b0,yK b9];exact⟨U,by rw[←b7];exact h6,by rw[yP e5];exact⟨Z,Z⟩⟩,Z⟩
 have e5:¬U≠0:=by simpa using e0
 refine Aj<|Ab<|cg<|zm Z<|vq (AD MY Z a6.mv.Ap Z)<|vq (Ae Z)<|vq (Aa Wd Z)<|WR.AI (Mk MY Z Z l.mv Z (yV Z) AG) ?_;rintro _ w5 ⟨j1,p9⟩;clear i l;have l:=j1;rw[show([P1 p,vT,vG,vS,I S.next].take (0+1)++[wT,e9,wS,I R.next]++[P1 p,vT,vG,vS,I S.next].drop (0+1+4))=[P1 p,wT,e9,wS,I R.next] from Z] at l;clear j1;refine Ac<|Ab<|cg<|vq (AD BH Z b8.mv.Ap Z)<|WR.AI (Am BH Z Z g.mv Z Z AG) ?_;rintro _ u6 ⟨g,p1⟩;refine Ac<|Fz Z (Br BH Z g.Ap Z)<|⟨_,AZ.out hJ.mv.EW,A2,h2,b2,h5,R,c3,c4,c5,c6,wT,e9,wS,Fi.out ⟨⟨l.mv.Ap,EQ l.mv.Bf⟩,Fq.EW (t.mv.mG oo k2),Fq.EW (a7.mv.zg oo n2),Fq.EW (a8.mv.ri oo n3),t.mv.own.Qr,a7.mv.own.Qr,a8.mv.own.Qr⟩ hJ.mv.EW,j.mv.EW.out hJ.mv.EW,?_,Z⟩;rw[PE,yK C,yK b0,yK b9];exact⟨U,by rw[←b7];exact h6,by rw[yK e5];exact⟨b7,b1⟩⟩
def Ug:Hq:=⟨[],[],[],0⟩
theorem ol{pa n m N:Nat}{A:Cr}{s:Cn}(f:By c w pa A)(hs:Small s)(a6:s.k+s.m≤n∧n≤7)(C:1≤N∧N≤12)(a1:1024+N*Bn s.size≤m∧m≤2048)(hp:FF n m A)(hc:A.changes≤800000000)(hl:∀k:Nat,k<n→Cf A k=true)(a7:∀d s:Nat,d<n→s<1024→Cb A d s=(zT,0)):
 Calls QP 22 #[P1 pa, .agg (DO s).toArray,I N] w (AP fun u w'=>∃c',Mv c w c' w' Bt∧∃i k p pj j,Fi c' w' k p (.slice none 0 0) (.slice none 0 0) (.slice none 0 0) Ug∧BU c' w' p pa pj (.slice none 0 0) (.slice none 0 0) (.slice none 0 0) ⟨s,N,i,j,eZ,(-1,-1),false⟩∧Hj n m 20000 A i∧Rs n j∧j.used=24∧j.failed=false∧u= .tuple #[P1 k,I 0]):=by
 have hJ:=AZ.start c w Bt;replace f:=f.NF (K:=Bt);generalize AT c Bt=c0 at hJ f;refine enter (n:=23) (res:=#[.tmp 6, .tmp 7]) Tryz.func22 Z Z Z Z<|Ab<|cg<|Dz c0 104 fun w1 b4 c1 b1 R=>?_;refine za Z<|za Z<|Ac<|Ab<|cg<|zm Z<|vq (AD Cq Z R.Ap Z)<|zm Z<|ve (Ay.call xA Z (oh f.mv hs a6 C a1 hp hc hl a7)) ?_;rintro b5 w2 ⟨c2,b2,⟨A1,o,pj,j,g,t,a8,hu,U,rfl⟩⟩;refine zm Z<|vq (Ag Z Z)<|vq (Ag Z Z)<|za Z<|za Z<|Ac<|Ab<|Ab<|cg<|zm Z<|vq (Bm Z Z)<|Ac<|CD Z (fun l=>?_) fun l=>?_
 ·exact absurd l dd
 refine Aj<|Ab<|cg<|zm Z<|vq (AB (cells:=#[P1 o, .slice none 0 0, .slice none 0 0, .slice none 0 0,I 0]) Z kr) ?_;refine Dz c2 95 fun b6 r b0 b3 J=>?_;refine za Z<|za Z<|Ac<|Dn Z Z Z<|⟨_,hJ.mv.out,A1,r,o,pj,j,⟨J.Ej hJ.mv,fun w' _ _=>Dx.nil HY _ _,fun w' _ _=>Dx.nil RJ _ _,fun w' _ _=>Dx.nil SH _ _,⟨none,0,0,Z,fun h=>by omega⟩,⟨none,0,0,Z,fun h=>by omega⟩,⟨none,0,0,Z,fun h=>by omega⟩⟩,⟨g.mv.Ap.Ej hJ.mv,By.MP g.mv.arr hJ.mv,DI.Ej g.mv.rD hJ.mv,⟨?_,?_,?_⟩⟩,t,a8,hu,U,Z⟩
 ·exact fun w' _ _=>Dx.nil ES _ _
 ·exact fun w' _ _=>Dx.nil IU _ _
 exact fun w' _ _=>Dx.nil RJ _ _
section
variable {c:Nat→Nat} {w:World} {k p pa pj n m:Nat} {vT vG vS bS bT bG:Value} {P:Ek} {S:Hq}
theorem om(g:Fi c w k p vT vG vS S)(hp:Ts c w p P)(hs:Small P.s)(hl:P.b.stripes.length≤100000):Calls QP 36 #[P1 k] w (AP fun u w'=>Below w.heap.size w w'∧u=I ((P.b.stripes.length*(P.s.k+P.s.m):Nat):Int)):=by
 have f:Bz w w:=Bz.refl w;have i:=g.Ap.Ap;have hc:=nS hp hs hl;refine enter (n:=8) (res:=#[.tmp 2]) Tryz.func36 Z Z Z Z<|Ab<|cg<|za Z<|Ac<|Ab<|cg<|zm Z<|vq (Ae Z)<|vq (Aa Ml Z)<|vq (Ah Jt Z i Z)<|ve (Ay.call xL Z hc) ?_;rintro l w1 ⟨j,rfl⟩;refine za Z<|Ac<|Az Z Z ?_;exact⟨(f.up j),Z⟩
theorem la(i:Fi c w k p vT vG vS S)(hp:Ts c w p P)(hs:Small P.s)(f:FF n m P.A)(j:UR P.A)(o:Dv P.s P.b=true)(hl:P.b.stripes.length≤1000):Calls QP 37 #[P1 k] w (AP fun u w'=>Below w.heap.size w w'∧u=I (Xj P.A P.s P.b.stripes:Nat)):=by
 have g:Bz w w:=Bz.refl w;have l:=i.Ap.Ap;have hc:=kS hp hs f j o hl;refine enter (n:=8) (res:=#[.tmp 2]) Tryz.func37 Z Z Z Z<|Ab<|cg<|za Z<|Ac<|Ab<|cg<|zm Z<|vq (Ae Z)<|vq (Aa Ml Z)<|vq (Ah Jt Z l Z)<|ve (Ay.call xM Z hc) ?_;rintro t w1 ⟨r,rfl⟩;refine za Z<|Ac<|Az Z Z ?_;exact⟨(g.up r),Z⟩
theorem lb(b0:Fi c w k p vT vG vS S)(g:BU c w p pa pj bS bT bG P)(hs:Small P.s)(b7:0<n∧n≤12)(b6:1024≤m∧m≤2048)(a7:FF n m P.A)(b1:P.n≤64)(hc:P.A.changes≤800000000)(b9:Rs n P.J)(b4:Dv P.s P.b=true)(ht:P.b.tags=[])(b8:P.b.stripes.length≤800)(a8:P.J.used+3224≤32704)(b5:-1≤P.at_.2∧P.at_.2≤1000):
 Calls QP 13 #[P1 k] w (AP fun v w'=>∃c',Mv c w c' w' Dw∧∃r t C f g1 g2 i e j l o,BU c' w' p pa pj j l o {P with A:=r,J:=t,b:=C,at_:=(g1,g2),failed:=f}∧Km n m P r t C∧(-1≤g2∧g2≤1000)∧v= .tuple #[.bool i,I e]):=by
 have hJ:=AZ.start c w Dw;replace g:=g.Ca (K:=Dw);have R:=b0.Ap.Kc (J:=Dw) Z;generalize AT c Dw=c0 at hJ g R;refine enter (n:=11) (res:=#[.tmp 2, .tmp 3]) Tryz.func13 Z Z Z Z<|Ab<|cg<|za Z<|za Z<|Ac<|Ab<|cg<|zm Z<|vq (Ae Z)<|vq (Aa Ml Z)<|vq (Ah Jt Z R.Ap Z)<|ve (Ay.call xv Z (kW g hs b7 b6 a7 b1 hc b9 b4 ht b8 a8 b5)) ?_;rintro c3 w1 ⟨c1,c2,⟨A2,U,b2,a6,g1,g2,i,a1,j,l,o,g,b3,hg,rfl⟩⟩;refine vq (Ag Z Z)<|vq (Ag Z Z)<|za Z<|za Z<|Ac<|Dn Z Z Z ?_;exact⟨_,hJ.mv.out,A2,U,b2,a6,g1,g2,i,a1,j,l,o,g.out hJ.mv,b3,hg,Z⟩
end
end Go.Proofs.K
namespace Silo
open Go Go.Eng
structure Py where
 act:Int
 d:Int
 n:Int
 t:List UInt8
abbrev ld(a:Py):List Value:=[I a.act,I a.d,I a.n,St a.t]
def Pz:Shape Py:=Shape.flat 4 ld (fun a=>(Go.Eng.Int64 a.act∧Go.Eng.Int64 a.d∧Go.Eng.Int64 a.n)∧a.t.length≤140737488355328) (fun _=>rfl) (fun _ u hu=>by simp[ld] at hu;rcases hu with rfl|rfl|rfl|rfl<;>rfl)
def lF(o:Kf):Nat:=o.name.length+o.Ak.length+o.text.length
def oq(l:List Kf):Nat:=Ju l.length (l.map lF)
theorem rY{v:Value}{l:List Kf}(h:Dx ew w.heap.size w v l):∀t∈l,lF t≤422212465065984:=fun t ht=>by
 have f:=(h.VP t ht).2;have e:lF t=t.name.length+t.Ak.length+t.text.length:=rfl;omega
end Silo
namespace Go.Proofs.K
open Go Go.Eng Go.RowKit Silo TryzT
theorem ZU(e:Int):Calls QP 21 #[I e] w (AP fun v w'=>Below w.heap.size w w'∧v=I e):=by
 refine enter (n:=4) (res:=#[.tmp 2]) Tryz.func21 Z Z Z Z<|Ab<|cg<|za Z<|Ac<|Ab<|cg<|zm Z<|za Z<|Ac<|Az Z Z ?_;exact⟨zy _ _,Z⟩
theorem gn{z:Nat}(f:z≤1000):Calls QP 20 #[I z] w (AP fun v w'=>Below w.heap.size w w'∧v=I (Bn z:Nat)):=by
 have e:((15+(z:Int)+8+64-1)/64)=((Bn z:Nat):Int):=by
  rw[Bn];omega
 refine enter (n:=9) (res:=#[.tmp 2]) Tryz.func20 Z Z Z Z<|Ab<|cg<|za Z<|Ac<|Ab<|cg<|zm Z<|vq (AH Z Z Ad Ad)<|vq (AH Z Z Ad Ad) ?_;refine vq (AH Z Z Ad Ad)<|vq (EX Z Z Ad Ad)<|vq (Rk Z Z oo oo oo) ?_;rw[e];refine za Z<|Ac<|Az Z Z ?_;exact⟨zy _ _,Z⟩
theorem Dk(i n:Int)(hi:Go.Eng.Int64 i)(h0:0<n)(h1:n≤9223372036854775807):Calls QP 9 #[I i,I n] w (AP fun v w'=>Below w.heap.size w w'∧v=I (within i n)):=by
 have f:IntKind.u64.wrap i=i%18446744073709551616:=by simp[IntKind.wrap,IntKind.signed,IntKind.bits]
 have g:0≤i%18446744073709551616:=Ab5 _ dd;have l:=IG i n h0;have o:=HB i n h0;refine enter (n:=11) (res:=#[.tmp 4]) Tryz.func9 Z Z Z Z<|Ab<|cg<|za Z<|Ac<|Ab<|cg<|zm Z<|vq (Iu oz zW Z)<|zm Z<|vq (Co oz zW Z Ad Ad)<|vq (gF Z Z oo) ?_;have j:(IntKind.u64.wrap i).tmod n=within i n:=by rw[f,Agl g];rfl
 rw[j];refine vq (Em zW oz Z oo oo)<|za Z<|Ac ?_;refine Az Z Z ?_;exact⟨zy _ _,Z⟩
theorem lf{v:Value}{l:List Kf}(h1:Rd ew w v l):
 Calls QP 18 #[v] w (AP fun a7 w'=>Below w.heap.size w w'∧a7=I (oq l:Nat)):=by
 have o:Bz w w:=Bz.refl w;have b3:=h1.small;refine enter (n:=40) (res:=#[.tmp 2]) Tryz.func18 Z Z Z Z<|Ab<|cg<|za Z<|Ac<|Ab<|cg<|zm Z ?_
 first|refine vq (BN an (by assumption) Z) ?_|refine vq (CH Tryz.underlying26 Z) ?_
 refine za Z<|Ac<|Ab<|Ab<|cg<|za Z<|Ac<|Ai ?_;refine WC.loop (σ:=Nat) (fun k=>[(0,v),(3,I ((l.length+((l.take k).map lF).sum:Nat):Int)),(4,I k)]) (fun k w'=>Rd ew w' v l∧Bz w w'∧k≤l.length∧l.length+((l.take k).map lF).sum≤900000000000000∧oq l=Ju (l.length+((l.take k).map lF).sum) ((l.drop k).map lF)) (fun k=>l.length-k) 0 (by simp only[Agj,Ac3,List.sum_nil,Acp];repeat (first|exact Sub.nil _|refine Sub.cons Z ?_|refine MS Z ?_)) ⟨h1,o,by omega,by simp;omega,by simp[oq]⟩ ?_;rintro k f ⟨h1,o,hk,b1,t⟩;refine Ab<|Ab<|cg<|zm Z<|zm Z ?_
 first|refine vq (BN an (by assumption) Z) ?_|refine vq (CH Tryz.underlying26 Z) ?_
 refine vq (AE Z Z)<|zm Z ?_;apply WR.CJ true 2 _ BT
 ·intro b2;refine wo<|zm rfl<|wo<|vq (AE rfl rfl) ?_;exact Dm 2
 refine Ac<|AS Z (fun j=>?_) fun j=>?_
 ·obtain⟨j,b0⟩:=j;have ka:k<l.length:=oo;have b4:=rY h1 _ (oy ka);obtain⟨a8,p,rfl,U⟩:=h1.el ka;have a1:=p;have a6:=p;have e:lF l[k]=l[k].name.length+l[k].Ak.length+l[k].text.length:=rfl;obtain⟨_,U,b5,b6⟩:=U;refine Aj<|Ab<|Ai<|Mh (Below f.heap.size f) [0,0,0,0,0,1,0,0,0,0,0,0,1,0,0,0,0,0,0,1,0,0,0] [0,1,2,3,4,5,6,7,8,9,10,11,12,13,14,15,16,17,18,19,20,21,22] mixed kr ?_;have r:Below f.heap.size f f.drew:=(zy _ _).drew;have g:Below f.heap.size f f.drew:=(zy _ _).drew;generalize f.drew=w1 at r g⊢;have C:=p;have J:=a1;have R:=a6;refine AK Z Z<|AK Z Z<|AK Z Z<|vd Z (fun _=>AF an (by assumption) Z Z Z Ad Ad)<|vd Z (fun _=>AR lW Z)<|qc Z Z Z g (fun W i=>EA BK Z (C.up i) Z) Z<|vd Z (fun _=>Bp.BY gx Z)<|vd Z (fun _=>AH Z Z Ad Ad)<|AK Z Z ?_;refine AK Z Z<|vd Z (fun _=>AF an (by assumption) Z Z Z Ad Ad)<|vd Z (fun _=>AR Ky Z)<|qc Z Z Z g (fun W i=>EA BK Z (J.up i) Z) Z<|vd Z (fun _=>Bp.BY gx Z)<|vd Z (fun _=>AH Z Z Ad Ad)<|AK Z Z<|AK Z Z<|vd Z (fun _=>AF an (by assumption) Z Z Z Ad Ad) ?_;refine vd Z (fun _=>AR Rz Z)<|qc Z Z Z g (fun W i=>EA BK Z (R.up i) Z) Z<|vd Z (fun _=>Bp.BY gx Z)<|vd Z (fun _=>AH Z Z Ad Ad)<|Ga Z Z ?_;refine WD.nil ?_;clear C J R;clear g;refine cg<|zm Z<|vq (AH Z Z Ad Ad)<|za Z<|Ac ?_;refine⟨k+1,?_,⟨(h1.up r),(o.up r),ka,?_,by rw[t,Wk _ ka oo,Silo.ED _ ka,Aej]⟩,by omega⟩
  ·rw[Silo.ED _ ka,e,show((l.length+(((l.take k).map lF).sum+(l[k].name.length+l[k].Ak.length+l[k].text.length)):Nat):Int)=((l.length+((l.take k).map lF).sum:Nat):Int)+(l[k].name.length:Int)+(l[k].Ak.length:Int)+(l[k].text.length:Int) by omega];repeat (first|exact Sub.nil _|refine Sub.cons Z ?_|refine MS Z ?_)
  rw[Silo.ED _ ka];omega
 refine WC.exit Z<|Ab<|cg<|zm Z<|za Z<|Ac<|Az Z Z<|⟨o,?_⟩;rw[Ab2] at j;simp only[zY] at j;rcases yT k l.length with h|h
 ·rw[t,ap oo]
 rw[t,Rx h];rfl
theorem bE{o p r t C:Int}{vL l:Value}{L:List Py}{K:List Int}(h0:Rd Pz w vL L)(h1:Rd Bw w l K):Calls QP 17 #[.agg #[I o,I p,I r,I t,I C,vL,l]] w (AP fun b0 w'=>Below w.heap.size w w'∧∃b:Bool,b0= .bool b):=by
 obtain⟨c,j,hc⟩:=AQ.start w;have f:Bi Pz c w [0] vL L:=Rd.Cl h0 (fun k hk=>by simp[hc,AA]);have J:Bi Bw c w [0] l K:=Rd.Cl h1 (fun k hk=>by simp[hc,AA]);have b6:=h0.small;have b7:=h1.small;have a7:=h0.VP
 have c3:=h0.Av;have c4:=h1.Av;clear hc h0 h1;refine enter (n:=34) (res:=#[.tmp 2]) Tryz.func17 Z Z Z Z<|Ab<|cg<|Dz c 101 fun w1 b1 c1 b3 g=>?_;refine za Z<|Ac<|Ab<|cg<|vq (Aa VZ Z)<|vq (Ah hU Z g.Ap Z)<|vq (BN qL f.mv.now Z)<|vq (Aa lU Z)<|vq (Ah BL Z g.Ap Z)<|vq (BN Bu J.mv.now Z)<|vq (AH Z Z Ad Ad)<|za Z<|Ac<|Ab<|Ab<|cg<|za Z<|Ac ?_;refine Ai ?_;refine WC.loop (σ:=Nat×Nat) (fun i=>[(1,P1 b1),(3,I (i.2:Nat)),(4,I (i.1:Nat))]) (fun i w'=>(i.1≤L.length∧i.2≤900000000000000)∧∃c',AQ w c' w'∧Bi Pz c' w' [0] vL L∧Ar c' w' 101 b1 [I o,I p,I r,I t,I C,vL,l] 25) (fun i=>L.length-i.1) (0,L.length+K.length) Aq ⟨⟨Nat.zero_le _,by dsimp only;omega⟩,_,j.mv,f.mv,g⟩ ?_;clear j f J g;rintro⟨i,q⟩ c5 ⟨⟨hi,a8⟩,b2,j,f,g⟩;dsimp only at hi a8⊢;refine Ab<|Ab<|cg<|zm Z<|vq (Aa VZ Z)<|vq (Ah hU Z g.Ap Z)<|vq (BN qL f.now Z)<|vq (AE Z Z)<|zm Z ?_;apply WR.CJ true 2 _ BT
 ·intro b9;refine wo<|zm rfl<|wo<|vq (AE rfl rfl) ?_;exact Dm 2
 refine Ac<|AS Z (fun U=>?_) fun U=>?_
 ·obtain⟨b4,b5⟩:=U;have a1:i<L.length:=oo;have b8:q<1048576:=oo;have R:=(BP f a1 dd).1;obtain⟨x,hx⟩:∃x,x=L[i]:=⟨_,Z⟩;have a6:=a7 L[i] (List.getElem_mem a1);rw[←hx] at R a6;obtain⟨c0,c2⟩:=a6;refine Aj<|Ab<|Ai<|cg<|zm Z<|vq (Aa VZ Z)<|vq (Ah hU Z g.Ap Z)<|zm Z<|vq (AF qL f.now Z Z Z oo oo) ?_;refine vq (AR lX Z)<|vq (EA BK Z R.CY Z)<|vq (Bp.BY Tryz.underlying9 Z)<|vq (AH Z Z Ad Ad)<|za Z<|Ac<|cg<|zm Z<|vq (AH Z Z Ad Ad) ?_;refine za Z<|Ac ?_;refine⟨(i+1,q+x.t.length),Aq,⟨⟨by dsimp only;omega,by dsimp only;omega⟩,_,j,f,g⟩,by dsimp only;omega⟩
 refine WC.exit Z<|Ab<|cg<|zm Z<|vq (BZ Z Z)<|za Z<|Ac<|Az Z Z ?_;exact⟨j.below,_,Z⟩
theorem bF{p r t C J:Int}{vL o l j:Value}{L:List Py}{K D:List Int}{O:List Kf}(h0:Rd Pz w vL L)(h1:Rd Bw w o K)(g:Rd ew w l O)(f:Rd Bw w j D):Calls QP 4 #[.agg #[I p,I r,I t,I C,I J,vL,o,l,j]] w (AP fun b0 w'=>Below w.heap.size w w'∧∃b:Bool,b0= .bool b):=by
 obtain⟨c,a7,hc⟩:=AQ.start w;have a6:Bi Pz c w [0] vL L:=Rd.Cl h0 (fun k hk=>by simp[hc,AA]);have U:Bi Bw c w [0] o K:=Rd.Cl h1 (fun k hk=>by simp[hc,AA]);have a8:Bi ew c w [0] l O:=Rd.Cl g (fun k hk=>by simp[hc,AA]);have R:Bi Bw c w [0] j D:=Rd.Cl f (fun k hk=>by simp[hc,AA]);have c6:=h0.Av;have c7:=h1.Av;have c8:=g.Av;have c9:=f.Av;have b9:=f.small;clear hc h0 h1 g f;refine enter (n:=18) (res:=#[.tmp 2]) Tryz.func4 Z Z Z Z<|Ab<|cg<|Dz c 101 fun w1 b1 c1 b5 i=>?_;refine za Z<|Ac<|Ab<|cg<|vq (Aa cj Z)<|vq (Cy oH Z i.Ap (yV Z))<|ve (Al c1 1 (Ay.call xj Z (bE a6.mv.now U.mv.now))) ?_;rintro e0 w2 ⟨c2,b6,c4,⟨b2,rfl⟩⟩;refine zm Z ?_;apply WR.Ko c2 false 4 (decide (2500<((oq O:Nat):Int))) BT
 ·intro c3 a1;refine wo<|vq (Aa Wa rfl)<|wo<|vq (Ah hV rfl i.mv.Ap rfl)<|wo<|ve (Al c2 1 (Ay.call xk rfl (lf a8.mv.now))) ?_;rintro e1 e2 ⟨b3,b7,c5,rfl⟩;refine wo<|vq (BZ rfl rfl) ?_;exact WR.Kq 4 a1.mv
 intro e3 b4 b8;refine zm rfl ?_;apply WR.CJ false 4 _ BT
 ·intro c0;refine wo<|vq (Aa Wb rfl)<|wo<|vq (Ah BL rfl i.mv.Ap rfl)<|wo<|vq (BN Bu R.mv.now rfl)<|wo<|vq (BZ rfl rfl) ?_;exact Dm 4
 refine za Z<|Ac<|Az Z Z ?_;exact⟨a7.mv.below,_,Z⟩
theorem lg{j g l p r:Int}{vL a1:Value}(hi:Go.Eng.Int64 j∧Go.Eng.Int64 g∧Go.Eng.Int64 l∧Go.Eng.Int64 p∧Go.Eng.Int64 r)(l6:vL.oneCell'=true)(l7:a1.oneCell'=true):Calls QP 5 #[.agg #[I j,I g,I l,I p,I r,vL,a1]] w (AP fun h4 w'=>Below w.heap.size w w'∧∃(s:Cn) (n N:Nat),(Small s∧s.size≤9)∧(s.k+s.m≤n∧n≤7)∧(4≤N∧N≤12)∧h4= .tuple #[.agg (DO s).toArray,I n,I N]):=by
 obtain⟨b0,R,J,h2,h3⟩:=hi;have l1:=IG j 3 oo;have l8:=HB j 3 oo;have l2:=IG g 3 oo;have l9:=HB g 3 oo;have l3:=IG l 9 oo;have n0:=HB l 9 oo;have l4:=IG p 3 oo;have n1:=HB p 3 oo;have l5:=IG r 9 oo;have n2:=HB r 9 oo;obtain⟨c,C,hc⟩:=AQ.start w;clear hc;refine enter (n:=32) (res:=#[.cell 2 31, .tmp 3, .tmp 4]) Tryz.func5 Z Z Z Z<|Ab<|cg<|Dz c 101 fun w1 b1 c1 j2 o=>?_;refine Db c1 102 PO fun w2 b2 c2 j5 t=>za Z<|za Z<|Ac<|Ab<|WC.mono (N:=(fun e w'=>∃(c':Nat→Nat) (b5:Nat),Sub [(4000000, .tuple #[]),(1,P1 b1),(2,P1 b2),(3,I 0),(4,I 0),(5,P1 b5)] e∧AQ w c' w'∧Ar c' w' 101 b1 [I j,I g,I l,I p,I r,vL,a1] 25∧Ar c' w' 102 b2 [I 0,I 0,I 0] 31∧Ar c' w' 105 b5 [I (1+within j 3),I (within g 3),I (1+within l 9)] 31)) ?_ ?_
 ·refine Rm c2 [] [0,1,2,0,0,1,2,0,1,2,0,0,2,3] (.quiet 0 (.quiet 1 (.quiet 4 (.quiet 5 (.quiet 7 (.quiet 8 (.two 2 (.quiet 3 (.two 6 (.two 9 (.quiet 10 (.quiet 11 (.one 12 (.one 13 .nil)))) 12 (.one 9 (.quiet 10 (.quiet 11 (.one 13 .nil))))) 12 (.one 6 (.one 9 (.quiet 10 (.quiet 11 (.one 13 .nil))))))) 12 (.one 2 (.quiet 3 (.one 6 (.one 9 (.quiet 10 (.quiet 11 (.one 13 .nil)))))))))))))) fun o9 j8 f=>?_;refine WT.val Z Z Z (fun _=>Aa lP Z) Z<|WT.Iw Z Z Z f.kp (o.mv.kb Au Z Z) Z<|WT.val Z Z Z (fun _=>Aa lQ Z) Z<|WT.Iw Z Z Z f.kp (o.mv.kb Au Z Z) Z<|WT.val Z Z Z (fun _=>Aa lR Z) Z<|WT.Iw Z Z Z f.kp (o.mv.kb Au Z Z) Z<|WT.two ?_ ?_
  ·refine WS.AW Z Z Z (Al c2 1 (Ay.call ec Z (Dk j 3 b0 oo oo))) Z ?_;rintro h5 p0 ⟨a6,e6,k8,rfl⟩;refine f.AX e6 fun f=>WT.val Z Z Z (fun _=>AH Z Z Ad Ad) Z ?_;refine WT.two ?_ ?_
   ·refine WS.AW Z Z Z (Al a6 1 (Ay.call ec Z (Dk g 3 R oo oo))) Z ?_;rintro b3 p1 ⟨a7,e7,k9,rfl⟩;refine f.AX e7 fun f=>WT.two ?_ ?_
    ·refine WS.AW Z Z Z (Al a7 1 (Ay.call ec Z (Dk l 9 J oo oo))) Z ?_;rintro U p2 ⟨c3,e8,l0,rfl⟩;refine f.AX e8 fun f=>WT.val Z Z Z (fun _=>AH Z Z Ad Ad) Z ?_;refine WT.val Z Z Z (fun _=>AB (cells:=#[I (1+within j 3),I (within g 3),I (1+within l 9)]) Z kr) Z ?_;refine WT.one<|WS.AW Z Z Z (Cj c3 105 PO) Z ?_;rintro _ p3 ⟨b5,j0,rfl,e9,i⟩;refine f.AX e9 fun f=>WT.one<|WS.wild Z Z Z (Am Cq Z Z i Z Z AG) ?_;rintro _ p4 ⟨i,j9⟩;refine WT.nil ?_;exact⟨_,_,Aq,C.mv,o.mv,t.mv,i⟩
    refine WS.AW Z Z Z (Cj a7 105 PO) Z ?_;rintro _ p5 ⟨b5,c4,rfl,h0,i⟩;refine f.AX h0 fun f=>WT.one<|WS.AW Z Z Z (Al c4 1 (Ay.call ec Z (Dk l 9 J oo oo))) Z ?_;rintro U n4 ⟨h6,c5,k0,rfl⟩;refine f.AX c5 fun f=>WT.val Z Z Z (fun _=>AH Z Z Ad Ad) Z ?_;refine WT.val Z Z Z (fun _=>AB (cells:=#[I (1+within j 3),I (within g 3),I (1+within l 9)]) Z kr) Z ?_;refine WT.one<|WS.wild Z Z Z (Am Cq Z Z i.mv Z Z AG) ?_;rintro _ n5 ⟨i,j3⟩;refine WT.nil ?_;exact⟨_,_,Aq,C.mv,o.mv,t.mv,i⟩
   refine WS.AW Z Z Z (Cj a6 105 PO) Z ?_;rintro _ n6 ⟨b5,b4,rfl,c6,i⟩;refine f.AX c6 fun f=>WT.one<|WS.AW Z Z Z (Al b4 1 (Ay.call ec Z (Dk g 3 R oo oo))) Z ?_;rintro b3 n7 ⟨b6,c7,k1,rfl⟩;refine f.AX c7 fun f=>WT.one<|WS.AW Z Z Z (Al b6 1 (Ay.call ec Z (Dk l 9 J oo oo))) Z ?_;rintro U n8 ⟨h7,c8,k2,rfl⟩;refine f.AX c8 fun f=>WT.val Z Z Z (fun _=>AH Z Z Ad Ad) Z ?_;refine WT.val Z Z Z (fun _=>AB (cells:=#[I (1+within j 3),I (within g 3),I (1+within l 9)]) Z kr) Z ?_;refine WT.one<|WS.wild Z Z Z (Am Cq Z Z i.mv Z Z AG) ?_;rintro _ n9 ⟨i,j4⟩;refine WT.nil ?_;exact⟨_,_,Aq,C.mv,o.mv,t.mv,i⟩
  refine WS.AW Z Z Z (Cj c2 105 PO) Z ?_;rintro _ o0 ⟨b5,b7,rfl,c9,i⟩;refine f.AX c9 fun f=>WT.one<|WS.AW Z Z Z (Al b7 1 (Ay.call ec Z (Dk j 3 b0 oo oo))) Z ?_;rintro h5 o1 ⟨b8,e0,k3,rfl⟩;refine f.AX e0 fun f=>WT.val Z Z Z (fun _=>AH Z Z Ad Ad) Z ?_;refine WT.one<|WS.AW Z Z Z (Al b8 1 (Ay.call ec Z (Dk g 3 R oo oo))) Z ?_;rintro b3 o2 ⟨b9,e1,k4,rfl⟩;refine f.AX e1 fun f=>WT.one<|WS.AW Z Z Z (Al b9 1 (Ay.call ec Z (Dk l 9 J oo oo))) Z ?_;rintro U o3 ⟨h8,e2,k5,rfl⟩;refine f.AX e2 fun f=>WT.val Z Z Z (fun _=>AH Z Z Ad Ad) Z ?_;refine WT.val Z Z Z (fun _=>AB (cells:=#[I (1+within j 3),I (within g 3),I (1+within l 9)]) Z kr) Z ?_;refine WT.one<|WS.wild Z Z Z (Am Cq Z Z i.mv Z Z AG) ?_;rintro _ o4 ⟨i,j6⟩;refine WT.nil ?_;exact⟨_,_,Aq,C.mv,o.mv,t.mv,i⟩
 clear C o t;rintro j1 p6 ⟨a8,b5,h1,C,o,t,i⟩;refine WC.sub h1<|Ab<|AY a8 [102] [1,0,1,0,1,0,0,1,2,0,0,1,2,0,2,0,0] [0,1,2,3,4,5,6,7,10,11,8,9,12,13,14,15,16] fun o5 j7 f=>?_;refine vc Z f.kp (i.mv.kn Cq Z Z)<|vd Z (fun _=>Aa Ce Z)<|vc Z f.kp (i.mv.kb Au Z Z)<|vd Z (fun _=>Aa Gr Z)<|vc Z f.kp (i.mv.kb Au Z Z)<|vd Z (fun _=>AH Z Z Ad Ad)<|vd Z (fun _=>Aa lS Z)<|vc Z f.kp (o.mv.kb Au Z Z)<|vd Z (fun _=>Aa lT Z) ?_;refine vc Z f.kp (o.mv.kb Au Z Z)<|WD.AW Z Z Z (Al a8 1 (Ay.call ec Z (Dk p 3 h2 oo oo))) Z ?_;rintro n3 o6 ⟨c0,e3,k6,rfl⟩;refine f.AX e3 fun f=>vd Z (fun _=>AH Z Z Ad Ad) ?_;refine WD.AW Z Z Z (Al c0 1 (Ay.call ec Z (Dk r 9 h3 oo oo))) Z ?_;rintro v30 o7 ⟨h9,e4,k7,rfl⟩;refine f.AX e4 fun f=>vd Z (fun _=>AH Z Z Ad Ad) ?_;refine WD.AI Z Z Z (Am Cq Z Z t.mv Z Z AG) ?_;rintro _ o8 ⟨t,e5⟩;refine f.AX e5 fun f=>Ga Z Z<|Ga Z Z<|WD.nil ?_;clear f;refine MV Z (Br Cq Z t.Ap Z) (Cp.tmp Z) (Cp.tmp Z) ?_;refine⟨C.mv.below,⟨(1+within j 3).toNat,(within g 3).toNat,(1+within l 9).toNat⟩,(1+within j 3+within g 3+within p 3).toNat,(4+within r 9).toNat,⟨⟨by dsimp only;omega,by dsimp only;omega,by dsimp only;omega,by dsimp only;omega,by dsimp only;omega⟩,by dsimp only;omega⟩,⟨by dsimp only;omega,by omega⟩,⟨by omega,by omega⟩,?_⟩;simp only[DO];rw[show(((1+within j 3).toNat:Nat):Int)=1+within j 3 by omega,show(((within g 3).toNat:Nat):Int)=within g 3 by omega,show(((1+within l 9).toNat:Nat):Int)=1+within l 9 by omega,show(((1+within j 3+within g 3+within p 3).toNat:Nat):Int)=1+within j 3+within g 3+within p 3 by omega,show(((4+within r 9).toNat:Nat):Int)=4+within r 9 by omega]
theorem bH{n:Nat}(a1:n≤100000):Calls QP 35 #[I n] w (AP fun u w'=>Below w.heap.size w w'∧BJ w' w.heap.size 3 1 u n ((Fg n).map I)):=by
 obtain⟨c,j,hc⟩:=AQ.start w;clear hc;refine enter (n:=15) (res:=#[.tmp 2]) Tryz.func35 Z Z Z Z<|Ab<|cg<|za Z<|Ac<|Ab<|cg<|za Z<|Ac<|Ab<|Ab ?_;have f:=Ao.nil c w 8 3 1;refine cg<|za Z<|Ac<|Ai<|WC.loop (σ:=Nat×Value) (fun g=>[(0,I n),(3,g.2),(4,I g.1)]) (fun g w'=>g.1≤n∧∃c',AQ w c' w'∧Ao c' w' 8 3 1 g.2 g.1 ((Fg g.1).map I)) (fun g=>n-g.1) (0,_) Aq ⟨Nat.zero_le _,_,j,f⟩ ?_;clear j f;rintro⟨i,a7⟩ a8 ⟨hi,o,j,f⟩;dsimp only at hi f;have r:=f.Av;have t:=f.Aw;refine Ab<|Ab<|cg<|zm Z<|zm Z<|vq (AE Z Z)<|Ac<|AS Z (fun p=>?_) fun p=>?_
 ·have U:i<n:=oo;refine Aj<|Ab<|Ai<|cg<|zm Z<|zm Z<|ve (Bb o 112 Bu Z Z Z Z Z) ?_;rintro _ w1 ⟨C,c1,rfl,J,l⟩;refine ve (AN Bu Z Z f.mv (Src.An Tryz.underlying23 l.Ap.An Z AG) EY Fb) ?_;rintro a6 w2 ⟨c2,R,f⟩;clear l;have r:=f.Av;have t:=f.Aw;refine za Z<|Ac<|cg<|zm Z<|vq (AH Z Z Ad Ad)<|za Z<|Ac ?_;exact⟨(i+1,_),Aq,⟨by dsimp only;omega,_,j.mv,by dsimp only;rw[Vp,List.map_append];exact f⟩,by show n-(i+1)<n-i;omega⟩
 have e:i=n:=oo;subst e;refine WC.exit Z<|Ab<|cg<|zm Z<|za Z<|Ac<|Az Z Z ?_;exact⟨j.below,f.KN j dd⟩
theorem lh{D n:Nat}(h2:D≤100)(h6:n≤64):Calls QP 15 #[I D,I n] w (AP fun u w'=>∃c',Mv c w c' w' []∧∃vL vF,KS c' w' vL vF (List.replicate D true) (List.replicate D (Fg n))∧u= .agg #[vL,vF]):=by
 have hJ:=AZ.start c w [];generalize AT c []=c0 at hJ;refine enter (n:=25) (res:=#[.cell 4 55]) Tryz.func15 Z Z Z Z<|Ab<|cg<|Db c0 104 Fv fun w1 b4 c1 h3 t=>?_;refine Ac<|Ab<|cg<|Db c1 105 Fv fun w2 b5 c2 h4 o=>?_;refine Ac<|Ab<|Ab ?_;have f:Ao c2 w2 130 4 1 (.slice none 0 0) 0 ((List.replicate 0 true).map Value.bool):=Ao.nil _ _ _ _ _;have p:Ao c2 w2 131 23 1 (.slice none 0 0) 0 []:=Ao.nil _ _ _ _ _;have g:EV c2 w2 132 [] (List.replicate 0 (Fg n)):=EV.nil;refine cg<|za Z<|Ac<|Ai<|WC.loop (σ:=Nat) (fun i=>[(0,I D),(1,I n),(4,P1 b4),(5,P1 b5),(6,I i)]) (fun i w'=>i≤D∧∃c' J C vs,AZ c w [] c' w'∧Ar c' w' 104 b4 [.slice none 0 0, .slice none 0 0] 55∧Ar c' w' 105 b5 [J,C] 55∧Ao c' w' 130 4 1 J i ((List.replicate i true).map Value.bool)∧Ao c' w' 131 23 1 C i vs∧EV c' w' 132 vs (List.replicate i (Fg n))) (fun i=>D-i) 0 Aq ⟨yU _,_,_,_,_,hJ.mv,t.mv,o,f,p,g⟩ ?_;clear hJ t o f p g;rintro i j8 ⟨hi,b8,J,C,vs,hJ,t,o,f,p,g⟩;have e1:=p.Av;have e2:=p.Aw;have e3:=f.Av;have e4:=f.Aw;refine Ab<|Ab<|cg<|zm Z<|zm Z<|vq (AE Z Z)<|Ac<|AS Z (fun c7=>?_) fun c7=>?_
 ·have h5:i<D:=oo;refine Aj<|Ab<|Ai<|Ab<|cg<|vq (Aa Kz Z)<|vq (Ah GL Z o.Ap Z)<|ve (Bb b8 114 FR Z Z Z Z Z) ?_;rintro _ j1 ⟨e6,e8,rfl,a6,b1⟩;refine ve (AN FR Z Z f.mv (Src.An Aa7 b1.Ap.An Z AG) EY Fb) ?_;rintro h7 j2 ⟨a1,a7,f⟩;clear b1;have e3:=f.Av;have e4:=f.Aw;refine vq (Aa Kz Z)<|WR.AI (AJ GL Z Z ra ra o.mv Z) ?_;rintro _ j3 ⟨o,U⟩;refine Ac ?_;replace f:=f.mv U;rw[show((List.replicate i true).map Value.bool)++[Value.bool true]=(List.replicate (i+1) true).map Value.bool by rw[Adv,zB];rfl] at f;have c9:=g;refine AY a1 [131] [0,1,0,2,2,2,0,3] [0,1,2,3,4,5,6,7] fun j4 a8 r=>vd Z (fun _=>Aa CA Z)<|vc Z r.kp (o.mv.kb ET Z Z)<|AK Z Z<|WD.AW Z Z Z (Al a1 132 (Ay.call xx Z (bH oo))) Z ?_;rintro v20 j5 ⟨b7,b0,e0,b3⟩;refine r.AX b0 fun r=>?_;have c8:=(((c9.mv a6).mv a7).mv U).newRow (v:=v20) (fun k hk↦zz a8.size (b3.lt k hk).1);have b6:=b3.Cl e0;obtain⟨e5,h1,rfl,_⟩:=b6.own.len;replace g:=((((g.mv a6).mv a7).mv U).mv a8).mv b0;replace g:=g.snoc (l':=Fg n) (by rw[Po];exact b6) c8;rw[←Adv] at g;refine WD.AW Z Z Z (Bb b7 121 Hn Z Z Z Z Z) Z ?_;rintro _ j6 ⟨e7,e9,rfl,c5,b2⟩;refine r.AX c5 fun r=>WD.AW Z Z Z (AN Hn Z Z p.mv (Src.An Tryz.underlying53 b2.Ap.An Z AG) EY Fb) Z ?_;rintro h8 j7 ⟨h0,c6,p⟩;refine r.AX c6 fun r=>?_;clear b2;have e1:=p.Av;have e2:=p.Aw;refine vd Z (fun _=>Aa CA Z)<|WD.wild Z Z Z (AJ ET Z Z ra ra o.mv Z) ?_;rintro _ h9 ⟨o,c4⟩;try replace r:=r.tr c4 Z
  refine WD.nil ?_;clear r;refine cg<|zm Z<|vq (AH Z Z Ad Ad)<|za Z<|Ac ?_;exact⟨i+1,Aq,⟨by omega,_,_,_,_,hJ.mv,t.mv,o,f.mv,p.mv,g.mv⟩,by omega⟩
 have e:i=D:=oo;subst e;refine WC.exit Z<|Ab<|cg<|vq (AD Cz Z o.Ap Z)<|WR.AI (Am Cz Z Z t Z Z AG) ?_;rintro _ j0 ⟨t,R⟩;refine Ac<|Fz Z (Br Cz Z t.Ap Z) ?_;replace hJ:=hJ.mv R;refine⟨_,hJ.out,J,C,⟨by rw[yX];exact(f.mv R).Ej hJ,vs,by rw[yX];exact(p.mv R).Ej hJ,?_⟩,Z⟩;exact EV.rP ⟨g.mv.len,fun j v l b9 c3↦(g.mv.row j v l b9 c3).Ej hJ,g.mv.apart⟩ fun l hl↦by
  have:=Aca hl;subst this;refine⟨by rw[Po];omega,fun x hx↦?_⟩;obtain⟨k,hk,rfl⟩:=zc.1 hx;have:=Aac.1 hk;exact⟨by omega,by omega⟩
theorem bJ{vL vF:Value}{live:List Bool}{F:List (List Int)}(h1:Rd En w vL live)(a1:Rd MQ w vF F)(hl:live.length=F.length∧F.length≤100):Calls QP 34 #[.agg #[vL,vF]] w (AP fun u w'=>Below w.heap.size w w'∧∃a b:Int,u= .tuple #[I a,I b]∧(0≤a→a<F.length∧0≤b∧b<F.length)):=by
 have e5:=h1.Av;have e6:=a1.Av;obtain⟨c,o,hc⟩:=AQ.start w;clear hc;have l:=o.rd h1;have f:=o.rd a1;clear h1 a1;refine enter (n:=58) (res:=#[.tmp 2, .tmp 3]) Tryz.func34 Z Z Z Z<|Ab<|cg<|Dz c 101 fun w1 b1 c1 e0 g=>?_;refine za Z<|za Z<|Ac<|Ab<|cg<|za Z<|za Z<|Ac<|Ab<|Ab<|cg<|za Z<|Ac<|Ai ?_;refine WC.loop (σ:=Nat×Int×Int) (fun r=>[(1,P1 b1),(2,I 0),(3,I 0),(4,I r.2.1),(5,I r.2.2),(6,I r.1)]) (fun r w'=>(r.1≤F.length∧(-1≤r.2.1∧r.2.1<F.length)∧(-1≤r.2.2∧r.2.2<F.length)∧(0≤r.2.1→0≤r.2.2))∧∃c',AQ w c' w'∧Bi En c' w' [0] vL live∧Bi MQ c' w' [0] vF F∧Ar c' w' 101 b1 [vL,vF] 55) (fun r=>F.length-r.1) (0,-1,-1) Aq ⟨⟨Nat.zero_le _,by dsimp only;omega,by dsimp only;omega,by dsimp only;omega⟩,_,o.mv,l.mv,f.mv,g⟩ ?_;clear o l f g;rintro⟨i,b3,em⟩ h6 ⟨⟨hi,c8,c7,c9⟩,U,o,l,f,g⟩;dsimp only at hi c8 c7 c9⊢;refine Ab<|Ab<|cg<|zm Z<|vq (Aa Kz Z)<|vq (Ah GL Z g.Ap Z)<|vq (BN FR l.now Z)<|vq (AE Z Z)<|Ac<|AS Z (fun c0=>?_) fun c0=>?_
 ·have e1:i<F.length:=oo;have b4:=(BP l (k:=i) oo dd).1;obtain⟨h0,b5,J⟩:=KR f (k:=i) oo;obtain⟨h2,c2,b2⟩:=KR f (k:=b3.toNat) oo;obtain⟨h3,a8,R⟩:=KR f (k:=em.toNat) oo;have a7:=b5;have e2:=J.now.Av;have e3:=b2.now.Av;have e4:=R.now.Av;have e7:=J.now.small;have e8:=b2.now.small;have e9:=R.now.small;refine Aj<|Ab<|Ai<|Ab<|Ab<|cg<|vq (Aa Kz Z)<|vq (Ah GL Z g.Ap Z)<|zm Z<|vq (AF FR l.now Z Z Z oo oo)<|vq (Bl Jc Z b4.CY)<|vq (Bq Z)<|Ac ?_;refine AS Z (fun c4=>?_) fun c4=>?_
  ·refine WC.exit Z ?_;refine cg<|zm Z<|vq (AH Z Z Ad Ad)<|za Z<|Ac ?_;refine⟨(i+1,_,_),Aq,⟨⟨?_,?_,?_,?_⟩,_,o,l,f,g⟩,?_⟩<;>dsimp only<;>first|omega|(simp only[show(NatCast.natCast i:Int)=((i:Nat):Int) from Z];omega)
  refine Aj<|Ab<|Ab<|AY U [] [0,0,0,0,1,0,0,1,0,0,1,0,0,1,0,0,0] [0,1,2,3,4,5,6,7,8,9,10,11,12,13,14,15,16] fun w2 p j=>?_;have a6:=g;have b9:=b4;have b6:=b5;have b7:=c2;have c5:=a8;have c3:=a7;refine AK Z Z<|vd Z (fun _=>AE Z Z)<|AK Z Z ?_;apply WD.CJ false 13 _ j.kp RH
  ·intro b8;refine vd rfl (fun _=>Aa CA rfl)<|vc rfl j.kp (a6.mv.kb ET rfl rfl)<|AK rfl rfl<|vd rfl (fun _=>AF Hn f.mv.now rfl rfl rfl oo oo)<|vc rfl j.kp (b6.mv.ke BL rfl)<|vd rfl (fun _=>BN Bu J.mv.now rfl)<|vd rfl (fun _=>Aa CA rfl)<|vc rfl j.kp (a6.mv.kb ET rfl rfl)<|AK rfl rfl ?_;refine vd rfl (fun _=>AF Hn f.mv.now rfl rfl rfl oo oo)<|vc rfl j.kp (b7.mv.ke BL rfl)<|vd rfl (fun _=>BN Bu b2.mv.now rfl)<|vd rfl (fun _=>AE rfl rfl) ?_;exact Xm 13
  refine WD.nil ?_;clear a6 b9 b6 b7 c5 c3;clear j;refine AS Z (fun c6=>?_) fun c6=>?_
  ·refine cg<|zm Z<|za Z<|Ac<|Ab ?_;refine AY U [] [0,0,0,0,1,0,0,1,0,0,1,0,0,1,0,0,0] [0,1,2,3,4,5,6,7,8,9,10,11,12,13,14,15,16] fun h4 t j=>AK Z Z<|vd Z (fun _=>AE Z Z)<|AK Z Z ?_;apply WD.CJ false 13 _ j.kp RH
   ·intro b8;refine vd rfl (fun _=>Aa CA rfl)<|vc rfl j.kp (g.mv.kb ET rfl rfl)<|AK rfl rfl<|vd rfl (fun _=>AF Hn f.mv.now rfl rfl rfl oo oo)<|vc rfl j.kp (a7.mv.ke BL rfl)<|vd rfl (fun _=>BN Bu J.mv.now rfl)<|vd rfl (fun _=>Aa CA rfl)<|vc rfl j.kp (g.mv.kb ET rfl rfl)<|AK rfl rfl ?_;refine vd rfl (fun _=>AF Hn f.mv.now rfl rfl rfl oo oo)<|vc rfl j.kp (a8.mv.ke BL rfl)<|vd rfl (fun _=>BN Bu R.mv.now rfl)<|vd rfl (fun _=>BZ rfl rfl) ?_;exact Xm 13
   refine WD.nil ?_;clear j;refine AS Z (fun b0=>?_) fun b0=>?_
   ·refine cg<|zm Z<|za Z<|Ac<|cg<|zm Z<|vq (AH Z Z Ad Ad)<|za Z<|Ac ?_;replace o:=(o.mv p).mv t;replace l:=(l.mv p).mv t;replace f:=(f.mv p).mv t;replace g:=(g.mv p).mv t;refine⟨(i+1,_,_),Aq,⟨⟨?_,?_,?_,?_⟩,_,o,l,f,g⟩,?_⟩<;>dsimp only<;>first|omega|(simp only[show(NatCast.natCast i:Int)=((i:Nat):Int) from Z];omega)
   refine Aj<|cg<|zm Z<|vq (AH Z Z Ad Ad)<|za Z<|Ac ?_;replace o:=(o.mv p).mv t;replace l:=(l.mv p).mv t;replace f:=(f.mv p).mv t;replace g:=(g.mv p).mv t;refine⟨(i+1,_,_),Aq,⟨⟨?_,?_,?_,?_⟩,_,o,l,f,g⟩,?_⟩<;>dsimp only<;>first|omega|(simp only[show(NatCast.natCast i:Int)=((i:Nat):Int) from Z];omega)
  refine Aj<|Ab<|AY U [] [0,0,0,0,1,0,0,1,0,0,1,0,0,1,0,0,0] [0,1,2,3,4,5,6,7,8,9,10,11,12,13,14,15,16] fun h5 C j=>?_;refine AK Z Z<|vd Z (fun _=>AE Z Z)<|AK Z Z ?_;apply WD.CJ false 13 _ j.kp RH
  ·intro b8;refine vd rfl (fun _=>Aa CA rfl)<|vc rfl j.kp (g.mv.kb ET rfl rfl)<|AK rfl rfl<|vd rfl (fun _=>AF Hn f.mv.now rfl rfl rfl oo oo)<|vc rfl j.kp (a7.mv.ke BL rfl)<|vd rfl (fun _=>BN Bu J.mv.now rfl)<|vd rfl (fun _=>Aa CA rfl)<|vc rfl j.kp (g.mv.kb ET rfl rfl)<|AK rfl rfl ?_;refine vd rfl (fun _=>AF Hn f.mv.now rfl rfl rfl oo oo)<|vc rfl j.kp (a8.mv.ke BL rfl)<|vd rfl (fun _=>BN Bu R.mv.now rfl)<|vd rfl (fun _=>BZ rfl rfl) ?_;exact Xm 13
  refine WD.nil ?_;clear j;refine AS Z (fun b0=>?_) fun b0=>?_
  ·refine cg<|zm Z<|za Z<|Ac<|cg<|zm Z<|vq (AH Z Z Ad Ad)<|za Z<|Ac ?_;replace o:=(o.mv p).mv C;replace l:=(l.mv p).mv C;replace f:=(f.mv p).mv C;replace g:=(g.mv p).mv C;refine⟨(i+1,_,_),Aq,⟨⟨?_,?_,?_,?_⟩,_,o,l,f,g⟩,?_⟩<;>dsimp only<;>first|omega|(simp only[show(NatCast.natCast i:Int)=((i:Nat):Int) from Z];omega)
  refine Aj<|cg<|zm Z<|vq (AH Z Z Ad Ad)<|za Z<|Ac ?_;replace o:=(o.mv p).mv C;replace l:=(l.mv p).mv C;replace f:=(f.mv p).mv C;replace g:=(g.mv p).mv C;refine⟨(i+1,_,_),Aq,⟨⟨?_,?_,?_,?_⟩,_,o,l,f,g⟩,?_⟩<;>dsimp only<;>first|omega|(simp only[show(NatCast.natCast i:Int)=((i:Nat):Int) from Z];omega)
 refine WC.exit Z<|Ab<|cg<|zm Z<|zm Z<|za Z<|za Z<|Ac<|Dn Z Z Z ?_;exact⟨o.below,b3,em,Z,fun h↦⟨by omega,by omega,by omega⟩⟩
theorem ZV{vL vF:Value}{live:List Bool}{F:List (List Int)}{q:Nat}(h1:Rd En w vL live)(j:Rd MQ w vF F)(hl:live.length=F.length∧F.length≤100)(J:∀l∈F,l.length=q):Calls QP 14 #[.agg #[vL,vF]] w (AP fun u w'=>Below w.heap.size w w'∧u=I 0):=by
 have b9:=h1.Av;have c0:=j.Av;obtain⟨c,i,hc⟩:=AQ.start w;clear hc;have R:=i.rd h1;have g:=i.rd j;clear h1 j;refine enter (n:=25) (res:=#[.tmp 2]) Tryz.func14 Z Z Z Z<|Ab<|cg<|Dz c 101 fun w1 b1 c1 t o=>?_;refine za Z<|Ac<|Ab<|cg<|vq (AD Cz Z o.Ap Z)<|ve (Al c1 1 (Ay.call xw Z (bJ R.mv.now g.mv.now hl))) ?_;rintro c7 w2 ⟨c2,C,b6,⟨a,b,rfl,U⟩⟩;refine zm Z<|vq (Ag Z Z)<|vq (Ag Z Z)<|za Z<|za Z<|Ac<|Ab<|Ab<|cg<|zm Z<|vq (AE Z Z)<|Ac<|AS Z (fun a6=>?_) fun a6=>?_
 ·refine Ab<|cg<|za Z<|Ac ?_;refine Az Z Z ?_;exact⟨i.mv.below,Z⟩
 obtain⟨b3,b4,b5⟩:=U oo;obtain⟨c5,a1,p⟩:=KR ((g.mv t).mv C) (k:=b.toNat) oo;obtain⟨c6,a7,r⟩:=KR ((g.mv t).mv C) (k:=a.toNat) oo;have b7:=p.now.Av;have b8:=r.now.Av;have c3:=p.now.small;have c4:=r.now.small;have a8:=J _ (oy (show b.toNat<F.length by omega));have b0:=J _ (oy (show a.toNat<F.length by omega));refine Aj<|Ab<|AY c2 [] [0,1,0,0,1,0,0,1,0,0,1,0,0,0] [0,1,2,3,4,5,6,7,8,9,10,11,12,13] fun c8 b2 f=>?_;refine vd Z (fun _=>Aa CA Z)<|vc Z f.kp (o.mv.kb ET Z Z)<|AK Z Z<|vd Z (fun _=>AF Hn g.mv.now Z Z Z oo oo)<|vc Z f.kp (a1.mv.ke BL Z)<|vd Z (fun _=>BN Bu p.mv.now Z)<|vd Z (fun _=>Aa CA Z)<|vc Z f.kp (o.mv.kb ET Z Z)<|AK Z Z ?_;refine vd Z (fun _=>AF Hn g.mv.now Z Z Z oo oo)<|vc Z f.kp (a7.mv.ke BL Z)<|vd Z (fun _=>BN Bu r.mv.now Z)<|vd Z (fun _=>EX Z Z Ad Ad)<|Ga Z Z ?_;refine WD.nil ?_;clear f;refine Az Z Z<|⟨i.mv.below,?_⟩;rw[a8,b0,Int.sub_self]
end Go.Proofs.K
namespace Go.Eng
open Go Go.RowKit
section
variable {H:Type} {enc:TypeId×Value→H} {P:Program} {W:World} {base:Nat} {sp:Nat→Bool} {held:Bool}
theorem li{e:TypeId}{g i l p r t C:Field}(b2:P.underlying e=some (.struct #[g,i,l,p,r,t,C]))(o:[g.offset,i.offset,l.offset,p.offset,r.offset,t.offset,C.offset]=[0,1,2,3,4,5,6])
 (j8:P.underlying g.type=some (.int .i64))(j9:P.underlying i.type=some (.int .i64))(k0:P.underlying l.type=some (.int .i64))(k1:P.underlying p.type=some (.int .i64))(k2:P.underlying r.type=some .string)(k3:P.underlying t.type=some .string)(k4:P.underlying C.type=some .string)
 (c:[P.cellsOf g.type,P.cellsOf i.type,P.cellsOf l.type,P.cellsOf p.type,P.cellsOf r.type,P.cellsOf t.type,P.cellsOf C.type]=[1,1,1,1,1,1,1])(ce:P.cellsOf e=7):QJ enc P W base sp held Silo.ew (fun _=>True) e:=fun n cs y h b0=>by
 obtain⟨xs,l3,rfl,rfl,b3,j0,f⟩:=Aes b2 h;rw[ce] at b3;have h9:xs.length=7:=j0;simp only[Abe,Ad7] at o c;obtain⟨j1,j2,j3,j4,j5,j6,j7⟩:=o;obtain⟨c0,c1,c2,e1,e2,e3,e4⟩:=c;have J:=f 0 g Z;have R:=f 1 i Z;have U:=f 2 l Z;have a1:=f 3 p Z;have a6:=f 4 r Z;have a7:=f 5 t Z;have a8:=f 6 C Z
 match cs,b3,xs,h9,J,R,U,a1,a6,a7,a8,b0 with
 |[c4,c5,c6,c7,c8,c9,e0],_,[k6,k7,k8,k9,l0,l1,l2],_,J,R,U,a1,a6,a7,a8,b0=>
  rw[j1,c0] at J;rw[j2,c1] at R;rw[j3,c2] at U;rw[j4,e1] at a1;rw[j5,e2] at a6;rw[j6,e3] at a7;rw[j7,e4] at a8;have b1:∀x∈DataW.weightsEach P [g.type,i.type,l.type,p.type,r.type,t.type,C.type] [k6.1,k7.1,k8.1,k9.1,l0.1,l1.1,l2.1],x≤reachBytes:=fun x hx=>b0 x (by simp only[DataW.weights,b2];exact hx);obtain⟨b4,e5,w0⟩:=Fe j8 J;obtain⟨b5,e7,w1⟩:=Fe j9 R;obtain⟨b6,e9,w2⟩:=Fe k0 U;obtain⟨b7,h1,k5⟩:=Fe k1 a1;obtain⟨b8,h3,l4⟩:=Ow k2 a6 (fun x hx=>b1 x (Aay (j:=4) Z Z x hx));obtain⟨b9,h5,l5⟩:=Ow k3 a7 (fun x hx=>b1 x (Aay (j:=5) Z Z x hx));obtain⟨c3,h7,l6⟩:=Ow k4 a8 (fun x hx=>b1 x (Aay (j:=6) Z Z x hx));have e6:c4=I b4:=by simpa using e5
  have e8:c5=I b5:=by simpa using e7
  have h0:c6=I b6:=by simpa using e9
  have h2:c7=I b7:=by simpa using h1
  have h4:c8=St b8:=by simpa using h3
  have h6:c9=St b9:=by simpa using h5
  have h8:e0=St c3:=by simpa using h7
  exact⟨⟨b4,b5,b6,b7,b8,b9,c3⟩,⟨by rw[e6,e8,h0,h2,h4,h6,h8],⟨w0,w1,w2,k5⟩,by dsimp only;omega,by dsimp only;omega,by dsimp only;omega⟩,trivial⟩
theorem gp{e:TypeId}{f g i l:Field}(U:P.underlying e=some (.struct #[f,g,i,l]))(o:[f.offset,g.offset,i.offset,l.offset]=[0,1,2,3])
 (e4:P.underlying f.type=some (.int .i64))(e5:P.underlying g.type=some (.int .i64))(e6:P.underlying i.type=some (.int .i64))(e7:P.underlying l.type=some .string)
 (c:[P.cellsOf f.type,P.cellsOf g.type,P.cellsOf i.type,P.cellsOf l.type]=[1,1,1,1])(ce:P.cellsOf e=4):QJ enc P W base sp held Silo.Pz (fun _=>True) e:=fun n cs y h R=>by
 obtain⟨xs,h2,rfl,rfl,a1,c9,J⟩:=Aes U h;rw[ce] at a1;have c8:xs.length=4:=c9;simp only[Abe,Ad7] at o c;obtain⟨e0,e1,e2,e3⟩:=o;obtain⟨c0,c1,c2,b5⟩:=c;have p:=J 0 f Z;have r:=J 1 g Z;have t:=J 2 i Z;have C:=J 3 l Z
 match cs,a1,xs,c8,p,r,t,C,R with
 |[b1,b2,b3,b4],_,[e8,e9,h0,h1],_,p,r,t,C,R=>
  rw[e0,c0] at p;rw[e1,c1] at r;rw[e2,c2] at t;rw[e3,b5] at C;have c7:∀x∈DataW.weightsEach P [f.type,g.type,i.type,l.type] [e8.1,e9.1,h0.1,h1.1],x≤reachBytes:=fun x hx=>R x (by simp only[DataW.weights,U];exact hx);obtain⟨a6,b6,w0⟩:=Fe e4 p;obtain⟨a7,b8,w1⟩:=Fe e5 r;obtain⟨a8,c3,w2⟩:=Fe e6 t;obtain⟨b0,c5,h3⟩:=Ow e7 C (fun x hx=>c7 x (Aay (j:=3) Z Z x hx));have b7:b1=I a6:=by simpa using b6
  have b9:b2=I a7:=by simpa using b8
  have c4:b3=I a8:=by simpa using c3
  have c6:b4=St b0:=by simpa using c5
  exact⟨⟨a6,a7,a8,b0⟩,⟨by rw[b7,b9,c4,c6],⟨w0,w1,w2⟩,by dsimp only;omega⟩,trivial⟩
theorem bK{e J R:TypeId}{g i l p r t C:Field}{n:Nat}{cs:List Value}{y:DataW H×List MemPlace}(b5:P.underlying e=some (.struct #[g,i,l,p,r,t,C]))(o:[g.offset,i.offset,l.offset,p.offset,r.offset,t.offset,C.offset]=[0,1,2,3,4,5,6])
 (k6:P.underlying g.type=some (.int .i64))(k7:P.underlying i.type=some (.int .i64))(k8:P.underlying l.type=some (.int .i64))(k9:P.underlying p.type=some (.int .i64))(l0:P.underlying r.type=some (.int .i64))(l1:P.underlying t.type=some (.slice J))(l2:P.underlying C.type=some (.slice R))
 (c:[P.cellsOf g.type,P.cellsOf i.type,P.cellsOf l.type,P.cellsOf p.type,P.cellsOf r.type,P.cellsOf t.type,P.cellsOf C.type]=[1,1,1,1,1,1,1])(ce:P.cellsOf e=7)
 (j4:QJ enc P W base sp held Silo.Pz (fun _=>True) J)(j3:QJ enc P W base sp held Bw (fun _=>True) R)(cL:P.cellsOf J=4)(h2:P.cellsOf R=1)(bL:1≤P.bytesOf J)(e7:1≤P.bytesOf R)
 (h:DataW.trod enc P W base sp held n e cs=some y)(b2:∀x∈DataW.weights P e y.1,x≤reachBytes):∃b8 b9 c3 c4 c5 vL e1,∃(L:List Silo.Py) (K:List Int),cs=[I b8,I b9,I c3,I c4,I c5,vL,e1]∧(Int64 b8∧Int64 b9∧Int64 c3∧Int64 c4∧Int64 c5)∧Rd Silo.Pz W vL L∧Rd Bw W e1 K:=by
 obtain⟨xs,n2,rfl,rfl,b6,j6,f⟩:=Aes b5 h;rw[ce] at b6;have j5:xs.length=7:=j6;simp only[Abe,Ad7] at o c;obtain⟨j7,j8,j9,k0,k1,k2,k3⟩:=o;obtain⟨c0,c1,c2,e8,e9,h0,h1⟩:=c;have U:=f 0 g Z;have a1:=f 1 i Z;have a6:=f 2 l Z;have a7:=f 3 p Z;have a8:=f 4 r Z;have b0:=f 5 t Z;have b1:=f 6 C Z
 match cs,b6,xs,j5,U,a1,a6,a7,a8,b0,b1,b2 with
 |[e2,e3,e4,e5,e6,b3,b4],_,[l5,l6,l7,l8,l9,n0,n1],_,U,a1,a6,a7,a8,b0,b1,b2=>
  rw[j7,c0] at U;rw[j8,c1] at a1;rw[j9,c2] at a6;rw[k0,e8] at a7;rw[k1,e9] at a8;rw[k2,h0] at b0;rw[k3,h1] at b1;have b7:∀x∈DataW.weightsEach P [g.type,i.type,l.type,p.type,r.type,t.type,C.type] [l5.1,l6.1,l7.1,l8.1,l9.1,n0.1,n1.1],x≤reachBytes:=fun x hx=>b2 x (by simp only[DataW.weights,b5];exact hx);obtain⟨c6,h3,w0⟩:=Fe k6 U;obtain⟨c7,h5,w1⟩:=Fe k7 a1;obtain⟨c8,h7,w2⟩:=Fe k8 a6;obtain⟨c9,h9,l3⟩:=Fe k9 a7;obtain⟨e0,j1,l4⟩:=Fe l0 a8;obtain⟨L,k4,_⟩:=RG (v:=b3) l1 (s:=Silo.Pz) (cL.trans Z) dd bL j4 b0 (fun x hx=>b7 x (Aay (j:=5) Z Z x hx));obtain⟨K,k5,_⟩:=RG (v:=b4) l2 (s:=Bw) (h2.trans Z) dd e7 j3 b1 (fun x hx=>b7 x (Aay (j:=6) Z Z x hx));have h4:e2=I c6:=by simpa using h3
  have h6:e3=I c7:=by simpa using h5
  have h8:e4=I c8:=by simpa using h7
  have j0:e5=I c9:=by simpa using h9
  have j2:e6=I e0:=by simpa using j1
  exact⟨c6,c7,c8,c9,e0,b3,b4,L,K,by rw[h4,h6,h8,j0,j2],⟨w0,w1,w2,l3,l4⟩,k4,k5⟩
theorem bM{t a8 a7:TypeId}{r J R:Field}{v:Value}{d:DataW H}{ps:List MemPlace}(ht:P.underlying t=some (.struct #[r,J,R]))(o:[r.offset,J.offset,R.offset]=[0,7,8])(c:[P.cellsOf r.type,P.cellsOf J.type,P.cellsOf R.type]=[7,1,1])(e4:P.cellsOf t=9)
 (e9:∀n cs y,DataW.trod enc P W base sp held n r.type cs=some y→(∀x∈DataW.weights P r.type y.1,x≤reachBytes)→∃f g i l p vL C,∃(L:List Silo.Py) (K:List Int),cs=[I f,I g,I i,I l,I p,vL,C]∧(Int64 f∧Int64 g∧Int64 i∧Int64 l∧Int64 p)∧Rd Silo.Pz W vL L∧Rd Bw W C K)
 (h9:P.underlying J.type=some (.slice a8))(e6:QJ enc P W base sp held Silo.ew (fun _=>True) a8)(e3:P.cellsOf a8=7)(e1:1≤P.bytesOf a8)
 (j0:P.underlying R.type=some (.slice a7))(e5:QJ enc P W base sp held Bw (fun _=>True) a7)(e2:P.cellsOf a7=1)(e0:1≤P.bytesOf a7)
 (b1:Value.okWide P W .any base t v)(h:DataW.Trod enc P W base sp held t v d ps)(b2:∀x∈DataW.weights P t d,x≤reachBytes):
 ∃f g i l p vL C c4 c3,∃(L:List Silo.Py) (K:List Int) (O:List Silo.Kf) (D:List Int),v= .agg #[I f,I g,I i,I l,I p,vL,C,c4,c3]∧(Int64 f∧Int64 g∧Int64 i∧Int64 l∧Int64 p)∧Rd Silo.Pz W vL L∧Rd Bw W C K∧Rd Silo.ew W c4 O∧Rd Bw W c3 D:=by
 unfold Value.okWide at b1;rw[ht] at b1;obtain⟨⟨cs⟩,rfl,j5,_⟩:=b1;obtain⟨j4,h⟩:=h;obtain⟨xs,j6,rfl,hd,b9,h1,b0⟩:=Aes ht h;have e7:d= .agg (xs.map (·.1)):=(Prod.mk.inj hd).1;subst e7;rw[e4] at b9;have h0:xs.length=3:=h1;simp only[Abe,Ad7] at o c;obtain⟨h2,h3,h4⟩:=o;obtain⟨c0,c1,c2⟩:=c;have U:=b0 0 r Z;have a1:=b0 1 J Z;have a6:=b0 2 R Z;have e8:cs.length=9:=b9;simp only[Value.cells] at U a1 a6
 match cs,e8,xs,h0,U,a1,a6,b2 with
 |[c5,c6,c7,c8,c9,b4,b5,b6,b7],_,[j1,j2,j3],_,U,a1,a6,b2=>
  rw[h2,c0] at U;rw[h3,c1] at a1;rw[h4,c2] at a6;have b3:∀x∈DataW.weightsEach P [r.type,J.type,R.type] [j1.1,j2.1,j3.1],x≤reachBytes:=fun x hx=>b2 x (by simp only[DataW.weights,ht];exact hx);obtain⟨f,g,i,l,p,vL,C,L,K,e,hi,h5,h6⟩:=e9 _ _ _ U (fun x hx=>b3 x (Aay (j:=0) Z Z x hx));obtain⟨O,h7,_⟩:=RG (v:=b6) h9 (s:=Silo.ew) (e3.trans Z) dd e1 e6 a1 (fun x hx=>b3 x (Aay (j:=1) Z Z x hx));obtain⟨D,h8,_⟩:=RG (v:=b7) j0 (s:=Bw) (e2.trans Z) dd e0 e5 a6 (fun x hx=>b3 x (Aay (j:=2) Z Z x hx));have b8:[c5,c6,c7,c8,c9,b4,b5]=[I f,I g,I i,I l,I p,vL,C]:=e;simp only[Abe,Ad7] at b8;obtain⟨rfl,rfl,rfl,rfl,rfl,rfl,rfl⟩:=b8;exact⟨f,g,i,l,p,b4,b5,b6,b7,L,K,O,D,Z,hi,h5,h6,h7,h8⟩
end
end Go.Eng
namespace Go.Eng
open Go Go.RowKit Silo
theorem lj{w w':World}{e:TypeId}{lv:Value}{f n:Nat}{xs:List Value}{C:List Ec}(i j:Nat)(h:Below w.heap.size w w')(l:BJ w' w.heap.size e 1 lv n xs)(a1:w.heap.size≤f)(o:LR w' f C):∃c',Mv c w c' w' []∧Ao c' w' i e 1 lv n xs∧Je c' w' j f C:=by
 refine⟨fun k=>if k<w.heap.size then c k else if k=f then j else i,⟨h.os,h.tape,h.output,h.size,fun k hk=>by simp[hk],fun k hk _=>h.block k hk⟩,⟨l.Dl (yU _),fun k hk=>?_⟩,o,?_⟩
 ·have U:=(l.lt k hk).1;have r:k≠f:=fun p=>by
   obtain⟨J,clock,t,_⟩:=o;rcases l.2 with⟨_,A,rfl⟩|⟨g,cap,Cs,R,rfl,_,hg,_,_,_,_,_,HS⟩
   ·rw[GA] at hk;cases hk
   rw[AM HS] at hk;injection hk with hk;have I:g=k:=hk;rw[I,p,t] at hg;cases hg
  show(if k<w.heap.size then c k else if k=f then j else i)=i
  rw[yK oo,yK r]
 show(if f<w.heap.size then c f else if f=f then j else i)=j
 rw[yK oo,yP Z]
end Go.Eng
namespace Go.Proofs.K
open Go Go.Eng Go.RowKit Silo TryzT
section
variable {c:Nat→Nat} {w:World} {p:Nat} {A:Cr} {d:Int}
theorem TJ{vs:List Value}{ms:List Nat}{g o:List (List Ec)}(a6:Ev c w 62 9 vs g)(J:Ew c w 63 ms o){n:Nat}(h0:0<n)(a1:n≤1048576):Calls QP 32 #[I n] w (AP fun u w'=>∃c',Mv c w c' w' []∧∃lv f,u= .agg #[.bool true,lv, .map (some f)]∧
 Ao c' w' 62 9 1 lv (EF n).l.length ((EF n).l.map St)∧Je c' w' 63 f (EF n).cache∧(∀(k:Nat) (u:Value) (l:List Ec) (b:Nat),vs[k]?=some u→g[k]?=some l→u.rowOf=some b→lv.rowOf≠some b)∧∀u∈ms,f≠u):=
 (jc h0 a1).mono fun e w' ⟨u,hu,C,lv,f,p,i,j,U⟩=>by
  obtain⟨c',R,r,t⟩:=lj (c:=c) 62 63 C j i U;refine⟨u,hu,c',R,lv,f,p,?_,t,a6.newRow fun k hk=>(j.lt k hk).1,J.rv i⟩;rw[show(EF n).l.length=n from yX,show(EF n).l.map St=List.replicate n (St CG) from List.map_replicate];exact r
theorem ZW(h:By c w p A)(R:UR A):Calls QP 11 #[.pointer (some ⟨p,0,none⟩),I d] w (AP fun u w'=>∃c',Mv c w c' w' Bt∧By c' w' p (Hg A d).1∧u=I (Hg A d).2):=by
 have l:=h;obtain⟨v,X,i,f⟩:=h;have hJ:=AZ.start c w Bt;replace i:=i.Ca (J:=Bt) Z;replace f:=f.Ca;replace l:=l.Ca;obtain⟨b0,cp,rfl,b4,b5⟩:=f.form;have b3:=f.len;generalize AT c Bt=c0 at hJ i f l;refine enter (n:=20) (res:=#[.tmp 4]) Tryz.func11 Z Z Z Z<|Ab<|cg<|za Z<|Ac<|Ab<|Ab<|cg<|zm Z<|zm Z<|ve (Al c0 1 (Ay.call ak Z (NC l))) ?_;rintro b9 w1 ⟨c1,o,b6,rfl⟩;refine vq (Bq Z)<|Ac<|AS Z (fun j=>?_) fun j=>?_
 ·refine Ab<|cg<|za Z<|Ac ?_;refine Az Z Z ?_;exact⟨_,hJ.mv.out,by simpa[Hg,j] using(l.mv o).out (hJ.mv o),by simp[Hg,j]⟩
 obtain⟨k,rfl,hk⟩:=RL j;have a8:=R.sec;refine Aj<|Ab<|AY c1 [61] [0,0,0,1,0,0,0,0,1,2,0,3] [0,1,2,3,4,5,6,7,8,9,10,11] fun w2 C g=>?_;refine AK Z Z<|vd Z (fun _=>Ae Z)<|vd Z (fun _=>Aa Eh Z)<|vc Z g.kp (i.mv.kb Ho Z Z)<|AK Z Z<|AK Z Z<|vd Z (fun _=>Ae Z)<|vd Z (fun _=>Aa Mm Z)<|vc Z g.kp (i.mv.kb Au Z Z)<|WD.AW Z Z Z (Ay.call qF Z (TJ f.mv.rows f.mv.maps a8.1 oo)) Z ?_;rintro b8 c2 ⟨b1,r,⟨lv,b7,rfl,a7,U,a1,a6⟩⟩;refine g.AX r fun g=>vd Z (fun _=>Bj Lg f.mv.own Z Z oo oo) ?_;refine WD.wild Z Z Z ((dc (k:=k) (x1:= .tmp 19) (y:= .tmp 18) (x':=EF A.BR) ch f.mv hk Z Z Z a7 U a1 a6)) ?_;rintro _ c3 ⟨b2,t,f⟩;try replace g:=g.tr t Z
 refine WD.nil ?_;clear g;refine Ab<|cg<|za Z<|Ac<|Az Z Z ?_;replace hJ:=(((hJ.mv o).mv C).mv r).mv t;exact⟨_,hJ.out,by simp only[Hg,j,Afa];exact⟨_,_,((((i.mv o).mv C).mv r).mv t).out hJ Z,f.out hJ⟩,by simp[Hg,j]⟩
theorem lk(h:By c w p A)(a1:UR A):Calls QP 10 #[.pointer (some ⟨p,0,none⟩),I d] w (AP fun u w'=>∃c',Mv c w c' w' Bt∧By c' w' p (OT A d).1∧u=I (OT A d).2):=by
 have o:=h;obtain⟨v,X,j,f⟩:=h;have hJ:=AZ.start c w Bt;replace j:=j.Ca (J:=Bt) Z;replace f:=f.Ca;replace o:=o.Ca;have c2:=f.len;have e2:=a1.many;obtain⟨g,cp,rfl,c4,c5⟩:=f.own.BW oo;generalize AT c Bt=c0 at hJ j f o;refine enter (n:=27) (res:=#[.tmp 4]) Tryz.func10 Z Z Z Z<|Ab<|cg<|za Z<|Ac<|Ab<|Ab<|cg<|zm Z<|zm Z<|ve (Al c0 1 (Ay.call ak Z (NC o))) ?_;rintro c8 w1 ⟨c1,r,c6,rfl⟩;refine vq (Bq Z)<|Ac<|AS Z (fun l=>?_) fun l=>?_
 ·refine Ab<|cg<|za Z<|Ac ?_;refine Az Z Z ?_;exact⟨_,hJ.mv.out,by simpa[OT,l] using(o.mv r).out (hJ.mv r),by simp[OT,l]⟩
 obtain⟨k,rfl,hk⟩:=RL l;have b6:=a1.sec;refine Aj<|Ab<|AY c1 [61] [0,0,0,1,0,0,0,0,1,2,0,3] [0,1,2,3,4,5,6,7,8,9,10,11] fun w2 R i=>?_;refine AK Z Z<|vd Z (fun _=>Ae Z)<|vd Z (fun _=>Aa Eh Z)<|vc Z i.kp (j.mv.kb Ho Z Z)<|AK Z Z<|AK Z Z<|vd Z (fun _=>Ae Z)<|vd Z (fun _=>Aa Mm Z)<|vc Z i.kp (j.mv.kb Au Z Z)<|WD.AW Z Z Z (Ay.call qF Z (TJ f.mv.rows f.mv.maps b6.1 oo)) Z ?_;rintro c7 c9 ⟨b7,t,⟨lv,a6,rfl,b5,b2,b3,b4⟩⟩;refine i.AX t fun i=>vd Z (fun _=>Bj Lg f.mv.own Z Z oo oo) ?_;refine WD.wild Z Z Z ((dc (k:=k) (x1:= .tmp 19) (y:= .tmp 18) (x':=EF A.BR) ch f.mv hk Z Z Z b5 b2 b3 b4)) ?_;rintro _ e0 ⟨b8,C,f⟩;try replace i:=i.tr C Z
 refine WD.nil ?_;clear i;refine Ab ?_;have c3:(X.set k (true,lv,a6)).length=X.length:=zF;have b1:k<X.length:=oo;have b0:=RO (x:=(true,lv,a6)) b1;have a8:=RO (x:=EF A.BR) hk;have a7:(⟨g,k*3,none⟩:Addr)=(Bh (.slice (some ⟨g,0,none⟩) X.length cp) 3 (k:Int).toNat).add 0:=by simp[Bh,add_lit]
 refine cg<|zm Z<|vq (Ae Z)<|vq (Aa Eh Z)<|vq (Ah Ho Z j.mv.Ap Z)<|zm Z<|vq (Bj Lg f.own Z Z oo oo) ?_
 first|refine vq (Aa Oc Z) ?_|refine vq (AR Oc Z) ?_
 refine WR.AI ((mW (x1:= .tmp 26) Jc f b0 a8 Z (by rw[a7];rfl) Z)) ?_;rintro _ e1 ⟨b9,U,f⟩;rw[List.set_set,List.set_set] at f;refine Ac<|Ab<|cg<|za Z<|Ac<|Az Z Z ?_;replace hJ:=((((hJ.mv r).mv R).mv t).mv C).mv U;exact⟨_,hJ.out,by simp only[OT,l,Afa];exact⟨_,_,(((((j.mv r).mv R).mv t).mv C).mv U).out hJ Z,f.out hJ⟩,by simp[OT,l]⟩
end
end Go.Proofs.K
namespace Silo
open Go.Eng
theorem lm{l:Ec}{k:Nat}(h:k<l.length):l.getD k 0=l[k]:=by simp[gy,aa h]
end Silo
namespace Go.Eng
open Go Go.RowKit
theorem Ao.yA{i:Nat}{e:TypeId}{v:Value}{n:Nat}{l:List UInt8}(h:Ao c w i e 1 v n (Ax l))(hl:l.length≤140737488355328):Bi oE c w [i] v l:=fun w' hs hk=>
 (h.sB w' hs hk).lJ hl
end Go.Eng
namespace Go.Proofs.K
open Go Go.Eng Go.RowKit Silo TryzT
section
variable {c:Nat→Nat} {w:World} {p:Nat} {A:Cr} {d:Int}
theorem ln(h:By c w p A)(U:UR A){n:Int}(e9:n≤9223372036854775807):Calls QP 12 #[.pointer (some ⟨p,0,none⟩),I d,I n] w (AP fun u w'=>∃c',Mv c w c' w' Bt∧By c' w' p (Ki A d n).1∧u=I (Ki A d n).2):=by
 have C:=h;obtain⟨v,X,i,f⟩:=h;have hJ:=AZ.start c w Bt;replace i:=i.Ca (J:=Bt) Z;replace f:=f.Ca;replace C:=C.Ca;obtain⟨c9,cp,rfl,e7,e8⟩:=f.form;have e6:=f.len;have h8:=U.sec;generalize AT c Bt=c0 at hJ i f C;refine enter (n:=71) (res:=#[.tmp 6]) Tryz.func12 Z Z Z Z<|Ab<|cg<|za Z<|Ac<|Ab<|Ai<|Ab<|cg<|zm Z<|zm Z<|ve (Al c0 1 (Ay.call ak Z (NC C))) ?_;rintro h2 w1 ⟨c1,g,h1,rfl⟩;refine vq (Bq Z)<|za Z<|Ac<|AS Z (fun o=>?_) fun o=>?_
 ·refine Ab<|cg<|za Z<|Ac ?_;refine Az Z Z ?_;exact⟨_,hJ.mv.out,by simpa[Ki,o] using(C.mv g).out (hJ.mv g),by simp[Ki,o]⟩
 obtain⟨k,rfl,hk⟩:=RL o;have hx:=U.each _ (zx (Ex hk));obtain⟨lv,m,a6⟩:=(f.mv g).at_ (Ex hk);refine Ab<|cg<|zm Z<|vq (AE Z Z)<|za Z<|Ac<|AS Z (fun b8=>?_) fun b8=>?_
 ·refine Ab<|cg<|za Z<|Ac ?_;refine Az Z Z ?_;exact⟨_,hJ.mv.out,by simpa[Ki,o,show¬0≤n by omega] using(C.mv g).out (hJ.mv g),by simp[Ki,o,show¬0≤n by omega]⟩
 have a7:=(f.mv g).CY a6;refine Ab<|cg<|zm Z<|vq (Ae Z)<|vq (Aa Eh Z)<|vq (Ah Ho Z i.mv.Ap Z)<|zm Z<|vq (Bj Lg f.mv.own Z Z oo oo)<|vq (AR Oc Z) ?_;refine vq (EA Jc Z a7.CY Z)<|vq (Bq Z)<|za Z<|Ac<|AS Z (fun a1=>?_) fun a1=>?_
 ·refine Ab<|cg<|za Z<|Ac ?_;refine Az Z Z ?_;exact⟨_,hJ.mv.out,by simpa[Ki,o,a1,show 0≤n by omega] using(C.mv g).out (hJ.mv g),by simp[Ki,o,a1,show 0≤n by omega]⟩
 refine Aj<|Ab ?_;have b9:=a7;have b2:=a7;have a8:=(f.mv g).row a6 (Ex hk);obtain⟨q,b3⟩:∃q:Nat,q=(n%(512*A.BR)).toNat:=⟨_,Z⟩;have c6:n%(512*(A.BR:Int))=(q:Int):=by rw[b3];exact(Int.toNat_of_nonneg (Ab5 _ oo)).symm
 have h0:q<512*A.BR:=by have:=Ab1 n (show(0:Int)<512*A.BR by omega);omega
 have c7:q/512<A.BR:=oo;have h9:=hx.ll;have b1:=a8.qa (j:=((q/512:Nat):Int).toNat) oo;obtain⟨t,ht⟩:∃t,t=tx (Ct A k).l (q/512):=⟨_,Z⟩;have c8:t.length=64:=by rw[ht];exact hx.tl _ c7
 have b4:tx (Ct A k).l ((q/512:Nat):Int).toNat=t:=ht.symm;rw[b4] at b1;have b0:q/8%64<t.length:=oo;refine cg<|zm Z<|zm Z<|vq (Ae Z)<|vq (Aa Mm Z)<|vq (Ah Au Z i.mv.Ap Z)<|vq (FZ Z Z Ad Ad)<|vq (Xr Z Z oo oo) ?_;rw[c6];refine za Z<|Ac<|Ab<|cg<|zm Z<|vq (Rk Z Z oo oo oo) ?_;rw[show((q:Int)/512)=((q/512:Nat):Int) by omega];refine za Z<|Ac<|Ab<|cg<|zm Z<|vq (Ae Z)<|vq (Aa Eh Z)<|vq (Ah Ho Z i.mv.Ap Z)<|zm Z<|vq (Bj Lg f.mv.own Z Z oo oo)<|vq (AR RA Z)<|vq (EA CB Z b9.CY Z)<|zm Z<|vq (Bj BE a8 Z Z oo oo)<|vq (Bl BK Z b1.CY) ?_;refine ve (gV c1 147 gx zG yR Z EY) ?_;rintro h3 w2 ⟨c2,e1,r⟩;refine za Z<|Ac<|Ab ?_;rw[c8] at r;have b6:=r.yA oo;obtain⟨c3,_⟩:=BP (n:=1) (enc:=fun b:UInt8=>[Value.int .u8 b.toNat]) (ok:=fun _=>True) b6 b0 dd;refine AY c2 [] [0,0,0,0,0,1,0,0,0,0,0,3] [0,1,2,3,4,5,6,7,8,9,10,11] fun h4 e2 R=>?_;have b7:=i;have c4:=b2;refine AK Z Z<|AK Z Z<|vd Z (fun _=>Rk Z Z oo oo oo)<|vd Z (fun _=>Xr Z Z oo oo) ?_;rw[show((q:Int)/8%64)=((q/8%64:Nat):Int) by omega];refine vd Z (fun _=>Bj Di r.mv Z Z oo oo) ?_;rw[pv];refine vc Z R.kp (c3.mv.ke Ot Z)<|AK Z Z<|vd Z (fun _=>Xr Z Z oo oo) ?_;rw[show((q:Int)%8)=((q%8:Nat):Int) by omega];refine vd Z (fun _=>bW Z Z oo (by simp[IntKind.bits];omega)) ?_;rw[pv];refine vd Z (fun _=>vu Z Z)<|vd Z (fun _=>Bj Di r.mv Z Z oo oo) ?_;rw[pv];refine WD.wild Z Z Z (ca Ot r.mv Ad Z Z ra ra) ?_;rintro _ h5 ⟨r,e3⟩;rw[Sc] at r;refine WD.nil ?_;clear b7 c4;clear R;refine Ab ?_;have c5:t.set (q/8%64) (Iq (((BitVec.ofInt 8 (t[q/8%64].toNat:Int))^^^(BitVec.ofInt 8 (IntKind.u8.wrap (1*2^(q%8))))).toNat:Int))=UQ t q:=by rw[UQ,mT,lm b0]
 rw[c5] at r;refine AY c2 [] [0,0,0,1,0,0,0,1,0,0,1,0,3] [0,1,2,3,4,5,6,7,8,9,10,11,12] fun h6 e4 R=>AK Z Z<|vd Z (fun _=>Ae Z)<|vd Z (fun _=>Aa Eh Z)<|vc Z R.kp (i.mv.kb Ho Z Z)<|AK Z Z<|vd Z (fun _=>Bj Lg f.mv.own Z Z oo oo)<|vd Z (fun _=>AR RA Z)<|vc Z R.kp (b2.mv.kf CB Z Z)<|AK Z Z ?_;refine AK Z Z<|vc Z R.kp (fun W U=>GV zG gx yR Z (r.mv.kp U Z).own)<|vd Z (fun _=>Bj BE a8.mv Z Z oo oo) ?_;refine WD.wild Z Z Z ((UU (x1:= .tmp 70) (y:= .tmp 69) BK f.mv a6 (Ex hk) Z Z oo)) ?_;rintro _ h7 ⟨e0,e5,f⟩;refine WD.nil ?_;clear R;refine Ab<|cg<|za Z<|Ac<|Az Z Z ?_;have b5:Ki A k n=(Nz A k {Ct A k with l:=(Ct A k).l.set (q/512) (UQ t q)},0):=by
  rw[Ki,if_pos o,if_pos oo,show((k:Int)).toNat=k from Z,if_pos a1];dsimp only;rw[←b3,ht]
 rw[b5];exact⟨_,hJ.mv.out,⟨_,_,i.mv.out hJ.mv Z,f.out hJ.mv⟩,Z⟩
end
end Go.Proofs.K
namespace Go.Eng
open Go Go.RowKit Silo
section
variable {c c':Nat→Nat} {w:World} (hc:∀k i,i≠0→c k=i→c' k=i)
include hc
theorem Ar.gB{i b:Nat}{cs:List Value}{t:TypeId}(h:Ar c w i b cs t)(h0:i≠0:=by decide):Ar c' w i b cs t:=⟨h.Ap,hc _ _ h0 h.Bf⟩
theorem Ao.gB{i:Nat}{e:TypeId}{size n:Nat}{v:Value}{xs:List Value}(h:Ao c w i e size v n xs)(h0:i≠0:=by decide):Ao c' w i e size v n xs:=⟨h.own,fun k hk=>hc _ _ h0 (h.Bf k hk)⟩
theorem Je.gB{i b:Nat}{C:List Ec}(h:Je c w i b C)(h0:i≠0:=by decide):Je c' w i b C:=⟨h.obj,hc _ _ h0 h.Bf⟩
theorem Ev.gB{i:Nat}{t:TypeId}{vs:List Value}{L:List (List Ec)}(h:Ev c w i t vs L)(h0:i≠0:=by decide):Ev c' w i t vs L:=⟨h.len,fun j v l f g=>(h.row j v l f g).gB hc h0,h.apart⟩
theorem Ew.gB{i:Nat}{ms:List Nat}{L:List (List Ec)}(h:Ew c w i ms L)(h0:i≠0:=by decide):Ew c' w i ms L:=⟨h.len,fun j v l f g=>(h.row j v l f g).gB hc h0,h.apart⟩
theorem Bv.gB{v:Value}{X:List DX}{D:List Tb}(h:Bv c w v X D):Bv c' w v X D:=⟨h.live,h.own.gB hc,h.rows.gB hc,h.maps.gB hc⟩
end
theorem AZ.qm{c0 c:Nat→Nat}{w0 w:World}(h:AZ c0 w0 [] c w):∀k i,i≠0→c k=i→back c0 w0 c k=i:=fun k i f hk=>by
 unfold back;split
 ·rename_i g;rw[h.Bf k g] at hk;exact absurd hk.symm f
 ·exact hk
theorem Bv.snoc{v:Value}{X:List DX}{D:List Tb}{x:Tb}{lv:Value}{m:Nat}(h1:X.map (·.1)=D.map (·.live))(f:Ao c w 61 87 3 v (X.length+1) (X.flatMap YF++[.bool x.live,lv, .map (some m)]))
 (g:Ev c w 62 9 (X.map (·.2.1)) (D.map (·.l)))(i:Ew c w 63 (X.map (·.2.2)) (D.map (·.cache)))(t:Ao c w 62 9 1 lv x.l.length (x.l.map St))(o:Je c w 63 m x.cache)
 (p:∀(j:Nat) (u:Value) (l:List Ec) (b:Nat),(X.map (·.2.1))[j]?=some u→(D.map (·.l))[j]?=some l→u.rowOf=some b→lv.rowOf≠some b)(r:∀u∈X.map (·.2.2),m≠u):Bv c w v (X++[(x.live,lv,m)]) (D++[x]):=by
 refine⟨by simp[h1],?_,?_,?_⟩
 ·rw[bU,zP];exact f
 ·rw[zB,zB];exact g.snoc t p
 rw[zB,zB];exact i.snoc o r
end Go.Eng
namespace Go.Proofs.K
open Go Go.Eng Go.RowKit Silo TryzT
theorem ot{n s:Int}:Calls QP 19 #[I n,I s] w (AP fun u w'=>∃c',Mv c w c' w' []∧
 ((∃k j p:Nat,n=k∧s=j∧(1≤k∧k≤12∧1≤j∧j≤2048)∧u= .tuple #[.pointer (some ⟨p,0,none⟩),I 0]∧By c' w' p (OS k j))∨(¬(1≤n∧n≤12∧1≤s∧s≤2048)∧u= .tuple #[.pointer none,I 1]))):=by
 have hJ:=AZ.start c w [];generalize AT c []=c0 at hJ;refine enter (n:=40) (res:=#[.tmp 4, .tmp 5]) Tryz.func19 Z Z Z Z<|Ab<|cg<|za Z<|za Z<|Ac<|Ab<|Ab<|cg<|zm Z<|vq (AE Z Z)<|zm Z ?_;apply WR.CJ false 2 _ BT
 ·intro c5;refine wo<|zm rfl<|wo<|vq (BZ rfl rfl) ?_;exact Dm 2
 refine zm Z ?_;apply WR.CJ false 2 _ BT
 ·intro c6;refine wo<|zm rfl<|wo<|vq (AE rfl rfl) ?_;exact Dm 2
 refine zm Z ?_;apply WR.CJ false 2 _ BT
 ·intro c4;refine wo<|zm rfl<|wo<|vq (BZ rfl rfl) ?_;exact Dm 2
 refine Ac<|AS Z (fun b2=>?_) fun b2=>?_
 ·refine Ab<|cg<|za Z<|za Z<|Ac ?_;refine Dn Z Z Z ?_;exact⟨_,hJ.out, .inr ⟨by omega,Z⟩⟩
 obtain⟨k,rfl⟩:∃k:Nat,n=k:=⟨n.toNat,by omega⟩;obtain⟨j,rfl⟩:∃j:Nat,s=j:=⟨s.toNat,by omega⟩;refine Aj<|Ab<|cg<|zm Z<|vq (AB (cells:=#[.slice none 0 0,I j, .bool false,I (-1),I 0]) Z kr) ?_;refine Dz c0 60 fun w1 a1 c1 c2 g=>?_;refine za Z<|Ac<|Ab<|Ab<|cg<|zm Z<|zm Z<|Ac<|Ai<|WC.loop (σ:=Nat) (fun i=>[(1,I j),(6, .pointer (some ⟨a1,0,none⟩)),(24,I k),(25,I i)]) (fun i w'=>i≤k∧∃c' v X,AZ c w [] c' w'∧Ar c' w' 60 a1 [v,I j, .bool false,I (-1),I 0] 91∧Bv c' w' v X (List.replicate i (EF j))) (fun i=>k-i) 0 Aq ⟨by omega,_,_,[],hJ.mv,g,⟨Z,Ao.nil _ _ _ _ _,Ev.nil,Ew.nil⟩⟩ ?_;clear hJ g;rintro i e9 ⟨hi,b1,v,X,hJ,g,J,l,R,U⟩;have c3:X.length=i:=by have:=zC List.length J;simpa using this
 have c8:=l.Av;have c9:=l.Aw;refine Ab<|cg<|vq (AE Z Z)<|Ac<|Ab<|AS Z (fun b3=>?_) fun b3=>?_
 ·refine Aj<|Ab<|Ai ?_;refine AY b1 [61] [0,0,0,0,1,0,2,2,2,0,0,3] [0,1,2,3,4,5,6,7,8,9,10,11] fun w2 a6 f=>AK Z Z<|AK Z Z<|vd Z (fun _=>Ae Z)<|vd Z (fun _=>Aa Eh Z)<|vc Z f.kp (g.mv.kb Ho Z Z)<|AK Z Z<|WD.AW Z Z Z (Ay.call qF Z (TJ R.mv U.mv oo oo)) Z ?_;rintro e3 e5 ⟨b0,C,⟨lv,c7,rfl,a8,b4,b5,b6⟩⟩;refine f.AX C fun f=>?_;have e0:=a8.Av;refine WD.AW Z Z Z (Bb b0 134 Lg Z Z Z Z Z) Z ?_;rintro _ e6 ⟨b7,b8,rfl,r,a7⟩;refine f.AX r fun f=>WD.AW Z Z Z (AN Lg Z Z l.mv (Src.An Tryz.underlying89 a7.Ap.An Z AG) EY Fb) Z ?_;rintro e4 e7 ⟨b9,t,l⟩;refine f.AX t fun f=>?_;clear a7;have e1:=l.Av;have e2:=l.Aw;refine vd Z (fun _=>Ae Z)<|vd Z (fun _=>Aa Eh Z)<|WD.wild Z Z Z (AJ Ho Z Z ra ra g.mv Z) ?_;rintro _ e8 ⟨g,o⟩;try replace f:=f.tr o Z
  refine WD.nil ?_;clear f;refine cg<|vq (AH Z Z Ad Ad)<|zm Z<|Ac ?_;refine⟨i+1,Aq,⟨by omega,_,_,_,hJ.mv,g,by rw[Adv];exact Bv.snoc J (l.mv o) (((((R.mv a6).mv C).mv r).mv t).mv o) (((((U.mv a6).mv C).mv r).mv t).mv o) (((a8.mv r).mv t).mv o) (((b4.mv r).mv t).mv o) b5 b6⟩,by omega⟩
 have e:i=k:=oo;subst e;refine WC.exit Z<|Ab<|cg<|zm Z<|za Z<|za Z<|Ac<|Dn Z Z Z ?_;exact⟨_,hJ.out, .inl ⟨i,j,_,Z,Z,by omega,Z,_,_,g.gB hJ.qm,(Bv.mk J l R U).gB hJ.qm⟩⟩
end Go.Proofs.K
namespace Go.Eng
open Go Go.RowKit Silo
section
variable {P:Program} {env:Env} {w:World} {ty ty2 t:TypeId} {x y:Operand} {a:Option Addr}
theorem Qv(ht:P.underlying t=some (.pointer (P.pointee t)))(hx:Ba env x=some (.pointer a)):Bp P env w (.binOp .eql t x (.const (.pointer none)) ty2) ty (.bool a.isNone):=fun _ f l d pos o g=>by
 have i:=Ae9 (P:=P) w t a ht;have j:f.eval (.const (.pointer none))= .pointer none:=rfl;simp[execOp,l.eval hx,eqGuard,binOp,i,j]
theorem lp{m n:Int}(hx:Ba env x=some (I m))(hy:Ba env y=some (I n)):Bp P env w (.binOp .and t x y ty2) ty (I (IntKind.i64.wrap ((BitVec.ofInt IntKind.i64.bits m&&& BitVec.ofInt IntKind.i64.bits n).toNat:Int))):=
 JU (k:= .i64) hx hy (.inr (.inl ⟨Z,Z⟩))
end
end Go.Eng
namespace Go.Proofs.K
open Go Go.Eng Go.RowKit Silo TryzT
theorem lq{n m:Nat}(U:1≤n∧n≤12)(R:1≤m∧m≤2048):Calls QP 19 #[I n,I m] w (AP fun u w'=>∃c',Mv c w c' w' []∧∃p,By c' w' p (OS n m)∧u= .tuple #[P1 p,I 0]):=
 (ot (c:=c) (w:=w) (n:=n) (s:=m)).mono fun e w' ⟨v,t,c',r,h⟩=>by
  rcases h with⟨k,j,p,f,C,J,l,o⟩|⟨f,_⟩
  ·have g:n=k:=oo;have i:m=j:=oo;subst g;subst i;exact⟨v,t,c',r,p,o,l⟩
  ·exact absurd oo f
theorem TK{s:Cn}{n N:Nat}(hs:Small s∧s.size≤9)(b1:s.k+s.m≤n∧n≤7)(a1:4≤N∧N≤12):
 Calls QP 6 #[.agg (DO s).toArray,I n,I N] w (AP fun u w'=>∃c',Mv c w c' w' Bt∧∃A k p pa pj j,Fi c' w' k p (.slice none 0 0) (.slice none 0 0) (.slice none 0 0) Ug∧BU c' w' p pa pj (.slice none 0 0) (.slice none 0 0) (.slice none 0 0) ⟨s,N,A,j,eZ,(-1,-1),false⟩∧Hj n (1024+N*Bn s.size) 20000 (OS n (1024+N*Bn s.size)) A∧Rs n j∧j.used=24∧j.failed=false∧u= .tuple #[P1 pa,P1 k]):=by
 have hJ:=AZ.start c w Bt;generalize AT c Bt=c0 at hJ;obtain⟨c9,_⟩:=id hs.1;have b5:Bn s.size≤2:=by unfold Bn;omega
 have b6:=SQ s.size;have i:(N:Int)*((Bn s.size:Nat):Int)=((N*Bn s.size:Nat):Int):=by rw[Acs]
 have a8:N*Bn s.size≤24:=by have:=yQ a1.2 b5;omega
 have a7:1≤N*Bn s.size:=Af8 oo b6;obtain⟨M,l⟩:∃M,M=N*Bn s.size:=⟨_,Z⟩;rw[←l] at a8 a7;refine enter (n:=46) (res:=#[.tmp 6, .tmp 7]) Tryz.func6 Z Z Z Z<|Ab<|cg<|Dz c0 103 fun w1 b3 c1 b9 o=>?_;refine za Z<|za Z<|Ac<|Ab<|cg<|zm Z<|zm Z<|vq (Aa DL Z)<|vq (Ah Au Z o.Ap Z)<|ve (Al c1 1 (Ay.call xm Z (gn (z:=s.size) oo))) ?_;rintro e3 w2 ⟨c2,c3,e0,rfl⟩;refine vq (FZ (m:=(N:Int)) (n:=(Bn s.size:Nat)) Z Z (by rw[i];omega) (by rw[i];omega)) ?_;rw[i,←l];have b0:(1024:Int)+(M:Int)=((1024+M:Nat):Int):=oo;refine vq (AH Z Z oo oo) ?_;rw[b0];refine ve (Ay.call xl Z (lq (c:=c2) (n:=n) (m:=1024+M) oo oo)) ?_;rintro v20 e7 ⟨C,c4,⟨pa,R,rfl⟩⟩;refine zm Z<|vq (Ag Z Z)<|vq (Ag Z Z)<|za Z<|za Z<|Ac<|Ab<|Ab<|cg<|zm Z<|ve (Al C 1 (Ay.call sH Z (ZU 0))) ?_;rintro e4 e8 ⟨b7,c5,e1,rfl⟩;refine vq (Bm Z Z)<|zm Z ?_;apply WR.CJ false 2 _ BT
 ·intro b2;refine wo<|zm rfl<|wo<|vq (Qv Ad5 rfl) ?_;exact Dm 2
 refine Ac<|CD Z (fun r=>?_) fun r=>?_
 ·simp at r
 refine Aj<|Ab<|cg<|zm Z<|vq (AD Cq Z o.mv.Ap Z)<|zm Z ?_;refine ve (Ay.call xn Z (ol (m:=1024+M) R.mv hs.1 b1 oo oo jg (by show 0≤_;omega) (fun k hk↦YK hk) (fun d q hd c8↦jh hd oo))) ?_;rintro e5 e9 ⟨J,c6,⟨A1,k,p,pj,j,f,g,U,b4,hu,a6,rfl⟩⟩;refine zm Z<|vq (Ag Z Z)<|vq (Ag Z Z)<|za Z<|za Z<|Ac<|Ab<|Ab<|cg<|zm Z<|ve (Al J 1 (Ay.call sH Z (ZU 0))) ?_;rintro e6 h0 ⟨b8,c7,e2,rfl⟩;refine vq (Bm Z Z)<|zm Z ?_;apply WR.CJ false 2 _ BT
 ·intro b2;refine wo<|zm rfl<|wo<|vq (Qv Tryz.underlying35 rfl) ?_;exact Dm 2
 refine Ac<|CD Z (fun t=>?_) fun t=>?_
 ·simp at t
 refine Aj<|Ab<|cg<|zm Z<|zm Z<|za Z<|za Z<|Ac<|Dn Z Z Z ?_;exact⟨_,hJ.mv.out,A1,k,p,pa,pj,j,⟨f.mv.Ap.Ej hJ.mv,fun w' _ _=>Dx.nil HY _ _,fun w' _ _=>Dx.nil RJ _ _,fun w' _ _=>Dx.nil SH _ _,f.mv.pt,f.mv.pg,f.mv.ps⟩,⟨g.mv.Ap.Ej hJ.mv,By.MP g.mv.arr hJ.mv,DI.Ej g.mv.rD hJ.mv,⟨fun w' _ _=>Dx.nil ES _ _,fun w' _ _=>Dx.nil IU _ _,fun w' _ _=>Dx.nil RJ _ _⟩⟩,U,b4,hu,a6,Z⟩
end Go.Proofs.K
namespace Silo
open Go Go.Eng
structure Jh (i:Nat) (S:Hq):Prop where
 TL:Hc S.things
 qn:∀x∈S.things,AV x.text=x.Ak∧x.Ff=false∧x.text.length≤40
 len:S.things.length≤i
 tags:S.tags=[]
 gC:∀x∈S.sessions,0≤x.id∧x.id<S.next∧x.text.length≤40
 BY:S.sessions.length≤i
 up:(S.sessions.map Mt.id).Pairwise (·<·)
 next:0≤S.next∧S.next≤i
theorem Jh.more{i j:Nat}{S:Hq}(h:Jh i S)(f:i≤j):Jh j S:=⟨h.TL,h.qn,zz h.len f,h.tags,h.gC,zz h.BY f,h.up,⟨h.next.1,by have:=h.next.2;omega⟩⟩
theorem Jh.wy{i:Nat}{S:Hq}(h:Jh i S):SJ S.sessions:=fun a b f j g=>by
 have:=Aa8.1 h.up a b (by simpa using f) (by simpa using j) g;simpa using this
theorem Jh.small{i:Nat}{S:Hq}(h:Jh i S)(hi:i≤100):KG S:=by
 refine⟨fun t ht=>?_,fun t ht=>?_,fun t ht=>?_,?_,?_,?_,?_⟩
 ·obtain⟨f,_,g⟩:=h.qn t ht;refine⟨?_,by omega⟩;rw[←f,Ea];decide
 ·rw[h.tags] at ht;simp at ht
 ·obtain⟨f,j,g⟩:=h.gC t ht;have:=h.next;exact⟨⟨by omega,by omega⟩,by omega⟩
 ·have:=h.len;omega
 ·rw[h.tags];simp
 ·have:=h.BY;omega
 have:=h.next;omega
def Ru(o:Kf):Prop:=(o.kind=1∨o.kind=2∨o.kind=3∨o.kind=4∨o.kind=6)∧Go.Eng.Int64 o.id∧Go.Eng.Int64 o.n∧Go.Eng.Int64 o.m∧o.name=[]∧o.Ak.length≤32∧o.text.length≤40
theorem Ru.small{o:Kf}(h:Ru o):SK o:=by
 obtain⟨l,f,g,i,j,p,r⟩:=h;exact⟨⟨⟨by omega,by omega⟩,f,g,i⟩,by rw[j];simp,by omega,by omega⟩
theorem Ru.kind{o:Kf}(h:Ru o):1≤o.kind∧o.kind≤6:=by have:=h.1;omega
theorem bO{α:Type}{l:List α}{k:Nat}{x y:α}(h:x∈l.set k y):x∈l∨x=y:=Aak h
theorem VH{T f:List DE}{t:DE}(h:HZ T t=some f):f.length≤T.length+1∧∀x∈f,x∈T∨x=t:=by
 rw[HZ] at h;split at h
 ·obtain rfl:=Option.some.inj h;exact⟨by omega,fun x hx=> .inl hx⟩
 ·split at h
  ·cases h
  ·obtain rfl:=Option.some.inj h;exact⟨by have:=ZQ T t;simp only[Xk] at this;omega,fun x hx=>(Pw.1 hx).symm⟩
theorem Jh.rZ{i:Nat}{S:Hq}(h:Jh i S)(hi:i≤100){o:Kf}(r:Ru o):KG (Jd S o).1:=by
 have f:=h.small hi;obtain⟨g,j,l,t,p,J,C⟩:=id f;have a6:=h.next;have a7:=h.BY;have hl:=h.len;rw[Jd];split
 ·rw[FC];split
  ·exact f
  refine⟨g,j,fun x hx=>?_,t,p,by simp only[List.length_append,List.length_singleton];omega,by dsimp only;omega⟩;rcases List.mem_append.1 hx with hx|hx
  ·exact l x hx
  obtain rfl:=List.mem_singleton.1 hx;exact⟨⟨by dsimp only;omega,by dsimp only;omega⟩,by simp⟩
 split
 ·rw[HC];split
  ·exact f
  rename_i k hk;obtain⟨x,hx⟩:∃x,x=(S.sessions[k]?).getD ⟨0,[]⟩:=⟨_,Z⟩;have U:x.text.length≤40∧Go.Eng.Int64 x.id:=by
   cases I:S.sessions[k]? with
   |none=>rw[hx,I];exact⟨by simp,by simp[Go.Eng.Int64]⟩
   |some y=>
    have hy:=zx I;have a:=h.gC y hy;rw[hx,I];exact⟨a.2.2,by simp only[Aa1];exact⟨by omega,by omega⟩⟩
  dsimp only;rw[←hx];split
  ·split
   ·exact f
   refine⟨g,j,fun y hy=>?_,t,p,by simpa using J,C⟩;rcases bO hy with hy|rfl
   ·exact l y hy
   have:=r.2.2.2.2.2.2;exact⟨U.2,by simp only[bU];omega⟩
  split
  ·split
   ·split
    ·exact f
    rename_i a1 R;obtain⟨a,b⟩:=VH R;refine⟨fun y hy=>?_,j,fun y hy=>l y (List.mem_of_mem_eraseIdx hy),by dsimp only;omega,p,by dsimp only;rw[List.length_eraseIdx];split<;>omega,C⟩;rcases b y hy with hy|rfl
    ·exact g y hy
    have:=r.2.2.2.2.2.1;exact⟨by dsimp only;omega,by dsimp only;omega⟩
   exact f
  exact⟨g,j,fun y hy=>l y (List.mem_of_mem_eraseIdx hy),t,p,by dsimp only;rw[List.length_eraseIdx];split<;>omega,C⟩
 split
 ·have hk:¬o.kind=7:=by have:=r.1;omega
  rw[CC];split
  ·exact f
  dsimp only;split
  ·exact f
  split
  ·exact f
  split
  ·split<;>exact f
  exact absurd oo hk
 have:=r.1;exfalso;omega
theorem Qw{T:List DE}(f:Hc T){x:DE}(hx:x∈T):(CR T x.Ak).isNone=false:=by
 obtain⟨k,hk,rfl⟩:=Aff hx;rw[OG f hk Z];rfl
theorem Jh.yB{i:Nat}{S:Hq}(h:Jh i S){o:Kf}(C:Ru o)(hk:o.kind=3){x:DE}(hc:FP S.things (Jd S o).1.things=some x):x.Ff=false∧x.Ak.length=32∧x.text.length≤40:=by
 have f:FP S.things S.things=none:=TI fun y hy=>Qw h.TL hy;rw[Jd,yK oo,yP oo,HC] at hc;split at hc
 ·rw[show(bad S 3).1.things=S.things from Z,f] at hc;cases hc
 rename_i k t;dsimp only at hc;rw[if_neg oo,if_pos hk] at hc;split at hc
 ·rename_i hd;split at hc
  ·rw[show(bad S 2).1.things=S.things from Z,f] at hc;cases hc
  rename_i j l;dsimp only at hc;have r:x∈j:=List.mem_of_find?_eq_some hc;have g:(CR S.things x.Ak).isNone=true:=by have:=List.find?_some hc;exact this
  rcases(VH l).2 x r with hx|rfl
  ·rw[Qw h.TL hx] at g;cases g
  refine⟨Z,?_,?_⟩
  ·show o.Ak.length=32
   rw[←hd,Ea]
  show((S.sessions[k]?).getD ⟨0,[]⟩).text.length≤40
  cases p:S.sessions[k]? with
  |none=>simp
  |some y=>exact(h.gC y (zx p)).2.2
 rw[show(bad S 7).1.things=S.things from Z,f] at hc;cases hc
end Silo
namespace Go.Proofs.K
open Go Go.Eng Go.RowKit Silo TryzT
theorem VI:Jh 0 Ug:=⟨fun i j hi=>by simp[Ug] at hi,fun x hx=>by simp[Ug] at hx,lx _,Z,fun x hx=>by simp[Ug] at hx,lx _,List.Pairwise.nil,by simp[Ug]⟩
end Go.Proofs.K
namespace Silo
open Go Go.Eng
structure GH (n m:Nat) (s:Cn) (N a b:Nat) (P:Ek):Prop where
 s_:P.s=s
 n_:P.n=N
 pw:FF n m P.A
 Lj:P.A.changes≤20000+8000*(a+b)
 j:Rs n P.J
 used:P.J.used≤24+3200*a+200*b
 may:Dv P.s P.b=true
 tags:P.b.tags=[]
 size:P.b.stripes.length≤41*a+b
 Cs:-1≤P.at_.2∧P.at_.2≤1000
theorem GH.more{n m:Nat}{s:Cn}{N a b a':Nat}{P:Ek}(h:GH n m s N a b P)(f:a≤a'):GH n m s N a' b P:=
 ⟨h.s_,h.n_,h.pw,by have:=h.Lj;omega,h.j,by have:=h.used;omega,h.may,h.tags,by have:=h.size;omega,h.Cs⟩
theorem GH.YC{n m:Nat}{s:Cn}{N a b:Nat}{P:Ek}(h:GH n m s N a b P){A:Cr}(f:FF n m A)(hc:A.changes≤P.A.changes):GH n m s N a b {P with A:=A}:=
 ⟨h.s_,h.n_,f,by have:=h.Lj;show A.changes≤_;omega,h.j,h.used,h.may,h.tags,h.size,h.Cs⟩
def bP(P:Ek):Bool:=P.failed||P.J.failed
theorem GH.step{n m:Nat}{s:Cn}{N a b:Nat}{P:Ek}{A:Cr}{J:JQ}{bk:Bk}{f:Bool}{g1 g2:Int}(h:GH n m s N a b P)(hd:Km n m P A J bk)(hg:-1≤g2∧g2≤1000):GH n m s N a (b+1) {P with A:=A,J:=J,b:=bk,at_:=(g1,g2),failed:=f}:=by
 have g:=hd.lay.Lj;have i:=hd.used;have j:=hd.size;exact⟨h.s_,h.n_,hd.lay.pw,by have:=h.Lj;show A.changes≤_;omega,hd.j,by have:=h.used;show J.used≤_;omega,hd.may,hd.tags,by have:=h.size;show bk.stripes.length≤_;omega,hg⟩
end Silo
namespace Go.Proofs.K
open Go Go.Eng Go.RowKit Silo TryzT
theorem PA{n m:Nat}{s:Cn}{N a b:Nat}{P:Ek}{S S':Hq}{o:Kf}{A:Cr}{J:JQ}{bk:Bk}{f:Bool}{r:ev}(h:GH n m s N a b P)(hd:PE n m P S o A J bk f S' r):GH n m s N (if o.kind=3 then a+1 else a) b {P with A:=A,J:=J,b:=bk,failed:=f}:=by
 have same:Px P A J bk f→GH n m s N (if o.kind=3 then a+1 else a) b {P with A:=A,J:=J,b:=bk,failed:=f}:=fun⟨g,i,j,l⟩=>by
  subst g;subst i;subst j;subst l;exact h.more (by split<;>omega)
 unfold PE at hd;split at hd
 ·exact same hd.1
 ·split at hd
  ·exact same hd.1
  ·split at hd
   ·exact same hd.1
   ·obtain⟨e,hl,_⟩:=hd;split at hl
    ·rename_i hk;rw[yP hk];cases p:FP S.things (Jd S o).1.things with
     |none=>
      rw[p] at hl;obtain⟨g,i,j,l,_⟩:=hl;subst g;subst i;subst j;subst l;exact h.more oo
     |some x=>
      rw[p] at hl;have t:=hl.lay.Lj;have C:=hl.used;have I:=hl.size;exact⟨h.s_,h.n_,hl.lay.pw,by have:=h.Lj;show A.changes≤_;omega,hl.j,by have:=h.used;show J.used≤_;omega,hl.may,hl.tags,by have:=h.size;show bk.stripes.length≤_;omega,h.Cs⟩
    ·obtain⟨g,i,j,l,_⟩:=hl;exact same ⟨g,i,j,l⟩
theorem IE{k p pa pj n m N a b i:Nat}{s:Cn}{vT vG vS bS bT bG:Value}{P:Ek}{S:Hq}{o:Kf}(a6:Fi c w k p vT vG vS S)(a8:BU c w p pa pj bS bT bG P)(hs:Small s)(b1:0<n∧n≤12)(b0:1024≤m∧m≤2048)(a7:N≤64)(g:GH n m s N a b P)(b5:a≤5∧b≤12)(j:Jh i S)(hi:i≤20)(l:Ru o):
 Calls QP 7 #[P1 k, .agg (FB o).toArray] w (AP fun v w'=>∃c',Mv c w c' w' NQ∧∃t C I f S' r R U a1 b4 b2 b3,Fi c' w' k p b4 b2 b3 S'∧BU c' w' p pa pj R U a1 {P with A:=t,J:=C,b:=I,failed:=f}∧PE n m P S o t C I f S' r∧v= .agg (LQ r).toArray):=by
 have b6:=g.Lj;have b7:=g.used;have b8:=g.size;exact rX a6 a8 (by rw[g.s_];exact hs) b1 b0 g.pw (by rw[g.n_];exact a7) oo g.j g.may g.tags oo oo (j.small oo) l.small j.TL j.wy l.kind (j.rZ oo l) (fun hk x hx=>j.yB l hk hx)
theorem ou{k p pa pj n m N a b:Nat}{s:Cn}{vT vG vS bS bT bG:Value}{P:Ek}{S:Hq}(t:Fi c w k p vT vG vS S)(a1:BU c w p pa pj bS bT bG P)(hs:Small s)(b0:0<n∧n≤12)(a8:1024≤m∧m≤2048)(R:N≤64)(g:GH n m s N a b P)(b8:a≤5∧b<12):
 Calls QP 13 #[P1 k] w (AP fun v w'=>∃c',Mv c w c' w' NQ∧∃r b3 b1 b2 i e j l o,Fi c' w' k p b3 b1 b2 S∧BU c' w' p pa pj j l o r∧GH n m s N a (b+1) r∧v= .tuple #[.bool i,I e]):=by
 have b9:=g.Lj;have c0:=g.used;have c1:=g.size;refine(lb t a1 (by rw[g.s_];exact hs) b0 a8 g.pw (by rw[g.n_];exact R) oo g.j g.may g.tags oo oo g.Cs).mono fun e w' ⟨v,a7,c',C,b4,b5,b6,f,b7,g2,i,J,j,l,o,a6,U,hg,hv⟩=>?_;exact⟨v,a7,c',C.more Z,_,vT,vG,vS,i,J,j,l,o,t.mv C Z,a6,g.step U hg,hv⟩
end Go.Proofs.K
namespace Silo
open Go Go.Eng
abbrev qo:Kf:=⟨1,0,0,0,[],[],[]⟩
abbrev sa(q:Int)(t:List UInt8):Kf:=⟨2,q,0,0,[],[],t⟩
abbrev qp(q:Int)(d:List UInt8):Kf:=⟨3,q,0,0,[],d,[]⟩
abbrev qq(d:List UInt8):Kf:=⟨4,0,0,0,[],d,[]⟩
abbrev wV(d:List UInt8):Kf:=⟨6,0,0,9,[],d,[]⟩
theorem TM{L:List Mt}{q:Int}{u:List UInt8}(h:∀x∈L,x.id<q):OH (L++[⟨q,u⟩]) q=some L.length:=by
 rw[OH,List.findIdx?_append,Abm.2 (fun x hx=>by have:=h x hx;simp;omega)];simp
theorem Rv:Go.Eng.Int64 0:=⟨by omega,by omega⟩
theorem yC:Go.Eng.Int64 9:=⟨by omega,by omega⟩
theorem wz:Ru qo:=⟨.inl Z,Rv,Rv,Rv,Z,yU _,yU _⟩
theorem wA{q:Int}{t:List UInt8}(f:0≤q∧q≤100)(ht:t.length≤40):Ru (sa q t):=⟨.inr (.inl Z),⟨by show _≤q;omega,by show q≤_;omega⟩,Rv,Rv,Z,yU _,ht⟩
theorem wB{q:Int}{d:List UInt8}(f:0≤q∧q≤100)(hd:d.length=32):Ru (qp q d):=⟨.inr (.inr (.inl Z)),⟨by show _≤q;omega,by show q≤_;omega⟩,Rv,Rv,Z,by show d.length≤32;omega,yU _⟩
theorem wC{d:List UInt8}(hd:d.length=32):Ru (qq d):=⟨.inr (.inr (.inr (.inl Z))),Rv,Rv,Rv,Z,by show d.length≤32;omega,yU _⟩
theorem yD{d:List UInt8}(hd:d.length=32):Ru (wV d):=⟨.inr (.inr (.inr (.inr Z))),Rv,Rv,yC,Z,by show d.length≤32;omega,yU _⟩
structure wW (i:Nat) (u:List UInt8) (T:List DE) (S:Hq) (q:Int) (fl:Bool):Prop where
 inv:Jh (i+1) S
 q_:0≤q∧q≤i
 same:S.things=T
 len:T.length≤i
 gC:fl=false→∃L,S.sessions=L++[⟨q,u⟩]∧∀x∈L,x.id<q
end Silo
namespace Go.Proofs.K
open Go Go.Eng Go.RowKit Silo TryzT
section
variable {n m:Nat} {P:Ek} {S S':Hq} {A:Cr} {J:JQ} {bk:Bk} {f:Bool} {r:ev} {i:Nat}
theorem gq(h:Jh i S)(hi:i≤7)(hd:PE n m P S qo A J bk f S' r):wW i [] S.things S' r.n (f||J.failed):=by
 have t:=h.next;unfold PE at hd;split at hd
 ·rename_i p;obtain⟨⟨_,rfl,_,rfl⟩,rfl,rfl⟩:=hd;exact⟨h.more oo,by dsimp only;omega,Z,h.len,fun hc=>by rw[p.1] at hc;cases hc⟩
 have l:Jd S qo=({S with sessions:=S.sessions++[⟨S.next,[]⟩],next:=S.next+1},⟨S.next,[],0⟩):=by
  have:=h.BY;rw[Jd,yP Z,FC,yK oo]
 rw[l] at hd;rw[if_neg ss,if_neg dd,if_neg dd] at hd;obtain⟨e,hl,j⟩:=hd;obtain⟨_,rfl,_,rfl,rfl⟩:=hl;rw[if_neg ss] at j;obtain⟨rfl,rfl⟩:=j;refine⟨⟨h.TL,h.qn,by have:=h.len;show S.things.length≤_;omega,h.tags,fun x hx=>?_,by have:=h.BY;simp;omega,?_,by dsimp only;omega⟩,t,Z,h.len,fun _=>⟨S.sessions,Z,fun x hx=>(h.gC x hx).2.1⟩⟩
 ·rcases zH.1 hx with hx|hx
  ·have:=h.gC x hx;dsimp only;omega
  obtain rfl:=List.mem_singleton.1 hx;dsimp only;simp;omega
 rw[zB,Aab];refine⟨h.up,by simp,fun a o b g=>?_⟩;obtain⟨x,hx,rfl⟩:=zc.1 o;simp at g;subst g;exact(h.gC x hx).2.1
theorem gr{T:List DE}{q:Int}{t:List UInt8}(h:wW i [] T S q (bP P))(hi:i≤7)(ht:t.length≤40)(hd:PE n m P S (sa q t) A J bk f S' r):wW i t T S' q (f||J.failed):=by
 unfold PE at hd;split at hd
 ·rename_i j;obtain⟨⟨_,rfl,_,rfl⟩,rfl,rfl⟩:=hd;exact⟨h.inv,h.q_,h.same,h.len,fun hc=>by rw[j.1] at hc;cases hc⟩
 rename_i j;have I:bP P=false:=by
  cases hc:bP P with
  |false=>rfl
  |true=>exact absurd ⟨hc,Z⟩ j
 obtain⟨L,g,p⟩:=h.gC I;have C:Jd S (sa q t)=({S with sessions:=L++[⟨q,t⟩]},⟨(t.length:Nat),[],0⟩):=by
  rw[Jd,if_neg (show¬(2:Int)=1 by decide),if_pos (.inl Z),HC,g,TM p];dsimp only;rw[show(L++[(⟨q,[]⟩:Mt)])[L.length]?=some ⟨q,[]⟩ by simp];dsimp only[Option.getD_some];rw[if_pos Z,if_neg (by simp;omega),List.set_append_right _ _ (Nat.le_refl _),Nat.sub_self];rfl
 rw[C] at hd;rw[yK ss,yK (show¬((2:Int)=4∨(2:Int)=6) by decide),yK (show¬(2:Int)=3 by decide)] at hd;obtain⟨e,hl,o⟩:=hd;obtain⟨_,rfl,_,rfl,rfl⟩:=hl;rw[yK ss] at o;obtain⟨rfl,rfl⟩:=o;have hs:=h.inv;refine⟨⟨hs.TL,hs.qn,hs.len,hs.tags,fun x hx=>?_,?_,?_,hs.next⟩,h.q_,h.same,h.len,fun _=>⟨L,Z,p⟩⟩
 ·have l:=hs.gC;rw[g] at l;rcases zH.1 hx with hx|hx
  ·exact l x (zH.2 (.inl hx))
  obtain rfl:=yN.1 hx;have:=l ⟨q,[]⟩ ss;exact⟨this.1,this.2.1,ht⟩
 ·have:=hs.BY;rw[g] at this;simpa using this
 have:=hs.up;rw[g] at this;simpa using this
theorem bQ{T:List DE}{q:Int}{t:List UInt8}(h:wW i t T S q (bP P))(hi:i≤7)(ht:t.length≤40)(hd:PE n m P S (qp q (AV t)) A J bk f S' r):Jh (i+1) S'∧(∀x∈T,x∈S'.things)∧(r.err=0→∃x∈S'.things,x.Ak=AV t):=by
 unfold PE at hd;split at hd
 ·obtain⟨_,rfl,rfl⟩:=hd;exact⟨h.inv,fun x hx=>by rw[h.same];exact hx,fun hc=>by simp at hc⟩
 rename_i U;have a1:bP P=false:=by
  cases hc:bP P with
  |false=>rfl
  |true=>exact absurd ⟨hc,Z⟩ U
 obtain⟨L,j,a6⟩:=h.gC a1;have hs:=h.inv;have b5:=h.len;obtain⟨g,R,o,b2⟩:∃g,HZ S.things ⟨AV t,t,false⟩=some g∧((CR S.things (AV t)).isSome=true∧g=S.things∨(∀x∈S.things,x.Ak≠AV t)∧g=Xk S.things ⟨AV t,t,false⟩)∧g.length≤i+1:=by
  cases hc:(CR S.things (AV t)).isSome with
  |true=>exact⟨S.things,Ym hc, .inl ⟨Z,Z⟩,by rw[h.same];omega⟩
  |false=>
   refine⟨Xk S.things ⟨AV t,t,false⟩,UI hc (by rw[h.same];omega), .inr ⟨fun x hx e=>?_,Z⟩,by rw[ZQ,h.same];omega⟩;have:=Qw hs.TL hx;rw[e] at this;cases p:CR S.things (AV t) with
   |none=>rw[p] at this;cases this
   |some z=>rw[p] at hc;cases hc
 have I:Jd S (qp q (AV t))=({S with things:=g,sessions:=L},⟨(t.length:Nat),[],0⟩):=by
  rw[Jd,if_neg (show¬(3:Int)=1 by decide),if_pos (.inr (.inl Z)),HC,j,TM a6];dsimp only;rw[show(L++[(⟨q,t⟩:Mt)])[L.length]?=some ⟨q,t⟩ by simp];dsimp only[Option.getD_some];rw[if_neg (show¬(3:Int)=2 by decide),if_pos Z,if_pos Z,R];dsimp only;rw[List.eraseIdx_append_of_length_le (Nat.le_refl _),Nat.sub_self];simp
 rw[I] at hd;rw[yK ss,yK (show¬((3:Int)=4∨(3:Int)=6) by decide)] at hd;obtain⟨e,_,l⟩:=hd;by_cases C:e=0
 ·rw[yK (by simpa using C)] at l;obtain⟨rfl,rfl⟩:=l;have b0:∀x∈S.things,x∈g:=fun x hx=>by
   rcases o with⟨_,rfl⟩|⟨_,rfl⟩
   ·exact hx
   exact Pw.2 (.inr hx)
  have a8:Hc g:=by
   rcases o with⟨_,rfl⟩|⟨a7,rfl⟩
   ·exact hs.TL
   exact bz hs.TL a7
  have b1:∀x∈g,AV x.text=x.Ak∧x.Ff=false∧x.text.length≤40:=fun x hx=>by
   rcases o with⟨_,rfl⟩|⟨_,rfl⟩
   ·exact hs.qn x hx
   rcases Pw.1 hx with rfl|hx
   ·exact⟨Z,Z,ht⟩
   exact hs.qn x hx
  refine⟨⟨a8,b1,b2,hs.tags,fun x hx=>?_,?_,?_,hs.next⟩,fun x hx=>b0 x (by rw[h.same];exact hx),fun _=>?_⟩
  ·exact hs.gC x (by rw[j];exact zH.2 (.inl hx))
  ·have:=hs.BY;rw[j] at this;simp at this;show L.length≤_;omega
  ·have:=hs.up;rw[j,zB,Aab] at this;exact this.1
  rcases o with⟨hc,rfl⟩|⟨_,rfl⟩
  ·obtain⟨z,p⟩:=Aaa.1 hc;obtain⟨b4,b3⟩:=IR p;exact⟨_,oy b4,b3⟩
  exact⟨⟨AV t,t,false⟩,Pw.2 (.inl Z),Z⟩
 rw[yP (by simpa using C)] at l;obtain⟨rfl,rfl⟩:=l;exact⟨hs,fun x hx=>by rw[h.same];exact hx,fun hc=>absurd hc C⟩
theorem ov{d:List UInt8}(h:Jh i S)(hx:∃x∈S.things,x.Ak=d)(hd:PE n m P S (qq d) A J bk f S' r):Px P A J bk f∧S'=S∧r.err=(Fy P.A P.s P.b d).2∧(r.err=0→AV r.text=d)∧(r.err≠0→r.text=[])∧r.text.length≤40:=by
 obtain⟨x,hx,rfl⟩:=hx;obtain⟨k,hk,rfl⟩:=Aff hx;have C:Jd S (qq S.things[k].Ak)=(S,⟨0,S.things[k].text,0⟩):=by
  rw[Jd,if_neg (show¬(4:Int)=1 by decide),if_neg (show¬((4:Int)=2∨(4:Int)=3∨(4:Int)=13) by decide),if_pos (show 4≤(4:Int)∧(4:Int)≤7 by decide),CC,OG h.TL hk Z];dsimp only;rw[if_pos Z,List.getElem?_eq_getElem hk];rfl
 unfold PE at hd;rw[C] at hd;rw[if_neg (fun hc=>by have t:KV 4=false:=hc.2;exact absurd t dd),if_neg ss,if_pos (.inl Z)] at hd;obtain⟨o,p,g⟩:=hd;refine⟨o,p,?_⟩;have a:=(h.qn _ (List.getElem_mem hk)).1;have l:=(h.qn _ (List.getElem_mem hk)).2.2;dsimp only at g;by_cases j:(Fy P.A P.s P.b S.things[k].Ak).2=0
 ·rw[yK (by simpa using j)] at g;subst g;exact⟨j.symm,fun _=>a,fun hc=>absurd Z hc,l⟩
 rw[yP j] at g;subst g;exact⟨Z,fun hc=>absurd hc j,fun _=>rfl,by simp⟩
theorem gu{d:List UInt8}(h:Jh i S)(hx:∃x∈S.things,x.Ak=d)(hd:PE n m P S (wV d) A J bk f S' r):Px P A J bk f∧S'=S∧r.err=(Fy P.A P.s P.b d).2:=by
 obtain⟨x,hx,rfl⟩:=hx;obtain⟨k,hk,rfl⟩:=Aff hx;obtain⟨t,C⟩:∃t,Jd S (wV S.things[k].Ak)=(S,⟨0,t,0⟩):=by
  rw[Jd,if_neg (show¬(6:Int)=1 by decide),if_neg (show¬((6:Int)=2∨(6:Int)=3∨(6:Int)=13) by decide),if_pos (show 4≤(6:Int)∧(6:Int)≤7 by decide),CC,OG h.TL hk Z];dsimp only;rw[if_neg (show¬(6:Int)=4 by decide),if_neg (show¬(6:Int)=5 by decide),if_pos Z,if_neg oo];exact⟨_,Z⟩
 unfold PE at hd;rw[C] at hd;rw[if_neg (fun hc=>by have p:KV 6=false:=hc.2;exact absurd p dd),if_neg ss,if_pos (.inr Z)] at hd;obtain⟨l,o,g⟩:=hd;refine⟨l,o,?_⟩;dsimp only at g;by_cases j:(Fy P.A P.s P.b S.things[k].Ak).2=0
 ·rw[yK (by simpa using j)] at g;subst g;exact j.symm
 rw[yP j] at g;subst g;rfl
end
end Go.Proofs.K
namespace Silo
open Go Go.Eng Go.Proofs.K
abbrev wS:Cn:=⟨1,1,4⟩
abbrev wT:List UInt8:=[97,98,99]
theorem wD{D:List Nat}(h:D.Perm [0,1]):D=[0,1]∨D=[1,0]:=by
 have hl:=h.length_eq;have f:=h.nodup_iff.2 dd
 match D,hl with
 |[a,b],_=>
  have g:a=0∨a=1:=by have:=h.mem_iff.1 (show a∈[a,b] by simp);simpa using this
  have i:b=0∨b=1:=by have:=h.mem_iff.1 (show b∈[a,b] by simp);simpa using this
  simp at f;rcases g with rfl|rfl<;>rcases i with rfl|rfl
  ·exact absurd Z f
  ·exact .inl Z
  ·exact .inr Z
  ·exact absurd Z f
theorem lr{e:Int}{E:List Nat}(h:Mc [true,true] [Fg 4,Fg 4] [] 2 e E):e=0∧(E=[0,1]∨E=[1,0]):=by
 rcases h with⟨_,h,_⟩|⟨_,h,_⟩|⟨g,D,i,f,hl⟩
 ·exact absurd h dd
 ·exact absurd h dd
 refine⟨g,?_⟩;have j:D.Perm [0,1]:=i;rcases wD j with h|h
 ·rw[f,h];exact .inl Z
 rw[f,h];exact .inr Z
def wE(p:List (Int×Int)):Prop:=p=[(0,0),(1,0)]∨p=[(1,0),(0,0)]
theorem qs{pre:List Pu}(h:Fh [true,true] [Fg 4,Fg 4] 2 pre)(hl:pre.length=1):∃p,wE p∧EP wS 0 wT pre=[⟨0,3,0,p⟩]:=by
 match pre,hl with
 |[x],_=>
  obtain⟨j,g,i⟩:=h 0 x Z;obtain⟨_,f⟩:=lr i;refine⟨Rt x,?_,?_⟩
  ·rw[Rt,g];rcases f with f|f
   ·rw[f];exact .inl Z
   rw[f];exact .inr Z
  rfl
theorem wF{p:List (Int×Int)}{d:List UInt8}(hp:wE p)(hd:d.length=32):Dv wS ⟨[⟨0,3,0,p⟩],[⟨d,3,false,[0]⟩],[],1⟩=true:=by
 rcases hp with rfl|rfl<;>simp[Dv,Gn,DM,LV,YD,Gl,LS,KK,OU,hd,Hh,ID,OV,BS,BF,LU]<;>decide
theorem sb{A:Cr}{j:JQ}{d:List UInt8}(hp:CK 2 A=[true,true])(hl:∀k:Nat,k<2→Cf A k=true)(I:j.failed=false)(hd:d.length=32):ZF 2 1028 ⟨wS,4,A,j,eZ,(-1,-1),false⟩ wT d [Fg 4,Fg 4]:=by
 have f:BF wS wT.length=1:=by decide
 have r:Ee wS=1:=by decide
 refine⟨Z,I,Z,by show(0:Nat)<60;omega,by show(0:Int)+((BF wS wT.length:Nat):Int)≤1073741824;rw[f];omega,hl,fun p e E g i o=>?_,fun pre g i=>?_⟩
 ·have a1:p.length<1:=by rw[←f];exact i
  have C:p=[]:=yJ oo;subst C;rw[show CK 2 (⟨wS,4,A,j,eZ,(-1,-1),false⟩:Ek).A=[true,true] from hp] at o;exact(lr o).1
 rw[show CK 2 (⟨wS,4,A,j,eZ,(-1,-1),false⟩:Ek).A=[true,true] from hp] at g;obtain⟨p,l,R⟩:=qs g (by rw[←f];exact i);have U:EP (⟨wS,4,A,j,eZ,(-1,-1),false⟩:Ek).s (⟨wS,4,A,j,eZ,(-1,-1),false⟩:Ek).b.next wT pre=[⟨0,3,0,p⟩]:=R;rw[Fa,U];refine⟨fun x hx q t=>?_,?_,by rw[show KU (⟨wS,4,A,j,eZ,(-1,-1),false⟩:Ek).b.next (BF (⟨wS,4,A,j,eZ,(-1,-1),false⟩:Ek).s wT.length)=[0] from by show KU 0 (BF wS wT.length)=[0];rw[f];rfl];exact wF l hd⟩
 ·obtain rfl:=yN.1 hx;have J:q=(0,0)∨q=(1,0):=by
   rcases l with rfl|rfl
   ·simpa using t
   simpa[or_comm] using t
  rcases J with rfl|rfl
  ·exact⟨hl 0 oo,by show(1024:Int)+(0+1)*((Ee wS:Nat):Int)≤1028;rw[r];decide⟩
  exact⟨hl 1 oo,by show(1024:Int)+(0+1)*((Ee wS:Nat):Int)≤1028;rw[r];decide⟩
 rcases l with rfl|rfl<;>decide
def gv(i:Nat):List UInt8:=(JR wS wT 0).getD i []
theorem yE(i:Nat)(hi:i<2):Li ⟨0,(i:Int),0,gv i⟩=true∧(gv i).length=4:=by
 match i,hi with
 |0,_=>exact⟨by kernel_rfl,by kernel_rfl⟩
 |1,_=>exact⟨by kernel_rfl,by kernel_rfl⟩
theorem wG:Qc wS [gv 0,gv 1] [true,true]=some [[97,98,99,0],(Qc wS [gv 0,gv 1] [true,true]).getD [] |>.getD 1 []]:=kr
theorem sd{A:Cr}{p:List (Int×Int)}(hp:wE p)(r:∀(i:Nat) (q:Int×Int),p[i]?=some q→DN A q.1 (1024+q.2*(Ee wS:Nat)) (Ee wS)=some (Ge ⟨0,(i:Int),0,gv i⟩))(i:Nat)(hi:i<2):DW A wS ⟨0,3,0,p⟩ i=(gv i,true):=by
 obtain⟨q,j⟩:∃q,p[i]?=some q:=by
  have:p.length=2:=by rcases hp with rfl|rfl<;>rfl
  exact⟨p[i]'(by omega),aa _⟩
 obtain⟨f,l⟩:=yE i hi;have g:=Yv _ f;have o:=SY _ f;rw[DW];dsimp only;rw[j];dsimp only;rw[r i q j];dsimp only at g⊢;rw[if_pos g,o];dsimp only;rw[l];rfl
theorem wH{A:Cr}{p:List (Int×Int)}(hp:wE p)(f:∀i,i<2→DW A wS ⟨0,3,0,p⟩ i=(gv i,true)):Xj A wS [⟨0,3,0,p⟩]=2:=by
 have hl:p.length=2:=by rcases hp with rfl|rfl<;>rfl
 have e:(List.range p.length).filter (fun i=>(DW A wS ⟨0,3,0,p⟩ i).2)=[0,1]:=by
  rw[hl,show List.range 2=[0,1] from Z,Aeq,f 0 oo,Aeq,f 1 oo];rfl
 rw[Xj,List.flatMap_cons,List.flatMap_nil,List.append_nil];dsimp only;rw[e];rfl
theorem se{A:Cr}{p:List (Int×Int)}(hp:wE p)(f:∀i,i<2→DW A wS ⟨0,3,0,p⟩ i=(gv i,true)):Fy A wS ⟨[⟨0,3,0,p⟩],[⟨AV wT,3,false,[0]⟩],[],1⟩ (AV wT)=(wT,0):=by
 have hg:Dd A wS ⟨0,3,0,p⟩=[true,true]:=by
  rw[Dd,show List.range (wS.k+wS.m)=[0,1] from Z,Rw,Rw,Ac3,f 0 oo,f 1 oo]
 have ht:HF A wS ⟨0,3,0,p⟩=[gv 0,gv 1]:=by
  rw[HF,show List.range (wS.k+wS.m)=[0,1] from Z,Rw,Rw,Ac3,f 0 oo,f 1 oo]
 have g:JD A wS ⟨[⟨0,3,0,p⟩],[⟨AV wT,3,false,[0]⟩],[],1⟩ 0=some wT:=by
  rw[JD];rw[show ID [(⟨0,3,0,p⟩:CZ)] 0=some 0 from Z];dsimp only;rw[show[(⟨0,3,0,p⟩:CZ)][0]?=some ⟨0,3,0,p⟩ from Z];dsimp only;rw[Hi,hg,ht,wG];dsimp only;kernel_rfl
 have j:JE A wS ⟨[⟨0,3,0,p⟩],[⟨AV wT,3,false,[0]⟩],[],1⟩ (AV wT)=(wT,0):=by
  rw[JE];dsimp only;rw[show([(⟨AV wT,3,false,[0]⟩:Jf)].findIdx? fun e=>e.Ak==AV wT)=some 0 by simp];dsimp only;rw[show[(⟨AV wT,3,false,[0]⟩:Jf)][0]?=some ⟨AV wT,3,false,[0]⟩ from Z];dsimp only;rw[Qf,g];rfl
 rw[Fy,j,yK ss,yK ss]
end Silo
namespace Silo
open Go Go.Eng
abbrev wP(A:Cr)(j:JQ):Ek:=⟨wS,4,A,j,eZ,(-1,-1),false⟩
abbrev wI:Hq:=⟨[],[],[⟨0,[]⟩],1⟩
abbrev qt:Hq:=⟨[],[],[⟨0,wT⟩],1⟩
abbrev ow:Hq:=⟨[⟨AV wT,wT,false⟩],[],[],1⟩
theorem sf:Jh 1 wI:=⟨fun i j hi=>by simp at hi,fun x hx=>by simp at hx,by simp,Z,fun x hx=>by simp at hx;subst hx;simp,by simp,by simp,by simp⟩
theorem sg:Jh 1 qt:=⟨fun i j hi=>by simp at hi,fun x hx=>by simp at hx,by simp,Z,fun x hx=>by simp at hx;subst hx;simp,by simp,by simp,by simp⟩
theorem sh:Jh 1 ow:=⟨fun i j hi f g=>by simp at hi f;omega,fun x hx=>by simp at hx;subst hx;simp,by simp,Z,fun x hx=>by simp at hx,by simp,by simp,by simp⟩
theorem ZX(n:Int):Go.Eng.Int64 (IntKind.i64.wrap n):=by
 rw[Agg];exact⟨by omega,by omega⟩
end Silo
namespace Go.Proofs.K
open Go Go.Eng Go.RowKit Silo TryzT
theorem wJ{n m:Nat}{P:Ek}{A:Cr}{J:JQ}{bk:Bk}{f:Bool}{S':Hq}{r:ev}(C:bP P=false)(hd:PE n m P Ug qo A J bk f S' r):Px P A J bk f∧S'=wI∧r=⟨0,[],0⟩:=by
 have t:Jd Ug qo=(wI,⟨0,[],0⟩):=by rw[Jd,yP Z];rfl
 unfold PE at hd;rw[t] at hd;rw[yK (fun hc=>by have g:bP P=true:=hc.1;rw[C] at g;cases g),yK ss,yK dd,yK dd] at hd;obtain⟨e,⟨j,l,o,p,rfl⟩,i⟩:=hd;rw[yK ss] at i;exact⟨⟨j,l,o,p⟩,i⟩
theorem wK{n m:Nat}{P:Ek}{A:Cr}{J:JQ}{bk:Bk}{f:Bool}{S':Hq}{r:ev}(C:bP P=false)(hd:PE n m P wI (sa 0 wT) A J bk f S' r):Px P A J bk f∧S'=qt:=by
 have t:Jd wI (sa 0 wT)=(qt,⟨3,[],0⟩):=by rw[Jd,yK dd,yP (.inl Z)];rfl
 unfold PE at hd;rw[t] at hd;rw[yK (fun hc=>by have g:bP P=true:=hc.1;rw[C] at g;cases g),yK ss,yK dd,yK dd] at hd;obtain⟨e,⟨j,l,o,p,rfl⟩,i⟩:=hd;rw[yK ss] at i;exact⟨⟨j,l,o,p⟩,i.1⟩
theorem wL{g A:Cr}{j J:JQ}{bk:Bk}{f:Bool}{S':Hq}{r:ev}(I:j.failed=false)(hp:CK 2 g=[true,true])(hl:∀k:Nat,k<2→Cf g k=true)(hd:PE 2 1028 (wP g j) qt (qp 0 (AV wT)) A J bk f S' r):
 S'=ow∧r=⟨3,[],0⟩∧f=false∧J.failed=false∧∃p,bk=⟨[⟨0,3,0,p⟩],[⟨AV wT,3,false,[0]⟩],[],1⟩∧Xj A wS [⟨0,3,0,p⟩]=2∧Fy A wS ⟨[⟨0,3,0,p⟩],[⟨AV wT,3,false,[0]⟩],[],1⟩ (AV wT)=(wT,0):=by
 have b3:Jd qt (qp 0 (AV wT))=(ow,⟨3,[],0⟩):=by
  rw[Jd,if_neg (show¬(3:Int)=1 by decide),if_pos (.inr (.inl Z)),HC];rw[show OH qt.sessions (qp 0 (AV wT)).id=some 0 from Z];dsimp only;rw[show qt.sessions[0]?=some ⟨0,wT⟩ from Z];dsimp only[Option.getD_some];rw[if_neg (show¬(3:Int)=2 by decide),if_pos Z,if_pos Z];rfl
 have b5:bP (wP g j)=false:=by rw[bP];exact I
 unfold PE at hd;rw[b3] at hd;rw[yK (fun hc=>by have t:bP (wP g j)=true:=hc.1;rw[b5] at t;cases t),yK ss,yK (show¬((3:Int)=4∨(3:Int)=6) by decide),yP rfl] at hd;obtain⟨e,C,l⟩:=hd;rw[show FP qt.things (ow,(⟨3,[],0⟩:ev)).1.things=some ⟨AV wT,wT,false⟩ from Z] at C;have b1:Xh 2 1028 (wP g j) wT (AV wT) A J bk f e:=C;obtain⟨F,c2,c3,a8,b0⟩:=b1.exact;have b2:F=[Fg 4,Fg 4]:=a8 Z;subst b2;obtain⟨a6,a7,c1,pre,b7,b6,b4,c0⟩:=b0 (sb hp hl I (Ea _));have b8:Fh [true,true] [Fg 4,Fg 4] 2 pre:=by rw[←hp];exact b7
 have R:BF wS wT.length=1:=by decide
 obtain⟨p,o,a1⟩:=qs b8 (by rw[←R];exact b6);rw[yK (by simpa using a6)] at l;refine⟨l.1,l.2,a7,c1,p,?_,?_⟩
 ·rw[b4,Fa,show EP (wP g j).s (wP g j).b.next wT pre=[⟨0,3,0,p⟩] from a1,show KU (wP g j).b.next (BF (wP g j).s wT.length)=[0] from by show KU 0 (BF wS wT.length)=[0];rw[R];rfl];rfl
 have U:∀i,i<2→DW A wS ⟨0,3,0,p⟩ i=(gv i,true):=sd o fun i q b9=>c0 0 ⟨0,3,0,p⟩ (by rw[show EP (wP g j).s (wP g j).b.next wT pre=[⟨0,3,0,p⟩] from a1];rfl) i q b9;exact⟨wH o U,se o U⟩
theorem wM{n m:Nat}{P:Ek}{A:Cr}{J:JQ}{bk:Bk}{f:Bool}{S':Hq}{r:ev}(ht:Fy P.A P.s P.b (AV wT)=(wT,0))(hd:PE n m P ow (qq (AV wT)) A J bk f S' r):Px P A J bk f∧S'=ow∧r=⟨0,wT,0⟩:=by
 have i:Jd ow (qq (AV wT))=(ow,⟨0,wT,0⟩):=by
  rw[Jd,if_neg (show¬(4:Int)=1 by decide),if_neg (show¬((4:Int)=2∨(4:Int)=3∨(4:Int)=13) by decide),if_pos (show 4≤(4:Int)∧(4:Int)≤7 by decide),CC,show CR ow.things (qq (AV wT)).Ak=some 0 by simp[CR]];dsimp only;rw[if_pos Z];rfl
 unfold PE at hd;rw[i] at hd;rw[yK (fun hc=>by have g:KV 4=false:=hc.2;exact absurd g dd),yK ss,yP (.inl Z),yK (by rw[ht];simp)] at hd;exact hd
theorem gw{k p n m:Nat}{vT vG vS:Value}{P:Ek}{S:Hq}{q:Nat}(g:Fi c w k p vT vG vS S)(hp:Ts c w p P)(hs:Small P.s)(f:FF n m P.A)(i:UR P.A)(j:Dv P.s P.b=true)(hl:P.b.stripes.length≤1000)(l:Xj P.A P.s P.b.stripes=q):Calls QP 37 #[P1 k] w (AP fun u w'=>Below w.heap.size w w'∧u=I (q:Nat)):=by
 have:=la g hp hs f i j hl;rw[l] at this;exact this
theorem bR:Calls QP 16 #[] w (AP fun v w'=>Below w.heap.size w w'∧v= .bool true):=by
 obtain⟨c,h1,hc⟩:=AQ.start w;clear hc;have hs:Small wS:=by show 1≤1∧1≤3∧1≤2∧1≤4∧4≤120;decide
 have h6:Bn wS.size=1:=by decide
 refine enter (n:=50) (res:=#[.tmp 0]) Tryz.func16 Z Z Z Z<|Ab<|cg<|za Z<|Ac<|Ab<|cg<|vq (AB (cells:=#[I wS.k,I wS.m,I wS.size]) Z kr) ?_;refine ve (Ay.call ze Z (TK (c:=c) (s:=wS) (n:=2) (N:=4) ⟨hs,by decide⟩ dd dd)) ?_;rintro n4 w1 ⟨c1,j6,⟨A,k,p,pa,pj,j,i,f,a8,h5,hu,b7,rfl⟩⟩;rw[h6] at a8;have a7:GH 2 1028 wS 4 0 0 (wP A j):=⟨Z,Z,a8.pw,a8.Lj,h5,by show j.used≤24;omega,Z,Z,yU _,by show(-1:Int)≤-1∧(-1:Int)≤1000;decide⟩;have hl:∀k:Nat,k<2→Cf A k=true:=fun k hk=>by rw[a8.live];exact YK hk
 have h3:CK 2 A=[true,true]:=by rw[CK,show List.range 2=[0,1] from Z,Rw,Rw,Ac3,hl 0 oo,hl 1 oo]
 refine zm Z<|vq (Ag Z Z)<|vq (Ag Z Z)<|za Z<|za Z<|Ac<|Ab<|Ab<|cg<|zm Z<|vq (Qv Ad5 Z)<|zm Z ?_;apply WR.CJ false 2 _ BT
 ·intro l2;refine wo<|zm rfl<|wo<|vq (Qv Tryz.underlying35 rfl) ?_;exact Dm 2
 refine Ac<|CD Z (fun c6=>?_) fun c6=>?_
 ·simp at c6
 refine Aj<|Ab<|cg<|zm Z<|vq (AB (cells:=(FB qo).toArray) Z kr) ?_;refine ve (Ay.call lY Z (IE i f hs dd dd dd a7 dd VI dd wz)) ?_;rintro l7 w2 ⟨c2,k2,⟨c7,c3,e0,e4,S',r,o,C,J,c0,b8,b9,i,f,g,rfl⟩⟩;obtain⟨⟨a1,a6,R,b0⟩,U,_⟩:=wJ (by show(false||j.failed)=false;rw[b7];rfl) g;subst a1;subst a6;subst R;subst b0;subst U;replace f:BU _ _ p pa pj o C J (wP c7 c3):=f;clear g;refine Ac<|Ab<|cg<|zm Z<|vq (AB (cells:=(FB (sa 0 wT)).toArray) Z kr) ?_;refine ve (Ay.call lY Z (IE i f hs dd dd dd a7 dd sf dd (wA (q:=0) (t:=wT) dd dd))) ?_;rintro l8 o0 ⟨e1,k3,⟨c8,c9,e0,e4,S',r,o,C,J,c0,b8,b9,i,f,g,rfl⟩⟩;obtain⟨⟨a1,a6,R,b0⟩,U⟩:=wK (by show(false||c3.failed)=false;rw[b7];rfl) g;subst a1;subst a6;subst R;subst b0;subst U;replace f:BU _ _ p pa pj o C J (wP c8 c9):=f;clear g;refine Ac<|Ab<|cg<|ve (Al e1 1 (Ay.call xb Z (Ns wT dd))) ?_;rintro l9 o1 ⟨j2,k4,l6,rfl⟩;refine za Z<|Ac<|Ab<|cg<|zm Z<|zm Z<|vq (AB (cells:=(FB (qp 0 (AV wT))).toArray) Z kr) ?_;refine ve (Ay.call lY Z (IE i.mv f.mv hs dd dd dd a7 dd sg dd (wB (q:=0) (d:=AV wT) dd (Ea _)))) ?_;rintro n0 o2 ⟨e2,k5,⟨A2,h7,b2,j4,S',r,o,C,J,c0,b8,b9,i,f,g,rfl⟩⟩;have l:=PA a7 g;rw[yP Z] at l;obtain⟨U,rfl,a1,a6,q,R,h2,h4⟩:=wL b7 h3 hl g;subst U;subst R;clear g;refine Db e2 104 Ik fun o3 b4 j3 k6 b1=>WR.AI (Am BH Z Z b1 Z Z AG) ?_;rintro _ o4 ⟨b1,k7⟩;refine Ac<|Ab<|cg<|zm Z<|zm Z<|vq (AB (cells:=(FB (qq (AV wT))).toArray) Z kr) ?_;refine ve (Ay.call lY Z (IE i.mv f.mv hs dd dd dd l dd sh dd (wC (d:=AV wT) (Ea _)))) ?_;rintro n1 o5 ⟨e3,k8,⟨A3,h8,b3,j5,S',r,o,C,J,c0,b8,b9,i,f,g,rfl⟩⟩;obtain⟨⟨e5,g2,e6,e7⟩,e8,rfl⟩:=wM h4 g;subst e5;subst g2;subst e6;subst e7;subst e8;clear g;refine Db e3 105 Ik fun o6 b5 c5 k9 b6=>WR.AI (Am BH Z Z b6 Z Z AG) ?_;rintro _ n5 ⟨b6,j7⟩;refine Ac<|Ab<|cg<|vq (Aa Jq Z)<|vq (Ah Au Z b1.mv.Ap Z)<|vq (AU Z Z)<|zm Z ?_;apply WR.CJ true 3 _ BT
 ·intro l3;refine wo<|vq (AD BH rfl b6.Ap rfl)<|wo<|vq (AB (cells:=#[I 0,St wT,I 0]) rfl kr)<|wo<|vq (sx qC rfl rfl rfl (by simp[Fl])) ?_;exact Dm 3
 refine zm Z ?_;apply WR.Ko c5 true 3 true BT
 ·intro l0 e9;refine wo<|zm rfl<|wo ?_;refine ve (Al c5 1 (Ay.call xy rfl (om i.mv ⟨_,_,_,_,_,f.mv⟩ hs (by show 1≤100000;omega)))) ?_;rintro n2 n6 ⟨h9,j8,l4,rfl⟩;refine wo<|vq (AU rfl rfl) ?_;exact WR.Kq 3 e9.mv
 intro n7 c4 j9;refine zm rfl ?_;apply WR.Ko c4 true 3 true BT
 ·intro l1 h0;refine wo<|zm rfl<|wo ?_;refine ve (Al c4 1 (Ay.call xz rfl (gw (q:=2) i.mv ⟨_,_,_,_,_,f.mv⟩ hs l.pw (l.pw.wf dd dd (by have:=l.Lj;omega)) l.may (by show 1≤1000;omega) h2))) ?_;rintro n3 n8 ⟨j0,k0,l5,rfl⟩;refine wo<|vq (AU rfl rfl) ?_;exact WR.Kq 3 h0.mv
 intro n9 j1 k1;refine za rfl<|Ac<|Az rfl rfl<|⟨h1.mv.below,?_⟩;simp[Ku,Sa,LQ]
section
variable {c:Nat→Nat} {w:World} {k p pa pj n m N a b:Nat} {s:Cn} {vT vG vS bS bT bG:Value} {P:Ek} {S:Hq} {d:Int}
theorem Qx{c':Nat→Nat}{w':World}{i:Cr}(l:Fi c w k p vT vG vS S)(g:BU c w p pa pj bS bT bG P)(f:Mv c w c' w' Bt)(j:By c' w' pa i):Fi c' w' k p vT vG vS S∧BU c' w' p pa pj bS bT bG {P with A:=i}:=
 ⟨l.mv f Z,g.Ap.mv f Z,j,g.rD.mv f Z Z Z,g.bk.mv f Z⟩
theorem Xl(i:0<n∧n≤12)(g:1024≤m∧m≤2048)(f:GH n m s N a b P)(j:a≤5∧b≤12):UR P.A:=f.pw.wf i ⟨by omega,g.2⟩ (by have:=f.Lj;omega)
theorem ls(t:Fi c w k p vT vG vS S)(j:BU c w p pa pj bS bT bG P)(U:0<n∧n≤12)(R:1024≤m∧m≤2048)(f:GH n m s N a b P)(C:a≤5∧b≤12):
 Calls QP 10 #[P1 pa,I d] w (AP fun u w'=>∃c',Mv c w c' w' NQ∧∃g e,Fi c' w' k p vT vG vS S∧BU c' w' p pa pj bS bT bG {P with A:=g}∧GH n m s N a b {P with A:=g}∧u=I e):=
 (lk j.arr (Xl U R f C)).mono fun _ w' ⟨v,J,c',i,r,hv⟩=>by
  obtain⟨l,o⟩:=Qx t j i r;exact⟨v,J,c',i.more Z,_,_,l,o,f.YC f.pw.vQ.1 f.pw.vQ.2,hv⟩
theorem ZY(t:Fi c w k p vT vG vS S)(j:BU c w p pa pj bS bT bG P)(U:0<n∧n≤12)(R:1024≤m∧m≤2048)(f:GH n m s N a b P)(C:a≤5∧b≤12):
 Calls QP 11 #[P1 pa,I d] w (AP fun u w'=>∃c',Mv c w c' w' NQ∧∃g e,Fi c' w' k p vT vG vS S∧BU c' w' p pa pj bS bT bG {P with A:=g}∧GH n m s N a b {P with A:=g}∧u=I e):=
 (ZW j.arr (Xl U R f C)).mono fun _ w' ⟨v,J,c',i,r,hv⟩=>by
  obtain⟨l,o⟩:=Qx t j i r;exact⟨v,J,c',i.more Z,_,_,l,o,f.YC f.pw.replace.1 f.pw.replace.2,hv⟩
theorem lu{x:Int}(hx:x≤9223372036854775807)(t:Fi c w k p vT vG vS S)(j:BU c w p pa pj bS bT bG P)(U:0<n∧n≤12)(R:1024≤m∧m≤2048)(f:GH n m s N a b P)(C:a≤5∧b≤12):
 Calls QP 12 #[P1 pa,I d,I x] w (AP fun u w'=>∃c',Mv c w c' w' NQ∧∃g e,Fi c' w' k p vT vG vS S∧BU c' w' p pa pj bS bT bG {P with A:=g}∧GH n m s N a b {P with A:=g}∧u=I e):=
 (ln j.arr (Xl U R f C) hx).mono fun _ w' ⟨v,J,c',i,r,hv⟩=>by
  obtain⟨l,o⟩:=Qx t j i r;exact⟨v,J,c',i.more Z,_,_,l,o,f.YC (f.pw.flip oo).1 (f.pw.flip oo).2,hv⟩
end
end Go.Proofs.K
namespace Silo
open Go Go.Eng
def ox(f:List (List UInt8))(T:List DE):Prop:=∀d∈f,d.length=32∧∃x∈T,x.Ak=d
theorem GH.qu{n m:Nat}{s:Cn}{N a b f:Nat}{P:Ek}(h:GH n m s N a b P)(g:b≤f):GH n m s N a f P:=
 ⟨h.s_,h.n_,h.pw,by have:=h.Lj;omega,h.j,by have:=h.used;omega,h.may,h.tags,by have:=h.size;omega,h.Cs⟩
end Silo
namespace Go.Eng
open Go
theorem sj{P:Program}{env:Env}{ty t:TypeId}{x:Operand}{i:Nat}{v u:Value}(hx:Ba env x=some v)(f:(Instr.field t v i).run P w= .ok u w):Bp P env w (.field t x i) ty u:=fun n a j d pos l g=>by
 simp[execOp,j.eval hx,f]
end Go.Eng
namespace Go.Proofs.K
open Go Go.Eng Go.RowKit Silo TryzT
end Go.Proofs.K
