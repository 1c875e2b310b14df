/- The program, walked: part 6. No condition. -/
import Derived.Test.YtfdinjffnobpcaaGreatDoorH5
set_option linter.unusedSimpArgs false
set_option linter.unusedVariables false
set_option maxRecDepth 100000
set_option maxHeartbeats 4000000
open Go.Proofs.Tryz renaming prog → QP
variable {c : Nat → Nat} {w : Go.World}
namespace Go.Proofs.K
open Go Go.Eng Go.RowKit Silo TryzT
theorem Uh{h2 h3 h4 h5 h6:Int}{vL e9 e5 b4:Value}{L:List Py}{K D:List Int}{O:List Kf}(hi:Go.Eng.Int64 h2∧Go.Eng.Int64 h3∧Go.Eng.Int64 h4∧Go.Eng.Int64 h5∧Go.Eng.Int64 h6)(h0:Rd Pz w vL L)(h1:Rd Bw w e9 K)(h7:Rd ew w e5 O)(h8:Rd Bw w b4 D):
 Calls QP 3 #[.agg #[I h2,I h3,I h4,I h5,I h6,vL,e9,e5,b4]] w (AP fun y2 w'=>Below w.heap.size w w'∧y2= .bool true):=by
 obtain⟨c,U,hc⟩:=AQ.start w;have o8:Bi Pz c w [0] vL L:=Rd.Cl h0 (fun k hk=>by simp[hc,AA]);have o7:Bi Bw c w [0] e9 K:=Rd.Cl h1 (fun k hk=>by simp[hc,AA]);have b0:Bi ew c w [0] e5 O:=Rd.Cl h7 (fun k hk=>by simp[hc,AA]);have R:Bi Bw c w [0] b4 D:=Rd.Cl h8 (fun k hk=>by simp[hc,AA]);have x9:=h0.Av;have y0:=h1.Av;have a62:=h7.Av;have a63:=h8.Av;have w0:=h7.small;have a37:=h8.small;have w6:=h7.VP
 have w5:=h8.VP
 clear hc h0 h1 h7 h8;refine enter (n:=201) (res:=#[.tmp 2]) Tryz.func3 Z Z Z Z<|Ab<|cg<|Dz c 101 fun w1 b1 c1 a14 C=>?_;refine za Z<|Ac<|Ab<|Ab<|cg<|vq (AD sG Z C.Ap Z)<|ve (Al c1 1 (Ay.call zp Z (bF o8.mv.now o7.mv.now b0.mv.now R.mv.now))) ?_;rintro v20 w2 ⟨c2,a20,a52,⟨z6,rfl⟩⟩;refine Ac<|AS Z (fun s6=>?_) fun s6=>?_
 ·refine Ab<|cg<|za Z<|Ac ?_;refine Az Z Z ?_;exact⟨U.mv.below,Z⟩
 refine Aj<|Ab<|cg<|vq (Aa cj Z)<|vq (Cy oH Z C.mv.Ap (yV Z))<|ve (Al c2 1 (Ay.call zq Z (lg hi x9 y0))) ?_;rintro a78 b05 ⟨r3,a28,a54,⟨s,n,N,hs,w3,o9,rfl⟩⟩;refine zm Z<|vq (Ag Z Z)<|vq (Ag Z Z)<|vq (Ag Z Z)<|Db r3 103 PO fun b09 b3 r5 a33 l1=>?_;refine WR.AI (Am Cq Z Z l1 Z Z AG) ?_;rintro _ b10 ⟨l1,a34⟩;refine za Z<|za Z<|Ac<|Ab<|cg<|vq (AD Cq Z l1.Ap Z)<|zm Z<|zm Z<|ve (Ay.call ze Z (TK (c:=r5) hs w3 o9)) ?_;rintro a79 y3 ⟨r6,a35,⟨A,k,p,pa,pj,j,o,f,k6,q6,hu,u7,rfl⟩⟩;have x4:Bn s.size≤2:=by unfold Bn;have:=hs.2;omega
 have a38:N*Bn s.size≤24:=by have:=yQ o9.2 x4;omega
 obtain⟨m,q2⟩:∃m,m=1024+N*Bn s.size:=⟨_,Z⟩;rw[←q2] at k6;have e3:1024≤m∧m≤2048:=⟨by omega,by omega⟩;have g:GH n m s N 0 0 ⟨s,N,A,j,eZ,(-1,-1),false⟩:=⟨Z,Z,k6.pw,k6.Lj,q6,by show j.used≤24;omega,Z,Z,yU _,by show(-1:Int)≤-1∧(-1:Int)≤1000;decide⟩;have e4:0<n∧n≤12:=⟨by have:=hs.1.1;omega,by omega⟩;have j8:N≤64:=oo;refine zm Z<|vq (Ag Z Z)<|vq (Ag Z Z)<|za Z<|za Z<|Ac<|Ab<|Ab<|cg<|zm Z<|vq (Qv Ad5 Z)<|zm Z ?_;apply WR.CJ false 2 _ BT
 ·intro w8;refine wo<|zm rfl<|wo<|vq (Qv Tryz.underlying35 rfl) ?_;exact Dm 2
 refine Ac<|CD Z (fun p8=>?_) fun p8=>?_
 ·simp at p8
 refine Aj<|Ab<|cg<|za Z<|Ac<|Ab<|Ab ?_;have b2:Ao r6 y3 8 9 1 (.slice none 0 0) ([]:List (List UInt8)).length (([]:List (List UInt8)).map St):=Ao.nil _ _ _ _ _;clear o8 o7 l1 w0;have p0:ox [] Ug.things:=fun d hd=>by simp at hd
 refine cg<|za Z<|Ac<|Ai<|WC.loop (σ:=Nat×Value) (fun b9=>[(1,P1 b1),(2, .bool false),(4,I n),(6,P1 pa),(7,P1 k),(8,b9.2),(9,I b9.1)]) (fun b9 w'=>(b9.1≤5∧b9.1≤O.length)∧∃c' P S c4 c0 c3 b6 b7 b8 pj a6,(GH n m s N b9.1 0 P∧Jh b9.1 S∧ox a6 S.things∧a6.length≤b9.1)∧AQ w c' w'∧Bi ew c' w' [0] e5 O∧Bi Bw c' w' [0] b4 D∧Ar c' w' 101 b1 [I h2,I h3,I h4,I h5,I h6,vL,e9,e5,b4] 28∧Fi c' w' k p c4 c0 c3 S∧BU c' w' p pa pj b6 b7 b8 P∧Ao c' w' 8 9 1 b9.2 a6.length (a6.map St)) (fun b9=>5-b9.1) (0,_) Aq ⟨⟨Nat.zero_le _,Nat.zero_le _⟩,_,_,_,_,_,_,_,_,_,_,_,⟨g,VI,p0,Nat.le_refl _⟩,U.mv,b0.mv,R.mv,C.mv,o,f,b2⟩ ?_;clear U b0 R C o f b2 g p0 k6 q6 hu u7 q2;rintro⟨i,b5⟩ l6 ⟨⟨u9,v7⟩,j9,P,S,c4,c0,c3,b6,b7,b8,pj,a6,⟨g,h9,k8,s5⟩,U,b0,R,C,o,f,b2⟩;dsimp only at u9 v7 g h9 s5 b2;have x7:=b2.Av;have x8:=b2.Aw;refine Ab<|Ab<|cg<|zm Z<|vq (Aa Wa Z)<|vq (Ah hV Z C.Ap Z)<|vq (BN an b0.now Z)<|vq (AE Z Z)<|zm Z ?_;apply WR.CJ true 2 _ BT
 ·intro w9;refine wo<|zm rfl<|wo<|vq (AE rfl rfl) ?_;exact Dm 2
 refine Ac<|AS Z (fun n2=>?_) fun n2=>?_
 ·obtain⟨u4,u5⟩:=n2;have q0:i<O.length:=oo;have a36:i<5:=oo;have p9:=(BP b0 q0 dd).1;obtain⟨x,hx⟩:∃x,x=O[i]:=⟨_,Z⟩;have l4:=w6 O[i] (oy q0);rw[←hx] at p9 l4;obtain⟨_,_,_,a57⟩:=l4;refine Aj<|Ab<|Ai<|Ab<|cg<|vq (Aa Wa Z)<|vq (Ah hV Z C.Ap Z)<|zm Z<|vq (AF an b0.now Z Z Z oo oo) ?_;refine vq (AR Rz Z)<|vq (EA BK Z p9.CY Z)<|za Z<|Ac<|Ab<|Ab<|cg<|zm Z<|vq (Bp.BY gx Z)<|vq (BZ Z Z)<|Ac<|WC.mono (N:=(fun e w'=>l6=w'∧∃t:List UInt8,Sub [(4000000, .tuple #[]),(1,P1 b1),(2, .bool false),(4,I n),(6,P1 pa),(7,P1 k),(8,b5),(9,I i),(10,St t)] e∧t.length≤40)) ?_ ?_
  ·refine AS Z (fun s7=>?_) fun s7=>?_
   ·refine cg<|zm Z<|vq (JT gx Z Z oo oo)<|za Z<|Ac ?_;exact⟨Z,_,Aq,by first|omega|(rw[ly];omega)⟩
   refine Aj ?_;exact⟨Z,_,Aq,by first|omega|(rw[ly];omega)⟩
  rintro k0 n6 ⟨rfl,t,e8,ht⟩;refine WC.sub e8 ?_;clear e8 k0;refine Ab<|cg<|zm rfl<|vq (AB (cells:=(FB qo).toArray) rfl kr) ?_;refine ve (Ay.call lY rfl (IE o f hs.1 e4 e3 j8 g oo h9 oo wz)) ?_;rintro a80 b11 ⟨r7,e0,⟨A1,k1,n5,k3,o2,l5,c6,j1,j2,j5,j3,j4,o,f,a8,rfl⟩⟩;have e7:=gq h9 oo a8;replace g:=PA g a8;rw[yK (show¬qo.kind=3 by decide)] at g;clear a8;obtain⟨k2,p1⟩:∃k2:Ek,k2={P with A:=A1,J:=k1,b:=n5,failed:=k3}:=⟨_,rfl⟩;rw[show(k3||k1.failed)=bP k2 by rw[p1];rfl] at e7;rw[←p1] at f g;have a39:=e7.q_;refine Db r7 111 Ik fun n6 y7 o5 e1 l0=>WR.AI (Am BH rfl rfl l0 rfl rfl AG) ?_;rintro _ b12 ⟨l0,e2⟩;refine Ac<|Ab<|cg<|zm rfl<|vq (Aa cl rfl)<|vq (Ah Au rfl l0.Ap rfl)<|zm rfl<|vq (AB (cells:=(FB (sa l5.n t)).toArray) rfl kr) ?_;refine ve (Ay.call lY rfl (IE o.mv f.mv hs.1 e4 e3 j8 g oo e7.inv oo (wA (q:=l5.n) (t:=t) oo ht))) ?_;rintro a81 a85 ⟨q8,c7,⟨A2,o1,x6,o6,y6,a64,c6,j1,j2,j5,j3,j4,o,f,a8,rfl⟩⟩;replace e7:=gr e7 oo ht a8;replace g:=PA g a8;rw[yK (show¬(2:Int)=3 by decide)] at g;clear a8;obtain⟨l7,p2⟩:∃l7:Ek,l7={k2 with A:=A2,J:=o1,b:=x6,failed:=o6}:=⟨_,rfl⟩;rw[show(o6||o1.failed)=bP l7 by rw[p2];rfl] at e7;rw[←p2] at f g;refine Ac<|Ab<|cg<|zm rfl<|ve (Al q8 1 (Ay.call xb rfl (Ns t oo))) ?_;rintro a82 a86 ⟨z8,c8,a49,rfl⟩;refine za rfl<|Ac<|Ab<|cg<|zm rfl<|vq (Aa cl rfl)<|vq (Ah Au rfl l0.mv.Ap rfl)<|zm rfl<|vq (AB (cells:=(FB (qp l5.n (AV t))).toArray) rfl kr) ?_;refine ve (Ay.call lY rfl (IE o.mv f.mv hs.1 e4 e3 j8 g oo e7.inv oo (wB (q:=l5.n) (d:=AV t) oo (Ea _)))) ?_;rintro a83 a87 ⟨q9,c9,⟨A3,y4,a59,a13,o3,y1,c6,j1,j2,j5,j3,j4,o,f,a8,rfl⟩⟩;obtain⟨k5,v8,w4⟩:=bQ e7 oo ht a8;replace g:=PA g a8;rw[yP rfl] at g;clear a8;have l9:ox a6 o3.things:=fun d hd=>⟨(k8 d hd).1,by obtain⟨y,hy,x5⟩:=(k8 d hd).2;exact⟨y,v8 y hy,x5⟩⟩;refine vq (sj (u:=I y1.err) rfl kr)<|vq (AU rfl rfl)<|Ac ?_;refine AS rfl (fun p6=>?_) fun p6=>?_
  ·have k9:ox (a6++[AV t]) o3.things:=fun d hd=>by
    rcases zH.1 hd with hd|hd
    ·exact l9 d hd
    obtain rfl:=yN.1 hd;exact⟨Ea _,w4 (by simpa using p6)⟩
   refine cg<|zm Z<|zm Z<|ve (Bb q9 184 BE Z Z Z Z Z) ?_;rintro _ a88 ⟨z1,a00,rfl,j6,p4⟩;refine ve (AN BE Z Z b2.mv (Src.An zb p4.Ap.An Z AG) EY Fb) ?_;rintro a84 a89 ⟨a01,j7,b2⟩;clear p4;refine za Z<|Ac<|cg<|zm Z<|vq (AH Z Z Ad Ad)<|za Z<|Ac ?_;replace U:=(((((((U.mv e0).mv e1).mv e2).mv c7).mv c8).mv c9).mv j6).mv j7;replace b0:=(((((((b0.mv e0).mv e1).mv e2).mv c7).mv c8).mv c9).mv j6).mv j7;replace R:=(((((((R.mv e0).mv e1).mv e2).mv c7).mv c8).mv c9).mv j6).mv j7;replace C:=(((((((C.mv e0).mv e1).mv e2).mv c7).mv c8).mv c9).mv j6).mv j7;replace o:=(o.mv j6).mv j7;replace f:=(f.mv j6).mv j7
   first
   |(have x0:=k9;exact⟨(i+1,_),Aq,⟨⟨by dsimp only;omega,by dsimp only;omega⟩,_,_,_,_,_,_,_,_,_,_,a6++[AV t],⟨g,k5,k9,by rw[List.length_append];dsimp only[List.length_cons,List.length_nil];omega⟩,U,b0,R,C,o,f,by dsimp only;rw[List.length_append,List.map_append];exact b2⟩,by dsimp only;omega⟩)
   |exact⟨(i+1,b5),Aq,⟨⟨by dsimp only;omega,by dsimp only;omega⟩,_,_,_,_,_,_,_,_,_,_,a6,⟨g,k5,l9,by dsimp only;omega⟩,U,b0,R,C,o,f,b2⟩,by dsimp only;omega⟩
  refine Aj<|cg<|zm Z<|vq (AH Z Z Ad Ad)<|za Z<|Ac ?_;replace U:=(((((U.mv e0).mv e1).mv e2).mv c7).mv c8).mv c9;replace b0:=(((((b0.mv e0).mv e1).mv e2).mv c7).mv c8).mv c9;replace R:=(((((R.mv e0).mv e1).mv e2).mv c7).mv c8).mv c9;replace C:=(((((C.mv e0).mv e1).mv e2).mv c7).mv c8).mv c9;replace b2:=(((((b2.mv e0).mv e1).mv e2).mv c7).mv c8).mv c9
  first
  |(have x0:=k9;exact⟨(i+1,_),Aq,⟨⟨by dsimp only;omega,by dsimp only;omega⟩,_,_,_,_,_,_,_,_,_,_,a6++[AV t],⟨g,k5,k9,by rw[List.length_append];dsimp only[List.length_cons,List.length_nil];omega⟩,U,b0,R,C,o,f,by dsimp only;rw[List.length_append,List.map_append];exact b2⟩,by dsimp only;omega⟩)
  |exact⟨(i+1,b5),Aq,⟨⟨by dsimp only;omega,by dsimp only;omega⟩,_,_,_,_,_,_,_,_,_,_,a6,⟨g,k5,l9,by dsimp only;omega⟩,U,b0,R,C,o,f,b2⟩,by dsimp only;omega⟩
 have a1:Bi CL j9 l6 [8] b5 a6:=Ao.Ez (by rw[jw];exact b2) oo (fun d hd=>by have:=(k8 d hd).1;show d.length≤140737488355328;omega);replace g:=(g.more (a':=5) oo);refine WC.exit Z<|Ab<|Ab<|cg<|za Z<|Ac<|Ai<|WC.loop (σ:=Nat) (fun i=>[(1,P1 b1),(2, .bool false),(4,I n),(6,P1 pa),(7,P1 k),(8,b5),(13,I i)]) (fun i w'=>(i≤12∧i≤D.length)∧∃c' P c4 c0 c3 b6 b7 b8,GH n m s N 5 i P∧AQ w c' w'∧Bi Bw c' w' [0] b4 D∧Bi CL c' w' [8] b5 a6∧Ar c' w' 101 b1 [I h2,I h3,I h4,I h5,I h6,vL,e9,e5,b4] 28∧Fi c' w' k p c4 c0 c3 S∧BU c' w' p pa pj b6 b7 b8 P) (fun i=>12-i) 0 Aq ⟨⟨yU _,yU _⟩,_,_,_,_,_,_,_,_,g,U,R,a1,C,o,f⟩ ?_;clear U b0 R C o f b2 g a1 x7 x8 n2;rintro q l6 ⟨⟨w7,a47⟩,j9,P,c4,c0,c3,b6,b7,b8,g,U,R,a1,C,o,f⟩;refine Ab<|Ab<|cg<|zm Z<|vq (Aa Wb Z)<|vq (Ah BL Z C.Ap Z)<|vq (BN Bu R.now Z)<|vq (AE Z Z)<|zm Z ?_;apply WR.CJ true 2 _ BT
 ·intro w9;refine wo<|zm rfl<|wo<|vq (AE rfl rfl) ?_;exact Dm 2
 refine Ac<|AS Z (fun p7=>?_) fun p7=>?_
 ·obtain⟨u4,u5⟩:=p7;have q3:q<D.length:=oo;have a40:q<12:=oo;have p5:=(BP R q3 dd).1;obtain⟨x,hx⟩:∃x,x=D[q]:=⟨_,Z⟩;have l4:=w5 D[q] (oy q3);rw[←hx] at p5 l4;refine Aj<|Ab<|Ai<|Ab<|cg<|vq (Aa Wb Z)<|vq (Ah BL Z C.Ap Z)<|zm Z<|vq (AF Bu R.now Z Z Z oo oo) ?_;refine vq (Bl Au Z p5.CY)<|za Z<|Ac<|Ab<|cg<|zm Z<|vq (oD Z Z dd)<|zm Z ?_;refine ve (Al j9 1 (Ay.call ec Z (Dk _ (n:Int) (ZX _) oo oo))) ?_;rintro a66 a90 ⟨r0,a15,a50,rfl⟩;generalize within (IntKind.i64.wrap (x.tdiv 3)) (n:Int)=dd;refine za Z<|Ac<|Ab<|Ab<|cg<|zm Z<|vq (lp Z Z) ?_;generalize IntKind.i64.wrap ((BitVec.ofInt IntKind.i64.bits x&&& BitVec.ofInt IntKind.i64.bits 3).toNat:Int)=b13;refine Ac<|WC.mono (N:=(fun e w'=>∃(c':Nat→Nat) (P:Ek),Sub [(4000000, .tuple #[]),(1,P1 b1),(2, .bool false),(4,I n),(6,P1 pa),(7,P1 k),(8,b5),(13,I q),(14,I x)] e∧GH n m s N 5 q P∧AQ w c' w'∧Bi Bw c' w' [0] b4 D∧Bi CL c' w' [8] b5 a6∧Ar c' w' 101 b1 [I h2,I h3,I h4,I h5,I h6,vL,e9,e5,b4] 28∧Fi c' w' k p c4 c0 c3 S∧BU c' w' p pa pj b6 b7 b8 P)) ?_ ?_
  ·refine Ai<|Ab<|cg<|vq (AU Z Z)<|za Z<|Ac ?_;refine WC.cond Z (fun u0=>?_) fun u0=>?_
   ·refine cg<|zm Z<|zm Z ?_;refine ve (Ay.call xc Z (ls (d:=dd) o.mv f.mv e4 e3 g oo)) ?_;rintro a69 a91 ⟨a02,a16,⟨A1,c6,o,f,g,rfl⟩⟩;refine Ac ?_;exact⟨_,_,Aq,g,U.mv,R.mv,a1.mv,C.mv,o,f⟩
   refine Ab<|cg<|vq (AU Z Z)<|za Z<|Ac<|WC.cond Z (fun u1=>?_) fun u1=>?_
   ·refine cg<|zm Z<|zm Z ?_;refine ve (Ay.call xd Z (ZY (d:=dd) o.mv f.mv e4 e3 g oo)) ?_;rintro a70 a92 ⟨a03,a17,⟨A1,c6,o,f,g,rfl⟩⟩;refine Ac ?_;exact⟨_,_,Aq,g,U.mv,R.mv,a1.mv,C.mv,o,f⟩
   refine cg<|zm Z<|zm Z<|zm Z<|vq (oC Z Z)<|ve (Al r0 1 (Ay.call ec Z (Dk _ 1073741824 (ZX _) (by decide) (by decide)))) ?_;rintro a67 a93 ⟨a04,a18,a51,rfl⟩;refine ve (Ay.call xe Z (lu (d:=dd) (by have:=HB (IntKind.i64.wrap (x*97)) 1073741824 (by decide);omega) o.mv f.mv e4 e3 g oo)) ?_;rintro a68 a94 ⟨a05,a19,⟨A1,c6,o,f,g,rfl⟩⟩;refine Ac ?_;exact⟨_,_,Aq,g,U.mv,R.mv,a1.mv,C.mv,o,f⟩
  clear g U R a1 C o f;rintro k0 n6 ⟨o5,y5,e8,g,U,R,a1,C,o,f⟩;refine WC.sub e8 ?_;clear e8 k0;refine Ab<|Ab<|cg<|zm Z<|vq (gF Z Z (by decide))<|vq (AU Z Z)<|Ac ?_;refine WC.mono (N:=(fun e w'=>∃(c':Nat→Nat) (P:Ek) (c4 c0 c3 b6 b7 b8:Value),Sub [(4000000, .tuple #[]),(1,P1 b1),(2, .bool false),(4,I n),(6,P1 pa),(7,P1 k),(8,b5),(13,I q)] e∧GH n m s N 5 (q+1) P∧AQ w c' w'∧Bi Bw c' w' [0] b4 D∧Bi CL c' w' [8] b5 a6∧Ar c' w' 101 b1 [I h2,I h3,I h4,I h5,I h6,vL,e9,e5,b4] 28∧Fi c' w' k p c4 c0 c3 S∧BU c' w' p pa pj b6 b7 b8 P)) ?_ ?_
  ·refine WC.cond Z (fun u2=>?_) fun u2=>?_
   ·refine cg<|zm Z ?_;refine ve (Ay.call xf Z (ou o f hs.1 e4 e3 j8 g oo)) ?_;rintro a71 a95 ⟨a06,k7,⟨e6,j5,j3,j4,z7,a12,h1,h7,h8,o,f,k4,rfl⟩⟩;refine Ac ?_;replace U:=U.mv k7;replace R:=R.mv k7;replace a1:=a1.mv k7;replace C:=C.mv k7
    first
    |(have r8:=k4;exact⟨_,_,_,_,_,_,_,_,Aq,k4,U,R,a1,C,o,f⟩)
    |exact⟨_,_,_,_,_,_,_,_,Aq,g.qu oo,U,R,a1,C,o,f⟩
   refine Aj ?_
   first
   |(have r8:=k4;exact⟨_,_,_,_,_,_,_,_,Aq,k4,U,R,a1,C,o,f⟩)
   |exact⟨_,_,_,_,_,_,_,_,Aq,g.qu oo,U,R,a1,C,o,f⟩
  clear g U R a1 C o f;rintro k0 n6 ⟨o5,e6,j5,j3,j4,h1,h7,h8,e8,g,U,R,a1,C,o,f⟩;refine WC.sub e8 ?_;clear e8 k0;refine Ab<|cg<|za Z<|Ac<|Ai<|WC.loop (σ:=Nat) (fun j=>[(1,P1 b1),(2, .bool false),(4,I n),(6,P1 pa),(7,P1 k),(8,b5),(13,I q),(16,I j)]) (fun j w'=>j≤a6.length∧∃c' c4 c0 c3 b6 b7 b8,AQ w c' w'∧Bi Bw c' w' [0] b4 D∧Bi CL c' w' [8] b5 a6∧Ar c' w' 101 b1 [I h2,I h3,I h4,I h5,I h6,vL,e9,e5,b4] 28∧Fi c' w' k p c4 c0 c3 S∧BU c' w' p pa pj b6 b7 b8 e6) (fun j=>a6.length-j) 0 Aq ⟨yU _,_,_,_,_,_,_,_,U,R,a1,C,o,f⟩ ?_;clear U R a1 C o f;rintro y l6 ⟨a58,j9,c4,c0,c3,b6,b7,b8,U,R,a1,C,o,f⟩;refine Ab<|Ab<|cg<|zm Z<|zm Z<|vq (BI BE) ?_;refine vq (AE Z Z)<|Ac<|AS Z (fun u3=>?_) fun u3=>?_
  ·have q7:y<a6.length:=oo;have l2:=(BP a1 q7 (by decide)).1;obtain⟨n3,n4⟩:=k8 a6[y] (oy q7);obtain⟨d,hd⟩:∃d,d=a6[y]:=⟨_,Z⟩;rw[←hd] at l2 n3 n4;have s8:=l2;have s9:=l2;refine Aj<|Ab<|Ai<|Ab<|cg<|zm Z<|zm Z<|zm Z<|vq (AF BE a1.now Z Z Z oo oo) ?_;refine vq (Bl BK Z l2.CY)<|vq (AB (cells:=(FB (qq d)).toArray) Z kr) ?_;refine ve (Ay.call lY Z (IE o f hs.1 e4 e3 j8 g oo h9 oo (wC n3))) ?_;rintro a72 a96 ⟨r1,a21,⟨A1,k1,n5,k3,o2,r,c6,j1,j2,j5,j3,j4,o,f,a8,rfl⟩⟩;obtain⟨⟨n7,n8,n9,o0⟩,j0,q4,x2,x3,a48⟩:=ov h9 n4 a8;clear a8;subst n7;subst n8;subst n9;subst o0;replace j0:=j0.symm;subst j0;replace f:BU _ _ p pa pj c6 j1 j2 e6:=f;have q1:=fP e6.A e6.s e6.b d;rw[←q4] at q1;refine Db r1 117 Ik fun a97 y8 l8 a22 c5=>WR.AI (Am BH Z Z c5 Z Z AG) ?_;rintro _ a98 ⟨c5,a23⟩;refine Ac<|Ab<|Ab<|AY l8 [] [0,1,0,0,0,1,2,0,0,0,1,0,0,0,0,1,0,0,0,1,0,0,0,0,1,0,0,0,0,0,1,0,0,0,1,0,0,0] [0,1,2,3,4,5,7,8,9,10,6,11,12,13,14,15,16,17,18,19,20,21,22,23,24,25,26,27,28,29,30,31,32,33,34,35,36,37] fun a99 a24 a7=>?_;refine vd Z (fun _=>Aa Jq Z)<|vc Z a7.kp (c5.mv.kb Au Z Z)<|vd Z (fun _=>AU Z Z)<|AK Z Z ?_;apply WD.Ko l8 true 8 _ a7.kp RH
   ·intro w7 r9;refine vd rfl (fun _=>Aa cm rfl)<|vc rfl a7.kp (c5.mv.kb BK rfl rfl)<|AK rfl rfl<|AK rfl rfl<|vd rfl (fun _=>AF BE a1.mv.now rfl rfl rfl oo oo)<|vc rfl a7.kp (s8.mv.ke BK rfl) ?_;refine WD.AW rfl rfl rfl (Al l8 1 (Ay.call xb rfl (Ns r.text oo))) rfl ?_;rintro a73 b00 ⟨a07,s3,a53,rfl⟩;refine a7.AX s3 fun a7=>vd rfl (fun _=>lG rfl rfl) ?_;exact WD.Kq 8 r9.mv
   intro b01 a08 s4;refine AK rfl rfl ?_;replace a7:=a7.tr s4 rfl;apply WD.CJ false 13 _ a7.kp RH
   ·intro a43;refine vd rfl (fun _=>Aa Jq rfl)<|vc rfl a7.kp (c5.mv.kb Au rfl rfl)<|vd rfl (fun _=>Bm rfl rfl)<|AK rfl rfl ?_;apply WD.CJ true 3 _ a7.kp RH
    ·intro a41;refine vd rfl (fun _=>Aa Jq rfl)<|vc rfl a7.kp (c5.mv.kb Au rfl rfl)<|vd rfl (fun _=>Bm rfl rfl) ?_;exact Xm 3
    refine AK Z Z ?_;apply WD.CJ true 3 _ a7.kp RH
    ·intro a42;refine vd rfl (fun _=>Aa Jq rfl)<|vc rfl a7.kp (c5.mv.kb Au rfl rfl)<|vd rfl (fun _=>Bm rfl rfl) ?_;exact Xm 3
    exact Xm 7
   refine AK Z Z ?_;apply WD.CJ false 8 _ a7.kp RH
   ·intro a45;refine vd rfl (fun _=>Aa Jq rfl)<|vc rfl a7.kp (c5.mv.kb Au rfl rfl)<|vd rfl (fun _=>Bm rfl rfl)<|AK rfl rfl ?_;apply WD.CJ true 3 _ a7.kp RH
    ·intro a44;refine vd rfl (fun _=>Aa cm rfl)<|vc rfl a7.kp (c5.mv.kb BK rfl rfl)<|vd rfl (fun _=>lG rfl rfl) ?_;exact Xm 3
    exact Xm 5
   refine WD.nil ?_;clear a7;refine WC.cond Z (fun l3=>?_) fun l3=>?_
   ·exfalso;by_cases h0:r.err=0
    ·have u6:=x2 h0;simp[h0,u6] at l3
    have q5:=x3 h0;rcases q1 with h|h|h
    ·exact h0 h
    ·simp[h,q5] at l3
    simp[h,q5] at l3
   refine Aj<|Ab<|cg<|zm Z<|zm Z<|zm Z<|vq (AF BE a1.mv.now Z Z Z oo oo)<|vq (Bl BK Z s9.mv.CY)<|vq (AB (cells:=(FB (wV d)).toArray) Z kr) ?_;refine ve (Ay.call lY Z (IE o.mv f.mv hs.1 e4 e3 j8 g oo h9 oo (yD n3))) ?_;rintro a74 b02 ⟨r2,a25,⟨A1,k1,n5,k3,o2,a65,c6,j1,j2,j5,j3,j4,o,f,a8,rfl⟩⟩;obtain⟨⟨n7,n8,n9,o0⟩,j0,x1⟩:=gu h9 n4 a8;clear a8;subst n7;subst n8;subst n9;subst o0;replace j0:=j0.symm;subst j0;replace f:BU _ _ p pa pj c6 j1 j2 e6:=f;refine Db r2 118 Ik fun b03 y9 a09 a26 n0=>WR.AI (Am BH Z Z n0 Z Z AG) ?_;rintro _ b04 ⟨n0,a27⟩;refine Ac<|Ab<|cg<|vq (Aa Jq Z)<|vq (Ah Au Z n0.Ap Z)<|vq (AU Z Z)<|zm Z ?_;apply WR.CJ true 3 _ BT
   ·intro a46;refine wo<|vq (Aa Jq rfl)<|wo<|vq (Ah Au rfl c5.mv.Ap rfl)<|wo<|vq (Bm rfl rfl) ?_;exact Dm 3
   refine Ac<|WC.cond Z (fun n1=>?_) fun n1=>?_
   ·exfalso;rw[x1,←q4] at n1;by_cases h0:r.err=0<;>simp[h0] at n1
   refine Aj<|cg<|zm Z<|vq (AH Z Z Ad Ad)<|za Z<|Ac ?_;exact⟨y+1,Aq,⟨by omega,_,_,_,_,_,_,_,U.mv,R.mv,a1.mv,C.mv,o.mv,f.mv⟩,by omega⟩
  refine WC.exit Z<|cg<|zm Z<|vq (AH Z Z Ad Ad)<|za Z<|Ac ?_;exact⟨q+1,Aq,⟨⟨by omega,by omega⟩,_,e6,_,_,_,_,_,_,g,U,R,a1,C,o,f⟩,by omega⟩
 refine WC.exit Z<|Ab<|cg<|ve (Ay.call xh Z (lh (c:=j9) (D:=2) (n:=2) oo oo)) ?_;rintro a75 b06 ⟨r4,a29,⟨a61,a60,p3,rfl⟩⟩;refine ve (Al r4 1 (Ay.call xg Z (ZV (q:=2) (p3.zh ss).now (p3.yx ss).now ss (fun l hl↦by rw[Aca hl];rfl)))) ?_;rintro a76 b07 ⟨o4,a30,a55,rfl⟩;refine vq (AU Z Z)<|zm Z ?_;apply WR.Ko o4 true 1 true BT
 ·intro w8 s0;refine wo<|ve (Al o4 1 (Ay.call xi rfl (bR))) ?_;rintro a77 Rn ⟨a10,a31,a56,rfl⟩;exact WR.Kq 1 s0.mv
 intro b08 a11 a32;refine za rfl<|Ac<|Az rfl rfl ?_;exact⟨U.mv.below,rfl⟩
end Go.Proofs.K

