/- The program, walked: part 4. No condition. -/
import Derived.Test.YtfdinjffnobpcaaGreatDoorH3
set_option linter.unusedSimpArgs false
set_option linter.unusedVariables false
set_option maxRecDepth 100000
set_option maxHeartbeats 4000000
open Go.Proofs.Tryz renaming prog → QP
variable {c : Nat → Nat} {w : Go.World}
namespace Go.Proofs.K
open Go Go.Eng Go.RowKit Silo TryzT
theorem FN{v:Value}{l:List (Int×Int)}(h0:Rd Bg w v l)(hl:l.length≤1048576):Calls QP 182 #[v] w (AP fun p w'=>Below w.heap.size w w'∧BJ w' w.heap.size 226 2 p l.length (l.flatMap FE)):=by
 obtain⟨c,g,hc⟩:=AQ.start w;have j:Bi Bg c w [0] v l:=Rd.Cl h0 (fun k hk=>by simp[hc,AA]);clear hc;have o:=h0.addr;obtain⟨A,cp,rfl,_⟩:=h0.form;clear h0;refine enter (n:=8) (res:=#[.tmp 2]) Tryz.func182 Z Z Z Z<|Ab<|cg<|za Z<|Ac<|Ab<|Ab<|cg<|zm Z<|vq (OA Aa3 Z)<|Ac<|AS Z (fun i=>?_) fun i=>?_
 ·refine Ab<|cg<|za Z<|Ac ?_;refine Az Z Z ?_;have h0:l=[]:=by
   cases l with
   |nil=>rfl
   |cons a r=>
    obtain⟨b,c',h⟩:=o ss;injection h with h _ _;rw[h] at i;cases i
  subst h0;exact⟨g.below,BJ.nil _ _ _ _⟩
 refine Aj<|Ab<|cg<|ve ((IB c CQ)) ?_;rintro I w1 ⟨c1,t,⟨b5,rfl⟩⟩;have f:Ao c1 w1 50 226 2 (.slice (some ⟨b5,0,none⟩) 0 0) 0 []:=KA;refine zm Z<|ve (AN CQ Z Z f (Src.flat Aa3 j.mv.now) EY Fb) ?_;rintro J w2 ⟨c2,C,f⟩;rw[Aaz,PB] at f;refine za Z<|Ac<|Az Z Z ?_;exact⟨g.mv.below,f.Gu g.mv dd⟩
theorem HJ{v:Value}{l:List Int}(h0:Rd Bw w v l)(hl:l.length≤1048576):Calls QP 217 #[v] w (AP fun p w'=>Below w.heap.size w w'∧BJ w' w.heap.size 3 1 p l.length (l.flatMap (fun x=>[I x]))):=by
 obtain⟨c,g,hc⟩:=AQ.start w;have j:Bi Bw c w [0] v l:=Rd.Cl h0 (fun k hk=>by simp[hc,AA]);clear hc;have o:=h0.addr;obtain⟨A,cp,rfl,_⟩:=h0.form;clear h0;refine enter (n:=8) (res:=#[.tmp 2]) Tryz.func217 Z Z Z Z<|Ab<|cg<|za Z<|Ac<|Ab<|Ab<|cg<|zm Z<|vq (OA zU Z)<|Ac<|AS Z (fun i=>?_) fun i=>?_
 ·refine Ab<|cg<|za Z<|Ac ?_;refine Az Z Z ?_;have h0:l=[]:=by
   cases l with
   |nil=>rfl
   |cons a r=>
    obtain⟨b,c',h⟩:=o ss;injection h with h _ _;rw[h] at i;cases i
  subst h0;exact⟨g.below,BJ.nil _ _ _ _⟩
 refine Aj<|Ab<|cg<|ve ((IB c Bu)) ?_;rintro J w1 ⟨c1,t,⟨b5,rfl⟩⟩;have f:Ao c1 w1 50 3 1 (.slice (some ⟨b5,0,none⟩) 0 0) 0 []:=KA;refine zm Z<|ve (AN Bu Z Z f (Src.flat zU j.mv.now) EY Fb) ?_;rintro R w2 ⟨c2,C,f⟩;rw[Aaz,PB] at f;refine za Z<|Ac<|Az Z Z ?_;exact⟨g.mv.below,f.Gu g.mv dd⟩
theorem fD{v:Value}{l:List CZ}{Y:List Fx}(h0:Rd ES w v l)(R:Y.map (·.1)=l)(hc:∀k (hk:k<Y.length),gK w (Bh v 4 k) (BQ Y[k]))(hl:l.length≤1048576):Calls QP 273 #[v] w (AP fun a6 w'=>Below w.heap.size w w'∧BJ w' w.heap.size 144 4 a6 Y.length (Y.flatMap BQ)):=by
 have j:Y.length=l.length:=by rw[←R,yF]
 obtain⟨c,g,p⟩:=AQ.start w;have t:Bi ES c w [0] v l:=Rd.Cl h0 (fun k hk=>by simp[p,AA]);have C:Rb BQ c w [0] v 4 Y:=⟨fun k hk=>⟨hc k hk,by simp[p,AA]⟩⟩;clear hc p;have U:=h0.addr;obtain⟨A,cp,rfl,_⟩:=h0.form;clear h0;refine enter (n:=8) (res:=#[.tmp 2]) Tryz.func273 Z Z Z Z<|Ab<|cg<|za Z<|Ac<|Ab<|Ab<|cg<|zm Z<|vq (OA Abk Z)<|Ac<|AS Z (fun o=>?_) fun o=>?_
 ·refine Ab<|cg<|za Z<|Ac ?_;refine Az Z Z ?_;have h0:l=[]:=by
   cases l with
   |nil=>rfl
   |cons a r=>
    obtain⟨b,c',h⟩:=U ss;injection h with h _ _;rw[h] at o;cases o
  have I:Y=[]:=yJ (by rw[j,h0];rfl);subst I;exact⟨g.below,BJ.nil _ _ _ _⟩
 refine Aj<|Ab<|cg<|ve ((IB c Cg)) ?_;rintro a8 w1 ⟨c1,J,⟨b5,rfl⟩⟩;have f:Ao c1 w1 50 144 4 (.slice (some ⟨b5,0,none⟩) 0 0) 0 []:=KA;refine zm Z ?_;refine ve (AN Cg Z Z f (Src.rd (css:=Y.map BQ) Abk t.mv.now (by rw[yF,j]) (fun i cs hi↦by rw[yY] at hi;obtain⟨y,hy,rfl⟩:=Aam.1 hi;obtain⟨a1,rfl⟩:=yO.1 hy;exact⟨Z,IV _,((C.mv J).el i a1).CY.1⟩)) EY Fb) ?_;rintro b0 w2 ⟨c2,a7,f⟩;rw[Aaz,PB,←Abq,←j] at f;refine za Z<|Ac<|Az Z Z ?_;exact⟨g.mv.below,f.Gu g.mv dd⟩
theorem fE{v:Value}{l:List Jf}{Y:List WZ}(h0:Rd IU w v l)(R:Y.map (·.1)=l)(hc:∀k (hk:k<Y.length),gK w (Bh v 4 k) (DP Y[k]))(hl:l.length≤1048576):Calls QP 274 #[v] w (AP fun a6 w'=>Below w.heap.size w w'∧BJ w' w.heap.size 187 4 a6 Y.length (Y.flatMap DP)):=by
 have j:Y.length=l.length:=by rw[←R,yF]
 obtain⟨c,g,p⟩:=AQ.start w;have t:Bi IU c w [0] v l:=Rd.Cl h0 (fun k hk=>by simp[p,AA]);have C:Rb DP c w [0] v 4 Y:=⟨fun k hk=>⟨hc k hk,by simp[p,AA]⟩⟩;clear hc p;have U:=h0.addr;obtain⟨A,cp,rfl,_⟩:=h0.form;clear h0;refine enter (n:=8) (res:=#[.tmp 2]) Tryz.func274 Z Z Z Z<|Ab<|cg<|za Z<|Ac<|Ab<|Ab<|cg<|zm Z<|vq (OA Abw Z)<|Ac<|AS Z (fun o=>?_) fun o=>?_
 ·refine Ab<|cg<|za Z<|Ac ?_;refine Az Z Z ?_;have h0:l=[]:=by
   cases l with
   |nil=>rfl
   |cons a r=>
    obtain⟨b,c',h⟩:=U ss;injection h with h _ _;rw[h] at o;cases o
  have I:Y=[]:=yJ (by rw[j,h0];rfl);subst I;exact⟨g.below,BJ.nil _ _ _ _⟩
 refine Aj<|Ab<|cg<|ve ((IB c Dt)) ?_;rintro a8 w1 ⟨c1,J,⟨b5,rfl⟩⟩;have f:Ao c1 w1 50 187 4 (.slice (some ⟨b5,0,none⟩) 0 0) 0 []:=KA;refine zm Z ?_;refine ve (AN Dt Z Z f (Src.rd (css:=Y.map DP) Abw t.mv.now (by rw[yF,j]) (fun i cs hi↦by rw[yY] at hi;obtain⟨y,hy,rfl⟩:=Aam.1 hi;obtain⟨a1,rfl⟩:=yO.1 hy;exact⟨Z,IW _,((C.mv J).el i a1).CY.1⟩)) EY Fb) ?_;rintro b0 w2 ⟨c2,a7,f⟩;rw[Aaz,PB,←Abq,←j] at f;refine za Z<|Ac<|Az Z Z ?_;exact⟨g.mv.below,f.Gu g.mv dd⟩
theorem dA{x:CZ}{u:Value}(d:Int)(hu:u.oneCell'=true):Calls QP 115 #[.agg #[I x.id,I x.len,I x.gen,u],I d] w (AP fun v w'=>Below w.heap.size w w'∧v=I (Yk x.id d)):=by
 obtain⟨c,f,i⟩:=AQ.start w;clear i;refine enter (n:=9) (res:=#[.tmp 4]) Tryz.func115 Z Z Z Z<|Ab<|cg<|Dz c 102 fun w1 b2 c1 j g=>?_;refine za Z<|Ac<|Ab<|cg<|vq (Aa Es Z)<|vq (Ah Au Z g.Ap Z)<|zm Z<|ve (Al c1 1 (Ay.call hK Z (PW x.id d))) ?_;rintro p w2 ⟨c2,l,o,rfl⟩;refine za Z<|Ac<|Az Z Z ?_;exact⟨f.mv.below,Z⟩
theorem Zk{x:Jf}{u:Value}(d:Tx)(hu:u.oneCell'=true):Calls QP 164 #[.agg #[St x.Ak,I x.len, .bool x.sn,u],St d] w (AP fun v w'=>Below w.heap.size w w'∧v=I (TZ x.Ak d)):=by
 obtain⟨c,f,i⟩:=AQ.start w;clear i;refine enter (n:=9) (res:=#[.tmp 4]) Tryz.func164 Z Z Z Z<|Ab<|cg<|Dz c 102 fun w1 b2 c1 j g=>?_;refine za Z<|Ac<|Ab<|cg<|vq (Aa LC Z)<|vq (Ah BK Z g.Ap Z)<|zm Z<|ve (Al c1 1 (Ay.call hL Z (Nu x.Ak d))) ?_;rintro p w2 ⟨c2,l,o,rfl⟩;refine za Z<|Ac<|Az Z Z ?_;exact⟨f.mv.below,Z⟩
theorem rG{v:Value}{T:List CZ}{d:Int}(h1:Rd ES w v T)(a7:Ib T):
 Calls QP 114 #[v,I d, .func (.func 115) #[] #[]] w (AP fun c9 w'=>Below w.heap.size w w'∧c9= .tuple #[I (OV T d:Nat), .bool (ID T d).isSome]):=by
 have f:Bz w w:=Bz.refl w;have e1:=h1.small;refine enter (n:=49) (res:=#[.tmp 6, .tmp 7]) Tryz.func114 Z Z Z Z<|Ab<|cg<|za Z<|za Z<|Ac<|Ab<|cg<|zm Z ?_
 first|refine vq (BN Cg (by assumption) Z) ?_|refine vq (CH Abk Z) ?_
 refine za Z<|Ac<|Ab<|cg<|zm Z<|za Z<|za Z<|Ac<|Ab<|Ai ?_;refine WC.loop (σ:=Nat×Nat) (fun g=>[(0,v),(1,I d),(2, .func (.func 115) #[] #[]),(8,I T.length),(9,I g.1),(10,I g.2)]) (fun g w'=>Rd ES w' v T∧Bz w w'∧g.1≤g.2∧g.2≤T.length∧(∀k (hk:k<T.length),k<g.1→(fun t:CZ=>decide (t.id<d)) T[k]=true)∧∀k (hk:k<T.length),g.2≤k→(fun t:CZ=>decide (t.id<d)) T[k]=false) (fun g=>g.2-g.1) (0,T.length) Aq ⟨h1,f,by simp,by simp,fun k _ h=>absurd h (Nat.not_lt_zero _),fun k hk h=>by dsimp only at h;omega⟩ ?_;clear h1 f;rintro⟨i,j⟩ b2 ⟨h1,f,c1,R,C,J⟩;dsimp only at c1 R C J⊢;refine Ab<|Ab<|cg<|zm Z<|zm Z<|vq (AE Z Z)<|Ac<|AS Z (fun b8=>?_) fun b8=>?_
 ·have e2:i<j:=oo;refine Aj<|Ai<|Ab<|cg<|zm Z<|zm Z<|vq (AH Z Z Ad Ad)<|vq (Co oz zW Z Ad Ad)<|vq (Ir Z Z Ad (by simp[IntKind.bits]<;>omega)) ?_;refine vq (Em zW oz Z Ad Ad)<|za Z<|Ac ?_;have b4:((i:Int)+(j:Int))/2^(1:Int).toNat=((i+j)/2:Nat):=by
   rw[show(2:Int)^(1:Int).toNat=2 from Z];omega
  rw[b4];have a1:(i+j)/2<T.length:=oo;have a6:i≤(i+j)/2:=oo;have c6:(i+j)/2<j:=oo;generalize(i+j)/2=h at a1 a6 c6⊢;obtain⟨b3,b7,c8,rfl,o,c7⟩:=h1.el a1;have o:=o.Av;refine Ab<|cg<|zm Z<|zm Z<|zm Z<|vq (AF Cg (by assumption) Z Z Z Ad Ad)<|vq (Dg BB Z b7 Z)<|zm Z ?_;refine ve (Gg Z oL Z (dA (x:=T[h]) d o)) ?_;rintro v30 w1 ⟨U,rfl⟩;refine vq (AE Z Z)<|Ac<|AS Z (fun l=>?_) fun l=>?_
  ·rw[OI] at l;have a8:∀k (hk:k<T.length),k<h+1→(fun t:CZ=>decide (t.id<d)) T[k]=true:=fun k hk b1=>by
    rcases yT k h with r|r
    ·have b5:=a7 k h hk a1 r;simp only[yI] at l⊢;omega
    have:k=h:=oo;subst this;exact l
   refine cg<|zm Z<|vq (AH Z Z Ad Ad)<|za Z<|Ac ?_;replace h1:=h1.up U;replace f:=f.up U
   first
   |exact⟨(h+1,j),Aq,⟨h1,f,by dsimp only;omega,R,a8,J⟩,by dsimp only;omega⟩
   |exact⟨(i,h),Aq,⟨h1,f,a6,by dsimp only;omega,C,b0⟩,by dsimp only;omega⟩
  rw[OI,Aci] at l;have b0:∀k (hk:k<T.length),h≤k→(fun t:CZ=>decide (t.id<d)) T[k]=false:=fun k hk b1=>by
   rcases Abo b1 with r|r
   ·subst r;exact l
   have b5:=a7 h k a1 hk r;simp only[zY] at l⊢;omega
  refine cg<|zm Z<|za Z<|Ac ?_;replace h1:=h1.up U;replace f:=f.up U
  first
  |exact⟨(h+1,j),Aq,⟨h1,f,by dsimp only;omega,R,a8,J⟩,by dsimp only;omega⟩
  |exact⟨(i,h),Aq,⟨h1,f,a6,by dsimp only;omega,C,b0⟩,by dsimp only;omega⟩
 have:i=j:=oo;subst this;obtain⟨c4,c5⟩:=search_end (p:=fun t:CZ=>decide (t.id<d)) (q:=fun t:CZ=>decide (t.id=d)) (dw a7 d) (dx d) R C J;refine WC.exit Z<|Ab<|cg<|zm Z<|zm Z<|zm Z<|vq (AE Z Z)<|zm Z ?_;apply Ul true 8 ((T[i]?.map (fun t:CZ=>decide (t.id=d))).getD false) BT
 ·intro e0;have hi:i<T.length:=oo;obtain⟨b3,b9,c8,rfl,o,c7⟩:=h1.el hi;have o:=o.Av;have c0:((T[i]?.map (fun t:CZ=>decide (t.id=d))).getD false)=(fun t:CZ=>decide (t.id=d)) T[i]:=by rw[aa hi];rfl
  have b6:Bz b2 b2:=Bz.refl _;refine wo<|zm Z<|wo<|zm Z<|wo<|zm Z<|wo<|vq (AF Cg (by assumption) Z Z Z Ad Ad)<|wo ?_;refine vq (Dg BB Z b9 Z)<|wo<|zm Z<|wo<|ve (Gg Z oL Z (dA (x:=T[i]) d o)) ?_;rintro e3 w2 ⟨c2,rfl⟩;refine wo<|vq (AU Z Z) ?_;exact WR.nil ⟨(by rw[c0];simp only[look,UH];rfl),Sub.drop _ 8 _ Z Z,(b6.up c2)⟩
 intro e4 c3;refine za rfl<|za rfl<|Ac<|Dn rfl rfl rfl ?_;exact⟨(f.up c3),by rw[show OV T d=i from c4,show(ID T d).isSome=_ from c5.symm];rfl⟩
theorem IY{vS vT vG:Value}{n:Int}{T:List CZ}{d:Int}(h1:Rd ES w vS T)(t:vS.oneCell'=true)(C:vT.oneCell'=true)(J:vG.oneCell'=true)(l:Ib T):Calls QP 61 #[.agg #[vS,vT,vG,I n],I d] w (AP fun o w'=>Below w.heap.size w w'∧o= .tuple #[I (OV T d:Nat), .bool (ID T d).isSome]):=by
 obtain⟨c,i,f⟩:=AQ.start w;have g:Bi ES c w [0] vS T:=Rd.Cl h1 (fun k hk=>by simp[f,AA]);clear f h1;refine enter (n:=12) (res:=#[.tmp 4, .tmp 5]) Tryz.func61 Z Z Z Z<|Ab<|cg<|Dz c 102 fun w1 b2 c1 p j=>?_;refine za Z<|za Z<|Ac<|Ab<|cg<|vq (Aa CN Z)<|vq (Ah EC Z j.Ap Z)<|zm Z<|ve (Al c1 1 (Ay.call sX Z (rG g.mv.now l))) ?_;rintro U w2 ⟨c2,r,R,rfl⟩;refine vq (Ag Z Z)<|vq (Ag Z Z)<|za Z<|za Z<|Ac<|Dn Z Z Z ?_;exact⟨i.mv.below,Z⟩
theorem rH{v:Value}{T:List Jf}{d:Tx}(h1:Rd IU w v T)(a8:JH T):
 Calls QP 163 #[v,St d, .func (.func 164) #[] #[]] w (AP fun c9 w'=>Below w.heap.size w w'∧c9= .tuple #[I (fC T d:Nat), .bool (ny T d).isSome]):=by
 have f:Bz w w:=Bz.refl w;have e1:=h1.small;refine enter (n:=49) (res:=#[.tmp 6, .tmp 7]) Tryz.func163 Z Z Z Z<|Ab<|cg<|za Z<|za Z<|Ac<|Ab<|cg<|zm Z ?_
 first|refine vq (BN Dt (by assumption) Z) ?_|refine vq (CH Abw Z) ?_
 refine za Z<|Ac<|Ab<|cg<|zm Z<|za Z<|za Z<|Ac<|Ab<|Ai ?_;refine WC.loop (σ:=Nat×Nat) (fun g=>[(0,v),(1,St d),(2, .func (.func 164) #[] #[]),(8,I T.length),(9,I g.1),(10,I g.2)]) (fun g w'=>Rd IU w' v T∧Bz w w'∧g.1≤g.2∧g.2≤T.length∧(∀k (hk:k<T.length),k<g.1→(fun t:Jf=>Op.bytesLess t.Ak d) T[k]=true)∧∀k (hk:k<T.length),g.2≤k→(fun t:Jf=>Op.bytesLess t.Ak d) T[k]=false) (fun g=>g.2-g.1) (0,T.length) Aq ⟨h1,f,by simp,by simp,fun k _ h=>absurd h (Nat.not_lt_zero _),fun k hk h=>by dsimp only at h;omega⟩ ?_;clear h1 f;rintro⟨i,j⟩ b3 ⟨h1,f,c1,R,C,J⟩;dsimp only at c1 R C J⊢;refine Ab<|Ab<|cg<|zm Z<|zm Z<|vq (AE Z Z)<|Ac<|AS Z (fun b8=>?_) fun b8=>?_
 ·have e2:i<j:=oo;refine Aj<|Ai<|Ab<|cg<|zm Z<|zm Z<|vq (AH Z Z Ad Ad)<|vq (Co oz zW Z Ad Ad)<|vq (Ir Z Z Ad (by simp[IntKind.bits]<;>omega)) ?_;refine vq (Em zW oz Z Ad Ad)<|za Z<|Ac ?_;have b5:((i:Int)+(j:Int))/2^(1:Int).toNat=((i+j)/2:Nat):=by
   rw[show(2:Int)^(1:Int).toNat=2 from Z];omega
  rw[b5];have a1:(i+j)/2<T.length:=oo;have a7:i≤(i+j)/2:=oo;have c6:(i+j)/2<j:=oo;generalize(i+j)/2=h at a1 a7 c6⊢;obtain⟨b4,b7,c8,rfl,o,c7⟩:=h1.el a1;have o:=o.Av;refine Ab<|cg<|zm Z<|zm Z<|zm Z<|vq (AF Dt (by assumption) Z Z Z Ad Ad)<|vq (Dg Lt Z b7 Z)<|zm Z ?_;refine ve (Gg Z oV Z (Zk (x:=T[h]) d o)) ?_;rintro v30 w1 ⟨U,rfl⟩;refine vq (AE Z Z)<|Ac<|AS Z (fun l=>?_) fun l=>?_
  ·rw[Ke] at l;have b0:∀k (hk:k<T.length),k<h+1→(fun t:Jf=>Op.bytesLess t.Ak d) T[k]=true:=fun k hk b2=>by
    rcases yT k h with r|r
    ·have a6:=a8 k h hk a1 r;exact EE _ _ _ a6 l
    have:k=h:=oo;subst this;exact l
   refine cg<|zm Z<|vq (AH Z Z Ad Ad)<|za Z<|Ac ?_;replace h1:=h1.up U;replace f:=f.up U
   first
   |exact⟨(h+1,j),Aq,⟨h1,f,by dsimp only;omega,R,b0,J⟩,by dsimp only;omega⟩
   |exact⟨(i,h),Aq,⟨h1,f,a7,by dsimp only;omega,C,b1⟩,by dsimp only;omega⟩
  rw[Ke,Aci] at l;have b1:∀k (hk:k<T.length),h≤k→(fun t:Jf=>Op.bytesLess t.Ak d) T[k]=false:=fun k hk b2=>by
   rcases Abo b2 with r|r
   ·subst r;exact l
   have a6:=a8 h k a1 hk r;cases hx:Op.bytesLess T[k].Ak d with
   |false=>exact hx
   |true=>rw[EE _ _ _ a6 hx] at l;cases l
  refine cg<|zm Z<|za Z<|Ac ?_;replace h1:=h1.up U;replace f:=f.up U
  first
  |exact⟨(h+1,j),Aq,⟨h1,f,by dsimp only;omega,R,b0,J⟩,by dsimp only;omega⟩
  |exact⟨(i,h),Aq,⟨h1,f,a7,by dsimp only;omega,C,b1⟩,by dsimp only;omega⟩
 have:i=j:=oo;subst this;obtain⟨c4,c5⟩:=search_end (p:=fun t:Jf=>Op.bytesLess t.Ak d) (q:=fun t:Jf=>t.Ak==d) (dy a8 d) (dz d) R C J;refine WC.exit Z<|Ab<|cg<|zm Z<|zm Z<|zm Z<|vq (AE Z Z)<|zm Z ?_;apply Ul true 8 ((T[i]?.map (fun t:Jf=>t.Ak==d)).getD false) BT
 ·intro e0;have hi:i<T.length:=oo;obtain⟨b4,b9,c8,rfl,o,c7⟩:=h1.el hi;have o:=o.Av;have c0:((T[i]?.map (fun t:Jf=>t.Ak==d)).getD false)=(fun t:Jf=>t.Ak==d) T[i]:=by rw[aa hi];rfl
  have b6:Bz b3 b3:=Bz.refl _;refine wo<|zm Z<|wo<|zm Z<|wo<|zm Z<|wo<|vq (AF Dt (by assumption) Z Z Z Ad Ad)<|wo ?_;refine vq (Dg Lt Z b9 Z)<|wo<|zm Z<|wo<|ve (Gg Z oV Z (Zk (x:=T[i]) d o)) ?_;rintro e3 w2 ⟨c2,rfl⟩;refine wo<|vq (AU Z Z) ?_;exact WR.nil ⟨(by rw[c0];simp only[look,PV];exact zC (fun b=>some (Value.bool b)) (by rw[Ab6];simp)),Sub.drop _ 8 _ Z Z,(b6.up c2)⟩
 intro e4 c3;refine za rfl<|za rfl<|Ac<|Dn rfl rfl rfl ?_;exact⟨(f.up c3),by rw[show fC T d=i from c4,show(ny T d).isSome=_ from c5.symm];rfl⟩
theorem Qp{vS vT vG:Value}{n:Int}{T:List Jf}{d:Tx}(h1:Rd IU w vT T)(t:vS.oneCell'=true)(C:vT.oneCell'=true)(J:vG.oneCell'=true)(l:JH T):Calls QP 91 #[.agg #[vS,vT,vG,I n],St d] w (AP fun o w'=>Below w.heap.size w w'∧o= .tuple #[I (fC T d:Nat), .bool (ny T d).isSome]):=by
 obtain⟨c,i,f⟩:=AQ.start w;have g:Bi IU c w [0] vT T:=Rd.Cl h1 (fun k hk=>by simp[f,AA]);clear f h1;refine enter (n:=12) (res:=#[.tmp 4, .tmp 5]) Tryz.func91 Z Z Z Z<|Ab<|cg<|Dz c 102 fun w1 b2 c1 p j=>?_;refine za Z<|za Z<|Ac<|Ab<|cg<|vq (Aa EK Z)<|vq (Ah HA Z j.Ap Z)<|zm Z<|ve (Al c1 1 (Ay.call tA Z (rH g.mv.now l))) ?_;rintro U w2 ⟨c2,r,R,rfl⟩;refine vq (Ag Z Z)<|vq (Ag Z Z)<|za Z<|za Z<|Ac<|Dn Z Z Z ?_;exact⟨i.mv.below,Z⟩
end Go.Proofs.K
namespace Go.Eng
open Go Go.RowKit Go.ChangeMaps Go.Maps Silo
structure nz {κ:Type} (enc:κ→Value) (es:Array MapEntry) (T:List κ):Prop where
 lB:∀e∈es.toList,∃k∈T,e.key=enc k∧e.val= .bool true
 all:∀k∈T,∃e∈es.toList,e.key=enc k
structure NM {κ:Type} (enc:κ→Value) (c:Nat→Nat) (w:World) (i b:Nat) (T:List κ):Prop where
 obj:∃es clock,w.heap[b]?=some (.map es clock)∧nz enc es T
 Bf:c b=i
structure Rc (P:Program) {κ:Type} (enc:κ→Value) (ok:κ→Prop) (t kt e:TypeId):Prop where
 eV:P.underlying t=some (.map kt e)
 key:Keyed P kt
 lit:∀k,ok k→∃l,keyOf P kt (enc k)=some l
 inj:∀a b,enc a=enc b→a=b
 zero:(P.info? e).bind (·.zero)=some (.bool false)
section
variable {κ:Type} {enc:κ→Value} {ok:κ→Prop} {c c':Nat→Nat} {w w':World} {i b:Nat} {T:List κ}
theorem NM.lt(h:NM enc c w i b T):b<w.heap.size:=by obtain⟨g,clock,f,_⟩:=h.obj;exact BA f
theorem NM.mv{I:List Nat}(h:NM enc c w i b T)(m:Mv c w c' w' I:=by exact Go.Eng.Jb)(hi:AA I i=false:=by rfl):NM enc c' w' i b T:=by
 have f:=h.lt;obtain⟨g,clock,l,j⟩:=h.obj;exact⟨⟨g,clock,(m.block b f (by rw[h.Bf];exact hi)).trans l,j⟩,(m.Bf b f).trans h.Bf⟩
variable {P:Program} {env:Env} {ty t kt e:TypeId}
theorem Rc.zeroV(h:Rc P enc ok t kt e)(w:World):(zeroValue e).run P w= .ok (.bool false) w:=by
 have:=h.zero;cases hi:P.info? e with
 |none=>rw[hi] at this;cases this
 |some i=>
  rw[hi] at this;have f:i.zero=some (.bool false):=this;simp[zeroValue,typeInfo,Sem.run,hi,f]
theorem nz.find{f:Array MapEntry}(h:nz enc f T)(o:Rc P enc ok t kt e)(a7:∀k∈T,ok k){k:κ}(hk:ok k)(w:World):
 ((Instr.findKey kt (enc k) f.toList).run P w= .ok none w∧k∉T)∨∃j e,(Instr.findKey kt (enc k) f.toList).run P w= .ok (some (j,e.val)) w∧f[j]?=some e∧e.key=enc k∧e.val= .bool true∧k∈T:=by
 obtain⟨l,hl⟩:=o.lit k hk;have a1:∀e∈f.toList,∃l,keyOf P kt e.key=some l:=fun e C=>by
  obtain⟨p,i,g,_⟩:=h.lB e C;rw[g];exact o.lit p (a7 p i)
 rcases o.key.find w hl f.toList a1 with⟨i,g⟩|⟨j,e,i,g,I⟩
 ·refine .inl ⟨i,fun a6=>?_⟩;obtain⟨e,C,r⟩:=h.all k a6;exact g e C r
 have J:f[j]?=some e:=by simpa using g
 obtain⟨p,r,R,U⟩:=h.lB e (zx g);have:k=p:=o.inj _ _ (I.symm.trans R);subst this;exact .inr ⟨j,e,i,J,I,U,r⟩
theorem dB(c:Nat→Nat)(i:Nat)(enc:κ→Value){t:TypeId}:Ay P env w (.makeMap t none) ty (fun v w'=>∃c',Mv c w c' w' []∧∃b,v= .map (some b)∧NM enc c' w' i b []):=
 Dp fun _ a o d pos l g=>by
  obtain⟨c',j,hx⟩:=Mv.pure c i ((zy _ w).alloc (lx _) (.map #[] 0));exact⟨.map (some w.heap.size),w.alloc (.map #[] 0),by simp[execOp,Instr.makeMap],c',j,_,Z,⟨⟨#[],0,Acd _ _,⟨fun e f=>by simp at f,fun k hk=>by simp at hk⟩⟩,hx _ (lx _)⟩⟩
theorem Zl [DecidableEq κ](f:Rc P enc ok t kt e)(h:NM enc c w i b T)(R:∀k∈T,ok k){k:κ}(hk:ok k):(Instr.lookup t (.map (some b)) (enc k) false).run P w= .ok (.bool (decide (k∈T))) w:=by
 obtain⟨r,clock,p,J⟩:=h.obj;obtain⟨l,hl⟩:=f.lit k hk;have Mq:=f.key.check w r.isEmpty hl;rcases J.find f R hk w with⟨g,o⟩|⟨j,U,g,a1,o,C,I⟩
 ·simp[Instr.lookup,yH f.eV,Aax p,Mq,g,f.zeroV,Result.andThen,o]
 ·simp[Instr.lookup,yH f.eV,Aax p,Mq,g,Result.andThen,C,I]
theorem dC [DecidableEq κ]{m x:Operand}{k:κ}(j:Rc P enc ok t kt e)(l:Ba env m=some (.map (some b)))(h:NM enc c w i b T)(o:∀k∈T,ok k)(hx:Ba env x=some (enc k))(hk:ok k):Bp P env w (.lookup t m x false) ty (.bool (decide (k∈T))):=fun _ a f d pos p g=>by
 simp[execOp,f.eval l,f.eval hx,Zl j h o hk,Result.andThen]
theorem jE{m x:Operand}{k:κ}(I:Rc P enc ok t kt e)(b7:Ba env m=some (.map (some b)))(h:NM enc c w i b T)(c4:∀k∈T,ok k)(hx:Ba env x=some (enc k))(hk:ok k):
 Ay P env w (.mapUpdate t m x (.const (.bool true))) ty (fun _ w'=>∃c',Mv c w c' w' [i]∧NM enc c' w' i b (k::T)):=
 Jj fun _ a b0 d pos c7 g=>by
  obtain⟨U,clock,J,a6⟩:=h.obj;obtain⟨l,hl⟩:=I.lit k hk;have c5:∀o,(setBlock w b o).heap[b]?=some o:=fun o=>heap_setBlock_same J o;have c2:∀o,w.grownBy (setBlock w b o) (some b):=fun o=>⟨Z,Z,Z,by simp[setBlock],fun i _ hi=>heap_setBlock_other J o (fun e=>hi (by rw[e]))⟩;have b5:∀a1 a8,nz enc a1 (k::T)→∃c',Mv c w c' (setBlock w b (.map a1 a8)) [i]∧NM enc c' (setBlock w b (.map a1 a8)) i b (k::T):=fun a1 a8 hs=>by
   obtain⟨c',b8,_⟩:=Mv.grown (i:=i) c i (c2 (.map a1 a8)) (fun j c3=>by cases c3;exact h.Bf);exact⟨c',b8,⟨_,_,c5 _,hs⟩,(b8.Bf b h.lt).trans h.Bf⟩
  have Mq:=I.key.check w false hl;have hy:a.eval (.const (.bool true))= .bool true:=rfl;rcases a6.find I c4 hk w with⟨b1,_⟩|⟨j,b4,b1,b6,b2,_,_⟩
  ·refine⟨setBlock w b (.map (U.push ⟨enc k, .bool true,clock⟩) (clock+1)),?_,b5 _ _ ⟨fun e p=>?_,fun C r=>?_⟩⟩
   ·simp[execOp,b0.eval b7,b0.eval hx,hy,Instr.mapUpdate,yH I.eV,Aax J,Mq,b1,Acu _ J,Result.andThen,setBlock]
   ·simp only[Acx,zH,yN] at p;rcases p with p|rfl
    ·obtain⟨C,f,g2⟩:=a6.lB e p;exact⟨C,Aad _ f,g2⟩
    exact⟨k,Aag,Z,Z⟩
   simp only[Acx];rcases zN.1 r with rfl|r
   ·exact⟨_,Acw _ (yN.2 Z),Z⟩
   obtain⟨e,f,g2⟩:=a6.all C r;exact⟨e,List.mem_append_left _ f,g2⟩
  have b3:U.toList[j]?=some b4:=by simpa using b6
  refine⟨setBlock w b (.map (U.modify j fun e=>{e with key:=enc k,val:= .bool true}) clock),?_,b5 _ _ ⟨fun e p=>?_,fun C r=>?_⟩⟩
  ·have c6:(Instr.keyThatStays (enc k) (enc k)).run P w= .ok (enc k) w:=I.key.stays w hl;simp[execOp,b0.eval b7,b0.eval hx,hy,Instr.mapUpdate,yH I.eV,Aax J,Mq,b1,b6,b2,c6,Acu _ J,Result.andThen,setBlock]
  ·rw[Afg] at p;rcases mem_modify b3 p with e|e
   ·subst e;exact⟨k,Aag,Z,Z⟩
   obtain⟨C,f,g2⟩:=a6.lB _ e;exact⟨C,Aad _ f,g2⟩
  have key:∀e∈U.toList,∃R∈(U.modify j fun e=>{e with key:=enc k,val:= .bool true}).toList,R.key=e.key:=fun e p=>by
   obtain⟨q,a7⟩:=Aae p;rw[Afg];refine⟨if j=q then{e with key:=enc k,val:= .bool true} else e,zx (i:=q) (by rw[Acz,a7];split<;>rfl),?_⟩;split
   ·rename_i b9;subst b9;rw[b3] at a7;injection a7 with a7;subst a7;exact b2.symm
   rfl
  rcases zN.1 r with rfl|r
  ·obtain⟨R,f,g2⟩:=key b4 (zx b3);exact⟨R,f,g2.trans b2⟩
  obtain⟨e,f,g2⟩:=a6.all C r;obtain⟨R,c0,c1⟩:=key e f;exact⟨R,c0,c1.trans g2⟩
end
end Go.Eng
namespace Go.Proofs.K
open Go Go.Eng Go.RowKit Go.Maps Silo TryzT
abbrev dD(p:Int×Int):Value:= .agg #[I p.1,I p.2]
abbrev rI(p:Int×Int):Prop:=Go.Eng.Int64 p.1∧Go.Eng.Int64 p.2
theorem rJ{n:Int}(h:Go.Eng.Int64 n):(Lit.int .i64 n).wf=true:=by
 obtain⟨f,g⟩:=h;simp[Lit.wf,IntKind.min,IntKind.max,IntKind.bits,IntKind.signed];omega
theorem jF:Rc QP dD rI 441 226 4 where
 eV:=Tryz.underlying441
 key:=Keyed.of_law (deep_law_laid kr (m:=2) oo (Abu kr) kr kr)
 lit:=fun k hk=>by
  obtain⟨a,b⟩:=k;obtain⟨i,j⟩:=hk;have hu:=Tryz.underlying226;have g:=oz;have p:QP.keyType 226=true:=kr;have hc:QP.cellsOf 226=2:=kr;have l:QP.cellsOf 3=1:=kr;obtain⟨n,r⟩:∃n,QP.types.size+1=n+2:=⟨QP.types.size-1,by have:0<QP.types.size:=Abu kr;omega⟩;have f:QP.keyLits (n+2) 226 [I a,I b]=some [.int .i64 a, .int .i64 b]:=by
   simp[Program.keyLits,hu,g,hc,l,rJ i,rJ j]
  have o:(Value.agg #[I a,I b]).formed QP 226=true:=by simp[Value.formed,hu,hc]
  unfold keyOf;rw[hu];dsimp only;rw[p,o,r];have e:(Value.agg #[I a,I b]).cells.toList=[I a,I b]:=rfl;rw[e,f];exact⟨_,Z⟩
 inj:=fun a b h=>by
  obtain⟨t,C⟩:=a;obtain⟨b1,b2⟩:=b;simpa using h
 zero:=kr
theorem qg:Rc QP (fun n:Int=>I n) (fun n=>Go.Eng.Int64 n) 442 3 4 where
 eV:=Tryz.underlying442
 key:=int_keyed oz
 lit:=fun k hk=>⟨_,Adp oz (rJ hk)⟩
 inj:=fun a b h=>by injection h
 zero:=kr
end Go.Proofs.K
namespace Silo
def wb(l:List CZ):Nat→Option Int
 |0=>none
 |i+1=>l[i]?.map (·.id)
theorem Tu{s:Cn}{next:Int}{o:Option Int}{T:List (Int×Int)}{x:CZ}{r:List CZ}(h:DM s x=false∨next≤x.id∨(∃y,o=some y∧x.id≤y)∨OU T x.place=false):Gn s next o T (x::r)=false:=by
 unfold Gn;rcases h with h|h|⟨y,rfl,h⟩|h
 ·rw[h];rfl
 ·rw[Acr (show¬x.id<next by omega)];simp
 ·dsimp only;rw[decide_eq_false (show¬y<x.id by omega)];simp
 ·rw[h];simp
theorem fF{s:Cn}{next:Int}{o:Option Int}{T:List (Int×Int)}{x:CZ}{r:List CZ}(h1:DM s x=true)(f:x.id<next)(g:∀y,o=some y→y<x.id)(i:OU T x.place=true):Gn s next o T (x::r)=Gn s next (some x.id) (x.place.reverse++T) r:=by
 rw[Gn.eq_def];dsimp only;rw[h1,decide_eq_true f,i];cases o with
 |none=>simp
 |some y=>dsimp only;rw[decide_eq_true (g y Z)];simp
end Silo
namespace Go.Proofs.K
open Go Go.Eng Go.RowKit Go.Maps Silo TryzT
theorem _root_.Go.Eng.DF.wQ{J:List Nat}{p:Addr}{cs:List Value}{i:Nat}{v:Value}(h:DF c w J p cs)(hi:cs[i]?=some v):DF c w J (p.add i) [v]:=by
 have f:(p.add i).block=p.block:=by rw[El]
 refine⟨⟨fun j u hu=>?_,by rw[f];exact h.CY.2⟩,by rw[f];exact h.Bf⟩;cases j with
 |zero=>
  simp at hu;subst hu;rw[add_zero];exact h.CY.1 i v hi
 |succ j=>simp at hu
theorem Zm{s:Cn}{vS vT vG:Value}{n:Int}{L:List CZ}(hs:s.ok)(h1:Rd ES w vS L)(l6:vT.oneCell'=true)(l7:vG.oneCell'=true):
 Calls QP 282 #[.agg (DO s).toArray, .agg #[vS,vT,vG,I n]] w (AP fun v w'=>Below w.heap.size w w'∧v= .bool (Gn s n none [] L)):=by
 have l3:=h1.small;have l5:=h1.Av;obtain⟨j0,j1,j2,j3,j4⟩:=id hs;obtain⟨c,o,c8⟩:=AQ.start w;have t:Bi ES c w [0] vS L:=Rd.Cl h1 (fun k hk=>by simp[c8,AA]);clear c8 h1;refine enter (n:=65) (res:=#[.tmp 4]) Tryz.func282 Z Z Z Z<|Ab<|cg<|Dz c 102 fun w1 b2 c1 k1 J=>?_;refine Dz c1 103 fun w2 b3 c2 k3 r=>?_;refine za Z<|Ac<|Ab<|cg<|ve ((dB c2 77 dD)) ?_;rintro v10 n2 ⟨j7,k4,⟨b1,rfl,l⟩⟩;refine za Z<|Ac<|Ab<|Ab<|cg<|vq (Aa CN Z)<|vq (Ah EC Z r.mv.Ap Z)<|vq (BI Cg) ?_;refine zm Z<|Ac<|Ai<|WC.loop (σ:=Nat×List (Int×Int)) (fun f=>[(2,P1 b2),(3,P1 b3),(5, .map (some b1)),(12,vS),(13,I L.length),(14,I f.1)]) (fun f w'=>(f.1≤L.length∧Gn s n (wb L f.1) f.2 (L.drop f.1)=Gn s n none [] L∧∀p∈f.2,rI p)∧∃c',AQ w c' w'∧Bi ES c' w' [0] vS L∧Ar c' w' 102 b2 (DO s) 31∧Ar c' w' 103 b3 [vS,vT,vG,I n] 105∧NM dD c' w' 77 b1 f.2) (fun f=>L.length-f.1) (0,[]) Aq ⟨⟨Nat.zero_le _,Z,fun p hp=>by simp at hp⟩,_,o.mv,t.mv,J.mv,r.mv,l⟩ ?_;clear o t J r l;rintro⟨i,T⟩ n9 ⟨⟨hi,R,e1⟩,e3,o,t,J,r,l⟩;dsimp only at hi R e1 l;refine Ab<|cg<|vq (AE Z Z)<|Ac<|Ab<|AS Z (fun h0=>?_) fun h0=>?_
 ·have b9:i<L.length:=oo;obtain⟨x,hx⟩:∃x,x=L[i]:=⟨_,Z⟩;obtain⟨u,c6,U,h7,h8,h9⟩:=KM t b9;rw[←hx] at c6 U h7 h8 h9;have l8:=U.now.Av;rw[zO b9,←hx] at R;refine Aj<|Ab<|Ai<|Ab<|cg<|zm Z<|vq (ER Cg) ?_;refine vq (Dg BB Z c6.CY Z)<|Db e3 107 GZ fun n3 b7 c5 e6 a6=>?_;refine za Z<|WR.AI (Am BB Z Z a6 Z Z AG) ?_;rintro _ n4 ⟨a6,e7⟩;refine Ac<|Ab<|Ab ?_;have e2:=fun(C:0<i)↦KM ((t.mv e6).mv e7) (k:=i-1) oo;have e0:∀C:0<i,wb L i=some (L[i-1]'(by omega)).id:=fun C↦by
   obtain⟨j,rfl⟩:∃j,i=j+1:=⟨i-1,by omega⟩;rw[wb,aa oo];rfl
  refine AY c5 [] [1,1,2,0,0,0,1,0,1,0,0,0,0,0,0,0,1,0,1,0,0,0,0,1,0,0,0] [0,1,2,3,4,5,6,7,8,9,10,11,12,13,14,15,16,17,18,19,20,21,22,23,24,25,26] fun n5 k5 g=>vc Z g.kp (J.mv.kn Cq Z Z)<|vc Z g.kp (a6.mv.kn BB Z Z)<|WD.AW Z Z Z (Al c5 1 (Ay.call hG Z (Tt hs U.mv.now))) Z ?_;rintro n0 n6 ⟨j8,e8,l4,rfl⟩;refine g.AX e8 fun g=>vd Z (fun _=>Bq Z)<|AK Z Z ?_;apply WD.CJ false 5 _ g.kp RH
  ·intro k9;refine vd rfl (fun _=>Aa Es rfl)<|vc rfl g.kp (a6.mv.kb Au rfl rfl)<|vd rfl (fun _=>Aa HT rfl)<|vc rfl g.kp (r.mv.kb Au rfl rfl)<|vd rfl (fun _=>Cu rfl rfl) ?_;exact Xm 5
  refine AK Z Z ?_;apply WD.CJ false 14 _ g.kp RH
  ·intro l1;refine AK rfl rfl<|vd rfl (fun _=>BZ rfl rfl)<|AK rfl rfl ?_;apply WD.CJ true 10 (decide (x.id≤((L[i-1]?).map (·.id)).getD 0)) g.kp RH
   ·intro l0;have C:0<i:=oo;obtain⟨l9,h6,_⟩:=e2 C;refine vd rfl (fun _=>Aa Es rfl)<|vc rfl g.kp (a6.mv.kb Au rfl rfl)<|vd rfl (fun _=>Aa CN rfl)<|vc rfl g.kp (r.mv.kb EC rfl rfl)<|AK rfl rfl<|vd rfl (fun _=>EX rfl rfl Ad Ad)<|vd rfl (fun _=>LH Cg t.mv rfl rfl oo oo) ?_;rw[show((i:Int)-1).toNat=i-1 by omega]
    first|refine vd Z (fun _=>Aa Es Z) ?_|refine vd Z (fun _=>AR Es Z) ?_
    refine vc Z g.kp (fun W e9=>Bl Au Z ((h6.wQ (i:=0) Z).kp e9 Z).CY)<|vd Z (fun _=>FV Z Z) ?_;exact Xm 10 ((by rw[aa (show i-1<L.length by omega)];rfl))
   exact Xm 4
  refine WD.nil ?_;clear g;refine AS Z (fun b6=>?_) fun b6=>?_
  ·have e:Gn s n none [] L=false:=by
    rw[←R];refine Tu ?_;rcases b6 with(h|h)|⟨h,a7⟩
    ·exact .inl h
    ·exact .inr (.inl h)
    have C:0<i:=oo;rw[aa (show i-1<L.length by omega)] at a7;exact .inr (.inr (.inl ⟨_,e0 C,a7⟩))
   refine Ab<|cg<|za Z<|Ac<|Az Z Z ?_;exact⟨o.mv.below,by rw[e]⟩
  have c9:DM s x=true:=b6.1.1;have k8:=(CW c9).2.2.2.2.1;have h4:x.id<n:=oo;have h5:∀y,wb L i=some y→y<x.id:=fun y hy↦by
   rcases zX i with C|C
   ·subst C;cases hy
   have a7:=b6.2;rw[aa (show i-1<L.length by omega),Aal (show(0:Int)<(i:Int) by omega)] at a7;rw[e0 C] at hy;injection hy with hy;simp at a7;omega
  refine Aj<|Ab<|cg<|vq (Aa Ck Z)<|vq (Ah BV Z a6.mv.Ap Z)<|vq (BI CQ) ?_;refine zm Z<|Ac<|Ai<|WC.loop (σ:=Nat×List (Int×Int)) (fun f=>[(2,P1 b2),(3,P1 b3),(5, .map (some b1)),(12,vS),(13,I L.length),(14,I i),(7,P1 b7),(47,u),(48,I x.place.length),(49,I f.1)]) (fun f w'=>(f.1≤x.place.length∧OU f.2 (x.place.drop f.1)=OU T x.place∧f.2=(x.place.take f.1).reverse++T∧∀p∈f.2,rI p)∧∃c',AQ w c' w'∧Bi ES c' w' [0] vS L∧Ar c' w' 102 b2 (DO s) 31∧Ar c' w' 103 b3 [vS,vT,vG,I n] 105∧Bi Bg c' w' [0] u x.place∧NM dD c' w' 77 b1 f.2) (fun f=>x.place.length-f.1) (0,T) Aq ⟨⟨Nat.zero_le _,Z,Z,e1⟩,_,o.mv,t.mv,J.mv,r.mv,U.mv,l.mv⟩ ?_;clear o t J r U l e2;rintro⟨j,c4⟩ o0 ⟨⟨h3,a1,b4,b0⟩,e4,o,t,J,r,U,l⟩;dsimp only at h3 a1 b4 b0 l;refine Ab<|cg<|vq (AE Z Z)<|Ac<|Ab<|AS Z (fun h2=>?_) fun h2=>?_
  ·have c0:j<x.place.length:=oo;obtain⟨q,c3⟩:∃q,q=x.place[j]:=⟨_,Z⟩;obtain⟨c7,b8⟩:=BP U c0 dd;rw[←c3] at c7 b8;rw[zO c0,←c3,OU] at a1;refine Aj<|Ab<|Ai<|Ab<|cg<|vq (ER CQ) ?_;refine vq (Dg DK Z c7.CY Z)<|Db e4 109 Mo fun n7 j5 j9 k6 a8=>?_;refine WR.AI (Am DK Z Z a8 Z Z AG) ?_;rintro _ n8 ⟨a8,k7⟩;refine Ac<|Ab<|Ab<|cg<|vq (Aa CE Z)<|vq (Ah Au Z a8.Ap Z)<|vq (Cu Z Z)<|zm Z ?_;apply WR.CJ true 3 _ BT
   ·intro l2;refine wo<|zm rfl<|wo<|vq (AD DK rfl a8.Ap rfl)<|wo<|vq (dC jF rfl l.mv b0 rfl b8) ?_;exact Dm 3
   refine Ac<|AS Z (fun b5=>?_) fun b5=>?_
   ·have e:Gn s n none [] L=false:=by
     rw[←R];refine Tu (.inr (.inr (.inr ?_)));rw[←a1,yP];exact⟨by simpa using b5.1,by simpa using b5.2⟩
    refine Ab<|cg<|za Z<|Ac<|Az Z Z ?_;exact⟨o.mv.below,by rw[e]⟩
   rw[if_neg (by rintro⟨e5,g2⟩;simp[e5,g2] at b5)] at a1;refine Aj<|cg<|zm Z<|vq (AD DK Z a8.Ap Z)<|WR.AI ((jE jF Z l.mv b0 Z b8)) ?_;rintro _ n1 ⟨j6,k2,l⟩;refine Ac<|cg<|vq (AH Z Z Ad Ad)<|zm Z<|Ac ?_;refine⟨(j+1,q::c4),Aq,⟨⟨by dsimp only;omega,a1,?_,fun p hp↦?_⟩,_,o.mv,t.mv,J.mv,r.mv,U.mv,l⟩,by show x.place.length-(j+1)<x.place.length-j;omega⟩
   ·rw[b4,yG c0,List.reverse_append,←c3];rfl
   rcases zN.1 hp with rfl|hp
   ·exact b8
   exact b0 p hp
  have k0:j=x.place.length:=oo;rw[List.drop_of_length_le oo,OU] at a1;rw[List.take_of_length_le oo] at b4;rw[fF c9 h4 h5 a1.symm] at R;refine WC.exit Z<|cg<|vq (AH Z Z Ad Ad)<|zm Z<|Ac ?_;refine⟨(i+1,c4),Aq,⟨⟨by dsimp only;omega,?_,b0⟩,_,o,t,J,r,l⟩,by show L.length-(i+1)<L.length-i;omega⟩;rw[←R,b4,wb,List.getElem?_eq_getElem b9,←hx];rfl
 rw[Rx oo,Gn] at R;refine WC.exit Z<|Ab<|cg<|za Z<|Ac<|Az Z Z ?_;exact⟨o.below,by rw[←R]⟩
end Go.Proofs.K
namespace Silo
open Go Go.Eng Go.RowKit
theorem Pn{α:Type}{enc:α→List Value}{n:Nat}(g:∀x,(enc x).length=n){l:List α}{k f:Nat}{x:α}{u:Value}(hk:k<l.length)(j:f<n)(hx:enc x=(enc l[k]).set f u):(l.flatMap enc).set (k*n+f) u=(l.set k x).flatMap enc:=by
 have hl:l=l.take k++l[k]::l.drop (k+1):=by rw[←zO hk,zM]
 have i:((l.take k).flatMap enc).length=k*n:=by rw[CM g,ly,zQ oo]
 conv=>lhs;rw[hl]
 rw[Aa0 (l:=l),yP hk,zP,zD,zP,zD,Abn (h:=by omega),i,Aap,Acy (h:=by rw[g];exact j),hx]
theorem Zn{v:Value}{l:List (Int×Int)}(h:Rd Bg w v l):∀p∈l,Go.Eng.Int64 p.1∧Go.Eng.Int64 p.2:=fun p hp=>by
 obtain⟨k,hk⟩:=Aae hp;obtain⟨cs,_,f⟩:=h.elem k p hk;exact f.2
theorem RQ{v:Value}{l:List Int}(h:Rd Bw w v l):∀p∈l,Go.Eng.Int64 p:=fun p hp=>by
 obtain⟨k,hk⟩:=Aae hp;obtain⟨cs,_,f⟩:=h.elem k p hk;exact f.2
structure qh (c:Nat→Nat) (w:World) (J:List Nat) (Y:List Fx):Prop where
 el:∀y∈Y,Bi Bg c w J y.2.v y.1.place
structure qi (c:Nat→Nat) (w:World) (J:List Nat) (Y:List WZ):Prop where
 el:∀y∈Y,Bi Bw c w J y.2.v y.1.list
theorem qh.mv{c c':Nat→Nat}{w w':World}{J I:List Nat}{Y:List Fx}(h:qh c w J Y)(m:Mv c w c' w' I:=by exact Go.Eng.Jb)(hi:Bd J I=true:=by rfl):qh c' w' J Y:=⟨fun y hy=>(h.el y hy).mv m hi⟩
theorem qi.mv{c c':Nat→Nat}{w w':World}{J I:List Nat}{Y:List WZ}(h:qi c w J Y)(m:Mv c w c' w' I:=by exact Go.Eng.Jb)(hi:Bd J I=true:=by rfl):qi c' w' J Y:=⟨fun y hy=>(h.el y hy).mv m hi⟩
structure Tv (c:Nat→Nat) (w:World) (vS vT vG:Value) (b:Bk) (YS:List Fx) (YT:List WZ):Prop where
 s:Ao c w 121 144 4 vS YS.length (YS.flatMap BQ)
 sl:YS.map (·.1)=b.stripes
 sp:qh c w [122] YS
 si:∀y∈YS,Go.Eng.Int64 y.1.id∧Go.Eng.Int64 y.1.len∧Go.Eng.Int64 y.1.gen
 t:Ao c w 123 187 4 vT YT.length (YT.flatMap DP)
 tl:YT.map (·.1)=b.things
 tp:qi c w [124] YT
 ti:∀y∈YT,Go.Eng.Int64 y.1.len∧y.1.Ak.length≤140737488355328
 g:Ao c w 125 115 2 vG b.tags.length (b.tags.flatMap Is)
theorem Tv.mv{c c':Nat→Nat}{w w':World}{I:List Nat}{vS vT vG:Value}{b:Bk}{YS:List Fx}{YT:List WZ}(h:Tv c w vS vT vG b YS YT)(m:Mv c w c' w' I:=by exact Go.Eng.Jb)(hi:Bd [121,122,123,124,125] I=true:=by rfl):Tv c' w' vS vT vG b YS YT:=by
 have hk:∀i∈[121,122,123,124,125],AA I i=false:=fun i h=>Bo hi h;exact⟨h.s.mv m (hk 121 ss),h.sl,h.sp.mv m (BC hi ss),h.si,h.t.mv m (hk 123 ss),h.tl,h.tp.mv m (BC hi ss),h.ti,h.g.mv m (hk 125 ss)⟩
theorem Vo{α:Type}{l:List α}{k:Nat}{x:α}(hk:k<l.length):(l.set k x).take (k+1)=l.take k++[x]∧(l.set k x).drop (k+1)=l.drop (k+1):=by
 rw[Aa0,yP hk];have f:(l.take k).length=k:=by rw[ly];omega
 refine⟨?_,?_⟩
 ·rw[Af1,f,Aap,yM oo];rfl
 rw[List.drop_append,f,Aap,Rx oo];rfl
end Silo
namespace Go.Eng
open Go Go.RowKit Silo
section
variable {c0 c:Nat→Nat} {w0 w:World} {J:List Nat}
theorem Ao.lD{i:Nat}{e:TypeId}{k n m:Nat}{v:Value}{xs:List Value}(h:Ao c w i e k v n xs)(f:n=m):Ao c w i e k v m xs:=by subst f;exact h
theorem Tw(h:AZ c0 w0 J c w){i k:Nat}(hi:(Nat.blt 0 i&& !AA J i)=true)(hk:c k=i):back c0 w0 c k=i:=by
 rw[kg,zV] at hi;have g:0<i:=yV hi.1;unfold back;split
 ·rename_i f;rw[h.Bf k f] at hk;unfold AT at hk;split at hk
  ·rename_i hh;rw[hk,hi.2] at hh;cases hh
  ·omega
 ·exact hk
theorem Ao.Ej{i:Nat}{e:TypeId}{size n:Nat}{v:Value}{xs:List Value}(f:Ao c w i e size v n xs)(h:AZ c0 w0 J c w)(hi:(Nat.blt 0 i&& !AA J i)=true:=by rfl):Ao (back c0 w0 c) w i e size v n xs:=⟨f.own,fun k hk=>Tw h hi (f.Bf k hk)⟩
theorem Ar.Ej{i b:Nat}{cs:List Value}{t:TypeId}(f:Ar c w i b cs t)(h:AZ c0 w0 J c w)(hi:(Nat.blt 0 i&& !AA J i)=true:=by rfl):Ar (back c0 w0 c) w i b cs t:=⟨f.Ap,Tw h hi f.Bf⟩
theorem Fq.Ej{Φ:World→Prop}{i:Nat}(f:Fq Φ c w [i])(h:AZ c0 w0 J c w)(hi:(Nat.blt 0 i&& !AA J i)=true:=by rfl):Fq Φ (back c0 w0 c) w [i]:=Hm.mono f fun k _ hk=>by
 show AA [i] (back c0 w0 c k)=true
 rw[Tw h hi (Lp.1 hk)];simp[AA]
end
end Go.Eng
namespace Go.Proofs.K
open Go Go.Eng Go.RowKit Silo TryzT
theorem nA{vS vT vG:Value}{b:Bk}(h1:Rd ES w vS b.stripes)(h0:Rd IU w vT b.things)(h2:Rd RJ w vG b.tags)(n0:Dc vG)(hl:b.stripes.length≤1000∧b.things.length≤1000∧b.tags.length≤1000)(n1:∀x∈b.stripes,x.place.length≤1000)(l7:∀x∈b.things,x.list.length≤100000):
 Calls QP 183 #[.agg #[vS,vT,vG,I b.next]] w (AP fun v w'=>∃c',Mv c w c' w' []∧∃k2 k3 k1 YS YT,v= .agg #[k2,k3,k1,I b.next]∧Tv c' w' k2 k3 k1 b YS YT):=by
 have p9:=h1.Av;have q0:=h0.Av;have q1:=h2.Av;have hJ:=AZ.start c w [];have e2:Bi ES (AT c []) w [0] vS b.stripes:=Rd.Cl h1 (fun k hk=>rfl);have e3:Bi IU (AT c []) w [0] vT b.things:=Rd.Cl h0 (fun k hk=>rfl);have h7:Bi RJ (AT c []) w [0] vG b.tags:=Rd.Cl h2 (fun k hk=>rfl);clear h1 h0 h2;generalize AT c []=c0 at hJ e2 e3 h7;obtain⟨YS,e8,j6,h4⟩:=Zi e2;obtain⟨YT,e9,j7,h5⟩:=jD e3;have j8:qh c0 w [0] YS:=⟨fun y hy=>(h4 y hy).1⟩;have U:qi c0 w [0] YT:=⟨fun y hy=>(h5 y hy).1⟩;have l4:=fun y hy=>(h4 y hy).2;have l5:=fun y hy=>(h5 y hy).2;clear h4 h5;have n7:YS.length=b.stripes.length:=by rw[←e8,yF]
 have n8:YT.length=b.things.length:=by rw[←e9,yF]
 refine enter (n:=56) (res:=#[.cell 2 105]) Tryz.func183 Z Z Z Z<|Ab<|cg<|Dz c0 101 fun w1 b1 c1 o8 r=>?_;refine Db c1 102 cE fun w2 b2 c2 p2 C=>Ac<|Ab<|AY c2 [] [0,1,2,0,1,2,0,1,2,0,3,0,3,0,3] [0,1,3,4,6,7,2,9,5,8,10,11,12,13,14] fun r7 p3 p=>?_;have c9:=r;have l1:=C;refine vd Z (fun _=>Aa CN Z)<|vc Z p.kp (c9.mv.kb EC Z Z)<|vd Z (fun _=>Aa EK Z)<|vc Z p.kp (c9.mv.kb HA Z Z)<|vd Z (fun _=>Aa Sh Z)<|vc Z p.kp (c9.mv.kb Uq Z Z)<|WD.AW Z Z Z (Al c2 121 (Ay.call uB Z (fD e2.mv.now e8 (fun k hk↦(j6.mv.el k hk).CY) oo))) Z ?_;rintro b9 r8 ⟨k4,l0,n4,f⟩;refine p.AX l0 fun p=>?_;replace f:=f.Cl n4;refine vd Z (fun _=>Aa CN Z)<|WD.AW Z Z Z (Al k4 123 (Ay.call uC Z (fE e3.mv.now e9 (fun k hk↦(j7.mv.el k hk).CY) oo))) Z ?_;rintro v10 r9 ⟨k5,j3,n5,o⟩;refine p.AX j3 fun p=>?_;replace o:=o.Cl n5;refine WD.AW Z Z Z (Al k5 125 (Ay.call sI Z (UJ h7.mv.now n0 oo))) Z ?_;rintro b8 s0 ⟨o5,h3,n6,t⟩;refine p.AX h3 fun p=>?_;replace t:=t.Cl n6;replace f:=(f.mv j3).mv h3;replace o:=o.mv h3;have q2:=f.Av;have q3:=f.Aw;have q4:=o.Av;have q5:=o.Aw;have q6:=t.Av;have q7:=t.Aw;refine WD.wild Z Z Z (AJ EC Z Z ra ra r.mv Z) ?_;rintro _ s3 ⟨r,p4⟩;refine vd Z (fun _=>Aa EK Z)<|WD.wild Z Z Z (AJ HA Z Z ra ra r Z) ?_;rintro _ s4 ⟨r,p5⟩;refine vd Z (fun _=>Aa Sh Z)<|WD.wild Z Z Z (AJ Uq Z Z ra ra r Z) ?_;rintro _ s5 ⟨r,p6⟩;refine WD.nil ?_;clear c9 l1;clear p;refine Ab<|Ab<|cg<|vq (Aa CN Z)<|vq (Ah EC Z r.Ap Z)<|vq (BI Cg) ?_;refine zm Z<|Ac<|Ai ?_;refine WC.loop (σ:=Nat×List Fx) (fun l=>[(1,P1 b1),(2,P1 b2),(19,I YS.length),(20,I l.1)]) (fun l w'=>(l.1≤YS.length∧l.2.length=YS.length∧l.2.map (·.1)=b.stripes∧(∀y∈l.2,Go.Eng.Int64 y.1.id∧Go.Eng.Int64 y.1.len∧Go.Eng.Int64 y.1.gen))∧∃c',AZ c w [] c' w'∧Ar c' w' 101 b1 [b9,v10,b8,I b.next] 105∧Ar c' w' 102 b2 [.slice none 0 0, .slice none 0 0, .slice none 0 0,I 0] 105∧Ao c' w' 121 144 4 b9 YS.length (l.2.flatMap BQ)∧Ao c' w' 123 187 4 v10 YT.length (YT.flatMap DP)∧Ao c' w' 125 115 2 b8 b.tags.length (b.tags.flatMap Is)∧qh c' w' [122] (l.2.take l.1)∧qh c' w' [0] (l.2.drop l.1)∧qi c' w' [0] YT) (fun l=>YS.length-l.1) (0,YS) (by rw[n7];exact Aq) ⟨⟨Nat.zero_le _,Z,e8,l4⟩,_,hJ.mv,r,C.mv,f.mv,o.mv,t.mv,⟨fun y hy=>by simp at hy⟩,j8.mv,U.mv⟩ ?_;clear hJ r C f o t j8 U e2 e3 h7 j6 j7;rintro⟨i,Y⟩ n9 ⟨⟨hi,b3,c6,c5⟩,e6,hJ,r,C,f,o,t,a1,e0,U⟩;dsimp only at hi b3 c6 c5 f a1 e0;refine Ab<|cg<|vq (AE Z Z)<|Ac<|Ab<|AS Z (fun l2=>?_) fun l2=>?_
 ·have a6:i<Y.length:=oo;rw[←b3] at f;obtain⟨y,hy⟩:∃y,y=Y[i]:=⟨_,Z⟩;have j9:y∈Y:=by rw[hy];exact oy a6
  have p7:=n1 y.1 (by rw[←c6];exact List.mem_map_of_mem j9);have b5:Bi Bg e6 n9 [0] y.2.v y.1.place:=e0.el y (by rw[hy,zO a6];exact Aag);obtain⟨g,cp,rfl,l9,l8⟩:=f.BW oo;have j4:=f.elem DD dd a6;rw[←hy] at j4;have h6:=Zn b5.now;refine Aj<|Ab<|Ai<|Ab<|cg<|zm Z<|za Z<|Ac<|AY e6 [] [0,1,0,0,1,0,0,0,1,2,0,0,3] [0,1,2,3,4,5,6,7,8,9,10,11,12] fun r0 o9 p=>?_;refine vd Z (fun _=>Aa CN Z)<|vc Z p.kp (r.mv.kb EC Z Z)<|AK Z Z<|vd Z (fun _=>Aa CN Z)<|vc Z p.kp (r.mv.kb EC Z Z)<|AK Z Z<|vd Z (fun _=>Bj Cg f.mv Z Z oo oo)<|vd Z (fun _=>AR Ck Z)<|vc Z p.kp (j4.mv.kf BV Z Z) ?_;refine WD.AW Z Z Z (Al e6 122 (Ay.call QH Z (FN b5.mv.now oo))) Z ?_;rintro j1 r1 ⟨o1,k6,n2,J⟩;refine p.AX k6 fun p=>?_;replace J:=J.Cl n2;have b7:=J.Av;have h8:=J.Aw;have a8:Bi Bg _ _ [122] j1 y.1.place:=J.Ez oo h6;refine vd Z (fun _=>Bj Cg f.mv Z Z oo oo) ?_
  first|refine vd Z (fun _=>Aa Ck Z) ?_|refine vd Z (fun _=>AR Ck Z) ?_
  refine WD.wild Z Z Z ((Gt (j:=i*4+3) (x:= .tmp 34) (y:= .tmp 32) (u:=j1) BV f.mv Z oo (by rw[show(⟨g,i*4+3,none⟩:Addr)=(Bh (.slice (some ⟨g,0,none⟩) Y.length cp) 4 (i:Int).toNat).add 3 by simp[Bh,add_lit]];rfl) Z h8 b7)) ?_;rintro _ r2 ⟨o2,k7,f⟩;obtain⟨c3,e4⟩:∃c3:Fx,c3=(y.1,⟨j1,b7⟩):=⟨_,Z⟩;rw[Pn DD (x:=c3) a6 dd (by rw[e4,←hy];rfl)] at f;obtain⟨h9,j0⟩:=Vo (x:=c3) a6;refine WD.nil ?_;clear p;refine cg<|vq (AH Z Z Ad Ad)<|zm Z<|Ac ?_;refine⟨(i+1,Y.set i c3),Aq,⟨⟨by dsimp only;omega,by dsimp only;rw[List.length_set];exact b3,?_,fun z R↦?_⟩,_,hJ.mv,r.mv,C.mv,f.lD b3,o.mv,t.mv,?_,?_,U.mv⟩,by show YS.length-(i+1)<YS.length-i;omega⟩
  ·rw[←c6];exact CX _ (aa a6) (by rw[e4,←hy])
  ·rcases Aak R with h|h
   ·exact c5 z h
   rw[h,e4];exact c5 y j9
  ·dsimp only;rw[h9];refine⟨fun z R↦?_⟩;rcases List.mem_append.1 R with h|h
   ·exact a1.mv.el z h
   replace a8:=a8.mv k7;rw[yN.1 h,e4];exact a8
  dsimp only;rw[j0];exact⟨fun z R↦e0.mv.el z (by rw[List.drop_eq_getElem_cons a6];exact List.mem_cons_of_mem _ R)⟩
 have o6:i=YS.length:=oo;rw[List.take_of_length_le oo] at a1;replace f:=f.lD b3.symm;have q8:=f.Av;have q9:=f.Aw;refine WC.exit Z<|Ab<|Ab<|cg<|vq (Aa EK Z)<|vq (Ah HA Z r.Ap Z)<|vq (BI Dt) ?_;refine zm Z<|Ac<|Ai ?_;refine WC.loop (σ:=Nat×List WZ) (fun l=>[(1,P1 b1),(2,P1 b2),(38,I YT.length),(39,I l.1)]) (fun l w'=>(l.1≤YT.length∧l.2.length=YT.length∧l.2.map (·.1)=b.things∧(∀y∈l.2,Go.Eng.Int64 y.1.len∧y.1.Ak.length≤140737488355328))∧∃c',AZ c w [] c' w'∧Ar c' w' 101 b1 [b9,v10,b8,I b.next] 105∧Ar c' w' 102 b2 [.slice none 0 0, .slice none 0 0, .slice none 0 0,I 0] 105∧Ao c' w' 121 144 4 b9 Y.length (Y.flatMap BQ)∧Ao c' w' 123 187 4 v10 YT.length (l.2.flatMap DP)∧Ao c' w' 125 115 2 b8 b.tags.length (b.tags.flatMap Is)∧qh c' w' [122] Y∧qi c' w' [124] (l.2.take l.1)∧qi c' w' [0] (l.2.drop l.1)) (fun l=>YT.length-l.1) (0,YT) (by first|exact Aq|(rw[n8];exact Aq)) ⟨⟨Nat.zero_le _,Z,e9,l5⟩,_,hJ,r,C,f,o,t,a1,⟨fun y hy=>by simp at hy⟩,U⟩ ?_;clear hJ r C f o t a1 U e0;rintro⟨j,b0⟩ o0 ⟨⟨l6,b4,c8,c7⟩,e7,hJ,r,C,f,o,t,a1,e1,U⟩;dsimp only at l6 b4 c8 c7 o e1 U;refine Ab<|cg<|vq (AE Z Z)<|Ac<|Ab<|AS Z (fun l3=>?_) fun l3=>?_
 ·have a7:j<b0.length:=oo;rw[←b4] at o;obtain⟨z,R⟩:∃z,z=b0[j]:=⟨_,Z⟩;have k0:z∈b0:=by rw[R];exact oy a7
  have p8:=l7 z.1 (by rw[←c8];exact List.mem_map_of_mem k0);have b5:Bi Bw e7 o0 [0] z.2.v z.1.list:=U.el z (by rw[R,zO a7];exact Aag);obtain⟨g,cp,rfl,l9,l8⟩:=o.BW oo;have j5:=o.elem EG dd a7;rw[←R] at j5;have h6:=RQ b5.now;refine Aj<|Ab<|Ai<|Ab<|cg<|zm Z<|za Z<|Ac<|AY e7 [] [0,1,0,0,1,0,0,0,1,2,0,0,3] [0,1,2,3,4,5,6,7,8,9,10,11,12] fun r3 p0 p=>?_;refine vd Z (fun _=>Aa EK Z)<|vc Z p.kp (r.mv.kb HA Z Z)<|AK Z Z<|vd Z (fun _=>Aa EK Z)<|vc Z p.kp (r.mv.kb HA Z Z)<|AK Z Z<|vd Z (fun _=>Bj Dt o.mv Z Z oo oo)<|vd Z (fun _=>AR IL Z)<|vc Z p.kp (j5.mv.kf BL Z Z) ?_;refine WD.AW Z Z Z (Al e7 124 (Ay.call Uo Z (HJ b5.mv.now oo))) Z ?_;rintro j2 r4 ⟨o3,k8,n3,J⟩;refine p.AX k8 fun p=>?_;replace J:=J.Cl n3;have b7:=J.Av;have h8:=J.Aw;have a8:Bi Bw _ _ [124] j2 z.1.list:=J.Ez oo h6;refine vd Z (fun _=>Bj Dt o.mv Z Z oo oo) ?_
  first|refine vd Z (fun _=>Aa IL Z) ?_|refine vd Z (fun _=>AR IL Z) ?_
  refine WD.wild Z Z Z ((Gt (j:=j*4+3) (x:= .tmp 53) (y:= .tmp 51) (u:=j2) BL o.mv Z oo (by rw[show(⟨g,j*4+3,none⟩:Addr)=(Bh (.slice (some ⟨g,0,none⟩) b0.length cp) 4 (j:Int).toNat).add 3 by simp[Bh,add_lit]];rfl) Z h8 b7)) ?_;rintro _ r5 ⟨o4,k9,o⟩;obtain⟨c4,e5⟩:∃c4:WZ,c4=(z.1,⟨j2,b7⟩):=⟨_,Z⟩;rw[Pn EG (x:=c4) a7 dd (by rw[e5,←R];rfl)] at o;obtain⟨h9,j0⟩:=Vo (x:=c4) a7;refine WD.nil ?_;clear p;refine cg<|vq (AH Z Z Ad Ad)<|zm Z<|Ac ?_;refine⟨(j+1,b0.set j c4),Aq,⟨⟨by dsimp only;omega,by dsimp only;rw[List.length_set];exact b4,?_,fun q b6↦?_⟩,_,hJ.mv,r.mv,C.mv,f.mv,o.lD b4,t.mv,a1.mv,?_,?_⟩,by show YT.length-(j+1)<YT.length-j;omega⟩
  ·rw[←c8];exact CX _ (aa a7) (by rw[e5,←R])
  ·rcases Aak b6 with h|h
   ·exact c7 q h
   rw[h,e5];exact c7 z k0
  ·dsimp only;rw[h9];refine⟨fun q b6↦?_⟩;rcases List.mem_append.1 b6 with h|h
   ·exact e1.mv.el q h
   replace a8:=a8.mv k9;rw[yN.1 h,e5];exact a8
  dsimp only;rw[j0];exact⟨fun q b6↦U.mv.el q (by rw[List.drop_eq_getElem_cons a7];exact List.mem_cons_of_mem _ b6)⟩
 have o7:j=YT.length:=oo;rw[yM oo] at e1;replace o:=o.lD b4.symm;refine WC.exit Z<|Ab<|cg<|vq (AD EB Z r.Ap Z)<|WR.AI (Am EB Z Z C Z Z AG) ?_;rintro _ r6 ⟨C,p1⟩;refine Ac<|Fz Z (Br EB Z C.Ap Z)<|⟨_,hJ.mv.out,b9,v10,b8,Y,b0,Z,f.mv.Ej hJ.mv,c6,⟨fun y hy↦(a1.mv.el y hy).Ej hJ.mv⟩,c5,o.mv.Ej hJ.mv,c8,⟨fun y hy↦(e1.mv.el y hy).Ej hJ.mv⟩,c7,t.mv.Ej hJ.mv⟩
theorem Ty{B:Nat}{a b c d vl vs:Value}{r:Rec}(h:Il.rd B w [a,b,c,d,vl,vs] r):Dx Bw B w vl r.list:=by
 obtain⟨i,l,f,g,j,_⟩:=h;simp only[Abe] at f;have:vl=i:=f.2.2.2.2.1;subst this;exact g
theorem Qq{B:Nat}{a b c d vl vs:Value}{r:Rec}(h:Il.rd B w [a,b,c,d,vl,vs] r):Dx Bg B w vs r.CF:=by
 obtain⟨l,i,f,j,g,_⟩:=h;simp only[Abe] at f;have:vs=i:=f.2.2.2.2.2.1;subst this;exact g
theorem dE{v:Value}{L:List Rec}(h:Rd Il w v L)(j8:L.length≤100000)(hl:∀r∈L,r.list.length≤1048576∧r.CF.length≤1048576):Calls QP 234 #[v] w (AP fun u w'=>Below w.heap.size w w'∧∃cs,(∀y∈cs,y.oneCell'=true)∧BJ w' w.heap.size 127 6 u L.length cs):=by
 have k5:=h.small;obtain⟨c,l,e9⟩:=AQ.start w;clear e9;have t:=l.rd h;refine enter (n:=25) (res:=#[.tmp 2]) Tryz.func234 Z Z Z Z<|Ab<|cg<|za Z<|Ac<|Ab<|Ab ?_;have j:=Ao.nil c w 8 127 6;refine cg<|zm Z<|vq (BI Hp) ?_;refine zm Z<|Ac<|Ai<|WC.loop (σ:=Nat×Value) (fun J=>[(2,J.2),(5,v),(6,I L.length),(7,I J.1)]) (fun J w'=>J.1≤L.length∧∃c' cs,AQ w c' w'∧Bi Il c' w' [0] v L∧Ao c' w' 8 127 6 J.2 J.1 cs∧∀y∈cs,y.oneCell'=true) (fun J=>L.length-J.1) (0,_) Aq ⟨Nat.zero_le _,_,_,l,t,j,fun y hy=>by cases hy⟩ ?_;clear l t j;rintro⟨i,c3⟩ n8 ⟨hi,c8,xs,l,t,j,b1⟩;dsimp only at hi j;have h9:=j.Av;have j0:=j.Aw;refine Ab<|cg<|vq (AE Z Z)<|Ac<|Ab<|AS Z (fun e8=>?_) fun e8=>?_
 ·have b7:i<L.length:=oo;obtain⟨cs,b6,C,h0⟩:=aW t b7;have a1:=hl _ (oy b7);obtain⟨l1,vs,h1,b8,b9,_⟩:=C.now;have k6:=b8.Av;have k7:=b9.Av;have k8:=b8.Aw;have k9:=b9.Aw;subst h1;clear h0;refine Aj<|Ab<|Ai<|Ab<|cg<|vq (ER Hp) ?_;refine vq (Dg Fs Z b6.CY Z)<|Db c8 104 RD fun w1 b4 c1 j9 f=>?_;refine WR.AI (Am Fs Z Z f Z Z AG) ?_;rintro _ w2 ⟨f,k2⟩;refine Ac<|Ab<|WC.mono (N:=(fun e w'=>∃(c':Nat→Nat) (a8 b0:Value),Sub [(4000000, .tuple #[]),(2,c3),(4,P1 b4),(5,v),(6,I L.length),(7,I i)] e∧AQ w c' w'∧Bi Il c' w' [0] v L∧Ao c' w' 8 127 6 c3 i xs∧Ar c' w' 104 b4 [I L[i].kind,I L[i].id,St L[i].name,St L[i].Ak,a8,b0] 127∧a8.oneCell'=true∧a8.cells=#[a8]∧b0.oneCell'=true∧b0.cells=#[b0])) ?_ ?_
  ·refine Rm c1 [104] [0,2,2,0,2,2,0,2,0,3] (.quiet 0 (.quiet 3 (.two 1 (.two 2 (.one 4 (.quiet 6 (.one 5 (.one 7 (.quiet 8 (.one 9 .nil)))))) 4 (.one 2 (.quiet 6 (.one 5 (.one 7 (.quiet 8 (.one 9 .nil))))))) 4 (.one 1 (.one 2 (.quiet 6 (.one 5 (.one 7 (.quiet 8 (.one 9 .nil)))))))))) fun n0 k3 g=>?_;refine WT.val Z Z Z (fun _=>Aa DG Z) Z<|WT.val Z Z Z (fun _=>Aa GY Z) Z<|WT.two ?_ ?_
   ·refine WS.AW Z Z Z (Ay.val (Ah BL Z f.mv.Ap Z)) Z ?_;rintro _ _ ⟨rfl,rfl⟩;refine⟨id,?_⟩;refine WT.two ?_ ?_
    ·refine WS.AW Z Z Z (Al c1 12 (Ay.call Uo Z (HJ (Ty C.mv.now) a1.1))) Z ?_;rintro c0 n1 ⟨c5,e3,h5,o⟩;refine g.AX e3 fun g=>?_;replace o:=o.Cl h5;have R:=o.Av;have a6:=o.Aw;refine WT.one<|WS.AW Z Z Z (Ay.val (Ah BV Z f.mv.Ap Z)) Z ?_;rintro _ _ ⟨rfl,rfl⟩;refine⟨id,?_⟩;refine WT.val Z Z Z (fun _=>Aa DG Z) Z<|WT.one<|WS.AW Z Z Z (Al c5 13 (Ay.call QH Z (FN (Qq C.mv.now) a1.2))) Z ?_;rintro c2 n2 ⟨j5,e4,h6,p⟩;refine g.AX e4 fun g=>?_;replace p:=p.Cl h6;have U:=p.Av;have a7:=p.Aw;refine WT.one<|WS.AI Z Z Z (AJ BL Z Z ra ra f.mv Z) ?_;rintro _ n3 ⟨f,e5⟩;refine g.AX e5 fun g=>WT.val Z Z Z (fun _=>Aa GY Z) Z<|WT.one<|WS.wild Z Z Z (AJ BV Z Z ra ra f Z) ?_;rintro _ n4 ⟨f,k4⟩;refine WT.nil ?_;exact⟨_,_,_,Aq,l.mv,t.mv,j.mv,f,R,a6,U,a7⟩
    refine WS.AW Z Z Z (Ay.val (Ah BV Z f.mv.Ap Z)) Z ?_;rintro _ _ ⟨rfl,rfl⟩;refine⟨id,?_⟩;refine WT.one<|WS.AW Z Z Z (Al c1 12 (Ay.call Uo Z (HJ (Ty C.mv.now) a1.1))) Z ?_;rintro c0 n5 ⟨c6,e6,h7,o⟩;refine g.AX e6 fun g=>?_;replace o:=o.Cl h7;have R:=o.Av;have a6:=o.Aw;refine WT.val Z Z Z (fun _=>Aa DG Z) Z<|WT.one<|WS.AW Z Z Z (Al c6 13 (Ay.call QH Z (FN (Qq C.mv.now) a1.2))) Z ?_;rintro c2 n6 ⟨j6,e7,h8,p⟩;refine g.AX e7 fun g=>?_;replace p:=p.Cl h8;have U:=p.Av;have a7:=p.Aw;refine WT.one<|WS.AI Z Z Z (AJ BL Z Z ra ra f.mv Z) ?_;rintro _ l2 ⟨f,c9⟩;refine g.AX c9 fun g=>WT.val Z Z Z (fun _=>Aa GY Z) Z<|WT.one<|WS.wild Z Z Z (AJ BV Z Z ra ra f Z) ?_;rintro _ l3 ⟨f,k0⟩;refine WT.nil ?_;exact⟨_,_,_,Aq,l.mv,t.mv,j.mv,f,R,a6,U,a7⟩
   refine WS.AW Z Z Z (Ay.val (Ah BV Z f.mv.Ap Z)) Z ?_;rintro _ _ ⟨rfl,rfl⟩;refine⟨id,?_⟩;refine WT.one<|WS.AW Z Z Z (Ay.val (Ah BL Z f.mv.Ap Z)) Z ?_;rintro _ _ ⟨rfl,rfl⟩;refine⟨id,?_⟩;refine WT.one<|WS.AW Z Z Z (Al c1 12 (Ay.call Uo Z (HJ (Ty C.mv.now) a1.1))) Z ?_;rintro c0 l4 ⟨c4,e0,h3,o⟩;refine g.AX e0 fun g=>?_;replace o:=o.Cl h3;have R:=o.Av;have a6:=o.Aw;refine WT.val Z Z Z (fun _=>Aa DG Z) Z<|WT.one<|WS.AW Z Z Z (Al c4 13 (Ay.call QH Z (FN (Qq C.mv.now) a1.2))) Z ?_;rintro c2 l5 ⟨j2,e1,h4,p⟩;refine g.AX e1 fun g=>?_;replace p:=p.Cl h4;have U:=p.Av;have a7:=p.Aw;refine WT.one<|WS.AI Z Z Z (AJ BL Z Z ra ra f.mv Z) ?_;rintro _ l6 ⟨f,e2⟩;refine g.AX e2 fun g=>WT.val Z Z Z (fun _=>Aa GY Z) Z<|WT.one<|WS.wild Z Z Z (AJ BV Z Z ra ra f Z) ?_;rintro _ l7 ⟨f,k1⟩;refine WT.nil ?_;exact⟨_,_,_,Aq,l.mv,t.mv,j.mv,f,R,a6,U,a7⟩
  clear l t j f b6 C;rintro j7 n7 ⟨c7,a8,b0,h2,l,t,j,f,R,a6,U,a7⟩;refine WC.sub h2<|cg<|zm Z<|vq (AD Fs Z f.Ap Z)<|ve (Bb c7 121 Hp Z Z Z Z Z) ?_;rintro _ l8 ⟨j1,j3,rfl,b2,b5⟩;refine ve (AN Hp Z Z j.mv (Src.An Tryz.underlying159 b5.Ap.An Z AG) EY Fb) ?_;rintro l0 l9 ⟨j4,b3,j⟩;clear b5;have h9:=j.Av;have j0:=j.Aw;refine za Z<|Ac<|cg<|vq (AH Z Z Ad Ad)<|zm Z<|Ac ?_;replace l:=(l.mv b2).mv b3;replace t:=(t.mv b2).mv b3;exact⟨(i+1,_),Aq,⟨by dsimp only;omega,_,_,l,t,j,fun y hy↦by rcases List.mem_append.1 hy with h|h;exact b1 y h;simp at h;rcases h with rfl|rfl|rfl|rfl|rfl|rfl<;>first|rfl|exact R|exact U⟩,by show L.length-(i+1)<L.length-i;omega⟩
 have e:i=L.length:=oo;subst e;refine WC.exit Z<|Ab<|cg<|zm Z<|za Z<|Ac<|Az Z Z ?_;exact⟨l.below,_,b1,j.KN l dd⟩
theorem jG{p pa life:Nat}{j:JQ}{A:Cr}(o:DI c w p pa j)(f:By c w pa A)(hc:A.changes≤1000000000)(hl:life≤4000000000000000000):Calls QP 138 #[P1 p,I life] w (AP fun u w'=>Below w.heap.size w w'∧∃k:Nat,k≤max life 1000000000+1∧1≤k∧u=I k):=by
 obtain⟨C,R,cs,i,hh,r⟩:=o;have g:=Dh.start c w Ey;replace i:=i.Ca (J:=Ey) Z;replace f:=f.NF (K:=Ey);generalize AT c Ey=c0 at g i f;refine enter (n:=13) (res:=#[.tmp 4]) Tryz.func138 Z Z Z Z<|Ab<|cg<|za Z<|Ac<|Ab<|cg<|zm Z<|zm Z<|vq (Ae Z)<|vq (Aa IK Z)<|vq (Ah KY Z i.Ap Z)<|ve (Al c0 1 (Ay.call uh Z (YH f))) ?_;rintro v10 w1 ⟨c1,l,t,rfl⟩;refine vq (rE Z Z)<|vq (AH Z Z Ad Ad)<|za Z<|Ac ?_;refine Az Z Z ?_;replace g:=g.mv l;exact⟨g.below,max life A.changes+1,by omega,by omega,by congr 1;omega⟩
theorem _root_.Go.Eng.By.MP{c0 c:Nat→Nat}{w0 w:World}{J:List Nat}{p:Nat}{A:Cr}(f:By c w p A)(h:AZ c0 w0 J c w)(hi:Bt.all (AA J)=true:=by rfl):By (back c0 w0 c) w p A:=by
 obtain⟨v,X,a,b⟩:=f;have hk:∀i∈Bt,(Nat.blt 0 i&&AA J i)=true:=fun i hx=>by
  rw[zK.1 hi i hx,Bool.and_true];simp at hx;rcases hx with rfl|rfl|rfl|rfl<;>rfl
 exact⟨v,X,a.out h (hk 60 ss),b.live,b.own.out h (hk 61 ss),b.rows.out h (hk 62 ss),b.maps.out h (hk 63 ss)⟩
theorem fG{H:List Int}{d:Nat}(h:∀x∈H,x=0∨x=1)(hd:d<H.length):∀x∈H.set d (1-H[d]),x=0∨x=1:=fun x hx=>by
 rcases Aak hx with f|f
 ·exact h x f
 ·have:=h _ (oy hd);omega
theorem fH{p pa n m life:Nat}{j:JQ}{A:Cr}(R:DI c w p pa j)(i:By c w pa A)(b6:Rs n j)(e0:0<n∧n≤12)(c9:1024≤m∧m≤2048)(hp:FF n m A)(hc:A.changes≤900000000)(hl:life≤4000000000000000000):
 Calls QP 137 #[P1 p,I life, .slice none 0 0] w (AP fun u w'=>∃c',Mv c w c' w' Ey∧∃c5 l,By c' w' pa c5∧DI c' w' p pa l∧Hj n m 12312 A c5∧Rs n l∧l.used=24∧l.long=0∧l.num=0∧l.FD=1∧l.failed=j.failed∧u=I 0):=by
 have hJ:=AZ.start c w Ey;replace R:=R.Ca (K:=Ey);replace i:=i.NF (K:=Ey);generalize AT c Ey=c0 at hJ R i;refine enter (n:=82) (res:=#[.tmp 6]) Tryz.func137 Z Z Z Z<|Ab<|cg<|za Z<|Ac<|Ab<|cg<|zm Z<|zm Z<|ve (Al c0 1 (Ay.call hS Z (NL (L:=[]) (Dx.nil Il _ _) ss (by simp[EL])))) ?_;rintro k3 w1 ⟨c1,e5,j6,rfl⟩;refine ve (Al c1 1 (Ay.call pq Z (Vl (life:=life) (n:=0) (s:=MN 0 []) oo oo (by simp[MN])))) ?_;rintro k4 w2 ⟨c2,e6,j7,⟨t,ht,rfl⟩⟩;refine za Z<|Ac<|Ab<|Ab ?_;have ht:t.length=24:=ht;refine cg<|zm Z<|zm Z<|ve (Ay.call cq Z (RP (oth:=true) (at_:=1) (b:=t) R.mv i.mv b6 e0 c9 hp oo oo)) ?_;rintro k5 l5 ⟨e2,e7,⟨A1,i,b8,rfl⟩⟩;refine za Z<|Ac<|Ab<|cg<|zm Z<|vq (Bm Z Z)<|Ac<|CD Z (fun c6=>?_) fun c6=>?_
 ·exact absurd c6 dd
 refine Aj<|Ab<|Ab<|cg<|zm Z<|zm Z<|ve (Al e2 1 (Ay.call pr Z (Ze (life:=life) oo))) ?_;rintro k6 l6 ⟨h8,e8,j8,⟨h5,j5,rfl⟩⟩;refine ve (Ay.call cq Z (RP (oth:=true) (at_:=0) (b:=h5) R.mv i.mv b6 e0 c9 b8.pw (by have:=b8.Lj;omega) oo)) ?_;rintro k7 l7 ⟨h9,e9,⟨A2,i,e4,rfl⟩⟩;refine za Z<|Ac<|Ab<|cg<|zm Z<|vq (Bm Z Z)<|Ac<|CD Z (fun c7=>?_) fun c7=>?_
 ·exact absurd c7 dd
 refine Aj<|Ab<|Ab ?_;obtain⟨k8,e1,cs,f,hh,b5⟩:=(((((R.mv e5).mv e6).mv e7).mv e8).mv e9);have c8:=b6.half;have h1:=b6.each;have j9:=hh.Av;have k0:=hh.Aw;have h2:j.half.length=n:=c8;rw[c8] at hh;obtain⟨g,cp,rfl,j4,j3⟩:=hh.BW oo;refine cg<|zm Z<|vq (Ae Z)<|vq (Aa LA Z)<|vq (Ah BL Z f.Ap Z)<|vq (BI Bu) ?_;refine zm Z<|Ac<|Ai<|WC.loop (σ:=Nat×List Int) (fun o=>[(0,P1 p),(1,I life),(2, .slice none 0 0),(7,St t),(32,I n),(33,I o.1)]) (fun o w'=>(o.1≤n∧o.2.length=n∧∀x∈o.2,x=0∨x=1)∧∃c',AZ c w Ey c' w'∧By c' w' pa A2∧Ar c' w' 91 p (Ma pa (.slice (some ⟨g,0,none⟩) n cp) e1 j) 161∧Ao c' w' 92 3 1 (.slice (some ⟨g,0,none⟩) n cp) n (o.2.map I)∧Ao c' w' 93 127 6 e1 j.num cs) (fun o=>n-o.1) (0,j.half) Aq ⟨⟨Nat.zero_le _,h2,h1⟩,_,hJ.mv,i,f,hh,b5⟩ ?_;clear hJ i f hh b5;rintro⟨d,H⟩ n2 ⟨⟨hd,J,a6⟩,b7,hJ,i,f,hh,b5⟩;dsimp only at hd J a6 hh;refine Ab<|cg<|vq (AE Z Z)<|Ac<|Ab<|AS Z (fun h0=>?_) fun h0=>?_
 ·have c3:d<H.length:=oo;have c4:=hh;rw[←J] at c4;have b9:=c4.Za c3;clear c4;obtain⟨y,hy⟩:∃y,y=H[d]:=⟨_,Z⟩;have h4:=a6 _ (List.getElem_mem c3);rw[←hy] at b9 h4;rw[J] at b9;refine Aj<|Ab<|Ai<|Ab<|cg<|zm Z<|za Z<|Ac<|AY b7 [] [0,0,0,1,0,0,0,0,1,0,0,1,0,0,3] [0,1,2,3,4,5,6,7,8,9,10,11,12,13,14] fun l8 j1 C=>?_;refine AK Z Z<|vd Z (fun _=>Ae Z)<|vd Z (fun _=>Aa LA Z)<|vc Z C.kp (f.mv.kb BL Z Z)<|AK Z Z<|AK Z Z<|vd Z (fun _=>Ae Z)<|vd Z (fun _=>Aa LA Z)<|vc Z C.kp (f.mv.kb BL Z Z)<|AK Z Z<|vd Z (fun _=>Bj Bu hh.mv Z Z oo oo)<|vc Z C.kp (b9.mv.ke Au Z)<|vd Z (fun _=>EX Z Z Ad Ad)<|vd Z (fun _=>Bj Bu hh.mv Z Z oo oo) ?_;refine WD.wild Z Z Z ((Gt (j:=d) (x:= .tmp 49) (y:= .tmp 48) (u:=I (1-y)) Au hh.mv Z oo (by rw[show(⟨g,d,none⟩:Addr)=Bh (.slice (some ⟨g,0,none⟩) n cp) 1 (d:Int).toNat by simp[Bh,add_lit]];rfl) Z Z Z)) ?_;rintro _ l9 ⟨j0,j2,hh⟩;rw[←List.map_set] at hh;refine WD.nil ?_;clear C;refine cg<|vq (AH Z Z Ad Ad)<|zm Z<|Ac ?_;refine⟨(d+1,H.set d (1-y)),Aq,⟨⟨by dsimp only;omega,by dsimp only;rw[List.length_set];exact J,by rw[hy];exact fG a6 c3⟩,_,hJ.mv,i.mv,f.mv,hh,b5.mv⟩,by show n-(d+1)<n-d;omega⟩
 refine WC.exit Z<|Ab<|AY b7 [] [0,0,0,0,0,0,0,0,0,0,0,0,0,0,3,0,0,3,0,0,3,0,0,3] [0,1,2,3,4,5,6,7,8,9,10,11,12,13,14,15,16,17,18,19,20,21,22,23] fun n0 b3 C=>?_;refine AK Z Z<|AK Z Z<|AK Z Z<|AK Z Z<|AK Z Z<|AK Z Z<|vd Z (fun _=>Bp.BY gx Z)<|AK Z Z<|AK Z Z<|vd Z (fun _=>Bp.BY gx Z)<|vd Z (fun _=>YZ Z Z oo) ?_;rw[show((t.length/64*64:Nat):Int)=0 by omega];refine vd Z (fun _=>Gz gx Z Z Ad Ad)<|vd Z (fun _=>Ae Z)<|vd Z (fun _=>Aa XM Z) ?_;refine WD.wild Z Z Z (AJ Au Z Z ra ra f.mv Z) ?_;rintro _ n1 ⟨f,b4⟩;refine vd Z (fun _=>Ae Z)<|vd Z (fun _=>Aa Of Z)<|WD.wild Z Z Z (AJ Au Z Z ra ra f Z) ?_;rintro _ k9 ⟨f,a7⟩;refine vd Z (fun _=>Ae Z)<|vd Z (fun _=>Aa Lz Z)<|WD.wild Z Z Z (AJ Au Z Z ra ra f Z) ?_;rintro _ l0 ⟨f,a8⟩;refine vd Z (fun _=>Ae Z)<|vd Z (fun _=>Aa Oh Z)<|WD.wild Z Z Z (AJ BK Z Z ra ra f Z) ?_;rintro _ l1 ⟨f,b0⟩;refine WD.nil ?_;clear C;refine Ab<|cg<|zm Z<|zm Z<|vq (Bp.BY gx Z)<|vq (EX Z Z oo oo) ?_;rw[show(t.length:Int)-24=0 by omega];refine vq (Ae Z)<|vq (Aa Og Z)<|WR.AI (AJ Au Z Z ra ra f Z) ?_;rintro _ l2 ⟨f,b1⟩;refine Ac<|Ab<|cg<|zm Z<|zm Z<|ve (Al b7 93 (Ay.call pu Z (dE (L:=[]) (Dx.nil Il _ _) ss ss))) ?_;rintro h6 l3 ⟨h7,b2,h3,⟨e3,_,r⟩⟩;replace r:=r.Cl h3;have k1:=r.Av;have k2:=r.Aw;refine vq (Ae Z)<|vq (Aa Sl Z)<|WR.AI (AJ al Z Z ra ra f.mv Z) ?_;rintro _ l4 ⟨f,U⟩;refine Ac<|Ab<|cg<|za Z<|Ac<|Az Z Z ?_;obtain⟨l,a1⟩:∃l:JQ,l=⟨life,1,t.length,0,t,H,j.failed,0⟩:=⟨_,Z⟩;refine⟨_,hJ.mv.out,A2,l,By.MP i.mv hJ.mv,?_,(b8.tr e4).more oo,?_,?_,?_,?_,?_,?_,Z⟩
 ·refine⟨.slice (some ⟨g,0,none⟩) n cp,h6,e3,by rw[a1];exact f.out ((((((((hJ.mv b3).mv b4).mv a7).mv a8).mv b0).mv b1).mv b2).mv U) Z,?_,?_⟩
  ·replace hJ:=(((((((hJ.mv b3).mv b4).mv a7).mv a8).mv b0).mv b1).mv b2).mv U;replace hh:=(((((((hh.mv b3).mv b4).mv a7).mv a8).mv b0).mv b1).mv b2).mv U;rw[a1];show Ao _ _ 92 3 1 _ H.length (H.map I);rw[J];exact hh.out hJ Z
  replace hJ:=(((((((hJ.mv b3).mv b4).mv a7).mv a8).mv b0).mv b1).mv b2).mv U;replace r:=r.mv U;rw[a1];exact r.out hJ Z
 ·rw[a1];exact⟨J,a6,by show t.length=t.length%64;omega,yU _,by show t.length≤32704;omega,by show 1≤t.length;omega,yU _,by show life≤_;omega⟩
 all_goals rw[a1]
 exact ht
theorem fI(l:List UInt8)(hl:l.length≤8):
 Calls QP 198 #[St l] w (AP fun p w'=>Below w.heap.size w w'∧p=Wz (DT l)):=by
 refine enter (n:=18) (res:=#[.tmp 2]) Tryz.func198 Z Z Z Z<|Ab<|cg<|za Z<|Ac<|Ab<|Ab<|cg<|zm Z<|vq (Bp.BY gx Z)<|zm Z<|Ac<|Ai<|WC.loop (σ:=Nat) (fun k=>[(0,St l),(2,Wz (DT (l.take k))),(5,I l.length),(6,I k)]) (fun k w'=>k≤l.length∧w'=w) (fun k=>l.length-k) 0 Aq ⟨by omega,Z⟩ ?_;rintro k r ⟨hk,rfl⟩;refine Ab<|cg<|vq (AE Z Z)<|Ac<|Ab<|AS Z (fun j=>?_) fun j=>?_
 ·have f:k<l.length:=oo;have o:=NY (l.take k);have g:DT (l.take k)<72057594037927936:=by
   rw[XD hk] at o;have:256^k≤256^7:=Ae4 dd oo;omega
  refine Aj<|Ab<|Ai<|Ab<|cg<|zm Z<|za Z<|Ac<|cg ?_;refine zm Z<|vq (Xu Z Z g)<|zm Z<|zm Z<|vq (Gy gx Z Z oo (show l[((k:Nat):Int).toNat]?=some l[k] by rw[pv];exact aa f))<|vq (PH yR zL Z)<|vq (Uj Z Z g l[k].toNat_lt)<|za Z<|Ac ?_;refine cg<|vq (AH Z Z Ad Ad)<|zm Z<|Ac ?_;have i:DT (l.take (k+1))=DT (l.take k)*256+l[k].toNat:=by rw[yG f,Nn]
  refine⟨k+1,?_,⟨f,Z⟩,by omega⟩;rw[i]
  repeat (first|exact Sub.nil _|refine Sub.cons Z ?_|refine MS Z ?_)
 refine WC.exit Z<|Ab<|cg<|zm Z<|za Z<|Ac<|Az Z Z ?_;exact⟨zy _ _,by rw[yM oo]⟩
theorem jH{p pa:Nat}{j:JQ}{A:Cr}{d s:Int}(U:DI c w p pa j)(g:By c w pa A)(R:UR A)(a1:Cb A d s=(zT,0)):Calls QP 226 #[P1 p,I d,I s] w (AP fun u w'=>Below w.heap.size w w'∧u= .tuple #[I 0,I 0]):=by
 obtain⟨b8,b9,cs,i,hh,b0⟩:=U;have f:=Dh.start c w Ey;replace i:=i.Ca (J:=Ey) Z;replace g:=g.NF (K:=Ey);generalize AT c Ey=c0 at f i g;refine enter (n:=37) (res:=#[.tmp 6, .tmp 7]) Tryz.func226 Z Z Z Z<|Ab<|cg<|za Z<|za Z<|Ac<|Ab<|cg<|zm Z<|vq (Ae Z)<|vq (Aa IK Z)<|vq (Ah KY Z i.Ap Z)<|zm Z<|zm Z<|ve (Al c0 1 (Ay.call oM Z (YI (d:=d) (s:=s) g R))) ?_;rintro b5 w1 ⟨c1,l,b2,rfl⟩;rw[a1];refine zm Z<|vq (Ag Z Z)<|vq (Ag Z Z)<|za Z<|za Z<|Ac<|Ab<|Ab<|cg<|zm Z<|vq (Bm Z Z)<|Ac<|CD Z (fun r=>?_) fun r=>?_
 ·exact absurd r dd
 refine Aj<|Ab<|cg<|zm Z<|vq (Bp.sslice gx Z Z Z Ad Ad Ad) ?_;refine ve (Al c1 1 (Ay.call Sr Z (fI (List.replicate 8 0) dd))) ?_;rintro b6 w2 ⟨c2,o,b3,rfl⟩;rw[show DT (List.replicate 8 0)=0 from Z];refine vq (Em zL oz Z oo oo)<|za Z<|Ac<|Ab<|Ab<|cg<|zm Z<|vq (AE Z Z)<|zm Z ?_;replace f:=(f.mv l).mv o;replace i:=(i.mv l).mv o;replace g:=(g.mv l).mv o;apply vY false 4 (fun x w'=>∃c',Dh c w Ey c' w') BT ((fun _=>⟨true,_,f⟩))
 ·intro b1;refine wo<|zm rfl<|wo<|ve (Al c2 1 (Ay.call pr rfl (Ze (life:=0) oo))) ?_;rintro b7 c3 ⟨a6,a8,b4,⟨t,ht,rfl⟩⟩;refine wo<|zm rfl<|wo<|vq (lG rfl rfl) ?_;exact WR.nil ⟨_,rfl,Sub.drop _ 4 _ rfl rfl,⟨_,f.mv⟩⟩
 rintro x c4 ⟨a7,f⟩;refine Ac<|Sb rfl (fun C=>?_) fun C=>?_
 ·refine Ab<|cg<|za Z<|za Z<|Ac<|Dn Z Z Z ?_;exact⟨f.below,Z⟩
 exact absurd C ss
theorem fJ{p pa:Nat}{j:JQ}{A:Cr}{d:Int}(l:DI c w p pa j)(g:By c w pa A)(R:UR A)(a1:∀i:Int,0≤i∧i≤1→Cb A d (512*i)=(zT,0)):Calls QP 136 #[P1 p,I d] w (AP fun u w'=>Below w.heap.size w w'∧u= .tuple #[.agg #[I 0,I 0,St [], .slice none 0 0],I 0]):=by
 have o:=Dh.start c w Ey;replace l:=l.Ca (K:=Ey);replace g:=g.NF (K:=Ey);generalize AT c Ey=c0 at o l g;refine enter (n:=81) (res:=#[.cell 4 254, .tmp 5]) Tryz.func136 Z Z Z Z<|Ab<|cg<|Db c0 104 cG fun w1 b4 c1 a7 f=>?_;refine za Z<|Ac<|Ab<|Ab<|cg<|zm Z<|Ac<|Ai<|WC.loop (σ:=Nat) (fun i=>[(0,P1 p),(1,I d),(4,P1 b4),(5,I 0),(15,I i)]) (fun i w'=>i≤2∧∃c',Dh c w Ey c' w'∧DI c' w' p pa j∧By c' w' pa A∧Ar c' w' 104 b4 [I 0,I 0,St [], .slice none 0 0] 254) (fun i=>2-i) 0 Aq ⟨yU _,_,o.mv,l.mv,g.mv,f⟩ ?_;clear o l g f;rintro i c3 ⟨hi,J,o,l,g,f⟩;refine Ab<|cg<|vq (AE Z Z)<|Ac<|Ab<|AS Z (fun U=>?_) fun U=>?_
 ·have b2:i<2:=oo;refine Aj<|Ab<|Ai<|Ab<|cg<|zm Z<|za Z<|Ac<|Ab<|cg<|zm Z<|zm Z<|zm Z<|ve (Al J 1 (Ay.call hR Z (Ql (n:=i) oo))) ?_;rintro b6 w2 ⟨c2,a8,b3,rfl⟩;refine ve (Al c2 1 (Ay.call ug Z (jH (d:=d) (s:=512*(i:Int)) l.mv g.mv R (a1 i oo)))) ?_;rintro b7 b8 ⟨a6,b0,b5,rfl⟩;refine zm Z<|vq (Ag Z Z)<|vq (Ag Z Z)<|za Z<|za Z<|Ac<|Ab<|Ab<|cg<|zm Z<|vq (Bm Z Z)<|Ac<|CD Z (fun t=>?_) fun t=>?_
  ·exact absurd t dd
  refine Aj<|Ab<|cg<|zm Z<|vq (Aa Sm Z)<|vq (Ah Au Z f.mv.Ap Z)<|vq (BZ Z Z)<|Ac<|CD Z (fun C=>?_) fun C=>?_
  ·exact absurd C dd
  refine Aj<|cg<|vq (AH Z Z Ad Ad)<|zm Z<|Ac ?_;exact⟨i+1,Aq,⟨by omega,_,o.mv,l.mv,g.mv,f.mv⟩,by omega⟩
 refine WC.exit Z<|Ab<|Ab<|cg<|vq (Aa Sm Z)<|vq (Ah Au Z f.Ap Z)<|vq (AU Z Z)<|Ac<|Sb Z (fun r=>?_) fun r=>?_
 ·refine Ab<|cg<|vq (AD VX Z f.Ap Z)<|WR.AI (Am VX Z Z f Z Z AG) ?_;rintro _ b9 ⟨f,b1⟩;refine za Z<|Ac<|DR Z (Br VX Z f.Ap Z) (Cp.tmp Z) ?_;exact⟨o.mv.below,Z⟩
 exact absurd r dd
end Go.Proofs.K
namespace Go.Eng
open Go Go.RowKit Silo
section
variable {P:Program} {env:Env} {w:World} {ty ty2 t:TypeId} {x y:Operand} {a:Option Addr}
theorem yu(ht:P.underlying t=some (.pointer (P.pointee t)))(hx:Ba env x=some (.pointer a)):Bp P env w (.binOp .eql t x (.const (.pointer none)) ty2) ty (.bool a.isNone):=fun _ f l d pos o g=>by
 have i:=Ae9 (P:=P) w t a ht;have j:f.eval (.const (.pointer none))= .pointer none:=rfl;simp[execOp,l.eval hx,eqGuard,binOp,i,j]
theorem yv(ht:P.underlying t=some (.pointer (P.pointee t)))(hx:Ba env x=some (.pointer a)):Bp P env w (.binOp .neq t x (.const (.pointer none)) ty2) ty (.bool (!a.isNone)):=fun _ f l d pos o g=>by
 have i:=Ae9 (P:=P) w t a ht;have j:f.eval (.const (.pointer none))= .pointer none:=rfl;simp[execOp,l.eval hx,eqGuard,binOp,i,j]
end
def MQ:Shape (List Int) where
 size:=1
 rd:=fun B w cs l=>∃v,cs=[v]∧Dx Bw B w v l
 len:=fun⟨_,h,_⟩=>by rw[h];rfl
 keep:=fun hk ⟨v,h,f⟩=>⟨v,h,f.keep hk⟩
 mono:=fun g ⟨v,h,f⟩=>⟨v,h,f.mono g⟩
 one:=fun⟨v,h,f⟩ u hu=>by
  obtain⟨A,c,rfl,_⟩:=f.form;rw[h] at hu;simp at hu;subst hu;rfl
theorem KR{J:List Nat}{v:Value}{F:List (List Int)}(h:Bi MQ c w J v F){k:Nat}(hk:k<F.length):∃u,DF c w J (Bh v 1 k) [u]∧Bi Bw c w J u F[k]:=by
 obtain⟨cs,g,_,f⟩:=Bi.el h hk dd;obtain⟨u,rfl,_⟩:=f.now;refine⟨u,g,?_⟩;exact Hm.imp f fun w' _ ⟨u',j,i⟩=>by
  have:u=u':=by simpa using j
  subst this;exact i
end Go.Eng
namespace Go.Proofs.K
open Go Go.Eng Go.RowKit Silo TryzT
theorem _root_.Go.Eng.DI.Ej{c0 c:Nat→Nat}{w0 w:World}{p pa:Nat}{j:JQ}(h:DI c w p pa j)(hJ:AZ c0 w0 Bt c w):DI (back c0 w0 c) w p pa j:=by
 obtain⟨f,g,cs,a,b,d⟩:=h;exact⟨f,g,cs,a.Ej hJ Z,b.Ej hJ Z,d.Ej hJ Z⟩
theorem yw(k:Nat):(List.replicate k [Value.int .i64 0]).flatten=(List.replicate k (0:Int)).map I:=by
 induction k with
 |zero=>rfl
 |succ k f=>rw[Aah,Aah,VM,f];rfl
def rK(n:Nat):JQ:=⟨0,0,0,0,[],List.replicate n 0,false,0⟩
theorem nB(n:Nat):Rs n (rK n):=⟨yX,fun h hh=> .inl (Aca hh),Z,lx _,by show 0≤32704;omega,lx _,lx _,by show 0≤_;omega⟩
theorem jI{pa:Nat}{A:Cr}(f:By c w pa A):Calls QP 134 #[P1 pa] w (AP fun u w'=>Below w.heap.size w w'∧u= .bool (decide (1024≤(A.BR:Int)))):=by
 have g:=Dh.start c w Ey;replace f:=f.NF (K:=Ey);generalize AT c Ey=c0 at g f;refine enter (n:=10) (res:=#[.tmp 2]) Tryz.func134 Z Z Z Z<|Ab<|cg<|za Z<|Ac<|Ab<|cg<|zm Z<|vq (yv Ad5 Z)<|zm Z ?_;apply WR.Ko c0 true 3 (decide (1024≤(A.BR:Int))) BT
 ·intro o i;refine wo<|zm rfl<|wo<|ve (Al c0 1 (Ay.call oQ rfl (QX f))) ?_;rintro r w1 ⟨c1,j,p,rfl⟩;refine wo<|vq (Cu rfl rfl) ?_;exact WR.Kq 3 i.mv
 intro w2 c2 l;refine za rfl<|Ac<|Az rfl rfl ?_;exact⟨g.mv.below,rfl⟩
theorem nC{pa n m:Nat}{A:Cr}(f:By c w pa A)(a1:0<n∧n≤12)(h5:1024≤m∧m≤2048)(hp:FF n m A)(hc:A.changes≤800000000)(hl:∀k:Nat,k<n→Cf A k=true)(l7:∀d s:Nat,d<n→s<1024→Cb A d s=(zT,0)):
 Calls QP 70 #[P1 pa] w (AP fun u w'=>∃c',Mv c w c' w' Bt∧∃c5 p j,By c' w' pa c5∧DI c' w' p pa j∧Hj n m 20000 A c5∧Rs n j∧j.used=24∧j.long=0∧j.failed=false∧u= .tuple #[P1 p,I 0]):=by
 have hJ:=AZ.start c w Bt;replace f:=f.NF (K:=Bt);generalize AT c Bt=c0 at hJ f;have l0:=hp.wf a1 oo oo;refine enter (n:=62) (res:=#[.cell 2 101, .cell 3 46]) Tryz.func70 Z Z Z Z<|Ab<|cg<|Db c0 102 cD fun w1 b2 c1 o2 r=>?_;refine Db c1 103 Wg fun w2 b3 c2 k4 t=>Ac<|Ab<|Ab<|cg<|zm Z<|ve (Al c2 1 (Ay.call th Z (jI f.mv))) ?_;rintro q6 u7 ⟨j4,o7,q2,rfl⟩;rw[hp.sec];refine vq (Bq Z)<|Ac<|CD Z (fun e9=>?_) fun e9=>?_
 ·exact absurd e9 (by simp;omega)
 refine Aj<|Ab<|Ab<|cg<|zm Z<|ve (Al j4 1 (Ay.call Sp Z (HG f.mv))) ?_;rintro q7 u9 ⟨n8,o8,q3,rfl⟩;rw[hp.len];refine zm Z<|Ac<|Ai<|WC.loop (σ:=Nat) (fun i=>[(0,P1 pa),(2,P1 b2),(3,P1 b3),(16,I n),(17,I i)]) (fun i w'=>i≤n∧∃c',AZ c w Bt c' w'∧By c' w' pa A∧Ar c' w' 102 b2 [.pointer none] 101∧Ar c' w' 103 b3 [I 0] 46) (fun i=>n-i) 0 Aq ⟨yU _,_,hJ.mv,f.mv,r.mv,t.mv⟩ ?_;clear hJ f r t;rintro i w5 ⟨hi,c9,hJ,f,r,t⟩;refine Ab<|cg<|vq (AE Z Z)<|Ac<|Ab<|AS Z (fun l2=>?_) fun l2=>?_
 ·have l4:i<n:=oo;refine Aj<|Ab<|Ai<|Ab<|cg<|zm Z<|za Z<|Ac<|Ab<|cg<|zm Z<|zm Z<|ve (Al c9 1 (Ay.call hH Z (Td (d:=((i:Nat):Int)) f))) ?_;rintro q8 v7 ⟨n9,o9,q4,rfl⟩;rw[hl i l4];refine vq (Bq Z)<|Ac<|CD Z (fun h3=>?_) fun h3=>?_
  ·exact absurd h3 dd
  refine Aj<|cg<|vq (AH Z Z Ad Ad)<|zm Z<|Ac ?_;exact⟨i+1,Aq,⟨by omega,_,hJ.mv,f.mv,r.mv,t.mv⟩,by omega⟩
 refine WC.exit Z<|Ab<|cg<|zm Z<|zm Z<|ve (Al c9 1 (Ay.call Sp Z (HG f))) ?_;rintro q9 v8 ⟨j5,p0,q5,rfl⟩;rw[hp.len];refine ve (XC j5 92 Bu Z Z Ad Ad Ad) ?_;rintro r0 w0 ⟨j6,p1,c4⟩;rw[yw,pv] at c4;obtain⟨g,cp,rfl,p6,p5⟩:=c4.BW oo;refine vq (AB (cells:=#[P1 pa,I 0,I 0,I 0,I 0,St [], .slice (some ⟨g,0,none⟩) n cp, .slice none 0 0, .bool false]) Z kr) ?_;refine Dz j6 91 fun w3 U j7 k8 b1=>?_;refine Db j7 105 cD fun w4 b5 j8 e7 C=>WR.AI (AJ Fu Z Z ra ra C Z) ?_;rintro _ r9 ⟨C,e0⟩;refine Ac<|Ab<|cg<|Db j8 106 Ss fun s0 b6 j2 e1 R=>?_;refine WR.AI (AJ Au Z Z ra ra R Z) ?_;rintro _ s3 ⟨R,e2⟩;refine Ac<|Ab<|Ab ?_;have J:DI _ _ U pa (rK n):=⟨_, .slice none 0 0,[],((((b1.mv e7).mv e0).mv e1).mv e2),by show Ao _ _ _ _ _ _ (List.replicate n (0:Int)).length _;rw[yX];exact(((((c4.mv k8).mv e7).mv e0).mv e1).mv e2),Ao.nil _ _ _ _ _⟩;refine cg<|vq (Ah Fu Z C.mv.Ap Z)<|ve (Al j2 76 (Ay.call hI Z (Qk))) ?_;rintro r1 s4 ⟨n3,k2,n1,⟨j1,rfl,l3,a7⟩⟩;have b9:Ar _ _ 76 j1 [P1 U] 101:=⟨a7,n1 _ l3⟩;obtain⟨lv,l5⟩:∃lv:Nat→Bool,lv=fun k:Nat=>Cf A k:=⟨_,Z⟩;obtain⟨r7,r8,o0,c3,_⟩:=id (J.mv k2);refine Ac<|Ai<|Kv (α:=Nat) (encs:=fun k:Nat=>[I k]) (κ:=[]) (F:=[76,91]) (Φ:=du pa n lv) (Q:=fun pre x _ _=>pre++[x]<+:DJ lv n) (Fin:=fun L=>L=DJ lv n)
  (fun pre d B=>AZ c w Bt d B∧DI d B U pa (rK n)∧By d B pa A∧Ar d B 102 b2 [.pointer none] 101∧Ar d B 103 b3 [I 0] 46∧Ar d B 105 b5 [P1 U] 101∧Ar d B 106 b6 [I 0] 3) [] (fun _ _ _=>False) [106,108] Z Z hQ (NI b9 c3 a1.2) Z (fun _=>rfl) ss Z
  (fun s d A j9 B ⟨c6,c7,a6,h7,h8,h9,j0⟩ m=>⟨c6.mv m,c7.mv m,a6.mv m,h7.mv m,h8.mv m,h9.mv m,j0.mv m⟩) (fun p hp=>by simp at hp) (fun s d A j9 B h _=>h.elim)
  (fun s d B ⟨c6,c7,a6,_⟩=>⟨A,a6,hp.len,fun k=>by rw[l5]⟩) ⟨hJ.mv,J.mv,f.mv,r.mv,t.mv,C.mv,R.mv⟩ ?_ ?_ ?_ ?_
 ·clear hJ J f r t C R b9 a7 c3;rintro l pre k d B ⟨hJ,J,f,r,t,C,R⟩ l6;have a8:=Acc.refl d B [106,108];have h4:k∈DJ lv n:=l6.subset ss;rw[Vi] at h4;refine cg<|za Z<|Ac<|⟨_,a8,?_⟩;intro A2 k4;have a8:=Acc.refl d A2 [106,108];refine Ai<|Ab<|cg<|vq (Ah Fu Z C.mv.Ap Z)<|zm Z ?_;refine ve (Al d 1 (Ay.call tj Z (fJ (d:=((k:Nat):Int)) J.mv f.mv l0 (fun i hi↦by obtain⟨q,rfl⟩:∃q:Nat,i=q:=⟨i.toNat,by omega⟩;exact l7 k (512*q) h4.1 oo)))) ?_;rintro r2 s5 ⟨j3,o3,p9,rfl⟩;refine zm Z<|vq (Ag Z Z)<|vq (Ag Z Z)<|Db j3 108 cG fun s6 b8 n4 o4 b7=>?_;refine WR.AI (Am VX Z Z b7 Z Z AG) ?_;rintro _ s7 ⟨b7,o5⟩;refine za Z<|Ac<|Ab<|Ab<|cg<|zm Z<|vq (Bm Z Z)<|Ac<|CD Z (fun h0=>?_) fun h0=>?_
  ·exact absurd h0 dd
  refine Aj<|cg<|vq (Ah Au Z R.mv.Ap Z)<|vq (Aa Sm Z)<|vq (Ah Au Z b7.Ap Z)<|vq (rE Z Z)<|WR.AI (AJ Au Z Z ra ra R.mv Z) ?_;rintro _ s8 ⟨R,o6⟩;refine Ac ?_;exact⟨_,a8.mv,hJ.mv,J.mv,f.mv,r.mv,t.mv,C.mv,R⟩
 ·clear hJ J f r t C R b9 a7 c3;rintro L D d B o1 ⟨hJ,J,f,r,t,C,R⟩ k0;refine Ab<|Ab<|AY d Ey [1,1,1,2,2,0] [0,1,2,3,4,5] fun s9 k3 o=>?_;have l1:=r;have b1:=t;have b4:=C;have e8:=R;refine vc Z o.kp (b4.mv.kb Fu Z Z)<|vc Z o.kp (b4.mv.kb Fu Z Z)<|vc Z o.kp (e8.mv.kb Au Z Z)<|WD.AW Z Z Z (Al d 1 (Ay.call tm Z (jG (life:=0) J.mv f.mv oo oo))) Z ?_;rintro r3 u0 ⟨n5,e3,q0,⟨life,p3,p4,rfl⟩⟩;refine o.AX e3 fun o=>WD.AW Z Z Z (Ay.call tk Z (fH (life:=life) J.mv f.mv (nB n) a1 h5 hp oo oo)) Z ?_;rintro r4 u1 ⟨c8,e4,⟨A1,n2,f,J,b0,h6,l8,l9,p7,p8,n0,rfl⟩⟩;refine o.AX e4 fun o=>Ga Z Z<|WD.nil ?_;clear l1 b1 b4 e8;clear o;refine Ab<|cg<|zm Z<|vq (Bm Z Z)<|Ac<|CD Z (fun h1=>?_) fun h1=>?_
  ·exact absurd h1 dd
  refine Aj<|Ab<|Ab<|AY c8 Bt [1,2,2,0] [0,1,2,3] fun u2 k5 o=>?_;refine vc Z o.kp (C.mv.kb Fu Z Z)<|WD.AW Z Z Z (Al c8 1 (Ay.call lZ Z (KJ (s:=[0]) (n:=64) ss oo))) Z ?_;rintro r5 u3 ⟨n6,e5,q1,rfl⟩;refine o.AX e5 fun o=>?_;refine WD.AW Z Z Z (Ay.call cq Z (RP (oth:=true) (at_:=0) (b:=Go.Lib.repeatL [0] 64) J.mv f.mv h6 a1 h5 b0.pw (by have:=b0.Lj;omega) (by rw[NH,yX];omega))) Z ?_;rintro r6 u4 ⟨n7,e6,⟨A2,f,k1,rfl⟩⟩;refine o.AX e6 fun o=>Ga Z Z<|WD.nil ?_;clear o;refine Ab<|cg<|zm Z<|vq (Bm Z Z)<|Ac<|CD Z (fun h2=>?_) fun h2=>?_
  ·exact absurd h2 dd
  refine Aj<|Ab<|cg<|vq (Ah Fu Z C.mv.Ap Z)<|WR.AI (AJ Fu Z Z ra ra r.mv Z) ?_;rintro _ u5 ⟨r,k6⟩;refine WR.AI (AJ Js Z Z ra ra t.mv Z) ?_;rintro _ u6 ⟨t,k7⟩;refine Ac ?_;obtain⟨k9,p2⟩:=((((((((k0.mv k3).mv e3).mv e4).mv k5).mv e5).mv e6).mv k6).mv k7).take;refine VR Z Z k9 (Jm Fu Z r.mv.Ap Z) (Jm Js Z t.mv.Ap Z) ?_;exact⟨_,hJ.mv.out,A2,U,n2,By.MP f.mv hJ.mv,J.mv.Ej hJ.mv,(b0.tr k1).more oo,h6,l8,l9,n0,Z⟩
 ·intro p hp;simp at hp
 exact fun _ _ _ _ h=>h.elim
theorem jJ{cs:List Value}{r:Rec}(h:Ur w cs r):Calls QP 350 #[.agg cs.toArray] w (AP fun v w'=>Below w.heap.size w w'∧v= .bool (!JN r)):=by
 obtain⟨c,f,hc⟩:=AQ.start w;have i:Fq (fun w'=>Il.rd w'.heap.size w' cs r) c w [0]:=qz h (fun k hk=>by simp[hc,AA]);clear hc;obtain⟨R,vs,rfl,hl,hs,o⟩:=id h;have t:=hl.Av;have C:=hs.Av;have I:=hl.Aw;have J:=hs.Aw;refine enter (n:=6) (res:=#[.tmp 2]) Tryz.func350 Z Z Z Z<|Ab<|cg<|Dz c 101 fun w1 b1 c1 j g=>?_;refine za Z<|Ac<|Ab<|cg<|vq (AD Fs Z g.Ap Z)<|ve (Al c1 1 (Ay.call sP Z (iR i.mv.now))) ?_;rintro v4 w2 ⟨c2,l,p,rfl⟩;refine vq (Bq Z)<|za Z<|Ac<|Az Z Z ?_;exact⟨f.mv.below,Z⟩
theorem nD{v:Value}{L:List Rec}(h1:Rd Il w v L):Calls QP 189 #[v, .func (.func 350) #[] #[]] w (AP fun R w'=>Below w.heap.size w w'∧∃i:Int,R=I i∧decide (0≤i)=L.any (fun r=> !JN r)):=by
 have a6:=h1.small;have f:Bz w w:=Bz.refl w;refine enter (n:=19) (res:=#[.tmp 4]) Tryz.func189 Z Z Z Z<|Ab<|cg<|za Z<|Ac<|Ab<|Ab<|cg<|zm Z ?_
 first|refine vq (BN Hp (by assumption) Z) ?_|refine vq (CH Aez Z) ?_
 refine zm Z<|Ac<|Ai<|WC.loop (σ:=Nat) (fun k=>[(0,v),(1, .func (.func 350) #[] #[]),(7,I L.length),(8,I k)]) (fun k w'=>Rd Il w' v L∧Bz w w'∧k≤L.length∧∀x∈L.take k,(!JN x)=false) (fun k=>L.length-k) 0 Aq ⟨h1,f,by omega,by simp⟩ ?_;rintro k b2 ⟨h1,f,hk,l⟩;refine Ab<|cg<|vq (AE Z Z)<|Ac<|Ab<|AS Z (fun t=>?_) fun t=>?_
 ·have ka:k<L.length:=oo;obtain⟨U,p,o⟩:=h1.el ka;obtain⟨b0,vs,rfl,C,J,a1⟩:=id o;have a7:=C.Av;have a8:=J.Av;refine Aj<|Ab<|Ai<|Ab<|cg<|zm Z<|za Z<|Ac<|Ab<|cg<|zm Z<|zm Z<|zm Z<|vq (AF Hp (by assumption) Z Z Z Ad Ad)<|vq (Dg Fs Z p Z) ?_;refine ve (Gg Z vg Z (jJ o)) ?_;rintro _ b1 ⟨j,rfl⟩;refine Ac<|AS Z (fun g=>?_) fun g=>?_
  ·refine Ab<|cg<|zm Z<|za Z<|Ac ?_;refine Az Z Z ?_;exact⟨(f.up j),_,Z,by rw[Kn.2 ⟨_,oy ka,by simpa using g⟩];simp⟩
  refine Aj<|cg<|vq (AH Z Z Ad Ad)<|zm Z<|Ac ?_;exact⟨k+1,Aq,⟨(h1.up j),(f.up j),ka,ME (q:=fun r=> !JN r) l ka (by simpa using g)⟩,by omega⟩
 refine WC.exit Z<|Ab<|cg<|za Z<|Ac<|Az Z Z ?_;exact⟨f,-1,Z,by rw[RN l oo];decide⟩
theorem nE{v:Value}{L:List Rec}(h1:Rd Il w v L)(j:∀r∈L,JN r=true):Calls QP 105 #[v, .func (.func 350) #[] #[]] w (AP fun o w'=>Below w.heap.size w w'∧o= .bool false):=by
 have f:Bz w w:=Bz.refl w;refine enter (n:=9) (res:=#[.tmp 4]) Tryz.func105 Z Z Z Z<|Ab<|cg<|za Z<|Ac<|Ab<|cg<|zm Z<|zm Z<|ve (Ay.call tP Z (nD h1)) ?_;rintro p w1 ⟨g,i,rfl,hi⟩;refine vq (Cu Z Z)<|za Z<|Ac<|Az Z Z ?_;exact⟨(f.up g),by rw[hi,Aas.2 fun r l=>by rw[j r l];decide]⟩
theorem nF{p pa n:Nat}{j:JQ}{A:Cr}(g:DI c w p pa j)(i:By c w pa A)(a6:A.d.length=n∧n≤12):Calls QP 351 #[P1 p] w (AP fun u w'=>Below w.heap.size w w'∧∃b:Bool,u= .bool b∧((∀k:Nat,k<n→Cf A k=true)→0<n→b=false)):=by
 have o:=Dh.start c w Ey;replace g:=g.Ca (K:=Ey);replace i:=i.NF (K:=Ey);generalize AT c Ey=c0 at o g i;refine enter (n:=17) (res:=#[.tmp 2]) Tryz.func351 Z Z Z Z<|Ab<|cg<|za Z<|Ac<|Ab<|cg<|Db c0 103 Ss fun w1 b3 c1 c4 f=>?_;refine WR.AI (AJ Au Z Z ra ra f Z) ?_;rintro _ w2 ⟨f,b1⟩;refine Ac<|Ab<|Ab<|cg<|zm Z<|ve (Al c1 76 (Ay.call hI Z (Qk))) ?_;rintro h3 h4 ⟨e5,c5,e2,⟨b6,rfl,e0,J⟩⟩;have U:Ar _ _ 76 b6 [P1 p] 101:=⟨J,e2 _ e0⟩;obtain⟨lv,b4⟩:∃lv:Nat→Bool,lv=fun k:Nat=>Cf A k:=⟨_,Z⟩;obtain⟨e3,e4,b7,a1,_⟩:=id (((g.mv c4).mv b1).mv c5);refine Ac<|Ai<|Kv (α:=Nat) (encs:=fun k:Nat=>[I k]) (κ:=[]) (F:=[76,91]) (Φ:=du pa n lv) (Q:=fun pre x _ _=>pre++[x]<+:DJ lv n) (Fin:=fun L=>L=DJ lv n)
  (fun pre d B=>Dh c w Ey d B∧DI d B p pa j∧By d B pa A∧Ar d B 103 b3 [I (pre.length:Nat)] 3) [] (fun _ _ _=>False) [103] Z Z hQ (NI U a1 a6.2) Z (fun _=>rfl) ss Z
  (fun s d A b8 B ⟨a7,a8,t,b5⟩ m=>⟨a7.mv m,a8.mv m,t.mv m,b5.mv m⟩) (fun p hp=>by simp at hp) (fun s d A b8 B h _=>h.elim)
  (fun s d B ⟨a7,a8,t,_⟩=>⟨A,t,a6.1,fun k=>by rw[b4]⟩) ⟨o.mv,g.mv,i.mv,f.mv⟩ ?_ ?_ ?_ ?_
 ·clear o g i f U J a1;rintro l pre k d B ⟨o,g,i,f⟩ e1;have R:=Acc.refl d B [103];have h0:pre.length+1≤12:=by
   have C:=e1.length_le;rw[bU,Abb] at C;have b9:(DJ lv n).length≤n:=by have:=Abc lv (List.range n);rwa [zI] at this
   omega
  refine Aj<|⟨_,R,?_⟩;intro A2 b1;have R:=Acc.refl d A2 [103];refine Ai<|cg<|vq (Ah Au Z f.mv.Ap Z)<|vq (AH Z Z Ad Ad) ?_;refine WR.AI (AJ Au Z Z ra ra f.mv Z) ?_;rintro _ h5 ⟨f,e8⟩;refine Ac ?_;exact⟨_,R.mv,o.mv,g.mv,i.mv,by rw[bU];exact f⟩
 ·clear o g i f U J a1;rintro L D d B b0 ⟨o,g,i,f⟩ c2;have c3:(∀k:Nat,k<n→Cf A k=true)→L.length=n:=fun hl=>by
   rw[b0,DJ,List.filter_eq_self.2 (fun a c8=>by rw[b4];exact hl a (Aac.1 c8)),zI]
  have e7:L.length≤12:=by
   rw[b0];have:=Abc lv (List.range n);rw[zI] at this;rw[DJ];omega
  obtain⟨e3,e4,b7,c9,_⟩:=id g;refine Ab<|AY d [] [1,0,0,0,0,1,2,0,0] [0,1,2,3,4,5,6,7,8] fun h6 c6 r=>?_;refine vc Z r.kp (f.mv.kb Au Z Z)<|vd Z (fun _=>FZ Z Z Ad Ad)<|AK Z Z<|vd Z (fun _=>Ae Z)<|vd Z (fun _=>Aa IK Z)<|vc Z r.kp (c9.mv.kb KY Z Z) ?_;refine WD.AW Z Z Z (Al d 1 (Ay.call Sp Z (HG i.mv))) Z ?_;rintro h2 h7 ⟨e6,b2,h1,rfl⟩;refine r.AX b2 fun r=>vd Z (fun _=>FV Z Z)<|Ga Z Z<|WD.nil ?_;clear r;obtain⟨c7,e9⟩:=((c2.mv c6).mv b2).take;refine Kw Z Z c7 (Cp.tmp Z) ?_;exact⟨o.mv.below,_,Z,fun C b9=>by have:=c3 C;have:=a6.1;exact Acr oo⟩
 ·intro p hp;simp at hp
 exact fun _ _ _ _ h=>h.elim
theorem jK{p pa:Nat}{j:JQ}(l:DI c w p pa j)(hl:j.long≤1000000):Calls QP 286 #[P1 p] w (AP fun u w'=>Below w.heap.size w w'∧u=I (32680-j.long)):=by
 obtain⟨r,t,cs,i,hh,o⟩:=l;have f:Bz w w:=Bz.refl w;have g:=i.Ap;refine enter (n:=8) (res:=#[.tmp 2]) Tryz.func286 Z Z Z Z<|Ab<|cg<|za Z<|Ac<|Ab<|cg<|zm Z<|vq (Ae Z)<|vq (Aa Og Z)<|vq (Ah Au Z g Z)<|vq (EX Z Z Ad Ad)<|za Z<|Ac ?_;refine Az Z Z ?_;exact⟨f,Z⟩
theorem aY{p pa:Nat}{j:JQ}(l:DI c w p pa j):Calls QP 39 #[P1 p] w (AP fun u w'=>Below w.heap.size w w'∧u= .bool j.failed):=by
 obtain⟨r,t,cs,i,hh,o⟩:=l;have f:Bz w w:=Bz.refl w;have g:=i.Ap;refine enter (n:=7) (res:=#[.tmp 2]) Tryz.func39 Z Z Z Z<|Ab<|cg<|za Z<|Ac<|Ab<|cg<|zm Z<|vq (Ae Z)<|vq (Aa LB Z)<|vq (Ah Jc Z g Z)<|za Z<|Ac<|Az Z Z ?_;exact⟨f,Z⟩
theorem jL{p pa:Nat}{j:JQ}{e:Int}(g:DI c w p pa j):Calls QP 287 #[P1 p,I e] w (AP fun u w'=>∃c',Mv c w c' w' [91]∧DI c' w' p pa {j with failed:=j.failed|| !decide (e=0)}∧u=I e):=by
 obtain⟨l,o,cs,f,hh,i⟩:=g;have hJ:=AZ.start c w [91];replace f:=f.Ca (J:=[91]) Z;generalize AT c [91]=c0 at hJ f;refine enter (n:=17) (res:=#[.tmp 4]) Tryz.func287 Z Z Z Z<|Ab<|cg<|za Z<|Ac<|Ab<|cg<|zm Z<|zm Z<|vq (Ae Z)<|vq (Aa LB Z)<|vq (Ah Jc Z f.Ap Z)<|zm Z ?_;apply WR.CJ false 2 _ BT
 ·intro t;refine wo<|zm rfl<|wo<|vq (Bm rfl rfl) ?_;exact Dm 2
 refine vq (Ae Z)<|vq (Aa LB Z)<|WR.AI (AJ Jc Z Z ra ra f Z) ?_;rintro _ w1 ⟨f,r⟩;refine Ac<|Ab<|cg<|zm Z<|za Z<|Ac<|Az Z Z<|⟨_,hJ.mv.out,⟨l,o,cs,f.out hJ.mv Z,hh.mv hJ.mv.out,i.mv hJ.mv.out⟩,Z⟩
theorem _root_.Go.Eng.Fq.aZ{Φ:World→Prop}{K J:List Nat}(h:Fq Φ c w K)(hi:Bd K J=true):Fq Φ (AT c J) w [0]:=Hm.mono h fun k _ hk=>by
 show AA [0] (AT c J k)=true
 rw[Ha (DS hi hk)];rfl
theorem fK{p pa n:Nat}{j:JQ}{A:Cr}{u:Value}{L:List Rec}{room:Int}{K:List Nat}(U:DI c w p pa j)(f:By c w pa A)(c4:A.d.length=n∧n≤12)(h:Bi Il c w K u L)(b6:Bd K Ey=true)(c6:1≤L.length∧L.length≤2000)(b0:∀r∈L,JN r=true)(b5:EL L≤1000000):
 Calls QP 285 #[P1 p,u,I 1,I room] w (AP fun v w'=>∃c',Mv c w c' w' Ey∧∃(e:Int) (b:Bool),DI c' w' p pa {j with failed:=b}∧By c' w' pa A∧v=I e∧(e=0→b=false∧j.failed=false)∧((∀k:Nat,k<n→Cf A k=true)→0<n→j.failed=false→(EL L:Int)≤room→e=0)∧((EL L:Int)≤room→e≠5)):=by
 have hJ:=AZ.start c w Ey;replace U:=U.Ca (K:=Ey);replace f:=f.NF (K:=Ey);have a1:=h.aZ b6;have e0:=h.now.small;generalize AT c Ey=c0 at hJ U f a1;refine enter (n:=39) (res:=#[.tmp 8]) Tryz.func285 Z Z Z Z<|Ab<|cg<|za Z<|Ac<|Ab<|Ab<|cg<|zm Z<|vq (BI Hp) ?_;refine zm Z<|vq (AE Z Z)<|zm Z ?_;apply WR.CJ false 3 _ BT
 ·intro c9;refine wo<|zm rfl<|wo<|vq (BI Hp) ?_;refine wo<|vq (BZ rfl rfl) ?_;exact Dm 3
 refine zm Z ?_;apply WR.Ko c0 false 2 false BT
 ·intro c8 b7;refine wo<|zm rfl<|wo<|ve (Al c0 1 (Ay.call sS rfl (nE a1.now b0))) ?_;rintro v20 w1 ⟨c1,c7,e1,rfl⟩;exact WR.Kq 2 b7.mv
 intro w2 c2 J;refine Ac<|CD rfl (fun a7=>?_) fun a7=>?_
 ·exact absurd a7 (by simp;omega)
 obtain⟨l,o,cs,g,hh,i⟩:=(U.mv J);refine Aj<|Ab<|Ai<|Ab<|cg<|zm Z<|vq (Ae Z)<|vq (Aa LB Z)<|vq (Ah Jc Z g.Ap Z)<|za Z<|Ac<|AS Z (fun a6=>?_) fun a6=>?_
 ·refine Ab<|cg<|za Z<|Ac<|Az Z Z ?_;exact⟨_,hJ.mv.out,10,j.failed,⟨l,o,cs,g.out hJ.mv Z,hh.out hJ.mv Z,i.out hJ.mv Z⟩,By.MP f.mv hJ.mv,Z,fun e=>(by cases e),fun _ _ h _=>(by simp[h] at a6),fun _=>by decide⟩
 refine Ab<|cg<|zm Z<|ve (Al c2 1 (Ay.call hS Z (NL a1.mv.now b0 b5))) ?_;rintro e4 e6 ⟨b1,t,e2,rfl⟩;refine vq (Bp.BY gx Z)<|zm Z<|vq (BZ Z Z)<|za Z<|Ac<|AS Z (fun b9=>?_) fun b9=>?_
 ·refine Ab<|cg<|za Z<|Ac<|Az Z Z ?_;exact⟨_,hJ.mv.out,5,j.failed,⟨l,o,cs,g.mv.out hJ.mv Z,hh.mv.out hJ.mv Z,i.mv.out hJ.mv Z⟩,By.MP f.mv hJ.mv,Z,fun e=>(by cases e),fun _ _ _ h=>(by have b4:=LX L 0;omega),fun h=>by have b4:=LX L 0;omega⟩
 refine Ab<|cg<|zm Z<|ve (Al b1 1 (Ay.call vi Z (nF ⟨l,o,cs,g.mv,hh.mv,i.mv⟩ f.mv c4))) ?_;rintro e5 e7 ⟨c5,C,e3,⟨b,rfl,b8⟩⟩;refine za Z<|Ac<|AS Z (fun c3=>?_) fun c3=>?_
 ·refine Ab<|cg<|zm Z<|vq (Ae Z)<|vq (Aa LB Z)<|WR.AI (AJ Jc Z Z ra ra g.mv Z) ?_;rintro _ e8 ⟨g,R⟩;refine Ac<|Ab<|cg<|za Z<|Ac<|Az Z Z ?_;replace hJ:=(((hJ.mv J).mv t).mv C).mv R;replace f:=(((f.mv J).mv t).mv C).mv R;replace hh:=((hh.mv t).mv C).mv R;replace i:=((i.mv t).mv C).mv R;exact⟨_,hJ.out,6,true,⟨l,o,cs,g.out hJ Z,hh.out hJ Z,i.out hJ Z⟩,By.MP f hJ,Z,fun e=>(by cases e),fun b2 b3 _ _=>(by have:=b8 b2 b3;simp_all),fun _=>by decide⟩
 refine Aj<|Ab<|cg<|za Z<|Ac<|Az Z Z ?_;have a8:j.failed=false:=by simpa using a6
 exact⟨_,hJ.mv.out,0,false,⟨l,o,cs,by rw[show Ma pa l o {j with failed:=false}=Ma pa l o j by rw[←a8]];exact((g.mv t).mv C).out (((hJ.mv J).mv t).mv C) Z,hh.mv.out hJ.mv Z,i.mv.out hJ.mv Z⟩,By.MP f.mv hJ.mv,Z,fun _=>⟨Z,a8⟩,fun _ _ _ _=>rfl,fun _=>by decide⟩
theorem rL(L:List Rec):L.length≤EL L:=by
 induction L with
 |nil=>exact yU _
 |cons r L f=>rw[RM,yZ,Ld];omega
theorem _root_.Go.Eng.DI.wc{c0 c:Nat→Nat}{w0 w:World}{J:List Nat}{p pa:Nat}{j:JQ}(h:DI c w p pa j)(hJ:AZ c0 w0 J c w)(hi:Ey.all (AA J)=true:=by rfl):DI (back c0 w0 c) w p pa j:=by
 obtain⟨f,g,cs,a,b,d⟩:=h;have hk:∀i∈[91,92,93],(Nat.blt 0 i&&AA J i)=true:=fun i hx=>by
  rw[zK.1 hi i (by simp at hx⊢;omega),Bool.and_true];simp at hx;rcases hx with rfl|rfl|rfl<;>rfl
 exact⟨f,g,cs,a.out hJ (hk 91 ss),b.out hJ (hk 92 ss),d.out hJ (hk 93 ss)⟩
theorem nG{p pa n m:Nat}{j:JQ}{A:Cr}{u:Value}{L:List Rec}{K:List Nat}(C:DI c w p pa j)(U:By c w pa A)(a1:Rs n j)(c8:0<n∧n≤12)(l4:1024≤m∧m≤2048)(hp:FF n m A)(hc:A.changes≤900000000)
 (h:Bi Il c w K u L)(k2:Bd K Ey=true)(k3:1≤L.length∧L.length≤2000)(j0:∀r∈L,JN r=true)(hl:∀r∈L,r.list.length≤1048576∧r.CF.length≤1048576)(n5:j.used+24+EL L≤32704):
 Calls QP 186 #[P1 p,u] w (AP fun v w'=>∃c',Mv c w c' w' Ey∧∃e0 b6 e,By c' w' pa e0∧DI c' w' p pa b6∧Hj n m 6156 A e0∧Rs n b6∧b6.used≤j.used+24+EL L∧v=I e∧((∀k:Nat,k<n→Cf A k=true)→j.failed=false→e=0∧b6.failed=false)∧e≠5):=by
 have hJ:=AZ.start c w Ey;replace C:=C.Ca (K:=Ey);replace U:=U.NF (K:=Ey);have b4:=h.aZ k2;have h9:=a1.long;have c3:=a1.half;have b9:=a1.each;have b1:=a1.tail;have e4:=a1.FD;have e6:=a1.num;have e5:=a1.life;generalize AT c Ey=c0 at hJ C U b4;refine enter (n:=123) (res:=#[.tmp 4]) Tryz.func186 Z Z Z Z<|Ab<|cg<|za Z<|Ac<|Ab<|Ab<|cg<|zm Z<|zm Z<|zm Z<|ve (Al c0 1 (Ay.call uJ Z (jK C oo))) ?_;rintro p3 w1 ⟨c1,e7,o1,rfl⟩;refine ve (Ay.call uI Z (fK C.mv U.mv ⟨hp.len,c8.2⟩ b4.mv Z k3 j0 oo)) ?_;rintro p4 w2 ⟨c2,h2,⟨j4,b3,C,U,rfl,l1,l3,l2⟩⟩;refine za Z<|Ac<|Ab<|cg<|zm Z<|vq (Bm Z Z)<|Ac<|AS Z (fun l0=>?_) fun l0=>?_
 ·refine Ab<|cg<|zm Z<|za Z<|Ac<|Az Z Z ?_;replace hJ:=(hJ.mv e7).mv h2;exact⟨_,hJ.out,A,{j with failed:=b3},j4,By.MP U hJ,DI.wc C hJ,(Hj.refl hp).more oo,⟨c3,b9,b1,h9,a1.used,e4,e6,e5⟩,by show j.used≤_;omega,Z,fun e2 e3=>absurd (l3 e2 c8.1 e3 oo) (by simp_all),l2 oo⟩
 have k9:b3=false:=(l1 oo).1;refine Aj<|Ab<|cg<|zm Z<|ve (Al c2 1 (Ay.call hS Z (NL b4.mv.now j0 oo))) ?_;rintro p5 q6 ⟨e1,h3,o2,rfl⟩;refine za Z<|Ac<|Ab<|Ab ?_;obtain⟨s,hs⟩:∃s,s=MN 0 L:=⟨_,Z⟩;have l5:s.length=EL L:=by rw[hs,LX]
 rw[←hs];obtain⟨f,J⟩:∃f:JQ,f={j with failed:=b3}:=⟨_,Z⟩;replace C:=C.mv h3;rw[←J] at C;have j5:f.used=j.used:=by rw[J]
 have g2:f.life=j.life:=by rw[J]
 have j6:f.FD=j.FD:=by rw[J]
 have j7:f.long=j.long:=by rw[J]
 have b8:f.tail=j.tail:=by rw[J]
 have j8:f.half=j.half:=by rw[J]
 have j9:f.num=j.num:=by rw[J]
 have k0:f.failed=b3:=by rw[J]
 have l6:Rs n f:=by rw[J];exact⟨c3,b9,b1,h9,a1.used,e4,e6,e5⟩
 have o0:f.tail.length≤63:=by rw[b8,b1];omega
 clear J;obtain⟨j2,n0,cs,o,hh,a8⟩:=id C;refine cg<|zm Z<|vq (Ae Z)<|vq (Aa Lz Z)<|vq (Ah Au Z o.Ap Z)<|zm Z<|vq (Bp.BY gx Z)<|vq (AH Z Z Ad Ad)<|vq (AH Z Z Ad Ad) ?_;refine vq (BZ Z Z)<|Ac<|CD Z (fun h7=>?_) fun h7=>?_
 ·simp only[JV] at h7;omega
 refine Aj<|Ab<|AY e1 [] [0,0,0,1,0,0,0,1,0,0,0,1,0,2,0,0] [0,1,2,3,4,5,6,7,8,9,10,11,12,13,14,15] fun q7 k5 l=>?_;have a6:=o;refine AK Z Z<|vd Z (fun _=>Ae Z)<|vd Z (fun _=>Aa Oh Z)<|vc Z l.kp (a6.mv.kb BK Z Z)<|AK Z Z<|vd Z (fun _=>Ae Z)<|vd Z (fun _=>Aa XM Z)<|vc Z l.kp (a6.mv.kb Au Z Z)<|AK Z Z<|vd Z (fun _=>Ae Z)<|vd Z (fun _=>Aa Of Z)<|vc Z l.kp (a6.mv.kb Au Z Z)<|AK Z Z<|WD.AW Z Z Z (Al e1 1 (Ay.call pq Z (Vl (life:=f.life) (n:=f.FD) (s:=s) oo oo oo))) Z ?_;rintro p6 q8 ⟨n3,h4,o3,⟨t,ht,rfl⟩⟩;refine l.AX h4 fun l=>vd Z (fun _=>dU Z Z oo)<|Ga Z Z ?_;refine WD.nil ?_;clear a6;clear l;refine Ab<|Ab ?_;obtain⟨b,c6⟩:∃b,b=f.tail++t:=⟨_,Z⟩;have n7:b.length=j.used%64+24+EL L:=by rw[c6,bU,ht,l5,b8,b1];omega
 rw[←c6];clear c6;have n6:=rL L;refine cg<|zm Z<|zm Z<|zm Z<|vq (Ae Z)<|vq (Aa Lz Z)<|vq (Ah Au Z o.mv.Ap Z)<|vq (Rk Z Z oo oo oo) ?_;rw[show(f.used:Int)/64=((f.used/64:Nat):Int) by omega];refine vq (AH Z Z oo oo) ?_;rw[show(1:Int)+((f.used/64:Nat):Int)=((1+f.used/64:Nat):Int) by omega];refine zm Z<|ve (Ay.call cq Z (RP (oth:=false) (at_:=1+f.used/64) (b:=b) C.mv U.mv l6 c8 l4 hp oo oo)) ?_;rintro p7 q9 ⟨n4,k6,⟨A1,U,k4,rfl⟩⟩;refine ve (Ay.call uK Z (jL (e:=0) C.mv)) ?_;rintro p8 r0 ⟨b7,k7,⟨C,rfl⟩⟩;refine za Z<|Ac<|Ab<|cg<|zm Z<|vq (Bm Z Z)<|Ac<|CD Z (fun h8=>?_) fun h8=>?_
 ·exact absurd h8 dd
 refine Aj<|Ab ?_;obtain⟨b0,c7⟩:∃b0,b0=(f.failed|| !decide ((0:Int)=0)):=⟨_,Z⟩;rw[←c7] at C;have k8:b0=false:=by rw[c7,k0,k9];rfl
 clear c7;obtain⟨i,R⟩:∃i:JQ,i={f with failed:=b0}:=⟨_,Z⟩;rw[←R] at C;have o4:i.used=j.used:=by rw[R];exact j5
 have o5:i.life=j.life:=by rw[R];exact g2
 have o6:i.FD=j.FD:=by rw[R];exact j6
 have o7:i.long=j.long:=by rw[R];exact j7
 have o8:i.tail.length=j.used%64:=by rw[R];show f.tail.length=_;rw[b8,b1]
 have j1:i.half=j.half:=by rw[R];exact j8
 have o9:i.num=j.num:=by rw[R];exact j9
 have l8:i.failed=b0:=by rw[R]
 clear R;obtain⟨j2,n0,cs,o,hh,a8⟩:=C;refine AY b7 [] [0,0,0,1,0,0,0,0,0,1,0,0,0,0,0,3] [0,1,2,3,4,5,6,7,8,9,10,11,12,13,14,15] fun r1 h5 l=>?_;have a6:=o;refine AK Z Z<|vd Z (fun _=>Ae Z)<|vd Z (fun _=>Aa Lz Z)<|vc Z l.kp (a6.mv.kb Au Z Z)<|AK Z Z<|vd Z (fun _=>Bp.BY gx Z)<|AK Z Z<|vd Z (fun _=>Ae Z)<|vd Z (fun _=>Aa Oh Z)<|vc Z l.kp (a6.mv.kb BK Z Z)<|vd Z (fun _=>Bp.BY gx Z)<|vd Z (fun _=>EX Z Z Ad Ad)<|vd Z (fun _=>AH Z Z oo oo) ?_;rw[show(i.used:Int)+((b.length:Int)-(i.tail.length:Int))=((j.used+24+EL L:Nat):Int) by omega];refine vd Z (fun _=>Ae Z)<|vd Z (fun _=>Aa Lz Z)<|WD.wild Z Z Z (AJ Au Z Z ra ra o.mv Z) ?_;rintro _ r2 ⟨o,h6⟩;refine WD.nil ?_;clear a6;clear l;refine Ab<|cg<|zm Z<|vq (Ae Z)<|vq (Aa Og Z)<|vq (Ah Au Z o.Ap Z)<|zm Z<|vq (Bp.BY gx Z)<|vq (AH Z Z oo oo) ?_;rw[show(i.long:Int)+(s.length:Int)=((j.long+EL L:Nat):Int) by omega];refine vq (Ae Z)<|vq (Aa Og Z)<|WR.AI (AJ Au Z Z ra ra o Z) ?_;rintro _ p9 ⟨o,e8⟩;refine Ac<|Ab<|cg<|zm Z<|zm Z<|zm Z<|vq (Bp.BY gx Z)<|vq (YZ Z Z oo)<|vq (Gz gx Z Z oo oo) ?_;refine vq (Ae Z)<|vq (Aa Oh Z)<|WR.AI (AJ BK Z Z ra ra o Z) ?_;rintro _ q0 ⟨o,e9⟩;refine Ac<|Ab<|cg<|zm Z<|vq (Ae Z)<|vq (Aa Of Z)<|vq (Ah Au Z o.Ap Z)<|vq (AH Z Z oo oo) ?_;rw[show(i.FD:Int)+1=((j.FD+1:Nat):Int) by omega];refine vq (Ae Z)<|vq (Aa Of Z)<|WR.AI (AJ Au Z Z ra ra o Z) ?_;rintro _ q1 ⟨o,h0⟩;refine Ac<|Ab<|AY b7 [93] [0,0,0,0,1,0,2,2,0,0,3] [0,1,2,3,4,5,6,7,8,9,10] fun q2 h1 l=>?_;refine AK Z Z<|AK Z Z<|vd Z (fun _=>Ae Z)<|vd Z (fun _=>Aa Sl Z)<|vc Z l.kp (o.mv.kb al Z Z)<|AK Z Z<|WD.AW Z Z Z (Al b7 8 (Ay.call pu Z (dE b4.mv.now oo hl))) Z ?_;rintro p2 q3 ⟨n1,c4,l7,⟨j3,k1,b2⟩⟩;refine l.AX c4 fun l=>?_;replace b2:=b2.Cl l7;obtain⟨g,cp,rfl,n9,n8⟩:=b2.BW oo;refine WD.AW Z Z Z (AN Hp Z Z a8.mv (Src.An Aez (b2.own.cells (AM oo)) b2.own.1 k1) EY Fb) Z ?_;rintro l9 q4 ⟨n2,c5,a8⟩;refine l.AX c5 fun l=>?_;have p0:=a8.Av;have p1:=a8.Aw;refine vd Z (fun _=>Ae Z)<|vd Z (fun _=>Aa Sl Z)<|WD.wild Z Z Z (AJ al Z Z ra ra o.mv Z) ?_;rintro _ q5 ⟨o,b5⟩;try replace l:=l.tr b5 Z
 refine WD.nil ?_;clear l;refine Ab<|cg<|za Z<|Ac<|Az Z Z ?_;obtain⟨c9,a7⟩:∃c9:JQ,c9=⟨i.life,j.FD+1,j.used+24+EL L,j.long+EL L,b.drop (b.length/64*64),i.half,i.failed,i.num+L.length⟩:=⟨_,Z⟩;refine⟨_,hJ.mv.out,A1,c9,0,By.MP U.mv hJ.mv,?_,k4,?_,?_,Z,fun e2 e3=>⟨Z,?_⟩,by decide⟩
 ·replace hJ:=(((((((((((((((hJ.mv e7).mv h2).mv h3).mv k5).mv h4).mv k6).mv k7).mv h5).mv h6).mv e8).mv e9).mv h0).mv h1).mv c4).mv c5).mv b5;refine⟨j2,l9,cs++j3,by rw[a7];exact o.out hJ Z,by rw[a7];exact(((((((((hh.mv h5).mv h6).mv e8).mv e9).mv h0).mv h1).mv c4).mv c5).mv b5).out hJ Z,by rw[a7];exact(a8.mv b5).out hJ Z⟩
 ·rw[a7];refine⟨by show i.half.length=n;rw[j1];exact c3,by show∀h∈i.half,_;rw[j1];exact b9,?_,by show j.long+EL L≤j.used+24+EL L;omega,by show j.used+24+EL L≤32704;omega,by show j.FD+1≤j.used+24+EL L;omega,by show i.num+L.length≤j.used+24+EL L;omega,by show i.life≤_;omega⟩;show(b.drop (b.length/64*64)).length=(j.used+24+EL L)%64
  rw[lz];omega
 ·rw[a7];exact lx _
 rw[a7];show i.failed=false;rw[l8];exact k8
end Go.Proofs.K
namespace Silo
def Fg(n:Nat):List Int:=(List.range n).map fun(k:Nat)=>(k:Int)
theorem Po(n:Nat):(Fg n).length=n:=by simp[Fg]
theorem Vp(n:Nat):Fg (n+1)=Fg n++[(n:Int)]:=by simp[Fg,ZZ]
theorem we:∀n:Nat,Go.Lib.repeatL [0] n=List.replicate n (0:UInt8)
 |0=>rfl
 |n+1=>by rw[Go.Lib.repeatL,we n];rfl
theorem Vq{s:Cn}{t:Tx}(h:t.length≤s.k*s.size):(JP s t).length=s.k∧∀x∈JP s t,x.length=s.size:=by
 refine⟨by simp[JP],fun x hx=>?_⟩;obtain⟨i,hi,rfl⟩:=zc.1 hx;rw[Aac] at hi;have:(i+1)*s.size≤s.k*s.size:=yL _ hi;rw[yS,zS] at this;rw[ly,lz,bU,yX];omega
theorem Vr(a b:Tx):Gm (a++b)=(Gm a&&Gm b):=by simp[Gm]
theorem dF(b:UInt8):decide (((b.toNat:Nat):Int)=0)=decide (some b=some 0):=by
 rw[decide_eq_decide];constructor
 ·intro h;congr 1;apply Aew.1;show b.toNat=0
  omega
 ·intro h;injection h with h;subst h;rfl
theorem fL{s:Tx}(h:Gm s=true){b:UInt8}(f:b∈s):b=0:=by
 rw[Gm,zK] at h;simpa using h b f
theorem fM:∀xs:List Tx,Go.Lib.join xs []=xs.flatten
 |[]=>rfl
 |x::r=>by
  rw[Go.Lib.join_cons,VM,Go.Lib.joinTail];congr 2;rw[Ac8 (g:=id) (by intro a _;simp),Af9]
theorem Zo{L:List Tx}(h:L=[]∨Bn 120<L.length∨(L.any fun t=> !decide (t.length=64))=true):GN L=none:=by rw[GN,yP h]
theorem jM:∀{L:List Tx},(∀x∈L,x.length=64)→L.flatten.length=64*L.length
 |[],_=>rfl
 |a::l,h=>by
  rw[VM,bU,jM (fun x hx=>h x (Aad _ hx)),h a (Aag),yZ];omega
theorem fN{l:Tx}(h:l.length=2):DT l<65536:=by
 have:=NY l;rw[h] at this;exact this
theorem Vs{l:Tx}(h:l.length=4):DT l<4294967296:=by
 have:=NY l;rw[h] at this;exact this
theorem dG:∀{L:List Tx},(∀x∈L,x.length≤64)→L.flatten.length≤64*L.length
 |[],_=>lx _
 |a::l,h=>by
  have h1:=dG (L:=l) (fun x hx=>h x (Aad _ hx));have f:=h a Aag;rw[VM,bU,yZ];omega
theorem Re{A:Cr}{d f:Int}{k:Nat}(h:(Cb A d (f+(k:Nat))).2≠0):∀m,k<m→DN A d f m=none
 |0,h0=>by omega
 |m+1,h0=>by
  rw[DN];rcases yT k m with h1|h1
  ·rw[Re h m h1]
  ·have e:m=k:=oo;subst e;cases DN A d f m with
   |none=>rfl
   |some l=>dsimp only;rw[if_neg h]
theorem Rf{A:Cr}{d f:Int}{k:Nat}{l:List Tx}(h1:DN A d f k=some l)(h:(Cb A d (f+(k:Nat))).2=0):DN A d f (k+1)=some (l++[(Cb A d (f+(k:Nat))).1]):=by
 rw[DN,h1];dsimp only;rw[if_pos h]
theorem ba{A:Cr}{s:Cn}{x:CZ}{i:Nat}{q:Int×Int}(h1:x.place[i]?=some q)(f:DN A q.1 (1024+q.2*(Ee s:Nat)) (Ee s)=none):DW A s x i=([],false):=by
 rw[DW,h1];dsimp only;rw[f]
theorem bb{A:Cr}{s:Cn}{x:CZ}{i:Nat}{q:Int×Int}{l:List Tx}(h1:x.place[i]?=some q)(f:DN A q.1 (1024+q.2*(Ee s:Nat)) (Ee s)=some l):DW A s x i=if IS l x.id x.gen (i:Nat)=2 then match GN l with
 |none=>([],false)
 |some h=>(h.text,decide (h.text.length=s.size))
 else([],false):=by
 rw[DW,h1];dsimp only;rw[f];rfl
theorem Kk(A:Cr)(s:Cn)(x:CZ):(Dd A s x).length=s.k+s.m:=by simp[Dd]
theorem MF(A:Cr)(s:Cn)(x:CZ):(HF A s x).length=s.k+s.m:=by simp[HF]
theorem fO{A:Cr}{s:Cn}{x:CZ}{i:Nat}(h:(DW A s x i).2=true):(DW A s x i).1.length=s.size:=by
 revert h;unfold DW;split
 ·intro h;cases h
 ·split
  ·intro h;cases h
  ·split
   ·split
    ·intro h;cases h
    ·intro h;simpa using h
   ·intro h;cases h
theorem jN{A:Cr}{s:Cn}{x:CZ}{i:Nat}:(DW A s x i).1.length≤120:=by
 unfold DW;split
 ·simp
 ·split
  ·simp
  ·split
   ·rename_i hc;obtain⟨j,f,_⟩:=SZ hc;rw[f];dsimp only;unfold GN at f;split at f
    ·cases f
    ·split at f
     ·cases f
     ·split at f
      ·rename_i g;injection f with f;rw[←f];exact(NJ g.1).2.2.2.2
      ·cases f
   ·simp
theorem Rg{A:Cr}{s:Cn}{x:CZ}(i:Nat)(h1:i<(Dd A s x).length)(f:i<(HF A s x).length)(h:(Dd A s x)[i]=true):(HF A s x)[i].length=s.size:=by
 simp only[Dd,HF,Ach,List.getElem_range] at h⊢;exact fO h
theorem Tz{m:Mx}{l:List Tx}{n:Nat}(g:m.ok)(hc:m.c≤l.length)(h1:1≤m.c)(o:∀x∈l,x.length=n):(Nw m l).length=m.r∧∀x∈Nw m l,x.length=n:=by
 refine⟨by simp[Nw],fun x hx=>?_⟩;obtain⟨i,hi,rfl⟩:=zc.1 hx;rw[Aac] at hi;have hg:∀k,k<m.c→(l.getD k []).length=n:=fun k hk=>by
  rw[gy,aa oo];exact o _ (oy oo)
 refine HH _ _ _ (by rw[yX];exact hg 0 oo) fun j _ f=>?_;rw[Mx.EJ g hi] at f;rw[hg j oo];exact lx _
theorem jO{A:Cr}{s:Cn}{b:Bk}{t:Tx}{L:List Int}{j:Nat}(f:j<L.length):Qf A s b t (L.drop j)=match JD A s b L[j] with
 |none=>none
 |some u=>Qf A s b (t++u) (L.drop (j+1)):=by
 rw[zO f,Qf];rfl
theorem bc{A:Cr}{s:Cn}{b:Bk}{id:Int}{k:Nat}{x:CZ}(h1:ID b.stripes id=some k)(f:b.stripes[k]?=some x):JD A s b id=match Hi A s x with
 |none=>none
 |some l=>QV s (l.take s.k) x.len:=by
 rw[JD,h1];dsimp only;rw[f];rfl
theorem Vt{s:Cn}{l:List Tx}{n:Int}{t:Tx}(h:QV s l n=some t):t.length≤s.k*s.size:=by
 unfold QV at h;split at h
 ·rename_i f;injection h with h;rw[←h,ly];omega
 ·cases h
def Fy(A:Cr)(s:Cn)(b:Bk)(d:Tx):Tx×Int:=
 if(JE A s b d).2≠0 then([],8) else if AV (JE A s b d).1≠d then([],7) else((JE A s b d).1,0)
theorem fP(A:Cr)(s:Cn)(b:Bk)(d:Tx):(Fy A s b d).2=0∨(Fy A s b d).2=7∨(Fy A s b d).2=8:=by
 unfold Fy;split
 ·exact .inr (.inr Z)
 ·split
  ·exact .inr (.inl Z)
  ·exact .inl Z
theorem fQ{A:Cr}{s:Cn}{b:Bk}{d:Tx}{n:Nat}(l:Dv s b=true)(hs:s.k*s.size≤n):(JE A s b d).1.length≤n*(2000+n):=by
 have key:∀(L:List Int) (t u:Tx),Qf A s b t L=some u→u.length≤t.length+n*L.length:=by
  intro L;induction L with
  |nil=>intro t u h;rw[Qf] at h;injection h with h;subst h;simp
  |cons a r p=>
   intro t u h;rw[Qf] at h;cases f:JD A s b a with
   |none=>rw[f] at h;cases h
   |some y=>
    rw[f] at h;have g:=p _ _ h;have hy:y.length≤n:=by
     unfold JD at f;split at f
     ·cases f
     ·split at f
      ·cases f
      ·split at f
       ·cases f
       ·exact zz (Vt f) hs
    rw[bU] at g;rw[yZ,Nat.mul_succ];omega
 unfold JE;split
 ·simp
 ·split
  ·simp
  ·rename_i e o;split
   ·simp
   ·rename_i t ht;have g:=key _ _ _ ht;obtain⟨_,C,I,i,_⟩:=LW (DV l).2.2.1 e (zx o);have j:e.list.length≤2000+n:=by
     rw[i,BF];have:=Adb (e.len.toNat+s.k*s.size-1) (s.k*s.size);omega
    dsimp only;have J:n*e.list.length≤n*(2000+n):=Nat.mul_le_mul_left _ j;simp only[List.length_nil] at g;omega
end Silo
namespace Go.Proofs.K
open Go Go.Eng Go.RowKit Silo TryzT
theorem TA{v:Value}{l:List Bool}(h0:Rd En w v l)(hl:l.length≤1048576):Calls QP 216 #[v] w (AP fun p w'=>Below w.heap.size w w'∧BJ w' w.heap.size 4 1 p l.length (l.flatMap (fun x=>[.bool x]))):=by
 obtain⟨c,g,hc⟩:=AQ.start w;have j:Bi En c w [0] v l:=Rd.Cl h0 (fun k hk=>by simp[hc,AA]);clear hc;have o:=h0.addr;obtain⟨A,cp,rfl,_⟩:=h0.form;clear h0;refine enter (n:=8) (res:=#[.tmp 2]) Tryz.func216 Z Z Z Z<|Ab<|cg<|za Z<|Ac<|Ab<|Ab<|cg<|zm Z<|vq (OA Aa7 Z)<|Ac<|AS Z (fun i=>?_) fun i=>?_
 ·refine Ab<|cg<|za Z<|Ac ?_;refine Az Z Z ?_;have h0:l=[]:=by
   cases l with
   |nil=>rfl
   |cons a r=>
    obtain⟨b,c',h⟩:=o ss;injection h with h _ _;rw[h] at i;cases i
  subst h0;exact⟨g.below,BJ.nil _ _ _ _⟩
 refine Aj<|Ab<|cg<|ve ((IB c FR)) ?_;rintro I w1 ⟨c1,t,⟨b5,rfl⟩⟩;have f:Ao c1 w1 50 4 1 (.slice (some ⟨b5,0,none⟩) 0 0) 0 []:=KA;refine zm Z<|ve (AN FR Z Z f (Src.flat Aa7 j.mv.now) EY Fb) ?_;rintro J w2 ⟨c2,C,f⟩;rw[Aaz,PB] at f;refine za Z<|Ac<|Az Z Z ?_;exact⟨g.mv.below,f.Gu g.mv dd⟩
theorem nH{n:Nat}(a1:n≤100000):Calls QP 221 #[I n] w (AP fun u w'=>Below w.heap.size w w'∧BJ w' w.heap.size 3 1 u n ((Fg n).map I)):=by
 obtain⟨c,j,hc⟩:=AQ.start w;clear hc;refine enter (n:=14) (res:=#[.tmp 2]) Tryz.func221 Z Z Z Z<|Ab<|cg<|za Z<|Ac<|Ab<|Ab ?_;have f:=Ao.nil c w 8 3 1;refine cg<|zm Z<|zm Z<|Ac<|Ai<|WC.loop (σ:=Nat×Value) (fun g=>[(2,g.2),(4,I n),(5,I g.1)]) (fun g w'=>g.1≤n∧∃c',AQ w c' w'∧Ao c' w' 8 3 1 g.2 g.1 ((Fg g.1).map I)) (fun g=>n-g.1) (0,_) Aq ⟨Nat.zero_le _,_,j,f⟩ ?_;clear j f;rintro⟨i,a6⟩ a7 ⟨hi,o,j,f⟩;dsimp only at hi f;have r:=f.Av;have t:=f.Aw;refine Ab<|cg<|vq (AE Z Z)<|Ac<|Ab<|AS Z (fun p=>?_) fun p=>?_
 ·have U:i<n:=oo;refine Aj<|Ab<|Ai<|Ab<|cg<|zm Z<|za Z<|Ac<|cg<|zm Z<|zm Z<|ve (Bb o 110 Bu Z Z Z Z Z) ?_;rintro _ w1 ⟨C,c1,rfl,J,l⟩;refine ve (AN Bu Z Z f.mv (Src.An Tryz.underlying23 l.Ap.An Z AG) EY Fb) ?_;rintro v11 w2 ⟨c2,R,f⟩;clear l;have r:=f.Av;have t:=f.Aw;refine za Z<|Ac<|cg<|vq (AH Z Z Ad Ad)<|zm Z<|Ac ?_;exact⟨(i+1,_),Aq,⟨by dsimp only;omega,_,j.mv,by dsimp only;rw[Vp,List.map_append];exact f⟩,by show n-(i+1)<n-i;omega⟩
 have e:i=n:=oo;subst e;refine WC.exit Z<|Ab<|cg<|zm Z<|za Z<|Ac<|Az Z Z ?_;exact⟨j.below,f.KN j dd⟩
theorem bd{v:Value}{l:List Int}(h:Rd Bw w v l):Calls QP 214 #[v] w (AP fun u w'=>Below w.heap.size w w'∧∃b:Bool,u= .bool b):=by
 have b1:=h.small;obtain⟨c,f,hc⟩:=AQ.start w;clear hc;have g:=f.rd h;refine enter (n:=32) (res:=#[.tmp 2]) Tryz.func214 Z Z Z Z<|Ab<|cg<|za Z<|Ac<|Ab<|Ab<|cg<|zm Z<|vq (BI Bu) ?_;refine zm Z<|Ac<|Ai<|WC.loop (σ:=Nat) (fun i=>[(0,v),(5,v),(6,I l.length),(7,I i)]) (fun i w'=>i≤l.length∧∃c',AQ w c' w'∧Bi Bw c' w' [0] v l) (fun i=>l.length-i) 0 Aq ⟨yU _,_,f,g⟩ ?_;clear f g;rintro i b2 ⟨hi,R,f,g⟩;refine Ab<|cg<|vq (AE Z Z)<|Ac<|Ab<|AS Z (fun t=>?_) fun t=>?_
 ·have J:i<l.length:=oo;obtain⟨j,a6⟩:=BP g J dd;obtain⟨o,a1⟩:=BP g (show i-1<l.length by omega) dd;obtain⟨a,p⟩:∃a,a=l[i]:=⟨_,Z⟩;obtain⟨b,r⟩:∃b,b=l[i-1]:=⟨_,Z⟩;rw[←p] at j;rw[←r] at o;refine Aj<|Ab<|Ai<|Ab<|cg<|zm Z<|vq (ER Bu) ?_;refine vq (Bl Au Z j.CY)<|za Z<|za Z<|Ac<|Ab<|cg<|zm Z<|vq (AE Z Z)<|zm Z ?_;apply WR.CJ false 2 _ BT
  ·intro b0;refine wo<|zm rfl<|wo<|vq (Cu rfl rfl) ?_;exact Dm 2
  refine zm Z ?_;apply WR.CJ false 11 _ BT
  ·intro a8;refine wo<|zm rfl<|wo<|vq (BZ rfl rfl)<|wo<|zm rfl ?_;apply WR.CJ true 7 _ BT
   ·intro a7;have U:0<i:=oo;refine wo<|zm rfl<|wo<|zm rfl<|wo<|zm rfl<|wo<|vq (EX rfl rfl Ad Ad)<|wo ?_;refine vq (LH Bu g rfl rfl oo oo) ?_;rw[show((i:Int)-1).toNat=i-1 by omega];refine wo<|vq (Bl Au rfl o.CY)<|wo<|vq (FV rfl rfl) ?_;exact Dm 7
   exact Dm 4
  refine Ac<|AS Z (fun C=>?_) fun C=>?_
  ·refine Ab<|cg<|za Z<|Ac<|Az Z Z ?_;exact⟨f.below,_,Z⟩
  refine Aj<|cg<|vq (AH Z Z Ad Ad)<|zm Z<|Ac ?_;exact⟨i+1,Aq,⟨by omega,_,f,g⟩,by omega⟩
 refine WC.exit Z<|Ab<|cg<|za Z<|Ac<|Az Z Z ?_;exact⟨f.below,_,Z⟩
theorem jP{v:Value}{l:List Int}(h:Rd Bw w v l):Calls QP 213 #[v] w (AP fun u w'=>Below w.heap.size w w'∧∃b:Bool,u= .bool b):=by
 obtain⟨c,f,hc⟩:=AQ.start w;clear hc;have g:=f.rd h;refine enter (n:=6) (res:=#[.tmp 2]) Tryz.func213 Z Z Z Z<|Ab<|cg<|za Z<|Ac<|Ab<|cg<|zm Z<|ve (Al c 1 (Ay.call tX Z (bd g.now))) ?_;rintro v4 w1 ⟨c1,i,j,⟨b,rfl⟩⟩;refine vq (Bq Z)<|za Z<|Ac<|Az Z Z ?_;exact⟨f.mv.below,_,Z⟩
theorem nI{v:Value}{F:List (List Int)}(h:Rd MQ w v F):Calls QP 308 #[v, .func (.func 213) #[] #[]] w (AP fun u w'=>Below w.heap.size w w'∧∃i:Int,u=I i):=by
 have C:=h.small;obtain⟨c,f,hc⟩:=AQ.start w;clear hc;have g:=f.rd h;refine enter (n:=19) (res:=#[.tmp 4]) Tryz.func308 Z Z Z Z<|Ab<|cg<|za Z<|Ac<|Ab<|Ab<|cg<|zm Z<|vq (BI Hn) ?_;refine zm Z<|Ac<|Ai<|WC.loop (σ:=Nat) (fun i=>[(0,v),(1, .func (.func 213) #[] #[]),(7,I F.length),(8,I i)]) (fun i w'=>i≤F.length∧∃c',AQ w c' w'∧Bi MQ c' w' [0] v F) (fun i=>F.length-i) 0 Aq ⟨yU _,_,f,g⟩ ?_;clear f g;rintro i a6 ⟨hi,j,f,g⟩;refine Ab<|cg<|vq (AE Z Z)<|Ac<|Ab<|AS Z (fun o=>?_) fun o=>?_
 ·have r:i<F.length:=oo;obtain⟨u,l,hu⟩:=KR g r;have R:=hu.now.Av;have U:=hu.now.Aw;refine Aj<|Ab<|Ai<|Ab<|cg<|zm Z<|za Z<|Ac<|Ab<|cg<|zm Z<|zm Z<|zm Z<|vq (ER Hn) ?_;refine vq (Bl BL Z l.CY)<|ve (Al j 1 (Gg Z tW Z (jP hu.now))) ?_;rintro a1 w1 ⟨c1,t,J,⟨b,rfl⟩⟩;refine Ac<|AS Z (fun p=>?_) fun p=>?_
  ·refine Ab<|cg<|zm Z<|za Z<|Ac<|Az Z Z ?_;exact⟨f.mv.below,_,Z⟩
  refine Aj<|cg<|vq (AH Z Z Ad Ad)<|zm Z<|Ac ?_;exact⟨i+1,Aq,⟨by omega,_,f.mv,g.mv⟩,by omega⟩
 refine WC.exit Z<|Ab<|cg<|za Z<|Ac<|Az Z Z ?_;exact⟨f.below,-1,Z⟩
theorem nJ{v:Value}{F:List (List Int)}(h:Rd MQ w v F):Calls QP 215 #[v, .func (.func 213) #[] #[]] w (AP fun u w'=>Below w.heap.size w w'∧∃b:Bool,u= .bool b):=by
 obtain⟨c,f,hc⟩:=AQ.start w;clear hc;have g:=f.rd h;refine enter (n:=9) (res:=#[.tmp 4]) Tryz.func215 Z Z Z Z<|Ab<|cg<|za Z<|Ac<|Ab<|cg<|zm Z<|zm Z<|ve (Al c 1 (Ay.call uS Z (nI g.now))) ?_;rintro o w1 ⟨c1,j,l,⟨i,rfl⟩⟩;refine vq (Cu Z Z)<|za Z<|Ac<|Az Z Z ?_;exact⟨f.mv.below,_,Z⟩
theorem jQ{s:Cn}{t:Tx}(h:s.ok)(h1:1≤t.length)(ht:t.length≤s.k*s.size):Calls QP 177 #[.agg (DO s).toArray,St t] w (AP fun v w'=>Below w.heap.size w w'∧∃a7,v= .tuple #[a7,I 0]∧BJ w' w.heap.size 9 1 a7 s.k ((JP s t).map St)):=by
 have b5:=h;obtain⟨a8,b7,b8,b0,b9⟩:=id h;obtain⟨P,o⟩:∃P,P=s.k*s.size:=⟨_,Z⟩;have e1:1≤P:=by rw[o];exact yQ a8 b0
 have e2:P≤8*200:=by rw[o];exact yQ oo oo
 have p:(s.k:Int)*(s.size:Int)=(P:Nat):=by rw[o];simp
 have e5:=ht;rw[←o] at ht;have b6:t≠[]:=by intro e;rw[e] at h1;simp at h1
 obtain⟨c,l,b4⟩:=AQ.start w;clear b4;refine enter (n:=57) (res:=#[.tmp 4, .tmp 5]) Tryz.func177 Z Z Z Z<|Ab<|cg<|Dz c 102 fun w1 b2 c1 c6 f=>?_;refine za Z<|za Z<|Ac<|Ab<|Ab<|cg<|vq (AD Cq Z f.Ap Z)<|ve (Al c1 1 (Ay.call QG Z (JG b5))) ?_;rintro h5 w2 ⟨c2,c7,e8,rfl⟩;refine vq (Bq Z)<|zm Z ?_;apply WR.CJ false 2 _ BT
 ·intro e7;refine wo<|zm rfl<|wo<|vq (Xs rfl rfl) ?_;exact Dm 2
 refine zm Z ?_;apply WR.CJ false 8 _ BT
 ·intro e6;refine wo<|zm rfl<|wo<|vq (Bp.BY gx rfl)<|wo<|vq (Aa Ce rfl)<|wo<|vq (Ah Au rfl f.mv.Ap rfl)<|wo ?_;refine vq (Aa DL rfl)<|wo<|vq (Ah Au rfl f.mv.Ap rfl)<|wo<|vq (FZ rfl rfl (by rw[p];omega) (by rw[p];omega))<|wo<|vq (BZ rfl rfl) ?_;exact Dm 8
 refine Ac<|CD Z (fun a1=>?_) fun a1=>?_
 ·exact absurd a1 (by rw[p];simp[b6];omega)
 refine Aj<|Ab<|cg<|zm Z<|vq (Aa Ce Z)<|vq (Ah Au Z f.mv.Ap Z)<|vq (Aa DL Z)<|vq (Ah Au Z f.mv.Ap Z)<|vq (FZ Z Z Ad Ad) ?_;refine zm Z<|vq (Bp.BY gx Z)<|vq (EX Z Z Ad Ad) ?_;refine ve (Al c2 1 (Ay.call lZ Z (by have a6:=KJ (w:=w2) (s:=[0]) (n:=P-t.length) (by simp;omega) oo;rw[we,show((P-t.length:Nat):Int)=(s.k:Int)*(s.size:Int)-(t.length:Int) by rw[p];omega] at a6;exact a6))) ?_;rintro h3 h6 ⟨c3,c8,e9,rfl⟩;obtain⟨T,C⟩:∃T,T=t++List.replicate (P-t.length) 0:=⟨_,Z⟩;have e3:T.length=P:=by rw[C,bU,yX];omega
 refine vq (dU Z Z (by simp;omega))<|za Z<|Ac<|Ab ?_;rw[←C];refine cg<|za Z<|Ac<|Ab<|Ab<|cg<|vq (Aa Ce Z)<|vq (Ah Au Z f.mv.Ap Z)<|zm Z<|Ac<|Ai<|WC.loop (σ:=Nat×Value) (fun g=>[(1,St T),(2, .pointer (some ⟨b2,0,none⟩)),(6,g.2),(37,I s.k),(38,I g.1)]) (fun g w'=>g.1≤s.k∧∃c',AQ w c' w'∧Ar c' w' 102 b2 (DO s) 31∧Ao c' w' 6 9 1 g.2 g.1 ((List.range g.1).map fun i=>St ((T.drop (i*s.size)).take s.size))) (fun g=>s.k-g.1) (0, .slice none 0 0) Aq ⟨Nat.zero_le _,_,l.mv,f.mv,Ao.nil _ _ _ _ _⟩ ?_;clear l f;rintro⟨i,v6⟩ h9 ⟨hi,b1,l,f,j⟩;dsimp only at hi l f j;refine Ab<|cg<|vq (AE Z Z)<|Ac<|Ab<|AS Z (fun b3=>?_) fun b3=>?_
 ·have h0:=j.Aw;have h2:=j.Av;obtain⟨a,J⟩:∃a,a=i*s.size:=⟨_,Z⟩;have r:(i:Int)*(s.size:Int)=(a:Nat):=by rw[J];simp
  have R:((i:Int)+1)*(s.size:Int)=((a+s.size:Nat):Int):=by rw[Int.add_mul,r];simp
  have e4:a+s.size≤P:=by
   have:(i+1)*s.size≤s.k*s.size:=yL _ oo;rw[yS,zS,←J,←o] at this;exact this
  refine Aj<|Ab<|Ai<|Ab<|cg<|zm Z<|za Z<|Ac<|cg ?_;refine zm Z<|zm Z<|zm Z<|vq (Aa DL Z)<|vq (Ah Au Z f.Ap Z)<|vq (FZ Z Z (by rw[r];omega) (by rw[r];omega)) ?_;rw[r];refine zm Z<|vq (AH Z Z Ad Ad)<|vq (Aa DL Z)<|vq (Ah Au Z f.Ap Z)<|vq (FZ Z Z (by rw[R];omega) (by rw[R];omega)) ?_;rw[R];refine vq (Bp.sslice gx Z Z Z Ad Ad Ad) ?_;refine ve (Bb b1 153 BE Z Z Z Z Z) ?_;rintro _ h7 ⟨c0,c4,rfl,c9,U⟩;refine ve (AN BE Z Z j.mv (Src.An zb U.Ap.An Z AG) EY Fb) ?_;rintro h4 h8 ⟨c5,e0,j⟩;clear U;refine za Z<|Ac<|cg<|vq (AH Z Z Ad Ad)<|zm Z<|Ac ?_;refine⟨(i+1,_),Aq,⟨by omega,_,l.mv,f.mv,?_⟩,by show s.k-(i+1)<s.k-i;omega⟩;rw[pv,pv,Aap,J] at j;rw[ZZ,zB,Abp];exact j
 have e:i=s.k:=oo;subst e;refine WC.exit Z<|Ab<|cg<|zm Z<|za Z<|za Z<|Ac<|Dn Z Z Z<|⟨l.below,_,Z,?_⟩;have:=j.KN l dd;rw[JP,Abd,←o,←C];exact this
theorem jR{s:Tx}(hs:s.length≤1048576):Calls QP 254 #[St s, .int .u8 0] w (AP fun v w'=>Below w.heap.size w w'∧∃m,m≤s.length∧v=St (s.drop m)∧Gm (s.take m)=true∧(m<s.length→s[m]?≠some 0)):=by
 have i:Bz w w:=Bz.refl w;refine enter (n:=17) (res:=#[.tmp 4]) Tryz.func254 Z Z Z Z<|Ab<|cg<|za Z<|Ac<|Ab<|Ai<|WC.loop (σ:=Nat) (fun m=>[(0,St (s.drop m)),(1, .int .u8 0)]) (fun m w'=>Bz w w'∧m≤s.length∧Gm (s.take m)=true) (fun m=>s.length-m) 0 Aq ⟨i,by omega,Z⟩ ?_;rintro m t ⟨i,o,l⟩;refine Ab<|Ab<|cg<|zm Z<|vq (Bp.BY gx Z)<|vq (BZ Z Z)<|zm Z ?_;apply WR.CJ true 4 (decide (s[m]?=some 0)) BT
 ·intro p;have j:m<s.length:=by rw[lz] at p;omega
  refine wo<|zm Z<|wo<|vq (Gy gx Z Z oo (by rw[Aaw];exact aa oo))<|wo<|zm Z<|wo<|vq (AU Z Z) ?_;exact Dm 4 ((by rw[aa j,←dF];rfl))
 refine Ac<|AS Z (fun f=>?_) fun f=>?_
 ·rw[lz] at f;have j:m<s.length:=oo;refine Aj<|Ai<|cg<|zm Z<|vq (Gz gx Z Z oo (by rw[lz];omega)) ?_;rw[Abj,show m+(1:Int).toNat=m+1 from Z];refine za Z<|Ac ?_;have r:Gm (s.take (m+1))=true:=by
   have g:=aa j;rw[f.2] at g;injection g with g;rw[yG j,Vr,l,←g];rfl
  exact⟨m+1,Aq,⟨i,by omega,r⟩,by omega⟩
 refine WC.exit Z<|Ab<|cg<|zm Z<|za Z<|Ac<|Az Z Z<|⟨i,m,o,Z,l,fun h e↦?_⟩;rw[lz,e] at f;rw[Aal (show(0:Int)<((s.length-m:Nat):Int) by omega)] at f;simp at f
theorem jS{s:Tx}(hs:s.length≤1048576):Calls QP 255 #[St s, .int .u8 0] w (AP fun v w'=>Below w.heap.size w w'∧∃n,n≤s.length∧v=St (s.take n)∧Gm (s.drop n)=true∧(0<n→s[n-1]?≠some 0)):=by
 have g:Bz w w:=Bz.refl w;refine enter (n:=23) (res:=#[.tmp 4]) Tryz.func255 Z Z Z Z<|Ab<|cg<|za Z<|Ac<|Ab<|Ai ?_;refine WC.loop (σ:=Nat) (fun n=>[(0,St (s.take n)),(1, .int .u8 0)]) (fun n w'=>Bz w w'∧n≤s.length∧Gm (s.drop n)=true) (fun n=>n) s.length (by rw[yM (lx _)];exact Aq) ⟨g,by omega,by rw[Rx (lx _)];rfl⟩ ?_;rintro n t ⟨g,l,j⟩;have hl:(s.take n).length=n:=by rw[ly];omega
 refine Ab<|Ab<|cg<|zm Z<|vq (Bp.BY gx Z)<|vq (BZ Z Z)<|zm Z ?_;apply WR.CJ true 7 (decide (s[n-1]?=some 0)) BT
 ·intro r;have o:0<n:=oo;refine wo<|zm rfl<|wo<|zm rfl<|wo<|vq (Bp.BY gx rfl)<|wo<|vq (EX rfl rfl Ad Ad)<|wo ?_;refine vq (Gy gx rfl rfl oo (by rw[Aav,yP oo,show((((s.take n).length:Nat):Int)-1).toNat=n-1 by omega];exact aa oo))<|wo<|zm rfl<|wo<|vq (AU rfl rfl) ?_;exact Dm 7 ((by rw[aa (show n-1<s.length by omega),←dF];rfl))
 refine Ac<|AS Z (fun i=>?_) fun i=>?_
 ·have o:0<n:=oo;refine Aj<|Ai<|cg<|zm Z<|zm Z<|vq (Bp.BY gx Z)<|vq (EX Z Z Ad Ad)<|vq (JT gx Z Z oo oo) ?_;rw[Acg,show min ((((s.take n).length:Nat):Int)-1).toNat n=n-1 by omega];refine za Z<|Ac ?_;have p:Gm (s.drop (n-1))=true:=by
   have f:=aa (show n-1<s.length by omega);rw[i.2] at f;injection f with f;rw[zO (show n-1<s.length by omega),←f,show n-1+1=n by omega];exact j
  exact⟨n-1,Aq,⟨g,by omega,p⟩,by omega⟩
 refine WC.exit Z<|Ab<|cg<|zm Z<|za Z<|Ac<|Az Z Z<|⟨g,n,l,Z,j,fun h e↦?_⟩;rw[e,Aal (show(0:Int)<(((s.take n).length:Nat):Int) by omega)] at i;simp at i
theorem dH{s:Tx}(hs:s.length≤1048576):Calls QP 167 #[St s,St [0]] w (AP fun v w'=>Below w.heap.size w w'∧∃r,v=St r∧decide (r=[])=Gm s):=by
 obtain⟨c,i,R⟩:=AQ.start w;clear R;refine enter (n:=43) (res:=#[.tmp 4]) Tryz.func167 Z Z Z Z<|Ab<|cg<|za Z<|Ac<|Ab<|Ab<|cg<|zm Z<|vq (Xs Z Z)<|zm Z ?_;apply WR.CJ false 2 _ BT
 ·intro b3;refine wo<|zm rfl<|wo<|vq (Xs rfl rfl) ?_;exact Dm 2
 refine Ac<|AS Z (fun j=>?_) fun j=>?_
 ·refine Ab<|cg<|zm Z<|za Z<|Ac ?_;refine Az Z Z ?_;have e:s=[]:=by simpa using j
  subst e;exact⟨i.below,_,Z,Z⟩
 refine Aj<|Ab<|Ab<|cg<|zm Z<|vq (Bp.BY gx Z)<|vq (AU Z Z)<|zm Z ?_;apply WR.CJ true 3 _ BT
 ·intro b4;refine wo<|zm rfl<|wo<|vq (Gy gx rfl rfl oo (by rfl))<|wo<|vq (AE rfl rfl) ?_;exact Dm 3
 refine Ac<|Sb Z (fun l=>?_) fun l=>?_
 ·refine Ab ?_;refine AY c [] [0,0,0,2,0,0,2,0] [0,1,2,4,5,3,6,7] fun w1 a8 f=>AK Z Z<|AK Z Z<|vd Z (fun _=>Gy gx Z Z oo (by rfl))<|AK Z Z<|vd Z (fun _=>Gy gx Z Z oo (by rfl)) ?_;refine WD.AW Z Z Z (Al c 1 (Ay.call um Z (jS hs))) Z ?_;rintro b7 w2 ⟨c2,I,b5,⟨n,b1,rfl,a6,U⟩⟩;refine f.AX I fun f=>?_;refine WD.AW Z Z Z (Al c2 1 (Ay.call ul Z (jR (s:=s.take n) (by rw[ly];omega)))) Z ?_;rintro b8 b9 ⟨a7,J,b6,⟨m,b0,rfl,o,b2⟩⟩;refine f.AX J fun f=>Ga Z Z<|WD.nil ?_;clear f;refine Az Z Z<|⟨i.mv.below,_,Z,?_⟩;have a1:=zM n s;have hl:(s.take n).length=n:=by rw[ly];omega
  rw[Ab6,yI];constructor
  ·intro e;have t:=zC List.length e;rw[lz,Aa6] at t;rw[yM oo] at o;rw[←a1,Vr,o,a6];rfl
  intro e;have p:n=0:=by
   rcases zX n with h|h
   ·exact h
   have g:=aa (show n-1<s.length by omega);have C:=fL e (oy (show n-1<s.length by omega));rw[C] at g;exact absurd g (U h)
  subst p;simp
 exact absurd l dd
theorem Xa{v:Value}{L:List Tx}(h:Rd CL w v L)(hp:Dc v)(hl:L.length≤1048576)(a1:L.flatten.length≤140737488355328):Calls QP 166 #[v,St []] w (AP fun a8 w'=>Below w.heap.size w w'∧a8=St L.flatten):=by
 obtain⟨A,n,c,rfl,o⟩:=hp;have a7:L.length=n:=by obtain⟨J,c',i,_⟩:=h.form;injection i with _ i _;exact i.symm
 have hc:n≤c:=by obtain⟨J,c',i,hc,_⟩:=h.form;injection i with _ _ i;omega
 subst a7;rcases zX L.length with l|l
 ·have U:L=[]:=yJ l;subst U;refine(Tryz.strings_Join_none A c ⟨#[]⟩ w).mono fun e w' i=>?_;obtain⟨rfl,rfl⟩:=i;exact⟨_,Z,zy _ _,Z⟩
 obtain⟨b,off,o⟩:=o l;subst o;have p:b<w.heap.size:=by
  have:=h.PI (show 0<L.length from l);simpa[Bh,El] using this
 obtain⟨f,t⟩:∃f:Tx→ByteArray,f=fun x=>⟨x.toArray⟩:=⟨_,Z⟩;have R:(L.map f).map (·.data.toList)=L:=by
  rw[Abd,Ac8 (g:=id) (by intro a _;rw[t];simp),Af9]
 have r:(Go.Lib.join ((L.map f).map (·.data.toList)) (ByteArray.mk #[]).data.toList)=L.flatten:=by
  rw[R];exact fM L
 have I:=Tryz.strings_Join b off c (L.map f) ⟨#[]⟩ w (fun j x C=>by
  rw[yY] at C;obtain⟨y,hy,rfl⟩:=Aam.1 C;obtain⟨a6,rfl⟩:=yO.1 hy;obtain⟨cs,hc,rfl,_⟩:=h.el a6;have:=hc.1 0 (St L[j]) Z;rw[t];simpa[Bh,add_lit,CL,Shape.flat] using this) p (by rw[yF];omega) (by rw[yF];exact hc) (by rw[r];exact a1)
 rw[r,yF] at I;refine I.mono fun e w' i=>?_;obtain⟨rfl,p⟩:=i;exact⟨_,Z,p,Z⟩
theorem fR{s:Cn}{b:Nat}{x:List UInt8}(g:FG w b (DO s) 31):Calls QP 165 #[St x, .pointer (some ⟨b,0,none⟩)] w (AP fun v w'=>Below w.heap.size w w'∧v= .bool (!decide (x.length=s.size))):=by
 have f:Bz w w:=Bz.refl w;refine enter (n:=9) (res:=#[.tmp 3]) Tryz.func165 Z Z Z Z<|Ab<|cg<|za Z<|Ac<|Ab<|cg<|zm Z<|vq (Bp.BY gx Z)<|vq (Aa DL Z)<|vq (Ah Au Z g Z)<|vq (Bm Z Z)<|za Z<|Ac<|Az Z Z ?_;have e:(((x.length:Nat):Int)=((s.size:Nat):Int))↔x.length=s.size:=oo;exact⟨f,by simp[e]⟩
abbrev wg(o:Option Tx):Value:= .tuple #[St (o.getD []),I (if o.isSome then 0 else 7)]
theorem jT{s:Cn}{vl:Value}{L:List Tx}{n:Int}(h:s.ok)(hl:Rd CL w vl L)(hp:Dc vl)(p:L.length=s.k)(hs:∀x∈L,x.length=s.size)(h1:1≤n)(i:n≤(s.k*s.size:Nat)):
 Calls QP 92 #[.agg (DO s).toArray,vl,I n] w (AP fun v w'=>Below w.heap.size w w'∧v=wg (QV s L n)):=by
 have b4:=h;obtain⟨b6,b7,b8,b9,c0⟩:=id h;obtain⟨P,g⟩:∃P,P=s.k*s.size:=⟨_,Z⟩;have e1:P≤8*200:=by rw[g];exact yQ oo oo
 have j:(s.k:Int)*(s.size:Int)=(P:Nat):=by rw[g];simp
 have b2:L.flatten.length=P:=by
  rw[g,←p];clear hl hp p h1 i;induction L with
  |nil=>simp
  |cons a r b5=>rw[VM,bU,b5 (fun x hx=>hs x (Aad _ hx)),hs a (Aag),yZ,yS,zS,Ab9]
 have a8:(L.any fun x=> !decide (x.length=s.size))=false:=by
  rw[Aas];intro x hx;simp[hs x hx]
 rw[←g] at i;obtain⟨N,rfl⟩:∃N:Nat,n=N:=⟨n.toNat,by omega⟩;obtain⟨c,J,U⟩:=AQ.start w;have o:Bi CL c w [0] vl L:=Rd.Cl hl (fun k hk=>by simp[U,AA]);clear U hl;have h0:=o.now.Av;refine enter (n:=49) (res:=#[.tmp 6, .tmp 7]) Tryz.func92 Z Z Z Z<|Ab<|cg<|Dz c 103 fun w1 b3 c1 c5 f=>?_;refine za Z<|za Z<|Ac<|Ab<|cg<|vq (CI Z)<|za Z<|Ac<|Ab<|Ab<|cg<|vq (AD Cq Z f.Ap Z)<|ve (Al c1 1 (Ay.call QG Z (JG b4))) ?_;rintro h2 w2 ⟨c2,c6,e6,rfl⟩;refine vq (Bq Z)<|zm Z ?_;apply WR.CJ false 5 _ BT
 ·intro e5;refine wo<|zm rfl<|wo<|vq (BI BE) ?_;refine wo<|vq (Aa Ce rfl)<|wo<|vq (Ah Au rfl f.mv.Ap rfl)<|wo<|vq (Bm rfl rfl) ?_;exact Dm 5
 refine zm Z ?_;apply WR.Ko c2 false 3 _ BT
 ·intro e2 b1;refine wo<|zm rfl<|wo<|zm rfl<|wo<|ve (Al c2 1 (Ay.call hM rfl (WW o.mv.now tB (fun w' x b0↦fR ((b0.block _ f.mv.Ap.lt).trans f.mv.Ap))))) ?_;rintro h3 h6 ⟨c3,c7,e7,rfl⟩;exact WR.Kq 3 b1.mv
 intro h7 a6 c8;refine zm rfl ?_;apply WR.CJ false 2 _ BT
 ·intro e3;refine wo<|zm rfl<|wo<|vq (AE rfl rfl) ?_;exact Dm 2
 refine zm Z ?_;apply WR.CJ false 7 _ BT
 ·intro e4;refine wo<|zm rfl<|wo<|vq (Aa Ce rfl)<|wo<|vq (Ah Au rfl f.mv.Ap rfl)<|wo<|vq (Aa DL rfl)<|wo ?_;refine vq (Ah Au rfl f.mv.Ap rfl)<|wo<|vq (FZ rfl rfl (by rw[j];omega) (by rw[j];omega))<|wo<|vq (BZ rfl rfl) ?_;exact Dm 7
 refine Ac<|CD Z (fun R=>?_) fun R=>?_
 ·exact absurd R (by rw[j,a8];simp[p];omega)
 refine Aj<|Ab<|cg<|zm Z<|ve (Al a6 1 (Ay.call hN Z (Xa o.mv.now hp oo oo))) ?_;rintro h4 h8 ⟨a7,c9,e8,rfl⟩;obtain⟨t,ht⟩:∃t,t=L.flatten:=⟨_,Z⟩;rw[←ht] at b2⊢;refine za Z<|Ac<|Ab<|Ab<|cg<|zm Z<|zm Z<|vq (Gz gx Z Z Ad Ad) ?_;refine ve (Al a7 1 (Ay.call oW Z (dH (s:=t.drop N) (by rw[lz];omega)))) ?_;rintro h5 h9 ⟨c4,e0,e9,⟨r,rfl,a1⟩⟩;refine vq (lG Z Z)<|Ac<|AS Z (fun l=>?_) fun l=>?_
 ·have C:Gm (t.drop N)=false:=by
   rw[←a1];simpa using l
  refine Ab<|cg<|za Z<|za Z<|Ac<|Dn Z Z Z ?_;exact⟨J.mv.below,by rw[QV,←ht,yK (by rw[pv,C];simp)];rfl⟩
 have C:Gm (t.drop N)=true:=by
  rw[←a1];simpa using l
 refine Aj<|Ab<|cg<|zm Z<|zm Z<|vq (JT gx Z Z Ad Ad)<|za Z<|za Z<|Ac ?_;refine Dn Z Z Z ?_;exact⟨J.mv.below,by rw[QV,←ht,yP ⟨h1,by rw[←g];exact i,by rw[pv];exact C⟩];rfl⟩
theorem JI{i:Nat}{e:TypeId}{v:Value}{L:List Tx}(h:Ao c w i e 1 v L.length (L.map St))(g:L.length≤1048576)(hl:∀x∈L,x.length≤1048576):Bi CL c w [i] v L:=by
 have f:Ao c w i e 1 v L.length (L.flatMap fun x=>[St x]):=by rw[jw];exact h
 exact f.Ez oo fun x hx=>by have:=hl x hx;omega
theorem dI{vl:Value}{L:List Tx}(hl:Rd CL w vl L)(hp:Dc vl):Calls QP 118 #[vl] w (AP fun v w'=>Below w.heap.size w w'∧v= .tuple #[.agg (NK ((GN L).getD yt)).toArray,I (if(GN L).isSome then 0 else 7)]):=by
 obtain⟨c,l,c3⟩:=AQ.start w;have o:Bi CL c w [0] vl L:=Rd.Cl hl (fun k hk=>by simp[c3,AA]);clear c3 hl;refine enter (n:=65) (res:=#[.cell 2 230, .tmp 3]) Tryz.func118 Z Z Z Z<|Ab<|cg<|Db c 102 Mp fun w1 b2 c1 k5 f=>?_;refine za Z<|Ac<|Ab<|Ab<|cg<|zm Z<|vq (BI BE) ?_;refine vq (AU Z Z)<|zm Z ?_;apply WR.Ko c1 false 4 _ BT
 ·intro j1 a1;refine wo<|zm rfl<|wo<|vq (BI BE) ?_;refine wo<|ve (Al c1 1 (Ay.call XN rfl (Mb (n:=120) oo))) ?_;rintro p3 w2 ⟨c2,l1,o4,rfl⟩;refine wo<|vq (BZ rfl rfl) ?_;exact WR.Kq 4 a1.mv
 intro s3 b5 l9;refine zm rfl ?_;apply WR.Ko b5 false 2 _ BT
 ·intro n9 e8;refine wo<|zm rfl<|wo<|ve (Al b5 1 (Ay.call hM rfl (WW o.mv.now tQ (fun w' x k2↦fw)))) ?_;rintro p4 s4 ⟨j9,n0,o9,rfl⟩;exact WR.Kq 2 e8.mv
 intro s5 e3 n1;refine Ac<|AS rfl (fun p=>?_) fun p=>?_
 ·have e:GN L=none:=Zo (by
   try simp only[zZ,yI] at p
   rcases p with(h|h)|h
   ·exact .inl (yJ oo)
   ·exact .inr (.inl oo)
   exact .inr (.inr h))
  rw[e];refine Ab<|cg<|vq (AB (cells:=#[.int .i64 0, .int .i64 0, .int .i64 0, .string ⟨[].toArray⟩]) Z kr) ?_;refine WR.AI (Am Gd Z Z f.mv Z Z AG) ?_;rintro _ s6 ⟨f,n2⟩;refine za Z<|Ac<|DR Z (Br Gd Z f.Ap Z) (Cp.tmp Z) ?_;exact⟨l.mv.below,Z⟩
 have b0:¬(L=[]∨Bn 120<L.length∨(L.any fun t=> !decide (t.length=64))=true):=by
  try simp only[VJ,zY] at p
  rintro(h|h|h)
  ·subst h;simp at p
  ·omega
  rw[h] at p;simp at p
 have k4:L.length≤3:=by
  have:Bn 120=3:=by decide
  omega
 have k3:0<L.length:=Ace.2 (fun h=>b0 (.inl h));have e7:∀x∈L,x.length=64:=fun x hx=>by
  have:=mt (fun h=>Kn.2 ⟨x,hx,h⟩) (fun h=>b0 (.inr (.inr h)));simpa using this
 have c4:=jM e7;refine Aj<|Ab<|cg<|zm Z ?_;refine ve (Al e3 1 (Ay.call hN Z (Xa o.mv.now hp oo (by rw[c4];omega)))) ?_;rintro p5 s7 ⟨e4,n3,p0,rfl⟩;obtain⟨t,ht⟩:∃t,t=L.flatten:=⟨_,Z⟩;rw[←ht] at c4⊢;have C:GN L=if 120<Qb t∨Bn (Qb t)≠L.length then none else if Li (Ud t (Qb t))=true∧Ge (Ud t (Qb t))=L then some (Ud t (Qb t)) else none:=by rw[GN,yK b0,←ht]
 have c5:((t.drop 13).take 2).length=2:=by rw[ly,lz];omega
 have h8:=fN c5;refine za Z<|Ac<|Ab<|cg<|zm Z<|vq (Bp.sslice gx Z Z Z Ad Ad Ad) ?_;refine ve (Al e4 1 (Ay.call Sr Z (HD ((t.drop 13).take 2) (by rw[c5];omega)))) ?_;rintro p6 s8 ⟨b7,n4,p1,rfl⟩;refine vq (Em zL oz Z oo oo) ?_;obtain⟨n,a8⟩:∃n,n=Qb t:=⟨_,Z⟩;rw[show(DT ((t.drop 13).take 2):Nat)=n from a8.symm];rw[←a8] at C;have n8:n<65536:=by rw[a8];exact h8
 refine za Z<|Ac<|Ab<|Ab<|cg<|zm Z<|vq (BZ Z Z)<|zm Z ?_;apply WR.Ko b7 false 5 _ BT
 ·intro j1 a1;refine wo<|zm rfl<|wo<|ve (Al b7 1 (Ay.call XN rfl (Mb (n:=n) oo))) ?_;rintro p7 s9 ⟨k0,n5,p2,rfl⟩;refine wo<|zm rfl<|wo<|vq (BI BE) ?_;refine wo<|vq (Bm rfl rfl) ?_;exact WR.Kq 5 a1.mv
 intro q1 U k6;refine Ac<|AS rfl (fun J=>?_) fun J=>?_
 ·have e:GN L=none:=by
   rw[C,yP];try simp only[zZ,yI,zV,zY] at J
   rcases J with h|h
   ·exact .inl oo
   exact .inr oo
  rw[e];refine Ab<|cg<|vq (AB (cells:=#[.int .i64 0, .int .i64 0, .int .i64 0, .string ⟨[].toArray⟩]) Z kr) ?_;refine WR.AI (Am Gd Z Z f.mv Z Z AG) ?_;rintro _ q2 ⟨f,k7⟩;refine za Z<|Ac<|DR Z (Br Gd Z f.Ap Z) (Cp.tmp Z) ?_;exact⟨l.mv.below,Z⟩
 have j0:¬(120<n∨Bn n≠L.length):=by
  try simp only[VJ,zY,Aea,yI] at J
  omega
 rw[yK j0] at C;have o0:=PZ n;have a7:((t.drop 4).take 4).length=4:=by rw[ly,lz];omega
 have R:((t.drop 8).take 4).length=4:=by rw[ly,lz];omega
 have n6:=Vs a7;have n7:=Vs R;have b8:12<t.length:=oo;obtain⟨j,c0⟩:∃j,j=Ud t n:=⟨_,Z⟩;have a6:NK j=[I (DT ((t.drop 4).take 4):Nat),I ((t[12]).toNat:Nat),I (DT ((t.drop 8).take 4):Nat),St ((t.drop 15).take n)]:=by rw[c0,Ud,NK,gy,aa b8];rfl
 refine Aj<|Ab<|WC.mono (N:=(fun e w'=>∃(c':Nat→Nat) (b6:Nat),Sub [(4000000, .tuple #[]),(0,vl),(2, .pointer (some ⟨b2,0,none⟩)),(6, .pointer (some ⟨b6,0,none⟩))] e∧AQ w c' w'∧Bi CL c' w' [0] vl L∧Ar c' w' 102 b2 [I 0,I 0,I 0,St []] 230∧Ar c' w' 106 b6 (NK j) 230)) ?_ ?_
 ·refine Rm U [] [0,0,2,0,0,0,2,0,0,0,0,0,0,0,0,0,2,3] (.quiet 0 (.quiet 1 (.quiet 4 (.quiet 5 (.quiet 8 (.quiet 9 (.quiet 10 (.quiet 11 (.quiet 12 (.quiet 13 (.quiet 14 (.two 2 (.quiet 3 (.two 6 (.quiet 7 (.quiet 15 (.one 16 (.one 17 .nil)))) 16 (.one 6 (.quiet 7 (.quiet 15 (.one 17 .nil)))))) 16 (.one 2 (.quiet 3 (.one 6 (.quiet 7 (.quiet 15 (.one 17 .nil)))))))))))))))))) fun q3 k8 g=>?_;refine WT.val Z Z Z (fun _=>Bx Z) Z<|WT.val Z Z Z (fun _=>Bp.sslice gx Z Z Z Ad Ad Ad) Z ?_;refine WT.val Z Z Z (fun _=>Bx Z) Z<|WT.val Z Z Z (fun _=>Bp.sslice gx Z Z Z Ad Ad Ad) Z ?_;refine WT.val Z Z Z (fun _=>Bx Z) Z<|WT.val Z Z Z (fun _=>Gy gx Z Z oo (aa b8)) Z ?_;refine WT.val Z Z Z (fun _=>RV yR oz Z) Z<|WT.val Z Z Z (fun _=>Bx Z) Z<|WT.val Z Z Z (fun _=>Bx Z) Z<|WT.val Z Z Z (fun _=>AH Z Z Ad Ad) Z ?_;refine WT.val Z Z Z (fun _=>Bp.sslice gx Z Z Z oo oo oo) Z ?_;rw[show(15+(n:Int)).toNat-(15:Int).toNat=n by omega];refine WT.two ?_ ?_
  ·refine WS.AW Z Z Z (Al U 1 (Ay.call Sr Z (HD ((t.drop 4).take 4) (by rw[a7];omega)))) Z ?_;rintro j3 q4 ⟨b3,h0,o1,rfl⟩;refine g.AX h0 fun g=>WT.val Z Z Z (fun _=>Em zL oz Z Ad Ad) Z ?_;refine WT.two ?_ ?_
   ·refine WS.AW Z Z Z (Al b3 1 (Ay.call Sr Z (HD ((t.drop 8).take 4) (by rw[R];omega)))) Z ?_;rintro c7 q5 ⟨c8,h1,o2,rfl⟩;refine g.AX h1 fun g=>WT.val Z Z Z (fun _=>Em zL oz Z Ad Ad) Z ?_;refine WT.val Z Z Z (fun _=>AB (cells:=#[I (DT ((t.drop 4).take 4):Nat),I ((t[12]).toNat:Nat),I (DT ((t.drop 8).take 4):Nat),St ((t.drop 15).take n)]) Z kr) Z ?_;refine WT.one<|WS.AW Z Z Z (Cj c8 106 Mp) Z ?_;rintro _ q6 ⟨b6,j4,rfl,h2,i⟩;refine g.AX h2 fun g=>WT.one<|WS.wild Z Z Z (Am Gd Z Z i Z Z AG) ?_;rintro _ q7 ⟨i,k9⟩;refine WT.nil ?_;exact⟨_,_,Aq,l.mv,o.mv,f.mv,by rw[a6];exact i⟩
   refine WS.AW Z Z Z (Cj b3 106 Mp) Z ?_;rintro _ q8 ⟨b6,c9,rfl,h3,i⟩;refine g.AX h3 fun g=>WT.one ?_;refine WS.AW Z Z Z (Al c9 1 (Ay.call Sr Z (HD ((t.drop 8).take 4) (by rw[R];omega)))) Z ?_;rintro c7 q9 ⟨j5,h4,o3,rfl⟩;refine g.AX h4 fun g=>WT.val Z Z Z (fun _=>Em zL oz Z Ad Ad) Z ?_;refine WT.val Z Z Z (fun _=>AB (cells:=#[I (DT ((t.drop 4).take 4):Nat),I ((t[12]).toNat:Nat),I (DT ((t.drop 8).take 4):Nat),St ((t.drop 15).take n)]) Z kr) Z ?_;refine WT.one<|WS.wild Z Z Z (Am Gd Z Z i.mv Z Z AG) ?_;rintro _ r0 ⟨i,l0⟩;refine WT.nil ?_;exact⟨_,_,Aq,l.mv,o.mv,f.mv,by rw[a6];exact i⟩
  refine WS.AW Z Z Z (Cj U 106 Mp) Z ?_;rintro _ r1 ⟨b6,e0,rfl,h5,i⟩;refine g.AX h5 fun g=>WT.one ?_;refine WS.AW Z Z Z (Al e0 1 (Ay.call Sr Z (HD ((t.drop 4).take 4) (by rw[a7];omega)))) Z ?_;rintro j3 r2 ⟨e1,h6,o5,rfl⟩;refine g.AX h6 fun g=>WT.val Z Z Z (fun _=>Em zL oz Z Ad Ad) Z ?_;refine WT.one ?_;refine WS.AW Z Z Z (Al e1 1 (Ay.call Sr Z (HD ((t.drop 8).take 4) (by rw[R];omega)))) Z ?_;rintro c7 r3 ⟨j6,h7,o6,rfl⟩;refine g.AX h7 fun g=>WT.val Z Z Z (fun _=>Em zL oz Z Ad Ad) Z ?_;refine WT.val Z Z Z (fun _=>AB (cells:=#[I (DT ((t.drop 4).take 4):Nat),I ((t[12]).toNat:Nat),I (DT ((t.drop 8).take 4):Nat),St ((t.drop 15).take n)]) Z kr) Z ?_;refine WT.one<|WS.wild Z Z Z (Am Gd Z Z i.mv Z Z AG) ?_;rintro _ r4 ⟨i,l2⟩;refine WT.nil ?_;exact⟨_,_,Aq,l.mv,o.mv,f.mv,by rw[a6];exact i⟩
 clear l o f;rintro k1 u0 ⟨e5,b6,h9,l,o,f,i⟩;refine WC.sub h9<|Ab<|Ab ?_;rw[←c0] at C;refine cg<|vq (AD Gd Z i.Ap Z)<|ve (Al e5 1 (Ay.call tS Z (nq (s:=j)))) ?_;rintro p8 r5 ⟨b4,l3,o7,rfl⟩;refine vq (Bq Z)<|zm Z ?_;apply WR.Ko b4 false 5 _ BT
 ·intro c6 e9;refine wo<|vq (AD Gd rfl i.mv.Ap rfl)<|wo<|ve (Al b4 11 (Ay.call pc rfl (Vk (s:=j) (by simpa using c6)))) ?_;rintro p9 r6 ⟨e2,l4,j2,b1⟩;replace b1:=b1.Cl j2;refine wo<|zm rfl<|wo ?_;refine ve (Al e2 1 (Ay.call tT rfl (fx (JI b1 (by rw[(KI j).1];have:Bn j.text.length≤3:=by{have:=(NJ (s:=j) (by simpa using c6)).2.2.2.2;unfold Bn;omega};omega) (fun x hx↦by rw[(KI j).2 x hx];omega)).now o.mv.now))) ?_;rintro q0 r7 ⟨j7,l5,o8,rfl⟩;refine wo<|vq (Bq rfl) ?_;exact WR.Kq 5 e9.mv
 intro r8 j8 l6;refine Ac<|AS rfl (fun r=>?_) fun r=>?_
 ·have e:GN L=none:=by
   rw[C,yK];rintro⟨e6,g2⟩;rw[e6] at r;simp[g2] at r
  rw[e];refine Ab<|cg<|vq (AB (cells:=#[.int .i64 0, .int .i64 0, .int .i64 0, .string ⟨[].toArray⟩]) Z kr) ?_;refine WR.AI (Am Gd Z Z f.mv Z Z AG) ?_;rintro _ r9 ⟨f,l7⟩;refine za Z<|Ac<|DR Z (Br Gd Z f.Ap Z) (Cp.tmp Z) ?_;exact⟨l.mv.below,Z⟩
 have e:GN L=some j:=by
  rw[C,yP];cases b9:Li j with
  |false=>rw[b9] at r;simp at r
  |true=>rw[b9] at r;exact⟨Z,by simpa using r⟩
 rw[e];refine Aj<|Ab<|cg<|vq (AD Gd Z i.mv.Ap Z)<|WR.AI (Am Gd Z Z f.mv Z Z AG) ?_;rintro _ s0 ⟨f,l8⟩;refine za Z<|Ac<|DR Z (Br Gd Z f.Ap Z) (Cp.tmp Z) ?_;exact⟨l.mv.below,Z⟩
theorem jU{vl:Value}{L:List Tx}{p g x:Int}(hl:Rd CL w vl L)(hp:Dc vl)(b3:L.length≤1000)(b0:∀x∈L,x.length≤64):Calls QP 117 #[vl,I p,I g,I x] w (AP fun v w'=>Below w.heap.size w w'∧v=I (IS L p g x)):=by
 obtain⟨c,j,R⟩:=AQ.start w;have J:Bi CL c w [0] vl L:=Rd.Cl hl (fun k hk=>by simp[R,AA]);clear R hl;have b9:=dG b0;obtain⟨o,t⟩:∃o,o=GN L:=⟨_,Z⟩;refine enter (n:=42) (res:=#[.tmp 8]) Tryz.func117 Z Z Z Z<|Ab<|cg<|za Z<|Ac<|Ab<|cg<|zm Z<|ve (Al c 1 (Ay.call oN Z (dI J.now hp))) ?_;rintro c8 w1 ⟨c1,b4,c5,rfl⟩;rw[←t];refine zm Z<|vq (Ag Z Z)<|vq (Ag Z Z)<|Db c1 109 Mp fun w2 b1 c2 b5 i=>?_;refine WR.AI (Am Gd Z Z i Z Z AG) ?_;rintro _ e1 ⟨i,b6⟩;refine za Z<|Ac<|Ab<|Ai<|Ab<|cg<|zm Z<|vq (AU Z Z)<|zm Z ?_;apply WR.CJ true 4 _ BT
 ·intro c4;refine wo<|vq (Aa Om rfl)<|wo<|vq (Ah Au rfl i.Ap rfl)<|wo<|zm rfl<|wo<|vq (AU rfl rfl) ?_;exact Dm 4
 refine zm Z ?_;apply WR.CJ true 4 _ BT
 ·intro c0;refine wo<|vq (Aa Oo rfl)<|wo<|vq (Ah Au rfl i.Ap rfl)<|wo<|zm rfl<|wo<|vq (AU rfl rfl) ?_;exact Dm 4
 refine zm Z ?_;apply WR.CJ true 4 _ BT
 ·intro c3;refine wo<|vq (Aa On rfl)<|wo<|vq (Ah Au rfl i.Ap rfl)<|wo<|zm rfl<|wo<|vq (AU rfl rfl) ?_;exact Dm 4
 refine za Z<|Ac<|WC.cond Z (fun f=>?_) fun f=>?_
 ·have e:IS L p g x=2:=by
   rw[IS,←t];cases o with
   |none=>simp at f
   |some s=>simp at f;dsimp only;rw[if_pos ⟨f.1.1,f.1.2,f.2⟩]
  refine Ab<|cg<|za Z<|Ac<|Az Z Z ?_;exact⟨j.mv.below,by rw[e]⟩
 have e:IS L p g x=if Gm L.flatten then 0 else 1:=by
  rw[IS,←t];cases o with
  |none=>rfl
  |some s=>dsimp only;rw[if_neg];rintro⟨a6,a7,a8⟩;simp[a6,a7,a8] at f
 refine Ab<|cg<|zm Z<|ve (Al c2 1 (Ay.call hN Z (Xa J.mv.now hp oo oo))) ?_;rintro c9 e2 ⟨a1,b7,c6,rfl⟩;refine ve (Al a1 1 (Ay.call oW Z (dH (s:=L.flatten) oo))) ?_;rintro e0 e3 ⟨b2,b8,c7,⟨r,rfl,U⟩⟩;refine vq (Xs Z Z)<|za Z<|Ac<|AS Z (fun l=>?_) fun l=>?_
 ·have C:Gm L.flatten=true:=by rw[←U];simpa using l
  refine Ab<|cg<|za Z<|Ac<|Az Z Z ?_;exact⟨j.mv.below,by rw[e,C];rfl⟩
 have C:Gm L.flatten=false:=by rw[←U];simpa using l
 refine Aj<|Ab<|cg<|za Z<|Ac<|Az Z Z ?_;exact⟨j.mv.below,by rw[e,C];rfl⟩
end Go.Proofs.K
namespace Go.Eng
open Silo
theorem BJ.Qr{base:Nat}{e:TypeId}{size n:Nat}{v:Value}{xs:List Value}(h:BJ w base e size v n xs):Dc v:=by
 obtain⟨A,q,e,_,f⟩:=h.Yg;exact⟨A,_,q,e,f⟩
end Go.Eng
namespace Go.Proofs.K
open Go Go.Eng Go.RowKit Silo TryzT
theorem Xb{p:Nat}{P:Ek}{n m:Nat}{x:CZ}{u:Value}{i:Nat}(hp:Ts c w p P)(hs:P.s.ok)(e5:FF n m P.A)(e7:UR P.A)(hu:Rd Bg w u x.place)(h0:DM P.s x=true)(hi:i<x.place.length):
 Calls QP 62 #[P1 p, .agg #[I x.id,I x.len,I x.gen,u],I i] w (AP fun v w'=>Below w.heap.size w w'∧v= .tuple #[St (DW P.A P.s x i).1, .bool (DW P.A P.s x i).2]):=by
 obtain⟨pa,pj,vS,vT,vG,a8⟩:=hp;have t:=Dh.start c w CT;replace a8:=a8.Ca (K:=CT);have k5:=hu.Av;replace hu:=hu.so (c:=c) CT;generalize AT c CT=c0 at t a8 hu;obtain⟨J,U,j2,j1⟩:=a8;obtain⟨l0,l1,l2,l3,l4,h3⟩:=CW h0;obtain⟨f,r⟩:∃f,f=Ee P.s:=⟨_,Z⟩;have j3:f≤3:=by rw[r,Ee,Bn];have:=hs.2.2.2.2;omega
 obtain⟨q,b7⟩:∃q,q=x.place[i]:=⟨_,Z⟩;have c5:x.place[i]?=some q:=by rw[aa hi,b7]
 have h1:(0≤q.2∧q.2<64)∧-1≤q.1∧q.1<12:=by
  have:=h3 q (by rw[b7];exact oy hi);simp only[LS,zZ,kg,yI] at this;omega
 obtain⟨z,a1⟩:∃z:Nat,q.2*(f:Int)=(z:Nat):=⟨(q.2*(f:Int)).toNat,by have:=Ae7 h1.1.1 (Afo f);omega⟩;have k9:z≤189:=by
  have j0:q.2*(f:Int)≤63*3:=Int.mul_le_mul oo oo oo oo;omega
 have b5:=(BP hu hi dd).1;rw[←b7] at b5;refine enter (n:=78) (res:=#[.tmp 6, .tmp 7]) Tryz.func62 Z Z Z Z<|Ab<|cg<|Dz c0 104 fun w1 b4 c1 j4 R=>?_;refine za Z<|za Z<|Ac<|Ab<|cg<|vq (Aa Ck Z)<|vq (Ah BV Z R.Ap Z)<|zm Z<|vq (AF CQ hu.mv.now Z Z Z oo oo) ?_;refine vq (Dg DK Z b5.mv.CY Z)<|Db c1 108 Mo fun w2 b8 c2 j8 C=>?_;refine WR.AI (Am DK Z Z C Z Z AG) ?_;rintro _ n3 ⟨C,j9⟩;refine Ac<|Ab<|cg<|za Z<|Ac<|Ab<|Ab<|cg<|zm Z<|vq (Ae Z)<|vq (Aa Sk Z)<|vq (Ah Au Z J.mv.Ap Z)<|zm Z<|Ac<|Ai<|WC.loop (σ:=Nat×Value×List Tx) (fun g=>[(0,P1 p),(2,I i),(4,P1 b4),(8,P1 b8),(9,g.2.1),(23,I (Ee P.s)),(24,I g.1)]) (fun g w'=>(g.1≤f∧g.2.2.length=g.1∧(∀x∈g.2.2,x.length=64)∧DN P.A q.1 (1024+q.2*(f:Int)) g.1=some g.2.2)∧∃c',Dh c w CT c' w'∧Ar c' w' 90 p (DH pa pj vS vT vG P) 109∧By c' w' pa P.A∧Ar c' w' 104 b4 [I x.id,I x.len,I x.gen,u] 144∧Ar c' w' 108 b8 [I q.1,I q.2] 226∧Ao c' w' 9 9 1 g.2.1 g.1 (g.2.2.map St)) (fun g=>f-g.1) (0, .slice none 0 0,[]) Aq ⟨⟨Nat.zero_le _,Z,by simp,Z⟩,_,t.mv,J.mv,U.mv,R.mv,C,Ao.nil _ _ _ _ _⟩ ?_;clear t J U R C hu b5;rintro⟨k,l9,l⟩ o0 ⟨⟨hk,b6,a6,b9⟩,b3,t,J,U,R,C,o⟩;dsimp only at hk b6 a6 b9 t J U R C o;refine Ab<|cg<|vq (AE Z Z)<|Ac<|Ab<|AS Z (fun e8=>?_) fun e8=>?_
 ·have e9:k<f:=oo;have h4:=o.Aw;have h5:=o.Av;refine Aj<|Ab<|Ai<|Ab<|cg<|zm Z<|za Z<|Ac<|Ab<|AY b3 [] [0,0,0,1,0,1,0,1,0,0,0,1,0,0,0,0,2,0,0,0,0,0] [0,1,2,3,4,5,6,7,8,9,10,11,12,13,14,15,16,17,18,19,20,21] fun n4 k0 j=>?_;refine AK Z Z<|vd Z (fun _=>Ae Z)<|vd Z (fun _=>Aa Lu Z)<|vc Z j.kp (J.mv.kb KY Z Z)<|vd Z (fun _=>Aa CE Z)<|vc Z j.kp (C.mv.kb Au Z Z)<|vd Z (fun _=>Aa HV Z)<|vc Z j.kp (C.mv.kb Au Z Z)<|AK Z Z ?_;refine vd Z (fun _=>Ae Z)<|vd Z (fun _=>Aa Sk Z)<|vc Z j.kp (J.mv.kb Au Z Z)<|vd Z (fun _=>FZ Z Z (by rw[←r,a1];omega) (by rw[←r,a1];omega))<|vd Z (fun _=>AH Z Z (by rw[←r,a1];omega) (by rw[←r,a1];omega))<|AK Z Z<|vd Z (fun _=>AH Z Z (by rw[←r,a1];omega) (by rw[←r,a1];omega)) ?_;refine WD.AW Z Z Z (Al b3 1 (Ay.call oM Z (YI U.mv e7))) Z ?_;rintro l5 n5 ⟨e1,e6,k6,rfl⟩;refine j.AX e6 fun j=>?_;rw[←r];obtain⟨rd,a7⟩:∃rd,rd=Cb P.A q.1 (1024+q.2*(f:Int)+(k:Int)):=⟨_,Z⟩;rw[←a7];refine AK Z Z<|vd Z (fun _=>Ag Z Z)<|vd Z (fun _=>Ag Z Z)<|Ga Z Z<|Ga Z Z<|WD.nil ?_;clear j;refine Ab<|Ab<|cg<|zm Z<|vq (Bm Z Z)<|Ac<|AS Z (fun b2=>?_) fun b2=>?_
  ·have e:=ba c5 (s:=P.s) (A:=P.A) (by rw[←r];exact Re (k:=k) (by rw[←a7];exact b2) _ e9);refine Ab<|cg<|za Z<|za Z<|Ac<|Dn Z Z Z ?_;exact⟨t.mv.below,by rw[e]⟩
  have c6:=e5.mY (d:=q.1) (s:=1024+q.2*(f:Int)+(k:Int)) (by rw[←a7];exact b2);have c7:=Rf b9 (by rw[←a7];exact b2);rw[←a7] at c6 c7;refine Aj<|cg<|zm Z<|zm Z<|ve (Bb e1 151 BE Z Z Z Z Z) ?_;rintro _ n6 ⟨h7,h8,rfl,k1,c3⟩;refine ve (AN BE Z Z o.mv (Src.An Tryz.underlying38 c3.Ap.An Z AG) EY Fb) ?_;rintro l6 n7 ⟨h9,k2,o⟩;clear c3;refine za Z<|Ac<|cg<|vq (AH Z Z Ad Ad)<|zm Z<|Ac ?_;refine⟨(k+1,_,l++[rd.1]),Aq,⟨⟨by dsimp only;omega,by dsimp only;rw[List.length_append,b6];rfl,fun x hx↦?_,c7⟩,_,t.mv,J.mv,U.mv,R.mv,C.mv,by simpa using o⟩,by show f-(k+1)<f-k;omega⟩;rcases List.mem_append.1 hx with h|h
  ·exact a6 x h
  rw[yN.1 h];exact c6
 have e:k=f:=oo;subst e;have h2:=bb c5 (s:=P.s) (A:=P.A) (by rw[←r];exact b9);rw[h2];rw[←b6] at o;have c4:=o.own.Qr;have h4:=o.Aw;have h5:=o.Av;refine WC.exit Z<|Ab<|Ab<|cg<|zm Z<|vq (Aa Es Z)<|vq (Ah Au Z R.Ap Z)<|vq (Aa Oe Z)<|vq (Ah Au Z R.Ap Z)<|zm Z ?_;refine ve (Al b3 1 (Ay.call sY Z (jU (JI o oo (fun y hy↦by rw[a6 y hy];omega)).now c4 oo (fun y hy↦by rw[a6 y hy];omega)))) ?_;rintro l7 n8 ⟨e2,k3,k7,rfl⟩;refine vq (Bm Z Z)<|Ac<|AS Z (fun b1=>?_) fun b1=>?_
 ·rw[yK b1];refine Ab<|cg<|za Z<|za Z<|Ac<|Dn Z Z Z ?_;exact⟨t.mv.below,Z⟩
 obtain⟨c9,c8,_⟩:=SZ b1;rw[yP b1,c8];refine Aj<|Ab<|cg<|zm Z ?_;refine ve (Al e2 1 (Ay.call oN Z (dI (JI o.mv oo (fun y hy↦by rw[a6 y hy];omega)).now c4))) ?_;rintro l8 n9 ⟨e3,k4,k8,rfl⟩;rw[c8];refine zm Z<|vq (Ag Z Z)<|vq (Ag Z Z)<|Db e3 113 Mp fun n0 h6 e0 j5 b0=>?_;refine WR.AI (Am Gd Z Z b0 Z Z AG) ?_;rintro _ n1 ⟨b0,j6⟩;refine za Z<|Ac<|Ab<|AY e0 [] [0,1,0,1,0,0,0,0,0,1,0,0,0] [0,1,2,3,4,5,6,7,8,9,10,11,12] fun n2 j7 j=>?_;refine vd Z (fun _=>Aa IM Z)<|vc Z j.kp (b0.mv.kb BK Z Z)<|vd Z (fun _=>Aa IM Z)<|vc Z j.kp (b0.mv.kb BK Z Z)<|vd Z (fun _=>Bp.BY gx Z)<|AK Z Z<|vd Z (fun _=>Ae Z)<|vd Z (fun _=>Aa Eb Z)<|vd Z (fun _=>Aa DL Z)<|vc Z j.kp (J.mv.kb Au Z Z)<|vd Z (fun _=>AU Z Z)<|Ga Z Z<|Ga Z Z<|WD.nil ?_;clear j;refine Dn Z Z Z ?_;have e4:(((c9.text.length:Nat):Int)=((P.s.size:Nat):Int))↔c9.text.length=P.s.size:=oo;refine⟨t.mv.below,?_⟩;simp[NK,e4]
theorem bf{p:Nat}{x:CZ}{u:Value}(hu:u.oneCell'=true):Calls QP 119 #[P1 p, .agg #[I x.id,I x.len,I x.gen,u]] w (AP fun f w'=>Below w.heap.size w w'∧∃b2 b3,f= .func (.func 202) #[] #[P1 b3,P1 b2]∧(w.heap.size≤b2∧w.heap.size≤b3)∧FG w' b2 [P1 p] 66∧FG w' b3 [I x.id,I x.len,I x.gen,u] 144):=by
 obtain⟨c,g,hc⟩:=AQ.start w;clear hc;refine enter (n:=6) (res:=#[.tmp 4]) Tryz.func119 Z Z Z Z<|Ab<|cg<|MJ c 102 fun w1 b2 c1 o i=>?_;refine Dz c1 103 fun w2 b3 c2 j l=>?_;refine za Z<|Ac<|Ab<|cg<|vq (CI Z)<|za Z<|Ac<|Az Z Z ?_;replace g:=(g.mv o).mv j;replace i:=i.mv j;have r:w.heap.size≤b2:=by
  rcases yT b2 w.heap.size with h|h
  ·have:=g.Bf _ h;rw[i.Bf] at this;cases this
  exact h
 have t:w.heap.size≤b3:=by
  rcases yT b3 w.heap.size with h|h
  ·have:=g.Bf _ h;rw[l.Bf] at this;cases this
  exact h
 exact⟨g.below,_,_,Z,⟨r,t⟩,i.Ap,l.Ap⟩
def jV(P:Ek)(x:CZ)(i:Nat):List Value:=[St (DW P.A P.s x i).1, .bool (DW P.A P.s x i).2]
theorem Zp{w0:World}{c0:Nat→Nat}{p pa pj b2 b3 n m:Nat}{vS vT vG u:Value}{P:Ek}{x:CZ}(g:BU c0 w0 p pa pj vS vT vG P)(hs:P.s.ok)(b6:FF n m P.A)(b8:UR P.A)(hu:Bi Bg c0 w0 (0::CT) u x.place)(a7:DM P.s x=true)
 (j:Ar c0 w0 76 b2 [P1 p] 66)(f:Ar c0 w0 76 b3 [I x.id,I x.len,I x.gen,u] 144)(hk:P.s.k+P.s.m≤100):
 JW QP 202 [P1 b3,P1 b2] (jV P x) [] (76::0::CT) (List.range x.place.length) c0 w0:=by
 intro l J c5 c1 W K o C a6 c7 hy b7;have U:∀i∈(76::0::CT),AA K i=false:=fun i hi=>Bo C (by simpa using hi);have e1:=(CW a7).2.2.2.2.1;replace j:=j.mv o (U 76 ss);replace f:=f.mv o (U 76 ss);replace g:=g.mv o (BC C ss);replace hu:=hu.mv o (BC C ss);have hJ:JC (J []) [] c1 W:=⟨b7,fun _ _ _ _ h m=>a6 _ _ _ _ _ h m⟩;have c8:=hu.now.Av;have c9:=hu.now.Aw;clear o U C;show Calls _ _ [_,_,_].toArray _ _
 refine enter (n:=21) (res:=#[]) Tryz.func202 Z Z Z Z<|Ab<|cg<|vq (Aa Ck Z)<|vq (Ah BV Z f.Ap Z)<|vq (BI CQ) ?_;refine zm Z<|Ac<|Ai<|WC.loop (σ:=Nat) (fun i=>[(0, .func (.yield l) #[] #[]),(1,P1 b3),(2,P1 b2),(7,I x.place.length),(8,I i)]) (fun i w'=>i≤x.place.length∧∃c',Ar c' w' 76 b2 [P1 p] 66∧Ar c' w' 76 b3 [I x.id,I x.len,I x.gen,u] 144∧BU c' w' p pa pj vS vT vG P∧Bi Bg c' w' (0::CT) u x.place∧JC (J (List.range i)) [] c' w') (fun i=>x.place.length-i) 0 Aq ⟨by omega,_,j,f,g,hu,hJ⟩ ?_;clear hJ j f g hu;rintro i e3 ⟨hi,b5,j,f,g,hu,hJ⟩;refine Ab<|cg<|vq (AE Z Z)<|Ac<|Ab<|AS Z (fun b9=>?_) fun b9=>?_
 ·have c2:i<x.place.length:=oo;refine Aj<|Ab<|Ai<|Ab<|cg<|zm Z<|za Z<|Ac<|Ab<|cg<|zm Z<|vq (Ah Jt Z j.Ap Z)<|vq (AD BB Z f.Ap Z)<|zm Z<|ve (Al b5 1 (Ay.call qG Z (Xb ⟨pa,pj,vS,vT,vG,g⟩ hs b6 b8 hu.now a7 c2))) ?_;rintro e2 w1 ⟨c1,r,e0,rfl⟩;refine vq (Ag Z Z)<|vq (Ag Z Z) ?_;have c3:List.range i++[i]<+:List.range x.place.length:=by
   rw[←ZZ];exact⟨(List.range (x.place.length-(i+1))).map (·+(i+1)),by rw[show x.place.length=(i+1)+(x.place.length-(i+1)) by omega,Agk];simp[Ab9]⟩
  obtain⟨c6,R,a8⟩:=hy _ _ _ _ (hJ.mv r).now c3;refine ve (Nk Z Z a8) ?_;rintro _ c4 ⟨b,b4,rfl,t,b1,b0⟩;replace j:=j.mv r;replace f:=f.mv r;replace g:=g.mv r;replace hu:=hu.mv r;replace j:=j.mv t (Bo R ss);replace f:=f.mv t (Bo R ss);replace g:=g.mv t (BC R ss);replace hu:=hu.mv t (BC R ss);clear hJ a8;refine vq (Bq Z)<|Ac<|AS Z (fun a1=>?_) fun a1=>?_
  ·refine TO Z ?_;exact⟨_, .inr ⟨_,b0 a1⟩⟩
  have hJ:JC (J (List.range (i+1))) [] b4 c4:=⟨by rw[ZZ];exact b1 a1,fun _ _ _ _ h m=>a6 _ _ _ _ _ h m⟩;clear b1 b0 t;refine Aj<|cg<|vq (AH Z Z Ad Ad)<|zm Z<|Ac ?_;exact⟨i+1,Aq,⟨by omega,_,j,f,g,hu,hJ⟩,by omega⟩
 have e:i=x.place.length:=oo;subst e;refine WC.exit Z<|⟨_,_,Z,Z,?_⟩;exact⟨Z,_, .inl hJ.now⟩
theorem Pp{i:Nat}{e:TypeId}{v:Value}{L:List Bool}(h:Ao c w i e 1 v L.length (L.map .bool))(o:L.length≤1048576):Bi En c w [i] v L:=by
 have f:∀l:List Bool,l.flatMap (fun b=>[Value.bool b])=l.map .bool:=fun l=>by
  induction l with
  |nil=>rfl
  |cons a l j=>rw[Rw,zD,j];rfl
 have g:Ao c w i e 1 v L.length (L.flatMap fun x=>[Value.bool x]):=by rw[f];exact h
 exact g.Ez oo fun x hx=>trivial
theorem jW{s:Cn}{vl vb:Value}{L:List (List UInt8)}{bs:List Bool}(h:Small s)(hl:Rd CL w vl L)(l:Rd En w vb bs)(p:L.length=s.k+s.m)(r:bs.length=s.k+s.m)(hs:∀(i:Nat) (h1:i<bs.length) (t:i<L.length),bs[i]=true→L[i].length=s.size):
 Calls QP 120 #[.agg (DO s).toArray,vl,vb] w (AP fun v w'=>Below w.heap.size w w'∧∃f,v= .tuple #[f,I (if(Qc s L bs).isSome then 0 else 8)]∧BJ w' w.heap.size 9 1 f ((Qc s L bs).getD []).length (((Qc s L bs).getD []).map St)):=by
 refine(nm h hl l p r hs).mono fun e w' o=>?_;obtain⟨v,rfl,j,hv⟩:=o;refine⟨_,Z,j,?_⟩;cases g:Qc s L bs with
 |none=>
  rw[g] at hv;rw[show v=_ from hv];exact⟨_,Z,BJ.nil _ _ _ _⟩
 |some O=>
  rw[g] at hv;obtain⟨f,rfl,hv⟩:=hv;refine⟨f,Z,?_⟩;have h1:=hv.1;rw[yF,Aa2] at h1;rw[Aa1,h1];exact hv
def rM(w0 w:World)(P:Ek)(x:CZ)(v:Value):Prop:=∃g f,v= .tuple #[g,f, .bool (Hi P.A P.s x).isSome]∧BJ w w0.heap.size 4 1 f (Dd P.A P.s x).length ((Dd P.A P.s x).map .bool)∧BJ w w0.heap.size 9 1 g ((Hi P.A P.s x).getD []).length (((Hi P.A P.s x).getD []).map St)
theorem jX(P:Ek)(x:CZ):(List.range (P.s.k+P.s.m)).map (fun i=>Value.bool (DW P.A P.s x i).2)=(Dd P.A P.s x).map .bool:=by rw[Dd,Abd];rfl
theorem jY(P:Ek)(x:CZ):(List.range (P.s.k+P.s.m)).map (fun i=>St (DW P.A P.s x i).1)=(HF P.A P.s x).map St:=by rw[HF,Abd];rfl
theorem Zq{p:Nat}{P:Ek}{n m:Nat}{x:CZ}{u:Value}(hp:Ts c w p P)(hs:Small P.s)(U:FF n m P.A)(p4:UR P.A)(hu:Rd Bg w u x.place)(h0:DM P.s x=true):
 Calls QP 63 #[P1 p, .agg #[I x.id,I x.len,I x.gen,u]] w (AP fun v w'=>Below w.heap.size w w'∧rM w w' P x v):=by
 obtain⟨pa,pj,vS,vT,vG,C⟩:=hp;have J:=Dh.start c w CT;replace C:=C.Ca (K:=CT);have p9:=hu.Av;replace hu:=hu.so (c:=c) CT;generalize AT c CT=c0 at J C hu;have h2:=(CW h0).2.2.2.2.1;obtain⟨w5,w6,w7,w8,w9⟩:=id hs;refine enter (n:=37) (res:=#[.cell 4 38, .cell 5 52, .tmp 6]) Tryz.func63 Z Z Z Z<|Ab<|cg<|Dz c0 103 fun w1 b3 c1 s8 c6=>?_;refine Db c1 104 ao fun w2 b4 c2 c5 o=>Db c2 105 qN fun z7 b5 j3 u3 r=>za Z<|Ac<|Ab<|Ab<|cg<|zm Z<|vq (AD BB Z c6.mv.Ap Z)<|ve (Al j3 76 (Ay.call sZ Z (bf (x:=x) p9))) ?_;rintro x0 h3 ⟨e3,u6,h1,⟨b8,j0,rfl,⟨p6,p7⟩,c3,c4⟩⟩;have c7:Ar _ _ 76 b8 [P1 p] 66:=⟨c3,h1 _ p6⟩;have c8:Ar _ _ 76 j0 [I x.id,I x.len,I x.gen,u] 144:=⟨c4,h1 _ p7⟩;have j:Ao _ _ 4 9 1 (.slice none 0 0) 0 []:=Ao.nil e3 h3 _ _ _;have g:Ao _ _ 5 4 1 (.slice none 0 0) 0 []:=Ao.nil e3 h3 _ _ _;refine Ac<|Ai<|WC.rangeFunc (α:=Nat) (encs:=jV P x) (κ:=[]) (F:=76::0::CT) (L:=List.range x.place.length)
  (fun pre d A=>Dh c w CT d A∧BU d A p pa pj vS vT vG P∧∃v4 b6,Ar d A 104 b4 [v4] 38∧Ar d A 105 b5 [b6] 52∧Ao d A 4 9 1 v4 pre.length (pre.map fun i=>St (DW P.A P.s x i).1)∧Ao d A 5 4 1 b6 pre.length (pre.map fun i=> .bool (DW P.A P.s x i).2)) [] (fun _ _ _=>False) [4,5,104,105] Z Z tU (Zp C.mv hs.ok U p4 hu.mv h0 c7 c8 oo) Z (fun _=>rfl) ss Z
  (fun s d A j7 B ⟨h4,h5,v4,b6,h6,h7,h8,h9⟩ m=>⟨h4.mv m,h5.mv m,v4,b6,h6.mv m,h7.mv m,h8.mv m,h9.mv m⟩) (fun p hp=>by simp at hp) (fun s d A j7 B h _=>h.elim)
  ⟨J.mv,C.mv,_,_,o.mv,r.mv,j,g⟩ ?_ ?_ ?_ ?_
 ·clear J C hu c6 o r j g c7 c8 c3 c4;rintro l pre k d A1 ⟨J,C,v4,b6,o,r,j,g⟩ p8;have U:=Acc.refl d A1 [4,5,104,105];refine Ab<|cg<|za Z<|Ac<|cg<|za Z<|Ac<|⟨_,U,?_⟩;intro A2 c5;have U:=Acc.refl d A2 [4,5,104,105];have w0:pre.length≤1000:=by
   have:=p8.length_le;rw[bU,zI] at this;omega
  replace j:=j.mv c5;have a1:=j.Av;have a6:=j.Aw;replace g:=g.mv c5;have a7:=g.Av;have a8:=g.Aw;refine Ai<|WC.mono (N:=(fun e w'=>∃(c':Nat→Nat) (c9 e0:Value),Dh c w CT c' w'∧BU c' w' p pa pj vS vT vG P∧Ar c' w' 104 b4 [c9] 38∧Ar c' w' 105 b5 [e0] 52∧Ao c' w' 4 9 1 c9 (pre.length+1) ((pre.map fun i=>St (DW P.A P.s x i).1)++[St (DW P.A P.s x k).1])∧Ao c' w' 5 4 1 e0 (pre.length+1) ((pre.map fun i=> .bool (DW P.A P.s x i).2)++[.bool (DW P.A P.s x k).2])∧Acc d A2 [4,5,104,105] c' w')) ?_ ?_
  ·refine Rm d [4,5,104] [2,0,2,2,1,0,2,2,2,3] (.quiet 1 (.quiet 4 (.quiet 5 (.three 0 (.two 2 (.two 3 (.one 6 (.one 7 (.one 8 (.one 9 .nil)))) 6 (.one 3 (.one 7 (.one 8 (.one 9 .nil))))) 6 (.one 2 (.one 3 (.one 7 (.one 8 (.one 9 .nil)))))) 2 (.two 0 (.two 3 (.one 6 (.one 7 (.one 8 (.one 9 .nil)))) 6 (.one 3 (.one 7 (.one 8 (.one 9 .nil))))) 6 (.one 0 (.one 3 (.one 7 (.one 8 (.one 9 .nil)))))) 6 (.two 0 (.one 2 (.one 3 (.one 7 (.one 8 (.one 9 .nil))))) 2 (.one 0 (.one 3 (.one 7 (.one 8 (.one 9 .nil)))))))))) fun a18 v7 f=>?_;refine WT.val Z Z Z (fun _=>Bx Z) Z<|WT.Iw Z Z Z f.kp (r.mv.kb GL Z Z) Z<|WT.val Z Z Z (fun _=>Bx Z) Z<|WT.three ?_ ?_ ?_
   ·refine WS.AW Z Z Z (Ay.val (Ah CB Z o.mv.Ap Z)) Z ?_;rintro _ _ ⟨rfl,rfl⟩;refine⟨id,?_⟩;refine WT.two ?_ ?_
    ·refine WS.AW Z Z Z (Bb d 117 BE Z Z Z Z Z) Z ?_;rintro _ a25 ⟨b9,j5,rfl,o8,R⟩;refine f.AX o8 fun f=>WT.two ?_ ?_
     ·refine WS.AW Z Z Z (AN BE Z Z j.mv (Src.An zb R.Ap.An Z AG) EY Fb) Z ?_;rintro b0 a26 ⟨j6,o9,j⟩;refine f.AX o9 fun f=>?_;clear R;have a1:=j.Av;have a6:=j.Aw;refine WT.one<|WS.AW Z Z Z (Bb j6 121 FR Z Z Z Z Z) Z ?_;rintro _ a27 ⟨b2,s4,rfl,p0,t⟩;refine f.AX p0 fun f=>WT.one<|WS.AW Z Z Z (AN FR Z Z g.mv (Src.An Aa7 t.Ap.An Z AG) EY Fb) Z ?_;rintro b1 a28 ⟨s5,p1,g⟩;refine f.AX p1 fun f=>?_;clear t;have a7:=g.Av;have a8:=g.Aw;refine WT.one<|WS.AI Z Z Z (AJ CB Z Z ra ra o.mv Z) ?_;rintro _ x2 ⟨o,k3⟩;refine f.AX k3 fun f=>WT.one<|WS.wild Z Z Z (AJ GL Z Z ra ra r.mv Z) ?_;rintro _ x3 ⟨r,s9⟩;refine WT.nil ?_;exact⟨_,_,_,J.mv,C.mv,o.mv,r,j.mv,g.mv,U.mv⟩
     refine WS.AW Z Z Z (Bb j5 121 FR Z Z Z Z Z) Z ?_;rintro _ x4 ⟨b2,q2,rfl,k4,t⟩;refine f.AX k4 fun f=>WT.one<|WS.AW Z Z Z (AN BE Z Z j.mv (Src.An zb R.mv.Ap.An Z AG) EY Fb) Z ?_;rintro b0 x5 ⟨q3,k5,j⟩;refine f.AX k5 fun f=>?_;clear R;have a1:=j.Av;have a6:=j.Aw;refine WT.one<|WS.AW Z Z Z (AN FR Z Z g.mv (Src.An Aa7 t.mv.Ap.An Z AG) EY Fb) Z ?_;rintro b1 x6 ⟨q4,k6,g⟩;refine f.AX k6 fun f=>?_;clear t;have a7:=g.Av;have a8:=g.Aw;refine WT.one<|WS.AI Z Z Z (AJ CB Z Z ra ra o.mv Z) ?_;rintro _ x7 ⟨o,k7⟩;refine f.AX k7 fun f=>WT.one<|WS.wild Z Z Z (AJ GL Z Z ra ra r.mv Z) ?_;rintro _ x8 ⟨r,u0⟩;refine WT.nil ?_;exact⟨_,_,_,J.mv,C.mv,o.mv,r,j.mv,g.mv,U.mv⟩
    refine WS.AW Z Z Z (Bb d 121 FR Z Z Z Z Z) Z ?_;rintro _ x9 ⟨b2,j1,rfl,k8,t⟩;refine f.AX k8 fun f=>WT.one<|WS.AW Z Z Z (Bb j1 117 BE Z Z Z Z Z) Z ?_;rintro _ y0 ⟨b9,q5,rfl,k9,R⟩;refine f.AX k9 fun f=>WT.one<|WS.AW Z Z Z (AN BE Z Z j.mv (Src.An zb R.Ap.An Z AG) EY Fb) Z ?_;rintro b0 y1 ⟨q6,l0,j⟩;refine f.AX l0 fun f=>?_;clear R;have a1:=j.Av;have a6:=j.Aw;refine WT.one<|WS.AW Z Z Z (AN FR Z Z g.mv (Src.An Aa7 t.mv.Ap.An Z AG) EY Fb) Z ?_;rintro b1 y2 ⟨q7,l1,g⟩;refine f.AX l1 fun f=>?_;clear t;have a7:=g.Av;have a8:=g.Aw;refine WT.one<|WS.AI Z Z Z (AJ CB Z Z ra ra o.mv Z) ?_;rintro _ y3 ⟨o,l2⟩;refine f.AX l2 fun f=>WT.one<|WS.wild Z Z Z (AJ GL Z Z ra ra r.mv Z) ?_;rintro _ y4 ⟨r,u1⟩;refine WT.nil ?_;exact⟨_,_,_,J.mv,C.mv,o.mv,r,j.mv,g.mv,U.mv⟩
   ·refine WS.AW Z Z Z (Bb d 117 BE Z Z Z Z Z) Z ?_;rintro _ y5 ⟨b9,e1,rfl,l3,R⟩;refine f.AX l3 fun f=>WT.two ?_ ?_
    ·refine WS.AW Z Z Z (Ay.val (Ah CB Z o.mv.Ap Z)) Z ?_;rintro _ _ ⟨rfl,rfl⟩;refine⟨id,?_⟩;refine WT.two ?_ ?_
     ·refine WS.AW Z Z Z (AN BE Z Z j.mv (Src.An zb R.Ap.An Z AG) EY Fb) Z ?_;rintro b0 y6 ⟨j2,l4,j⟩;refine f.AX l4 fun f=>?_;clear R;have a1:=j.Av;have a6:=j.Aw;refine WT.one<|WS.AW Z Z Z (Bb j2 121 FR Z Z Z Z Z) Z ?_;rintro _ y7 ⟨b2,q8,rfl,l5,t⟩;refine f.AX l5 fun f=>WT.one<|WS.AW Z Z Z (AN FR Z Z g.mv (Src.An Aa7 t.Ap.An Z AG) EY Fb) Z ?_;rintro b1 y8 ⟨q9,l6,g⟩;refine f.AX l6 fun f=>?_;clear t;have a7:=g.Av;have a8:=g.Aw;refine WT.one<|WS.AI Z Z Z (AJ CB Z Z ra ra o.mv Z) ?_;rintro _ y9 ⟨o,l7⟩;refine f.AX l7 fun f=>WT.one<|WS.wild Z Z Z (AJ GL Z Z ra ra r.mv Z) ?_;rintro _ z1 ⟨r,u2⟩;refine WT.nil ?_;exact⟨_,_,_,J.mv,C.mv,o.mv,r,j.mv,g.mv,U.mv⟩
     refine WS.AW Z Z Z (Bb e1 121 FR Z Z Z Z Z) Z ?_;rintro _ z6 ⟨b2,r0,rfl,l8,t⟩;refine f.AX l8 fun f=>WT.one<|WS.AW Z Z Z (AN BE Z Z j.mv (Src.An zb R.mv.Ap.An Z AG) EY Fb) Z ?_;rintro b0 z8 ⟨r1,l9,j⟩;refine f.AX l9 fun f=>?_;clear R;have a1:=j.Av;have a6:=j.Aw;refine WT.one<|WS.AW Z Z Z (AN FR Z Z g.mv (Src.An Aa7 t.mv.Ap.An Z AG) EY Fb) Z ?_;rintro b1 a00 ⟨r2,n0,g⟩;refine f.AX n0 fun f=>?_;clear t;have a7:=g.Av;have a8:=g.Aw;refine WT.one<|WS.AI Z Z Z (AJ CB Z Z ra ra o.mv Z) ?_;rintro _ Rn ⟨o,n1⟩;refine f.AX n1 fun f=>WT.one<|WS.wild Z Z Z (AJ GL Z Z ra ra r.mv Z) ?_;rintro _ a01 ⟨r,u4⟩;refine WT.nil ?_;exact⟨_,_,_,J.mv,C.mv,o.mv,r,j.mv,g.mv,U.mv⟩
    refine WS.AW Z Z Z (Bb e1 121 FR Z Z Z Z Z) Z ?_;rintro _ a02 ⟨b2,r3,rfl,n2,t⟩;refine f.AX n2 fun f=>WT.one<|WS.AW Z Z Z (Ay.val (Ah CB Z o.mv.Ap Z)) Z ?_;rintro _ _ ⟨rfl,rfl⟩;refine⟨id,?_⟩;refine WT.one<|WS.AW Z Z Z (AN BE Z Z j.mv (Src.An zb R.mv.Ap.An Z AG) EY Fb) Z ?_;rintro b0 a03 ⟨r4,n3,j⟩;refine f.AX n3 fun f=>?_;clear R;have a1:=j.Av;have a6:=j.Aw;refine WT.one<|WS.AW Z Z Z (AN FR Z Z g.mv (Src.An Aa7 t.mv.Ap.An Z AG) EY Fb) Z ?_;rintro b1 a04 ⟨r5,n4,g⟩;refine f.AX n4 fun f=>?_;clear t;have a7:=g.Av;have a8:=g.Aw;refine WT.one<|WS.AI Z Z Z (AJ CB Z Z ra ra o.mv Z) ?_;rintro _ a05 ⟨o,n5⟩;refine f.AX n5 fun f=>WT.one<|WS.wild Z Z Z (AJ GL Z Z ra ra r.mv Z) ?_;rintro _ a06 ⟨r,u5⟩;refine WT.nil ?_;exact⟨_,_,_,J.mv,C.mv,o.mv,r,j.mv,g.mv,U.mv⟩
   refine WS.AW Z Z Z (Bb d 121 FR Z Z Z Z Z) Z ?_;rintro _ a07 ⟨b2,e2,rfl,n6,t⟩;refine f.AX n6 fun f=>WT.two ?_ ?_
   ·refine WS.AW Z Z Z (Ay.val (Ah CB Z o.mv.Ap Z)) Z ?_;rintro _ _ ⟨rfl,rfl⟩;refine⟨id,?_⟩;refine WT.one<|WS.AW Z Z Z (Bb e2 117 BE Z Z Z Z Z) Z ?_;rintro _ a08 ⟨b9,r6,rfl,n7,R⟩;refine f.AX n7 fun f=>WT.one<|WS.AW Z Z Z (AN BE Z Z j.mv (Src.An zb R.Ap.An Z AG) EY Fb) Z ?_;rintro b0 a09 ⟨r7,n8,j⟩;refine f.AX n8 fun f=>?_;clear R;have a1:=j.Av;have a6:=j.Aw;refine WT.one<|WS.AW Z Z Z (AN FR Z Z g.mv (Src.An Aa7 t.mv.Ap.An Z AG) EY Fb) Z ?_;rintro b1 a10 ⟨r8,n9,g⟩;refine f.AX n9 fun f=>?_;clear t;have a7:=g.Av;have a8:=g.Aw;refine WT.one<|WS.AI Z Z Z (AJ CB Z Z ra ra o.mv Z) ?_;rintro _ a11 ⟨o,o0⟩;refine f.AX o0 fun f=>WT.one<|WS.wild Z Z Z (AJ GL Z Z ra ra r.mv Z) ?_;rintro _ a12 ⟨r,u7⟩;refine WT.nil ?_;exact⟨_,_,_,J.mv,C.mv,o.mv,r,j.mv,g.mv,U.mv⟩
   refine WS.AW Z Z Z (Bb e2 117 BE Z Z Z Z Z) Z ?_;rintro _ a13 ⟨b9,r9,rfl,o1,R⟩;refine f.AX o1 fun f=>WT.one<|WS.AW Z Z Z (Ay.val (Ah CB Z o.mv.Ap Z)) Z ?_;rintro _ _ ⟨rfl,rfl⟩;refine⟨id,?_⟩;refine WT.one<|WS.AW Z Z Z (AN BE Z Z j.mv (Src.An zb R.Ap.An Z AG) EY Fb) Z ?_;rintro b0 a14 ⟨s0,o2,j⟩;refine f.AX o2 fun f=>?_;clear R;have a1:=j.Av;have a6:=j.Aw;refine WT.one<|WS.AW Z Z Z (AN FR Z Z g.mv (Src.An Aa7 t.mv.Ap.An Z AG) EY Fb) Z ?_;rintro b1 a15 ⟨s3,o3,g⟩;refine f.AX o3 fun f=>?_;clear t;have a7:=g.Av;have a8:=g.Aw;refine WT.one<|WS.AI Z Z Z (AJ CB Z Z ra ra o.mv Z) ?_;rintro _ a16 ⟨o,o4⟩;refine f.AX o4 fun f=>WT.one<|WS.wild Z Z Z (AJ GL Z Z ra ra r.mv Z) ?_;rintro _ a17 ⟨r,u9⟩;refine WT.nil ?_;exact⟨_,_,_,J.mv,C.mv,o.mv,r,j.mv,g.mv,U.mv⟩
  clear J C o r j g U;rintro s7 a29 ⟨s6,c9,e0,J,C,o,r,j,g,U⟩;refine⟨_,U,J,C,_,_,o,r,?_,?_⟩
  ·rw[bU,zB];exact j
  rw[bU,zB];exact g
 ·clear J C hu c6 o r j g c7 c8 c3 c4;rintro q1 d B ⟨J,C,v4,b6,o,r,j,g⟩ k2;have p5:=C.Ap;rw[zI,h2,jY,←MF P.A P.s x] at j;rw[zI,h2,jX,←Kk P.A P.s x] at g;have a1:=j.Av;have a6:=j.Aw;have a7:=g.Av;have a8:=g.Aw;refine Ab<|AY d [] [0,0,0,1,1,1,2,0,0,0,3,0] [0,1,2,3,4,5,6,7,8,9,10,11] fun a19 o5 f=>?_;have e7:=o;have e8:=r;have e9:=p5;refine AK Z Z<|vd Z (fun _=>Ae Z)<|vd Z (fun _=>Aa Eb Z)<|vc Z f.kp (fun W p3=>Cy Cq Z (e9.mv.kp p3 Z).Ap (yV Z))<|vc Z f.kp (e7.mv.kb CB Z Z)<|vc Z f.kp (e8.mv.kb GL Z Z) ?_;refine WD.AW Z Z Z (Al d 7 (Ay.call ta Z (jW (L:=HF P.A P.s x) (bs:=Dd P.A P.s x) hs (JI j.mv (by rw[MF];omega) (fun y hy↦by obtain⟨i,_,rfl⟩:=zc.1 hy;have:=jN (A:=P.A) (s:=P.s) (x:=x) (i:=i);omega)).now (Pp g.mv (by rw[Kk];omega)).now (MF _ _ _) (Kk _ _ _) (fun i j9 k0 k1↦Rg i j9 k0 k1)))) Z ?_;rintro v30 a20 ⟨j4,e4,q0,⟨x1,rfl,b7⟩⟩;refine f.AX e4 fun f=>?_;replace b7:=b7.Cl q0;have w3:=b7.Av;have w4:=b7.Aw;refine AK Z Z<|vd Z (fun _=>Ag Z Z)<|vd Z (fun _=>Ag Z Z)<|WD.wild Z Z Z (AJ CB Z Z ra ra o.mv Z) ?_;rintro _ a21 ⟨o,o6⟩;refine Ga Z Z<|WD.nil ?_;clear e7 e8 e9;clear f;refine Ab<|AY j4 [104] [2,1,0,0,2,3,0] [1,2,3,0,4,5,6] fun a22 o7 f=>?_;refine vc Z f.kp (r.mv.kb GL Z Z)<|AK Z Z<|vd Z (fun _=>AU Z Z)<|WD.AW Z Z Z (Ay.val (Ah CB Z o.mv.Ap Z)) Z ?_;rintro _ _ ⟨rfl,rfl⟩;refine⟨id,?_⟩;refine WD.AI Z Z Z (AJ CB Z Z ra ra o.mv Z) ?_;rintro _ a23 ⟨o,e5⟩;refine f.AX e5 fun f=>WD.wild Z Z Z (AJ GL Z Z ra ra r.mv Z) ?_;rintro _ a24 ⟨r,e6⟩;try replace f:=f.tr e6 Z
  refine Ga Z Z<|WD.nil ?_;clear f;obtain⟨p2,v8⟩:=((((((k2.mv o5).mv e4).mv o6).mv o7).mv e5).mv e6).take;refine qA Z Z p2 (Jm CB Z o.mv.Ap Z) (Jm GL Z r.mv.Ap Z) (Cp.tmp Z) ?_;have j8:decide ((if(Qc P.s (HF P.A P.s x) (Dd P.A P.s x)).isSome=true then(0:Int) else 8)=0)=(Hi P.A P.s x).isSome:=by
   rw[Hi];cases(Qc P.s (HF P.A P.s x) (Dd P.A P.s x)).isSome<;>rfl
  refine⟨J.mv.below,_,_,?_,g.mv.vX J.mv,b7.mv.vX J.mv⟩;rw[j8]
 ·intro p hp;simp at hp
 exact fun _ _ _ _ h=>h.elim
theorem jZ{s:Cn}{L:List Tx}{bs:List Bool}{O:List Tx}(h:Small s)(b0:bs.length=s.k+s.m)(b7:L.length=s.k+s.m)(hs:∀(i:Nat) (h1:i<bs.length) (b5:i<L.length),bs[i]=true→L[i].length=s.size)(f:Qc s L bs=some O):O.length=s.k+s.m∧∀x∈O,x.length=s.size:=by
 unfold Qc at f;split at f
 ·cases f
 ·rename_i a8;injection f with f;subst f;have o:=Pl bs s.k 0;have a7:=LZ bs s.k 0;have g:=Vh h b0;have r:=Qj bs s.k 0;obtain⟨H,U⟩:∃H,H=CS s.k 0 bs:=⟨_,Z⟩;rw[←U] at a8 o a7 g r⊢;have j:H.length=s.k:=oo;have g:=g j;obtain⟨J,g2,R⟩:=Tq h;have b2:=ju h (fun i hi=>by have:=o i hi;omega) j;have b1:=WQ b2 g;obtain⟨b3,t,b4⟩:=YY b1 R g2;obtain⟨C,I⟩:=Tz (m:=KH (MM s.k s.m) (Gv (Hr (MM s.k s.m) H))) (l:=H.map fun i=>L.getD i []) (n:=s.size) b4 (by rw[t,yF,j];exact lx _) (by rw[t];exact h.1) (fun x hx=>by
   obtain⟨k,hk,rfl⟩:=zc.1 hx;have b6:=o k hk;have p:=r k hk;rw[Nat.sub_zero] at p;obtain⟨a1,a6⟩:=yO.1 p;have hc:=hs k a1 oo a6;rw[gy,aa oo];exact hc)
  exact⟨by rw[C,b3,J],I⟩
theorem Vu{A:Cr}{s:Cn}{x:CZ}{O:List Tx}(h:Small s)(l:Hi A s x=some O):O.length=s.k+s.m∧∀y∈O,y.length=s.size:=
 jZ h (Kk _ _ _) (MF _ _ _) (fun i f g j=>Rg i f g j) l
theorem kc{p:Nat}{P:Ek}{n m:Nat}{d:Tx}(hp:Ts c w p P)(hs:Small P.s)(h5:FF n m P.A)(j0:UR P.A)(a1:Dv P.s P.b=true):
 Calls QP 49 #[P1 p,St d] w (AP fun v w'=>Below w.heap.size w w'∧v= .tuple #[St (JE P.A P.s P.b d).1,I (JE P.A P.s P.b d).2]):=by
 obtain⟨pa,pj,vS,vT,vG,f⟩:=hp;have g:=Dh.start c w CT;replace f:=f.Ca (K:=CT);generalize AT c CT=c0 at g f;have J:=f.Ap;have b1:=f.bk.s;have b7:=f.bk.t;have e6:=f.bk.s.now.Av;have e7:=f.bk.t.now.Av;have e8:=f.bk.g.now.Av;obtain⟨k0,k1,n8,k2,k3⟩:=id hs;obtain⟨Q,a8⟩:∃Q,Q=P.s.k*P.s.size:=⟨_,Z⟩;have l6:Q≤360:=by rw[a8];exact yQ k1 k3
 refine enter (n:=94) (res:=#[.tmp 4, .tmp 5]) Tryz.func49 Z Z Z Z<|Ab<|cg<|za Z<|za Z<|Ac<|Ab<|cg<|zm Z<|vq (Ae Z)<|vq (Aa Dr Z)<|vq (Cy EB Z J.Ap (yV Z))<|zm Z<|ve (Al c0 1 (Ay.call qI Z (Qp (n:=P.b.next) (d:=d) b7.now e6 e7 e8 (GP a1)))) ?_;rintro n9 w1 ⟨c1,h6,l7,rfl⟩;refine zm Z<|vq (Ag Z Z)<|vq (Ag Z Z)<|za Z<|za Z<|Ac<|Ab<|Ab<|cg<|zm Z<|vq (Bq Z)<|Ac<|AS Z (fun b3=>?_) fun b3=>?_
 ·have e:JE P.A P.s P.b d=([],3):=by
   have U:P.b.things.findIdx? (fun e=>e.Ak==d)=none:=by
    cases h:ny P.b.things d with
    |none=>exact h
    |some i=>rw[h] at b3;simp at b3
   rw[JE,U]
  refine Ab<|cg<|za Z<|za Z<|Ac<|Dn Z Z Z ?_;exact⟨g.mv.below,by rw[e]⟩
 obtain⟨i,hi⟩:=Aaa.1 (show(ny P.b.things d).isSome=true by simpa using b3);have j4:=Qn (GP a1) hi;obtain⟨c3,_,_⟩:=zJ.1 hi;rw[j4];obtain⟨E,b6⟩:∃E,E=P.b.things[i]:=⟨_,Z⟩;have e0:E∈P.b.things:=by rw[b6];exact oy c3
 have c8:JE P.A P.s P.b d=match Qf P.A P.s P.b [] E.list with
  |none=>([],8)
  |some t=>(t,0):=by
  have U:P.b.things.findIdx? (fun e=>e.Ak==d)=some i:=hi;rw[JE,U];dsimp only;rw[List.getElem?_eq_getElem c3,←b6];rfl
 have l0:E.list.length≤100000:=by
  obtain⟨_,k8,k9,h4,_⟩:=LW (DV a1).2.2.1 E e0;rw[h4,BF,←a8];have l5:1≤Q:=by rw[a8];exact yQ k0 k2
  have:=Adb (E.len.toNat+Q-1) Q;omega
 obtain⟨e9,b9,R,_⟩:=WK (b7.mv h6) c3;rw[←b6] at b9 R;have n5:=R.now.Av;refine Aj<|Ab<|cg<|za Z<|Ac<|Ab<|Ab<|cg<|zm Z<|vq (Ae Z)<|vq (Aa Dr Z)<|vq (Aa EK Z)<|vq (Ah HA Z J.mv.Ap Z)<|zm Z<|vq (ER Dt) ?_;refine vq (AR IL Z)<|vq (EA BL Z b9.CY Z)<|vq (BI Bu) ?_;refine zm Z<|Ac<|Ai<|WC.loop (σ:=Nat×Tx) (fun C=>[(0,P1 p),(8,St C.2),(38,e9),(39,I E.list.length),(40,I C.1)]) (fun C w'=>(C.1≤E.list.length∧C.2.length≤400*C.1∧Qf P.A P.s P.b [] E.list=Qf P.A P.s P.b C.2 (E.list.drop C.1))∧∃c',Dh c w CT c' w'∧BU c' w' p pa pj vS vT vG P∧Bi Bw c' w' [94] e9 E.list) (fun C=>E.list.length-C.1) (0,[]) Aq ⟨⟨Nat.zero_le _,by simp,Z⟩,_,g.mv,f.mv,R⟩ ?_;clear g f J b1 b7 b9 R;rintro⟨j,t⟩ p0 ⟨⟨j3,j8,b4⟩,h1,g,f,R⟩;dsimp only at j3 j8 b4 g f R;have J:=f.Ap;have b1:=f.bk.s;refine Ab<|cg<|vq (AE Z Z)<|Ac<|Ab<|AS Z (fun j2=>?_) fun j2=>?_
 ·have c4:j<E.list.length:=oo;have j1:=(BP R c4 dd).1;obtain⟨k,hk⟩:=YE a1 e0 (oy c4);have j5:=IX (HE a1) hk;obtain⟨c5,_,_⟩:=zJ.1 hk;have j6:=fun(x:CZ) (h:P.b.stripes[k]?=some x)↦bc (A:=P.A) (s:=P.s) hk h;have r:=jO (A:=P.A) (s:=P.s) (b:=P.b) (t:=t) c4;rw[←b4] at r;refine Aj<|Ab<|Ai<|Ab<|cg<|vq (ER Bu) ?_;refine vq (Bl Au Z j1.CY)<|za Z<|Ac<|Ab<|cg<|zm Z<|vq (Ae Z)<|vq (Aa Dr Z)<|vq (Cy EB Z J.Ap (yV Z))<|zm Z<|ve (Al h1 1 (Ay.call hF Z (IY (n:=P.b.next) (d:=E.list[j]) b1.now e6 e7 e8 (HE a1)))) ?_;rintro o0 w2 ⟨c2,h7,l8,rfl⟩;rw[j5];obtain⟨x,hx⟩:∃x,x=P.b.stripes[k]:=⟨_,Z⟩;have e4:=(Mz a1 x (by rw[hx];exact oy c5)).1;obtain⟨u,e2,c7,_⟩:=KM (b1.mv h7) c5;rw[←hx] at e2 c7;have n6:=c7.now.Av;have j7:=j6 x (by rw[aa c5,hx]);rw[j7] at r;refine zm Z<|vq (Ag Z Z)<|vq (Ag Z Z)<|za Z<|za Z<|Ac<|Ab<|cg<|zm Z<|vq (Ae Z)<|vq (Aa Dr Z)<|vq (Aa CN Z)<|vq (Ah EC Z J.mv.Ap Z)<|zm Z<|vq (ER Cg) ?_;refine vq (Dg BB Z e2.CY Z)<|Db c2 113 GZ fun o5 k6 h0 l1 b0=>?_;refine WR.AI (Am BB Z Z b0 Z Z AG) ?_;rintro _ o6 ⟨b0,l2⟩;refine Ac<|Ab<|cg<|zm Z<|vq (AD BB Z b0.Ap Z)<|ve (Al h0 10 (Ay.call sO Z (Zq ⟨pa,pj,vS,vT,vG,f.mv⟩ hs h5 j0 c7.mv.now e4))) ?_;rintro o1 o7 ⟨c9,l3,e3,⟨o4,o3,rfl,b5,a6⟩⟩;replace b5:=b5.Cl e3;replace a6:=a6.Cl e3;have n1:=a6.Av;have n2:=a6.Aw;have n3:=b5.Av;have n4:=b5.Aw;refine zm Z<|vq (Ag Z Z)<|vq (Ag Z Z)<|vq (Ag Z Z)<|za Z<|za Z<|za Z<|Ac<|Ab<|Ab<|cg<|zm Z<|vq (Bq Z)<|Ac<|AS Z (fun b2=>?_) fun b2=>?_
  ·have U:Hi P.A P.s x=none:=by
    cases h:Hi P.A P.s x with
    |none=>rfl
    |some l=>rw[h] at b2;simp at b2
   rw[U] at r;refine Ab<|cg<|za Z<|za Z<|Ac<|Dn Z Z Z ?_;exact⟨g.mv.below,by rw[c8,r]⟩
  obtain⟨O,e1⟩:=Option.isSome_iff_exists.1 (show(Hi P.A P.s x).isSome=true by simpa using b2);obtain⟨n0,e5⟩:=Vu hs e1;rw[e1] at r a6;obtain⟨k5,n7,rfl,h2,h3⟩:=a6.own.Yg;obtain⟨p1,p2,p3,k4,p4,p5⟩:=CW e4;refine Aj<|Ab<|AY c9 [] [0,0,0,1,0,0,0,0,0,1,0,0,1,2,0,0,0,0,0] [0,1,2,3,4,5,6,7,8,9,10,11,12,13,14,15,16,17,18] fun o8 l4 a7=>?_;refine AK Z Z<|vd Z (fun _=>Ae Z)<|vd Z (fun _=>Aa Eb Z)<|vc Z a7.kp (fun W h9=>Cy Cq Z (J.mv.kp h9 Z).Ap (Nat.le_of_ble_eq_true Z))<|AK Z Z<|AK Z Z<|vd Z (fun _=>Ae Z)<|vd Z (fun _=>Aa Eb Z)<|vd Z (fun _=>Aa Ce Z) ?_;refine vc Z a7.kp (J.mv.kb Au Z Z)<|vd Z (fun _=>GC BE Z Z oo (by simp only[Option.getD_some] at h2;omega))<|vd Z (fun _=>Aa IJ Z)<|vc Z a7.kp (b0.mv.kb Au Z Z) ?_;refine WD.AW Z Z Z (Al c9 1 (Ay.call xZ Z (jT (L:=O.take P.s.k) (n:=x.len) hs.ok (Dx.part (lo:=0) (hi:=P.s.k) (JI a6.mv (by simp only[Option.getD_some];omega) (fun y hy↦by rw[e5 y hy];omega)).now oo (by simp only[Option.getD_some];omega)) (Dc.sub h3 (by simp only[Option.getD_some];omega)) (by rw[List.length_take];omega) (fun y hy↦e5 y (List.mem_of_mem_take hy)) oo k4))) Z ?_;rintro o2 o9 ⟨k7,h8,l9,rfl⟩;refine a7.AX h8 fun a7=>?_;obtain⟨o,c6⟩:∃o,o=QV P.s (O.take P.s.k) x.len:=⟨_,Z⟩;dsimp only at r;rw[←c6] at r;rw[←c6];refine AK Z Z<|vd Z (fun _=>Ag Z Z)<|vd Z (fun _=>Ag Z Z)<|Ga Z Z<|Ga Z Z<|WD.nil ?_;clear a7;refine Ab<|Ab<|cg<|zm Z<|vq (Bm Z Z)<|Ac<|AS Z (fun b8=>?_) fun b8=>?_
  ·have U:o=none:=by
    cases o with
    |none=>rfl
    |some l=>simp at b8
   rw[U] at r;refine Ab<|cg<|za Z<|za Z<|Ac<|Dn Z Z Z ?_;exact⟨g.mv.below,by rw[c8,r]⟩
  obtain⟨y,rfl⟩:∃y,o=some y:=by
   cases o with
   |none=>simp at b8
   |some l=>exact⟨l,Z⟩
  have j9:=Vt c6.symm;rw[←a8] at j9;refine Aj<|cg<|zm Z<|zm Z<|vq (dU Z Z (by simp only[Option.getD_some];omega))<|za Z<|Ac<|cg<|vq (AH Z Z Ad Ad) ?_;refine zm Z<|Ac ?_;exact⟨(j+1,t++y),Aq,⟨⟨by dsimp only;omega,by dsimp only;rw[List.length_append];omega,r⟩,_,g.mv,f.mv,R.mv⟩,by show E.list.length-(j+1)<E.list.length-j;omega⟩
 have e:E.list.drop j=[]:=Rx oo;rw[e,Qf] at b4
 refine WC.exit Z<|Ab<|cg<|zm Z<|za Z<|za Z<|Ac<|Dn Z Z Z ?_;exact⟨g.below,by rw[c8,b4]⟩
theorem kd{k p:Nat}{rest:List Value}{P:Ek}{n m:Nat}{d:Tx}(i:Ar c w 95 k (P1 p::rest) 73)(hp:Ts c w p P)(hs:Small P.s)(r:FF n m P.A)(C:UR P.A)(o:Dv P.s P.b=true):
 Calls QP 28 #[P1 k,St d] w (AP fun v w'=>Below w.heap.size w w'∧v= .tuple #[St (Fy P.A P.s P.b d).1,I (Fy P.A P.s P.b d).2]):=by
 obtain⟨pa,pj,vS,vT,vG,g⟩:=hp;have f:=Dh.start c w (95::CT);replace g:=g.Ca (K:=95::CT);replace i:=i.Ca (J:=95::CT) Z;generalize AT c (95::CT)=c0 at f g i;have R:=fQ (A:=P.A) (d:=d) (n:=360) o (yQ hs.2.1 hs.2.2.2.2);refine enter (n:=26) (res:=#[.tmp 4, .tmp 5]) Tryz.func28 Z Z Z Z<|Ab<|cg<|za Z<|za Z<|Ac<|Ab<|cg<|zm Z<|vq (Ae Z)<|vq (Aa Ml Z)<|vq (Ah Jt Z i.Ap Z)<|zm Z<|ve (Al c0 1 (Ay.call xH Z (kc ⟨pa,pj,vS,vT,vG,g⟩ hs r C o))) ?_;rintro a8 w1 ⟨c1,U,a6,rfl⟩;obtain⟨t,ht⟩:∃t,t=JE P.A P.s P.b d:=⟨_,Z⟩;rw[Fy,←ht];rw[←ht] at R;refine zm Z<|vq (Ag Z Z)<|vq (Ag Z Z)<|za Z<|za Z<|Ac<|Ab<|Ai<|Ab<|cg<|zm Z<|vq (Bm Z Z)<|za Z<|Ac<|AS Z (fun j=>?_) fun j=>?_
 ·rw[yP j];refine Ab<|cg<|za Z<|za Z<|Ac<|Dn Z Z Z ?_;exact⟨f.mv.below,Z⟩
 rw[yK (by simpa using j)];refine Ab<|cg<|zm Z<|ve (Al c1 1 (Ay.call sJ Z (pO t.1 oo))) ?_;rintro b0 w2 ⟨c2,a1,a7,rfl⟩;refine zm Z<|vq (lG Z Z)<|za Z<|Ac<|AS Z (fun l=>?_) fun l=>?_
 ·rw[yP (by simpa using l)];refine Ab<|cg<|za Z<|za Z<|Ac<|Dn Z Z Z ?_;exact⟨f.mv.below,Z⟩
 rw[yK (by simpa using l)];refine Aj<|Ab<|cg<|zm Z<|za Z<|za Z<|Ac<|Dn Z Z Z ?_;exact⟨f.mv.below,Z⟩
end Go.Proofs.K
namespace Go.Eng
open Go Go.RowKit Silo
structure Xc (c:Nat→Nat) (w:World) (J:List Nat) (vs:List Value) (F:List (List Int)):Prop where
 len:vs.length=F.length
 row:∀(j:Nat) (v:Value) (l:List Int),vs[j]?=some v→F[j]?=some l→Bi Bw c w J v l
structure KS (c:Nat→Nat) (w:World) (vL vF:Value) (live:List Bool) (F:List (List Int)):Prop where
 kh:Ao c w 130 4 1 vL live.length (live.map .bool)
 row:∃vs,Ao c w 131 23 1 vF F.length vs∧Xc c w [132] vs F
section
variable {c c':Nat→Nat} {w w':World} {J I:List Nat} {vs:List Value} {F:List (List Int)} {vL vF:Value} {live:List Bool}
theorem Xc.mv(h:Xc c w J vs F)(m:Mv c w c' w' I:=by exact Go.Eng.Jb)(hi:Bd J I=true:=by rfl):Xc c' w' J vs F:=⟨h.len,fun j v l f g=>Fq.mv (h.row j v l f g) m hi⟩
theorem Xc.nil:Xc c w J [] []:=⟨Z,fun j v l h=>by simp at h⟩
theorem Xc.snoc(h:Xc c w J vs F){v:Value}{l:List Int}(hv:Bi Bw c w J v l):Xc c w J (vs++[v]) (F++[l]):=⟨by simp[h.len],fun j u i g f=>by
 rcases FU g with⟨rfl,rfl⟩|g
 ·rcases FU f with⟨_,rfl⟩|f
  ·exact hv
  ·rw[yW (by rw[h.len];omega)] at f;cases f
 ·rcases FU f with⟨e,rfl⟩|f
  ·rw[yW (by rw[e,h.len];omega)] at g;cases g
  ·exact h.row j u i g f⟩
theorem Xc.set(h:Xc c w J vs F){k:Nat}{v:Value}{l:List Int}(hv:Bi Bw c w J v l):Xc c w J (vs.set k v) (F.set k l):=⟨by rw[zF,zF];exact h.len,fun j u p g f=>by
 rcases FL g with⟨rfl,rfl,_⟩|⟨i,g⟩
 ·rcases FL f with⟨_,rfl,_⟩|⟨o,_⟩
  ·exact hv
  ·exact absurd Z o
 ·rcases FL f with⟨e,_,_⟩|⟨_,f⟩
  ·exact absurd e i
  ·exact h.row j u p g f⟩
theorem KS.mv(h:KS c w vL vF live F)(m:Mv c w c' w' I:=by exact Go.Eng.Jb)(hi:Bd [130,131,132] I=true:=by rfl):KS c' w' vL vF live F:=by
 obtain⟨vs,f,g⟩:=h.row;exact⟨h.kh.mv m (Bo hi ss),vs,f.mv m (Bo hi ss),g.mv m (BC hi ss)⟩
theorem Vv(l:List Bool):l.flatMap (fun x=>[Value.bool x])=l.map .bool:=by
 induction l with
 |nil=>rfl
 |cons a l f=>rw[zD,f];rfl
theorem ki(vs:List Value):(vs.map fun v=>[v]).flatten=vs:=by
 induction vs with
 |nil=>rfl
 |cons a l f=>rw[Rw,VM,f];rfl
theorem KS.yx(h:KS c w vL vF live F)(p:F.length≤1048576):Bi MQ c w [131,132] vF F:=by
 obtain⟨vs,f,g,i⟩:=h.row;refine Ao.rd (css:=vs.map fun v=>[v]) (by rw[ki];exact f) oo (by rw[yF,g]) (by rfl) fun k cs x hk hx=>?_;rw[yY] at hk;obtain⟨v,hv,rfl⟩:=Aam.1 hk;refine Hm.imp (Hm.mono (i k v x hv hx) fun j _ l=>?_) fun w' _ o=>⟨v,Z,o⟩;have:c j=132:=Lp.1 l;show AA [131,132] (c j)=true
 rw[this];rfl
theorem KS.zh(h:KS c w vL vF live F)(f:live.length≤1048576):Bi En c w [130] vL live:=Go.Proofs.K.Pp h.kh f
end
theorem Fq.TB{c0 c:Nat→Nat}{w0 w:World}{J:List Nat}{Φ:World→Prop}{i:Nat}(f:Fq Φ c w [i])(h:AZ c0 w0 J c w)(hi:(Nat.blt 0 i&&AA J i)=true:=by rfl):Fq Φ (back c0 w0 c) w [i]:=Hm.mono f fun k _ hk=>by
 rw[kg] at hi;show AA [i] (back c0 w0 c k)=true
 rw[Ox h hi.2 (by have:=yV hi.1;omega) (Lp.1 hk)];simp[AA]
theorem Fq.wh{J:List Nat}{Φ:World→Prop}{i:Nat}(h:Fq Φ c w [i])(hi:AA J i=true:=by rfl):Fq Φ (AT c J) w [i]:=Hm.mono h fun k _ hk=>by
 show AA [i] (AT c J k)=true
 have:c k=i:=Lp.1 hk;rw[IA (by rw[this];exact hi),this];simp[AA]
end Go.Eng
namespace Go.Proofs.K
open Go Go.Eng Go.RowKit Silo TryzT
theorem kj{vL vF:Value}{live:List Bool}{F:List (List Int)}(i:Rd En w vL live)(g:Rd MQ w vF F):Calls QP 122 #[.agg #[vL,vF]] w (AP fun u w'=>Below w.heap.size w w'∧∃b:Bool,u= .bool b):=by
 have R:=i.Av;have U:=g.Av;have a7:=i.small;have a8:=g.small;obtain⟨c,f,hc⟩:=AQ.start w;clear hc;have hl:=f.rd i;have o:=f.rd g;clear i g;refine enter (n:=28) (res:=#[.tmp 2]) Tryz.func122 Z Z Z Z<|Ab<|cg<|Dz c 101 fun w1 b1 c1 j l=>?_;refine za Z<|Ac<|Ab<|cg<|vq (Aa Kz Z)<|vq (Ah GL Z l.Ap Z)<|vq (BI FR) ?_;refine za Z<|Ac<|Ab<|cg<|za Z<|Ac<|Ab<|cg<|zm Z<|vq (Cu Z Z)<|zm Z ?_;apply WR.CJ true 2 _ BT
 ·intro I;refine wo<|zm rfl<|wo<|vq (FV rfl rfl) ?_;exact Dm 2
 refine zm Z ?_;apply WR.CJ true 5 _ BT
 ·intro t;refine wo<|vq (Aa CA rfl)<|wo<|vq (Ah ET rfl l.Ap rfl)<|wo<|vq (BI Hn) ?_;refine wo<|zm rfl<|wo<|vq (AU rfl rfl) ?_;exact Dm 5
 refine zm Z ?_;replace f:=f.mv j;replace hl:=hl.mv j;replace o:=o.mv j;apply vY true 5 (fun x w'=>∃c',AQ w c' w') BT ((fun _=>⟨true,_,f⟩))
 ·intro C;refine wo<|vq (Aa CA rfl)<|wo<|vq (Ah ET rfl l.Ap rfl)<|wo<|zm rfl<|wo<|ve (Al c1 1 (Ay.call tY rfl (nJ o.now))) ?_;rintro a1 w2 ⟨c2,r,J,⟨b,rfl⟩⟩;refine wo<|vq (Bq rfl) ?_;exact WR.nil ⟨_,rfl,Sub.drop _ 5 _ rfl rfl,⟨_,f.mv⟩⟩
 rintro x a6 ⟨p,f⟩;refine za rfl<|Ac<|Az rfl rfl ?_;exact⟨f.below,_,rfl⟩
theorem kk{vL vF:Value}{live:List Bool}{F:List (List Int)}(c3:Rd En w vL live)(b9:Rd MQ w vF F)(j6:live.length≤100∧F.length≤100)(hl:∀l∈F,l.length≤100):Calls QP 123 #[.agg #[vL,vF]] w (AP fun u w'=>∃c',Mv c w c' w' []∧∃e0 c9,KS c' w' e0 c9 live F∧u= .agg #[e0,c9]):=by
 have k0:=c3.Av;have k1:=b9.Av;have hJ:=AZ.start c w [];have c6:=c3.so (c:=c) [];have C:=b9.so (c:=c) [];generalize AT c []=c0 at hJ c6 C;refine enter (n:=26) (res:=#[.cell 2 55]) Tryz.func123 Z Z Z Z<|Ab<|cg<|Dz c0 101 fun w1 b1 c1 j2 a8=>?_;refine Db c1 102 Fv fun w2 b2 c2 j4 r=>Ac<|Ab<|cg<|vq (Aa Kz Z)<|vq (Ah GL Z a8.mv.Ap Z)<|ve (Al c2 130 (Ay.call pp Z (TA c6.mv.now oo))) ?_;rintro k3 k7 ⟨e2,j5,h3,f⟩;replace f:=f.Cl h3;obtain⟨b5,b8,rfl,_⟩:=f.own.len;refine vq (AB (cells:=#[.slice b5 live.length b8, .slice none 0 0]) Z kr) ?_;refine Db e2 103 Fv fun k8 b3 b6 e6 g=>WR.AI (Am Cz Z Z g Z Z AG) ?_;rintro _ e1 ⟨g,e7⟩;refine Ac<|Ab<|Ab ?_;have c7:=Vv live;replace f:=(f.mv e6).mv e7;rw[c7] at f;have o:Ao b6 e1 131 23 1 (.slice none 0 0) 0 []:=Ao.nil _ _ _ _ _;have t:Xc b6 e1 [132] [] (F.take 0):=Xc.nil;obtain⟨J,a7⟩:∃J,J=Value.slice b5 live.length b8:=⟨_,Z⟩;have k4:J.oneCell'=true:=by rw[a7];rfl
 rw[←a7] at f g;clear a7 c7;refine cg<|vq (Aa CA Z)<|vq (Ah ET Z a8.mv.Ap Z)<|vq (BI Hn) ?_;refine zm Z<|Ac<|Ai<|WC.loop (σ:=Nat) (fun i=>[(2,P1 b2),(3,P1 b3),(11,vF),(12,I F.length),(13,I i)]) (fun i w'=>i≤F.length∧∃c' b4 vs,AZ c w [] c' w'∧Bi MQ c' w' [0] vF F∧Ar c' w' 102 b2 [.slice none 0 0, .slice none 0 0] 55∧Ao c' w' 130 4 1 J live.length (live.map .bool)∧Ar c' w' 103 b3 [J,b4] 55∧Ao c' w' 131 23 1 b4 i vs∧Xc c' w' [132] vs (F.take i)) (fun i=>F.length-i) 0 Aq ⟨yU _,_,_,_,hJ.mv,C.mv,r.mv,f,g,o,t⟩ ?_;clear hJ C r f g o t a8;rintro i l3 ⟨hi,b7,b4,vs,hJ,C,r,f,g,o,t⟩;have h5:=o.Av;have h6:=o.Aw;refine Ab<|cg<|vq (AE Z Z)<|Ac<|Ab<|AS Z (fun h0=>?_) fun h0=>?_
 ·have b0:i<F.length:=oo;obtain⟨u,e9,hu⟩:=KR C b0;have j9:=hl _ (oy b0);have h2:=RQ hu.now;have j7:=hu.now.Av;have j8:=hu.now.Aw;refine Aj<|Ab<|Ai<|Ab<|cg<|vq (ER Hn) ?_;refine vq (Bl BL Z e9.CY)<|za Z<|Ac<|AY b7 [131] [0,1,0,2,2,2,0,3] [0,1,2,3,4,5,6,7] fun k9 e8 p=>?_;refine vd Z (fun _=>Aa CA Z)<|vc Z p.kp (g.mv.kb ET Z Z)<|AK Z Z<|WD.AW Z Z Z (Al b7 132 (Ay.call Uo Z (HJ hu.mv.now oo))) Z ?_;rintro v20 l0 ⟨e3,c4,h4,R⟩;refine p.AX c4 fun p=>?_;replace R:=R.Cl h4;obtain⟨h7,j1,rfl,_⟩:=R.own.len;have h1:Bi Bw _ _ [132] _ F[i]:=R.Ez oo h2;refine WD.AW Z Z Z (Bb e3 121 Hn Z Z Z Z Z) Z ?_;rintro _ l1 ⟨h8,h9,rfl,a1,c5⟩;refine p.AX a1 fun p=>WD.AW Z Z Z (AN Hn Z Z o.mv (Src.An Tryz.underlying53 c5.Ap.An Z AG) EY Fb) Z ?_;rintro k2 l2 ⟨j0,a6,o⟩;refine p.AX a6 fun p=>?_;clear c5;have h5:=o.Av;have h6:=o.Aw;refine vd Z (fun _=>Aa CA Z)<|WD.wild Z Z Z (AJ ET Z Z ra ra g.mv Z) ?_;rintro _ k5 ⟨g,U⟩;try replace p:=p.tr U Z
  refine WD.nil ?_;clear p;refine cg<|vq (AH Z Z Ad Ad)<|zm Z<|Ac ?_;have c8:=(((((t.mv e8).mv c4).mv a1).mv a6).mv U).snoc (((h1.mv a1).mv a6).mv U);rw[←yG b0] at c8;exact⟨i+1,Aq,⟨by omega,_,_,_,hJ.mv,C.mv,r.mv,f.mv,g,o.mv,c8⟩,by omega⟩
 have e:i=F.length:=oo;subst e;rw[Ui] at t;refine WC.exit Z<|Ab<|cg<|vq (AD Cz Z g.Ap Z)<|WR.AI (Am Cz Z Z r Z Z AG) ?_;rintro _ k6 ⟨r,j3⟩;refine Ac<|Fz Z (Br Cz Z r.Ap Z) ?_;exact⟨_,hJ.mv.out,_,_,⟨f.mv.Ej hJ.mv,_,o.mv.Ej hJ.mv,⟨t.mv.len,fun j v l e4 e5↦(t.mv.row j v l e4 e5).Ej hJ.mv⟩⟩,Z⟩
def dJ(c:Nat→Nat)(w:World)(f:FuncId)(g:Array Value)(q:Int→Int→Int)(xs:List Int):Prop:=
 ∀(c':Nat→Nat) (w':World) (x y:Int),Mv c w c' w' [135]→x∈xs→y∈xs→Calls QP f (#[I x,I y]++g) w' (AP fun u w''=>Below w'.heap.size w' w''∧u=I (q x y))
theorem kl{v:Value}{n:Nat}{xs:List Int}{f:FuncId}{r:Array Value}{q:Int→Int→Int}(l:Ao c w 135 3 1 v n (xs.map I))(hx:xs.length=n)(h8:n≤12)(c6:Af QP f=true)(e1:dJ c w f r q xs):
 Calls QP 361 #[v,I 0,I n, .func (.func f) #[] r] w (AP fun _ w'=>∃c',Mv c w c' w' [135]∧∃ys:List Int,ys.Perm xs∧Ao c' w' 135 3 1 v n (ys.map I)):=by
 have hJ:=AZ.start c w [135];replace l:=l.Ca (J:=[135]) Z;rcases zX n with a6|a6
 ·subst a6;have e4:xs=[]:=yJ hx;subst e4;refine enter (n:=53) (res:=#[]) Tryz.func361 Z Z Z Z<|Ab<|cg<|zm Z<|vq (AH Z Z Ad Ad)<|za Z<|Ac<|Ai ?_;refine WC.loop (σ:=Unit) (fun _=>[(0,v),(1,I 0),(2,I 0),(3, .func (.func f) #[] r),(8,I 1)]) (fun _ w'=>∃c',AZ c w [135] c' w'∧Ao c' w' 135 3 1 v 0 []) (fun _=>0) () Aq ⟨_,hJ,l⟩ ?_;clear hJ l;rintro _ e5 ⟨b8,hJ,l⟩;refine Ab<|Ab<|cg<|zm Z<|zm Z<|vq (AE Z Z)<|Ac<|CD Z (fun R=>?_) fun R=>?_
  ·exact absurd R dd
  refine WC.exit Z<|⟨_,_,Z,Z,?_⟩;exact⟨Z,_,hJ.out,[],List.Perm.refl _,l.out hJ Z⟩
 obtain⟨g,cp,rfl,h9,h7⟩:=l.BW a6;generalize AT c [135]=c0 at hJ l;refine enter (n:=53) (res:=#[]) Tryz.func361 Z Z Z Z<|Ab<|cg<|zm Z<|vq (AH Z Z Ad Ad)<|za Z<|Ac<|Ai ?_;refine WC.loop (σ:=Nat) (fun i=>[(0, .slice (some ⟨g,0,none⟩) n cp),(1,I 0),(2,I n),(3, .func (.func f) #[] r),(8,I i)]) (fun i w'=>i≤n∧∃c' ys,ys.Perm xs∧AZ c w [135] c' w'∧Ao c' w' 135 3 1 (.slice (some ⟨g,0,none⟩) n cp) n (ys.map I)) (fun i=>n-i) 1 Aq ⟨by omega,_,xs,List.Perm.refl _,hJ,l⟩ ?_;clear hJ l;rintro i e5 ⟨hi,b8,ys,hp,hJ,l⟩;refine Ab<|Ab<|cg<|zm Z<|zm Z<|vq (AE Z Z)<|Ac<|AS Z (fun R=>?_) fun R=>?_
 ·have h5:i<n:=oo;refine Aj<|Ab<|Ai<|Ab<|cg<|zm Z<|za Z<|Ac<|Ai<|WC.loop (σ:=Nat) (fun j=>[(0, .slice (some ⟨g,0,none⟩) n cp),(1,I 0),(2,I n),(3, .func (.func f) #[] r),(8,I i),(9,I j)]) (fun j w'=>j≤i∧∃c' ys,ys.Perm xs∧AZ c w [135] c' w'∧Ao c' w' 135 3 1 (.slice (some ⟨g,0,none⟩) n cp) n (ys.map I)) (fun j=>j) i Aq ⟨by omega,_,ys,hp,hJ,l⟩ ?_;clear hJ l hp;rintro j k0 ⟨h6,a1,p,hp,hJ,l⟩;have b6:p.length=n:=by rw[hp.length_eq,hx]
  have b2:j<p.length:=oo;have b3:j-1<p.length:=oo;have U:=l;rw[←b6] at U;have t:=U.Za b2;have C:=U.Za b3;clear U;obtain⟨a,a7⟩:∃a,a=p[j]:=⟨_,Z⟩;obtain⟨b,a8⟩:∃b,b=p[j-1]:=⟨_,Z⟩;have c8:a∈xs:=hp.mem_iff.1 (by rw[a7];exact oy b2);have c9:b∈xs:=hp.mem_iff.1 (by rw[a8];exact oy b3);rw[←a7] at t;rw[←a8] at C;rw[b6] at t C;refine Ab<|Ab<|AY a1 [] [0,0,0,0,0,0,0,0,1,0,0,0,0,1,2,0,0] [0,1,2,3,4,5,6,7,8,9,10,11,12,13,14,15,16] fun w1 b4 o=>?_;refine AK Z Z<|AK Z Z<|vd Z (fun _=>BZ Z Z)<|AK Z Z ?_;apply WD.Ko a1 true 12 _ o.kp RH
  ·intro j0 b9;have c7:0<j:=oo;refine AK rfl rfl<|AK rfl rfl<|AK rfl rfl<|vd rfl (fun _=>Bj Bu l.mv rfl rfl oo oo)<|vc rfl o.kp (t.mv.ke Au rfl)<|AK rfl rfl<|AK rfl rfl<|vd rfl (fun _=>EX rfl rfl Ad Ad)<|vd rfl (fun _=>Bj Bu l.mv rfl rfl oo oo) ?_;rw[show((j:Int)-1).toNat=j-1 by omega];refine vc rfl o.kp (C.mv.ke Au rfl)<|WD.AW rfl rfl rfl (Al a1 1 (Gg rfl c6 rfl (e1 _ _ a b hJ.mv.out c8 c9))) rfl ?_;rintro j2 w2 ⟨c2,c1,j1,rfl⟩;refine o.AX c1 fun o=>vd rfl (fun _=>AE rfl rfl) ?_;exact WD.Kq 12 b9.mv
  intro j3 b7 b5;refine WD.nil ?_;clear o;refine AS rfl (fun c5=>?_) fun c5=>?_
  ·have c7:0<j:=oo;replace t:=(t.mv b4).mv b5;replace C:=(C.mv b4).mv b5;have b0:=C;have b1:=t;refine Aj<|Ab<|Ai<|WC.mono (N:=(fun e w'=>Sub [(4000000, .tuple #[]),(0, .slice (some ⟨g,0,none⟩) n cp),(1,I 0),(2,I n),(3, .func (.func f) #[] r),(8,I i),(9,I j)] e∧∃c',AZ c w [135] c' w'∧Ao c' w' 135 3 1 (.slice (some ⟨g,0,none⟩) n cp) n (((p.map I).set j (I b)).set (j-1) (I a)))) ?_ ?_
   ·refine Rm b7 [135] [0,0,0,0,0,0,0,0,0,2,0,0,0,2,0,2,0,3] (.quiet 0 (.quiet 1 (.quiet 2 (.quiet 3 (.quiet 4 (.quiet 5 (.quiet 6 (.quiet 7 (.quiet 8 (.quiet 10 (.quiet 11 (.quiet 12 (.two 9 (.one 13 (.quiet 14 (.one 15 (.quiet 16 (.one 17 .nil))))) 13 (.one 9 (.quiet 14 (.one 15 (.quiet 16 (.one 17 .nil)))))))))))))))))) fun j4 h2 o=>?_;refine WT.val Z Z Z (fun _=>Bx Z) Z<|WT.val Z Z Z (fun _=>Bx Z) Z<|WT.val Z Z Z (fun _=>Bx Z) Z<|WT.val Z Z Z (fun _=>Bx Z) Z<|WT.val Z Z Z (fun _=>EX Z Z Ad Ad) Z ?_;refine WT.val Z Z Z (fun _=>Bx Z) Z<|WT.val Z Z Z (fun _=>Bx Z) Z<|WT.val Z Z Z (fun _=>EX Z Z Ad Ad) Z ?_;refine WT.val Z Z Z (fun _=>Bj Bu l.mv Z Z oo oo) Z ?_;rw[show((j:Int)-1).toNat=j-1 by omega];refine WT.val Z Z Z (fun _=>Bx Z) Z<|WT.val Z Z Z (fun _=>Bx Z) Z<|WT.val Z Z Z (fun _=>Bj Bu l.mv Z Z oo oo) Z ?_;refine WT.two ?_ ?_
    ·refine WS.AW Z Z Z (Ay.val (Bl Au Z b0.mv.CY)) Z ?_;rintro _ _ ⟨rfl,rfl⟩;refine⟨id,?_⟩;refine WT.one<|WS.AW Z Z Z (Ay.val (Bl Au Z b1.mv.CY)) Z ?_;rintro _ _ ⟨rfl,rfl⟩;refine⟨id,?_⟩;refine WT.val Z Z Z (fun _=>Bj Bu l.mv Z Z oo oo) Z ?_;refine WT.one ?_;refine WS.AI Z Z Z ((Gt (j:=j) (x:= .tmp 51) (y:= .tmp 46) (u:=I b) Au l.mv Z oo (by rw[show(⟨g,j,none⟩:Addr)=Bh (.slice (some ⟨g,0,none⟩) n cp) 1 (j:Int).toNat by simp[Bh,add_lit]];rfl) Z Z Z)) ?_;rintro _ j5 ⟨e6,c3,l⟩;refine o.AX c3 fun o=>WT.val Z Z Z (fun _=>Bj Bu l Z Z oo oo) Z ?_;rw[show((j:Int)-1).toNat=j-1 by omega];refine WT.one ?_;refine WS.wild Z Z Z ((Gt (j:=j-1) (x:= .tmp 52) (y:= .tmp 50) (u:=I a) Au l Z oo (by rw[show(⟨g,j-1,none⟩:Addr)=Bh (.slice (some ⟨g,0,none⟩) n cp) 1 (j-1) by simp[Bh,add_lit]];rfl) Z Z Z)) ?_;rintro _ j6 ⟨e7,h3,l⟩;refine WT.nil ?_;exact⟨Aq,_,hJ.mv,l⟩
    refine WS.AW Z Z Z (Ay.val (Bl Au Z b1.mv.CY)) Z ?_;rintro _ _ ⟨rfl,rfl⟩;refine⟨id,?_⟩;refine WT.one<|WS.AW Z Z Z (Ay.val (Bl Au Z b0.mv.CY)) Z ?_;rintro _ _ ⟨rfl,rfl⟩;refine⟨id,?_⟩;refine WT.val Z Z Z (fun _=>Bj Bu l.mv Z Z oo oo) Z ?_;refine WT.one ?_;refine WS.AI Z Z Z ((Gt (j:=j) (x:= .tmp 51) (y:= .tmp 46) (u:=I b) Au l.mv Z oo (by rw[show(⟨g,j,none⟩:Addr)=Bh (.slice (some ⟨g,0,none⟩) n cp) 1 (j:Int).toNat by simp[Bh,add_lit]];rfl) Z Z Z)) ?_;rintro _ j7 ⟨e8,c4,l⟩;refine o.AX c4 fun o=>WT.val Z Z Z (fun _=>Bj Bu l Z Z oo oo) Z ?_;rw[show((j:Int)-1).toNat=j-1 by omega];refine WT.one ?_;refine WS.wild Z Z Z ((Gt (j:=j-1) (x:= .tmp 52) (y:= .tmp 50) (u:=I a) Au l Z oo (by rw[show(⟨g,j-1,none⟩:Addr)=Bh (.slice (some ⟨g,0,none⟩) n cp) 1 (j-1) by simp[Bh,add_lit]];rfl) Z Z Z)) ?_;rintro _ j8 ⟨e9,h4,l⟩;refine WT.nil ?_;exact⟨Aq,_,hJ.mv,l⟩
   clear hJ l b0 b1;rintro h1 j9 ⟨e2,h0,hJ,l⟩;refine WC.sub e2 ?_;have e3:(((p.map I).set j (I b)).set (j-1) (I a))=(((p.set j b).set (j-1) a)).map I:=by rw[Aao,Aao]
   rw[e3] at l;have e0:((p.set j b).set (j-1) a).Perm xs:=by rw[a7,a8];exact(List.set_set_perm b2 b3).trans hp
   refine cg<|zm Z<|vq (EX Z Z oo oo) ?_;rw[show(j:Int)-1=((j-1:Nat):Int) by omega];refine za Z<|Ac ?_;exact⟨j-1,Aq,⟨by omega,_,_,e0,hJ,l⟩,by omega⟩
  refine WC.exit Z<|cg<|zm Z<|vq (AH Z Z Ad Ad)<|za Z<|Ac ?_;exact⟨i+1,Aq,⟨by omega,_,_,hp,hJ.mv,l.mv⟩,by omega⟩
 refine WC.exit Z<|⟨_,_,Z,Z,?_⟩;exact⟨Z,_,hJ.out,ys,hp,l.out hJ Z⟩
theorem bg{v:Value}{n:Nat}{xs:List Int}{f:FuncId}{i:Array Value}{q:Int→Int→Int}(g:Ao c w 135 3 1 v n (xs.map I))(hx:xs.length=n)(t:n≤12)(r:Af QP f=true)(C:dJ c w f i q xs):
 Calls QP 310 #[v,I n, .func (.func f) #[] i] w (AP fun _ w'=>∃c',Mv c w c' w' [135]∧∃ys:List Int,ys.Perm xs∧Ao c' w' 135 3 1 v n (ys.map I)):=by
 refine enter (n:=63) (res:=#[]) Tryz.func310 Z Z Z Z<|Ab<|cg<|za Z<|Ac<|Ab<|cg<|zm Z<|za Z<|za Z<|Ac<|Ab<|Ai<|WC.loop (σ:=Unit) (fun _=>[(0,v),(1,I n),(2, .func (.func f) #[] i),(6,I 20),(7,I 0),(8,I 20)]) (fun _ w'=>w'=w) (fun _=>0) () Aq Z ?_;rintro _ J rfl;refine Ab<|Ab<|cg<|zm Z<|zm Z<|vq (FV Z Z)<|Ac<|CD Z (fun j=>?_) fun j=>?_
 ·simp only[JV] at j;omega
 refine WC.exit Z<|Ab<|cg<|zm Z<|zm Z<|zm Z<|zm Z<|ve (Ay.call vp Z (kl g hx t r C)) ?_;rintro U w1 ⟨c1,p,⟨ys,hp,g⟩⟩;refine Ac<|Ai<|WC.loop (σ:=Unit) (fun _=>[(1,I n),(6,I 20)]) (fun _ w'=>∃c',Mv c J c' w' [135]∧∃ys:List Int,ys.Perm xs∧Ao c' w' 135 3 1 v n (ys.map I)) (fun _=>0) () Aq ⟨_,p,ys,hp,g⟩ ?_;rintro _ a1 ⟨R,o,ys,hp,g⟩;refine Ab<|Ab<|cg<|zm Z<|zm Z<|vq (AE Z Z)<|Ac<|CD Z (fun l=>?_) fun l=>?_
 ·simp only[JV] at l;omega
 refine WC.exit Z<|⟨_,_,Z,Z,?_⟩;exact⟨Z,_,o,ys,hp,g⟩
theorem ko{v:Value}{n:Nat}{xs:List Int}{f:FuncId}{i:Array Value}{q:Int→Int→Int}(g:Ao c w 135 3 1 v n (xs.map I))(hx:xs.length=n)(o:n≤12)(l:Af QP f=true)(p:dJ c w f i q xs):
 Calls QP 219 #[v, .func (.func f) #[] i] w (AP fun _ w'=>∃c',Mv c w c' w' [135]∧∃ys:List Int,ys.Perm xs∧Ao c' w' 135 3 1 v n (ys.map I)):=by
 refine enter (n:=9) (res:=#[]) Tryz.func219 Z Z Z Z<|cg<|zm Z<|zm Z<|vq (NX Bu g Z)<|zm Z<|ve (Ay.call uT Z (bg g hx o l p)) ?_;rintro r w1 ⟨c1,j,⟨ys,hp,g⟩⟩;refine Ac<|⟨_,_,Z,Z,?_⟩;exact⟨Z,_,j,ys,hp,g⟩
theorem fS{v:Value}{l:List Int}{x:Int}(h:Rd Bw w v l)(hp:Dc v):Calls QP 218 #[v,I x] w (AP fun C w'=>Below w.heap.size w w'∧C= .bool (l.contains x)):=by
 obtain⟨A,n,c,rfl,i⟩:=hp;have t:l.length=n:=by obtain⟨J,c',f,_⟩:=h.form;injection f with _ f _;exact f.symm
 subst t;have R:=h.small;rcases zX l.length with g|g
 ·have p:l=[]:=yJ g;subst p;refine(Tryz.slices_Contains_int_empty A c x w).mono fun e w' f=>?_;obtain⟨rfl,rfl⟩:=f;exact⟨_,Z,zy _ _,Z⟩
 obtain⟨b,off,i⟩:=i g;subst i;refine(Tryz.slices_Contains_int b off l.length c l x w (lx _) oo (fun j o=>?_)).mono fun e w' f=>?_
 ·obtain⟨cs,hc,rfl,_⟩:=h.el o;have r:=hc.1 0 (I l[j]) Z;rw[gy,aa o,Aa1];simpa[Bh,add_lit,Bw,Shape.flat] using r
 obtain⟨rfl,rfl⟩:=f;rw[Ui];exact⟨_,Z,zy _ _,Z⟩
def rN(F:List (List Int))(a b:Int):Int:=Yk ((F.getD b.toNat []).length:Nat) ((F.getD a.toNat []).length:Nat)
theorem ku{b3 b0:Nat}{vL vF:Value}{F:List (List Int)}{a b:Nat}(j:FG w b3 [P1 b0] 243)(i:FG w b0 [vL,vF] 55)(g:Rd MQ w vF F)(o:a<F.length)(p:b<F.length):
 Calls QP 220 #[I a,I b,P1 b3] w (AP fun u w'=>Below w.heap.size w w'∧u=I (rN F a b)):=by
 obtain⟨c,l,U⟩:=AQ.start w;have j:Ar c w 0 b3 _ _:=⟨j,l.Bf _ j.lt⟩;have i:Ar c w 0 b0 _ _:=⟨i,l.Bf _ i.lt⟩;have g:=l.rd g;clear U;obtain⟨b5,J,r⟩:=KR g p;obtain⟨b6,R,t⟩:=KR g o;have b1:=r.now.Av;have b2:=t.now.Av;have b4:=g.now.Av;have b8:=r.now.small;have b9:=t.now.small;have a1:F.getD b []=F[b]:=by rw[gy,aa p];rfl
 have a6:F.getD a []=F[a]:=by rw[gy,aa o];rfl
 refine enter (n:=23) (res:=#[.tmp 5]) Tryz.func220 Z Z Z Z<|Ab<|cg<|za Z<|Ac<|Ab<|AY c [] [1,0,0,1,0,0,1,0,1,0,0,1,0,0,1,0,2,0] [0,1,2,3,4,5,6,7,8,9,10,11,12,13,14,15,16,17] fun w1 a7 f=>?_;refine vc Z f.kp (j.mv.kb LF Z Z)<|vd Z (fun _=>Ae Z)<|vd Z (fun _=>Aa CA Z)<|vc Z f.kp (i.mv.kb ET Z Z)<|AK Z Z<|vd Z (fun _=>LH Hn g.mv Z Z oo oo)<|vc Z f.kp (J.mv.ke BL Z)<|vd Z (fun _=>BI Bu) ?_;refine vc Z f.kp (j.mv.kb LF Z Z)<|vd Z (fun _=>Ae Z)<|vd Z (fun _=>Aa CA Z)<|vc Z f.kp (i.mv.kb ET Z Z)<|AK Z Z<|vd Z (fun _=>LH Hn g.mv Z Z oo oo)<|vc Z f.kp (R.mv.ke BL Z)<|vd Z (fun _=>BI Bu) ?_;refine WD.AW Z Z Z (Al c 1 (Ay.call hK Z (PW _ _))) Z ?_;rintro b7 w2 ⟨c2,C,a8,rfl⟩;refine f.AX C fun f=>Ga Z Z<|WD.nil ?_;clear f;refine Az Z Z<|⟨l.mv.below,?_⟩;rw[rN,pv,pv,a1,a6]
end Go.Proofs.K
namespace Silo
def Pq(live:List Bool)(nt:List Int)(d:Nat):Bool:=live.getD d false&& !nt.contains (d:Int)
def gA(live:List Bool)(F:List (List Int))(nt:List Int)(d:Nat):Bool:=Pq live nt d&& !(F.getD d []).isEmpty
def FX(live:List Bool)(F:List (List Int))(nt:List Int)(k:Nat):List Nat:=(List.range k).filter (gA live F nt)
def Xd(live:List Bool)(nt:List Int)(k:Nat):Nat:=((List.range k).filter (Pq live nt)).length
def Vw(F:List (List Int))(E:List Nat):List (List Int):=E.foldl (fun(F:List (List Int)) (d:Nat)=>F.set d (F.getD d []).tail) F
def Gf(F:List (List Int))(E:List Nat):List (Int×Int):=E.map fun(d:Nat)=>((d:Int),(F.getD d []).headD 0)
theorem NN(live:List Bool)(F:List (List Int))(nt:List Int)(k:Nat):FX live F nt (k+1)=if gA live F nt k=true then FX live F nt k++[k] else FX live F nt k:=by
 rw[FX,ZZ,Acq,FX];cases h:gA live F nt k<;>simp[h]
theorem Vx(live:List Bool)(nt:List Int)(k:Nat):Xd live nt (k+1)=if Pq live nt k=true then Xd live nt k+1 else Xd live nt k:=by
 rw[Xd,ZZ,Acq,Xd];cases h:Pq live nt k<;>simp[h]
theorem fT(live:List Bool)(F:List (List Int))(nt:List Int)(k:Nat):(FX live F nt k).length≤k:=by
 have:=Abc (gA live F nt) (List.range k);rwa [zI] at this
theorem Zr(live:List Bool)(F:List (List Int))(nt:List Int)(k:Nat):(FX live F nt k).Nodup:=(List.filter_sublist (p:=gA live F nt)).nodup List.nodup_range
theorem MG{live:List Bool}{F:List (List Int)}{nt:List Int}{k d:Nat}:d∈FX live F nt k↔d<k∧gA live F nt d=true:=by simp[FX]
theorem Pr(E:List Nat):∀F:List (List Int),(Vw F E).length=F.length:=by
 induction E with
 |nil=>exact fun _=>rfl
 |cons d E f=>exact fun F=>by rw[Vw,Agd];show(Vw _ E).length=_;rw[f,zF]
theorem kv(F:List (List Int))(E:List Nat)(d:Nat):Vw F (E++[d])=(Vw F E).set d ((Vw F E).getD d []).tail:=by rw[Vw,Adj];rfl
theorem nK(E:List Nat):∀(F:List (List Int)) (d:Nat),d∉E→(Vw F E).getD d []=F.getD d []:=by
 induction E with
 |nil=>exact fun _ _ _=>rfl
 |cons e E g=>
  intro F d hd;rw[Vw,Agd];show(Vw _ E).getD d []=_
  rw[g _ _ (fun h=>hd (Aad _ h))];simp only[gy];rw[List.getElem?_set_ne (fun f=>hd (by rw[f];exact Aag))]
theorem nL(E:List Nat):∀(F:List (List Int)) {l:List Int} {x:Int},l∈Vw F E→x∈l→∃l'∈F,x∈l':=by
 induction E with
 |nil=>exact fun F l x g i=>⟨l,g,i⟩
 |cons e E t=>
  intro F l x g i;obtain⟨l',r,j⟩:=t _ g i;rcases Aak r with o|o
  ·exact⟨l',o,j⟩
  ·rw[o] at j;have f:=List.mem_of_mem_tail j;rw[gy] at f;cases p:F[e]? with
   |none=>rw[p] at f;simp at f
   |some y=>rw[p] at f;exact⟨y,zx p,f⟩
theorem fU{ys:List Int}{D:List Nat}(h:ys.Perm (D.map fun(k:Nat)=>(k:Int))):∃f:List Nat,f.Perm D∧ys=f.map fun(k:Nat)=>(k:Int):=by
 have j:∀y∈ys,0≤y:=fun y hy=>by
  obtain⟨k,_,rfl⟩:=zc.1 (h.mem_iff.1 hy);omega
 refine⟨ys.map Int.toNat,?_,?_⟩
 ·have i:=h.map Int.toNat
  rw[Abd] at i;rwa [Ac8 (g:=id) (by intro a _;simp),Af9] at i
 rw[Abd,Ac8 (g:=id),Af9];intro a l;have:=j a l;simp only[Function.comp,id];omega
def IZ{α:Type}(l:List α)(i:Nat)(is:Bool)(x:α):List α:=if is=true then l.set i x else l.take i++x::l.drop i
theorem Zs{α:Type}(l:List α)(i:Nat)(x:α)(h:i≤l.length):(l.take i++x::l.drop i).length=l.length+1:=by
 rw[bU,yZ,ly,lz];omega
end Silo
namespace Go.Proofs.K
open Go Go.Eng Go.RowKit Silo TryzT
theorem kx{v:Value}{Y:List Fx}{i:Nat}{is:Bool}{x:Fx}(h:Ao c w 121 144 4 v Y.length (Y.flatMap BQ))(hk:i≤Y.length)(hi:is=true→i<Y.length)(hl:Y.length≤1000):
 Calls QP 275 #[v,I i, .bool is, .agg (BQ x).toArray] w (AP fun t w'=>∃c',Mv c w c' w' [121]∧Ao c' w' 121 144 4 t (IZ Y i is x).length ((IZ Y i is x).flatMap BQ)):=by
 have hJ:=AZ.start c w [121];have f:=h.Ca (J:=[121]) Z;generalize AT c [121]=c0 at hJ f;have r:=IV x;have b0:=f.Av;have b1:=f.Aw;refine enter (n:=20) (res:=#[.tmp 8]) Tryz.func275 Z Z Z Z<|Ab<|cg<|Dz c0 107 fun w1 b7 c1 a1 o=>?_;refine za Z<|Ac<|Ab<|Ab<|cg<|zm Z<|Ac<|WC.cond Z (fun l=>?_) fun l=>?_
 ·have g:i<Y.length:=hi l;refine Ab<|cg<|zm Z<|zm Z<|vq (AD BB Z o.Ap Z)<|vq (Bj Cg f.mv Z Z oo oo) ?_;refine WR.AI ((Oz BB f.mv (j:=i) g (by rw[pv];rfl) Z (DD x) r)) ?_;rintro _ w2 ⟨c2,a6,f⟩;rw[Jv DD Y i g] at f;refine Ac<|Ab<|cg<|zm Z<|za Z<|Ac<|Az Z Z<|⟨_,hJ.mv.out,?_⟩;rw[IZ,l,yP Z,zF];exact f.out hJ.mv Z
 have g:is=false:=by cases is<;>simp_all
 refine Aj<|Ab<|cg<|zm Z<|zm Z<|vq (AD BB Z o.Ap Z)<|ve (Bb c1 118 Cg Z Z Z Z Z) ?_;rintro _ b3 ⟨C,R,rfl,a7,p⟩;refine ve (Ay.call uY Z (nu f.mv p Z hk hl)) ?_;rintro b2 b4 ⟨U,a8,f⟩;refine za Z<|Ac<|Az Z Z<|⟨_,hJ.mv.out,?_⟩;rw[IZ,g,yK dd,Zs _ _ _ hk];exact f.out hJ.mv Z
theorem ky{v:Value}{Y:List WZ}{i:Nat}{is:Bool}{x:WZ}(h:Ao c w 123 187 4 v Y.length (Y.flatMap DP))(hk:i≤Y.length)(hi:is=true→i<Y.length)(hl:Y.length≤1000):
 Calls QP 277 #[v,I i, .bool is, .agg (DP x).toArray] w (AP fun t w'=>∃c',Mv c w c' w' [123]∧Ao c' w' 123 187 4 t (IZ Y i is x).length ((IZ Y i is x).flatMap DP)):=by
 have hJ:=AZ.start c w [123];have f:=h.Ca (J:=[123]) Z;generalize AT c [123]=c0 at hJ f;have r:=IW x;have b0:=f.Av;have b1:=f.Aw;refine enter (n:=20) (res:=#[.tmp 8]) Tryz.func277 Z Z Z Z<|Ab<|cg<|Dz c0 107 fun w1 b7 c1 a1 o=>?_;refine za Z<|Ac<|Ab<|Ab<|cg<|zm Z<|Ac<|WC.cond Z (fun l=>?_) fun l=>?_
 ·have g:i<Y.length:=hi l;refine Ab<|cg<|zm Z<|zm Z<|vq (AD Lt Z o.Ap Z)<|vq (Bj Dt f.mv Z Z oo oo) ?_;refine WR.AI ((Oz Lt f.mv (j:=i) g (by rw[pv];rfl) Z (EG x) r)) ?_;rintro _ w2 ⟨c2,a6,f⟩;rw[Jv EG Y i g] at f;refine Ac<|Ab<|cg<|zm Z<|za Z<|Ac<|Az Z Z<|⟨_,hJ.mv.out,?_⟩;rw[IZ,l,yP Z,zF];exact f.out hJ.mv Z
 have g:is=false:=by cases is<;>simp_all
 refine Aj<|Ab<|cg<|zm Z<|zm Z<|vq (AD Lt Z o.Ap Z)<|ve (Bb c1 118 Dt Z Z Z Z Z) ?_;rintro _ b3 ⟨C,R,rfl,a7,p⟩;refine ve (Ay.call uZ Z (nw f.mv p Z hk hl)) ?_;rintro b2 b4 ⟨U,a8,f⟩;refine za Z<|Ac<|Az Z Z<|⟨_,hJ.mv.out,?_⟩;rw[IZ,g,yK dd,Zs _ _ _ hk];exact f.out hJ.mv Z
end Go.Proofs.K
namespace Silo
open Go Go.Eng Go.RowKit
abbrev Ps:List Nat:=[120,121,122,123,124,125]
def wi(b:Bk)(x:CZ):Bk:={b with stripes:=IZ b.stripes (OV b.stripes x.id) (ID b.stripes x.id).isSome x,next:=max b.next (x.id+1)}
def wR(b:Bk)(e:Jf):Bk:={b with things:=IZ b.things (fC b.things e.Ak) (ny b.things e.Ak).isSome e}
theorem Zt{α g:Type}(f:α→g)(l:List α)(i:Nat)(is:Bool)(x:α):(IZ l i is x).map f=IZ (l.map f) i is (f x):=by
 unfold IZ;split
 ·rw[Aao]
 ·rw[zB,Rw,Acv,Afk]
theorem Pt{α:Type}{l:List α}{i:Nat}{is:Bool}{x y:α}(h:y∈IZ l i is x):y∈l∨y=x:=by
 unfold IZ at h;split at h
 ·exact Aak h
 ·rcases zH.1 h with h|h
  ·exact .inl (Aa4 h)
  ·rcases zN.1 h with h|h
   ·exact .inr h
   ·exact .inl (Abg h)
theorem Zu{α:Type}(l:List α)(i:Nat)(is:Bool)(x:α):(IZ l i is x).length≤l.length+1:=by
 unfold IZ;split
 ·rw[zF];omega
 ·rw[bU,yZ,ly,lz];omega
section
variable {c c':Nat→Nat} {w w':World} {vS vT vG:Value} {b:Bk} {YS:List Fx} {YT:List WZ}
theorem Tv.ri(h:Tv c w vS vT vG b YS YT)(hl:b.stripes.length≤1048576):Bi ES c w [121,122] vS b.stripes:=by
 have e:YS.length=b.stripes.length:=by rw[←h.sl,yF]
 have i:Ao c w 121 144 ES.size vS b.stripes.length (YS.map BQ).flatten:=by rw[←e,←Abq];exact h.s
 refine i.rd oo (by rw[yF,e]) (by rfl) fun k cs x hk hx=>?_;rw[←h.sl,yY] at hx;rw[yY] at hk;obtain⟨y,hy,rfl⟩:=Aam.1 hk;rw[hy] at hx;injection hx with hx;subst hx;have f:=zx hy;exact(Fq.more (K:=[121,122]) (h.sp.el y f) (by rfl)).imp fun w' _ g=>⟨y.2.v,Z,g,h.si y f⟩
theorem Tv.mG(h:Tv c w vS vT vG b YS YT)(hl:b.things.length≤1048576):Bi IU c w [123,124] vT b.things:=by
 have e:YT.length=b.things.length:=by rw[←h.tl,yF]
 have i:Ao c w 123 187 IU.size vT b.things.length (YT.map DP).flatten:=by rw[←e,←Abq];exact h.t
 refine i.rd oo (by rw[yF,e]) (by rfl) fun k cs x hk hx=>?_;rw[←h.tl,yY] at hx;rw[yY] at hk;obtain⟨y,hy,rfl⟩:=Aam.1 hk;rw[hy] at hx;injection hx with hx;subst hx;have f:=zx hy;exact(Fq.more (K:=[123,124]) (h.tp.el y f) (by rfl)).imp fun w' _ g=>⟨y.2.v,Z,g,h.ti y f⟩
theorem Tv.Ca(h:Tv c w vS vT vG b YS YT):Tv (AT c Ps) w vS vT vG b YS YT:=⟨h.s.Ca Z,h.sl,⟨fun y hy=>(h.sp.el y hy).wh⟩,h.si,h.t.Ca Z,h.tl,⟨fun y hy=>(h.tp.el y hy).wh⟩,h.ti,h.g.Ca Z⟩
theorem Tv.out{c0:Nat→Nat}{w0:World}(h:Tv c w vS vT vG b YS YT)(hJ:AZ c0 w0 Ps c w):Tv (back c0 w0 c) w vS vT vG b YS YT:=⟨h.s.out hJ Z,h.sl,⟨fun y hy=>(h.sp.el y hy).TB hJ⟩,h.si,h.t.out hJ Z,h.tl,⟨fun y hy=>(h.tp.el y hy).TB hJ⟩,h.ti,h.g.out hJ Z⟩
end
theorem Kl{i:Nat}{e:TypeId}{v:Value}{l:List (Int×Int)}(h:Ao c w i e 2 v l.length (l.flatMap FE))(hl:l.length≤140737488355328)(f:∀p∈l,Go.Eng.Int64 p.1∧Go.Eng.Int64 p.2):Bi Bg c w [i] v l:=h.Ez hl f
theorem RR{i:Nat}{e:TypeId}{v:Value}{l:List Int}(h:Ao c w i e 1 v l.length (l.flatMap fun x=>[I x]))(hl:l.length≤140737488355328)(f:∀p∈l,Go.Eng.Int64 p):Bi Bw c w [i] v l:=h.Ez hl f
end Silo
namespace Go.Proofs.K
open Go Go.Eng Go.RowKit Silo TryzT
theorem nM{p:Nat}{vS vT vG vl vs:Value}{b:Bk}{YS:List Fx}{YT:List WZ}{x:CZ}{K:List Nat}(j:Ar c w 120 p [vS,vT,vG,I b.next] 105)(g:Tv c w vS vT vG b YS YT)(c4:Ib b.stripes)(hl:b.stripes.length≤900)
 (h1:Bi Bw c w K vl [x.len,x.gen])(o:Bi Bg c w K vs x.place)(b5:Bd K Ps=true)(hx:0≤x.id∧x.id≤1073741824)(hp:x.place.length≤1000):
 Calls QP 184 #[P1 p, .agg #[I 2,I x.id,St [],St [],vl,vs]] w (AP fun v w'=>∃c',Mv c w c' w' Ps∧v=I 0∧∃c7 c8,Ar c' w' 120 p [c7,vT,vG,I (wi b x).next] 105∧Tv c' w' c7 vT vG (wi b x) c8 YT):=by
 have hJ:=AZ.start c w Ps;replace j:=j.Ca (J:=Ps) Z;replace g:=g.Ca;replace h1:=h1.Ca b5;replace o:=o.Ca b5;generalize AT c Ps=c0 at hJ j g h1 o;have e8:=Zn o.now;have c2:=RQ h1.now;have j3:=h1.now.Av;have j5:=o.now.Av;have h6:=g.s.Av;have h7:=g.t.Av;have h8:=g.g.Av;have j6:=g.s.Aw;have j7:=g.t.Aw;have j8:=g.g.Aw;have c5:YS.length=b.stripes.length:=by rw[←g.sl,yF]
 refine enter (n:=190) (res:=#[.tmp 4]) Tryz.func184 Z Z Z Z<|Ab<|cg<|Dz c0 103 fun w1 b3 c1 a6 R=>?_;refine za Z<|Ac<|Ab<|Ab<|cg<|vq (Aa Fc Z)<|vq (Ah Au Z R.Ap Z)<|Ac<|Ai<|Ab<|cg<|vq (AU Z Z)<|za Z<|Ac<|CD Z (fun b8=>?_) fun b8=>?_
 ·exact absurd b8 dd
 refine Ab<|cg<|vq (AU Z Z)<|za Z<|Ac<|Sb Z (fun b9=>?_) fun b9=>?_
 ·refine Ab<|AY c1 [] [0,0,1,0,1,2,0,0,0,0,0] [0,1,2,3,4,5,6,7,8,9,10] fun w2 a7 f=>?_;have r:=j;have l:=R;refine AK Z Z<|vd Z (fun _=>Ae Z)<|vc Z f.kp (r.mv.kn EB Z Z)<|vd Z (fun _=>Aa HU Z)<|vc Z f.kp (l.mv.kb Au Z Z)<|WD.AW Z Z Z (Al c1 1 (Ay.call hF Z (IY (n:=b.next) (d:=x.id) (g.mv.ri oo).now h6 h7 h8 c4))) Z ?_;rintro k0 k2 ⟨b2,C,j2,rfl⟩;refine f.AX C fun f=>?_;obtain⟨i,hi⟩:∃i,i=OV b.stripes x.id:=⟨_,Z⟩;obtain⟨is,a8⟩:∃is,is=(ID b.stripes x.id).isSome:=⟨_,Z⟩;rw[←hi,←a8];refine AK Z Z<|vd Z (fun _=>Ag Z Z)<|vd Z (fun _=>Ag Z Z)<|Ga Z Z<|Ga Z Z<|WD.nil ?_;clear r l;clear f;refine Ab ?_;obtain⟨hs,e7,e9,e6,ht,h2,h3,h0,hg⟩:=(((g.mv a6).mv a7).mv C);have hk:i≤YS.length:=by rw[hi,c5];exact Qo _ _
  have e5:is=true→i<YS.length:=fun h↦by
   rw[a8] at h;obtain⟨k,c3⟩:=Aaa.1 h;rw[hi,c5,IX c4 c3];exact(zJ.1 c3).1
  have e3:=(BP (((h1.mv a6).mv a7).mv C) (k:=0) ss dd).1;have e4:=(BP (((h1.mv a6).mv a7).mv C) (k:=1) ss dd).1;refine AY b2 [121] [0,0,0,0,1,0,0,0,1,0,1,0,1,0,1,0,1,0,1,2,0,2,0,0,3] [0,1,2,3,4,5,6,7,8,9,10,11,12,13,14,15,16,17,18,19,20,21,22,23,24] fun k3 j1 f=>?_;have r:=j;have l:=R;refine AK Z Z<|AK Z Z<|vd Z (fun _=>Ae Z)<|vd Z (fun _=>Aa CN Z)<|vc Z f.kp (r.mv.kb EC Z Z)<|AK Z Z<|AK Z Z<|vd Z (fun _=>Aa HU Z)<|vc Z f.kp (l.mv.kb Au Z Z)<|vd Z (fun _=>Aa DG Z)<|vc Z f.kp (l.mv.kb BL Z Z)<|vd Z (fun _=>ER Bu) ?_;refine vc Z f.kp (e3.mv.ke Au Z)<|vd Z (fun _=>Aa DG Z)<|vc Z f.kp (l.mv.kb BL Z Z)<|vd Z (fun _=>ER Bu) ?_;refine vc Z f.kp (e4.mv.ke Au Z)<|vd Z (fun _=>Aa GY Z)<|vc Z f.kp (l.mv.kb BV Z Z)<|WD.AW Z Z Z (Al b2 122 (Ay.call QH Z (FN o.mv.now oo))) Z ?_;rintro k1 k4 ⟨j0,e0,h4,U⟩;refine f.AX e0 fun f=>?_;replace U:=U.Cl h4;obtain⟨b1,b4,rfl,_,_⟩:=U.own.len;obtain⟨t,b0⟩:∃t,t=Value.slice b1 x.place.length b4:=⟨_,Z⟩;have c6:t.oneCell'=true:=by rw[b0];rfl
  have a1:=Kl U oo e8;rw[←b0] at a1;refine vd Z (fun _=>AB (cells:=#[I x.id,I x.len,I x.gen, .slice b1 x.place.length b4]) Z kr) ?_;rw[←b0];refine WD.AW Z Z Z (Ay.call uD Z (kx (i:=i) (is:=is) (x:=(x,⟨t,c6⟩)) hs.mv hk e5 oo)) Z ?_;rintro h9 k5 ⟨c9,b6,hs⟩;refine f.AX b6 fun f=>?_;have j9:=hs.Av;have j4:=hs.Aw;have h5:Go.Eng.Int64 x.id∧Go.Eng.Int64 x.len∧Go.Eng.Int64 x.gen:=⟨⟨by omega,by omega⟩,c2 _ ss,c2 _ ss⟩;refine vd Z (fun _=>Ae Z)<|vd Z (fun _=>Aa CN Z)<|WD.wild Z Z Z (AJ EC Z Z ra ra j.mv Z) ?_;rintro _ k6 ⟨j,b7⟩;try replace f:=f.tr b7 Z
  refine WD.nil ?_;clear r l;clear f;refine AY c9 [] [0,0,0,0,1,0,1,0,0,0,0,3] [0,1,2,3,4,5,6,7,8,9,10,11] fun k7 e1 f=>AK Z Z<|AK Z Z<|vd Z (fun _=>Ae Z)<|vd Z (fun _=>Aa HT Z)<|vc Z f.kp (j.mv.kb Au Z Z)<|vd Z (fun _=>Aa HU Z)<|vc Z f.kp (R.mv.kb Au Z Z)<|vd Z (fun _=>AH Z Z Ad Ad)<|vd Z (fun _=>rE Z Z) ?_;refine vd Z (fun _=>Ae Z)<|vd Z (fun _=>Aa HT Z)<|WD.wild Z Z Z (AJ Au Z Z ra ra j.mv Z) ?_;rintro _ k8 ⟨j,e2⟩;refine WD.nil ?_;clear f;refine Ab<|cg<|za Z<|Ac<|Az Z Z<|⟨_,hJ.mv.out,Z,h9,IZ YS i is (x,⟨t,c6⟩),j.out hJ.mv Z,Tv.out ⟨hs.mv,?_,⟨fun y hy↦?_⟩,fun y hy↦?_,ht.mv,h2,h3.mv,h0,hg.mv⟩ hJ.mv⟩
  ·rw[Zt,e7,wi,hi,a8]
  ·rcases Pt hy with h|h
   ·exact e9.mv.el y h
   replace a1:=(((a1.mv b6).mv b7).mv e1).mv e2;rw[h];exact a1
  rcases Pt hy with h|h
  ·exact e6 y h
  rw[h];exact h5
 exact absurd b9 dd
theorem nN{p:Nat}{vS vT vG vl vs:Value}{b:Bk}{YS:List Fx}{YT:List WZ}{d:Tx}{n:Int}{l:List Int}{K:List Nat}(j:Ar c w 120 p [vS,vT,vG,I b.next] 105)(g:Tv c w vS vT vG b YS YT)(b6:JH b.things)(hl:b.things.length≤900)
 (h1:Bi Bw c w K vl l)(h8:vs.oneCell'=true)(c3:Bd K Ps=true)(c8:Go.Eng.Int64 n)(hd:d.length≤140737488355328)(hp:l.length≤100000):
 Calls QP 184 #[P1 p, .agg #[I 4,I n,St [],St d,vl,vs]] w (AP fun v w'=>∃c',Mv c w c' w' Ps∧v=I 0∧∃b9 c2,Ar c' w' 120 p [vS,b9,vG,I b.next] 105∧Tv c' w' vS b9 vG (wR b ⟨d,n,false,l⟩) YS c2):=by
 have hJ:=AZ.start c w Ps;replace j:=j.Ca (J:=Ps) Z;replace g:=g.Ca;replace h1:=h1.Ca c3;generalize AT c Ps=c0 at hJ j g h1;have e1:=RQ h1.now;have h6:=h1.now.Av;have e7:=g.s.Av;have e8:=g.t.Av;have e9:=g.g.Av;have h9:=g.s.Aw;have j0:=g.t.Aw;have j1:=g.g.Aw;have b7:YT.length=b.things.length:=by rw[←g.tl,yF]
 refine enter (n:=190) (res:=#[.tmp 4]) Tryz.func184 Z Z Z Z<|Ab<|cg<|Dz c0 103 fun w1 b3 c1 c4 o=>?_;refine za Z<|Ac<|Ab<|Ab<|cg<|vq (Aa Fc Z)<|vq (Ah Au Z o.Ap Z)<|Ac<|Ai<|Ab<|cg<|vq (AU Z Z)<|za Z<|Ac<|WC.cond_false Z<|Ab<|cg<|vq (AU Z Z)<|za Z<|Ac<|WC.cond_false Z<|Ab<|cg<|vq (AU Z Z)<|za Z<|Ac<|WC.cond_false Z<|Ab<|Ab<|cg<|vq (AU Z Z)<|za Z<|Ac<|WC.cond_true Z<|Aj<|WC.cond_true Z<|Ab<|AY c1 [] [0,0,1,0,1,2,0,0,0,0,0] [0,1,2,3,4,5,6,7,8,9,10] fun w2 c5 f=>?_;have b2:=j;have b4:=o;refine AK Z Z<|vd Z (fun _=>Ae Z)<|vc Z f.kp (b2.mv.kn EB Z Z)<|vd Z (fun _=>Aa JY Z)<|vc Z f.kp (b4.mv.kb BK Z Z)<|WD.AW Z Z Z (Al c1 1 (Ay.call qI Z (Qp (n:=b.next) (d:=d) (g.mv.mG oo).now e7 e8 e9 b6))) Z ?_;rintro j3 j5 ⟨a6,a8,h5,rfl⟩;refine f.AX a8 fun f=>?_;obtain⟨i,hi⟩:∃i,i=fC b.things d:=⟨_,Z⟩;obtain⟨is,R⟩:∃is,is=(ny b.things d).isSome:=⟨_,Z⟩;rw[←hi,←R];refine AK Z Z<|vd Z (fun _=>Ag Z Z)<|vd Z (fun _=>Ag Z Z)<|Ga Z Z<|Ga Z Z<|WD.nil ?_;clear b2 b4;clear f;obtain⟨hs,e0,e2,c9,ht,e4,e5,e3,hg⟩:=(((g.mv c4).mv c5).mv a8);have hk:i≤YT.length:=by rw[hi,b7];exact Qo _ _
 have c7:is=true→i<YT.length:=fun h↦by
  rw[R] at h;obtain⟨k,b5⟩:=Aaa.1 h;rw[hi,b7,Qn b6 b5];exact(zJ.1 b5).1
 refine AY a6 [123] [0,0,0,0,1,0,0,0,1,0,1,0,1,0,0,1,2,0,2,0,0,3] [0,1,2,3,4,5,6,7,8,9,10,11,12,13,14,15,16,17,18,19,20,21] fun j6 h4 f=>AK Z Z<|AK Z Z<|vd Z (fun _=>Ae Z)<|vd Z (fun _=>Aa EK Z)<|vc Z f.kp (j.mv.kb HA Z Z)<|AK Z Z<|AK Z Z<|vd Z (fun _=>Aa JY Z)<|vc Z f.kp (o.mv.kb BK Z Z)<|vd Z (fun _=>Aa HU Z)<|vc Z f.kp (o.mv.kb Au Z Z)<|vd Z (fun _=>Aa Fc Z)<|vc Z f.kp (o.mv.kb Au Z Z)<|vd Z (fun _=>AU Z Z)<|vd Z (fun _=>Aa DG Z)<|vc Z f.kp (o.mv.kb BL Z Z)<|WD.AW Z Z Z (Al a6 124 (Ay.call Uo Z (HJ h1.mv.now oo))) Z ?_;rintro j4 j7 ⟨h2,c6,e6,t⟩;refine f.AX c6 fun f=>?_;replace t:=t.Cl e6;obtain⟨a1,a7,rfl,_,_⟩:=t.own.len;obtain⟨r,U⟩:∃r,r=Value.slice a1 l.length a7:=⟨_,Z⟩;have b8:r.oneCell'=true:=by rw[U];rfl
 have C:=RR t oo e1;rw[←U] at C;refine vd Z (fun _=>AB (cells:=#[St d,I n, .bool false, .slice a1 l.length a7]) Z kr) ?_;rw[←U];refine WD.AW Z Z Z (Ay.call uE Z (ky (i:=i) (is:=is) (x:=(⟨d,n,false,l⟩,⟨r,b8⟩)) ht.mv hk c7 oo)) Z ?_;rintro h0 j8 ⟨h3,b0,ht⟩;refine f.AX b0 fun f=>?_;have j2:=ht.Av;have h7:=ht.Aw;refine vd Z (fun _=>Ae Z)<|vd Z (fun _=>Aa EK Z)<|WD.wild Z Z Z (AJ HA Z Z ra ra j.mv Z) ?_;rintro _ j9 ⟨j,b1⟩;try replace f:=f.tr b1 Z
 refine WD.nil ?_;clear f;refine Ab<|cg<|za Z<|Ac<|Az Z Z<|⟨_,hJ.mv.out,Z,h0,IZ YT i is (⟨d,n,false,l⟩,⟨r,b8⟩),j.out hJ.mv Z,Tv.out ⟨hs.mv,e0,e2.mv,c9,ht.mv,?_,⟨fun y hy↦?_⟩,fun y hy↦?_,hg.mv⟩ hJ.mv⟩
 ·rw[Zt,e4,wR,hi,R]
 ·rcases Pt hy with h|h
  ·exact e5.mv.el y h
  replace C:=(C.mv b0).mv b1;rw[h];exact C
 rcases Pt hy with h|h
 ·exact e3 y h
 rw[h];exact⟨c8,hd⟩
theorem TC{x:CZ}{u:Value}(hu:Rd Bg w u x.place)(hp:x.place.length≤1000):Calls QP 102 #[.agg #[I x.id,I x.len,I x.gen,u]] w (AP fun v w'=>Below w.heap.size w w'∧∃vl vs,v= .agg #[I 2,I x.id,St [],St [],vl,vs]∧BJ w' w.heap.size 3 1 vl 2 [I x.len,I x.gen]∧BJ w' w.heap.size 226 2 vs x.place.length (x.place.flatMap FE)):=by
 have c7:=hu.Av;obtain⟨c,l,J⟩:=AQ.start w;have C:Bi Bg c w [0] u x.place:=Rd.Cl hu (fun k hk=>by simp[J,AA]);clear J hu;refine enter (n:=14) (res:=#[.cell 2 127]) Tryz.func102 Z Z Z Z<|Ab<|cg<|Dz c 101 fun w1 b1 c1 c0 p=>?_;refine Db c1 102 RD fun w2 b2 c2 c3 i=>Ac<|Ab<|WC.mono (N:=(fun e w'=>∃(c':Nat→Nat) (j:Nat) (vs:Value),Sub [(4000000, .tuple #[]),(2,P1 b2)] e∧AQ w c' w'∧Ar c' w' 102 b2 [I 2,I x.id,St [],St [], .slice (some ⟨j,0,none⟩) 2 2,vs] 127∧Ar c' w' 109 j [I x.len,I x.gen] 3∧Ao c' w' 112 226 2 vs x.place.length (x.place.flatMap FE))) ?_ ?_
 ·refine Rm c2 [] [0,1,0,1,0,1,2,0,1,2,0,3] (.quiet 0 (.quiet 1 (.quiet 2 (.quiet 3 (.quiet 4 (.quiet 5 (.quiet 7 (.quiet 8 (.two 6 (.one 9 (.quiet 10 (.one 11 .nil))) 9 (.one 6 (.quiet 10 (.one 11 .nil)))))))))))) fun c9 c4 f=>?_;refine WT.val Z Z Z (fun _=>Aa Es Z) Z<|WT.Iw Z Z Z f.kp (p.mv.kb Au Z Z) Z<|WT.val Z Z Z (fun _=>Aa IJ Z) Z<|WT.Iw Z Z Z f.kp (p.mv.kb Au Z Z) Z<|WT.val Z Z Z (fun _=>Aa Oe Z) Z<|WT.Iw Z Z Z f.kp (p.mv.kb Au Z Z) Z<|WT.val Z Z Z (fun _=>Aa Ck Z) Z<|WT.Iw Z Z Z f.kp (p.mv.kb BV Z Z) Z<|WT.two ?_ ?_
  ·refine WS.AW Z Z Z (Nj c2 109 Bu Z Z Z (by simp[Value.cells]) Z Z) Z ?_;rintro _ e0 ⟨j,R,rfl,a1,o⟩;refine f.AX a1 fun f=>WT.one<|WS.AW Z Z Z (Al R 112 (Ay.call QH Z (FN C.mv.now oo))) Z ?_;rintro b5 e1 ⟨b6,a6,b3,g⟩;refine f.AX a6 fun f=>?_;replace g:=g.Cl b3;obtain⟨r,t,rfl,_,_⟩:=g.own.len;refine WT.val Z Z Z (fun _=>AB (cells:=#[I 2,I x.id,St [],St [], .slice (some ⟨j,0,none⟩) 2 2, .slice r x.place.length t]) Z kr) Z ?_;refine WT.one<|WS.wild Z Z Z (Am Fs Z Z i.mv Z Z AG) ?_;rintro _ e2 ⟨i,c5⟩;refine WT.nil ?_;exact⟨_,_,_,Aq,l.mv,i,o.mv,g.mv⟩
  refine WS.AW Z Z Z (Al c2 112 (Ay.call QH Z (FN C.mv.now oo))) Z ?_;rintro b5 e3 ⟨U,a7,b4,g⟩;refine f.AX a7 fun f=>?_;replace g:=g.Cl b4;obtain⟨r,t,rfl,_,_⟩:=g.own.len;refine WT.one<|WS.AW Z Z Z (Nj U 109 Bu Z Z Z (by simp[Value.cells]) Z Z) Z ?_;rintro _ e4 ⟨j,b7,rfl,a8,o⟩;refine f.AX a8 fun f=>WT.val Z Z Z (fun _=>AB (cells:=#[I 2,I x.id,St [],St [], .slice (some ⟨j,0,none⟩) 2 2, .slice r x.place.length t]) Z kr) Z ?_;refine WT.one<|WS.wild Z Z Z (Am Fs Z Z i.mv Z Z AG) ?_;rintro _ e5 ⟨i,c6⟩;refine WT.nil ?_;exact⟨_,_,_,Aq,l.mv,i,o.mv,g.mv⟩
 clear l C i;rintro b9 e6 ⟨b8,j,vs,b0,l,i,o,g⟩;have c8:=g.Av;refine WC.sub b0<|Fz Z (Br Fs Z i.Ap Z) ?_;have hv:=o.own (n:=2) (size:=1) Z dd;exact⟨l.below,_,_,Z,hv.KN l dd,g.KN l dd⟩
end Go.Proofs.K
namespace Go.Eng
open Go Go.RowKit Silo
theorem Ao.nO{v:Value}{e:TypeId}{i n:Nat}{xs:List Value}(h:Ao c w i e 1 v n xs){k:Nat}{u:Value}(hk:xs[k]?=some u):DF c w [i] (Bh v 1 k) [u]:=by
 have hl:=h.own.1;rw[Aa2] at hl;have g:Ao c w i e 1 v xs.length (xs.flatMap fun x=>[x]):=by
  have f:∀l:List Value,(l.flatMap fun x=>[x])=l:=fun l=>by
   induction l with
   |nil=>rfl
   |cons a l o=>rw[zD,o];rfl
  rw[f,hl];exact h
 obtain⟨j,rfl⟩:=yO.1 hk;exact g.elem (fun _=>rfl) dd j
theorem nP{J:List Nat}{A:Option Addr}{m cp:Nat}{l:List Int}(h:Bi Bw c w J (.slice A m cp) l)(hl:0<l.length):Bi Bw c w J (BM (.slice A m cp) 1 m 1) l.tail:=by
 have i:l.length=m:=by obtain⟨o,c',f,_⟩:=h.now.form;injection f with _ f _;exact f.symm
 refine Hm.imp h fun w' _ j=>?_;have g:=Dx.from_ j (lo:=1) oo;rw[List.drop_one] at g;subst i;exact g
end Go.Eng
namespace Go.Proofs.K
open Go Go.Eng Go.RowKit Silo TryzT
abbrev Jg:List Nat:=[130,131,132,133]
def Mc(live:List Bool)(F:List (List Int))(nt:List Int)(n:Nat)(e:Int)(E:List Nat):Prop:=
 (e=6∧Xd live nt live.length<n∧E=[])∨(e=5∧(FX live F nt live.length).length<n∧E=[])∨(e=0∧∃D:List Nat,D.Perm (FX live F nt live.length)∧E=D.take n∧n≤D.length)
theorem dK{b0 n:Nat}{K:List Nat}{vL vF e2:Value}{live:List Bool}{F:List (List Int)}{nt:List Int}(p:Ar c w 133 b0 [vL,vF] 55)(h1:KS c w vL vF live F)(q5:live.length=F.length∧F.length≤12)(o7:0<F.length)(R:Bi Bw c w K e2 nt)(o6:Dc e2)(n1:Bd K Jg=true)(q7:n≤12):
 Calls QP 124 #[P1 b0,I n,e2] w (AP fun u w'=>∃c',Mv c w c' w' Jg∧∃vl e E,Ar c' w' 133 b0 [vL,vF] 55∧KS c' w' vL vF live (Vw F E)∧Mc live F nt n e E∧Ao c' w' 136 226 2 vl E.length ((Gf F E).flatMap FE)∧u= .tuple #[vl,I e]):=by
 obtain⟨r,vs,g,o⟩:=h1;have hJ:=AZ.start c w Jg;replace p:=p.Ca (J:=Jg) Z;replace r:=r.Ca (J:=Jg) Z;replace g:=g.Ca (J:=Jg) Z;replace o:Xc (AT c Jg) w [132] vs F:=⟨o.len,fun j v l b9 a8=>WY (o.row j v l b9 a8) Z⟩;replace R:=R.aZ n1;obtain⟨b4,b7,rfl,q8,q6⟩:=g.BW o7;have r8:=R.now.Av;have r7:=r.Av;have r6:=g.Av;have r4:=o.len;generalize AT c Jg=c0 at hJ p r g o R;refine enter (n:=98) (res:=#[.tmp 6, .tmp 7]) Tryz.func124 Z Z Z Z<|Ab<|cg<|MJ c0 103 fun w1 b3 c1 q0 t=>?_;refine za Z<|za Z<|Ac<|Ab<|cg<|za Z<|Ac<|Ab<|cg<|za Z<|Ac<|Ab<|Ab ?_;have C:Ao c1 w1 135 3 1 (.slice none 0 0) 0 []:=Ao.nil _ _ _ _ _;refine cg<|vq (Ah LF Z t.Ap Z)<|vq (Ae Z)<|vq (Aa Kz Z)<|vq (Ah GL Z p.mv.Ap Z)<|vq (NX FR r.mv Z)<|zm Z<|Ac<|Ai<|WC.loop (σ:=Nat×Nat×Value) (fun a1=>[(1,I n),(2,e2),(3,P1 b3),(6, .slice none 0 0),(7,I 0),(8,a1.2.2),(9,I a1.2.1),(18,vL),(19,I live.length),(20,I a1.1)]) (fun a1 w'=>(a1.1≤live.length∧a1.2.1=Xd live nt a1.1)∧∃c',AZ c w Jg c' w'∧Ar c' w' 133 b0 [vL,(.slice (some ⟨b4,0,none⟩) F.length b7)] 55∧Ao c' w' 130 4 1 vL live.length (live.map .bool)∧Ao c' w' 131 23 1 (.slice (some ⟨b4,0,none⟩) F.length b7) F.length vs∧Xc c' w' [132] vs F∧Bi Bw c' w' [0] e2 nt∧Ar c' w' 103 b3 [P1 b0] 243∧Ao c' w' 135 3 1 a1.2.2 (FX live F nt a1.1).length ((FX live F nt a1.1).map fun(k:Nat)=>I (k:Int))) (fun a1=>live.length-a1.1) (0,0,_) Aq ⟨⟨Nat.zero_le _,Z⟩,_,hJ.mv,p.mv,r.mv,g.mv,o.mv,R.mv,t,C⟩ ?_;clear hJ p r g o R t C;rintro⟨k,a6,c5⟩ h7 ⟨⟨hk,c9⟩,c6,hJ,p,r,g,o,R,t,C⟩;dsimp only at hk c9 C;have p0:=C.Av;have p1:=C.Aw;have o4:=fT live F nt k;have o5:a6≤k:=by rw[c9];have:=List.length_filter_le (Pq live nt) (List.range k);rwa [List.length_range] at this
 refine Ab<|cg<|vq (AE Z Z)<|Ac<|Ab<|AS Z (fun n9=>?_) fun n9=>?_
 ·have k3:k<live.length:=oo;have k5:live.getD k false=live[k]:=by rw[gy,aa k3];rfl
  have n7:DF _ _ [130] (Bh vL 1 k) [.bool live[k]]:=r.nO (by rw[yY,aa k3];rfl);obtain⟨u,hu⟩:∃u,vs[k]?=some u:=⟨vs[k]'(by omega),aa _⟩;have j1:F[k]?=some F[k]:=aa oo;have k4:F.getD k []=F[k]:=by rw[gy,j1];rfl
  have b6:=o.row k u _ hu j1;have n8:DF _ _ [131] (Bh (.slice (some ⟨b4,0,none⟩) F.length b7) 1 k) [u]:=g.nO hu;have r1:=b6.now.Av;have r2:=b6.now.Aw;have o8:=b6.now.small;refine Aj<|Ab<|Ai<|Ab<|cg<|zm Z<|vq (Bj FR r Z Z oo oo)<|vq (Bl Jc Z n7.CY)<|za Z ?_;refine za Z<|Ac<|Ab<|Ab<|cg<|zm Z<|vq (Bq Z)<|zm Z ?_;apply WR.Ko c6 false 3 (nt.contains (k:Int)) BT
  ·intro r0 n2;refine wo<|zm rfl<|wo<|zm rfl<|wo<|ve (Al c6 1 (Ay.call tZ rfl (fS R.now o6))) ?_;rintro v30 w2 ⟨c2,q1,r5,rfl⟩;exact WR.Kq 3 n2.mv
  intro s7 k7 U;refine Ac<|AS rfl (fun h2=>?_) fun h2=>?_
  ·have e1:Pq live nt k=false:=by rw[Pq,k5];rcases h2 with h|h;rw[h];rfl;rw[h];simp
   have a7:FX live F nt (k+1)=FX live F nt k:=by rw[NN,yK (by rw[gA,e1];simp)]
   have b1:Xd live nt (k+1)=a6:=by rw[Vx,yK (by rw[e1];simp),c9]
   refine WC.exit Z<|cg<|vq (AH Z Z Ad Ad)<|zm Z<|Ac ?_;replace hJ:=hJ.mv U;replace p:=p.mv U;replace r:=r.mv U;replace g:=g.mv U;replace o:=o.mv U;replace R:=R.mv U;replace t:=t.mv U;replace C:=C.mv U
   first
   |exact⟨(k+1,a6,c5),Aq,⟨⟨by dsimp only;omega,b1.symm⟩,_,hJ,p,r,g,o,R,t,by dsimp only;rw[a7];exact C⟩,by show live.length-(k+1)<live.length-k;omega⟩
   |exact⟨(k+1,a6+1,c5),Aq,⟨⟨by dsimp only;omega,b1.symm⟩,_,hJ,p,r,g,o,R,t,by dsimp only;rw[a7];exact C⟩,by show live.length-(k+1)<live.length-k;omega⟩
   |exact⟨(k+1,a6+1,_),Aq,⟨⟨by dsimp only;omega,b1.symm⟩,_,hJ,p,r,g,o,R,t,by dsimp only;rw[a7,List.length_append,List.map_append];exact C⟩,by show live.length-(k+1)<live.length-k;omega⟩
  have e1:Pq live nt k=true:=by rw[Pq,k5,kg,zV];exact h2
  have b1:Xd live nt (k+1)=a6+1:=by rw[Vx,yP e1,c9]
  refine Aj<|Ab<|cg<|zm Z<|vq (AH (m:=(a6:Int)) (n:=1) Z Z oo oo)<|za Z<|Ac<|Ab<|cg ?_;refine vq (Ah LF Z t.mv.Ap Z)<|vq (Ae Z)<|vq (Aa CA Z)<|vq (Ah ET Z p.mv.Ap Z)<|zm Z<|vq (Bj Hn g.mv Z Z oo oo)<|vq (Bl BL Z n8.mv.CY)<|vq (BI Bu) ?_;refine vq (BZ Z Z)<|Ac<|AS Z (fun h3=>?_) fun h3=>?_
  ·have a7:FX live F nt (k+1)=FX live F nt k++[k]:=by rw[NN,yP (by rw[gA,e1,k4];simp;intro e;rw[e] at h3;simp at h3)]
   refine cg<|zm Z<|zm Z<|ve (Bb k7 145 Bu Z Z Z Z Z) ?_;rintro _ s8 ⟨p3,p6,rfl,c3,j5⟩;refine ve (AN Bu Z Z C.mv (Src.An zU j5.Ap.An Z AG) EY Fb) ?_;rintro s3 s9 ⟨p7,c4,C⟩;clear j5;refine za Z<|Ac<|cg<|vq (AH Z Z Ad Ad)<|zm Z<|Ac ?_;replace hJ:=((hJ.mv U).mv c3).mv c4;replace p:=((p.mv U).mv c3).mv c4;replace r:=((r.mv U).mv c3).mv c4;replace g:=((g.mv U).mv c3).mv c4;replace o:=((o.mv U).mv c3).mv c4;replace R:=((R.mv U).mv c3).mv c4;replace t:=((t.mv U).mv c3).mv c4
   first
   |exact⟨(k+1,a6,c5),Aq,⟨⟨by dsimp only;omega,b1.symm⟩,_,hJ,p,r,g,o,R,t,by dsimp only;rw[a7];exact C⟩,by show live.length-(k+1)<live.length-k;omega⟩
   |exact⟨(k+1,a6+1,c5),Aq,⟨⟨by dsimp only;omega,b1.symm⟩,_,hJ,p,r,g,o,R,t,by dsimp only;rw[a7];exact C⟩,by show live.length-(k+1)<live.length-k;omega⟩
   |exact⟨(k+1,a6+1,_),Aq,⟨⟨by dsimp only;omega,b1.symm⟩,_,hJ,p,r,g,o,R,t,by dsimp only;rw[a7,List.length_append,List.map_append];exact C⟩,by show live.length-(k+1)<live.length-k;omega⟩
  have a7:FX live F nt (k+1)=FX live F nt k:=by rw[NN,yK (by have l5:F[k]=[]:=yJ oo;rw[gA,k4,l5];simp)]
  refine Aj<|cg<|vq (AH Z Z Ad Ad)<|zm Z<|Ac ?_;replace hJ:=hJ.mv U;replace p:=p.mv U;replace r:=r.mv U;replace g:=g.mv U;replace o:=o.mv U;replace R:=R.mv U;replace t:=t.mv U;replace C:=C.mv U
  first
  |exact⟨(k+1,a6,c5),Aq,⟨⟨by dsimp only;omega,b1.symm⟩,_,hJ,p,r,g,o,R,t,by dsimp only;rw[a7];exact C⟩,by show live.length-(k+1)<live.length-k;omega⟩
  |exact⟨(k+1,a6+1,c5),Aq,⟨⟨by dsimp only;omega,b1.symm⟩,_,hJ,p,r,g,o,R,t,by dsimp only;rw[a7];exact C⟩,by show live.length-(k+1)<live.length-k;omega⟩
  |exact⟨(k+1,a6+1,_),Aq,⟨⟨by dsimp only;omega,b1.symm⟩,_,hJ,p,r,g,o,R,t,by dsimp only;rw[a7,List.length_append,List.map_append];exact C⟩,by show live.length-(k+1)<live.length-k;omega⟩
 have l4:k=live.length:=oo;subst l4;rw[c9] at o5;have b8:=C;rw[show(fun(k:Nat)=>I (k:Int))=I∘(fun(k:Nat)=>(k:Int)) from Z,←Abd] at b8;obtain⟨b2,c8⟩:∃b2,b2=FX live F nt live.length:=⟨_,Z⟩;have e8:∀d∈b2,d<live.length:=fun d hd↦(MG.1 (by rw[←c8];exact hd)).1;have l6:∀d∈b2,F.getD d []≠[]:=fun d hd↦by have:=(MG.1 (by rw[←c8];exact hd)).2;rw[gA] at this;simp at this;simpa using this.2
 have l7:b2.Nodup:=by rw[c8];exact Zr _ _ _ _
 rw[←c8] at o4 C b8;refine WC.exit Z<|Ab<|Ai<|Ab<|cg<|zm Z<|zm Z<|vq (AE Z Z)<|za Z<|Ac<|AS Z (fun j7=>?_) fun j7=>?_
 ·refine Ab<|cg<|za Z<|za Z<|Ac<|Dn Z Z Z ?_;exact⟨_,hJ.out,_,6,[],p.out hJ Z,⟨r.out hJ Z,vs,g.out hJ Z,⟨o.len,fun j v l b9 a8↦(o.row j v l b9 a8).TB hJ Z⟩⟩, .inl ⟨Z,by rw[c9] at j7;omega,Z⟩,Ao.nil _ _ _ _ _,Z⟩
 refine Ab<|cg<|zm Z<|vq (NX Bu b8 Z)<|zm Z<|vq (AE Z Z)<|za Z<|Ac<|AS Z (fun n5=>?_) fun n5=>?_
 ·refine Ab<|cg<|za Z<|za Z<|Ac<|Dn Z Z Z ?_;exact⟨_,hJ.out,_,5,[],p.out hJ Z,⟨r.out hJ Z,vs,g.out hJ Z,⟨o.len,fun j v l b9 a8↦(o.row j v l b9 a8).TB hJ Z⟩⟩, .inr (.inl ⟨Z,by rw[←c8];omega,Z⟩),Ao.nil _ _ _ _ _,Z⟩
 refine Aj<|Ab ?_;have o2:dJ c6 h7 220 #[P1 b3] (fun x y=>rN F x y) (b2.map fun(k:Nat)=>(k:Int)):=fun c' w' x y m hx hy↦by
  obtain⟨a,e4,rfl⟩:=zc.1 hx;obtain⟨b,n4,rfl⟩:=zc.1 hy;have h1:KS c6 h7 vL (.slice (some ⟨b4,0,none⟩) F.length b7) live F:=⟨r,vs,g,o⟩;exact ku (t.mv m).Ap (p.mv m).Ap (Fq.mv (h1.yx oo) m Z).now (by have:=e8 a e4;omega) (by have:=e8 b n4;omega)
 refine cg<|zm Z<|vq (CI Z)<|ve (Ay.call ua Z (ko b8 (by rw[yF]) oo ub o2)) ?_;rintro s4 p2 ⟨k8,q2,⟨ys,hp,b8⟩⟩;obtain⟨e6,e5,rfl⟩:=fU hp;obtain⟨k6,l0,rfl,r9,s0⟩:=b8.own.len;refine Ac<|Ab<|cg<|za Z<|Ac<|Ab<|Ab<|cg<|zm Z<|zm Z<|vq (GC Bu Z Z oo oo) ?_;have b5:=b8.to (k:=n) oo;obtain⟨e7,j4⟩:∃V,V=BM (.slice k6 b2.length l0) 0 n 1:=⟨_,Z⟩;rw[←j4] at b5;obtain⟨E,e0⟩:∃E,E=e6.take n:=⟨_,Z⟩;have p9:e6.length=b2.length:=e5.length_eq;have l8:E.length=n:=by rw[e0,ly];omega
 rw[Aa2,←Acv,←Acv,←e0,←l8] at b5;have j0:∀d∈E,d∈b2:=fun d hd↦e5.mem_iff.1 (Aa4 (by rw[←e0];exact hd));have l9:E.Nodup:=by rw[e0];exact(Afw _ _).nodup (e5.symm.nodup l7)
 rw[Int.toNat_natCast,←j4];refine vq (NX Bu b5 Z) ?_;have hl:Ao _ _ 136 226 2 (.slice none 0 0) 0 []:=Ao.nil k8 p2 _ _ _;refine zm Z<|Ac<|Ai<|WC.loop (σ:=Nat×Value) (fun a1=>[(3,P1 b3),(12,a1.2),(62,e7),(63,I E.length),(64,I a1.1)]) (fun a1 w'=>a1.1≤E.length∧∃c' vs,AZ c w Jg c' w'∧Ar c' w' 133 b0 [vL,(.slice (some ⟨b4,0,none⟩) F.length b7)] 55∧Ao c' w' 130 4 1 vL live.length (live.map .bool)∧Ao c' w' 131 23 1 (.slice (some ⟨b4,0,none⟩) F.length b7) F.length vs∧Xc c' w' [132] vs (Vw F (E.take a1.1))∧Ar c' w' 103 b3 [P1 b0] 243∧Ao c' w' 135 3 1 e7 E.length ((E.map fun(k:Nat)=>(k:Int)).map I)∧Ao c' w' 136 226 2 a1.2 a1.1 ((Gf F (E.take a1.1)).flatMap FE)) (fun a1=>E.length-a1.1) (0,_) Aq ⟨Nat.zero_le _,_,vs,hJ.mv,p.mv,r.mv,g.mv,o.mv,t.mv,b5,hl⟩ ?_;clear hJ p r g o t b5 hl b8 C R;rintro⟨i,c5⟩ h7 ⟨hi,c6,vs,hJ,p,r,g,o,t,b5,hl⟩;dsimp only at hi o hl;have p0:=hl.Av;have p1:=hl.Aw;refine Ab<|cg<|vq (AE Z Z)<|Ac<|Ab<|AS Z (fun n6=>?_) fun n6=>?_
 ·have h5:i<E.length:=oo;obtain⟨d,hd⟩:∃d,d=E[i]:=⟨_,Z⟩;have k0:d∈E:=by rw[hd];exact oy h5
  have q4:=e8 d (j0 d k0);have k1:=l6 d (j0 d k0);have h6:E.take (i+1)=E.take i++[d]:=by rw[yG h5,hd]
  have o3:d∉E.take i:=fun h↦by
   have a8:(E.take (i+1)).Nodup:=(Afw _ _).nodup l9;rw[h6,Adi] at a8;exact a8.2.2 d h d ss Z
  have e3:=nK (E.take i) F d o3;obtain⟨f,k2⟩:∃f,f=F.getD d []:=⟨_,Z⟩;rw[←k2] at e3 k1;have h4:0<f.length:=Ace.2 k1;have r3:vs.length=F.length:=by rw[o.len,Pr]
  have n0:(Vw F (E.take i))[d]?=some f:=by
   rw[aa (by rw[Pr];omega)];rw[gy,aa (by rw[Pr];omega)] at e3;exact zC some e3
  obtain⟨u,hu⟩:∃u,vs[d]?=some u:=⟨vs[d]'(by omega),aa _⟩;have b6:=o.row d u _ hu n0;obtain⟨h8,h9,rfl,q3,_⟩:=b6.now.form;have o0:DF _ _ [135] (Bh e7 1 i) [I d]:=b5.nO (by rw[yY,yY,aa h5,←hd];rfl);have j8:DF _ _ [131] (Bh (.slice (some ⟨b4,0,none⟩) F.length b7) 1 d) [.slice h8 f.length h9]:=g.nO hu;have o1:=j8;obtain⟨j9,q9⟩:=BP b6 h4 dd;have o8:=b6.now.small;obtain⟨a,e4⟩:∃a,a=f[0]:=⟨_,Z⟩;have n3:f.headD 0=a:=by rw[e4];cases f with|nil=>simp at h4|cons x l=>rfl
  rw[←e4] at j9;refine Aj<|Ab<|Ai<|Ab<|cg<|vq (Bj Bu b5 Z Z oo oo)<|vq (Bl Au Z o0.CY)<|za Z<|Ac ?_;refine Ab<|cg<|zm Z<|zm Z<|vq (Ah LF Z t.Ap Z)<|vq (Ae Z)<|vq (Aa CA Z)<|vq (Ah ET Z p.Ap Z)<|zm Z<|vq (Bj Hn g Z Z oo oo)<|vq (Bl BL Z j8.CY)<|vq (LH Bu b6 Z Z oo oo)<|vq (Bl Au Z j9.CY)<|vq (AB (cells:=#[I d,I a]) Z kr) ?_;refine ve (Bb c6 180 CQ Z Z Z Z Z) ?_;rintro _ u0 ⟨p4,p8,rfl,j2,j6⟩;refine ve (AN CQ Z Z hl.mv (Src.An Aa3 j6.Ap.An Z AG) EY Fb) ?_;rintro s5 u1 ⟨k9,j3,hl⟩;clear j6;refine za Z<|Ac<|AY k9 [] [1,0,0,1,0,1,0,0,1,0,0,1,0,0,3] [0,1,2,3,4,5,6,7,8,9,10,11,12,13,14] fun u2 h0 c7=>?_;refine vc Z c7.kp (t.mv.kb LF Z Z)<|vd Z (fun _=>Ae Z)<|vd Z (fun _=>Aa CA Z)<|vc Z c7.kp (p.mv.kb ET Z Z)<|AK Z Z<|vc Z c7.kp (t.mv.kb LF Z Z)<|vd Z (fun _=>Ae Z)<|vd Z (fun _=>Aa CA Z)<|vc Z c7.kp (p.mv.kb ET Z Z)<|AK Z Z<|vd Z (fun _=>Bj Hn g.mv Z Z oo oo)<|vc Z c7.kp (o1.mv.ke BL Z)<|vd Z (fun _=>BG Bu Z Z oo oo) ?_;have o9:=nP (((b6.mv j2).mv j3).mv h0) h4;refine vd Z (fun _=>Bj Hn g.mv Z Z oo oo) ?_;refine WD.wild Z Z Z ((Gt (j:=d) (x:= .tmp 95) (y:= .tmp 94) (u:=BM (.slice h8 f.length h9) 1 f.length 1) BL g.mv Z oo (by rw[show(⟨b4,d,none⟩:Addr)=Bh (.slice (some ⟨b4,0,none⟩) F.length b7) 1 (d:Int).toNat by simp[Bh,add_lit]];rfl) Z Z Z)) ?_;rintro _ s6 ⟨p5,e9,g⟩;refine WD.nil ?_;clear c7;refine cg<|vq (AH Z Z Ad Ad)<|zm Z<|Ac ?_;have l1:Vw F (E.take (i+1))=(Vw F (E.take i)).set d f.tail:=by rw[h6,kv,e3]
  have l2:(Gf F (E.take (i+1))).flatMap FE=(Gf F (E.take i)).flatMap FE++[I d,I a]:=by
   rw[h6,Gf,zB,zP];congr 1;show FE ((d:Int),(F.getD d []).headD 0)++[]=_
   rw[←k2,n3,Qy]
  exact⟨(i+1,_),Aq,⟨by dsimp only;omega,_,_,hJ.mv,p.mv,r.mv,g,by dsimp only;rw[l1];exact((((o.mv j2).mv j3).mv h0).mv e9).set (o9.mv e9),t.mv,b5.mv,by dsimp only;rw[l2];exact((hl.mv h0).mv e9)⟩,by show E.length-(i+1)<E.length-i;omega⟩
 have l3:i=E.length:=oo;subst l3;rw[Ui] at o hl;refine WC.exit Z<|Ab<|cg<|zm Z<|za Z<|za Z<|Ac<|Dn Z Z Z ?_;exact⟨_,hJ.out,_,0,E,p.out hJ Z,⟨r.out hJ Z,vs,by rw[Pr];exact g.out hJ Z,⟨o.len,fun j v l b9 a8↦(o.row j v l b9 a8).TB hJ Z⟩⟩, .inr (.inr ⟨Z,e6,by rw[←c8];exact e5,e0,by omega⟩),hl.Ej hJ,Z⟩
end Go.Proofs.K
namespace Go.Proofs.K
open Go Go.Eng Go.RowKit Go.Sort Go.ChangeMaps Silo TryzT
theorem bh{base:Nat}{v:Value}{f:List Int}{i:Nat}(h:BJ w base 3 1 v f.length (f.map encZ))(hi:i<f.length):
 Calls QP 223 #[v,I i,I ((i:Int)+1)] w (AP fun u w'=>w.grownBy w' v.rowOf∧u.rowOf=v.rowOf∧BJ w' base 3 1 u (f.eraseIdx i).length ((f.eraseIdx i).map encZ)):=by
 rcases h.aH with⟨rfl,A,cap,rfl⟩|⟨g,cap,Cs,o,rfl,a6,t,C,J,r,R,j,a1⟩
 ·simp at hi
 have b0:=Tryz.slices_Delete_int g 0 cap i (i+1) f w a1 J (by unfold maxLen at r;omega) (Adu _) hi;refine b0.mono fun e w' a7=>?_;obtain⟨rfl,q,rfl⟩:=a7;have l:f.eraseIdx i=f.take i++f.drop (i+1):=Adl _ _;have hl:(f.eraseIdx i).length=f.length-1:=by rw[List.length_eraseIdx,yP hi]
 have hg:=@grownBy_sorted_i w g q #[] (f.take i++f.drop (i+1)++List.replicate (i+1-i) 0).toArray;have hh:=@heap_sorted_i w g q #[] Cs 3 o (f.take i++f.drop (i+1)++List.replicate (i+1-i) 0).toArray t;rw[grow_empty] at hg hh;have a8:(f.take i++f.drop (i+1)++List.replicate (i+1-i) (0:Int)).length=f.length:=by rw[←l,bU,yX,hl];omega
 refine⟨_,Z,by rw[AM j];exact hg,by rw[AM j,AM j],⟨by simp, .inr ⟨g,cap,_,o,by rw[hl,show i+1-i=1 by omega],a6,hh,?_,by omega,r,?_,?_,j⟩⟩⟩
 ·simpa[putCells] using C
 ·simp[putCells,R]
 have U:=take_putCells_i Cs (f.take i++f.drop (i+1)++List.replicate (i+1-i) 0) oo;have p:=zC (List.take (f.eraseIdx i).length) U;rw[Acg,a8,Aa2] at*;rw[zQ oo] at p;rw[p,←l,zB,Adx ss]
theorem Zv{base:Nat}{v:Value}{f:List Int}(h:BJ w base 3 1 v f.length (f.map encZ))(a7:f.length<4611686018427387904):
 Calls QP 272 #[v] w (AP fun p w'=>w.grownBy w' v.rowOf∧p.rowOf=v.rowOf∧BJ w' base 3 1 p (Lib.compact f).length ((Lib.compact f).map encZ)):=by
 rcases h.aH with⟨rfl,A,cap,rfl⟩|⟨g,cap,Cs,l,rfl,a1,r,t,C,I,J,i,U⟩
 ·refine(Tryz.slices_Compact_int_empty A cap w).mono fun e w' j=>?_;obtain⟨rfl,rfl⟩:=j;exact⟨_,Z,⟨Z,Z,Z,lx _,fun _ _ _=>rfl⟩,Z,by simpa[Lib.compact,Lib.compactUpTo] using h⟩
 refine(Tryz.slices_Compact_int g 0 cap f w U oo C).mono fun e w' j=>?_;obtain⟨rfl,q,rfl⟩:=j;have hl:=Lib.compact_length_le f;have hg:=@grownBy_sorted_i w g q #[] (Lib.compact f++List.replicate (f.length-(Lib.compact f).length) 0).toArray;have hh:=@heap_sorted_i w g q #[] Cs 3 l (Lib.compact f++List.replicate (f.length-(Lib.compact f).length) 0).toArray r;rw[grow_empty] at hg hh;have a6:(Lib.compact f++List.replicate (f.length-(Lib.compact f).length) 0).length=f.length:=by rw[bU,yX];omega
 refine⟨_,Z,by rw[AM i];exact hg,by rw[AM i,AM i],⟨by simp, .inr ⟨g,cap,_,l,Z,a1,hh,?_,by omega,I,?_,?_,i⟩⟩⟩
 ·simpa[putCells] using t
 ·simp[putCells,J]
 have R:=take_putCells_i Cs (Lib.compact f++List.replicate (f.length-(Lib.compact f).length) 0) oo;rw[Aa2];have o:=zC (List.take (Lib.compact f).length) R;rw[Acg,a6,zQ hl,zB,Adx ss] at o;exact o
theorem rO{v:Value}{l:List Int}{x:Int}(h:Rd Bw w v l)(hp:Dc v)(hs:l.Pairwise (·≤·))(hl:l.length≤1048576):Calls QP 222 #[v,I x] w (AP fun u w'=>Below w.heap.size w w'∧∃(k:Nat) (b:Bool),u= .tuple #[I k, .bool b]∧(b=true→k<l.length)):=by
 obtain⟨A,n,c,rfl,o⟩:=hp;have J:l.length=n:=by obtain⟨R,c',f,_⟩:=h.form;injection f with _ f _;exact f.symm
 subst J;rcases zX l.length with i|i
 ·have r:l=[]:=yJ i;subst r;refine(Tryz.slices_BinarySearch_int_empty A c x w).mono fun e w' f=>?_;obtain⟨rfl,rfl⟩:=f;exact⟨_,Z,zy _ _,0,false,Z,fun h=>by cases h⟩
 obtain⟨b,off,o⟩:=o i;subst o;refine(Tryz.slices_BinarySearch_int b off l.length c l x w (lx _) oo (fun j p=>?_) (by rw[Ui];exact hs)).mono fun e w' f=>?_
 ·obtain⟨cs,hc,rfl,_⟩:=h.el p;have g:=hc.1 0 (I l[j]) Z;rw[gy,aa p,Aa1];simpa[Bh,add_lit,Bw,Shape.flat] using g
 obtain⟨rfl,q,rfl⟩:=f;rw[Ui];refine⟨_,Z,?_,_,_,Z,fun C=>?_⟩
 ·exact⟨Z,Z,Z,lx _,fun _ _=>rfl⟩
 have hx:x∈l:=by simpa using C
 rcases yT (l.countP (·<x)) l.length with g|g
 ·exact g
 have t:=List.countP_eq_length.1 (Nat.le_antisymm List.countP_le_length g) x hx;simp at t
structure EV (c:Nat→Nat) (w:World) (i:Nat) (vs:List Value) (L:List (List Int)):Prop where
 len:vs.length=L.length
 row:∀(j:Nat) (v:Value) (l:List Int),vs[j]?=some v→L[j]?=some l→Ao c w i 3 1 v l.length (l.map I)
 apart:vs.Pairwise fun u v=>∀k,u.rowOf=some k→v.rowOf≠some k
section
variable {c c':Nat→Nat} {w w':World} {i:Nat} {vs:List Value} {L:List (List Int)} {J:List Nat}
theorem EV.mv(h:EV c w i vs L)(m:Mv c w c' w' J:=by exact Go.Eng.Jb)(hi:AA J i=false:=by rfl):EV c' w' i vs L:=⟨h.len,fun j v l f g=>(h.row j v l f g).mv m hi,h.apart⟩
theorem EV.nil:EV c w i [] []:=⟨Z,fun j v l h=>by simp at h,List.Pairwise.nil⟩
theorem EV.snoc(h:EV c w i vs L){v:Value}{l':List Int}(p:Ao c w i 3 1 v l'.length (l'.map I))(o:∀(k:Nat) (u:Value) (l:List Int) (b:Nat),vs[k]?=some u→L[k]?=some l→u.rowOf=some b→v.rowOf≠some b):EV c w i (vs++[v]) (L++[l']):=by
 refine⟨by simp[h.len],fun k u l hk hl=>?_,?_⟩
 ·rcases FU hk with⟨rfl,rfl⟩|hk
  ·rcases FU hl with⟨_,rfl⟩|hl
   ·exact p
   rw[yW (by rw[h.len];omega)] at hl;cases hl
  rcases FU hl with⟨e,rfl⟩|hl
  ·rw[yW (by rw[e,h.len];omega)] at hk;cases hk
  exact h.row k u l hk hl
 rw[Aab];refine⟨h.apart,by simp,fun x hx y hy b f g=>?_⟩;simp at hy;subst hy;obtain⟨k,hk⟩:=Aae hx;obtain⟨j,_⟩:=yO.1 hk;exact o k x _ b hk (aa (by rw[←h.len];exact j)) f g
theorem EV.newRow{w0:World}{c0:Nat→Nat}(h:EV c0 w0 i vs L){v:Value}(hv:∀k,v.rowOf=some k→w0.heap.size≤k):∀(k:Nat) (u:Value) (l:List Int) (b:Nat),vs[k]?=some u→L[k]?=some l→u.rowOf=some b→v.rowOf≠some b:=fun k u l b hk hl g f=>by
 have:=((h.row k u l hk hl).own.lt b g).2;have:=hv b f;omega
theorem EV.zu(h:EV c w i vs L){j:Nat}{v u:Value}{l':List Int}(o:vs[j]?=some v)(hu:u.rowOf=v.rowOf)(C:Ao c' w' i 3 1 u l'.length (l'.map I))(hg:w.grownBy w' v.rowOf)(hc:∀k,k<w.heap.size→c' k=c k):EV c' w' i (vs.set j u) (L.set j l'):=by
 refine⟨by rw[zF,zF];exact h.len,fun k y l hk hl=>?_,Tc Ic h.apart fun k y hk hy b f r=>?_⟩
 ·rcases FL hk with⟨rfl,rfl,_⟩|⟨p,hk⟩
  ·rcases FL hl with⟨_,rfl,_⟩|⟨t,_⟩
   ·exact C
   exact absurd Z t
  rcases FL hl with⟨e,_,_⟩|⟨_,hl⟩
  ·exact absurd e p
  have f:=h.row k y l hk hl;exact⟨f.own.QB fun b g=>hg.block b (f.own.lt b g).2 fun e=>OW Ic h.apart hk o p b g e.symm,fun b g=>(hc b (f.own.lt b g).2).trans (f.Bf b g)⟩
 rw[hu] at f;exact OW Ic h.apart hy o hk b r f
theorem EV.rP(h:EV c w i vs L)(hs:∀l∈L,l.length≤1048576∧∀x∈l,Go.Eng.Int64 x):Xc c w [i] vs L:=⟨h.len,fun j v l o f=>by
 have r:=hs l (zx f);have g:∀l:List Int,(l.flatMap fun x=>[I x])=l.map I:=fun l=>by
  induction l with
  |nil=>rfl
  |cons a l t=>rw[zD,t];rfl
 have p:Ao c w i 3 1 v l.length (l.flatMap fun x=>[I x]):=by rw[g];exact h.row j v l o f
 exact p.Ez oo r.2⟩
end
end Go.Proofs.K
namespace Silo
def dL(n:Nat)(F:List (List Int)):Prop:=∀l∈F,l.Pairwise (·<·)∧(∀x∈l,0≤x∧x<(n:Int))∧l.length≤n
theorem fV(n:Nat):(Fg n).Pairwise (·<·):=by
 rw[Fg,Aef];exact List.pairwise_lt_range.imp fun h=>by omega
theorem dM(n m:Nat):dL n (List.replicate m (Fg n)):=fun l hl=>by
 rw[Aca hl];refine⟨fV n,fun x hx=>?_,by rw[Po];exact lx _⟩;simp[Fg] at hx;omega
theorem nQ{n:Nat}{F:List (List Int)}(h:dL n F){d k:Nat}{f:List Int}(i:f∈F):dL n (F.set d (f.eraseIdx k)):=fun l hl=>by
 rcases Aak hl with g|g
 ·exact h l g
 ·rw[g];obtain⟨a,b,c⟩:=h f i;have hs:(f.eraseIdx k).Sublist f:=List.eraseIdx_sublist f k;exact⟨a.sublist hs,fun x hx=>b x (hs.subset hx),zz hs.length_le c⟩
abbrev Pu:=Go.Value×Int×List Nat×List (List Int)
def EN(F:List (List Int))(pre:List Pu):List (List Int):=pre.foldl (fun F x=>Vw F x.2.2.1) F
theorem bi(F:List (List Int))(pre:List Pu)(x:Pu):EN F (pre++[x])=Vw (EN F pre) x.2.2.1:=by rw[EN,Adj];rfl
theorem Vy(pre:List Pu):∀F:List (List Int),(EN F pre).length=F.length:=by
 induction pre with
 |nil=>exact fun _=>rfl
 |cons x pre f=>exact fun F=>by show(EN (Vw F x.2.2.1) pre).length=_;rw[f,Pr]
end Silo
namespace Go.Proofs.K
open Go Go.Eng Go.RowKit Go.Sort Go.ChangeMaps Silo TryzT
theorem bl{base:Nat}{v:Value}{f:List Int}{i:Nat}(h:BJ w base 3 1 v f.length (f.map I))(hi:i<f.length):
 Calls QP 223 #[v,I i,I ((i:Int)+1)] w (AP fun u w'=>w.grownBy w' v.rowOf∧w.grownBy w' v.rowOf∧u.rowOf=v.rowOf∧BJ w' base 3 1 u (f.eraseIdx i).length ((f.eraseIdx i).map I)):=
 (bh h hi).mono fun e w' ⟨u,l,g,j⟩=>⟨u,l,g,g,j⟩
theorem EV.zv{i:Nat}{vs:List Value}{L:List (List Int)}(h:EV c w i vs L){n:Nat}(g:dL n L)(o:n≤1000){j:Nat}{v:Value}{l:List Int}(h1:vs[j]?=some v)(f:L[j]?=some l):Bi Bw c w [i] v l:=by
 refine(h.rP fun l hl=>?_).row j v l h1 f;obtain⟨a,b,d⟩:=g l hl;exact⟨by omega,fun x hx=>by have:=b x hx;exact⟨by omega,by omega⟩⟩
theorem kz{vS vT vG vL:Value}{b:Bk}{live:List Bool}{n:Nat}(h1:Rd ES w vS b.stripes)(s4:vT.oneCell'=true)(s5:vG.oneCell'=true)(h4:Rd En w vL live)(hl:live.length≤12)(r6:n≤64):
 Calls QP 127 #[.agg #[vS,vT,vG,I b.next],vL,I n] w (AP fun u w'=>∃c',Mv c w c' w' []∧∃k2 k1 F,KS c' w' k2 k1 live F∧F.length=live.length∧dL n F∧(b.stripes=[]→F=List.replicate live.length (Fg n))∧u= .agg #[k2,k1]):=by
 have s3:=h1.Av;have s6:=h4.Av;have hJ:=AZ.start c w [];have U:=h1.so (c:=c) [];have R:=h4.so (c:=c) [];have x6:=h1.small;generalize AT c []=c0 at hJ U R;refine enter (n:=84) (res:=#[.cell 6 55]) Tryz.func127 Z Z Z Z<|Ab<|cg<|Dz c0 103 fun w1 b3 c1 q9 b8=>?_;refine Db c1 106 Fv fun w2 b6 c2 r2 J=>Ac<|Ab<|cg<|zm Z<|ve (Al c2 130 (Ay.call pp Z (TA R.mv.now oo))) ?_;rintro u1 w7 ⟨k5,r3,p2,C⟩;replace C:=C.Cl p2;obtain⟨e6,h0,rfl,_⟩:=C.own.len;refine vq (AB (cells:=#[.slice e6 live.length h0, .slice none 0 0]) Z kr) ?_;refine Db k5 107 Fv fun w8 b7 e9 l7 t=>WR.AI (Am Cz Z Z t Z Z AG) ?_;rintro _ k3 ⟨t,l8⟩;refine Ac<|Ab<|Ab ?_;replace C:=(C.mv l7).mv l8;rw[Vv] at C;have o:Ao e9 k3 131 23 1 (.slice none 0 0) 0 []:=Ao.nil _ _ _ _ _;have r:EV e9 k3 132 [] (List.replicate 0 (Fg n)):=EV.nil;obtain⟨b1,c9⟩:∃b1,b1=Value.slice e6 live.length h0:=⟨_,Z⟩;have u4:b1.oneCell'=true:=by rw[c9];rfl
 rw[←c9] at C t;clear c9;refine cg<|zm Z<|vq (BI FR) ?_;refine zm Z<|Ac<|Ai<|WC.loop (σ:=Nat) (fun i=>[(1,vL),(2,I n),(3,P1 b3),(6,P1 b6),(7,P1 b7),(18,I live.length),(19,I i)]) (fun i w'=>i≤live.length∧∃c' a8 vs,AZ c w [] c' w'∧Bi ES c' w' [0] vS b.stripes∧Bi En c' w' [0] vL live∧Ar c' w' 103 b3 [vS,vT,vG,I b.next] 105∧Ar c' w' 106 b6 [.slice none 0 0, .slice none 0 0] 55∧Ar c' w' 107 b7 [b1,a8] 55∧Ao c' w' 130 4 1 b1 live.length (live.map .bool)∧Ao c' w' 131 23 1 a8 i vs∧EV c' w' 132 vs (List.replicate i (Fg n))) (fun i=>live.length-i) 0 Aq ⟨yU _,_,_,_,hJ.mv,U.mv,R.mv,b8.mv,J.mv,t,C,o,r⟩ ?_;clear hJ U R b8 J t C o r;rintro i p7 ⟨hi,c4,a8,vs,hJ,U,R,b8,J,t,C,o,r⟩;have e5:=o.Av;have k0:=o.Aw;refine Ab<|cg<|vq (AE Z Z)<|Ac<|Ab<|AS Z (fun n6=>?_) fun n6=>?_
 ·have c6:i<live.length:=oo;have e3:=r;refine Aj<|Ab<|Ai<|AY c4 [131] [0,1,0,2,2,2,0,3] [0,1,2,3,4,5,6,7] fun w9 h7 p=>?_;refine vd Z (fun _=>Aa CA Z)<|vc Z p.kp (t.mv.kb ET Z Z)<|AK Z Z<|WD.AW Z Z Z (Al c4 132 (Ay.call uc Z (nH oo))) Z ?_;rintro p5 x0 ⟨k6,h8,p3,j6⟩;refine p.AX h8 fun p=>?_;have o7:=e3.newRow (v:=p5) (fun k hk↦zz h7.size (j6.lt k hk).1);have j7:=j6.Cl p3;obtain⟨e7,h2,rfl,_⟩:=j7.own.len;replace r:=(r.mv h7).mv h8;replace r:=r.snoc (l':=Fg n) (by rw[Po];exact j7) o7;rw[←Adv] at r;refine WD.AW Z Z Z (Bb k6 125 Hn Z Z Z Z Z) Z ?_;rintro _ x1 ⟨q0,q6,rfl,l9,h9⟩;refine p.AX l9 fun p=>WD.AW Z Z Z (AN Hn Z Z o.mv (Src.An Tryz.underlying53 h9.Ap.An Z AG) EY Fb) Z ?_;rintro u2 x2 ⟨q7,n0,o⟩;refine p.AX n0 fun p=>?_;clear h9;have e5:=o.Av;have k0:=o.Aw;refine vd Z (fun _=>Aa CA Z)<|WD.wild Z Z Z (AJ ET Z Z ra ra t.mv Z) ?_;rintro _ u5 ⟨t,l2⟩;try replace p:=p.tr l2 Z
  refine WD.nil ?_;clear p;refine cg<|vq (AH Z Z Ad Ad)<|zm Z<|Ac ?_;exact⟨i+1,Aq,⟨by omega,_,_,_,hJ.mv,U.mv,R.mv,b8.mv,J.mv,t,C.mv,o.mv,r.mv⟩,by omega⟩
 have e:i=live.length:=oo;subst e;obtain⟨F,b9⟩:∃F,F=List.replicate live.length (Fg n):=⟨_,Z⟩;have a7:F.length=live.length:=by rw[b9,yX]
 have a6:dL n F:=by rw[b9];exact dM _ _
 rw[←b9] at r;rw[←a7] at o;refine WC.exit Z<|Ab<|Ab<|cg<|vq (Aa CN Z)<|vq (Ah EC Z b8.Ap Z)<|vq (BI Cg) ?_;refine zm Z<|Ac<|Ai<|WC.loop (σ:=Nat) (fun i=>[(1,vL),(2,I n),(3,P1 b3),(6,P1 b6),(7,P1 b7),(30,vS),(31,I b.stripes.length),(32,I i)]) (fun i w'=>i≤b.stripes.length∧∃c' a8 vs F,(F.length=live.length∧dL n F∧(b.stripes=[]→F=List.replicate live.length (Fg n)))∧AZ c w [] c' w'∧Bi ES c' w' [0] vS b.stripes∧Bi En c' w' [0] vL live∧Ar c' w' 106 b6 [.slice none 0 0, .slice none 0 0] 55∧Ar c' w' 107 b7 [b1,a8] 55∧Ao c' w' 130 4 1 b1 live.length (live.map .bool)∧Ao c' w' 131 23 1 a8 F.length vs∧EV c' w' 132 vs F) (fun i=>b.stripes.length-i) 0 Aq ⟨yU _,_,_,_,F,⟨a7,a6,fun _↦b9⟩,hJ,U,R,J,t,C,o,r⟩ ?_;clear hJ U R b8 J t C o r b9 a7 a6 e5 k0;rintro i p7 ⟨hi,c4,a8,vs,F,⟨a7,a6,h3⟩,hJ,U,R,J,t,C,o,r⟩;refine Ab<|cg<|vq (AE Z Z)<|Ac<|Ab<|AS Z (fun n7=>?_) fun n7=>?_
 ·have c6:i<b.stripes.length:=oo;have o6:b.stripes≠[]:=fun e↦by rw[e] at c6;simp at c6
  obtain⟨u,e2,b0,_⟩:=KM U c6;have s7:=b0.now.Av;have s8:=b0.now.Aw;have p4:=b0.now.small;obtain⟨x,hx⟩:∃x,x=b.stripes[i]:=⟨_,Z⟩;rw[←hx] at e2 b0 p4;refine Aj<|Ab<|Ai<|Ab<|cg<|vq (ER Cg) ?_;refine vq (Dg BB Z e2.CY Z)<|Db c4 109 GZ fun u6 q1 q3 r0 e1=>?_;refine WR.AI (Am BB Z Z e1 Z Z AG) ?_;rintro _ u7 ⟨e1,r1⟩;refine Ac<|Ab<|cg<|vq (Aa Ck Z)<|vq (Ah BV Z e1.Ap Z)<|vq (BI CQ) ?_;refine zm Z<|Ac<|Ai<|WC.loop (σ:=Nat) (fun q=>[(1,vL),(2,I n),(3,P1 b3),(6,P1 b6),(7,P1 b7),(30,vS),(31,I b.stripes.length),(32,I i),(37,u),(38,I x.place.length),(39,I q)]) (fun q w'=>q≤x.place.length∧∃c' a8 vs F,(F.length=live.length∧dL n F)∧AZ c w [] c' w'∧Bi ES c' w' [0] vS b.stripes∧Bi En c' w' [0] vL live∧Bi Bg c' w' [0] u x.place∧Ar c' w' 106 b6 [.slice none 0 0, .slice none 0 0] 55∧Ar c' w' 107 b7 [b1,a8] 55∧Ao c' w' 130 4 1 b1 live.length (live.map .bool)∧Ao c' w' 131 23 1 a8 F.length vs∧EV c' w' 132 vs F) (fun q=>x.place.length-q) 0 Aq ⟨yU _,_,_,_,F,⟨a7,a6⟩,hJ.mv,U.mv,R.mv,b0.mv,J.mv,t.mv,C.mv,o.mv,r.mv⟩ ?_;clear hJ U R J t C o r a7 a6 h3 b0 e2;rintro m x3 ⟨r4,k7,a8,vs,F,⟨a7,a6⟩,hJ,U,R,b0,J,t,C,o,r⟩;refine Ab<|cg<|vq (AE Z Z)<|Ac<|Ab<|AS Z (fun n4=>?_) fun n4=>?_
  ·have o5:m<x.place.length:=oo;obtain⟨j2,e4⟩:=BP b0 o5 dd;obtain⟨d,hd⟩:∃d,d=x.place[m].1:=⟨_,Z⟩;obtain⟨a,n1⟩:∃a,a=x.place[m].2:=⟨_,Z⟩;rw[←hd,←n1] at j2;refine Aj<|Ab<|Ai<|Ab<|cg<|vq (ER CQ) ?_;refine vq (Dg DK Z j2.CY Z)<|Db k7 111 Mo fun u9 p9 e8 b4 b2=>?_;refine WR.AI (Am DK Z Z b2 Z Z AG) ?_;rintro _ v7 ⟨b2,b5⟩;refine Ac<|Ab<|Ab<|cg<|vq (Aa CE Z)<|vq (Ah Au Z b2.Ap Z)<|vq (AE Z Z)<|zm Z ?_;apply WR.CJ false 5 _ BT
   ·intro r8;refine wo<|vq (Aa CE rfl)<|wo<|vq (Ah Au rfl b2.Ap rfl)<|wo<|zm rfl<|wo<|vq (BI FR) ?_;refine wo<|vq (Cu rfl rfl) ?_;exact Dm 5
   refine Ac<|AS Z (fun n5=>?_) fun n5=>?_
   ·have q8:(F.length=live.length∧dL n F):=⟨a7,a6⟩;refine WC.exit Z<|cg<|vq (AH Z Z Ad Ad)<|zm Z<|Ac ?_;exact⟨m+1,Aq,⟨by omega,_,_,_,_,⟨by assumption,by assumption⟩,hJ.mv,U.mv,R.mv,b0.mv,J.mv,t.mv,C.mv,o.mv,r.mv⟩,by omega⟩
   obtain⟨a1,o1⟩:∃a1:Nat,d=a1:=⟨d.toNat,by omega⟩;subst o1;have o0:a1<F.length:=oo;have r9:=((r.mv b4).mv b5).len;obtain⟨g,cp,rfl,r7,r5⟩:=((o.mv b4).mv b5).BW oo;obtain⟨c8,c7⟩:∃c8,vs[a1]?=some c8:=⟨vs[a1]'(by omega),aa _⟩;obtain⟨f,o2⟩:∃f,f=F[a1]:=⟨_,Z⟩;have c5:F[a1]?=some f:=by rw[o2];exact aa o0
   have p0:=((r.mv b4).mv b5).zv a6 oo c7 c5;have p1:=a6 f (zx c5);have c3:=((r.mv b4).mv b5).row a1 c8 f c7 c5;have o9:=c3.own.Qr;have j3:DF _ _ [131] (Bh (.slice (some ⟨g,0,none⟩) F.length cp) 1 a1) [c8]:=((o.mv b4).mv b5).nO c7;have j5:=j3;have s9:=c3.Av;have u0:=c3.Aw;refine Aj<|Ab<|AY e8 [] [0,1,0,1,0,1,0,1,2,0,0,0,0,0] [0,1,2,3,4,5,6,7,8,9,10,11,12,13] fun v8 l3 p=>?_;have n3:=J;have j0:=t;have e0:=b2;have j4:=j3;have n8:=j5;refine vd Z (fun _=>Aa CA Z)<|vc Z p.kp (j0.mv.kb ET Z Z)<|vd Z (fun _=>Aa CE Z)<|vc Z p.kp (e0.mv.kb Au Z Z)<|vd Z (fun _=>Bj Hn o.mv Z Z oo oo)<|vc Z p.kp (j4.mv.ke BL Z)<|vd Z (fun _=>Aa HV Z)<|vc Z p.kp (e0.mv.kb Au Z Z) ?_;refine WD.AW Z Z Z (Al e8 1 (Ay.call ud Z (rO p0.mv.now o9 (p1.1.imp fun h↦by omega) oo))) Z ?_;rintro u3 w0 ⟨k4,h5,s0,⟨k,q2,rfl,o3⟩⟩;refine p.AX h5 fun p=>AK Z Z<|vd Z (fun _=>Ag Z Z)<|vd Z (fun _=>Ag Z Z)<|Ga Z Z<|Ga Z Z<|WD.nil ?_;clear n3 j0 e0 j4 n8;clear p;refine Ab<|cg<|zm Z<|Ac<|AS Z (fun j1=>?_) fun j1=>?_
   ·have o4:=o3 j1;refine AY k4 [132] [0,1,0,1,0,1,0,1,0,1,0,0,0,2,0,3] [0,1,2,3,4,5,6,7,8,9,10,11,12,13,14,15] fun w3 l4 p=>vd Z (fun _=>Aa CA Z)<|vc Z p.kp (t.mv.kb ET Z Z)<|vd Z (fun _=>Aa CE Z)<|vc Z p.kp (b2.mv.kb Au Z Z)<|vd Z (fun _=>Aa CA Z)<|vc Z p.kp (t.mv.kb ET Z Z)<|vd Z (fun _=>Aa CE Z)<|vc Z p.kp (b2.mv.kb Au Z Z)<|vd Z (fun _=>Bj Hn o.mv Z Z oo oo) ?_;refine vc Z p.kp (j5.mv.ke BL Z)<|AK Z Z<|AK Z Z<|vd Z (fun _=>AH Z Z oo oo) ?_;have e3:=r;refine WD.AW Z Z Z (Pg c3.mv (Ay.call ue Z (bl c3.mv.own o4))) Z ?_;rintro p6 w4 ⟨q4,h6,n9,hg,j9,o8⟩;refine p.AX h6 fun p=>?_;have j8:Ao _ _ 132 3 1 p6 (f.eraseIdx k).length ((f.eraseIdx k).map I):=⟨o8.Dl (yU _),fun b n2↦n9 b (j9▸n2)⟩;replace r:=(((((e3.mv b4).mv b5).mv l3).mv h5).mv l4).zu (l':=f.eraseIdx k) c7 j9 j8 hg h6.Bf;obtain⟨e7,h2,rfl,_⟩:=j8.own.len;refine vd Z (fun _=>Bj Hn o.mv Z Z oo oo) ?_;refine WD.wild Z Z Z ((Gt (j:=a1) (x:= .tmp 80) (y:= .tmp 79) (u:= .slice e7 (f.eraseIdx k).length h2) BL o.mv Z oo (by rw[show(⟨g,a1,none⟩:Addr)=Bh (.slice (some ⟨g,0,none⟩) F.length cp) 1 (a1:Int).toNat by simp[Bh,add_lit]];rfl) Z Z Z)) ?_;rintro _ w5 ⟨q5,l5,o⟩;try replace p:=p.tr l5 Z
    have l0:(F.set a1 (f.eraseIdx k)).length=live.length:=by rw[zF];exact a7
    have l1:=nQ (d:=a1) (k:=k) a6 (zx c5);have k9:(F.set a1 (f.eraseIdx k)).length=F.length:=zF;replace o:=o.lD k9.symm;refine WD.nil ?_;clear p;refine cg<|vq (AH Z Z Ad Ad)<|zm Z<|Ac ?_;exact⟨m+1,Aq,⟨by omega,_,_,_,_,⟨by assumption,by assumption⟩,hJ.mv,U.mv,R.mv,b0.mv,J.mv,t.mv,C.mv,o,r.mv⟩,by omega⟩
   have l0:=a7;have l1:=a6;refine Aj<|cg<|vq (AH Z Z Ad Ad)<|zm Z<|Ac ?_;exact⟨m+1,Aq,⟨by omega,_,_,_,_,⟨by assumption,by assumption⟩,hJ.mv,U.mv,R.mv,b0.mv,J.mv,t.mv,C.mv,o.mv,r.mv⟩,by omega⟩
  refine WC.exit Z<|cg<|vq (AH Z Z Ad Ad)<|zm Z<|Ac ?_;exact⟨i+1,Aq,⟨by omega,_,_,_,_,⟨a7,a6,fun e↦absurd e o6⟩,hJ,U,R,J,t,C,o,r⟩,by omega⟩
 have e5:=o.Av;refine WC.exit Z<|Ab<|cg<|vq (AD Cz Z t.Ap Z)<|WR.AI (Am Cz Z Z J Z Z AG) ?_;rintro _ w6 ⟨J,l6⟩;refine Ac<|Fz Z (Br Cz Z J.Ap Z)<|⟨_,hJ.mv.out,b1,a8,F,⟨C.mv.Ej hJ.mv,vs,o.mv.Ej hJ.mv,?_⟩,a7,a6,?_,Z⟩
 ·have e4:=(r.mv l6).rP fun l hl↦by
   obtain⟨x4,p8,x5⟩:=a6 l hl;exact⟨by omega,fun x hx↦by have:=p8 x hx;exact⟨by omega,by omega⟩⟩
  exact⟨e4.len,fun j v l h1 k8↦(e4.row j v l h1 k8).Ej hJ.mv⟩
 exact h3
end Go.Proofs.K
namespace Go.Eng
open Go Go.RowKit
def qj(P:Program)(j:FuncId)(o:List Value){α:Type}(encs:α→List Value)(κ F:List Nat)(Φ:List α→(Nat→Nat)→World→Prop)(Q:List α→α→(Nat→Nat)→World→Prop)(Fin:List α→Prop)(c:Nat→Nat)(w:World):Prop:=
 ∀(l:Nat) (J g:List α→(Nat→Nat)→World→Prop) (c1:Nat→Nat) (W:World) (K:List Nat),Mv c w c1 W K→Bd (κ++F) K=true→
  (∀s d A f B,J s d A→Mv d A f B κ→J s f B)→(∀s d A f B,g s d A→Mv d A f B κ→g s f B)→(∀s d A,J s d A→Φ s d A)→
  (∀pre x d A,J pre d A→Q pre x d A→∃i,Bd (κ++F) i=true∧YieldAt (FW none) 0 P l (encs x).toArray A (fun e B=>∃b f,e= .returned (.bool b)∧Mv d A f B i∧(b=true→J (pre++[x]) f B)∧(b=false→g (pre++[x]) f B)))→
  J [] c1 W→
  Calls P j ([Value.func (.yield l) #[] #[]]++o).toArray W (AP fun _ B=>∃f,(∃L,Fin L∧J L f B)∨∃pre,g pre f B)
section
variable {c:Cx} {B:List (Nat×Dy)} {env:Env} {w:World} {N:Dy}
theorem bm{α:Type}{g:Operand}{ps:Array Tmp}{assign body:Code}{b0:FuncId}{a7:List Value}{encs:α→List Value}{κ F:List Nat}{Φ:List α→(Nat→Nat)→World→Prop}{Q:List α→α→(Nat→Nat)→World→Prop}{Fin:List α→Prop}{c0:Nat→Nat}{ms:List Value}
 (I:List α→(Nat→Nat)→World→Prop)(X:dY α)(b4:List α→(Nat→Nat)→World→Prop)(K:List Nat)
 (h1:c.VN=none)(hg:Ba env g=some (.func (.func b0) #[] a7.toArray))(l0:Af c.P b0=true)(hit:qj c.P b0 a7 encs κ F Φ Q Fin c0 w)(h3:AA (κ++F) 901=false)
 (n0:∀x,(encs x).length=ps.size)(j4:ps.all (fun p=>Nat.blt p c.n)=true)(b1:(Bd (κ++F) K&& !AA K 901)=true)
 (e1:∀s d A f B,I s d A→Mv d A f B (901::κ)→I s f B)(e6:∀p∈X,∀s d A f B,p.2 s d A→Mv d A f B (901::κ)→p.2 s f B)(e7:∀s d A f B,b4 s d A→Mv d A f B (901::κ)→b4 s f B)
 (n3:∀s d A,I s d A→Φ s d A)(h0:I [] c0 w)
 (round:∀l pre x d A,I pre d A→Q pre x d A→WC ⟨c.P,c.n,#[],fun _ _=>False,some l⟩ [] assign ((4000000, .tuple #[])::Lq ps.toList (encs x) env) A (fun e0 A1=>∃J,Acc d A K J A1∧
  ∀A2,Mv J A1 J A2 [901]→WC ⟨c.P,c.n,#[],fun _ B'=>∃f,Acc J A2 K f B'∧b4 (pre++[x]) f B',some l⟩ (QC X K (pre++[x]) J A2) body e0 A2 (fun _ B'=>∃f,Acc J A2 K f B'∧I (pre++[x]) f B')))
 (done:∀L D d B',Fin L→I L d B'→Ix d B' D→N ((4000000, .tuple (I' D::ms).toArray)::env) B')
 (k3:∀p∈X,∀D pre d B',p.2 pre d B'→Ix d B' D→∃k,Ji B p.1=some k∧k ((4000000, .tuple (I' D::ms).toArray)::env) B')
 (n6:∀D pre d B',b4 pre d B'→Ix d B' D→WC c B .ret ((4000000, .tuple (I' D::ms).toArray)::env) B' N)
 (l6:De env=some (.tuple ms.toArray):=by rfl):WC c B (.rangeFunc g ps assign body) env w N:=by
 intro a a1;have l8:∀p∈ps.toList,Nat.blt p c.n=true:=by
  rw[Array.all_eq_true'] at j4;intro p hp;exact j4 p (by simpa using hp)
 simp only[kg,zV] at b1;have n4:AA κ 901=false:=by
  simp only[AA,Adc,VJ] at h3;exact h3.1
 refine wpIn_rangeFunc ?_;intro fn n9;rw[show(FW c.VN).round=none from h1];obtain⟨U,e2⟩:∃U,(w.alloc (.deferred (some []))).alloc (.loop (Jo fn a.tmps ps assign body w.heap.size .ready none))=U:=⟨_,Z⟩;have k6:U.heap[w.heap.size+1]?=some (.loop (Jo fn a.tmps ps assign body w.heap.size .ready none)):=by
  rw[←e2];have:=Acd (w.alloc (.deferred (some []))) (.loop (Jo fn a.tmps ps assign body w.heap.size .ready none));rwa [Age] at this
 have k5:U.heap[w.heap.size]?=some (.deferred (some [])):=by
  rw[←e2];exact(Afq _ _ _ ss).trans (Acd w _)
 have k7:Below w.heap.size w U:=by
  rw[←e2];exact((zy _ w).alloc (lx _) _).alloc ss _
 obtain⟨c1,j2,j5⟩:=Mv.pure c0 901 k7;have k8:c1 w.heap.size=901:=j5 _ (lx _);have k9:c1 (w.heap.size+1)=901:=j5 _ oo;have marks:∀(D:Nat),Df c.n ((4000000, .tuple (I' D::ms).toArray)::env) {a with defers:={target:= .collected D,args:=#[]}::a.defers}:=fun D=>
  ⟨a1.NS,fun v hv=>by
   have:Value.tuple (I' D::ms).toArray=v:=by simpa[De] using hv
   subst this;rw[a1.defers _ l6];simp[marksOf,I'],a1.size,fun k v hk=>a1.vals k v (by
   unfold look at hk;cases a6:Nat.beq 4000000 k with
   |true=>rw[a6] at hk;simp at hk
   |false=>rw[a6] at hk;simpa using hk)⟩
 refine⟨w.heap.size+1,[{target:= .collected w.heap.size,args:=#[]}],U,{target:= .fn (.func b0) a7.toArray,args:=#[.func (.yield (w.heap.size+1)) #[] #[]]},U,b0,
  #[.func (.yield (w.heap.size+1)) #[] #[]]++a7.toArray,U,?_,?_,fun _ _=>trivial,?_,fun h=>by simp[FW,Fence.wide] at h,?_⟩
 ·rw[←e2];exact run_enterLoop_outer _ _ _ _ _
 ·simp only[resolve,a1.eval hg];simp[go_sem]
 ·simp[invoke,go_sem,GS l0]
 let r:=Jo fn a.tmps ps assign body w.heap.size
 have e4:∀{d:Nat→Nat} {A:World} {f:Nat→Nat} {B':World} {k:Nat} {o:Obj},Mv d A f B' κ→d k=901→A.heap[k]?=some o→f k=901∧B'.heap[k]?=some o:=fun m hd hk=>by
  have c7:=BA hk;exact⟨(m.Bf _ c7).trans hd,(m.block _ c7 (by rw[hd];exact n4)).trans hk⟩
 have PC:∀{d:Nat→Nat} {A:World} {f:Nat→Nat} {B':World},Mv d A f B' κ→Mv d A f B' (901::κ):=fun m=>m.more (by
  rw[zK];intro i hi;simp only[AA,Acb,zZ];exact .inr (Kn.2 ⟨i,hi,by simp⟩))
 have a8:∀{d:Nat→Nat} {A:World} {f:Nat→Nat} {B':World},Mv d A f B' [901]→Mv d A f B' (901::κ):=fun m=>m.more (by simp[AA]);have j0:=hit (w.heap.size+1)
  (fun pre d A=>I pre d A∧(d (w.heap.size+1)=901∧A.heap[w.heap.size+1]?=some (.loop (r .ready none)))∧d w.heap.size=901∧A.heap[w.heap.size]?=some (.deferred (some [])))
  (fun pre d A=>∃j,((j= .ret∧b4 pre d A)∨∃p∈X,j= .exit p.1∧p.2 pre d A)∧(d (w.heap.size+1)=901∧A.heap[w.heap.size+1]?=some (.loop (r .done (some j))))∧d w.heap.size=901∧A.heap[w.heap.size]?=some (.deferred (some [])))
  c1 U [] j2 (by simp[Bd,AA])
  (fun s d A f B' ⟨R,c2,c3⟩ m=>⟨e1 _ _ _ _ _ R (PC m),e4 m c2.1 c2.2,e4 m c3.1 c3.2⟩)
  (fun s d A f B' ⟨j,R,c2,c3⟩ m=>⟨j,R.imp (fun h=>⟨h.1,e7 _ _ _ _ _ h.2 (PC m)⟩) (fun⟨p,hp,e,h⟩=>⟨p,hp,e,e6 p hp _ _ _ _ _ h (PC m)⟩),e4 m c2.1 c2.2,e4 m c3.1 c3.2⟩)
  (fun s d A ⟨R,_⟩=>n3 s d A R) ?_ ⟨e1 _ _ _ _ _ h0 (j2.more Z),⟨k9,k6⟩,k8,k5⟩
 ·rw[show([Value.func (.yield (w.heap.size+1)) #[] #[]]++a7).toArray=#[.func (.yield (w.heap.size+1)) #[] #[]]++a7.toArray by simp] at j0;have R:CallsIn (FW none) (0-1) c.P b0 (#[.func (.yield (w.heap.size+1)) #[] #[]]++a7.toArray) U _:=(Af7 (n:=0)).2 j0;rw[h1];refine R.mono ?_;rintro e b3 ⟨v,rfl,f,(⟨L,k4,hi,hl,hk⟩|⟨pre,j,l2,hl,hk⟩)⟩
  ·have e3:Mv f b3 f (b3.putObj (w.heap.size+1) (.loop {r .ready none with state:= .exhausted})) [901]:=Fm _ hl.1;refine⟨none,_,Agh hl.2 (by simp[r,Jo]),_,marks _,done L _ f _ k4 (e1 _ _ _ _ _ hi (a8 e3)) ⟨(Aai oo).trans hk.2,hk.1⟩⟩
  have e3:Mv f b3 f (b3.putObj (w.heap.size+1) (.loop {r .done (some j) with state:= .exhausted})) [901]:=Fm _ hl.1;have h9:Ix f (b3.putObj (w.heap.size+1) (.loop {r .done (some j) with state:= .exhausted})) w.heap.size:=⟨(Aai oo).trans hk.2,hk.1⟩;refine⟨some j,_,Agh hl.2 (by simp[r,Jo]),?_⟩;rcases l2 with⟨rfl,hx⟩|⟨p,hp,rfl,hx⟩
  ·have:=n6 _ pre f _ (e7 _ _ _ _ _ hx (a8 e3)) h9 _ (marks _);rw[h1] at this;exact this
  obtain⟨k,l4,l5⟩:=k3 p hp _ pre f _ (e6 p hp _ _ _ _ _ hx (a8 e3)) h9;exact wpIn_exit ⟨k,_,l4,marks _,l5⟩
 rintro pre x d A ⟨hi,hl,hk⟩ l9;refine⟨901::K,Sd h3 b1.1,fn,_,assign,body,run_yield hl.2 (by simp[r,Jo,n0 x]),?_⟩;refine roundIn_of_wpIn trivial (Adg (round (w.heap.size+1) pre x d A hi l9 _ ?_) ?_)
 ·have n7:Df c.n ((4000000, .tuple #[])::env) {tmps:=a.tmps,defers:=[]}:=
   ⟨a1.NS,fun v hv=>by
    have:Value.tuple #[]=v:=by simpa[De] using hv
    subst this;rfl,a1.size,fun k v hk=>a1.vals k v (by
    unfold look at hk;cases a6:Nat.beq 4000000 k with
    |true=>rw[a6] at hk;simp at hk
    |false=>rw[a6] at hk;simpa using hk)⟩
  have e0:Df c.n env {tmps:=a.tmps,defers:=a.defers}:=a1;have R:=VQ ps.toList (encs x) _ _ e0 l8;have h8:((ps.zip (encs x).toArray).foldl (fun c9 (t,a)=>c9.setIfInBounds t a) a.tmps)=(ps.toList.zip (encs x)).foldl (fun t (x:Nat×Value)=>t.setIfInBounds x.1 x.2) a.tmps:=by
   rw[←Afr,Array.toList_zip]
  refine⟨R.NS,fun v hv=>?_,?_,fun k v hk=>?_⟩
  ·have:Value.tuple #[]=v:=by simpa[De] using hv
   subst this;rfl
  ·have:=R.size;show((ps.zip (encs x).toArray).foldl (fun c9 (t,a)=>c9.setIfInBounds t a) a.tmps).size=c.n
   rw[h8];exact this
  have l3:look (Lq ps.toList (encs x) env) k=some v:=by
   unfold look at hk;cases a6:Nat.beq 4000000 k with
   |true=>rw[a6] at hk;simp at hk
   |false=>rw[a6] at hk;simpa using hk
  have:=R.vals k v l3;show((ps.zip (encs x).toArray).foldl (fun c9 (t,a)=>c9.setIfInBounds t a) a.tmps)[k]?=some v
  rw[h8];exact this
 intro e j9 A1 b2;cases e with
 |normal=>
  obtain⟨e0,l7,J,c5,n1⟩:=b2;have c7:=BA hl.2;have j1:=BA hk.2;have c8:J (w.heap.size+1)=901∧A1.heap[w.heap.size+1]?=some (.loop (r .ready none)):=⟨(c5.MI.Bf _ c7).trans hl.1,(c5.MI.block _ c7 (by rw[hl.1];exact b1.2)).trans hl.2⟩;have h4:J w.heap.size=901∧A1.heap[w.heap.size]?=some (.deferred (some [])):=⟨(c5.MI.Bf _ j1).trans hk.1,(c5.MI.block _ j1 (by rw[hk.1];exact b1.2)).trans hk.2⟩;refine⟨_,run_beginRound c8.2 Z,?_⟩;have j7:Mv J A1 J (A1.putObj (w.heap.size+1) (.loop {r .ready none with state:= .busy})) [901]:=Fm _ c8.1;have h6:(A1.putObj (w.heap.size+1) (.loop {r .ready none with state:= .busy})).heap[w.heap.size+1]?=some (.loop {r .ready none with state:= .busy}):=Ado (BA c8.2);have h5:(A1.putObj (w.heap.size+1) (.loop {r .ready none with state:= .busy})).heap[w.heap.size]?=some (.deferred (some [])):=(Aai oo).trans h4.2;refine Adg (n1 _ j7 j9 l7) ?_;have e5:∀(j:Option Code) (A3:World) (C:Nat→Nat),Acc J (A1.putObj (w.heap.size+1) (.loop {r .ready none with state:= .busy})) K C A3→
   (Instr.endRound (w.heap.size+1) j).run c.P A3= .ok (.bool j.isNone) (A3.putObj (w.heap.size+1) (.loop (r (if j.isNone then .ready else .done) j)))∧
   Mv d A C (A3.putObj (w.heap.size+1) (.loop (r (if j.isNone then .ready else .done) j))) (901::K)∧Mv C A3 C (A3.putObj (w.heap.size+1) (.loop (r (if j.isNone then .ready else .done) j))) [901]∧
   (C (w.heap.size+1)=901∧(A3.putObj (w.heap.size+1) (.loop (r (if j.isNone then .ready else .done) j))).heap[w.heap.size+1]?=some (.loop (r (if j.isNone then .ready else .done) j)))∧
   C w.heap.size=901∧(A3.putObj (w.heap.size+1) (.loop (r (if j.isNone then .ready else .done) j))).heap[w.heap.size]?=some (.deferred (some [])):=fun j A3 C c4=>by
   have h7:C (w.heap.size+1)=901:=(c4.MI.Bf _ (BA h6)).trans c8.1;have j6:A3.heap[w.heap.size+1]?=some (.loop {r .ready none with state:= .busy}):=(c4.MI.block _ (BA h6) (by rw[c8.1];exact b1.2)).trans h6;have n5:A3.heap[w.heap.size]?=some (.deferred (some [])):=(c4.MI.block _ (BA h5) (by rw[h4.1];exact b1.2)).trans h5;have j8:Mv C A3 C (A3.putObj (w.heap.size+1) (.loop (r (if j.isNone then .ready else .done) j))) [901]:=Fm _ h7;have sub:K.all (AA (901::K))=true:=by
    rw[zK];intro i hi;simp only[AA,Acb,zZ];exact .inr (Kn.2 ⟨i,hi,by simp⟩)
   have one:[901].all (AA (901::K))=true:=by simp[AA]
   refine⟨run_endRound j j6,(((c5.MI.more sub).tr j7 one).tr c4.MI sub).tr j8 one,j8,⟨h7,Ado (BA j6)⟩,(c4.MI.Bf _ (BA h5)).trans h4.1,(Aai oo).trans n5⟩
  intro k2 k0 A3 hp;cases k2 with
  |normal=>
   obtain⟨_,_,C,c6,l1⟩:=hp;obtain⟨b5,b6,b7,b8,b9⟩:=e5 none A3 C c6;exact⟨_,_,b5,true,C,Z,b6,fun _=>⟨e1 _ _ _ _ _ l1 (a8 b7),b8,b9⟩,fun h=>(by cases h)⟩
  |ret=>
   obtain⟨w',⟨ht,e9⟩,v,hv,C,c6,h2⟩:=hp;have e9:k0.defers=[]:=e9.resolve_left ss;rw[e9] at ht;have:w'=A3:=ht;subst this;obtain⟨b5,b6,b7,b8,b9⟩:=e5 (some .ret) w' C c6;exact⟨_,_,b5,false,C,Z,b6,fun h=>(by cases h),fun _=>⟨_, .inl ⟨Z,e7 _ _ _ _ _ h2 (a8 b7)⟩,b8,b9⟩⟩
  |exit id=>
   obtain⟨k,n8,e8,_,n2⟩:=hp;obtain⟨p,j3,rfl,rfl⟩:=Nl e8;obtain⟨C,c6,h2⟩:=n2;obtain⟨b5,b6,b7,b8,b9⟩:=e5 (some (.exit p.1)) A3 C c6;exact⟨_,_,b5,false,C,Z,b6,fun h=>(by cases h),fun _=>⟨_, .inr ⟨p,j3,Z,e6 p j3 _ _ _ _ _ h2 (a8 b7)⟩,b8,b9⟩⟩
  |goto t=>exact hp.elim
  |panic k1=>exact hp.elim
  |outgrown=>exact hp.elim
 |exit id=>obtain⟨k,_,e8,_⟩:=b2;simp[Ji] at e8
 |ret=>obtain⟨_,_,_,_,h⟩:=b2;exact h.elim
 |goto t=>exact b2.elim
 |panic k1=>exact b2.elim
 |outgrown=>exact b2.elim
end
end Go.Eng
namespace Go.Proofs.K
open Go Go.Eng Go.RowKit Silo TryzT
theorem Zw{s:Cn}{b0:Nat}:Calls QP 269 #[.agg (DO s).toArray,P1 b0] w (AP fun u w'=>Below w.heap.size w w'∧∃b2 b3,u= .func (.func 342) #[] #[P1 b3,P1 b2]∧(w.heap.size≤b2∧w.heap.size≤b3)∧FG w' b2 (DO s) 31∧FG w' b3 [P1 b0] 243):=by
 obtain⟨c,f,hc⟩:=AQ.start w;clear hc;refine enter (n:=6) (res:=#[.tmp 4]) Tryz.func269 Z Z Z Z<|Ab<|cg<|Dz c 102 fun w1 b2 c1 l g=>?_;refine MJ c1 103 fun w2 b3 c2 i j=>?_;refine za Z<|Ac<|Ab<|cg<|vq (CI Z)<|za Z<|Ac<|Az Z Z ?_;replace f:=(f.mv l).mv i;replace g:=g.mv i;have o:w.heap.size≤b2:=by
  rcases yT b2 w.heap.size with h|h
  ·have:=f.Bf _ h;rw[g.Bf] at this;cases this
  exact h
 have p:w.heap.size≤b3:=by
  rcases yT b3 w.heap.size with h|h
  ·have:=f.Bf _ h;rw[j.Bf] at this;cases this
  exact h
 exact⟨f.below,_,_,Z,⟨o,p⟩,g.Ap,j.Ap⟩
def zi(live:List Bool)(F:List (List Int))(km:Nat)(pre:List Pu)(x:Pu)(d:Nat→Nat)(A:World):Prop:=
 x.2.2.2=EN F pre∧Mc live (EN F pre) [] km x.2.1 x.2.2.1∧Ao d A 136 226 2 x.1 x.2.2.1.length ((Gf (EN F pre) x.2.2.1).flatMap FE)
theorem Uf{w0:World}{c0:Nat→Nat}{s:Cn}{b0 b2 b3 N:Nat}{vL vF:Value}{live:List Bool}{F:List (List Int)}(f:Ar c0 w0 76 b2 (DO s) 31)(g:Ar c0 w0 76 b3 [P1 b0] 243)(o:Ar c0 w0 133 b0 [vL,vF] 55)(j:KS c0 w0 vL vF live F)(c2:live.length=F.length∧F.length≤12)(c3:0<F.length)(hs:s.k+s.m≤12):
 qj QP 342 [P1 b3,P1 b2] (fun x:Pu=>[x.1,I x.2.1]) Jg [76] (fun pre _ _=>pre.length≤N) (zi live F (s.k+s.m)) (fun _=>False) c0 w0:=by
 intro l J c5 c1 W K r U a8 c8 b6 hy b8;have R:∀i∈[130,131,132,133,76],AA K i=false:=fun i hi=>Bo U (by simpa using hi);replace f:=f.mv r (R 76 ss);replace g:=g.mv r (R 76 ss);replace o:=o.mv r (R 133 ss);replace j:=j.mv r (BC U ss);have hJ:JC (J []) Jg c1 W:=⟨b8,fun _ _ _ _ h m=>a8 _ _ _ _ _ h m⟩;clear r R U;show Calls _ _ [_,_,_].toArray _ _
 refine enter (n:=21) (res:=#[]) Tryz.func342 Z Z Z Z<|Ai<|WC.loop (σ:=List Pu) (fun pre=>[(0, .func (.yield l) #[] #[]),(1,P1 b3),(2,P1 b2)]) (fun pre w'=>∃c',Ar c' w' 76 b2 (DO s) 31∧Ar c' w' 76 b3 [P1 b0] 243∧Ar c' w' 133 b0 [vL,vF] 55∧KS c' w' vL vF live (EN F pre)∧JC (J pre) Jg c' w') (fun pre=>N+1-pre.length) [] Aq ⟨_,f,g,o,j,hJ⟩ ?_;clear hJ f g o j;rintro pre e3 ⟨c7,f,g,o,j,hJ⟩;have e0:pre.length≤N:=b6 _ _ _ hJ.now;have a7:=Vy pre F;refine Ai<|Ab<|cg<|vq (Ah LF Z g.Ap Z)<|vq (Aa Ce Z)<|vq (Ah Au Z f.Ap Z)<|vq (Aa Gr Z)<|vq (Ah Au Z f.Ap Z)<|vq (AH Z Z oo oo) ?_;rw[show(s.k:Int)+(s.m:Int)=((s.k+s.m:Nat):Int) by omega];refine ve (Ay.call oO Z (dK (K:=[]) (nt:=[]) o j (by rw[a7];exact c2) (by rw[a7];exact c3) (fun w' _ _↦Dx.nil Bw _ _) ⟨none,0,0,Z,fun h↦by omega⟩ Z hs)) ?_;rintro e2 w1 ⟨c1,a1,⟨p,e,E,o,j,b9,hl,rfl⟩⟩;refine zm Z<|vq (Ag Z Z)<|vq (Ag Z Z)<|za Z<|za Z<|Ac<|Ab<|cg<|zm Z<|zm Z<|zm Z ?_;obtain⟨c6,C,b1⟩:=hy pre (p,e,E,EN F pre) _ _ (hJ.mv a1).now ⟨Z,b9,hl⟩;refine ve (Nk Z Z b1) ?_;rintro _ c4 ⟨b,b7,rfl,t,b5,b4⟩;replace f:=f.mv a1;replace g:=g.mv a1;replace f:=f.mv t (Bo C ss);replace g:=g.mv t (Bo C ss);replace o:=o.mv t (Bo C ss);replace j:=j.mv t (BC C ss);clear hJ b1 hl;refine vq (Bq Z)<|Ac<|AS Z (fun a6=>?_) fun a6=>?_
 ·refine TO Z ?_;exact⟨_, .inr ⟨_,b4 (by simpa using a6)⟩⟩
 have hJ:JC (J (pre++[(p,e,E,EN F pre)])) Jg b7 c4:=⟨b5 (by simpa using a6),fun _ _ _ _ h m=>a8 _ _ _ _ _ h m⟩;clear b5 b4 t;refine Aj ?_;have e1:(pre++[(p,e,E,EN F pre)]).length≤N:=b6 _ _ _ hJ.now;refine⟨pre++[(p,e,E,EN F pre)],Aq,⟨_,f,g,o,by rw[bi];exact j,hJ⟩,?_⟩;have c9:(pre++[(p,e,E,EN F pre)]).length=pre.length+1:=by simp
 show N+1-(pre++[(p,e,E,EN F pre)]).length<N+1-pre.length
 omega
end Go.Proofs.K
namespace Silo
open Go.Proofs.K
def Fh(live:List Bool)(F:List (List Int))(km:Nat)(pre:List Pu):Prop:=∀(i:Nat) (x:Pu),pre[i]?=some x→x.2.1=0∧x.2.2.2=EN F (pre.take i)∧Mc live (EN F (pre.take i)) [] km 0 x.2.2.1
def Rt(x:Pu):List (Int×Int):=Gf x.2.2.2 x.2.2.1
section
variable {live:List Bool} {F:List (List Int)} {km:Nat} {pre:List Pu} {x:Pu}
theorem Fh.nil:Fh live F km []:=fun i x h=>by simp at h
theorem Fh.snoc(h:Fh live F km pre)(h0:x.2.1=0)(h1:x.2.2.2=EN F pre)(f:Mc live (EN F pre) [] km x.2.1 x.2.2.1):Fh live F km (pre++[x]):=fun i y hy=>by
 rcases yT i pre.length with hi|hi
 ·rw[Aau hi] at hy;rw[Aat (Nat.le_of_lt hi)];exact h i y hy
 ·rw[Aar hi] at hy;have e:i=pre.length:=by
   rcases yT (i-pre.length) 1 with h|h
   ·omega
   ·rw[yW (by simpa using h)] at hy;cases hy
  subst e;simp at hy;subst hy;rw[Aaq];rw[h0] at f;exact⟨h0,h1,f⟩
theorem Vz:∀(pre:List Pu) (F:List (List Int)) {l:List Int} {y:Int},l∈EN F pre→y∈l→∃l'∈F,y∈l'
 |[],F,l,y,h1,f=>⟨l,h1,f⟩
 |x::pre,F,l,y,h1,f=>by
  obtain⟨l',g,i⟩:=Vz pre (Vw F x.2.2.1) h1 f;exact nL _ _ g i
theorem Fh.each(h:Fh live F km pre)(hl:live.length=F.length)(a7:∀l∈F,∀y∈l,0≤y∧y<64)(hx:x∈pre):(Rt x).length=km∧x.2.2.1.length=km∧∀p∈Rt x,(0≤p.1∧p.1<(live.length:Nat))∧0≤p.2∧p.2<64:=by
 obtain⟨i,hi⟩:=Aae hx;obtain⟨_,R,g⟩:=h i x hi;rcases g with⟨g,_⟩|⟨g,_⟩|⟨_,D,a6,t,b1⟩
 ·simp at g
 ·simp at g
 have J:x.2.2.1.length=km:=by rw[t,ly];omega
 refine⟨by rw[Rt,Gf,yF,J],J,fun p hp=>?_⟩;rw[Rt,Gf] at hp;obtain⟨d,hd,rfl⟩:=zc.1 hp;have a8:d∈FX live (EN F (pre.take i)) [] live.length:=a6.mem_iff.1 (by rw[t] at hd;exact Aa4 hd);obtain⟨b2,C⟩:=MG.1 a8;refine⟨⟨by show(0:Int)≤(d:Int);omega,by show(d:Int)<_;omega⟩,?_⟩;show 0≤(x.2.2.2.getD d []).headD 0∧(x.2.2.2.getD d []).headD 0<64
 rw[R];have I:d<(EN F (pre.take i)).length:=by rw[Vy];omega
 rw[gA,kg] at C;have j:=C.2;rw[gy,aa I] at j⊢;simp only[Aa1] at j⊢;have o:=oy I;generalize(EN F (pre.take i))[d]=f at j o⊢;cases f with
 |nil=>simp at j
 |cons a r=>
  obtain⟨b0,U,a1⟩:=Vz _ _ o (Aag (a:=a) (l:=r));exact a7 b0 U a a1
end
end Silo
namespace Go.Proofs.K
open Go Go.Eng Go.RowKit Silo TryzT
def yy(live:List Bool)(F:List (List Int))(km many:Nat)(c':Nat→Nat)(w':World)(vl:Value)(e:Int):Prop:=
 (e=0∧∃pre,Fh live F km pre∧pre.length=many∧Ao c' w' 137 125 1 vl pre.length (pre.map (·.1))∧∀x∈pre,Bi Bg c' w' [136] x.1 (Rt x))∨
 (e≠0∧vl= .slice none 0 0∧∃p E,Fh live F km p∧p.length<many∧Mc live (EN F p) [] km e E)
theorem fW{live:List Bool}{F:List (List Int)}{km:Nat}{e:Int}{E:List Nat}(h:Mc live F [] km e E):0≤e∧e≤6:=by
 rcases h with⟨h,_⟩|⟨h,_⟩|⟨h,_⟩<;>omega
structure sr (c:Nat→Nat) (w:World) (pre:List Pu):Prop where
 el:∀x∈pre,Bi Bg c w [136] x.1 (Rt x)
theorem sr.mv{c c':Nat→Nat}{w w':World}{J:List Nat}{pre:List Pu}(h:sr c w pre)(m:Mv c w c' w' J:=by exact Go.Eng.Jb)(hi:Bd [136] J=true:=by rfl):sr c' w' pre:=⟨fun x hx=>(h.el x hx).mv m hi⟩
structure bn (c0:Nat→Nat) (w0:World) (d:Nat→Nat) (B:World) (b6 b7 b8 many:Nat) (pre:List Pu):Prop where
 old:AZ c0 w0 Jg d B
 b7:Ar d B 107 b7 [I 0] 46
 b8:Ar d B 108 b8 [I many] 3
 l:∃vl,Ar d B 106 b6 [vl] 289∧Ao d B 137 125 1 vl pre.length (pre.map (·.1))
 p:sr d B pre
theorem bn.mv{c0:Nat→Nat}{w0:World}{d f:Nat→Nat}{B B':World}{b6 b7 b8 many:Nat}{pre:List Pu}{K:List Nat}(h:bn c0 w0 d B b6 b7 b8 many pre)(m:Mv d B f B' K:=by exact Go.Eng.Jb)(h0:AA K 0=false:=by rfl)(hi:Bd [106,107,108,136,137] K=true:=by rfl):bn c0 w0 f B' b6 b7 b8 many pre:=by
 obtain⟨j,g,i⟩:=h.l;exact⟨h.old.mv m h0,h.b7.mv m (Bo hi ss),h.b8.mv m (Bo hi ss),⟨j,g.mv m (Bo hi ss),i.mv m (Bo hi ss)⟩,h.p.mv m (BC hi ss)⟩
theorem nR{s:Cn}{b0 n:Nat}{vL vF:Value}{live:List Bool}{F:List (List Int)}(hs:Small s)(U:Ar c w 133 b0 [vL,vF] 55)(R:KS c w vL vF live F)(j3:live.length=F.length∧F.length≤12)(n1:0<F.length)(e2:∀l∈F,∀y∈l,0≤y∧y<64)(o4:n≤2000):
 Calls QP 175 #[.agg (DO s).toArray,P1 b0,I n] w (AP fun u w'=>∃c',Mv c w c' w' Jg∧∃vl e,yy live F (s.k+s.m) (BF s n) c' w' vl e∧u= .tuple #[vl,I e]):=by
 have hJ:=AZ.start c w Jg;replace U:=U.Ca (J:=Jg) Z;replace R:KS (AT c Jg) w vL vF live F:=by
  obtain⟨k8,vs,e2,h9⟩:=R;exact⟨k8.Ca Z,vs,e2.Ca Z,⟨h9.len,fun j v l t r=>WY (h9.row j v l t r) Z⟩⟩
 generalize AT c Jg=c0 at hJ U R;obtain⟨n3,o7,o8,n4,o9⟩:=id hs;have n0:BF s n≤n:=by
  rw[BF];have h8:1≤s.k*s.size:=yQ n3 n4;have r:=Nat.div_le_div_left (a:=n+s.k*s.size-1) h8 oo;rcases zX n with h5|h5
  ·subst h5;rw[Acf oo];omega
  refine Nat.div_le_of_le_mul ?_;have c8:n+s.k*s.size-1≤s.k*s.size*n:=by
   have h6:=yL (n-1) h8;have n8:s.k*s.size*n=s.k*s.size*(n-1)+s.k*s.size:=by
    rw[show n=n-1+1 by omega,Nat.mul_add,Aa2];simp
   omega
  exact c8
 refine enter (n:=41) (res:=#[.cell 6 289, .cell 7 46]) Tryz.func175 Z Z Z Z<|Ab<|cg<|Dz c0 103 fun w1 b3 c1 k9 a1=>?_;refine Db c1 106 me fun w2 b6 c2 b2 f=>Db c2 107 Wg fun q0 b7 k3 e5 g=>Ac<|Ab<|cg<|vq (AD Cq Z a1.mv.Ap Z)<|zm Z<|ve (Al k3 1 (Ay.call qJ Z (WX hs.ok oo))) ?_;rintro p0 q1 ⟨k4,c3,o6,rfl⟩;refine Db k4 108 Ss fun q2 b8 k5 c4 i=>WR.AI (AJ Au Z Z ra ra i Z) ?_;rintro _ q3 ⟨i,c5⟩;refine Ac<|Ab<|Ai<|Ab ?_;obtain⟨many,j4⟩:∃many,many=BF s n:=⟨_,Z⟩;rw[←j4] at i n0;rw[←j4];refine cg<|vq (Ah Au Z i.Ap Z)<|vq (AU Z Z)<|za Z<|Ac<|AS Z (fun l4=>?_) fun l4=>?_
 ·have l9:many=0:=oo;refine Ab<|cg<|WR.AI (AJ JK Z Z ra ra f.mv Z) ?_;rintro _ q4 ⟨f,o2⟩;refine WR.AI (AJ Js Z Z ra ra g.mv Z) ?_;rintro _ q5 ⟨g,o3⟩;refine Ac<|DR Z (Jm JK Z f.mv.Ap Z) (Jm Js Z g.Ap Z) ?_;exact⟨_,hJ.mv.out,_,0, .inl ⟨Z,[],Fh.nil,by rw[l9];rfl,Ao.nil _ _ _ _ _,fun x hx=>by simp at hx⟩,Z⟩
 refine Ab<|cg<|vq (Aa Ce Z)<|vq (Ah Au Z a1.mv.Ap Z)<|vq (Aa Gr Z)<|vq (Ah Au Z a1.mv.Ap Z)<|vq (AH Z Z Ad Ad)<|vq (BZ Z Z)<|za Z ?_;refine Ac<|CD Z (fun j1=>?_) fun j1=>?_
 ·simp only[JV] at j1;omega
 refine Aj<|Ab<|Ab<|cg<|vq (AD Cq Z a1.mv.Ap Z)<|zm Z<|ve (Al k5 76 (Ay.call ux Z (Zw (s:=s) (b0:=b0)))) ?_;rintro p1 n5 ⟨k6,b4,j7,⟨k1,k2,rfl,⟨l7,l8⟩,c9,e0⟩⟩;have e7:Ar _ _ 76 k1 (DO s) 31:=⟨c9,j7 _ l7⟩;have e8:Ar _ _ 76 k2 [P1 b0] 243:=⟨e0,j7 _ l8⟩;have e4:bn c w k6 n5 b6 b7 b8 many []:=⟨(((((((hJ.mv k9).mv b2).mv e5).mv c3).mv c4).mv c5).mv b4),((((g.mv c3).mv c4).mv c5).mv b4),(i.mv b4),⟨_,(((((f.mv e5).mv c3).mv c4).mv c5).mv b4),Ao.nil _ _ _ _ _⟩,⟨fun x hx=>by simp at hx⟩⟩;refine Ac<|Ai<|bm (α:=Pu) (encs:=fun x:Pu=>[x.1,I x.2.1]) (κ:=Jg) (F:=[76]) (Φ:=fun pre _ _=>pre.length≤many) (Q:=zi live F (s.k+s.m)) (Fin:=fun _=>False)
  (fun pre d B=>(Fh live F (s.k+s.m) pre∧pre.length<many)∧bn c w d B b6 b7 b8 many pre) [(1,fun pre d B=>(Fh live F (s.k+s.m) pre∧pre.length=many)∧bn c w d B b6 b7 b8 many pre)]
  (fun _ d B=>AZ c w Jg d B∧∃p E e,(Fh live F (s.k+s.m) p∧p.length<many∧Mc live (EN F p) [] (s.k+s.m) e E∧e≠0)∧Ar d B 106 b6 [.slice none 0 0] 289∧Ar d B 107 b7 [I e] 46) [106,107,137] Z Z uW (Uf (N:=many) e7 e8 U.mv R.mv j3 n1 oo) Z (fun _=>rfl) ss Z
  (fun s d A h4 B ⟨t,r⟩ m=>⟨t,r.mv m⟩) (fun p hp=>by
   simp only[yN] at hp;subst hp;exact fun s d A h4 B ⟨t,r⟩ m=>⟨t,r.mv m⟩) (fun s d A h4 B ⟨t,p,E,e,r,c8,h6⟩ m=>⟨t.mv m,p,E,e,r,c8.mv m,h6.mv m⟩)
  (fun s d A h=>Nat.le_of_lt h.1.2) ⟨⟨Fh.nil,by show 0<many;omega⟩,e4⟩ ?_ ?_ ?_ ?_
 ·clear hJ U R e4 e7 e8 c9 e0 f g i;rintro l pre ⟨p3,e,E,b9⟩ d B ⟨⟨hp,b5⟩,e3⟩ ⟨h1,a6,h2⟩;dsimp only at h1 a6 h2;have a7:=Acc.refl d B [106,107,137];obtain⟨c6,c7,rfl,n9⟩:=h2.own.len;have j2:=fW a6;refine Ab<|cg<|za Z<|Ac<|cg<|za Z<|Ac<|⟨_,a7,?_⟩;replace a1:=(((((a1.mv b2).mv e5).mv c3).mv c4).mv c5).mv b4;intro A2 b2;have a7:=Acc.refl d A2 [106,107,137];obtain⟨hJ,g,i,⟨vl,f,o⟩,h0⟩:=(e3.mv b2);have j8:=o.Av;have j9:=o.Aw;have o5:pre.length≤2000:=oo;refine Ai<|Ab<|Ab<|cg<|zm Z<|vq (Bm Z Z)<|Ac<|AS Z (fun l5=>?_) fun l5=>?_
  ·refine Ab<|cg<|zm Z<|WR.AI (AJ JK Z Z ra ra f Z) ?_;rintro _ p4 ⟨f,o0⟩;refine WR.AI (AJ Js Z Z ra ra g.mv Z) ?_;rintro _ p5 ⟨g,o1⟩;refine Ac<|TO Z ?_;exact⟨_,a7.mv,hJ.mv,pre,E,e,⟨hp,b5,a6,by omega⟩,f.mv,g⟩
  have l6:e=0:=oo;subst l6;refine Aj<|Ab<|cg<|vq (Ah JK Z f.Ap Z)<|zm Z<|ve (Bb d 134 cC Z Z Z Z Z) ?_;rintro _ p6 ⟨n6,n7,rfl,a8,j0⟩;refine ve (AN cC Z Z o.mv (Src.An Tryz.underlying289 j0.Ap.An Z AG) EY Fb) ?_;rintro p2 p7 ⟨h3,b1,o⟩;clear j0;have j8:=o.Av;have j9:=o.Aw;refine WR.AI (AJ JK Z Z ra ra f.mv Z) ?_;rintro _ k0 ⟨f,C⟩;refine Ac<|Ab ?_;have e9:Fh live F (s.k+s.m) (pre++[(Value.slice c6 E.length c7,(0:Int),E,b9)]):=hp.snoc Z h1 a6;have j5:=e9.each j3.1 e2 (Acw _ (yN.2 Z));have n2:Bi Bg h3 k0 [136] (Value.slice c6 E.length c7) (Gf b9 E):=by
   have j6:(Gf b9 E).length=E.length:=List.length_map _;refine Kl (by rw[j6,h1];exact((((h2.mv b2).mv a8).mv b1).mv C)) (by rw[j6];have k7:=j5.2.1;dsimp only at k7;omega) fun p hp=>?_;have:=j5.2.2 p hp;exact⟨⟨by omega,by omega⟩,by omega,by omega⟩
  have h7:bn c w h3 k0 b6 b7 b8 many (pre++[(Value.slice c6 E.length c7,(0:Int),E,b9)]):=⟨(((hJ.mv a8).mv b1).mv C),(((g.mv a8).mv b1).mv C),(((i.mv a8).mv b1).mv C),⟨_,f,by rw[bU,zB];exact(o.mv C)⟩,⟨fun y hy=>by
   rcases zH.1 hy with h|h
   ·exact(((h0.mv a8).mv b1).mv C).el y h
   rw[yN.1 h];exact n2⟩⟩
  refine cg<|vq (Ah JK Z f.Ap Z)<|vq (BI cC) ?_;refine vq (Ah Au Z i.mv.Ap Z)<|vq (AU Z Z)<|Ac<|AS Z (fun l3=>?_) fun l3=>?_
  ·refine WC.exit Z ?_;exact⟨_,a7.mv,⟨e9,by rw[bU];show pre.length+1=many;omega⟩,h7⟩
  refine Aj ?_;exact⟨_,a7.mv,⟨e9,by rw[bU];show pre.length+1<many;omega⟩,h7⟩
 ·exact fun L D d B h=>h.elim
 ·intro p hp;simp only[yN] at hp;subst hp;rintro D pre d B ⟨⟨hp,b5⟩,e3⟩ e1;refine⟨_,rfl,?_⟩;clear hJ U R e4 e7 e8 c9 e0 f g i;obtain⟨hJ,g,i,⟨vl,f,o⟩,h0⟩:=e3;have j8:=o.Av;have j9:=o.Aw;refine Ab<|cg<|vq (Ah JK rfl f.Ap rfl)<|WR.AI (AJ JK rfl rfl ra ra f rfl) ?_;rintro _ p8 ⟨f,l0⟩;refine WR.AI (AJ Js rfl rfl ra ra g.mv rfl) ?_;rintro _ p9 ⟨g,l1⟩;refine Ac ?_;obtain⟨e6,l2⟩:=((e1.mv l0).mv l1).take;refine VR rfl rfl e6 (Jm JK rfl f.mv.Ap rfl) (Jm Js rfl g.mv.Ap rfl) ?_;exact⟨_,hJ.mv.out,_,0, .inl ⟨rfl,pre,hp,b5,o.mv.Ej hJ.mv,fun x hx=>(h0.mv.el x hx).Ej hJ.mv⟩,rfl⟩
 rintro D pre d B ⟨hJ,p,E,e,⟨hp,b5,a6,j2⟩,f,g⟩ e1;skip;obtain⟨e6,l2⟩:=e1.take;refine VR rfl rfl e6 (Jm JK rfl f.mv.Ap rfl) (Jm Js rfl g.mv.Ap rfl) ?_;exact⟨_,hJ.mv.out,_,e, .inr ⟨j2,rfl,p,E,hp,b5,a6⟩,rfl⟩
end Go.Proofs.K
namespace Silo
def CK(n:Nat)(A:Cr):List Bool:=(List.range n).map fun(k:Nat)=>Cf A (k:Int)
theorem Cc(n:Nat)(A:Cr):(CK n A).length=n:=by simp[CK]
theorem Zx(n:Nat)(A:Cr):CK (n+1) A=CK n A++[Cf A (n:Int)]:=by simp[CK,ZZ]
end Silo
namespace Go.Eng
open Go Go.RowKit Silo
section
variable {c0 c:Nat→Nat} {w0 w:World} {J:List Nat}
theorem Dh.dN(h:Dh c0 w0 J c w):AZ c0 w0 J c w:=⟨h.below.os,h.below.tape,h.below.output,h.below.size,h.Bf,fun k hk _=>h.below.block k hk⟩
theorem Dh.out(h:Dh c0 w0 J c w):Mv c0 w0 (back c0 w0 c) w []:=⟨h.below.os,h.below.tape,h.below.output,h.below.size,fun k hk=>by simp[back,hk],fun k hk _=>h.below.block k hk⟩
end
end Go.Eng
namespace Go.Proofs.K
open Go Go.Eng Go.RowKit Silo TryzT
section
variable {c:Nat→Nat} {w:World} {p n m:Nat} {P:Ek}
theorem NO(hp:Ts c w p P):Calls QP 23 #[P1 p] w (AP fun u w'=>Below w.heap.size w w'∧u= .bool (P.failed||P.J.failed)):=by
 obtain⟨pa,pj,vS,vT,vG,f⟩:=hp;have g:=Dh.start c w CT;replace f:=f.Ca (K:=CT);generalize AT c CT=c0 at g f;obtain⟨i,o,j,r⟩:=f;refine enter (n:=14) (res:=#[.tmp 2]) Tryz.func23 Z Z Z Z<|Ab<|cg<|za Z<|Ac<|Ab<|cg<|zm Z<|vq (Ae Z)<|vq (Aa Od Z)<|vq (Ah Jc Z i.Ap Z)<|zm Z ?_;apply WR.Ko c0 false 5 (P.J.failed) BT
 ·intro I l;refine wo<|zm rfl<|wo<|vq (Ae rfl)<|wo<|vq (Aa XJ rfl)<|wo<|vq (Ah Fu rfl i.Ap rfl)<|wo<|ve (Al c0 1 (Ay.call xB rfl (aY j))) ?_;rintro R w1 ⟨c1,t,J,rfl⟩;exact WR.Kq 5 l.mv
 intro w2 c2 C;refine za rfl<|Ac<|Az rfl rfl ?_;exact⟨g.mv.below,rfl⟩
theorem nS(hp:Ts c w p P)(hs:Small P.s)(hl:P.b.stripes.length≤100000):Calls QP 67 #[P1 p] w (AP fun u w'=>Below w.heap.size w w'∧u=I ((P.b.stripes.length*(P.s.k+P.s.m):Nat):Int)):=by
 obtain⟨pa,pj,vS,vT,vG,g⟩:=hp;have o:=Dh.start c w CT;replace g:=g.Ca (K:=CT);generalize AT c CT=c0 at o g;obtain⟨i,r,C,l⟩:=g;obtain⟨a1,a6,a7,a8,b0⟩:=hs;have U:=l.s.now.Av;have t:=l.s;have R:P.b.stripes.length*(P.s.k+P.s.m)≤100000*5:=yQ hl oo;have j:(P.b.stripes.length:Int)*((P.s.k:Int)+(P.s.m:Int))=((P.b.stripes.length*(P.s.k+P.s.m):Nat):Int):=by rw[Acs,Ady]
 refine enter (n:=21) (res:=#[.tmp 2]) Tryz.func67 Z Z Z Z<|Ab<|cg<|za Z<|Ac<|Ab<|AY c0 [] [0,0,0,0,1,0,0,0,0,0,1,0,0,0,0,1,0,0,0] [0,1,2,3,4,5,6,7,8,9,10,11,12,13,14,15,16,17,18] fun w1 J f=>?_;refine AK Z Z<|vd Z (fun _=>Ae Z)<|vd Z (fun _=>Aa Dr Z)<|vd Z (fun _=>Aa CN Z)<|vc Z f.kp (i.mv.kb EC Z Z)<|vd Z (fun _=>BI Cg) ?_;refine AK Z Z<|vd Z (fun _=>Ae Z)<|vd Z (fun _=>Aa Eb Z)<|vd Z (fun _=>Aa Ce Z)<|vc Z f.kp (i.mv.kb Au Z Z)<|AK Z Z<|vd Z (fun _=>Ae Z)<|vd Z (fun _=>Aa Eb Z)<|vd Z (fun _=>Aa Gr Z) ?_;refine vc Z f.kp (i.mv.kb Au Z Z)<|vd Z (fun _=>AH Z Z Ad Ad)<|vd Z (fun _=>FZ (m:=(P.b.stripes.length:Int)) (n:=(P.s.k:Int)+(P.s.m:Int)) Z Z (by rw[j];omega) (by rw[j];omega)) ?_;rw[j];refine Ga Z Z<|WD.nil ?_;clear f;refine Az Z Z ?_;exact⟨o.mv.below,Z⟩
theorem IH(hp:Ts c w p P)(b4:FF n m P.A)(c7:n≤12)(c3:P.n≤64)(hl:P.b.stripes.length≤100000):Calls QP 65 #[P1 p] w (AP fun u w'=>∃c',Mv c w c' w' []∧∃vL vF F,KS c' w' vL vF (CK n P.A) F∧F.length=n∧dL P.n F∧(P.b.stripes=[]→F=List.replicate n (Fg P.n))∧u= .agg #[vL,vF]):=by
 obtain⟨pa,pj,vS,vT,vG,a1⟩:=hp;have f:=Dh.start c w CT;replace a1:=a1.Ca (K:=CT);generalize AT c CT=c0 at f a1;obtain⟨t,J,h0,r⟩:=a1;have h9:=r.s.now.Av;have e1:=r.t.now.Av;have e2:=r.g.now.Av;have c6:=b4.len;refine enter (n:=33) (res:=#[.cell 2 55]) Tryz.func65 Z Z Z Z<|Ab<|cg<|Db c0 102 Fv fun w1 b2 c1 h1 C=>?_;refine Ac<|Ab<|cg<|za Z<|Ac<|Ab<|Ab<|cg<|zm Z<|vq (Ae Z)<|vq (Aa Lu Z)<|vq (Ah KY Z t.mv.Ap Z)<|ve (Al c1 1 (Ay.call Sp Z (HG J.mv))) ?_;rintro j5 w2 ⟨c2,h2,a7,rfl⟩;rw[c6];refine zm Z<|Ac<|Ai<|WC.loop (σ:=Nat×Value) (fun o=>[(0,P1 p),(2,P1 b2),(3,o.2),(9,I n),(10,I o.1)]) (fun o w'=>o.1≤n∧∃c',Dh c w CT c' w'∧Ar c' w' 90 p (DH pa pj vS vT vG P) 109∧By c' w' pa P.A∧dg c' w' [94] vS vT vG P.b∧Ar c' w' 102 b2 [.slice none 0 0, .slice none 0 0] 55∧Ao c' w' 8 4 1 o.2 o.1 ((CK o.1 P.A).map .bool)) (fun o=>n-o.1) (0,_) Aq ⟨Nat.zero_le _,_,f.mv,t.mv,J.mv,r.mv,C.mv,Ao.nil _ _ _ _ _⟩ ?_;clear f t J r C;rintro⟨i,e5⟩ k3 ⟨hi,a6,f,t,J,r,C,g⟩;dsimp only at hi g;have e3:=g.Av;have e4:=g.Aw;refine Ab<|cg<|vq (AE Z Z)<|Ac<|Ab<|AS Z (fun c5=>?_) fun c5=>?_
 ·have h7:i<n:=oo;refine Aj<|Ab<|Ai<|Ab<|cg<|zm Z<|za Z<|Ac<|cg<|zm Z<|zm Z<|vq (Ae Z)<|vq (Aa Lu Z)<|vq (Ah KY Z t.Ap Z)<|zm Z<|ve (Al a6 1 (Ay.call hH Z (Td J))) ?_;rintro j2 j7 ⟨b0,h3,h8,rfl⟩;refine ve (Bb b0 120 FR Z Z Z Z Z) ?_;rintro _ j8 ⟨e6,e7,rfl,h4,a8⟩;refine ve (AN FR Z Z g.mv (Src.An Tryz.underlying52 a8.Ap.An Z AG) EY Fb) ?_;rintro j3 j9 ⟨e8,h5,g⟩;clear a8;have e3:=g.Av;have e4:=g.Aw;refine za Z<|Ac<|cg<|vq (AH Z Z Ad Ad)<|zm Z<|Ac ?_;exact⟨(i+1,_),Aq,⟨by dsimp only;omega,_,f.mv,t.mv,J.mv,r.mv,C.mv,by dsimp only;rw[Zx,List.map_append];exact g⟩,by show n-(i+1)<n-i;omega⟩
 have e:i=n:=oo;subst e;have c8:Bi En _ _ [8] e5 (CK i P.A):=Pp (by rw[Cc];exact g) (by rw[Cc];omega);refine WC.exit Z<|Ab<|AY a6 [] [0,0,0,1,0,0,0,0,1,2,3] [0,1,2,3,4,5,6,7,8,9,10] fun k0 h6 R=>?_;refine AK Z Z<|vd Z (fun _=>Ae Z)<|vd Z (fun _=>Aa Dr Z)<|vc Z R.kp (fun W c4=>Cy EB Z (t.mv.kp c4 Z).Ap (yV Z))<|AK Z Z<|AK Z Z<|vd Z (fun _=>Ae Z)<|vd Z (fun _=>Aa hz Z)<|vc Z R.kp (t.mv.kb Au Z Z) ?_;refine WD.AW Z Z Z (Ay.call te Z (kz (c:=a6) (vT:=vT) (vG:=vG) (b:=P.b) (live:=CK i P.A) (n:=P.n) r.mv.s.now e1 e2 c8.mv.now (by rw[Cc];exact c7) c3)) Z ?_;rintro j4 k1 ⟨e9,b8,⟨vL,vF,F,U,b6,b7,b5,rfl⟩⟩;refine R.AX b8 fun R=>?_;have j0:=U.kh.Av;obtain⟨j6,e0,_⟩:=id U.row;have j1:=e0.Av;refine WD.wild Z Z Z (Am Cz Z Z C.mv Z Z AG) ?_;rintro _ k2 ⟨C,b9⟩;refine WD.nil ?_;clear R;refine Fz Z (Br Cz Z C.Ap Z)<|⟨_,f.mv.out,vL,vF,F,?_,by rw[b6,Cc],b7,fun e=>by rw[b5 e,Cc],Z⟩;obtain⟨vs,c9,a7⟩:=(U.mv b9).row;exact⟨U.mv.kh.Ej f.mv.dN,vs,c9.Ej f.mv.dN,⟨a7.len,fun j v l b1 b3=>(a7.row j v l b1 b3).Ej f.mv.dN⟩⟩
end
theorem nT{pa n m N:Nat}{A:Cr}{s:Cn}(f:By c w pa A)(hs:Small s)(hp:FF n m A)(c4:s.k+s.m≤n∧n≤7)(b9:1≤N∧N≤12)(e6:1024+N*Bn s.size≤m∧m≤2048):
 Calls QP 69 #[P1 pa, .agg (DO s).toArray,I N] w (AP fun u w'=>Below w.heap.size w w'∧u=I 0):=by
 have t:=Dh.start c w Bt;replace f:=f.NF (K:=Bt);generalize AT c Bt=c0 at t f;have a1:=hp.len;have c5:=hp.sec;obtain⟨h6,h7,h8,h9,j0⟩:=id hs;have c7:n*N≤7*12:=yQ c4.2 b9.2;have j:(n:Int)*(N:Int)=((n*N:Nat):Int):=by rw[Acs]
 have r:((n*N:Nat):Int)/((s.k:Int)+(s.m:Int))=((n*N/(s.k+s.m):Nat):Int):=by rw[Int.natCast_ediv,Ady]
 have b2:n*N/(s.k+s.m)≤n*N:=Adb _ _;obtain⟨Q,c3⟩:∃Q,Q=n*N/(s.k+s.m):=⟨_,Z⟩;rw[←c3] at r b2;obtain⟨z,h5,l⟩:∃z:Nat,z≤7140∧(Q:Int)*(45+8*((s.k:Int)+(s.m:Int)))=(z:Int):=⟨Q*(45+8*(s.k+s.m)),zz (yQ (by omega:Q≤84) (by omega:45+8*(s.k+s.m)≤85)) oo,by rw[Acs,Ady,Acs,Ady];rfl⟩;have o:(N:Int)*((Bn s.size:Nat):Int)=((N*Bn s.size:Nat):Int):=by rw[Acs]
 refine enter (n:=55) (res:=#[.tmp 6]) Tryz.func69 Z Z Z Z<|Ab<|cg<|Dz c0 104 fun w1 b4 c1 c8 i=>?_;refine za Z<|Ac<|Ab<|Ab<|cg<|zm Z<|vq (yu Ad5 Z)<|zm Z ?_;apply WR.Ko c1 false 3 false BT
 ·intro e9 b6;refine wo<|vq (AD Cq rfl i.Ap rfl)<|wo<|ve (Al c1 1 (Ay.call QG rfl (JG hs.ok))) ?_;rintro j1 w2 ⟨c2,c9,h1,rfl⟩;refine wo<|vq (Bq rfl) ?_;exact WR.Kq 3 b6.mv
 intro j6 a6 e0;refine zm rfl ?_;apply WR.Ko a6 false 2 (decide ((N:Int)<1)) BT
 ·intro e7 b3;refine wo<|zm rfl<|wo<|vq (AE rfl rfl) ?_;exact WR.Kq 2 b3
 intro j7 a7 e1;refine zm rfl ?_;apply WR.Ko a7 false 2 (decide (64<(N:Int))) BT
 ·intro e8 b5;refine wo<|zm rfl<|wo<|vq (BZ rfl rfl) ?_;exact WR.Kq 2 b5
 intro j8 a8 e2;refine Ac<|CD rfl (fun C=>?_) fun C=>?_
 ·exfalso;simp at C;omega
 refine Aj<|Ab<|cg<|vq (Aa Ce Z)<|vq (Ah Au Z i.mv.Ap Z)<|vq (Aa Gr Z)<|vq (Ah Au Z i.mv.Ap Z)<|vq (AH Z Z Ad Ad)<|za Z ?_;refine Ac<|Ab<|Ai<|Ab<|cg<|zm Z<|ve (Al a8 1 (Ay.call Sp Z (HG f.mv))) ?_;rintro v30 j9 ⟨b0,e3,h2,rfl⟩;rw[a1];refine zm Z<|vq (FZ (m:=(n:Int)) (n:=(N:Int)) Z Z (by rw[j];omega) (by rw[j];omega)) ?_;rw[j];refine zm Z<|vq (Rk Z Z oo oo oo) ?_;rw[r];refine zm Z<|vq (FZ Z Z Ad Ad)<|vq (AH Z Z Ad Ad)<|vq (FZ Z Z (by rw[l];omega) (by rw[l];omega)) ?_;rw[l];refine vq (BZ Z Z)<|za Z<|Ac<|CD Z (fun J=>?_) fun J=>?_
 ·simp only[JV] at J;omega
 refine Ab<|cg<|zm Z<|ve (Al b0 1 (Ay.call Sp Z (HG f.mv))) ?_;rintro j2 k0 ⟨p,e4,h3,rfl⟩;rw[a1];refine zm Z<|vq (AE Z Z)<|za Z<|Ac<|CD Z (fun R=>?_) fun R=>?_
 ·simp only[JV] at R;omega
 refine Ab<|AY p [] [0,2,0,0,1,2,0,0,0,0] [0,2,3,4,1,5,6,7,8,9] fun k1 e5 g=>?_;refine AK Z Z<|AK Z Z<|vd Z (fun _=>Aa DL Z)<|vc Z g.kp (i.mv.kb Au Z Z)<|WD.AW Z Z Z (Al p 1 (Ay.call oQ Z (QX f.mv))) Z ?_;rintro j3 k2 ⟨b1,b8,h4,rfl⟩;refine g.AX b8 fun g=>?_;rw[c5];refine WD.AW Z Z Z (Al b1 1 (Ay.call XN Z (Mb oo))) Z ?_;rintro j4 j5 ⟨c6,b7,h0,rfl⟩;refine g.AX b7 fun g=>?_;refine vd Z (fun _=>FZ (m:=(N:Int)) (n:=(Bn s.size:Nat)) Z Z (by rw[o];omega) (by rw[o];omega)) ?_;rw[o];refine vd Z (fun _=>AH Z Z Ad Ad)<|vd Z (fun _=>AE Z Z)<|Ga Z Z ?_;refine WD.nil ?_;clear g;refine CD Z (fun U=>?_) fun U=>?_
 ·simp only[JV] at U;omega
 refine Aj<|Ab<|cg<|za Z<|Ac<|Az Z Z ?_;exact⟨t.mv.below,Z⟩
end Go.Proofs.K
namespace Silo
open Go.Eng
structure HK (n m N:Nat) (A B:Cr):Prop where
 pw:FF n m B
 Lj:B.changes≤A.changes+N
 live:∀k,Cf B k=Cf A k
section
variable {n m N M:Nat} {A B C:Cr} {d f:Int} {L:List Tx}
theorem HK.refl(h:FF n m A):HK n m 0 A A:=⟨h,lx _,fun _=>rfl⟩
theorem HK.tr(h:HK n m N A B)(g:HK n m M B C):HK n m (N+M) A C:=⟨g.pw,by have:=h.Lj;have:=g.Lj;omega,fun k=>(g.live k).trans (h.live k)⟩
theorem HK.more(h:HK n m N A B)(f:N≤M):HK n m M A B:=⟨h.pw,by have:=h.Lj;omega,h.live⟩
theorem Hj.zj(h:Hj n m N A B):HK n m N A B:=⟨h.pw,h.Lj,h.live⟩
def bo(A:Cr)(d f:Int)(L:List Tx)(k:Nat):Prop:=∀(j:Nat) (t:Tx),j<k→L[j]?=some t→Cb A d (f+(j:Nat))=(t,0)
theorem Zy:∀k,k≤L.length→bo A d f L k→DN A d f k=some (L.take k)
 |0,_,_=>rfl
 |k+1,hk,h=>by
  have h1:=Zy k oo (fun j t i hl=>h j t oo hl);have g:=h k L[k] oo (aa _);rw[Rf h1 (by rw[g]),g,yG]
end
structure bp (n m:Nat) (s:Cn) (x:CZ) (i:Nat) (t:Tx) (A B:Cr) (e:Int):Prop where
 lay:HK n m (Ee s) A B
 rQ:∀q,x.place[i]?=some q→Cf A q.1=true→1024+(q.2+1)*(Ee s:Nat)≤m→e=0
 rd:∀q,x.place[i]?=some q→e=0→DN B q.1 (1024+q.2*(Ee s:Nat)) (Ee s)=some (Ge ⟨x.id,i,x.gen,t⟩)
 oth:∀q,x.place[i]?=some q→∀d' s',d'≠q.1→Cb B d' s'=Cb A d' s'
end Silo
namespace Go.Proofs.K
open Go Go.Eng Go.RowKit Silo TryzT
theorem nU{p pa pj n m i:Nat}{vS vT vG u:Value}{P:Ek}{A:Cr}{x:CZ}{t:Tx}{K:List Nat}(U:Ar c w 90 p (DH pa pj vS vT vG P) 109)(l:By c w pa A)(hs:Small P.s)(j3:0<n∧n≤12)(k7:0<m∧m≤2048)(hp:FF n m A)(hc:A.changes≤1000000000)
 (hu:Bi Bg c w K u x.place)(h5:Bd K Bt=true)(hi:i<x.place.length)(j4:∀q∈x.place,(-1≤q.1∧q.1<12)∧0≤q.2∧q.2<64)(j2:Li ⟨x.id,i,x.gen,t⟩=true)(ht:t.length=P.s.size):
 Calls QP 179 #[P1 p, .agg #[I x.id,I x.len,I x.gen,u],I i,St t] w (AP fun v w'=>∃c',Mv c w c' w' Bt∧∃a7 e,By c' w' pa a7∧bp n m P.s x i t A a7 e∧v=I e):=by
 have hJ:=AZ.start c w Bt;replace U:=U.Kc (J:=Bt) Z;replace l:=l.NF (K:=Bt);replace hu:=hu.Ca h5;generalize AT c Bt=c0 at hJ U l hu;have k8:=hu.now.Av;have k9:=hu.now.small;obtain⟨g,b0⟩:∃g,g=Ee P.s:=⟨_,Z⟩;have k1:g≤3:=by rw[b0,Ee,Bn];have:=hs.2.2.2.2;omega
 obtain⟨q,c3⟩:∃q,q=x.place[i]:=⟨_,Z⟩;have b3:x.place[i]?=some q:=by rw[aa hi,c3]
 have j5:=j4 q (by rw[c3];exact oy hi);obtain⟨z,r⟩:∃z:Nat,q.2*(g:Int)=(z:Nat):=⟨(q.2*(g:Int)).toNat,by have:=Ae7 j5.2.1 (Afo g);omega⟩;have l0:z≤189:=by
  have R:q.2*(g:Int)≤63*3:=Int.mul_le_mul oo oo oo oo;omega
 have e3:=(BP hu hi dd).1;rw[←c3] at e3;obtain⟨L,b8⟩:∃L,L=Ge ⟨x.id,i,x.gen,t⟩:=⟨_,Z⟩;have c9:L.length=g∧∀y∈L,y.length=64:=by
  have R:=KI ⟨x.id,i,x.gen,t⟩;rw[←b8] at R;refine⟨R.1.trans ?_,R.2⟩;show Bn t.length=g
  rw[ht,b0];rfl
 refine enter (n:=54) (res:=#[.tmp 8]) Tryz.func179 Z Z Z Z<|Ab<|cg<|Dz c0 105 fun w1 b5 c1 k2 b2=>?_;refine za Z<|Ac<|Ab<|cg<|vq (Aa Ck Z)<|vq (Ah BV Z b2.Ap Z)<|zm Z<|vq (AF CQ hu.mv.now Z Z Z oo oo)<|vq (Dg DK Z e3.mv.CY Z) ?_;refine Db c1 109 Mo fun w2 c5 c2 k3 a6=>WR.AI (Am DK Z Z a6 Z Z AG) ?_;rintro _ l4 ⟨a6,k4⟩;refine Ac<|Ab<|Ab<|cg<|vq (Aa Es Z)<|vq (Ah Au Z b2.mv.Ap Z)<|zm Z<|vq (Aa Oe Z)<|vq (Ah Au Z b2.mv.Ap Z)<|zm Z<|vq (AB (cells:=#[I x.id,I i,I x.gen,St t]) Z kr) ?_;refine ve (Al c2 8 (Ay.call pc Z (Vk (s:=⟨x.id,i,x.gen,t⟩) j2))) ?_;rintro c4 l5 ⟨j9,k5,j6,o⟩;replace o:=o.Cl j6;rw[←b8] at o;have l1:=o.Aw;have l2:=o.Av;refine vq (BI BE) ?_;refine zm Z<|Ac<|Ai<|WC.loop (σ:=Nat) (fun k=>[(0,P1 p),(9,P1 c5),(25,c4),(26,I L.length),(27,I k)]) (fun k w'=>k≤L.length∧∃c' a7,AZ c w Bt c' w'∧Ar c' w' 0 p (DH pa pj vS vT vG P) 109∧Ar c' w' 109 c5 [I q.1,I q.2] 226∧Ao c' w' 8 9 1 c4 L.length (L.map St)∧By c' w' pa a7∧HK n m k A a7∧bo a7 q.1 (1024+q.2*(g:Int)) L k∧∀C b1,C≠q.1→Cb a7 C b1=Cb A C b1) (fun k=>L.length-k) 0 Aq ⟨yU _,_,_,hJ.mv,U.mv,a6.mv,o,l.mv,HK.refl hp,fun j t j1=>by omega,fun _ _ _=>rfl⟩ ?_;clear hJ U b2 a6 o l hu;rintro k l8 ⟨hk,h0,A1,hJ,U,a6,o,l,a1,e8,e6⟩;refine Ab<|cg<|vq (AE Z Z)<|Ac<|Ab<|AS Z (fun h8=>?_) fun h8=>?_
 ·have b9:k<L.length:=oo;have e1:=c9.2 _ (oy b9);have e4:DF _ _ [8] (Bh c4 1 k) [St L[k]]:=o.nO (by rw[yY,aa b9];rfl);have h7:=a1.pw.wf j3 oo (by have:=a1.Lj;omega);obtain⟨T,e0⟩:∃T,T=L[k]:=⟨_,Z⟩;rw[←e0] at e1 e4;have e2:=a1.pw.write (d:=q.1) (s:=1024+q.2*(g:Int)+k) e1;refine Aj<|Ab<|Ai<|Ab<|cg<|zm Z<|vq (Bj BE o Z Z oo oo)<|vq (Bl BK Z e4.CY)<|za Z ?_;refine za Z<|Ac<|Ab<|AY h0 Bt [0,0,0,1,0,1,0,1,0,0,0,1,0,0,0,0,0,2,0] [0,1,2,3,4,5,6,7,8,9,10,11,12,13,14,15,16,17,18] fun l6 k6 a8=>?_;refine AK Z Z<|vd Z (fun _=>Ae Z)<|vd Z (fun _=>Aa Lu Z)<|vc Z a8.kp (U.mv.kb KY Z Z)<|vd Z (fun _=>Aa CE Z)<|vc Z a8.kp (a6.mv.kb Au Z Z)<|vd Z (fun _=>Aa HV Z)<|vc Z a8.kp (a6.mv.kb Au Z Z)<|AK Z Z<|vd Z (fun _=>Ae Z)<|vd Z (fun _=>Aa Sk Z)<|vc Z a8.kp (U.mv.kb Au Z Z) ?_;rw[←b0,r];refine vd Z (fun _=>FZ (m:=q.2) (n:=(g:Int)) Z Z (by rw[r];omega) (by rw[r];omega))<|vd Z (fun _=>AH Z Z (by rw[r];omega) (by rw[r];omega))<|AK Z Z<|vd Z (fun _=>AH Z Z (by rw[r];omega) (by rw[r];omega))<|AK Z Z ?_;refine WD.AW Z Z Z (Ay.call px Z (UX (d:=q.1) (s:=1024+q.2*(g:Int)+k) (t:=T) l.mv h7)) Z ?_;rintro l3 l7 ⟨k0,h6,⟨l,rfl⟩⟩;refine a8.AX h6 fun a8=>Ga Z Z<|WD.nil ?_;clear a8;refine Ab ?_;obtain⟨A2,c7⟩:∃A2,A2=(Du A1 q.1 (1024+q.2*(g:Int)+k) T).1:=⟨_,Z⟩;obtain⟨e,e5⟩:∃e,e=(Du A1 q.1 (1024+q.2*(g:Int)+k) T).2:=⟨_,Z⟩;rw[←c7] at l;rw[←e5];rw[←c7,←e5] at e2;obtain⟨h2,g2,h3,h4,c6⟩:=e2;have c8:HK n m (k+1) A A2:=⟨h2,by have:=a1.Lj;omega,fun k↦(h3 k).trans (a1.live k)⟩;have e7:∀C b1,C≠q.1→Cb A2 C b1=Cb A C b1:=fun C b1 h↦by rw[c6,yK (by rintro⟨_,b6,_⟩;exact h b6)];exact e6 C b1 h
  refine cg<|zm Z<|vq (Bm Z Z)<|Ac<|AS Z (fun h9=>?_) fun h9=>?_
  ·refine Ab<|cg<|zm Z<|za Z<|Ac<|Az Z Z ?_;refine⟨_,hJ.mv.out,A2,e,By.MP l hJ.mv,⟨c8.more (by rw[←b0];omega),fun b4 f R b6↦?_,fun b4 _ R↦absurd R oo,fun b4 f↦?_⟩,Z⟩
   ·rw[b3] at f;injection f with f;subst f;rw[←a1.live] at R;rw[←b0,Int.add_mul,Int.one_mul,r] at b6;obtain⟨j7,j8⟩:=dh (s:=1024+q.2*(g:Int)+k) a1.pw R (by rw[r];omega) (by rw[r];omega);rw[h4,yP j7,yP j8]
   rw[b3] at f;injection f with f;subst f;exact e7
  have j0:e=0:=oo;have e9:bo A2 q.1 (1024+q.2*(g:Int)) L (k+1):=fun j y j1 hy↦by
   rw[c6];rcases yT j k with h|h
   ·rw[yK (by rintro⟨_,_,b7⟩;omega)];exact e8 j y h hy
   have:j=k:=oo;subst this;rw[yP ⟨j0,Z,Z⟩,e0];rw[aa b9] at hy;injection hy with hy;rw[hy]
  refine Aj<|cg<|vq (AH Z Z Ad Ad)<|zm Z<|Ac ?_;rw[r] at e9;exact⟨k+1,Aq,⟨by omega,_,_,hJ.mv,U.mv,a6.mv,o.mv,l,c8,e9,e7⟩,by omega⟩
 have h1:k=L.length:=oo;subst h1;refine WC.exit Z<|Ab<|cg<|za Z<|Ac<|Az Z Z ?_;refine⟨_,hJ.out,A1,0,By.MP l hJ,⟨a1.more (by rw[←b0];omega),fun _ _ _ _↦rfl,fun b4 f _↦?_,fun b4 f↦?_⟩,Z⟩
 ·rw[b3] at f;injection f with f;subst f;have b7:=Zy _ (lx _) e8;rw[Ui,c9.1] at b7;rw[←b0,b7,b8]
 rw[b3] at f;injection f with f;subst f;exact e6
end Go.Proofs.K
namespace Silo
theorem Xe{f:List Int}{x:Int}(h:x∈Go.Lib.compact f):x∈f:=by
 obtain⟨i,hi,rfl⟩:=zc.1 h;have g:i<f.length:=Aac.1 (List.mem_filter.1 hi).1;simp[getElem!_pos,g]
def Md(y:Fx)(i:Nat):List (Fx×Nat):=(List.range i).map fun k=>(y,k)
def FO(Y:List Fx):List (Fx×Nat):=Y.flatMap fun y=>Md y y.1.place.length
theorem VA(y:Fx)(i:Nat):Md y (i+1)=Md y i++[(y,i)]:=by simp[Md,ZZ]
theorem kA(y:Fx){i n:Nat}(h:i≤n):Md y i<+:Md y n:=
 List.IsPrefix.map _ ⟨(List.range (n-i)).map (·+i),by
  have e:n=i+(n-i):=oo
  conv=>rhs;rw[e,Agk]
  simp[Ab9]⟩
theorem VB{Y:List Fx}{k:Nat}(hk:k<Y.length):FO (Y.take (k+1))=FO (Y.take k)++Md Y[k] Y[k].1.place.length:=by
 rw[FO,yG hk,zP];simp[FO]
theorem fX{Y:List Fx}(k:Nat):FO (Y.take k)<+:FO Y:=⟨FO (Y.drop k),by rw[FO,FO,←zP,zM];rfl⟩
theorem kB{Y:List Fx}{k i:Nat}(hk:k<Y.length)(hi:i<Y[k].1.place.length):(FO (Y.take k)++Md Y[k] i)++[(Y[k],i)]<+:FO Y:=by
 rw[zE,←VA];refine List.IsPrefix.trans ?_ (fX (k+1));rw[VB hk];exact(List.prefix_append_right_inj _).2 (kA _ hi)
end Silo
namespace Go.Proofs.K
open Go Go.Eng Go.RowKit Go.Sort Silo TryzT
theorem bq{base:Nat}{v:Value}{f:List Int}(h:BJ w base 3 1 v f.length (f.map I))(g:f.length<4611686018427387904):
 Calls QP 271 #[v] w (AP fun _ w'=>w.grownBy w' v.rowOf∧BJ w' base 3 1 v f.length ((f.mergeSort fun x y=>decide (x≤y)).map I)):=Yz h g
theorem Zz{base:Nat}{v:Value}{f:List Int}(h:BJ w base 3 1 v f.length (f.map I))(i:f.length<4611686018427387904):
 Calls QP 272 #[v] w (AP fun g w'=>w.grownBy w' v.rowOf∧g.rowOf=v.rowOf∧BJ w' base 3 1 g (Lib.compact f).length ((Lib.compact f).map I)):=Zv h i
theorem fY{p pa pj n m:Nat}{vS vT vG v:Value}{P:Ek}{A:Cr}{l:List Int}(i:Ar c w 90 p (DH pa pj vS vT vG P) 109)(g:By c w pa A)(e2:0<n∧n≤12)(e8:0<m∧m≤2048)(hp:FF n m A)(hc:A.changes≤1000000000)
 (f:Ao c w 97 3 1 v l.length (l.map I))(hl:l.length≤100000):
 Calls QP 180 #[P1 p,v] w (AP fun u w'=>∃c',Mv c w c' w' (97::Bt)∧∃j e,By c' w' pa j∧HK n m l.length A j∧(∀d s,Cb j d s=Cb A d s)∧((∀d∈l,Cf A d=true)→e=0)∧u=I e):=by
 have hJ:=AZ.start c w (97::Bt);replace i:=i.Kc (J:=97::Bt) Z;replace g:=g.NF (K:=97::Bt);replace f:=f.Ca (J:=97::Bt) Z;generalize AT c (97::Bt)=c0 at hJ i g f;refine enter (n:=27) (res:=#[.tmp 4]) Tryz.func180 Z Z Z Z<|Ab<|cg<|za Z<|Ac<|Ab<|cg<|zm Z<|ve (Pg f (Ay.call uz Z (bq f.own oo))) ?_;rintro h2 w1 ⟨c1,c4,C,hs⟩;have f:Ao _ _ 97 3 1 v l.length ((l.mergeSort fun x y=>decide (x≤y)).map I):=⟨hs,C⟩;obtain⟨r,U⟩:∃r,r=l.mergeSort fun x y=>decide (x≤y):=⟨_,Z⟩;have e3:l.length=r.length:=by rw[U,List.length_mergeSort]
 have e4:∀d∈r,d∈l:=fun d hd=>by rw[U] at hd;exact List.mem_mergeSort.1 hd
 rw[←U] at f;replace f:=f.lD e3;clear hs C U;refine Ac<|Ab<|Ab<|cg<|zm Z<|ve (Pg f (Ay.call uA Z (Zz f.own oo))) ?_;rintro v11 w2 ⟨c2,c5,C,b6,hs⟩;obtain⟨cs,a6⟩:∃cs,cs=Lib.compact r:=⟨_,Z⟩;have c9:=Lib.compact_length_le r;have e0:∀d∈cs,d∈l:=fun d hd=>e4 d (Xe (by rw[←a6];exact hd));rw[←a6] at hs c9;replace i:=(i.mv c4).mv c5;have f:Ao _ _ 97 3 1 v11 cs.length (cs.map I):=⟨hs.Dl (yU _),fun b i=>C b (b6▸i)⟩;clear hs C b6 a6;have e9:=f.Av;have h0:=f.Aw;refine vq (NX Bu f Z)<|zm Z<|Ac<|Ai<|WC.loop (σ:=Nat) (fun k=>[(0,P1 p),(11,v11),(12,I cs.length),(13,I k)]) (fun k w'=>k≤cs.length∧∃c' j,AZ c w (97::Bt) c' w'∧Ar c' w' 0 p (DH pa pj vS vT vG P) 109∧Ao c' w' 97 3 1 v11 cs.length (cs.map I)∧By c' w' pa j∧HK n m k A j∧(∀d s,Cb j d s=Cb A d s)) (fun k=>cs.length-k) 0 Aq ⟨yU _,_,_,hJ.mv,i,f,g.mv,HK.refl hp,fun _ _=>rfl⟩ ?_;clear hJ i f g;rintro k h4 ⟨hk,e6,A1,hJ,i,f,g,o,b4⟩;refine Ab<|cg<|vq (AE Z Z)<|Ac<|Ab<|AS Z (fun c7=>?_) fun c7=>?_
 ·have b3:k<cs.length:=oo;have b1:=f.Za b3;have c6:=o.pw.wf e2 oo (by have:=o.Lj;omega);obtain⟨d,hd⟩:∃d,d=cs[k]:=⟨_,Z⟩;have e1:d∈l:=e0 d (by rw[hd];exact oy b3);rw[←hd] at b1;have b0:=o.pw.flush (d:=d);refine Aj<|Ab<|Ai<|Ab<|cg<|vq (Bj Bu f Z Z oo oo)<|vq (Bl Au Z b1.CY)<|za Z<|Ac ?_;refine Ab<|cg<|zm Z<|vq (Ae Z)<|vq (Aa Lu Z)<|vq (Ah KY Z i.Ap Z)<|zm Z<|ve (Ay.call py Z (Vj (d:=d) g c6)) ?_;rintro h1 h3 ⟨e5,e7,⟨g,rfl⟩⟩;refine za Z<|Ac<|Ab ?_;obtain⟨A2,a7⟩:∃A2,A2=(Ed A1 d).1:=⟨_,Z⟩;obtain⟨e,b2⟩:∃e,e=(Ed A1 d).2:=⟨_,Z⟩;rw[←a7] at g;rw[←b2];rw[←a7,←b2] at b0;obtain⟨b7,g2,b8,b9,c3⟩:=b0;have a8:HK n m (k+1) A A2:=⟨b7,by have:=o.Lj;omega,fun k↦(b8 k).trans (o.live k)⟩;have b5:∀t R,Cb A2 t R=Cb A t R:=fun t R↦(c3 t R).trans (b4 t R);refine cg<|zm Z<|vq (Bm Z Z)<|Ac<|AS Z (fun c8=>?_) fun c8=>?_
  ·refine Ab<|cg<|zm Z<|za Z<|Ac<|Az Z Z<|⟨_,hJ.mv.out,A2,e,By.MP g hJ.mv,a8.more oo,b5,fun h↦?_,Z⟩;have a1:=h d e1;rw[←o.live,Cf,kg] at a1;rw[b9,yP a1.1,yP a1.2]
  refine Aj<|cg<|vq (AH Z Z Ad Ad)<|zm Z<|Ac ?_;exact⟨k+1,Aq,⟨by omega,_,_,hJ.mv,i.mv,f.mv,g,a8,b5⟩,by omega⟩
 refine WC.exit Z<|Ab<|cg<|za Z<|Ac<|Az Z Z ?_;exact⟨_,hJ.out,A1,0,By.MP g hJ,o.more oo,b4,fun _↦rfl,Z⟩
end Go.Proofs.K
namespace Go.Proofs.K
open Go Go.Eng Go.RowKit Silo TryzT
theorem ZA{A:Option Addr}{n cp:Nat}:Calls QP 100 #[.slice A n cp] w (AP fun u w'=>Below w.heap.size w w'∧∃b1,u= .func (.func 181) #[] #[P1 b1]∧w.heap.size≤b1∧FG w' b1 [.slice A n cp] 102):=by
 obtain⟨c,f,hc⟩:=AQ.start w;clear hc;refine enter (n:=4) (res:=#[.tmp 2]) Tryz.func100 Z Z Z Z<|Ab<|cg<|MJ c 101 fun w1 b1 c1 i g=>?_;refine za Z<|Ac<|Ab<|cg<|vq (CI Z)<|za Z<|Ac<|Az Z Z ?_;replace f:=f.mv i;have j:w.heap.size≤b1:=by
  rcases yT b1 w.heap.size with h|h
  ·have:=f.Bf _ h;rw[g.Bf] at this;cases this
  exact h
 exact⟨f.below,_,Z,j,g.Ap⟩
structure ZB (d:Nat→Nat) (B:World) (b1:Nat) (v:Value) (Y:List Fx):Prop where
 b:Ar d B 76 b1 [v] 102
 r:Bi ES d B [0,94] v (Y.map (·.1))
 c:Rb BQ d B [0,94] v 4 Y
 p:∀y∈Y,Bi Bg d B [0,94] y.2.v y.1.place
theorem ZB.mv{d f:Nat→Nat}{B B':World}{b1:Nat}{v:Value}{Y:List Fx}{K:List Nat}(h:ZB d B b1 v Y)(m:Mv d B f B' K:=by exact Go.Eng.Jb)(hi:Bd [76,0,94] K=true:=by rfl):ZB f B' b1 v Y:=
 ⟨h.b.mv m (Bo hi ss),h.r.mv m (BC hi ss),h.c.mv m (BC hi ss),fun y hy=>(h.p y hy).mv m (BC hi ss)⟩
def st(q:Fx×Nat):List Value:=[.agg (BQ q.1).toArray,I q.2]
theorem VC{w0:World}{c0:Nat→Nat}{b1:Nat}{v:Value}{Y:List Fx}(f:ZB c0 w0 b1 v Y)(hl:Y.length≤100000)(e3:∀y∈Y,y.1.place.length≤100000):
 JW QP 181 [P1 b1] st [128] [76,0,94] (FO Y) c0 w0:=by
 intro l J e7 c1 W K a6 t U h0 hy c4;have c7:∀i∈[76,0,94],AA K i=false:=fun i hi=>Bo t (by simp only[zN,Abz,Aeo] at hi;simp[hi]);replace f:=f.mv a6 (BC t ss);have hJ:JC (J []) [128] c1 W:=⟨c4,fun _ _ _ _ h m=>U _ _ _ _ _ h m⟩;have h1:=f.r.now.Av;have e5:=f.r.now.small;rw[yF] at e5;clear a6 c7 t;show Calls _ _ [_,_].toArray _ _
 obtain⟨j,o,rfl,_⟩:=f.r.now.form;rw[yF] at*;obtain⟨v,hv⟩:∃v,v=Value.slice j Y.length o:=⟨_,Z⟩;have h2:v.oneCell'=true:=by rw[hv];rfl
 obtain⟨a8,R,e1,hp⟩:=id f;refine enter (n:=25) (res:=#[]) Tryz.func181 Z Z Z Z<|WC.scope<|Ab<|WC.label<|Ab<|cg<|vq (Ah EC Z a8.Ap Z)<|vq (BI Cg) ?_;refine zm Z<|Ac<|Ai<|WC.loop (σ:=Nat) (fun k=>[(0, .func (.yield l) #[] #[]),(1,P1 b1),(6, .slice j Y.length o),(7,I Y.length),(8,I k)]) (fun k w'=>k≤Y.length∧∃c',ZB c' w' b1 (.slice j Y.length o) Y∧JC (J (FO (Y.take k))) [128] c' w') (fun k=>Y.length-k) 0 Aq ⟨yU _,_,f,hJ⟩ ?_;clear hJ f a8 R e1 hp;rintro k h4 ⟨hk,b9,f,hJ⟩;refine Ab<|cg<|vq (AE Z Z)<|Ac<|Ab<|AS Z (fun c9=>?_) fun c9=>?_
 ·have p:k<Y.length:=oo;have R:=f.r;have b0:=f.c.el k p;have b2:=f.p _ (oy p);have e4:=e3 _ (oy p);obtain⟨y,r⟩:∃y,y=Y[k]:=⟨_,Z⟩;rw[←r] at b0 b2 e4;have h3:=y.2.one;refine Aj<|Ab<|Ai<|Ab<|cg<|vq (AF Cg R.now Z Z Z oo (by rw[yF];omega))<|vq (Dg BB Z b0.CY Z) ?_;refine Db b9 128 GZ fun w1 b4 c1 c5 g=>WR.AI (Am BB Z Z g Z Z AG) ?_;rintro _ w2 ⟨g,c6⟩;refine Ac<|Ab<|cg<|vq (Aa Ck Z)<|vq (Ah BV Z g.Ap Z)<|vq (BI CQ) ?_;refine zm Z<|Ac<|Ai<|WC.loop (σ:=Nat) (fun i=>[(0, .func (.yield l) #[] #[]),(1,P1 b1),(6, .slice j Y.length o),(7,I Y.length),(8,I k),(4,P1 b4),(14,I y.1.place.length),(15,I i)]) (fun i w'=>i≤y.1.place.length∧∃c',ZB c' w' b1 (.slice j Y.length o) Y∧Ar c' w' 128 b4 (BQ y) 144∧JC (J (FO (Y.take k)++Md y i)) [128] c' w') (fun i=>y.1.place.length-i) 0 Aq ⟨yU _,_,f.mv,g,by simpa[Md] using((hJ.mv c5).mv c6)⟩ ?_;clear hJ f g b2;rintro i h5 ⟨hi,e9,f,g,hJ⟩;refine Ab<|cg<|vq (AE Z Z)<|Ac<|Ab<|AS Z (fun e0=>?_) fun e0=>?_
  ·have e2:i<y.1.place.length:=oo;refine Aj<|Ab<|Ai<|Ab<|cg<|zm Z<|za Z<|Ac<|Ab<|cg<|zm Z<|vq (AD BB Z g.Ap Z)<|zm Z ?_;have b3:=kB p (i:=i) (by rw[←r];exact e2);rw[←r] at b3;obtain⟨e8,a1,b5⟩:=hy _ _ _ _ hJ.now b3;refine ve (Nk Z Z b5) ?_;rintro _ e6 ⟨b,b8,rfl,a7,b7,b6⟩;replace f:=f.mv a7 (BC a1 ss);replace g:=g.mv a7 (Bo a1 ss);clear hJ b5;refine vq (Bq Z)<|Ac<|AS Z (fun C=>?_) fun C=>?_
   ·refine WC.exit Z<|⟨_,_,Z,Z,?_⟩;exact⟨Z,_, .inr ⟨_,b6 (by simpa using C)⟩⟩
   have hJ:JC (J (FO (Y.take k)++Md y (i+1))) [128] b8 e6:=⟨by rw[VA,←zE];exact b7 (by simpa using C),fun _ _ _ _ h m=>U _ _ _ _ _ h m⟩;clear b7 b6;refine Aj<|cg<|vq (AH Z Z Ad Ad)<|zm Z<|Ac ?_;exact⟨i+1,Aq,⟨by omega,_,f,g,hJ⟩,by omega⟩
  have c2:i=y.1.place.length:=oo;subst c2;have c8:FO (Y.take k)++Md y y.1.place.length=FO (Y.take (k+1)):=by rw[VB p,r]
  rw[c8] at hJ;refine WC.exit Z<|cg<|vq (AH Z Z Ad Ad)<|zm Z<|Ac ?_;exact⟨k+1,Aq,⟨by omega,_,f,hJ⟩,by omega⟩
 have c3:k=Y.length:=oo;subst c3;rw[Ui] at hJ;refine WC.exit Z<|⟨_,_,Z,Z,?_⟩;exact⟨Z,_, .inl hJ.now⟩
end Go.Proofs.K
namespace Silo
open Go.Eng
theorem KT{A B:Cr}{d f:Int}(h:∀s,Cb B d s=Cb A d s):∀k,DN B d f k=DN A d f k
 |0=>rfl
 |k+1=>by rw[DN,DN,KT h k,h]
def Ja(q:Fx×Nat):Int×Int:=(q.1.1.place[q.2]?).getD (0,0)
def ZC(m:Nat)(s:Cn)(A:Cr)(q:Fx×Nat):Prop:=Cf A (Ja q).1=true∧1024+((Ja q).2+1)*(Ee s:Nat)≤m
def Qs(s:Cn)(T:Fx×Nat→Tx)(A:Cr)(q:Fx×Nat):Prop:=DN A (Ja q).1 (1024+(Ja q).2*(Ee s:Nat)) (Ee s)=some (Ge ⟨q.1.1.id,q.2,q.1.1.gen,T q⟩)
structure nV (s:Cn) (T:Fx×Nat→Tx) (q:Fx×Nat):Prop where
 lt:q.2<q.1.1.place.length
 slot:∀r∈q.1.1.place,(-1≤r.1∧r.1<12)∧0≤r.2∧r.2<64
 may:Li ⟨q.1.1.id,q.2,q.1.1.gen,T q⟩=true
 len:(T q).length=s.size
def wU(m:Nat)(s:Cn)(T:Fx×Nat→Tx)(A B:Cr)(L pre:List (Fx×Nat)):Prop:=(∀q∈L,ZC m s A q)→(L.map fun q=>(Ja q).1).Nodup→∀q∈pre,Qs s T B q
theorem wU.snoc{n m:Nat}{s:Cn}{T:Fx×Nat→Tx}{A B C:Cr}{L pre:List (Fx×Nat)}{q:Fx×Nat}(h:wU m s T A B L pre)(hp:pre++[q]<+:L)(o:q.2<q.1.1.place.length)(g:bp n m s q.1.1 q.2 (T q) B C 0):wU m s T A C L (pre++[q]):=fun hg f y hy=>by
 have hx:q.1.1.place[q.2]?=some (Ja q):=by rw[Ja,aa o];rfl
 rcases zH.1 hy with hy|hy
 ·have i:=h hg f y hy;obtain⟨r,rfl⟩:=hp;rw[zB,zB] at f;have l:(Ja y).1≠(Ja q).1:=fun e=>by
   have j:=(Adi.1 (Adi.1 f).1).2.2;exact j _ (zc.2 ⟨y,hy,Z⟩) _ (zc.2 ⟨q,yN.2 Z,Z⟩) e
  rw[Qs,KT fun p=>g.oth _ hx _ p l];exact i
 ·rw[yN.1 hy];exact g.rd _ hx Z
theorem br{n m:Nat}{s:Cn}{T:Fx×Nat→Tx}{A B C:Cr}{q:Fx×Nat}{e:Int}(hg:ZC m s A q)(hl:∀k,Cf B k=Cf A k)(g:q.2<q.1.1.place.length)(f:bp n m s q.1.1 q.2 (T q) B C e):e=0:=
 f.rQ _ (by rw[Ja,aa g];rfl:q.1.1.place[q.2]?=some (Ja q)) (by rw[hl];exact hg.1) hg.2
end Silo
namespace Go.Eng
open Go Go.RowKit Silo
theorem JW.mv{P:Program}{f:FuncId}{g:List Value}{α:Type}{encs:α→List Value}{κ F:List Nat}{L:List α}{c c':Nat→Nat}{w w':World}{I:List Nat}(h:JW P f g encs κ F L c w)(m:Mv c w c' w' I:=by exact Go.Eng.Jb)(hi:Bd (κ++F) I=true:=by rfl):JW P f g encs κ F L c' w':=fun l J i c1 W K r p=>by
 refine h l J i c1 W (I++K) (Mv.tr (m.more ?_) r ?_) ?_
 ·rw[zK];intro k hk;simp only[AA,Adc,zZ];exact .inl (Kn.2 ⟨k,hk,by simp⟩)
 ·rw[zK];intro k hk;simp only[AA,Adc,zZ];exact .inr (Kn.2 ⟨k,hk,by simp⟩)
 rw[Bd,zK] at*;intro k hk;have j:=hi k hk;have o:=p k hk;simp only[AA,Adc,zV,VJ] at*;exact⟨j,o⟩
theorem AZ.rR{c0 c:Nat→Nat}{w0 w:World}{J:List Nat}(h:AZ c0 w0 J c w):Mv (AT c0 J) w0 c w J:=⟨h.os,h.tape,h.output,h.size,h.Bf,fun k hk f=>h.block k hk (by
 cases hc:AA J (c0 k) with
 |false=>rfl
 |true=>rw[IA hc,hc] at f;cases f)⟩
theorem BU.out{c0 c:Nat→Nat}{w0 w:World}{J:List Nat}{p pa pj:Nat}{vS vT vG:Value}{P:Ek}(h:BU c w p pa pj vS vT vG P)(hJ:AZ c0 w0 J c w)(hi:CT.all (fun i=>Nat.blt 0 i&&AA J i)=true:=by rfl):BU (back c0 w0 c) w p pa pj vS vT vG P:=by
 have hk:∀i∈CT,(Nat.blt 0 i&&AA J i)=true:=fun i hx=>zK.1 hi i hx;have f:∀l:List Nat,(∀i∈l,i∈CT)→l.all (AA J)=true:=fun l hl=>zK.2 fun i hx=>by
  have:=hk i (hl i hx);rw[kg] at this;exact this.2
 exact⟨h.Ap.out hJ (hk 90 ss),By.MP h.arr hJ (f _ ss),DI.wc h.rD hJ (f _ ss),⟨h.bk.s.TB hJ (hk 94 ss),h.bk.t.TB hJ (hk 94 ss),h.bk.g.TB hJ (hk 94 ss)⟩⟩
end Go.Eng
namespace Go.Proofs.K
open Go Go.Eng Go.RowKit Silo TryzT
abbrev Dw:List Nat:=76::CT
structure wj (c0:Nat→Nat) (w0:World) (d:Nat→Nat) (B:World) (b3 b5 b6 b7 p pa pj n m:Nat) (vS vT vG fv:Value) (P:Ek) (T:Fx×Nat→Tx) (L pre:List (Fx×Nat)):Prop where
 old:AZ c0 w0 Dw d B
 b3:Ar d B 103 b3 [P1 p] 66
 b5:Ar d B 105 b5 [fv] 202
 b6:Ar d B 106 b6 [I 0] 46
 a:∃A,BU d B p pa pj vS vT vG {P with A:=A}∧HK n m (3*pre.length) P.A A∧wU m P.s T P.A A L pre
 v:∃vdd,Ar d B 107 b7 [vdd] 23∧Ao d B 97 3 1 vdd pre.length ((pre.map fun q=>(Ja q).1).map I)
theorem wj.mv{c0:Nat→Nat}{w0:World}{d f:Nat→Nat}{B B':World}{b3 b5 b6 b7 p pa pj n m:Nat}{vS vT vG g:Value}{P:Ek}{T:Fx×Nat→Tx}{L pre:List (Fx×Nat)}{K:List Nat}(h:wj c0 w0 d B b3 b5 b6 b7 p pa pj n m vS vT vG g P T L pre)(M:Mv d B f B' K:=by exact Go.Eng.Jb)(h0:AA K 0=false:=by rfl)(hi:Bd (103::105::106::107::97::CT) K=true:=by rfl):wj c0 w0 f B' b3 b5 b6 b7 p pa pj n m vS vT vG g P T L pre:=by
 obtain⟨A,i,j⟩:=h.a;obtain⟨r,l,o⟩:=h.v;exact⟨h.old.mv M h0,h.b3.mv M (Bo hi ss),h.b5.mv M (Bo hi ss),h.b6.mv M (Bo hi ss),⟨A,i.mv M (BC hi ss),j⟩,⟨r,l.mv M (Bo hi ss),o.mv M (Bo hi ss)⟩⟩
end Go.Proofs.K
