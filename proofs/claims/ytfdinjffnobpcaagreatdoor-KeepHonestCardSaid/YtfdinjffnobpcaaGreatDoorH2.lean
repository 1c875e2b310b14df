/- The program, walked: part 2. No condition. -/
import Derived.Test.YtfdinjffnobpcaaGreatDoorH1
set_option linter.unusedSimpArgs false
set_option linter.unusedVariables false
set_option maxRecDepth 100000
set_option maxHeartbeats 4000000
open Go.Proofs.Tryz renaming prog → QP
variable {c : Nat → Nat} {w : Go.World}
namespace Go.Eng
open Go Go.RowKit
end Go.Eng
namespace Silo
open Go Go.Eng
theorem XT{l:List (List UInt8)}{k:Nat}(ka:k<l.length)(hp:((k:Int)-1).toNat<l.length):OB l k=(decide ((l[k].length:Int)=32)&& !(decide (0<(k:Int))&& !Op.bytesLess l[((k:Int)-1).toNat] l[k])):=by
 have e:((k:Int)-1).toNat=k-1:=oo;simp only[OB,getD_lt ka,getD_lt (show k-1<l.length by omega),e];have f:decide (k=0)= !decide (0<(k:Int)):=by rw[Ab6];simp
 have g:decide (l[k].length=32)=decide ((l[k].length:Int)=32):=by rw[Ab6];simp;omega
 rw[f,g];cases decide (0<(k:Int))<;>simp
theorem ie{l:List (List UInt8)}{k:Nat}(ka:k<l.length)(hp:((k:Int)-1).toNat<l.length)(h:¬(l[k].length:Int)=32∨0<(k:Int)∧Op.bytesLess l[((k:Int)-1).toNat] l[k]=false):OB l k=false:=by
 rw[XT ka hp];rcases h with h|⟨h,f⟩
 ·rw[Acr h];rfl
 ·rw[f,Aal h];simp
theorem ee{l:List (List UInt8)}{k:Nat}(ka:k<l.length)(hp:((k:Int)-1).toNat<l.length)(h:(l[k].length:Int)=32∧(decide (0<(k:Int))&& !Op.bytesLess l[((k:Int)-1).toNat] l[k])=false):OB l k=true:=by
 rw[XT ka hp,Aal h.1,h.2];rfl
theorem au{P:Nat→Prop}{k:Nat}(h:∀i,i<k→P i)(hk:P k):∀i,i<k+1→P i:=fun i hi=>by
 rcases yT i k with f|f
 ·exact h i f
 ·have:i=k:=oo;subst this;exact hk
def wk(s:List UInt8)(k:Nat):List Int:=(List.range k).foldl (XH s) (List.replicate 16 0)
theorem fold_succ{α:Type}(f:α→Nat→α)(a:α)(k:Nat):(List.range (k+1)).foldl f a=f ((List.range k).foldl f a) k:=by rw[ZZ,Adj];rfl
theorem cH(s:List UInt8)(k:Nat):wk s (k+1)=XH s (wk s k) k:=fold_succ _ _ _
theorem Ms(s:List UInt8):∀k,(wk s k).length=16
 |0=>rfl
 |k+1=>by rw[cH,XH,zF,Ms s k]
theorem cI{s:List UInt8}{k:Nat}(hk:k<s.length):(wk s k).set ((k:Int)/4).toNat (oF (gW (wk s k) ((k:Int)/4).toNat) (Rn (((s[k].toNat:Int)%4294967296)*2^(8*((k:Int)%4)).toNat)))=wk s (k+1):=by
 have f:((k:Int)/4).toNat=k/4:=oo;have g:(8*((k:Int)%4)).toNat=8*(k%4):=oo;have i:((s[k].toNat:Int)%4294967296)=s[k].toNat:=by have:=s[k].toNat_lt;omega
 rw[cH,XH,f,g,i,aa hk];rfl
def vk(h:List Int)(k:Nat):List Int:=(List.range k).foldl (fun v i=>(v.set i (gW h i)).set (i+8) (gW Cv i)) (List.replicate 16 0)
theorem cJ(h:List Int)(k:Nat):vk h (k+1)=((vk h k).set k (gW h k)).set (k+8) (gW Cv k):=fold_succ _ _ _
theorem Uv(h:List Int):∀k,(vk h k).length=16
 |0=>rfl
 |k+1=>by rw[cJ,zF,zF,Uv h k]
theorem eight{h:List Int}(hl:h.length=8):∃a b c d e f g i,h=[a,b,c,d,e,f,g,i]:=by
 match h,hl with
 |[a,b,c,d,e,f,g,i],_=>exact⟨a,b,c,d,e,f,g,i,Z⟩
theorem ig{h:List Int}(hl:h.length=8):vk h 8=h++Cv:=by
 obtain⟨a,b,c,d,e,f,g,i,rfl⟩:=eight hl;rfl
def rk(m:List Int)(v:List Int)(r:Nat):List Int:=(List.range r).foldl (Mj m) v
theorem SA(m v:List Int)(r:Nat):(Mj m v r).length=v.length:=by
 have key:∀k,((List.range k).foldl (Kx m r) v).length=v.length:=by
  intro k;induction k with
  |zero=>rfl
  |succ k f=>rw[fold_succ,Kx,DU,f]
 exact key 8
theorem Wr(m v:List Int)(r:Nat):rk m v (r+1)=Mj m (rk m v r) r:=fold_succ _ _ _
theorem PR(m v:List Int):∀r,(rk m v r).length=v.length
 |0=>rfl
 |r+1=>by rw[Wr,SA,PR m v r]
def Mq(h v:List Int)(k:Nat):List Int:=(List.range k).foldl (fun l i=>l.set i (MW (MW (gW l i) (gW v i)) (gW v (i+8)))) h
theorem XU(h v:List Int)(k:Nat):Mq h v (k+1)=(Mq h v k).set k (MW (MW (gW (Mq h v k) k) (gW v k)) (gW v (k+8))):=fold_succ _ _ _
theorem Nq(h v:List Int):∀k,(Mq h v k).length=h.length
 |0=>rfl
 |k+1=>by rw[XU,zF,Nq h v k]
theorem Uw{h v:List Int}(hl:h.length=8):Mq h v 8=(List.range 8).map fun i=>MW (MW (gW h i) (gW v i)) (gW v (i+8)):=by
 obtain⟨a,b,c,d,e,f,g,i,rfl⟩:=eight hl;rfl
theorem Nb{h:List Int}(hl:h.length=8)(n:Int)(f:Bool):(DZ h n f).length=16:=by
 cases f<;>simp[DZ,hl,Cv]
theorem Nc(s:List UInt8):(BO s).length=16:=Ms s _
theorem ef(m v:List Int)(r:Nat){f g C I J R U a1 a6 a7 i j l o p t:Nat}(a8:MX[r]?=some [f,g,C,I,J,R,U,a1,a6,a7,i,j,l,o,p,t]):
 Mj m v r=Iy (Iy (Iy (Iy (Iy (Iy (Iy (Iy v 0 4 8 12 (gW m f) (gW m g)) 1 5 9 13 (gW m C) (gW m I)) 2 6 10 14 (gW m J) (gW m R)) 3 7 11 15 (gW m U) (gW m a1)) 0 5 10 15 (gW m a6) (gW m a7)) 1 6 11 12 (gW m i) (gW m j)) 2 7 8 13 (gW m l) (gW m o)) 3 4 9 14 (gW m p) (gW m t):=by
 have:List.range 8=[0,1,2,3,4,5,6,7]:=rfl;simp only[Mj,this,List.foldl,Kx,g2,a8,Aa1];rfl
theorem XV(r:Nat)(h:r<10):∃f g C I J R U a1 a6 a7 i j l o p t:Nat,MX[r]?=some [f,g,C,I,J,R,U,a1,a6,a7,i,j,l,o,p,t]∧f<16∧g<16∧C<16∧I<16∧J<16∧R<16∧U<16∧a1<16∧a6<16∧a7<16∧i<16∧j<16∧l<16∧o<16∧p<16∧t<16:=by
 have:r=0∨r=1∨r=2∨r=3∨r=4∨r=5∨r=6∨r=7∨r=8∨r=9:=oo;rcases this with rfl|rfl|rfl|rfl|rfl|rfl|rfl|rfl|rfl|rfl<;>exact⟨_,_,_,_,_,_,_,_,_,_,_,_,_,_,_,_,Z,by decide⟩
def gN(l:List Nat)(j:Nat):Nat:=l[j]?.getD 0
theorem EJ(r:Nat)(h:r<10):∃l,MX[r]?=some l∧l.length=16∧∀j,gN l j<16:=by
 obtain⟨i,o,U,a1,a6,a7,a8,b0,b1,b2,p,t,C,I,J,R,g,b3,b4,c1,c2,c3,c4,c5,c6,c7,c8,b5,b6,b7,b8,b9,c0⟩:=XV r h;refine⟨_,g,Z,fun j=>?_⟩;have:j=0∨j=1∨j=2∨j=3∨j=4∨j=5∨j=6∨j=7∨j=8∨j=9∨j=10∨j=11∨j=12∨j=13∨j=14∨j=15∨16≤j:=oo;rcases this with rfl|rfl|rfl|rfl|rfl|rfl|rfl|rfl|rfl|rfl|rfl|rfl|rfl|rfl|rfl|rfl|f<;>first|assumption|skip
 rw[gN,yW (by simpa using f)];decide
theorem av(i:Nat)(h:i<8):∃f g j l:Nat,Lr[i]?=some [f,g,j,l]∧f<16∧g<16∧j<16∧l<16:=by
 have:i=0∨i=1∨i=2∨i=3∨i=4∨i=5∨i=6∨i=7:=oo;rcases this with rfl|rfl|rfl|rfl|rfl|rfl|rfl|rfl<;>exact⟨_,_,_,_,Z,by decide⟩
def ik(m:List Int)(r:Nat)(v:List Int)(i:Nat):List Int:=(List.range i).foldl (Kx m r) v
theorem cK(m:List Int)(r:Nat)(v:List Int)(i:Nat):ik m r v (i+1)=Kx m r (ik m r v i) i:=fold_succ _ _ _
theorem Ux(m:List Int)(r:Nat)(v:List Int):∀i,(ik m r v i).length=v.length
 |0=>rfl
 |i+1=>by rw[cK,Kx,DU,Ux m r v i]
theorem round_eq{m v:List Int}{r i:Nat}{l:List Nat}{f g j o:Nat}(t:MX[r]?=some l)(p:Lr[i]?=some [f,g,j,o]):Kx m r v i=Iy v f g j o (gW m (gN l (2*i))) (gW m (gN l (2*i+1))):=by
 simp only[Kx,g2,t,p,Aa1];rfl
theorem vv{h:List Int}(hl:h.length=8):(((List.replicate 16 0).map DB++[]).take 0++(h.map DB++[])++((List.replicate 16 0).map DB++[]).drop (0+(h.map DB++[]).length))=(h++List.replicate 8 0).map DB++[]:=by
 obtain⟨a,b,c,d,e,f,g,i,rfl⟩:=eight hl;rfl
theorem vw{h:List Int}(hl:h.length=8):(((h++List.replicate 8 0).map DB++[]).take (0+8*1)++(Cv.map DB++[])++((h++List.replicate 8 0).map DB++[]).drop (0+8*1+(Cv.map DB++[]).length))=(h++Cv).map DB++[]:=by
 obtain⟨a,b,c,d,e,f,g,i,rfl⟩:=eight hl;rfl
theorem PS(l:List Int):∀v∈l.map DB++[],v.oneCell'=true:=fun v hv=>by
 rw[Qy] at hv;obtain⟨n,_,rfl⟩:=zc.1 hv;rfl
def HS(h v:List Int)(k:Nat):List Int:=(List.range k).foldl (fun l i=>l.set i (MW (gW l i) (MW (gW v i) (gW v (i+8))))) h
theorem ih(h v:List Int)(k:Nat):HS h v (k+1)=(HS h v k).set k (MW (gW (HS h v k) k) (MW (gW v k) (gW v (k+8)))):=fold_succ _ _ _
theorem ij(h v:List Int)(k:Nat):HS h v k=Mq h v k:=by unfold HS Mq;simp only[ea]
theorem Gj(h:List Int)(s:List UInt8)(n:Int)(f:Bool):(Gb h s n f).length=8:=by simp[Gb]
def JL:List Int:=Cv.set 0 (MW (gW Cv 0) 16842784)
theorem LI{h:List Int}{s:List UInt8}{n:Nat}(hl:64<s.length):GD h s n=GD (Gb h (s.take 64) ((n+64:Nat):Int) false) (s.drop 64) (n+64):=by
 rw[GD,dif_pos hl]
theorem Jw{h:List Int}{s:List UInt8}{n:Nat}(hl:¬64<s.length):GD h s n=Gb h s ((n+s.length:Nat):Int) true:=by
 rw[GD,dif_neg hl]
theorem TU:∀(k:Nat) (h:List Int) (s:List UInt8) (n:Nat),s.length≤k→(GD h s n).length=8:=by
 intro k;induction k with
 |zero=>intro h s n hs;rw[Jw oo];exact Gj _ _ _ _
 |succ k f=>
  intro h s n hs;by_cases hl:64<s.length
  ·rw[LI hl];exact f _ _ _ (by simp;omega)
  ·rw[Jw hl];exact Gj _ _ _ _
def MK(h:List Int)(k:Nat):List UInt8:=(List.range k).map fun i=>Iq (gW h (i/4)/2^(8*(i%4)))
theorem Uy(h:List Int)(k:Nat):MK h (k+1)=MK h k++[Iq (gW h (k/4)/2^(8*(k%4)))]:=by simp[MK,ZZ]
theorem QL(h:List Int)(k:Nat):(MK h k).length=k:=by simp[MK]
theorem eg(h:List Int)(k:Nat):MK h (4*(k+1))=MK h (4*k)++[Iq (gW h k),Iq (gW h k/2^8),Iq (gW h k/2^16),Iq (gW h k/2^24)]:=by
 rw[show 4*(k+1)=4*k+1+1+1+1 by omega];simp only[Uy];rw[show 4*k/4=k by omega,show(4*k+1)/4=k by omega,show(4*k+1+1)/4=k by omega,show(4*k+1+1+1)/4=k by omega,
  show 4*k%4=0 by omega,show(4*k+1)%4=1 by omega,show(4*k+1+1)%4=2 by omega,show(4*k+1+1+1)%4=3 by omega]
 simp
theorem il{h:List Int}{k:Nat}(hk:k<32):(MK h k++List.replicate (32-k) 0).set k (Iq (gW h (k/4)/2^(8*(k%4))))=MK h (k+1)++List.replicate (32-(k+1)) 0:=by
 rw[Uy,Abn _ _ (by rw[QL];exact lx _),QL,Abr,show 32-k=(32-(k+1))+1 by omega,Aah];simp
theorem Ws{α:Type}{l:List (List α)}{k:Nat}(h:k<l.length):(l.take (k+1)).flatten=(l.take k).flatten++l[k]:=by
 rw[yG h,List.flatten_append];simp only[VM,List.flatten_nil,Qy]
theorem QM:∀(n k:Nat) (s:List UInt8),(chunks (n+k) s).take n=chunks n s
 |0,_,_=>by simp[chunks]
 |n+1,k,s=>by rw[show n+1+k=(n+k)+1 by omega];simp only[chunks,Ad2];rw[QM n k]
theorem QN:∀(n k:Nat) (s:List UInt8),(chunks (n+k) s).drop n=chunks k (s.drop (32*n))
 |0,k,s=>by simp
 |n+1,k,s=>by
  rw[show n+1+k=(n+k)+1 by omega];simp only[chunks,Ad3];rw[QN n k,Abj];congr 2;omega
theorem GF:∀(k:Nat) (s:List UInt8),∀x∈chunks k s,x.length≤32
 |0,_,_,h=>by cases h
 |k+1,s,x,h=>by
  simp only[chunks,zN] at h;rcases h with rfl|h
  ·rw[ly];omega
  ·exact GF k _ x h
theorem LJ{s:List UInt8}{i:Nat}(h:i<s.length):at_ s i=s[i].toNat:=by rw[at_,getD_lt h]
theorem XW(s:List UInt8)(i:Nat):at_ s i<256:=UInt8.toNat_lt _
theorem Nr{s:List UInt8}(h:¬(7≤s.length∧s.take 4=[77,65,78,70]∧s.length=7+32*(at_ s 5+at_ s 6))):BX s=none:=by rw[BX,yK h]
theorem QO{s:List UInt8}(h:7≤s.length∧s.take 4=[77,65,78,70]∧s.length=7+32*(at_ s 5+at_ s 6)):BX s=if Np (Na s) then some (Na s) else none:=by rw[BX,yP h]
end Silo
namespace Go.Proofs.K
open Go Go.Eng Go.RowKit Silo TryzT
theorem Uz{v:Value}{l:List (List UInt8)}(h1:Rd CL w v l):Calls QP 244 #[v] w (AP fun r w'=>Below w.heap.size w w'∧r= .bool (HQ l)):=by
 have f:Bz w w:=Bz.refl w;have U:=h1.small;refine enter (n:=29) (res:=#[.tmp 2]) Tryz.func244 Z Z Z Z<|Ab<|cg<|za Z<|Ac<|Ab<|Ab<|cg<|zm Z ?_
 first|refine vq (BN BE (by assumption) Z) ?_|refine vq (CH zb Z) ?_
 refine zm Z<|Ac<|Ai<|WC.loop (σ:=Nat) (fun k=>[(0,v),(5,v),(6,I l.length),(7,I k)]) (fun k w'=>Rd CL w' v l∧Bz w w'∧k≤l.length∧∀i,i<k→OB l i=true) (fun k=>l.length-k) 0 Aq ⟨h1,f,by omega,fun i hi=>absurd hi (Nat.not_lt_zero _)⟩ ?_;rintro k a7 ⟨h1,f,hk,hd⟩;refine Ab<|cg<|vq (AE Z Z)<|Ac<|Ab<|AS Z (fun o=>?_) fun o=>?_
 ·have ka:k<l.length:=oo;obtain⟨t,j,rfl,a1⟩:=h1.el ka;obtain⟨C,p,rfl,a6⟩:=h1.el (i:=((k:Int)-1).toNat) oo;refine Aj<|Ab<|Ai<|Ab<|cg<|zm Z<|vq (AF BE (by assumption) Z Z Z Ad Ad)<|vq (Bl BK Z j)<|za Z ?_;refine za Z<|Ac<|Ab<|cg<|zm Z<|vq (Bp.BY gx Z)<|vq (Bm Z Z)<|zm Z ?_;apply WR.CJ false 11 _ BT
  ·intro R;refine wo<|zm rfl<|wo<|vq (BZ rfl rfl)<|wo<|zm rfl ?_;apply WR.CJ true 7 _ BT
   ·intro J;refine wo<|zm rfl<|wo<|zm rfl<|wo<|zm rfl<|wo<|vq (EX rfl rfl Ad Ad)<|wo ?_;refine vq (AF BE (by assumption) rfl rfl rfl Ad Ad)<|wo<|vq (Bl BK rfl p)<|wo<|vq (sE rfl rfl) ?_;exact Dm 7
   exact Dm 4
  refine Ac<|AS Z (fun g=>?_) fun g=>?_
  ·refine Ab<|cg<|za Z<|Ac ?_;refine Az Z Z ?_;have e:(Op.bytesLess l[k] l[((k:Int)-1).toNat]=true∨(l[k]==l[((k:Int)-1).toNat])=true)→Op.bytesLess l[((k:Int)-1).toNat] l[k]=false:=fun h=>by rw[Sy l[((k:Int)-1).toNat] l[k]];rcases h with h|h<;>rw[h]<;>simp
   exact⟨f,by rw[XR ka (ie ka _ (g.imp (fun h=>h) (fun h=>⟨h.1,e h.2⟩)))]⟩
  refine Aj<|cg<|vq (AH Z Z Ad Ad)<|zm Z<|Ac ?_;have e:(Op.bytesLess l[k] l[((k:Int)-1).toNat]||l[k]==l[((k:Int)-1).toNat])= !Op.bytesLess l[((k:Int)-1).toNat] l[k]:=by rw[Sy l[((k:Int)-1).toNat] l[k],Bool.not_not]
  rw[e] at g;exact⟨k+1,Aq,⟨h1,f,ka,au hd (ee ka _ g)⟩,by omega⟩
 refine WC.exit Z<|Ab<|cg<|za Z<|Ac<|Az Z Z ?_;exact⟨f,by rw[Wn hd oo]⟩
def mi(k:Int):Bool:=decide (0≤k)&&decide (k≤255)
theorem im(k:Int):Calls QP 243 #[I k] w (AP fun v w'=>Below w.heap.size w w'∧v= .bool (mi k)):=by
 refine enter (n:=9) (res:=#[.tmp 2]) Tryz.func243 Z Z Z Z<|Ab<|cg<|za Z<|Ac<|Ab<|cg<|zm Z<|vq (Cu Z Z)<|zm Z ?_;apply WR.CJ true 2 _ BT
 ·intro f;refine wo<|zm rfl<|wo<|vq (FV rfl rfl) ?_;exact Dm 2
 refine za Z<|Ac<|Az Z Z ?_;exact⟨zy _ _,Z⟩
theorem eh(m:mh):(((decide (0≤m.kind)&&decide (m.kind≤255))&&decide ((m.HX.length:Int)+(m.Aq.length:Int)≤20))&&HQ m.HX&&HQ m.Aq)=Np m:=by
 have e:decide ((m.HX.length:Int)+(m.Aq.length:Int)≤20)=decide (m.HX.length+m.Aq.length≤20):=by rw[Ab6];simp;omega
 rw[e];rfl
theorem mj{cs:List Value}{m:mh}(h:pL w cs m):Calls QP 150 #[.agg cs.toArray] w (AP fun v w'=>Below w.heap.size w w'∧v= .bool (Np m)):=by
 obtain⟨a7,vs,rfl,g,hs,a8⟩:=h;have C:Bz w w:=Bz.refl w;have b4:=g.Av;have b5:=hs.Av;have b6:=g.small;have b7:=hs.small;replace g:Rd CL w a7 m.HX:=g;replace hs:Rd CL w vs m.Aq:=hs;refine enter (n:=26) (res:=#[.tmp 2]) Tryz.func150 Z Z Z Z<|Ab<|cg<|ve (Ay.box Z) ?_;rintro _ w1 ⟨b1,rfl,p⟩;have l:=p.below;have i:=p.Ap;refine za Z<|Ac<|Ab<|cg<|vq (Aa hE Z)<|vq (Ah Au Z i Z)<|ve (Ay.call uj Z (im m.kind)) ?_;rintro c0 w2 ⟨f,rfl⟩;refine zm Z ?_;apply Ul true 8 _ BT
 ·intro b0;have I:Bz w2 w2:=Bz.refl _;refine wo<|vq (Aa Oi rfl)<|wo<|vq (Ah CB rfl (i.up f) rfl)<|wo ?_
  first|refine vq (BN BE (by assumption) Z) ?_|refine vq (CH zb Z) ?_
  refine wo<|vq (Aa Oj Z)<|wo<|vq (Ah CB Z (i.up f) Z)<|wo ?_
  first|refine vq (BN BE (by assumption) Z) ?_|refine vq (CH zb Z) ?_
  refine wo<|vq (AH Z Z Ad Ad)<|wo<|vq (FV Z Z) ?_;exact WR.nil ⟨Z,Sub.drop _ 8 _ Z Z,I⟩
 intro r j;refine zm rfl ?_;apply Ul true 3 _ BT
 ·intro b2;have J:Bz r r:=Bz.refl _;refine wo<|vq (Aa Oi rfl)<|wo<|vq (Ah CB rfl ((i.up f).up j) rfl)<|wo<|ve (Ay.call pz rfl (Uz (((g.up l).up f).up j))) ?_;rintro b8 c1 ⟨U,rfl⟩;exact WR.nil ⟨rfl,Sub.drop _ 3 _ rfl rfl,(J.up U)⟩
 intro t o;refine zm rfl ?_;apply Ul true 3 _ BT
 ·intro b3;have R:Bz t t:=Bz.refl _;refine wo<|vq (Aa Oj rfl)<|wo<|vq (Ah CB rfl (((i.up f).up j).up o) rfl)<|wo<|ve (Ay.call pz rfl (Uz ((((hs.up l).up f).up j).up o))) ?_;rintro b9 c2 ⟨a1,rfl⟩;exact WR.nil ⟨rfl,Sub.drop _ 3 _ rfl rfl,(R.up a1)⟩
 intro c3 a6;refine za rfl<|Ac<|Az rfl rfl ?_;exact⟨(((((C.up l).up f).up j).up o).up a6),by rw[←eh];rfl⟩
end Go.Proofs.K
namespace Go.Eng
open Go Go.RowKit
def Av(b:Nat):Nat→Nat:=fun k=>if k=b then 2 else 0
theorem RI(b:Nat):Av b b=2:=by simp[Av]
theorem Acc.OD{w w':World}{b:Nat}{c':Nat→Nat}{K:List Nat}(h:Acc (Av b) w K c' w')(f:AA K 0=false:=by rfl):w.grownBy w' (some b):=
 ⟨h.MI.os,h.MI.tape,h.MI.output,h.MI.size,fun k hk g=>h.MI.block k hk (by
  have:k≠b:=fun e=>g (by rw[e]);simp only[Av,yK this];exact f)⟩
theorem Ar.qR{w w':World}{i b:Nat}{cs cs':List Value}{t:TypeId}(h:Ar c w i b cs t)(hg:w.grownBy w' (some b))(g:FG w' b cs' t):∃c',Mv c w c' w' [i]∧Ar c' w' i b cs' t:=by
 obtain⟨c',f,hx⟩:=Mv.grown (i:=i) c i hg (fun k hk=>by injection hk with hk;rw[←hk];exact h.Bf);exact⟨c',f,g,(f.Bf b h.Ap.lt).trans h.Bf⟩
theorem LK{P:Program}{env:Env}{op:Op}{ty:TypeId}{i b:Nat}{cs cs':List Value}{t:TypeId}(g:Ar c w i b cs t)(h:Ay P env w op ty (fun _ w'=>w.grownBy w' (some b)∧FG w' b cs' t)):
 Ay P env w op ty (fun _ w'=>∃c',Mv c w c' w' [i]∧Ar c' w' i b cs' t):=h.mono fun _ _ ⟨hg,f⟩=>g.qR hg f
theorem Ar.kw{P:Program}{env:Env}{ty t:TypeId}{x:Operand}{w0:World}{J:List Nat}{i b j:Nat}{l:List Int}{post:List Value}{T:TypeId}(h:Ar c w0 i b (l.map Silo.DB++post) T)(ht:Dq P t=true)(hx:Ba env x=some (.pointer (some ⟨b,0+j*1,none⟩)))(g:j<l.length)(hJ:AA J i=false:=by rfl):∀W,Kp c w0 J W→Bp P env W (.load t x) ty (Silo.DB (Silo.gW l j)):=fun _ f=>NZ ht hx (h.kp f hJ).Ap g
theorem cM{i b:Nat}{l:List Int}{t:TypeId}(h:Ar c w i b (l.map Silo.DB) t):Ar c w i b (l.map Silo.DB++[]) t:=by rw[Qy];exact h
theorem qS{P:Program}{env:Env}{ty t ty2:TypeId}{x y:Operand}{m n r:Int}(hx:Ba env x=some (.int .u64 m))(hy:Ba env y=some (.int .u64 n))(f:IntKind.u64.wrap ((BitVec.ofInt 64 m&&& BitVec.ofInt 64 n).toNat:Int)=r):Bp P env w (.binOp .and t x y ty2) ty (.int .u64 r):=by
 have:=JU (P:=P) (w:=w) (ty:=ty) (t:=t) (ty2:=ty2) (op:= .and) hx hy (.inr (.inl ⟨Z,Z⟩));rw[←f];exact this
end Go.Eng
namespace Go.Proofs.K
open Go Go.Eng Go.RowKit Silo TryzT
abbrev dV:TypeId:=206
theorem Wt(x:Int)(n:Nat)(f:n=16∨n=12∨n=8∨n=7):Calls QP 340 #[DB x,I (-(n:Int))] w (AP fun v w'=>Below w.heap.size w w'∧v=DB (XG x n)):=by
 have g:IntKind.u64.wrap ((BitVec.ofInt 64 (IntKind.u64.wrap (-(n:Int)))&&& BitVec.ofInt 64 31).toNat:Int)=((32-n:Nat):Int):=by rcases f with rfl|rfl|rfl|rfl<;>decide
 have i:IntKind.u64.wrap (32-((32-n:Nat):Int))=(n:Int):=by rcases f with rfl|rfl|rfl|rfl<;>decide
 have j:n≤16:=oo;refine enter (n:=17) (res:=#[.tmp 4]) Tryz.func340 Z Z Z Z<|Ab<|cg<|za Z<|Ac<|Ab<|cg<|zm Z<|vq (Iu oz zW Z)<|vq (qS Z Z g)<|za Z<|Ac<|Ab<|cg<|zm Z<|zm Z<|vq (Ry Z Z Ad Ad)<|zm Z<|zm Z ?_;refine vq (oB Z Z) ?_;rw[i];refine vq (Ir Z Z Ad (by simp[IntKind.bits]<;>omega))<|vq (VV Z Z)<|za Z<|Ac ?_;refine Az Z Z<|⟨zy _ _,?_⟩;simp only[XG,pv];rw[gZ]
theorem KD(x:Int)(n:Nat)(o:n=16∨n=12∨n=8∨n=7):Calls QP 190 #[DB x,I (n:Int)] w (AP fun v w'=>Below w.heap.size w w'∧v=DB (XG x n)):=by
 have l:n≤16:=oo;have i:(32-(n:Int)).toNat=32-n:=oo;have j:Bz w w:=Bz.refl w;refine enter (n:=13) (res:=#[.tmp 4]) Tryz.func190 Z Z Z Z<|Ab<|cg<|za Z<|Ac<|Ab<|Mh (Below w.heap.size w) [0,0,0,0,0,0,0,0,0] [0,1,2,3,4,5,6,7,8] mixed kr ?_;have g:Below w.heap.size w w.drew:=(zy _ _).drew;have f:Below w.heap.size w w.drew:=(zy _ _).drew;generalize w.drew=w1 at g f⊢;refine AK Z Z<|AK Z Z<|vd Z (fun _=>Ir Z Z Ad (by simp[IntKind.bits]<;>omega))<|AK Z Z<|AK Z Z<|vd Z (fun _=>EX Z Z Ad Ad)<|vd Z (fun _=>Ry Z Z Ad Ad)<|vd Z (fun _=>VV Z Z)<|Ga Z Z ?_;refine WD.nil ?_;clear f;refine Az Z Z<|⟨(j.up g),?_⟩;simp only[XG,pv,i]
theorem qT{b:Nat}{l:List Int}(R:FG w b (l.map DB++[]) dV)(hl:l.length=16)(i j k m:Nat)(hi:i<16)(e1:j<16)(hk:k<16)(e2:m<16)(x y:Int):
 Calls QP 263 #[.pointer (some ⟨b,0,none⟩), .agg #[I (i:Int),I (j:Int),I (k:Int),I (m:Int)],DB x,DB y] w (AP fun v w'=>w.grownBy w' (some b)∧FG w' b ((Iy l i j k m x y).map DB++[]) dV):=by
 obtain⟨c,hc⟩:∃c:Nat→Nat,c=Av b:=⟨_,Z⟩;have o:Ar c w 2 b (l.map DB++[]) dV:=⟨R,by rw[hc,RI]⟩;have U:Acc c w [2] c w:=Acc.refl _ _ _;clear R;refine enter (n:=140) (res:=#[]) Tryz.func263 Z Z Z Z<|Ab<|cg<|Dz c 105 fun w1 b5 c1 b1 r=>?_;refine Ac<|Ab<|AY c1 [] [0,1,0,1,0,1,0,1,0,0,0,0] [0,1,2,3,4,5,6,7,8,9,10,11] fun w2 c2 f=>?_;have g:=o;have p:=r;refine vd Z (fun _=>As VY Z Z Ad Ad)<|vc Z f.kp (p.mv.kb Au Z Z)<|vd Z (fun _=>As VY Z Z Ad Ad)<|vc Z f.kp (p.mv.kb Au Z Z)<|vd Z (fun _=>As VY Z Z Ad Ad)<|vc Z f.kp (p.mv.kb Au Z Z)<|vd Z (fun _=>As VY Z Z Ad Ad)<|vc Z f.kp (p.mv.kb Au Z Z)<|Ga Z Z ?_;refine Ga Z Z<|Ga Z Z<|Ga Z Z<|WD.nil ?_;clear g p;clear f;refine Ab<|AY c1 [] [0,0,0,0,1,0,0,0,0,1,0,0,0,0,0,3] [0,1,2,3,4,5,6,7,8,9,10,11,12,13,14,15] fun j4 c5 f=>?_;have g:=o;have p:=r;refine AK Z Z<|AK Z Z<|vd Z (fun _=>Ae Z)<|vd Z (fun _=>As AO Z Z Ad Ad)<|vc Z f.kp (g.mv.kw AL Z Ad)<|AK Z Z<|AK Z Z<|vd Z (fun _=>Ae Z)<|vd Z (fun _=>As AO Z Z Ad Ad) ?_;refine vc Z f.kp (g.mv.kw AL Z Ad)<|AK Z Z<|vd Z (fun _=>Gq Z Z)<|vd Z (fun _=>Gq Z Z)<|vd Z (fun _=>Ae Z)<|vd Z (fun _=>As AO Z Z Ad Ad) ?_;refine WD.wild Z Z Z (CV AL Z Z o.mv Ad) ?_;rintro _ j5 ⟨o,c6⟩;refine WD.nil ?_;clear g p;clear f;refine Ab<|AY c1 [] [0,0,0,0,0,0,1,0,0,0,0,1,0,2,0,0,3] [0,1,2,3,4,5,6,7,8,9,10,11,12,14,13,15,16] fun j6 c7 f=>?_;have g:=o;have p:=r;refine AK Z Z<|AK Z Z<|AK Z Z<|AK Z Z<|vd Z (fun _=>Ae Z)<|vd Z (fun _=>As AO Z Z Ad Ad)<|vc Z f.kp (g.mv.kw AL Z Ad)<|AK Z Z<|AK Z Z ?_;refine vd Z (fun _=>Ae Z)<|vd Z (fun _=>As AO Z Z Ad Ad)<|vc Z f.kp (g.mv.kw AL Z Ad)<|vd Z (fun _=>Eg Z Z)<|vd Z (fun _=>Ae Z) ?_;refine WD.AW Z Z Z (Al c1 1 (Ay.call cz Z (Wt _ 16 ss))) Z ?_;rintro e9 j7 ⟨J,a8,e6,rfl⟩;refine f.AX a8 fun f=>vd Z (fun _=>As AO Z Z Ad Ad) ?_;refine WD.wild Z Z Z (CV AL Z Z o.mv Ad) ?_;rintro _ j8 ⟨o,c8⟩;refine WD.nil ?_;clear g p;clear f;refine Ab<|AY J [] [0,0,0,0,1,0,0,0,0,1,0,0,0,3] [0,1,2,3,4,5,6,7,8,9,10,11,12,13] fun j9 c9 f=>?_;have g:=o;have p:=r;refine AK Z Z<|AK Z Z<|vd Z (fun _=>Ae Z)<|vd Z (fun _=>As AO Z Z Ad Ad)<|vc Z f.kp (g.mv.kw AL Z Ad)<|AK Z Z<|AK Z Z<|vd Z (fun _=>Ae Z)<|vd Z (fun _=>As AO Z Z Ad Ad) ?_;refine vc Z f.kp (g.mv.kw AL Z Ad)<|vd Z (fun _=>Gq Z Z)<|vd Z (fun _=>Ae Z)<|vd Z (fun _=>As AO Z Z Ad Ad) ?_;refine WD.wild Z Z Z (CV AL Z Z o.mv Ad) ?_;rintro _ k0 ⟨o,e0⟩;refine WD.nil ?_;clear g p;clear f;refine Ab<|AY J [] [0,0,0,0,0,0,1,0,0,0,0,1,0,2,0,0,3] [0,1,2,3,4,5,6,7,8,9,10,11,12,14,13,15,16] fun h1 b2 f=>?_;have g:=o;have p:=r;refine AK Z Z<|AK Z Z<|AK Z Z<|AK Z Z<|vd Z (fun _=>Ae Z)<|vd Z (fun _=>As AO Z Z Ad Ad)<|vc Z f.kp (g.mv.kw AL Z Ad)<|AK Z Z<|AK Z Z ?_;refine vd Z (fun _=>Ae Z)<|vd Z (fun _=>As AO Z Z Ad Ad)<|vc Z f.kp (g.mv.kw AL Z Ad)<|vd Z (fun _=>Eg Z Z)<|vd Z (fun _=>Ae Z) ?_;refine WD.AW Z Z Z (Al J 1 (Ay.call cz Z (Wt _ 12 ss))) Z ?_;rintro h0 h2 ⟨t,a1,e3,rfl⟩;refine f.AX a1 fun f=>vd Z (fun _=>As AO Z Z Ad Ad) ?_;refine WD.wild Z Z Z (CV AL Z Z o.mv Ad) ?_;rintro _ h3 ⟨o,b3⟩;refine WD.nil ?_;clear g p;clear f;refine Ab<|AY t [] [0,0,0,0,1,0,0,0,0,1,0,0,0,0,0,3] [0,1,2,3,4,5,6,7,8,9,10,11,12,13,14,15] fun h4 b4 f=>?_;have g:=o;have p:=r;refine AK Z Z<|AK Z Z<|vd Z (fun _=>Ae Z)<|vd Z (fun _=>As AO Z Z Ad Ad)<|vc Z f.kp (g.mv.kw AL Z Ad)<|AK Z Z<|AK Z Z<|vd Z (fun _=>Ae Z)<|vd Z (fun _=>As AO Z Z Ad Ad) ?_;refine vc Z f.kp (g.mv.kw AL Z Ad)<|AK Z Z<|vd Z (fun _=>Gq Z Z)<|vd Z (fun _=>Gq Z Z)<|vd Z (fun _=>Ae Z)<|vd Z (fun _=>As AO Z Z Ad Ad) ?_;refine WD.wild Z Z Z (CV AL Z Z o.mv Ad) ?_;rintro _ h5 ⟨o,b6⟩;refine WD.nil ?_;clear g p;clear f;refine Ab<|AY t [] [0,0,0,0,0,0,1,0,0,0,0,1,0,2,0,0,3] [0,1,2,3,4,5,6,7,8,9,10,11,12,14,13,15,16] fun h6 b7 f=>?_;have g:=o;have p:=r;refine AK Z Z<|AK Z Z<|AK Z Z<|AK Z Z<|vd Z (fun _=>Ae Z)<|vd Z (fun _=>As AO Z Z Ad Ad)<|vc Z f.kp (g.mv.kw AL Z Ad)<|AK Z Z<|AK Z Z ?_;refine vd Z (fun _=>Ae Z)<|vd Z (fun _=>As AO Z Z Ad Ad)<|vc Z f.kp (g.mv.kw AL Z Ad)<|vd Z (fun _=>Eg Z Z)<|vd Z (fun _=>Ae Z) ?_;refine WD.AW Z Z Z (Al t 1 (Ay.call cz Z (Wt _ 8 ss))) Z ?_;rintro e7 h7 ⟨C,a6,e4,rfl⟩;refine f.AX a6 fun f=>vd Z (fun _=>As AO Z Z Ad Ad) ?_;refine WD.wild Z Z Z (CV AL Z Z o.mv Ad) ?_;rintro _ h8 ⟨o,b8⟩;refine WD.nil ?_;clear g p;clear f;refine Ab<|AY C [] [0,0,0,0,1,0,0,0,0,1,0,0,0,3] [0,1,2,3,4,5,6,7,8,9,10,11,12,13] fun h9 b9 f=>?_;have g:=o;have p:=r;refine AK Z Z<|AK Z Z<|vd Z (fun _=>Ae Z)<|vd Z (fun _=>As AO Z Z Ad Ad)<|vc Z f.kp (g.mv.kw AL Z Ad)<|AK Z Z<|AK Z Z<|vd Z (fun _=>Ae Z)<|vd Z (fun _=>As AO Z Z Ad Ad) ?_;refine vc Z f.kp (g.mv.kw AL Z Ad)<|vd Z (fun _=>Gq Z Z)<|vd Z (fun _=>Ae Z)<|vd Z (fun _=>As AO Z Z Ad Ad) ?_;refine WD.wild Z Z Z (CV AL Z Z o.mv Ad) ?_;rintro _ j0 ⟨o,c0⟩;refine WD.nil ?_;clear g p;clear f;refine AY C [] [0,0,0,0,0,0,1,0,0,0,0,1,0,2,0,0,3] [0,1,2,3,4,5,6,7,8,9,10,11,12,14,13,15,16] fun j1 c3 f=>AK Z Z<|AK Z Z<|AK Z Z<|AK Z Z<|vd Z (fun _=>Ae Z)<|vd Z (fun _=>As AO Z Z Ad Ad)<|vc Z f.kp (o.mv.kw AL Z Ad)<|AK Z Z<|AK Z Z ?_;refine vd Z (fun _=>Ae Z)<|vd Z (fun _=>As AO Z Z Ad Ad)<|vc Z f.kp (o.mv.kw AL Z Ad)<|vd Z (fun _=>Eg Z Z)<|vd Z (fun _=>Ae Z) ?_;refine WD.AW Z Z Z (Al C 1 (Ay.call cz Z (Wt _ 7 ss))) Z ?_;rintro e8 j2 ⟨b0,a7,e5,rfl⟩;refine f.AX a7 fun f=>vd Z (fun _=>As AO Z Z Ad Ad) ?_;refine WD.wild Z Z Z (CV AL Z Z o.mv Ad) ?_;rintro _ j3 ⟨o,c4⟩;refine WD.nil ?_;clear f;refine⟨_,_,Z,Z,?_⟩;have e:=o.Ap;subst hc;refine⟨Z,U.mv.OD,?_⟩;try simp only[pv] at e
 simpa only[Iy,lM] using e
theorem Jx{b:Nat}{l:List Int}(C:FG w b (l.map DB++[]) dV)(hl:l.length=16)(i j k m:Nat)(hi:i<16)(c5:j<16)(hk:k<16)(c6:m<16)(x y:Int):
 Calls QP 107 #[.pointer (some ⟨b,0,none⟩),I (i:Int),I (j:Int),I (k:Int),I (m:Int),DB x,DB y] w (AP fun v w'=>w.grownBy w' (some b)∧FG w' b ((Iy l i j k m x y).map DB++[]) dV):=by
 obtain⟨c,hc⟩:∃c:Nat→Nat,c=Av b:=⟨_,Z⟩;have o:Ar c w 2 b (l.map DB++[]) dV:=⟨C,by rw[hc,RI]⟩;have J:Acc c w [2] c w:=Acc.refl _ _ _;clear C;refine enter (n:=142) (res:=#[]) Tryz.func107 Z Z Z Z<|Ab<|AY c [] [0,0,0,0,0,0,1,0,0,0,0,1,0,0,0,0,0,3] [0,1,2,3,4,5,6,7,8,9,10,11,12,13,14,15,16,17] fun w1 a8 f=>?_;have g:=o;refine AK Z Z<|AK Z Z<|AK Z Z<|AK Z Z<|vd Z (fun _=>Ae Z)<|vd Z (fun _=>As AO Z Z Ad Ad)<|vc Z f.kp (g.mv.kw AL Z Ad)<|AK Z Z<|AK Z Z ?_;refine vd Z (fun _=>Ae Z)<|vd Z (fun _=>As AO Z Z Ad Ad)<|vc Z f.kp (g.mv.kw AL Z Ad)<|vd Z (fun _=>Gq Z Z)<|AK Z Z<|vd Z (fun _=>Gq Z Z)<|vd Z (fun _=>Ae Z)<|vd Z (fun _=>As AO Z Z Ad Ad) ?_;refine WD.wild Z Z Z (CV AL Z Z o.mv Ad) ?_;rintro _ w2 ⟨o,b8⟩;refine WD.nil ?_;clear g;clear f;refine Ab<|AY c [] [0,0,0,0,0,0,1,0,0,0,0,1,0,2,0,0,3] [0,1,2,3,4,5,6,7,8,9,10,11,12,14,13,15,16] fun h6 c0 f=>?_;have g:=o;refine AK Z Z<|AK Z Z<|AK Z Z<|AK Z Z<|vd Z (fun _=>Ae Z)<|vd Z (fun _=>As AO Z Z Ad Ad)<|vc Z f.kp (g.mv.kw AL Z Ad)<|AK Z Z<|AK Z Z ?_;refine vd Z (fun _=>Ae Z)<|vd Z (fun _=>As AO Z Z Ad Ad)<|vc Z f.kp (g.mv.kw AL Z Ad)<|vd Z (fun _=>Eg Z Z)<|vd Z (fun _=>Ae Z) ?_;refine WD.AW Z Z Z (Al c 1 (Ay.call cr Z (KD _ 16 ss))) Z ?_;rintro e3 h7 ⟨r,a1,c9,rfl⟩;refine f.AX a1 fun f=>vd Z (fun _=>As AO Z Z Ad Ad) ?_;refine WD.wild Z Z Z (CV AL Z Z o.mv Ad) ?_;rintro _ h8 ⟨o,c1⟩;refine WD.nil ?_;clear g;clear f;refine Ab<|AY r [] [0,0,0,0,0,0,1,0,0,0,0,1,0,0,0,3] [0,1,2,3,4,5,6,7,8,9,10,11,12,13,14,15] fun h9 c2 f=>?_;have g:=o;refine AK Z Z<|AK Z Z<|AK Z Z<|AK Z Z<|vd Z (fun _=>Ae Z)<|vd Z (fun _=>As AO Z Z Ad Ad)<|vc Z f.kp (g.mv.kw AL Z Ad)<|AK Z Z<|AK Z Z ?_;refine vd Z (fun _=>Ae Z)<|vd Z (fun _=>As AO Z Z Ad Ad)<|vc Z f.kp (g.mv.kw AL Z Ad)<|vd Z (fun _=>Gq Z Z)<|vd Z (fun _=>Ae Z)<|vd Z (fun _=>As AO Z Z Ad Ad) ?_;refine WD.wild Z Z Z (CV AL Z Z o.mv Ad) ?_;rintro _ j0 ⟨o,c3⟩;refine WD.nil ?_;clear g;clear f;refine Ab<|AY r [] [0,0,0,0,0,0,1,0,0,0,0,1,0,2,0,0,3] [0,1,2,3,4,5,6,7,8,9,10,11,12,14,13,15,16] fun j1 c4 f=>?_;have g:=o;refine AK Z Z<|AK Z Z<|AK Z Z<|AK Z Z<|vd Z (fun _=>Ae Z)<|vd Z (fun _=>As AO Z Z Ad Ad)<|vc Z f.kp (g.mv.kw AL Z Ad)<|AK Z Z<|AK Z Z ?_;refine vd Z (fun _=>Ae Z)<|vd Z (fun _=>As AO Z Z Ad Ad)<|vc Z f.kp (g.mv.kw AL Z Ad)<|vd Z (fun _=>Eg Z Z)<|vd Z (fun _=>Ae Z) ?_;refine WD.AW Z Z Z (Al r 1 (Ay.call cr Z (KD _ 12 ss))) Z ?_;rintro e4 j2 ⟨t,a6,e0,rfl⟩;refine f.AX a6 fun f=>vd Z (fun _=>As AO Z Z Ad Ad) ?_;refine WD.wild Z Z Z (CV AL Z Z o.mv Ad) ?_;rintro _ e5 ⟨o,b0⟩;refine WD.nil ?_;clear g;clear f;refine Ab<|AY t [] [0,0,0,0,0,0,1,0,0,0,0,1,0,0,0,0,0,3] [0,1,2,3,4,5,6,7,8,9,10,11,12,13,14,15,16,17] fun e6 b1 f=>?_;have g:=o;refine AK Z Z<|AK Z Z<|AK Z Z<|AK Z Z<|vd Z (fun _=>Ae Z)<|vd Z (fun _=>As AO Z Z Ad Ad)<|vc Z f.kp (g.mv.kw AL Z Ad)<|AK Z Z<|AK Z Z ?_;refine vd Z (fun _=>Ae Z)<|vd Z (fun _=>As AO Z Z Ad Ad)<|vc Z f.kp (g.mv.kw AL Z Ad)<|vd Z (fun _=>Gq Z Z)<|AK Z Z<|vd Z (fun _=>Gq Z Z)<|vd Z (fun _=>Ae Z)<|vd Z (fun _=>As AO Z Z Ad Ad) ?_;refine WD.wild Z Z Z (CV AL Z Z o.mv Ad) ?_;rintro _ e7 ⟨o,b2⟩;refine WD.nil ?_;clear g;clear f;refine Ab<|AY t [] [0,0,0,0,0,0,1,0,0,0,0,1,0,2,0,0,3] [0,1,2,3,4,5,6,7,8,9,10,11,12,14,13,15,16] fun e8 b3 f=>?_;have g:=o;refine AK Z Z<|AK Z Z<|AK Z Z<|AK Z Z<|vd Z (fun _=>Ae Z)<|vd Z (fun _=>As AO Z Z Ad Ad)<|vc Z f.kp (g.mv.kw AL Z Ad)<|AK Z Z<|AK Z Z ?_;refine vd Z (fun _=>Ae Z)<|vd Z (fun _=>As AO Z Z Ad Ad)<|vc Z f.kp (g.mv.kw AL Z Ad)<|vd Z (fun _=>Eg Z Z)<|vd Z (fun _=>Ae Z) ?_;refine WD.AW Z Z Z (Al t 1 (Ay.call cr Z (KD _ 8 ss))) Z ?_;rintro e1 e9 ⟨p,R,c7,rfl⟩;refine f.AX R fun f=>vd Z (fun _=>As AO Z Z Ad Ad) ?_;refine WD.wild Z Z Z (CV AL Z Z o.mv Ad) ?_;rintro _ h0 ⟨o,b4⟩;refine WD.nil ?_;clear g;clear f;refine Ab<|AY p [] [0,0,0,0,0,0,1,0,0,0,0,1,0,0,0,3] [0,1,2,3,4,5,6,7,8,9,10,11,12,13,14,15] fun h1 b5 f=>?_;have g:=o;refine AK Z Z<|AK Z Z<|AK Z Z<|AK Z Z<|vd Z (fun _=>Ae Z)<|vd Z (fun _=>As AO Z Z Ad Ad)<|vc Z f.kp (g.mv.kw AL Z Ad)<|AK Z Z<|AK Z Z ?_;refine vd Z (fun _=>Ae Z)<|vd Z (fun _=>As AO Z Z Ad Ad)<|vc Z f.kp (g.mv.kw AL Z Ad)<|vd Z (fun _=>Gq Z Z)<|vd Z (fun _=>Ae Z)<|vd Z (fun _=>As AO Z Z Ad Ad) ?_;refine WD.wild Z Z Z (CV AL Z Z o.mv Ad) ?_;rintro _ h2 ⟨o,b6⟩;refine WD.nil ?_;clear g;clear f;refine AY p [] [0,0,0,0,0,0,1,0,0,0,0,1,0,2,0,0,3] [0,1,2,3,4,5,6,7,8,9,10,11,12,14,13,15,16] fun h3 b7 f=>AK Z Z<|AK Z Z<|AK Z Z<|AK Z Z<|vd Z (fun _=>Ae Z)<|vd Z (fun _=>As AO Z Z Ad Ad)<|vc Z f.kp (o.mv.kw AL Z Ad)<|AK Z Z<|AK Z Z ?_;refine vd Z (fun _=>Ae Z)<|vd Z (fun _=>As AO Z Z Ad Ad)<|vc Z f.kp (o.mv.kw AL Z Ad)<|vd Z (fun _=>Eg Z Z)<|vd Z (fun _=>Ae Z) ?_;refine WD.AW Z Z Z (Al p 1 (Ay.call cr Z (KD _ 7 ss))) Z ?_;rintro e2 h4 ⟨a7,U,c8,rfl⟩;refine f.AX U fun f=>vd Z (fun _=>As AO Z Z Ad Ad) ?_;refine WD.wild Z Z Z (CV AL Z Z o.mv Ad) ?_;rintro _ h5 ⟨o,b9⟩;refine WD.nil ?_;clear f;refine⟨_,_,Z,Z,?_⟩;have e:=o.Ap;subst hc;refine⟨Z,J.mv.OD,?_⟩;try simp only[pv] at e
 simpa only[Iy] using e
abbrev LL:List Value:=MX.flatMap fun l=>l.map fun n=>I ((n:Nat):Int)
abbrev SB:List Value:=Lr.flatMap fun l=>l.map fun n=>I ((n:Nat):Int)
theorem SC:Calls QP 56 #[] w (AP fun v w'=>Below w.heap.size w w'∧v= .agg (Cv.map DB).toArray):=by
 obtain⟨c,g,hc⟩:=AQ.start w;refine enter (n:=2) (res:=#[.cell 0 132]) Tryz.func56 Z Z Z Z<|Ab<|cg<|Db c 100 Mn fun w1 i c1 j f=>?_;refine Ac<|Ab<|cg<|vq (AB (cells:=#[.int .u32 1779033703, .int .u32 3144134277, .int .u32 1013904242, .int .u32 2773480762, .int .u32 1359893119, .int .u32 2600822924, .int .u32 528734635, .int .u32 1541459225]) Z kr) ?_;refine WR.AI (Am Hz Z Z f Z Z AG) ?_;rintro _ w2 ⟨f,l⟩;refine Ac<|Fz Z (Br Hz Z f.Ap Z) ?_;exact⟨g.mv.below,Z⟩
theorem UA:Calls QP 168 #[] w (AP fun v w'=>Below w.heap.size w w'∧v= .agg (Cv.map DB).toArray):=by
 obtain⟨c,g,hc⟩:=AQ.start w;refine enter (n:=2) (res:=#[.cell 0 132]) Tryz.func168 Z Z Z Z<|Ab<|cg<|Db c 100 Mn fun w1 i c1 j f=>?_;refine Ac<|Ab<|cg<|vq (AB (cells:=#[.int .u32 1779033703, .int .u32 3144134277, .int .u32 1013904242, .int .u32 2773480762, .int .u32 1359893119, .int .u32 2600822924, .int .u32 528734635, .int .u32 1541459225]) Z kr) ?_;refine WR.AI (Am Hz Z Z f Z Z AG) ?_;rintro _ w2 ⟨f,l⟩;refine Ac<|Fz Z (Br Hz Z f.Ap Z) ?_;exact⟨g.mv.below,Z⟩
theorem ml:Calls QP 106 #[] w (AP fun v w'=>Below w.heap.size w w'∧v= .agg LL.toArray):=by
 obtain⟨c,g,hc⟩:=AQ.start w;refine enter (n:=12) (res:=#[.cell 0 208]) Tryz.func106 Z Z Z Z<|Ab<|cg<|Db c 100 Wj fun w1 i c1 j f=>?_;refine Ac<|Ab<|cg<|vq (AB (cells:=#[.int .i64 0, .int .i64 1, .int .i64 2, .int .i64 3, .int .i64 4, .int .i64 5, .int .i64 6, .int .i64 7, .int .i64 8, .int .i64 9, .int .i64 10, .int .i64 11, .int .i64 12, .int .i64 13, .int .i64 14, .int .i64 15]) Z kr)<|vq (AB (cells:=#[.int .i64 14, .int .i64 10, .int .i64 4, .int .i64 8, .int .i64 9, .int .i64 15, .int .i64 13, .int .i64 6, .int .i64 1, .int .i64 12, .int .i64 0, .int .i64 2, .int .i64 11, .int .i64 7, .int .i64 5, .int .i64 3]) Z kr)<|vq (AB (cells:=#[.int .i64 11, .int .i64 8, .int .i64 12, .int .i64 0, .int .i64 5, .int .i64 2, .int .i64 15, .int .i64 13, .int .i64 10, .int .i64 14, .int .i64 3, .int .i64 6, .int .i64 7, .int .i64 1, .int .i64 9, .int .i64 4]) Z kr)<|vq (AB (cells:=#[.int .i64 7, .int .i64 9, .int .i64 3, .int .i64 1, .int .i64 13, .int .i64 12, .int .i64 11, .int .i64 14, .int .i64 2, .int .i64 6, .int .i64 5, .int .i64 10, .int .i64 4, .int .i64 0, .int .i64 15, .int .i64 8]) Z kr)<|vq (AB (cells:=#[.int .i64 9, .int .i64 0, .int .i64 5, .int .i64 7, .int .i64 2, .int .i64 4, .int .i64 10, .int .i64 15, .int .i64 14, .int .i64 1, .int .i64 11, .int .i64 12, .int .i64 6, .int .i64 8, .int .i64 3, .int .i64 13]) Z kr)<|vq (AB (cells:=#[.int .i64 2, .int .i64 12, .int .i64 6, .int .i64 10, .int .i64 0, .int .i64 11, .int .i64 8, .int .i64 3, .int .i64 4, .int .i64 13, .int .i64 7, .int .i64 5, .int .i64 15, .int .i64 14, .int .i64 1, .int .i64 9]) Z kr) ?_;refine vq (AB (cells:=#[.int .i64 12, .int .i64 5, .int .i64 1, .int .i64 15, .int .i64 14, .int .i64 13, .int .i64 4, .int .i64 10, .int .i64 0, .int .i64 7, .int .i64 6, .int .i64 3, .int .i64 9, .int .i64 2, .int .i64 8, .int .i64 11]) Z kr)<|vq (AB (cells:=#[.int .i64 13, .int .i64 11, .int .i64 7, .int .i64 14, .int .i64 12, .int .i64 1, .int .i64 3, .int .i64 9, .int .i64 5, .int .i64 0, .int .i64 15, .int .i64 4, .int .i64 8, .int .i64 6, .int .i64 2, .int .i64 10]) Z kr)<|vq (AB (cells:=#[.int .i64 6, .int .i64 15, .int .i64 14, .int .i64 9, .int .i64 11, .int .i64 3, .int .i64 0, .int .i64 8, .int .i64 12, .int .i64 2, .int .i64 13, .int .i64 7, .int .i64 1, .int .i64 4, .int .i64 10, .int .i64 5]) Z kr)<|vq (AB (cells:=#[.int .i64 10, .int .i64 2, .int .i64 8, .int .i64 4, .int .i64 7, .int .i64 6, .int .i64 1, .int .i64 5, .int .i64 15, .int .i64 11, .int .i64 9, .int .i64 14, .int .i64 3, .int .i64 12, .int .i64 13, .int .i64 0]) Z kr)<|vq (AB (cells:=#[.int .i64 0, .int .i64 1, .int .i64 2, .int .i64 3, .int .i64 4, .int .i64 5, .int .i64 6, .int .i64 7, .int .i64 8, .int .i64 9, .int .i64 10, .int .i64 11, .int .i64 12, .int .i64 13, .int .i64 14, .int .i64 15, .int .i64 14, .int .i64 10, .int .i64 4, .int .i64 8, .int .i64 9, .int .i64 15, .int .i64 13, .int .i64 6, .int .i64 1, .int .i64 12, .int .i64 0, .int .i64 2, .int .i64 11, .int .i64 7, .int .i64 5, .int .i64 3, .int .i64 11, .int .i64 8, .int .i64 12, .int .i64 0, .int .i64 5, .int .i64 2, .int .i64 15, .int .i64 13, .int .i64 10, .int .i64 14, .int .i64 3, .int .i64 6, .int .i64 7, .int .i64 1, .int .i64 9, .int .i64 4, .int .i64 7, .int .i64 9, .int .i64 3, .int .i64 1, .int .i64 13, .int .i64 12, .int .i64 11, .int .i64 14, .int .i64 2, .int .i64 6, .int .i64 5, .int .i64 10, .int .i64 4, .int .i64 0, .int .i64 15, .int .i64 8, .int .i64 9, .int .i64 0, .int .i64 5, .int .i64 7, .int .i64 2, .int .i64 4, .int .i64 10, .int .i64 15, .int .i64 14, .int .i64 1, .int .i64 11, .int .i64 12, .int .i64 6, .int .i64 8, .int .i64 3, .int .i64 13, .int .i64 2, .int .i64 12, .int .i64 6, .int .i64 10, .int .i64 0, .int .i64 11, .int .i64 8, .int .i64 3, .int .i64 4, .int .i64 13, .int .i64 7, .int .i64 5, .int .i64 15, .int .i64 14, .int .i64 1, .int .i64 9, .int .i64 12, .int .i64 5, .int .i64 1, .int .i64 15, .int .i64 14, .int .i64 13, .int .i64 4, .int .i64 10, .int .i64 0, .int .i64 7, .int .i64 6, .int .i64 3, .int .i64 9, .int .i64 2, .int .i64 8, .int .i64 11, .int .i64 13, .int .i64 11, .int .i64 7, .int .i64 14, .int .i64 12, .int .i64 1, .int .i64 3, .int .i64 9, .int .i64 5, .int .i64 0, .int .i64 15, .int .i64 4, .int .i64 8, .int .i64 6, .int .i64 2, .int .i64 10, .int .i64 6, .int .i64 15, .int .i64 14, .int .i64 9, .int .i64 11, .int .i64 3, .int .i64 0, .int .i64 8, .int .i64 12, .int .i64 2, .int .i64 13, .int .i64 7, .int .i64 1, .int .i64 4, .int .i64 10, .int .i64 5, .int .i64 10, .int .i64 2, .int .i64 8, .int .i64 4, .int .i64 7, .int .i64 6, .int .i64 1, .int .i64 5, .int .i64 15, .int .i64 11, .int .i64 9, .int .i64 14, .int .i64 3, .int .i64 12, .int .i64 13, .int .i64 0]) Z kr) ?_;refine WR.AI (Am Sg Z Z f Z Z AG) ?_;rintro _ w2 ⟨f,l⟩;refine Ac<|Fz Z (Br Sg Z f.Ap Z) ?_;exact⟨g.mv.below,Z⟩
theorem ei:Calls QP 261 #[] w (AP fun v w'=>Below w.heap.size w w'∧v= .agg LL.toArray):=by
 obtain⟨c,g,hc⟩:=AQ.start w;refine enter (n:=12) (res:=#[.cell 0 208]) Tryz.func261 Z Z Z Z<|Ab<|cg<|Db c 100 Wj fun w1 i c1 j f=>?_;refine Ac<|Ab<|cg<|vq (AB (cells:=#[.int .i64 0, .int .i64 1, .int .i64 2, .int .i64 3, .int .i64 4, .int .i64 5, .int .i64 6, .int .i64 7, .int .i64 8, .int .i64 9, .int .i64 10, .int .i64 11, .int .i64 12, .int .i64 13, .int .i64 14, .int .i64 15]) Z kr)<|vq (AB (cells:=#[.int .i64 14, .int .i64 10, .int .i64 4, .int .i64 8, .int .i64 9, .int .i64 15, .int .i64 13, .int .i64 6, .int .i64 1, .int .i64 12, .int .i64 0, .int .i64 2, .int .i64 11, .int .i64 7, .int .i64 5, .int .i64 3]) Z kr)<|vq (AB (cells:=#[.int .i64 11, .int .i64 8, .int .i64 12, .int .i64 0, .int .i64 5, .int .i64 2, .int .i64 15, .int .i64 13, .int .i64 10, .int .i64 14, .int .i64 3, .int .i64 6, .int .i64 7, .int .i64 1, .int .i64 9, .int .i64 4]) Z kr)<|vq (AB (cells:=#[.int .i64 7, .int .i64 9, .int .i64 3, .int .i64 1, .int .i64 13, .int .i64 12, .int .i64 11, .int .i64 14, .int .i64 2, .int .i64 6, .int .i64 5, .int .i64 10, .int .i64 4, .int .i64 0, .int .i64 15, .int .i64 8]) Z kr)<|vq (AB (cells:=#[.int .i64 9, .int .i64 0, .int .i64 5, .int .i64 7, .int .i64 2, .int .i64 4, .int .i64 10, .int .i64 15, .int .i64 14, .int .i64 1, .int .i64 11, .int .i64 12, .int .i64 6, .int .i64 8, .int .i64 3, .int .i64 13]) Z kr)<|vq (AB (cells:=#[.int .i64 2, .int .i64 12, .int .i64 6, .int .i64 10, .int .i64 0, .int .i64 11, .int .i64 8, .int .i64 3, .int .i64 4, .int .i64 13, .int .i64 7, .int .i64 5, .int .i64 15, .int .i64 14, .int .i64 1, .int .i64 9]) Z kr) ?_;refine vq (AB (cells:=#[.int .i64 12, .int .i64 5, .int .i64 1, .int .i64 15, .int .i64 14, .int .i64 13, .int .i64 4, .int .i64 10, .int .i64 0, .int .i64 7, .int .i64 6, .int .i64 3, .int .i64 9, .int .i64 2, .int .i64 8, .int .i64 11]) Z kr)<|vq (AB (cells:=#[.int .i64 13, .int .i64 11, .int .i64 7, .int .i64 14, .int .i64 12, .int .i64 1, .int .i64 3, .int .i64 9, .int .i64 5, .int .i64 0, .int .i64 15, .int .i64 4, .int .i64 8, .int .i64 6, .int .i64 2, .int .i64 10]) Z kr)<|vq (AB (cells:=#[.int .i64 6, .int .i64 15, .int .i64 14, .int .i64 9, .int .i64 11, .int .i64 3, .int .i64 0, .int .i64 8, .int .i64 12, .int .i64 2, .int .i64 13, .int .i64 7, .int .i64 1, .int .i64 4, .int .i64 10, .int .i64 5]) Z kr)<|vq (AB (cells:=#[.int .i64 10, .int .i64 2, .int .i64 8, .int .i64 4, .int .i64 7, .int .i64 6, .int .i64 1, .int .i64 5, .int .i64 15, .int .i64 11, .int .i64 9, .int .i64 14, .int .i64 3, .int .i64 12, .int .i64 13, .int .i64 0]) Z kr)<|vq (AB (cells:=#[.int .i64 0, .int .i64 1, .int .i64 2, .int .i64 3, .int .i64 4, .int .i64 5, .int .i64 6, .int .i64 7, .int .i64 8, .int .i64 9, .int .i64 10, .int .i64 11, .int .i64 12, .int .i64 13, .int .i64 14, .int .i64 15, .int .i64 14, .int .i64 10, .int .i64 4, .int .i64 8, .int .i64 9, .int .i64 15, .int .i64 13, .int .i64 6, .int .i64 1, .int .i64 12, .int .i64 0, .int .i64 2, .int .i64 11, .int .i64 7, .int .i64 5, .int .i64 3, .int .i64 11, .int .i64 8, .int .i64 12, .int .i64 0, .int .i64 5, .int .i64 2, .int .i64 15, .int .i64 13, .int .i64 10, .int .i64 14, .int .i64 3, .int .i64 6, .int .i64 7, .int .i64 1, .int .i64 9, .int .i64 4, .int .i64 7, .int .i64 9, .int .i64 3, .int .i64 1, .int .i64 13, .int .i64 12, .int .i64 11, .int .i64 14, .int .i64 2, .int .i64 6, .int .i64 5, .int .i64 10, .int .i64 4, .int .i64 0, .int .i64 15, .int .i64 8, .int .i64 9, .int .i64 0, .int .i64 5, .int .i64 7, .int .i64 2, .int .i64 4, .int .i64 10, .int .i64 15, .int .i64 14, .int .i64 1, .int .i64 11, .int .i64 12, .int .i64 6, .int .i64 8, .int .i64 3, .int .i64 13, .int .i64 2, .int .i64 12, .int .i64 6, .int .i64 10, .int .i64 0, .int .i64 11, .int .i64 8, .int .i64 3, .int .i64 4, .int .i64 13, .int .i64 7, .int .i64 5, .int .i64 15, .int .i64 14, .int .i64 1, .int .i64 9, .int .i64 12, .int .i64 5, .int .i64 1, .int .i64 15, .int .i64 14, .int .i64 13, .int .i64 4, .int .i64 10, .int .i64 0, .int .i64 7, .int .i64 6, .int .i64 3, .int .i64 9, .int .i64 2, .int .i64 8, .int .i64 11, .int .i64 13, .int .i64 11, .int .i64 7, .int .i64 14, .int .i64 12, .int .i64 1, .int .i64 3, .int .i64 9, .int .i64 5, .int .i64 0, .int .i64 15, .int .i64 4, .int .i64 8, .int .i64 6, .int .i64 2, .int .i64 10, .int .i64 6, .int .i64 15, .int .i64 14, .int .i64 9, .int .i64 11, .int .i64 3, .int .i64 0, .int .i64 8, .int .i64 12, .int .i64 2, .int .i64 13, .int .i64 7, .int .i64 1, .int .i64 4, .int .i64 10, .int .i64 5, .int .i64 10, .int .i64 2, .int .i64 8, .int .i64 4, .int .i64 7, .int .i64 6, .int .i64 1, .int .i64 5, .int .i64 15, .int .i64 11, .int .i64 9, .int .i64 14, .int .i64 3, .int .i64 12, .int .i64 13, .int .i64 0]) Z kr) ?_;refine WR.AI (Am Sg Z Z f Z Z AG) ?_;rintro _ w2 ⟨f,l⟩;refine Ac<|Fz Z (Br Sg Z f.Ap Z) ?_;exact⟨g.mv.below,Z⟩
theorem XX:Calls QP 262 #[] w (AP fun v w'=>Below w.heap.size w w'∧v= .agg SB.toArray):=by
 obtain⟨c,g,hc⟩:=AQ.start w;refine enter (n:=10) (res:=#[.cell 0 364]) Tryz.func262 Z Z Z Z<|Ab<|cg<|Db c 100 mg fun w1 i c1 j f=>?_;refine Ac<|Ab<|cg<|vq (AB (cells:=#[.int .i64 0, .int .i64 4, .int .i64 8, .int .i64 12]) Z kr)<|vq (AB (cells:=#[.int .i64 1, .int .i64 5, .int .i64 9, .int .i64 13]) Z kr)<|vq (AB (cells:=#[.int .i64 2, .int .i64 6, .int .i64 10, .int .i64 14]) Z kr)<|vq (AB (cells:=#[.int .i64 3, .int .i64 7, .int .i64 11, .int .i64 15]) Z kr)<|vq (AB (cells:=#[.int .i64 0, .int .i64 5, .int .i64 10, .int .i64 15]) Z kr)<|vq (AB (cells:=#[.int .i64 1, .int .i64 6, .int .i64 11, .int .i64 12]) Z kr) ?_;refine vq (AB (cells:=#[.int .i64 2, .int .i64 7, .int .i64 8, .int .i64 13]) Z kr)<|vq (AB (cells:=#[.int .i64 3, .int .i64 4, .int .i64 9, .int .i64 14]) Z kr)<|vq (AB (cells:=#[.int .i64 0, .int .i64 4, .int .i64 8, .int .i64 12, .int .i64 1, .int .i64 5, .int .i64 9, .int .i64 13, .int .i64 2, .int .i64 6, .int .i64 10, .int .i64 14, .int .i64 3, .int .i64 7, .int .i64 11, .int .i64 15, .int .i64 0, .int .i64 5, .int .i64 10, .int .i64 15, .int .i64 1, .int .i64 6, .int .i64 11, .int .i64 12, .int .i64 2, .int .i64 7, .int .i64 8, .int .i64 13, .int .i64 3, .int .i64 4, .int .i64 9, .int .i64 14]) Z kr) ?_;refine WR.AI (Am hq Z Z f Z Z AG) ?_;rintro _ w2 ⟨f,l⟩;refine Ac<|Fz Z (Br hq Z f.Ap Z) ?_;exact⟨g.mv.below,Z⟩
theorem UB(r:Nat)(h:r<10)(l:List Nat)(f:MX[r]?=some l):(LL.drop (0+r*16)).take 16=l.map fun n=>I ((n:Nat):Int):=by
 have:r=0∨r=1∨r=2∨r=3∨r=4∨r=5∨r=6∨r=7∨r=8∨r=9:=oo;rcases this with rfl|rfl|rfl|rfl|rfl|rfl|rfl|rfl|rfl|rfl<;>(injection f with f;subst f;rfl)
theorem iq:∀v∈LL,v.oneCell'=true:=fun v hv=>by
 obtain⟨l,_,hl⟩:=Af2.1 hv;obtain⟨n,_,rfl⟩:=zc.1 hl;rfl
theorem ir{env:Env}{x:Operand}{ty:TypeId}{b r:Nat}{l:List Nat}{T:TypeId}(g:FG w b LL T)(hx:Ba env x=some (.pointer (some ⟨b,0+((r:Nat):Int).toNat*16,none⟩)))(h:r<10)(i:MX[r]?=some l):
 Bp QP env w (.load 207 x) ty (.agg (l.map fun n=>I ((n:Nat):Int)).toArray):=by
 have f:=Cy (ty:=ty) VW hx g (by rw[show LL.length=160 from Z];omega);rwa [pv,UB r h l i] at f
abbrev d8:TypeId:=132
theorem UC{b:Nat}{h:List Int}(e8:FG w b (h.map DB++[]) d8)(hl:h.length=8)(s:List UInt8)(hs:s.length≤64)(n:Int)(h0:0≤n)(s4:n<9223372036854775808)(a6:Bool):
 Calls QP 57 #[.pointer (some ⟨b,0,none⟩),St s, .int .u64 n, .bool a6] w (AP fun v w'=>w.grownBy w' (some b)∧FG w' b ((Gb h s n a6).map DB++[]) d8):=by
 obtain⟨c,hc⟩:∃c:Nat→Nat,c=Av b:=⟨_,Z⟩;have i:Ar c w 2 b (h.map DB++[]) d8:=⟨e8,by rw[hc,RI]⟩;have C:Acc c w [2,108,110,111,113,115] c w:=Acc.refl _ _ _;clear e8;refine enter (n:=177) (res:=#[]) Tryz.func57 Z Z Z Z<|Ab<|cg<|Db c 108 RF fun w1 b8 c1 q0 j=>?_;refine Ac<|Ab<|Ab<|cg<|za Z<|Ac<|Ai ?_;replace j:Ar _ _ 108 b8 ((wk s 0).map DB++[]) dV:=j;refine WC.loop (σ:=Nat) (fun k=>[(0, .pointer (some ⟨b,0,none⟩)),(1,St s),(2, .int .u64 n),(3, .bool a6),(8, .pointer (some ⟨b8,0,none⟩)),(9,I k)]) (fun k w'=>∃c',Ar c' w' 2 b (h.map DB++[]) d8∧Ar c' w' 108 b8 ((wk s k).map DB++[]) dV∧Acc c w [2,108,110,111,113,115] c' w'∧k≤s.length) (fun k=>s.length-k) 0 Aq ⟨_,i.mv,j,C.mv,by omega⟩ ?_;clear i j C;rintro k a14 ⟨e7,i,j,C,hk⟩;have p4:=Ms s k;refine Ab<|Ab<|cg<|zm Z<|zm Z<|vq (Bp.BY gx Z)<|vq (AE Z Z)<|Ac<|AS Z (fun o9=>?_) fun o9=>?_
 ·have b6:k<s.length:=oo;refine Aj<|Ab<|Ai<|AY e7 [] [0,0,0,0,0,1,0,0,0,0,0,0,0,0,0,0,3] [0,1,2,3,4,5,6,7,8,9,10,11,12,13,14,15,16] fun w2 q7 g=>?_;refine AK Z Z<|vd Z (fun _=>Rk Z Z Ad Ad Ad)<|AK Z Z<|vd Z (fun _=>Rk Z Z Ad Ad Ad)<|vd Z (fun _=>As AO Z Z Ad Ad)<|vc Z g.kp (j.mv.kw AL Z Ad)<|AK Z Z<|AK Z Z<|vd Z (fun _=>Gy gx Z Z oo (aa b6)) ?_;refine vd Z (fun _=>Ht yR VL Z)<|AK Z Z<|vd Z (fun _=>Xr Z Z Ad Ad)<|vd Z (fun _=>FZ Z Z Ad Ad)<|vd Z (fun _=>Ry Z Z Ad Ad)<|vd Z (fun _=>VV Z Z)<|vd Z (fun _=>As AO Z Z Ad Ad) ?_;refine WD.wild Z Z Z (CV AL Z Z j.mv Ad) ?_;rintro _ a01 ⟨j,r3⟩;refine WD.nil ?_;clear g;refine cg<|zm Z<|vq (AH Z Z Ad Ad)<|za Z<|Ac ?_;rw[cI b6] at j;exact⟨k+1,Aq,⟨_,i.mv,j,C.mv,b6⟩,by omega⟩
 have:k=s.length:=oo;subst this;refine WC.exit Z<|Ab<|cg<|Db e7 110 RF fun a07 a8 k9 r8 f=>?_;refine Ac<|Ab<|cg<|ve (Al k9 1 (Ay.call sL Z (SC))) ?_;rintro x2 a08 ⟨l0,o3,s7,rfl⟩;refine Db l0 111 Mn fun a09 e5 p9 o4 b0=>WR.AI (Am Hz Z Z b0 Z Z AG) ?_;rintro _ a10 ⟨b0,o5⟩;refine Ac ?_;replace b0:=cM (l:=Cv) b0;refine Ab<|Ab<|cg<|za Z<|Ac<|Ai ?_;replace f:=((f.mv o3).mv o4).mv o5;replace f:Ar _ _ 110 a8 ((vk h 0).map DB++[]) dV:=f;refine WC.loop (σ:=Nat) (fun k=>[(0, .pointer (some ⟨b,0,none⟩)),(1,St s),(2, .int .u64 n),(3, .bool a6),(8, .pointer (some ⟨b8,0,none⟩)),(10, .pointer (some ⟨a8,0,none⟩)),(11, .pointer (some ⟨e5,0,none⟩)),(12,I k)]) (fun k w'=>∃c',Ar c' w' 2 b (h.map DB++[]) d8∧Ar c' w' 108 b8 ((BO s).map DB++[]) dV∧Ar c' w' 110 a8 ((vk h k).map DB++[]) dV∧Ar c' w' 111 e5 (Cv.map DB++[]) d8∧Acc c w [2,108,110,111,113,115] c' w'∧k≤8) (fun k=>8-k) 0 Aq ⟨_,i.mv,j.mv,f,b0,C.mv,by omega⟩ ?_;clear i j f b0 C;rintro k a15 ⟨l3,i,j,f,b0,C,hk⟩;have p3:=Uv h k;have s0:Cv.length=8:=rfl;refine Ab<|Ab<|cg<|zm Z<|vq (AE Z Z)<|Ac<|AS Z (fun p1=>?_) fun p1=>?_
 ·have p2:k<8:=oo;refine Aj<|Ab<|Ai<|AY l3 [110] [0,0,0,0,0,0,0,1,0,0,1,0,2,0,2] [0,1,2,3,4,5,6,7,8,9,10,11,12,13,14] fun a11 r9 g=>?_;refine AK Z Z<|AK Z Z<|vd Z (fun _=>AH Z Z Ad Ad)<|AK Z Z<|AK Z Z<|vd Z (fun _=>Ae Z)<|vd Z (fun _=>As GX Z Z Ad Ad)<|vc Z g.kp (i.mv.kw AL Z Ad)<|AK Z Z ?_;refine vd Z (fun _=>As GX Z Z Ad Ad)<|vc Z g.kp (b0.mv.kw AL Z Ad)<|vd Z (fun _=>As AO Z Z Ad Ad) ?_;refine WD.AI Z Z Z (CV AL Z Z f.mv Ad) ?_;rintro _ p5 ⟨f,o6⟩;refine g.AX o6 fun g=>vd Z (fun _=>As AO Z Z Ad Ad) ?_;refine WD.AI Z Z Z (CV AL Z Z f Ad) ?_;rintro _ x5 ⟨f,n4⟩;refine g.AX n4 fun g=>WD.nil ?_;clear g;refine cg<|zm Z<|vq (AH Z Z Ad Ad)<|za Z<|Ac ?_;simp only[pv,show((k:Int)+8).toNat=k+8 by omega] at f;rw[←cJ] at f;exact⟨k+1,Aq,⟨_,i.mv,j.mv,f,b0.mv,C.mv,by omega⟩,by omega⟩
 have:k=8:=oo;subst this;rw[ig hl] at f;have p3:(h++Cv).length=16:=by rw[bU,hl];rfl
 refine WC.exit Z<|Ab<|cg<|vq (As AO Z Z Ad Ad)<|vq (NZ AL Z f.Ap Ad)<|zm Z<|vq (Ht zL VL Z)<|vq (Eg Z Z)<|vq (As AO Z Z Ad Ad) ?_;refine WR.AI (CV AL Z Z f Ad) ?_;rintro _ x6 ⟨f,q1⟩;refine Ac<|Ab<|cg<|vq (As AO Z Z Ad Ad)<|vq (NZ AL Z f.Ap Ad)<|zm Z<|vq (Ir Z Z Ad (by simp[IntKind.bits]<;>omega))<|vq (Ht zL VL Z)<|vq (Eg Z Z) ?_;refine vq (As AO Z Z Ad Ad) ?_;refine WR.AI (CV AL Z Z f Ad) ?_;rintro _ x7 ⟨f,q2⟩;refine Ac ?_;rw[show(2:Int)^(32:Int).toNat=4294967296 by decide] at f;refine Ab<|Ab<|cg<|zm Z<|Ac<|WC.mono (N:=fun e w'=>∃c',Sub [(4000000, .tuple #[]),(0, .pointer (some ⟨b,0,none⟩)),(8, .pointer (some ⟨b8,0,none⟩)),(10, .pointer (some ⟨a8,0,none⟩))] e∧Ar c' w' 2 b (h.map DB++[]) d8∧Ar c' w' 108 b8 ((BO s).map DB++[]) dV∧Ar c' w' 110 a8 ((DZ h n a6).map DB++[]) dV∧Acc c w [2,108,110,111,113,115] c' w') ?_ ?_
 ·refine AS Z (fun b5=>?_) fun b5=>?_
  ·refine cg<|vq (As AO Z Z Ad Ad)<|vq (NZ AL Z f.Ap Ad)<|vq (hn Z)<|vq (As AO Z Z Ad Ad) ?_;refine WR.AI (CV AL Z Z f Ad) ?_;rintro _ x8 ⟨f,q3⟩;refine Ac ?_;exact⟨_,Aq,i.mv,j.mv,by rw[DZ,b5];exact f,C.mv⟩
  refine Aj ?_;exact⟨_,Aq,i.mv,j.mv,by rw[DZ,b5];exact f,C.mv⟩
 rintro b4 p5 ⟨l1,h2,i,j,f,C⟩;refine WC.sub h2 ?_;clear h2 b4;have p4:(BO s).length=16:=Nc s;refine Ab<|cg<|ve (Al l1 1 (Ay.call sT rfl (ml))) ?_;rintro x3 x9 ⟨k0,b1,s6,rfl⟩;refine Db k0 113 Wj fun y0 e6 p7 b2 J=>WR.AI (Am Sg rfl rfl J rfl rfl iq) ?_;rintro _ a12 ⟨o7,b3⟩;replace i:=(i.mv b1).mv b2;replace j:=(j.mv b1).mv b2;replace f:=(f.mv b1).mv b2;replace C:=(C.mv b1).mv b2;replace i:=i.mv b3;replace j:=j.mv b3;replace f:=f.mv b3;replace C:=C.mv b3;replace J:=o7;refine Ac<|Ab<|Ab<|cg<|za rfl<|Ac<|Ai<|WC.loop (σ:=Nat) (fun r=>[(0, .pointer (some ⟨b,0,none⟩)),(8, .pointer (some ⟨b8,0,none⟩)),(10, .pointer (some ⟨a8,0,none⟩)),(13, .pointer (some ⟨e6,0,none⟩)),(14,I r)]) (fun r w'=>∃c',Ar c' w' 2 b (h.map DB++[]) d8∧Ar c' w' 108 b8 ((BO s).map DB++[]) dV∧Ar c' w' 110 a8 ((rk (BO s) (DZ h n a6) r).map DB++[]) dV∧Ar c' w' 113 e6 LL 208∧Acc c w [2,108,110,111,113,115] c' w'∧r≤10) (fun r=>10-r) 0 Aq ⟨_,i,j,f,J,C,by omega⟩ ?_;clear i j f J C;rintro r wr ⟨l4,i,j,f,J,C,s5⟩;have t:(rk (BO s) (DZ h n a6) r).length=16:=by rw[PR,Nb hl]
 refine Ab<|Ab<|cg<|zm Z<|vq (AE Z Z)<|Ac<|AS Z (fun o8=>?_) fun o8=>?_
 ·have e9:r<10:=oo;generalize l5:rk (BO s) (DZ h n a6) r=c7 at f t;obtain⟨h4,h5,j2,j3,j4,j5,j6,j7,j8,j9,h6,h7,h8,h9,j0,j1,h1,s8,s9,u6,u7,u9,v7,v8,w0,w3,w4,u0,u1,u2,u3,u4,u5⟩:=XV r e9;refine Aj<|Ab<|Ai<|Ab<|cg<|zm Z<|vq (As hr Z Z Ad Ad) ?_;refine vq (ir J.Ap Z e9 h1)<|Db l4 115 cF fun y1 p6 k1 q4 a7=>?_;refine WR.AI (Am VW Z Z a7 Z Z AG) ?_;rintro _ y2 ⟨a7,q5⟩;refine Ac<|Ab<|AY k1 [110] [0,1,0,1,0,1,0,1,2] [0,1,2,3,4,5,6,7,8] fun y3 q6 g=>?_;have a1:=i;have p:=j;have R:=f;have U:=J;have o:=a7;refine vd Z (fun _=>As Ft Z Z Ad Ad)<|vc Z g.kp (o.mv.kb Au Z Z)<|vd Z (fun _=>As AO Z Z Ad Ad)<|vc Z g.kp (p.mv.kw AL Z Ad)<|vd Z (fun _=>As Ft Z Z Ad Ad)<|vc Z g.kp (o.mv.kb Au Z Z)<|vd Z (fun _=>As AO Z Z Ad Ad)<|vc Z g.kp (p.mv.kw AL Z Ad) ?_;refine WD.AW Z Z Z (LK f.mv (Ay.call QF Z (Jx f.mv.Ap t 0 4 8 12 dd dd dd dd _ _))) Z ?_;rintro x4 y4 ⟨k2,n5,f⟩;refine g.AX n5 fun g=>?_;simp only[pv] at f;have b7:=DU c7 0 4 8 12 (gW (BO s) h4) (gW (BO s) h5);rw[t] at b7;generalize l6:Iy c7 0 4 8 12 _ _=c8 at f b7;replace t:=b7;refine WD.nil ?_;clear a1 p R U o;clear g;refine Ab<|AY k2 [110] [0,1,0,1,0,1,0,1,2] [0,1,2,3,4,5,6,7,8] fun y5 q8 g=>?_;have a1:=i;have p:=j;have R:=f;have U:=J;have o:=a7;refine vd Z (fun _=>As Ft Z Z Ad Ad)<|vc Z g.kp (o.mv.kb Au Z Z)<|vd Z (fun _=>As AO Z Z Ad Ad)<|vc Z g.kp (p.mv.kw AL Z Ad)<|vd Z (fun _=>As Ft Z Z Ad Ad)<|vc Z g.kp (o.mv.kb Au Z Z)<|vd Z (fun _=>As AO Z Z Ad Ad)<|vc Z g.kp (p.mv.kw AL Z Ad) ?_;refine WD.AW Z Z Z (LK f.mv (Ay.call QF Z (Jx f.mv.Ap t 1 5 9 13 dd dd dd dd _ _))) Z ?_;rintro w5 y6 ⟨k3,n6,f⟩;refine g.AX n6 fun g=>?_;simp only[pv] at f;have b9:=DU c8 1 5 9 13 (gW (BO s) j2) (gW (BO s) j3);rw[t] at b9;generalize l7:Iy c8 1 5 9 13 _ _=c9 at f b9;replace t:=b9;refine WD.nil ?_;clear a1 p R U o;clear g;refine Ab<|AY k3 [110] [0,1,0,1,0,1,0,1,2] [0,1,2,3,4,5,6,7,8] fun y7 q9 g=>?_;have a1:=i;have p:=j;have R:=f;have U:=J;have o:=a7;refine vd Z (fun _=>As Ft Z Z Ad Ad)<|vc Z g.kp (o.mv.kb Au Z Z)<|vd Z (fun _=>As AO Z Z Ad Ad)<|vc Z g.kp (p.mv.kw AL Z Ad)<|vd Z (fun _=>As Ft Z Z Ad Ad)<|vc Z g.kp (o.mv.kb Au Z Z)<|vd Z (fun _=>As AO Z Z Ad Ad)<|vc Z g.kp (p.mv.kw AL Z Ad) ?_;refine WD.AW Z Z Z (LK f.mv (Ay.call QF Z (Jx f.mv.Ap t 2 6 10 14 dd dd dd dd _ _))) Z ?_;rintro w6 y8 ⟨k4,n7,f⟩;refine g.AX n7 fun g=>?_;simp only[pv] at f;have c0:=DU c9 2 6 10 14 (gW (BO s) j4) (gW (BO s) j5);rw[t] at c0;generalize l8:Iy c9 2 6 10 14 _ _=e0 at f c0;replace t:=c0;refine WD.nil ?_;clear a1 p R U o;clear g;refine Ab<|AY k4 [110] [0,1,0,1,0,1,0,1,2] [0,1,2,3,4,5,6,7,8] fun y9 r0 g=>?_;have a1:=i;have p:=j;have R:=f;have U:=J;have o:=a7;refine vd Z (fun _=>As Ft Z Z Ad Ad)<|vc Z g.kp (o.mv.kb Au Z Z)<|vd Z (fun _=>As AO Z Z Ad Ad)<|vc Z g.kp (p.mv.kw AL Z Ad)<|vd Z (fun _=>As Ft Z Z Ad Ad)<|vc Z g.kp (o.mv.kb Au Z Z)<|vd Z (fun _=>As AO Z Z Ad Ad)<|vc Z g.kp (p.mv.kw AL Z Ad) ?_;refine WD.AW Z Z Z (LK f.mv (Ay.call QF Z (Jx f.mv.Ap t 3 7 11 15 dd dd dd dd _ _))) Z ?_;rintro w7 z1 ⟨k5,n8,f⟩;refine g.AX n8 fun g=>?_;simp only[pv] at f;have c2:=DU e0 3 7 11 15 (gW (BO s) j6) (gW (BO s) j7);rw[t] at c2;generalize l9:Iy e0 3 7 11 15 _ _=e1 at f c2;replace t:=c2;refine WD.nil ?_;clear a1 p R U o;clear g;refine Ab<|AY k5 [110] [0,1,0,1,0,1,0,1,2] [0,1,2,3,4,5,6,7,8] fun z6 r1 g=>?_;have a1:=i;have p:=j;have R:=f;have U:=J;have o:=a7;refine vd Z (fun _=>As Ft Z Z Ad Ad)<|vc Z g.kp (o.mv.kb Au Z Z)<|vd Z (fun _=>As AO Z Z Ad Ad)<|vc Z g.kp (p.mv.kw AL Z Ad)<|vd Z (fun _=>As Ft Z Z Ad Ad)<|vc Z g.kp (o.mv.kb Au Z Z)<|vd Z (fun _=>As AO Z Z Ad Ad)<|vc Z g.kp (p.mv.kw AL Z Ad) ?_;refine WD.AW Z Z Z (LK f.mv (Ay.call QF Z (Jx f.mv.Ap t 0 5 10 15 dd dd dd dd _ _))) Z ?_;rintro w8 z7 ⟨k6,n9,f⟩;refine g.AX n9 fun g=>?_;simp only[pv] at f;have c3:=DU e1 0 5 10 15 (gW (BO s) j8) (gW (BO s) j9);rw[t] at c3;generalize n0:Iy e1 0 5 10 15 _ _=e2 at f c3;replace t:=c3;refine WD.nil ?_;clear a1 p R U o;clear g;refine Ab<|AY k6 [110] [0,1,0,1,0,1,0,1,2] [0,1,2,3,4,5,6,7,8] fun z8 r2 g=>?_;have a1:=i;have p:=j;have R:=f;have U:=J;have o:=a7;refine vd Z (fun _=>As Ft Z Z Ad Ad)<|vc Z g.kp (o.mv.kb Au Z Z)<|vd Z (fun _=>As AO Z Z Ad Ad)<|vc Z g.kp (p.mv.kw AL Z Ad)<|vd Z (fun _=>As Ft Z Z Ad Ad)<|vc Z g.kp (o.mv.kb Au Z Z)<|vd Z (fun _=>As AO Z Z Ad Ad)<|vc Z g.kp (p.mv.kw AL Z Ad) ?_;refine WD.AW Z Z Z (LK f.mv (Ay.call QF Z (Jx f.mv.Ap t 1 6 11 12 dd dd dd dd _ _))) Z ?_;rintro w9 a00 ⟨k7,o0,f⟩;refine g.AX o0 fun g=>?_;simp only[pv] at f;have c4:=DU e2 1 6 11 12 (gW (BO s) h6) (gW (BO s) h7);rw[t] at c4;generalize n1:Iy e2 1 6 11 12 _ _=e3 at f c4;replace t:=c4;refine WD.nil ?_;clear a1 p R U o;clear g;refine Ab<|AY k7 [110] [0,1,0,1,0,1,0,1,2] [0,1,2,3,4,5,6,7,8] fun a02 r4 g=>?_;have a1:=i;have p:=j;have R:=f;have U:=J;have o:=a7;refine vd Z (fun _=>As Ft Z Z Ad Ad)<|vc Z g.kp (o.mv.kb Au Z Z)<|vd Z (fun _=>As AO Z Z Ad Ad)<|vc Z g.kp (p.mv.kw AL Z Ad)<|vd Z (fun _=>As Ft Z Z Ad Ad)<|vc Z g.kp (o.mv.kb Au Z Z)<|vd Z (fun _=>As AO Z Z Ad Ad)<|vc Z g.kp (p.mv.kw AL Z Ad) ?_;refine WD.AW Z Z Z (LK f.mv (Ay.call QF Z (Jx f.mv.Ap t 2 7 8 13 dd dd dd dd _ _))) Z ?_;rintro x0 a03 ⟨k8,o1,f⟩;refine g.AX o1 fun g=>?_;simp only[pv] at f;have c5:=DU e3 2 7 8 13 (gW (BO s) h8) (gW (BO s) h9);rw[t] at c5;generalize n2:Iy e3 2 7 8 13 _ _=e4 at f c5;replace t:=c5;refine WD.nil ?_;clear a1 p R U o;clear g;refine AY k8 [110] [0,1,0,1,0,1,0,1,2] [0,1,2,3,4,5,6,7,8] fun Rn r5 g=>vd Z (fun _=>As Ft Z Z Ad Ad)<|vc Z g.kp (a7.mv.kb Au Z Z)<|vd Z (fun _=>As AO Z Z Ad Ad)<|vc Z g.kp (j.mv.kw AL Z Ad)<|vd Z (fun _=>As Ft Z Z Ad Ad)<|vc Z g.kp (a7.mv.kb Au Z Z)<|vd Z (fun _=>As AO Z Z Ad Ad)<|vc Z g.kp (j.mv.kw AL Z Ad) ?_;refine WD.AW Z Z Z (LK f.mv (Ay.call QF Z (Jx f.mv.Ap t 3 4 9 14 dd dd dd dd _ _))) Z ?_;rintro x1 a04 ⟨p8,o2,f⟩;refine g.AX o2 fun g=>?_;simp only[pv] at f;have c6:=DU e4 3 4 9 14 (gW (BO s) j0) (gW (BO s) j1);rw[t] at c6;generalize n3:Iy e4 3 4 9 14 _ _=h3 at f c6;replace t:=c6;refine WD.nil ?_;clear g;refine cg<|zm Z<|vq (AH Z Z Ad Ad)<|za Z<|Ac ?_;have b4:h3=rk (BO s) (DZ h n a6) (r+1):=by rw[Wr,ef _ _ r h1,l5,l6,l7,l8,l9,n0,n1,n2,n3]
  rw[b4] at f;exact⟨r+1,Aq,⟨_,i.mv,j.mv,f,J.mv,C.mv,by omega⟩,by omega⟩
 have:r=10:=oo;subst this;refine WC.exit Z<|Ab<|cg<|za Z<|Ac<|Ai<|WC.loop (σ:=Nat) (fun k=>[(0, .pointer (some ⟨b,0,none⟩)),(10, .pointer (some ⟨a8,0,none⟩)),(16,I k)]) (fun k w'=>∃c',Ar c' w' 2 b ((Mq h (rk (BO s) (DZ h n a6) 10) k).map DB++[]) d8∧Ar c' w' 110 a8 ((rk (BO s) (DZ h n a6) 10).map DB++[]) dV∧Acc c w [2,108,110,111,113,115] c' w'∧k≤8) (fun k=>8-k) 0 Aq ⟨_,i,f,C,by omega⟩ ?_;clear i j f J C;rintro k a13 ⟨l2,i,f,C,hk⟩;have s3:(Mq h (rk (BO s) (DZ h n a6) 10) k).length=8:=by rw[Nq,hl]
 refine Ab<|Ab<|cg<|zm Z<|vq (AE Z Z)<|Ac<|AS Z (fun p0=>?_) fun p0=>?_
 ·have p2:k<8:=oo;refine Aj<|Ab<|Ai<|AY l2 [] [0,0,0,0,0,0,1,0,0,1,0,0,0,0,1,0,0,0,3] [0,1,2,3,4,5,6,7,8,9,10,11,12,13,14,15,16,17,18] fun a05 r6 g=>?_;refine AK Z Z<|AK Z Z<|AK Z Z<|AK Z Z<|vd Z (fun _=>Ae Z)<|vd Z (fun _=>As GX Z Z Ad Ad)<|vc Z g.kp (i.mv.kw AL Z Ad)<|AK Z Z<|vd Z (fun _=>As AO Z Z Ad Ad) ?_;refine vc Z g.kp (f.mv.kw AL Z Ad)<|vd Z (fun _=>Eg Z Z)<|AK Z Z<|vd Z (fun _=>AH Z Z Ad Ad)<|vd Z (fun _=>As AO Z Z Ad Ad)<|vc Z g.kp (f.mv.kw AL Z Ad)<|vd Z (fun _=>Eg Z Z)<|vd Z (fun _=>Ae Z)<|vd Z (fun _=>As GX Z Z Ad Ad) ?_;refine WD.wild Z Z Z (CV AL Z Z i.mv Ad) ?_;rintro _ a06 ⟨i,r7⟩;refine WD.nil ?_;clear g;refine cg<|zm Z<|vq (AH Z Z Ad Ad)<|za Z<|Ac ?_;simp only[pv,show((k:Int)+8).toNat=k+8 by omega] at i;rw[←XU] at i;exact⟨k+1,Aq,⟨_,i,f.mv,C.mv,by omega⟩,by omega⟩
 have:k=8:=oo;subst this;refine WC.exit Z<|⟨_,_,Z,Z,?_⟩;rw[Uw hl] at i;have e:=i.Ap;subst hc;exact⟨Z,C.OD,e⟩
theorem ej{env:Env}{x y:Operand}{ty:TypeId}{r:Nat}{l:List Nat}(hx:Ba env x=some (.agg LL.toArray))(hy:Ba env y=some (I (r:Int)))(h:r<10)(i:MX[r]?=some l):
 Bp QP env w (.index 208 x y) ty (.agg (l.map fun n=>I ((n:Nat):Int)).toArray):=by
 have g:=Un (ty:=ty) (w:=w) hr VW hx hy oo oo (by rw[show LL.length=160 from Z];simp;omega);have f:=UB r h l i;rw[PB] at f;rwa [pv,f] at g
theorem XY{env:Env}{x y:Operand}{ty:TypeId}{i:Nat}{l:List Nat}(hx:Ba env x=some (.agg SB.toArray))(hy:Ba env y=some (I (i:Int)))(h:i<8)(f:Lr[i]?=some l):
 Bp QP env w (.index 364 x y) ty (.agg (l.map fun n=>I ((n:Nat):Int)).toArray):=by
 have g:=Un (ty:=ty) (w:=w) qB aj hx hy oo oo (by rw[show SB.length=32 from Z];simp;omega);have j:(SB.drop (i*4)).take 4=l.map fun n=>I ((n:Nat):Int):=by
  have:i=0∨i=1∨i=2∨i=3∨i=4∨i=5∨i=6∨i=7:=oo;rcases this with rfl|rfl|rfl|rfl|rfl|rfl|rfl|rfl<;>(injection f with f;subst f;rfl)
 rwa [pv,j] at g
theorem XZ{env:Env}{x:Operand}{ty:TypeId}{b j:Nat}{l:List Nat}{T:TypeId}(f:FG w b (l.map fun n=>I ((n:Nat):Int)) T)(hx:Ba env x=some (.pointer (some ⟨b,0+j*1,none⟩)))(h:j<l.length):
 Bp QP env w (.load 3 x) ty (I (gN l j:Nat)):=
 Ah Au (by rw[hx];simp) f (i:=j) (by rw[yY,aa h,gN,aa h];rfl)
theorem UD{h:List Int}(hl:h.length=8)(s:List UInt8)(hs:s.length≤64)(n:Int)(h0:0≤n)(o9:n<9223372036854775808)(J:Bool):
 Calls QP 169 #[.agg (h.map DB).toArray,St s,I n, .bool J] w (AP fun v w'=>Below w.heap.size w w'∧v= .agg ((Gb h s n J).map DB).toArray):=by
 obtain⟨c,p,hc⟩:=AQ.start w;clear hc;refine enter (n:=107) (res:=#[.cell 8 132]) Tryz.func169 Z Z Z Z<|Ab<|cg<|Dz c 104 fun w1 b4 c1 l7 g=>?_;refine Db c1 108 Mn fun w2 b8 c2 h7 o=>Ac ?_;replace g:=g.mv h7;replace g:=cM (l:=h) g;refine Ab<|cg<|Db c2 109 RF fun r6 R e6 n9 j=>?_;refine Db e6 110 RF fun r7 C l4 h9 f=>Ac<|Ab<|Ab<|cg<|zm Z<|vq (Bp.BY gx Z)<|zm Z<|Ac<|Ai ?_;replace j:=j.mv h9;replace j:Ar _ _ 109 R ((wk s 0).map DB++[]) dV:=j;replace f:Ar _ _ 110 C ((List.replicate 16 0).map DB++[]) dV:=f;refine WC.loop (σ:=Nat) (fun k=>[(1,St s),(2,I n),(3, .bool J),(4, .pointer (some ⟨b4,0,none⟩)),(8, .pointer (some ⟨b8,0,none⟩)),(9, .pointer (some ⟨R,0,none⟩)),(10, .pointer (some ⟨C,0,none⟩)),(19,I s.length),(20,I k)]) (fun k w'=>∃c',AQ w c' w'∧Ar c' w' 104 b4 (h.map DB++[]) d8∧Ar c' w' 108 b8 [.int .u32 0, .int .u32 0, .int .u32 0, .int .u32 0, .int .u32 0, .int .u32 0, .int .u32 0, .int .u32 0] d8∧Ar c' w' 109 R ((wk s k).map DB++[]) dV∧Ar c' w' 110 C ((List.replicate 16 0).map DB++[]) dV∧k≤s.length) (fun k=>s.length-k) 0 Aq ⟨_,p.mv,g.mv,o.mv,j,f,by omega⟩ ?_;clear p g o j f;rintro k s6 ⟨c5,p,g,o,j,f,hk⟩;have j7:=Ms s k;refine Ab<|cg<|vq (AE Z Z)<|Ac<|Ab<|AS Z (fun j4=>?_) fun j4=>?_
 ·have c3:k<s.length:=oo;refine Aj<|Ab<|Ai<|Ab<|cg<|zm Z<|za Z<|Ac<|AY c5 [] [0,0,0,1,0,0,0,0,0,0,0,0,0,0,3] [0,1,2,3,4,5,6,7,8,9,10,11,12,13,14] fun r8 o0 t=>?_;refine AK Z Z<|vd Z (fun _=>Rk Z Z Ad Ad Ad)<|vd Z (fun _=>As AO Z Z Ad Ad)<|vc Z t.kp (j.mv.kw AL Z Ad)<|AK Z Z<|AK Z Z<|vd Z (fun _=>Gy gx Z Z oo (aa c3))<|vd Z (fun _=>Ht yR VL Z)<|AK Z Z ?_;refine vd Z (fun _=>Xr Z Z Ad Ad)<|vd Z (fun _=>FZ Z Z Ad Ad)<|vd Z (fun _=>Ry Z Z Ad Ad)<|vd Z (fun _=>VV Z Z)<|vd Z (fun _=>As AO Z Z Ad Ad) ?_;refine WD.wild Z Z Z (CV AL Z Z j.mv Ad) ?_;rintro _ r9 ⟨j,o1⟩;refine WD.nil ?_;clear t;refine cg<|vq (AH Z Z Ad Ad)<|zm Z<|Ac ?_;rw[cI c3] at j;exact⟨k+1,Aq,⟨_,p.mv,g.mv,o.mv,j,f.mv,c3⟩,by omega⟩
 have:k=s.length:=oo;subst this;have j7:=Nc s;replace j:Ar _ _ 109 R ((BO s).map DB++[]) dV:=j;refine WC.exit Z<|Ab<|cg<|ve (Al c5 1 (Ay.call oX Z (UA))) ?_;rintro p4 s0 ⟨e7,o2,p3,rfl⟩;refine Db e7 112 Mn fun s3 k8 e8 o3 a6=>WR.AI (Am Hz Z Z a6 Z Z AG) ?_;rintro _ k6 ⟨a6,o4⟩;refine Ac ?_;replace a6:=cM (l:=Cv) a6;refine Ab<|AY e8 [110] [0,0,2] [0,1,2] fun q0 l8 t=>?_;have b6:=g;have b7:=o;have b9:=j;have b3:=f;have j0:=a6;refine vd Z (fun _=>Sf AO Z dd)<|vd Z (fun _=>Sf GX Z dd) ?_;refine WD.AW Z Z Z ((oG pK Z Z f.mv g.mv.Ap.An (by simp[hl]) (by simp[hl]) (PS _))) Z ?_;rintro p5 q1 ⟨e3,h4,f⟩;refine t.AX h4 fun t=>?_;rw[vv hl] at f;refine WD.nil ?_;clear b6 b7 b9 b3 j0;clear t;refine Ab<|AY e3 [110] [0,0,2] [0,1,2] fun q2 l9 t=>?_;have b6:=g;have b7:=o;have b9:=j;have b3:=f;refine vd Z (fun _=>VU (m:=8) AO Z Z dd)<|vd Z (fun _=>Sf GX Z dd) ?_;refine WD.AW Z Z Z ((oG pK Z Z f.mv a6.mv.Ap.An Z (by simp[hl,Cv]) (PS _))) Z ?_;rintro p6 q3 ⟨l0,h5,f⟩;refine t.AX h5 fun t=>?_;rw[vw hl] at f;have o6:Cv.length=8:=rfl;have o8:(h++Cv).length=16:=by rw[bU,hl];rfl
 refine WD.nil ?_;clear b6 b7 b9 b3;clear t;refine Ab<|cg<|vq (As AO Z Z Ad Ad)<|vq (NZ AL Z f.Ap Ad)<|zm Z<|vq (Ht oz VL Z)<|vq (Eg Z Z)<|vq (As AO Z Z Ad Ad) ?_;refine WR.AI (CV AL Z Z f Ad) ?_;rintro _ q4 ⟨f,n0⟩;refine Ac<|Ab<|cg<|vq (As AO Z Z Ad Ad)<|vq (NZ AL Z f.Ap Ad)<|zm Z<|vq (Ir Z Z Ad (by simp[IntKind.bits]<;>omega))<|vq (Ht oz VL Z)<|vq (Eg Z Z) ?_;refine vq (As AO Z Z Ad Ad) ?_;refine WR.AI (CV AL Z Z f Ad) ?_;rintro _ q5 ⟨f,n1⟩;refine Ac ?_;rw[show(2:Int)^(32:Int).toNat=4294967296 by decide] at f;refine Ab<|Ab<|cg<|zm Z<|Ac<|WC.mono (N:=fun e w'=>∃c',Sub [(4000000, .tuple #[]),(4, .pointer (some ⟨b4,0,none⟩)),(8, .pointer (some ⟨b8,0,none⟩)),(9, .pointer (some ⟨R,0,none⟩)),(10, .pointer (some ⟨C,0,none⟩))] e∧AQ w c' w'∧Ar c' w' 104 b4 (h.map DB++[]) d8∧Ar c' w' 108 b8 [.int .u32 0, .int .u32 0, .int .u32 0, .int .u32 0, .int .u32 0, .int .u32 0, .int .u32 0, .int .u32 0] d8∧Ar c' w' 109 R ((BO s).map DB++[]) dV∧Ar c' w' 110 C ((DZ h n J).map DB++[]) dV) ?_ ?_
 ·refine AS Z (fun c0=>?_) fun c0=>?_
  ·refine cg<|vq (As AO Z Z Ad Ad)<|vq (NZ AL Z f.Ap Ad)<|vq (hn Z)<|vq (As AO Z Z Ad Ad) ?_;refine WR.AI (CV AL Z Z f Ad) ?_;rintro _ q6 ⟨f,n2⟩;refine Ac ?_;exact⟨_,Aq,p.mv,g.mv,o.mv,j.mv,by rw[DZ,c0];exact f⟩
  refine Aj ?_;exact⟨_,Aq,p.mv,g.mv,o.mv,j.mv,by rw[DZ,c0];exact f⟩
 rintro b0 k6 ⟨e9,e2,p,g,o,j,f⟩;refine WC.sub e2 ?_;clear e2 b0;refine Ab<|Ab<|cg<|ve (Al e9 1 (Ay.call uo rfl (ei))) ?_;rintro p7 q7 ⟨l1,n3,p1,rfl⟩;refine zm rfl<|Ac<|Ai<|WC.loop (σ:=Nat) (fun r=>[(4, .pointer (some ⟨b4,0,none⟩)),(8, .pointer (some ⟨b8,0,none⟩)),(9, .pointer (some ⟨R,0,none⟩)),(10, .pointer (some ⟨C,0,none⟩)),(63, .agg LL.toArray),(64,I r)]) (fun r w'=>∃c',AQ w c' w'∧Ar c' w' 104 b4 (h.map DB++[]) d8∧Ar c' w' 108 b8 [.int .u32 0, .int .u32 0, .int .u32 0, .int .u32 0, .int .u32 0, .int .u32 0, .int .u32 0, .int .u32 0] d8∧Ar c' w' 109 R ((BO s).map DB++[]) dV∧Ar c' w' 110 C ((rk (BO s) (DZ h n J) r).map DB++[]) dV∧r≤10) (fun r=>10-r) 0 Aq ⟨_,p.mv,g.mv,o.mv,j.mv,f.mv,by omega⟩ ?_;clear p g o j f;rintro r wr ⟨h2,p,g,o,j,f,p0⟩;have c7:(rk (BO s) (DZ h n J) r).length=16:=by rw[PR,Nb hl]
 refine Ab<|cg<|vq (AE Z Z)<|Ac<|Ab<|AS Z (fun j1=>?_) fun j1=>?_
 ·have e0:r<10:=oo;obtain⟨l,e1,j6,c8⟩:=EJ r e0;refine Aj<|Ab<|Ai<|Ab<|cg<|vq (ej Z Z e0 e1)<|Db h2 114 cF fun q8 c4 e4 a7 U=>?_;refine WR.AI (Am VW Z Z U Z (by simpa using j6) (fun v hv=>by obtain⟨n,_,rfl⟩:=zc.1 hv;rfl)) ?_;rintro _ k7 ⟨b1,a1⟩;replace p:=p.mv a7;replace g:=g.mv a7;replace o:=o.mv a7;replace j:=j.mv a7;replace f:=f.mv a7;replace p:=p.mv a1;replace g:=g.mv a1;replace o:=o.mv a1;replace j:=j.mv a1;replace f:=f.mv a1;replace U:=b1;refine Ac<|Ab<|cg<|ve (Al e4 1 (Ay.call uq Z (XX))) ?_;rintro p8 q9 ⟨l2,h6,p2,rfl⟩;refine zm Z<|Ac<|Ai ?_;replace f:=f.mv h6;generalize h3:rk (BO s) (DZ h n J) r=a8 at f c7;refine WC.loop (σ:=Nat) (fun i=>[(4, .pointer (some ⟨b4,0,none⟩)),(8, .pointer (some ⟨b8,0,none⟩)),(9, .pointer (some ⟨R,0,none⟩)),(10, .pointer (some ⟨C,0,none⟩)),(14, .pointer (some ⟨c4,0,none⟩)),(63, .agg LL.toArray),(64,I r),(67, .agg SB.toArray),(68,I i)]) (fun i w'=>∃c',AQ w c' w'∧Ar c' w' 104 b4 (h.map DB++[]) d8∧Ar c' w' 108 b8 [.int .u32 0, .int .u32 0, .int .u32 0, .int .u32 0, .int .u32 0, .int .u32 0, .int .u32 0, .int .u32 0] d8∧Ar c' w' 109 R ((BO s).map DB++[]) dV∧Ar c' w' 110 C ((ik (BO s) r a8 i).map DB++[]) dV∧Ar c' w' 114 c4 (l.map fun n=>I ((n:Nat):Int)) 207∧i≤8) (fun i=>8-i) 0 Aq ⟨_,p.mv,g.mv,o.mv,j.mv,f,U.mv,by omega⟩ ?_;clear p g o j f U;rintro i s4 ⟨ci,p,g,o,j,f,U,hi⟩;have j5:(ik (BO s) r a8 i).length=16:=by rw[Ux,c7]
  refine Ab<|cg<|vq (AE Z Z)<|Ac<|Ab<|AS Z (fun j2=>?_) fun j2=>?_
  ·have c6:i<8:=oo;obtain⟨k2,k3,k4,k5,c9,j8,j9,k0,k1⟩:=av i c6;have l5:=c8 (2*(i:Int)).toNat;have l6:=c8 (2*(i:Int)+1).toNat
   refine Aj<|Ab<|Ai<|Ab<|cg<|zm Z<|vq (XY Z Z c6 c9)<|Db ci 116 mf fun r0 k9 e5 n4 b5=>?_;refine za Z<|WR.AI (Am aj Z Z b5 Z Z AG) ?_;rintro _ r1 ⟨b5,n5⟩;refine Ac<|AY e5 [110] [1,0,0,0,1,0,1,0,0,0,0,1,0,1,2] [0,1,2,3,4,5,6,7,8,9,10,11,12,13,14] fun r2 n6 t=>?_;refine vc Z t.kp (b5.mv.kn aj Z Z)<|AK Z Z<|vd Z (fun _=>FZ Z Z Ad Ad)<|vd Z (fun _=>As Ft Z Z Ad Ad)<|vc Z t.kp (fun W b2=>XZ (U.mv.kp b2 Z).Ap Z oo)<|vd Z (fun _=>As AO Z Z Ad Ad)<|vc Z t.kp (j.mv.kw AL Z Ad)<|AK Z Z<|vd Z (fun _=>FZ Z Z Ad Ad) ?_;refine vd Z (fun _=>AH Z Z Ad Ad)<|vd Z (fun _=>As Ft Z Z Ad Ad)<|vc Z t.kp (fun W b2=>XZ (U.mv.kp b2 Z).Ap Z oo)<|vd Z (fun _=>As AO Z Z Ad Ad)<|vc Z t.kp (j.mv.kw AL Z Ad) ?_;refine WD.AW Z Z Z (LK f.mv (Ay.call ur Z (qT f.mv.Ap j5 k2 k3 k4 k5 j8 j9 k0 k1 _ _))) Z ?_;rintro p9 r3 ⟨l3,h8,f⟩;refine t.AX h8 fun t=>WD.nil ?_;clear t;refine cg<|vq (AH Z Z Ad Ad)<|zm Z<|Ac ?_;simp only[pv,show(2*(i:Int)).toNat=2*i by omega,show(2*(i:Int)+1).toNat=2*i+1 by omega] at f;rw[←round_eq e1 c9,←cK] at f;exact⟨i+1,Aq,⟨_,p.mv,g.mv,o.mv,j.mv,f,U.mv,by omega⟩,by omega⟩
  have:i=8:=oo;subst this;have b0:ik (BO s) r a8 8=rk (BO s) (DZ h n J) (r+1):=by rw[Wr,h3];rfl
  rw[b0] at f;refine WC.exit Z<|cg<|vq (AH Z Z Ad Ad)<|zm Z<|Ac ?_;exact⟨r+1,Aq,⟨_,p,g,o,j,f,by omega⟩,by omega⟩
 have:r=10:=oo;subst this;refine WC.exit Z<|Ab<|Ab<|cg<|zm Z<|Ac<|Ai<|WC.loop (σ:=Nat) (fun k=>[(4, .pointer (some ⟨b4,0,none⟩)),(8, .pointer (some ⟨b8,0,none⟩)),(10, .pointer (some ⟨C,0,none⟩)),(89,I k)]) (fun k w'=>∃c',AQ w c' w'∧Ar c' w' 104 b4 ((HS h (rk (BO s) (DZ h n J) 10) k).map DB++[]) d8∧Ar c' w' 108 b8 [.int .u32 0, .int .u32 0, .int .u32 0, .int .u32 0, .int .u32 0, .int .u32 0, .int .u32 0, .int .u32 0] d8∧Ar c' w' 110 C ((rk (BO s) (DZ h n J) 10).map DB++[]) dV∧k≤8) (fun k=>8-k) 0 Aq ⟨_,p,g,o,f,by omega⟩ ?_;clear p g o j f;rintro k s5 ⟨h1,p,g,o,f,hk⟩;have o7:(HS h (rk (BO s) (DZ h n J) 10) k).length=8:=by rw[ij,Nq,hl]
 refine Ab<|cg<|vq (AE Z Z)<|Ac<|Ab<|AS Z (fun j3=>?_) fun j3=>?_
 ·have o5:k<8:=oo;refine Aj<|Ab<|Ai<|Ab<|cg<|zm Z<|za Z<|Ac<|AY h1 [] [0,0,1,0,0,1,0,0,0,1,0,0,0,3] [0,1,2,3,4,5,6,7,8,9,10,11,12,13] fun r4 n7 t=>?_;refine AK Z Z<|vd Z (fun _=>As GX Z Z Ad Ad)<|vc Z t.kp (g.mv.kw AL Z Ad)<|AK Z Z<|vd Z (fun _=>As AO Z Z Ad Ad)<|vc Z t.kp (f.mv.kw AL Z Ad)<|AK Z Z<|vd Z (fun _=>AH Z Z Ad Ad)<|vd Z (fun _=>As AO Z Z Ad Ad) ?_;refine vc Z t.kp (f.mv.kw AL Z Ad)<|vd Z (fun _=>Eg Z Z)<|vd Z (fun _=>Eg Z Z)<|vd Z (fun _=>As GX Z Z Ad Ad) ?_;refine WD.wild Z Z Z (CV AL Z Z g.mv Ad) ?_;rintro _ r5 ⟨g,n8⟩;refine WD.nil ?_;clear t;refine cg<|vq (AH Z Z Ad Ad)<|zm Z<|Ac ?_;simp only[pv,show((k:Int)+8).toNat=k+8 by omega] at g;rw[←ih] at g;exact⟨k+1,Aq,⟨_,p.mv,g,o.mv,f.mv,by omega⟩,by omega⟩
 have:k=8:=oo;subst this;rw[ij,Uw hl] at g;refine WC.exit Z<|Ab<|cg<|vq (AD Hz Z g.Ap Z)<|WR.AI (Am Hz Z Z o Z Z (PS _)) ?_;rintro _ k7 ⟨b1,a1⟩;replace p:=p.mv a1;replace o:=b1;refine Ac<|Fz Z (Br Hz Z o.Ap Z) ?_;exact⟨p.below,by rw[Qy];rfl⟩
end Go.Proofs.K
namespace Go.Proofs
open Go.Shelf
def QR:Go.Shelf.Ren:=⟨fun|169=>113|n=>n,fun|70=>215|9=>9|0=>0|72=>217|37=>92|127=>308|3=>3|5=>5|n=>n,fun|n=>n⟩
theorem mm:Go.Proofs.Lays.n169 QP QR:={
 mixed:=kr
 f169:=Tryz.func113.trans (zC some kr)
 t0:=Abx
 a0:=Ade
 z0:=Ac2
 v0:=Ab3
 t3:=oz
 a3:=Acn
 z3:=Ab7
 v3:=Abi
 t9:=gx
 a9:=Aei
 z9:=Ad6
 v9:=Ac6
 t37:=zG
 a37:=Tryz.isAgg92
 z37:=Tryz.sizeOf92
 v37:=Afl
 t70:=Tryz.underlying215
 a70:=Tryz.isAgg215
 z70:=Tryz.sizeOf215
 v70:=Tryz.zeroValue215
 t72:=Tryz.underlying217
 a72:=Tryz.isAgg217
 z72:=Tryz.sizeOf217
 v72:=Tryz.zeroValue217
 t127:=Aey
 a127:=Tryz.isAgg308
 z127:=Agb
 v127:=Afb}
theorem OE:Builder.Extra QP QR:={
 sizeBuilder:=kr
 liesBuilder:=kr
 t5:=yR
 a5:=Afc
 z5:=Aet
 v5:=Adt
 infoByte:=kr
 cellsByte:=kr
 sizeByte:=kr
 neB5:=by decide}
def QS:Go.Shelf.Ren:=⟨fun|156=>166|165=>110|166=>111|169=>113|240=>194|241=>195|276=>288|277=>289|n=>n,fun|31=>38|9=>9|3=>3|4=>4|0=>0|20=>20|72=>217|76=>221|70=>215|37=>92|75=>220|127=>308|164=>387|5=>5|80=>192|n=>n,fun|n=>n⟩
theorem cN:Go.Proofs.Lays.n156 QP QS:={
 mixed:=kr
 f156:=Tryz.func166.trans (zC some kr)
 f165:=Tryz.func110.trans (zC some kr)
 f166:=Tryz.func111.trans (zC some kr)
 f169:=Tryz.func113.trans (zC some kr)
 f240:=Tryz.func194.trans (zC some kr)
 f241:=Tryz.func195.trans (zC some kr)
 f276:=Tryz.func288.trans (zC some kr)
 f277:=Tryz.func289.trans (zC some kr)
 t0:=Abx
 a0:=Ade
 z0:=Ac2
 v0:=Ab3
 t3:=oz
 a3:=Acn
 z3:=Ab7
 v3:=Abi
 t4:=Abl
 a4:=Ac1
 z4:=Acm
 v4:=Abt
 t9:=gx
 a9:=Aei
 z9:=Ad6
 v9:=Ac6
 t20:=Tryz.underlying20
 a20:=Tryz.isAgg20
 z20:=Tryz.sizeOf20
 v20:=Tryz.zeroValue20
 t31:=zb
 a31:=Tryz.isAgg38
 z31:=Tryz.sizeOf38
 v31:=Tryz.zeroValue38
 t37:=zG
 a37:=Tryz.isAgg92
 z37:=Tryz.sizeOf92
 v37:=Afl
 t70:=Tryz.underlying215
 a70:=Tryz.isAgg215
 z70:=Tryz.sizeOf215
 v70:=Tryz.zeroValue215
 t72:=Tryz.underlying217
 a72:=Tryz.isAgg217
 z72:=Tryz.sizeOf217
 v72:=Tryz.zeroValue217
 t75:=Tryz.underlying220
 a75:=Tryz.isAgg220
 z75:=Tryz.sizeOf220
 v75:=Tryz.zeroValue220
 t76:=Tryz.underlying221
 a76:=Tryz.isAgg221
 z76:=Tryz.sizeOf221
 v76:=Tryz.zeroValue221
 t127:=Aey
 a127:=Tryz.isAgg308
 z127:=Agb
 v127:=Afb
 t164:=Tryz.underlying387
 a164:=Tryz.isAgg387
 z164:=Tryz.sizeOf387
 v164:=Tryz.zeroValue387}
theorem Jy:Builder.Extra QP QS:={
 sizeBuilder:=kr
 liesBuilder:=kr
 t5:=yR
 a5:=Afc
 z5:=Aet
 v5:=Adt
 infoByte:=kr
 cellsByte:=kr
 sizeByte:=kr
 neB5:=by decide}
open Go.RowKit in
theorem Tryz.strings_Join_none(a:Option Addr)(c:Nat)(sep:ByteArray)(w:World):
 Calls QP 166 #[.slice a 0 c, .string sep] w fun e w'=>e= .returned (.string ⟨#[]⟩)∧w'=w:=Any.strings_Join_none cN Jy a c sep w
open Go.RowKit in
theorem Tryz.strings_Join(bk o c:Nat)(xs:List ByteArray)(sep:ByteArray)(w:World)(l:∀(j:Nat) x,xs[j]?=some x→w.cell? ⟨bk,o+j,none⟩=some (.string x))(g:bk<w.heap.size)(f:xs.length≤140737488355328)(i:xs.length≤c)(p:(Lib.join (xs.map (·.data.toList)) sep.data.toList).length≤140737488355328):
 Calls QP 166 #[.slice (some ⟨bk,o,none⟩) xs.length c, .string sep] w fun e w'=>e= .returned (.string ⟨(Lib.join (xs.map (·.data.toList)) sep.data.toList).toArray⟩)∧Below w.heap.size w w':=Any.strings_Join cN Jy bk o c xs sep w l g f i p
def pM:Go.Shelf.Ren:=⟨fun|213=>241|265=>318|n=>n,fun|9=>9|3=>3|n=>n,fun|n=>n⟩
def Ya:Go.Shelf.Ren:=⟨fun|106=>146|213=>241|265=>318|n=>n,fun|9=>9|3=>3|n=>n,fun|n=>n⟩
theorem mn:Go.Proofs.Lays.n106 QP Ya:={
 mixed:=kr
 f106:=Tryz.func146.trans (zC some kr)
 f213:=Tryz.func241.trans (zC some kr)
 f265:=Tryz.func318.trans (zC some kr)
 t3:=oz
 a3:=Acn
 z3:=Ab7
 v3:=Abi
 t9:=gx
 a9:=Aei
 z9:=Ad6
 v9:=Ac6}
open Go.RowKit in
theorem Tryz.strings_Compare(a b:ByteArray)(w:World):
 Calls QP 146 #[.string a, .string b] w fun e w'=>e= .returned (.int .i64 (Lib.compareBytes a.data.toList b.data.toList))∧w'=w:=Any.strings_Compare mn a b w
def pN:Go.Shelf.Ren:=⟨fun|215=>238|n=>n,fun|3=>3|4=>4|n=>n,fun|n=>n⟩
def Yb:Go.Shelf.Ren:=⟨fun|122=>142|215=>238|n=>n,fun|3=>3|4=>4|n=>n,fun|n=>n⟩
theorem mo:Go.Proofs.Lays.n122 QP Yb:={
 mixed:=kr
 f122:=Tryz.func142.trans (zC some kr)
 f215:=Tryz.func238.trans (zC some kr)
 t3:=oz
 a3:=Acn
 z3:=Ab7
 v3:=Abi
 t4:=Abl
 a4:=Ac1
 z4:=Acm
 v4:=Abt}
open Go.RowKit in
theorem Tryz.cmp_Compare_int(x y:Int)(w:World):
 Calls QP 142 #[.int .i64 x, .int .i64 y] w fun e w'=>e= .returned (.int .i64 (Lib.compareInt x y))∧w'=w:=Any.cmp_Compare_int mo x y w
open Go.RowKit in
theorem Tryz.Builder_String_any_k(B b:Nat)(l:List UInt8)(w:World)(h:Lib.IsBuilderF 217 5 B b (Lib.byteCells l) w)(f:B≤w.heap.size):
 Calls QP 113 #[.pointer (some ⟨b,0,none⟩)] w fun e w'=>e= .returned (.string ⟨l.toArray⟩)∧(Lib.IsBuilderF 217 5 B b (Lib.byteCells l) w'∧Below B w w'∧Lib.OthersKept 5 (some b) w w'):=Any.Builder_String_any_k mm OE B b l w h f
def Wu:Go.Shelf.Ren:=⟨fun|316=>264|n=>n,fun|9=>9|3=>3|4=>4|37=>92|0=>0|127=>308|5=>5|n=>n,fun|n=>n⟩
theorem iu:Go.Proofs.LaysM.n316 QP Wu:={
 mixed:=kr
 f316:=Tryz.func264.trans (zC some kr)
 t0:=Abx
 a0:=Ade
 z0:=Ac2
 v0:=Ab3
 t3:=oz
 a3:=Acn
 z3:=Ab7
 v3:=Abi
 t4:=Abl
 a4:=Ac1
 z4:=Acm
 v4:=Abt
 t9:=gx
 a9:=Aei
 z9:=Ad6
 v9:=Ac6
 t37:=zG
 a37:=Tryz.isAgg92
 z37:=Tryz.sizeOf92
 v37:=Afl
 t127:=Aey
 a127:=Tryz.isAgg308
 z127:=Agb
 v127:=Afb
 t5:=yR
 a5:=Afc
 z5:=Aet
 v5:=Adt
 i0:=kr
 i3:=kr
 i4:=kr
 i5:=kr
 i9:=kr
 i37:=kr
 i127:=by kernel_rfl}
open Go.RowKit in
theorem Tryz.stringslite_Clone(s:ByteArray)(w:World)(f:s.size≤281474976710656):
 Calls QP 264 #[.string s] w fun e w'=>e= .returned (.string s)∧Below w.heap.size w w':=Any.stringslite_Clone iu s w f
def Yc:Go.Shelf.Ren:=⟨fun|189=>271|125=>253|257=>344|128=>334|129=>335|294=>381|295=>382|296=>383|297=>384|298=>385|299=>386|216=>311|300=>387|301=>388|328=>405|329=>373|330=>374|331=>406|332=>407|215=>238|343=>414|n=>n,fun|28=>23|3=>3|46=>83|0=>0|51=>131|53=>136|4=>4|183=>425|182=>424|131=>141|5=>5|9=>9|218=>465|222=>469|228=>485|229=>93|n=>n,fun|n=>n⟩
theorem cO:Go.Proofs.Lays.n189 QP Yc:={
 mixed:=kr
 f125:=Tryz.func253.trans (zC some kr)
 f128:=Tryz.func334.trans (zC some kr)
 f129:=Tryz.func335.trans (zC some kr)
 f189:=Tryz.func271.trans (zC some kr)
 f215:=Tryz.func238.trans (zC some kr)
 f216:=Tryz.func311.trans (zC some kr)
 f257:=Tryz.func344.trans (zC some kr)
 f294:=Tryz.func381.trans (zC some kr)
 f295:=Tryz.func382.trans (zC some kr)
 f296:=Tryz.func383.trans (zC some kr)
 f297:=Tryz.func384.trans (zC some kr)
 f298:=Tryz.func385.trans (zC some kr)
 f299:=Tryz.func386.trans (zC some kr)
 f300:=Tryz.func387.trans (zC some kr)
 f301:=Tryz.func388.trans (zC some kr)
 f328:=Tryz.func405.trans (zC some kr)
 f329:=Tryz.func373.trans (zC some kr)
 f330:=Tryz.func374.trans (zC some kr)
 f331:=Tryz.func406.trans (zC some kr)
 f332:=Tryz.func407.trans (zC some kr)
 f343:=Tryz.func414.trans (zC some kr)
 t0:=Abx
 a0:=Ade
 z0:=Ac2
 v0:=Ab3
 t3:=oz
 a3:=Acn
 z3:=Ab7
 v3:=Abi
 t4:=Abl
 a4:=Ac1
 z4:=Acm
 v4:=Abt
 t5:=yR
 a5:=Afc
 z5:=Aet
 v5:=Adt
 t9:=gx
 a9:=Aei
 z9:=Ad6
 v9:=Ac6
 t28:=zU
 a28:=Afu
 z28:=Afe
 v28:=Aec
 t46:=zW
 a46:=Tryz.isAgg83
 z46:=Tryz.sizeOf83
 v46:=Afm
 t51:=VL
 a51:=Tryz.isAgg131
 z51:=Tryz.sizeOf131
 v51:=Tryz.zeroValue131
 t53:=zL
 a53:=Tryz.isAgg136
 z53:=Tryz.sizeOf136
 v53:=Tryz.zeroValue136
 t131:=Tryz.underlying141
 a131:=Tryz.isAgg141
 z131:=Tryz.sizeOf141
 v131:=Tryz.zeroValue141
 t182:=Tryz.underlying424
 a182:=Tryz.isAgg424
 z182:=Tryz.sizeOf424
 v182:=Tryz.zeroValue424
 t183:=Tryz.underlying425
 a183:=Tryz.isAgg425
 z183:=Tryz.sizeOf425
 v183:=Tryz.zeroValue425
 t218:=Tryz.underlying465
 a218:=Tryz.isAgg465
 z218:=Tryz.sizeOf465
 v218:=Tryz.zeroValue465
 t222:=Tryz.underlying469
 a222:=Tryz.isAgg469
 z222:=Tryz.sizeOf469
 v222:=Tryz.zeroValue469
 t228:=Tryz.underlying485
 a228:=Tryz.isAgg485
 z228:=Tryz.sizeOf485
 v228:=Tryz.zeroValue485
 t229:=Tryz.underlying93
 a229:=Tryz.isAgg93
 z229:=Tryz.sizeOf93
 v229:=Tryz.zeroValue93}
open Go.Sort Go.RowKit in
theorem Tryz.slices_Sort_int(Ap off cap:Nat)(f:List Int)(w:World)(g:Holds (Value.int .i64) w Ap off f.toArray)(i:Ap<w.heap.size)(j:f.length<4611686018427387904):
 Calls QP 271 #[.slice (some ⟨Ap,off,none⟩) f.length cap] w fun e w'=>
  e= .returned (.tuple #[])∧∃n os,w'=grow (putRow (Value.int .i64) (Sort.ahead w n) Ap off (f.mergeSort fun x y=>decide (x≤y)).toArray) os:=Any.slices_Sort_int cO Ap off cap f w g i j
def Yd:Go.Shelf.Ren:=⟨fun|212=>108|263=>191|264=>192|n=>n,fun|46=>83|51=>131|146=>304|53=>136|148=>306|n=>n,fun|n=>n⟩
theorem mq:Go.Proofs.Lays.n212 QP Yd:={
 mixed:=kr
 f212:=Tryz.func108.trans (zC some kr)
 f263:=Tryz.func191.trans (zC some kr)
 f264:=Tryz.func192.trans (zC some kr)
 t46:=zW
 a46:=Tryz.isAgg83
 z46:=Tryz.sizeOf83
 v46:=Afm
 t51:=VL
 a51:=Tryz.isAgg131
 z51:=Tryz.sizeOf131
 v51:=Tryz.zeroValue131
 t53:=zL
 a53:=Tryz.isAgg136
 z53:=Tryz.sizeOf136
 v53:=Tryz.zeroValue136
 t146:=Tryz.underlying304
 a146:=Tryz.isAgg304
 z146:=Tryz.sizeOf304
 v146:=Tryz.zeroValue304
 t148:=Tryz.underlying306
 a148:=Tryz.isAgg306
 z148:=Tryz.sizeOf306
 v148:=Tryz.zeroValue306}
open Go.RowKit Go.Lib in
theorem Tryz.bits_Mul(x y:Nat)(hx:x<18446744073709551616)(hy:y<18446744073709551616)(w:World):
 Calls QP 108 #[.int .u64 x, .int .u64 y] w fun e w'=>e= .returned (.tuple #[.int .u64 ((x*y/18446744073709551616:Nat):Int), .int .u64 ((x*y%18446744073709551616:Nat):Int)])∧w'=w:=Any.bits_Mul mq x y hx hy w
def LM:Go.Shelf.Ren:=⟨fun|105=>59|212=>108|99=>109|165=>110|166=>111|170=>112|169=>113|263=>191|264=>192|206=>193|240=>194|241=>195|276=>288|277=>289|n=>n,fun|9=>9|3=>3|4=>4|20=>20|0=>0|46=>83|109=>212|5=>5|72=>217|76=>221|51=>131|146=>304|53=>136|148=>306|70=>215|37=>92|75=>220|127=>308|164=>387|80=>192|n=>n,fun|n=>n⟩
theorem cP:Go.Proofs.Lays.n105 QP LM:={
 mixed:=kr
 f99:=Tryz.func109.trans (zC some kr)
 f105:=Tryz.func59.trans (zC some kr)
 f165:=Tryz.func110.trans (zC some kr)
 f166:=Tryz.func111.trans (zC some kr)
 f169:=Tryz.func113.trans (zC some kr)
 f170:=Tryz.func112.trans (zC some kr)
 f206:=Tryz.func193.trans (zC some kr)
 f212:=Tryz.func108.trans (zC some kr)
 f240:=Tryz.func194.trans (zC some kr)
 f241:=Tryz.func195.trans (zC some kr)
 f263:=Tryz.func191.trans (zC some kr)
 f264:=Tryz.func192.trans (zC some kr)
 f276:=Tryz.func288.trans (zC some kr)
 f277:=Tryz.func289.trans (zC some kr)
 t0:=Abx
 a0:=Ade
 z0:=Ac2
 v0:=Ab3
 t3:=oz
 a3:=Acn
 z3:=Ab7
 v3:=Abi
 t4:=Abl
 a4:=Ac1
 z4:=Acm
 v4:=Abt
 t5:=yR
 a5:=Afc
 z5:=Aet
 v5:=Adt
 t9:=gx
 a9:=Aei
 z9:=Ad6
 v9:=Ac6
 t20:=Tryz.underlying20
 a20:=Tryz.isAgg20
 z20:=Tryz.sizeOf20
 v20:=Tryz.zeroValue20
 t37:=zG
 a37:=Tryz.isAgg92
 z37:=Tryz.sizeOf92
 v37:=Afl
 t46:=zW
 a46:=Tryz.isAgg83
 z46:=Tryz.sizeOf83
 v46:=Afm
 t51:=VL
 a51:=Tryz.isAgg131
 z51:=Tryz.sizeOf131
 v51:=Tryz.zeroValue131
 t53:=zL
 a53:=Tryz.isAgg136
 z53:=Tryz.sizeOf136
 v53:=Tryz.zeroValue136
 t70:=Tryz.underlying215
 a70:=Tryz.isAgg215
 z70:=Tryz.sizeOf215
 v70:=Tryz.zeroValue215
 t72:=Tryz.underlying217
 a72:=Tryz.isAgg217
 z72:=Tryz.sizeOf217
 v72:=Tryz.zeroValue217
 t75:=Tryz.underlying220
 a75:=Tryz.isAgg220
 z75:=Tryz.sizeOf220
 v75:=Tryz.zeroValue220
 t76:=Tryz.underlying221
 a76:=Tryz.isAgg221
 z76:=Tryz.sizeOf221
 v76:=Tryz.zeroValue221
 t109:=Tryz.underlying212
 a109:=Tryz.isAgg212
 z109:=Tryz.sizeOf212
 v109:=Tryz.zeroValue212
 t127:=Aey
 a127:=Tryz.isAgg308
 z127:=Agb
 v127:=Afb
 t146:=Tryz.underlying304
 a146:=Tryz.isAgg304
 z146:=Tryz.sizeOf304
 v146:=Tryz.zeroValue304
 t148:=Tryz.underlying306
 a148:=Tryz.isAgg306
 z148:=Tryz.sizeOf306
 v148:=Tryz.zeroValue306
 t164:=Tryz.underlying387
 a164:=Tryz.isAgg387
 z164:=Tryz.sizeOf387
 v164:=Tryz.zeroValue387}
theorem Jz:Builder.Extra QP LM:={
 sizeBuilder:=kr
 liesBuilder:=kr
 t5:=yR
 a5:=Afc
 z5:=Aet
 v5:=Adt
 infoByte:=kr
 cellsByte:=kr
 sizeByte:=kr
 neB5:=by decide}
open Go.RowKit Go.Lib in
theorem Tryz.strings_Repeat(s:ByteArray)(c:Nat)(w:World)(hc:c≤9223372036854775807)(f:s.size*c≤140737488355328):
 Calls QP 59 #[.string s, .int .i64 c] w fun e w'=>e= .returned (.string ⟨(Lib.repeatL s.data.toList c).toArray⟩)∧Below w.heap.size w w':=Any.strings_Repeat cP Jz s c w hc f
def Ye:Go.Shelf.Ren:=⟨fun|107=>218|108=>309|n=>n,fun|28=>23|3=>3|4=>4|0=>0|n=>n,fun|n=>n⟩
theorem cQ:Go.Proofs.Lays.n107 QP Ye:={
 mixed:=kr
 f107:=Tryz.func218.trans (zC some kr)
 f108:=Tryz.func309.trans (zC some kr)
 t0:=Abx
 a0:=Ade
 z0:=Ac2
 v0:=Ab3
 t3:=oz
 a3:=Acn
 z3:=Ab7
 v3:=Abi
 t4:=Abl
 a4:=Ac1
 z4:=Acm
 v4:=Abt
 t28:=zU
 a28:=Afu
 z28:=Afe
 v28:=Aec}
open Go.Lib in
theorem Tryz.slices_Contains_int(b off n c:Nat)(f:List Int)(x:Int)(w:World)(i:n≤f.length)(g:n≤9223372036854775807)(hc:∀j,j<f.length→w.cell? ⟨b,off+j,none⟩=some (.int .i64 (f.getD j 0))):
 Calls QP 218 #[.slice (some ⟨b,off,none⟩) n c, .int .i64 x] w fun e w'=>e= .returned (.bool ((f.take n).contains x))∧w'=w:=Any.slices_Contains_int cQ b off n c f x w i g hc
open Go.Lib in
theorem Tryz.slices_Contains_int_empty(a:Option Addr)(c:Nat)(x:Int)(w:World):
 Calls QP 218 #[.slice a 0 c, .int .i64 x] w fun e w'=>e= .returned (.bool false)∧w'=w:=Any.slices_Contains_int_empty cQ a c x w
def TV:Go.Shelf.Ren:=⟨fun|16=>149|n=>n,fun|24=>38|9=>9|4=>4|n=>n,fun|n=>n⟩
theorem PT:Go.Proofs.Lays2.n16 QP TV:={
 mixed:=kr
 f16:=Tryz.func149.trans (zC some kr)
 t4:=Abl
 a4:=Ac1
 z4:=Acm
 v4:=Abt
 t9:=gx
 a9:=Aei
 z9:=Ad6
 v9:=Ac6
 t24:=zb
 a24:=Tryz.isAgg38
 z24:=Tryz.sizeOf38
 v24:=Tryz.zeroValue38
 i9:=by kernel_rfl}
open Go.RowKit Go.Lib in
theorem Tryz.slices_Clone_string(b off n c:Nat)(f:List ByteArray)(w:World)(l:n≤f.length)(i:n*16≤140737488355328)(hc:∀j,j<f.length→w.cell? ⟨b,off+j,none⟩=some (.string (f.getD j ByteArray.empty))):
 Calls QP 149 #[.slice (some ⟨b,off,none⟩) n c] w fun e w'=>∃g,e= .returned g∧w'.ownsRow w.heap.size 9 1 g n ((f.take n).map (Value.string))∧g≠ .slice none 0 0∧Below w.heap.size w w':=Any.slices_Clone_string PT b off n c f w l i hc
open Go.RowKit Go.Lib in
theorem Tryz.slices_Clone_string_nil(n c:Nat)(w:World):
 Calls QP 149 #[.slice none n c] w fun e w'=>e= .returned (.slice none 0 0)∧w'=w:=Any.slices_Clone_string_nil PT n c w
open Go.RowKit Go.Lib in
theorem Tryz.slices_Clone_string_zero(a:Addr)(c:Nat)(w:World):
 Calls QP 149 #[.slice (some a) 0 c] w fun e w'=>∃f,e= .returned f∧w'.ownsRow w.heap.size 9 1 f 0 []∧f≠ .slice none 0 0∧Below w.heap.size w w':=Any.slices_Clone_string_zero PT a c w
def TW:Go.Shelf.Ren:=⟨fun|20=>272|n=>n,fun|22=>23|3=>3|4=>4|0=>0|n=>n,fun|n=>n⟩
theorem UE:Go.Proofs.Lays2.n20 QP TW:={
 mixed:=kr
 f20:=Tryz.func272.trans (zC some kr)
 t0:=Abx
 a0:=Ade
 z0:=Ac2
 v0:=Ab3
 t3:=oz
 a3:=Acn
 z3:=Ab7
 v3:=Abi
 t4:=Abl
 a4:=Ac1
 z4:=Acm
 v4:=Abt
 t22:=zU
 a22:=Afu
 z22:=Afe
 v22:=Aec
 i3:=by kernel_rfl}
open Go.RowKit Go.Lib Go.Sort in
theorem Tryz.slices_Compact_int(Ap off cap:Nat)(f:List Int)(w:World)(g:Holds (Value.int .i64) w Ap off f.toArray)(j:f.length≤9223372036854775807)(i:f.length≤cap):
 Calls QP 272 #[.slice (some ⟨Ap,off,none⟩) f.length cap] w fun e w'=>e= .returned (.slice (some ⟨Ap,off,none⟩) (Lib.compact f).length cap)∧∃q,w'=putRow (Value.int .i64) (Sort.ahead w q) Ap off (Lib.compact f++List.replicate (f.length-(Lib.compact f).length) 0).toArray:=Any.slices_Compact_int UE Ap off cap f w g j i
open Go.RowKit Go.Lib Go.Sort in
theorem Tryz.slices_Compact_int_empty(a:Option Addr)(cap:Nat)(w:World):
 Calls QP 272 #[.slice a 0 cap] w fun e w'=>e= .returned (.slice a 0 cap)∧w'=w:=Any.slices_Compact_int_empty UE a cap w
def TX:Go.Shelf.Ren:=⟨fun|25=>222|31=>311|32=>312|37=>238|n=>n,fun|22=>23|3=>3|4=>4|40=>83|0=>0|n=>n,fun|n=>n⟩
theorem UF:Go.Proofs.Lays2.n25 QP TX:={
 mixed:=kr
 f25:=Tryz.func222.trans (zC some kr)
 f31:=Tryz.func311.trans (zC some kr)
 f32:=Tryz.func312.trans (zC some kr)
 f37:=Tryz.func238.trans (zC some kr)
 t0:=Abx
 a0:=Ade
 z0:=Ac2
 v0:=Ab3
 t3:=oz
 a3:=Acn
 z3:=Ab7
 v3:=Abi
 t4:=Abl
 a4:=Ac1
 z4:=Acm
 v4:=Abt
 t22:=zU
 a22:=Afu
 z22:=Afe
 v22:=Aec
 t40:=zW
 a40:=Tryz.isAgg83
 z40:=Tryz.sizeOf83
 v40:=Afm}
open Go.RowKit Go.Lib in
theorem Tryz.slices_BinarySearch_int(b off n c:Nat)(f:List Int)(x:Int)(w:World)(i:n≤f.length)(g:n<4611686018427387904)(hc:∀j,j<f.length→w.cell? ⟨b,off+j,none⟩=some (.int .i64 (f.getD j 0)))(hs:(f.take n).Pairwise (·≤·)):
 Calls QP 222 #[.slice (some ⟨b,off,none⟩) n c, .int .i64 x] w fun e w'=>e= .returned (.tuple #[.int .i64 ((f.take n).countP (·<x):Nat), .bool ((f.take n).contains x)])∧∃q,w'=w.drewN q:=Any.slices_BinarySearch_int UF b off n c f x w i g hc hs
def TY:Go.Shelf.Ren:=⟨fun|23=>223|n=>n,fun|22=>23|3=>3|4=>4|0=>0|n=>n,fun|n=>n⟩
theorem ek:Go.Proofs.Lays2.n23 QP TY:={
 mixed:=kr
 f23:=Tryz.func223.trans (zC some kr)
 t0:=Abx
 a0:=Ade
 z0:=Ac2
 v0:=Ab3
 t3:=oz
 a3:=Acn
 z3:=Ab7
 v3:=Abi
 t4:=Abl
 a4:=Ac1
 z4:=Acm
 v4:=Abt
 t22:=zU
 a22:=Afu
 z22:=Afe
 v22:=Aec
 i3:=by kernel_rfl}
open Go.RowKit Go.Lib Go.Sort in
theorem Tryz.slices_Delete_int(Ap off cap i j:Nat)(f:List Int)(w:World)(g:Holds (Value.int .i64) w Ap off f.toArray)(l:f.length≤cap)(r:cap≤9223372036854775807)(o:i≤j)(p:j≤f.length):
 Calls QP 223 #[.slice (some ⟨Ap,off,none⟩) f.length cap, .int .i64 i, .int .i64 j] w fun e w'=>e= .returned (.slice (some ⟨Ap,off,none⟩) (f.length-(j-i)) cap)∧∃q,w'=putRow (Value.int .i64) (Sort.ahead w q) Ap off (f.take i++f.drop j++List.replicate (j-i) 0).toArray:=Any.slices_Delete_int ek Ap off cap i j f w g l r o p
open Go.RowKit Go.Sort in
theorem Tryz.slices_Sort_int_none(p:Option Addr)(cap:Nat)(w:World):
 Calls QP 271 #[.slice p 0 cap] w fun e w'=>e= .returned (.tuple #[])∧w'=w:=Any.slices_Sort_int_none cO p cap w
open Go.RowKit Go.Lib in
theorem Tryz.slices_BinarySearch_int_empty(a:Option Addr)(c:Nat)(x:Int)(w:World):
 Calls QP 222 #[.slice a 0 c, .int .i64 x] w fun e w'=>e= .returned (.tuple #[.int .i64 0, .bool false])∧w'=w:=Any.slices_BinarySearch_int_empty UF a c x w
end Go.Proofs
namespace Go.Proofs.K
open Go Go.Eng Go.RowKit Silo TryzT
abbrev LN:TypeId:=285
theorem en(s:List UInt8)(hs:s.length≤140737488355328):Calls QP 264 #[St s] w (AP fun v w'=>Below w.heap.size w w'∧v=St s):=
 (Tryz.stringslite_Clone ⟨s.toArray⟩ w (by rw[size_mk];omega)).mono fun _ _ h=>⟨_,h.1,h.2,Z⟩
theorem iv(s:List UInt8)(hs:s.length≤140737488355328):Calls QP 170 #[St s] w (AP fun v w'=>Below w.heap.size w w'∧v=St s):=by
 have f:Bz w w:=Bz.refl w;refine enter (n:=5) (res:=#[.tmp 2]) Tryz.func170 Z Z Z Z<|Ab<|cg<|za Z<|Ac<|Ab<|cg<|zm Z<|ve (Ay.call us Z (en s hs)) ?_;rintro v4 w1 ⟨g,rfl⟩;refine za Z<|Ac<|Az Z Z ?_;exact⟨(f.up g),Z⟩
theorem qU:Calls QP 93 #[] w (AP fun v w'=>Below w.heap.size w w'∧∃b,v= .pointer (some ⟨b,0,none⟩)∧w.heap.size≤b∧FG w' b (JL.map DB++[St [],I 0]) LN):=by
 obtain⟨c,g,hc⟩:=AQ.start w;refine enter (n:=15) (res:=#[.tmp 0]) Tryz.func93 Z Z Z Z<|Ab<|cg<|za Z<|Ac<|Ab<|cg<|ve (Al c 1 (Ay.call oX Z (UA))) ?_;rintro J w1 ⟨c1,l,C,rfl⟩;refine vq (AB (cells:=#[DB 1779033703,DB 3144134277,DB 1013904242,DB 2773480762,DB 1359893119,DB 2600822924,DB 528734635,DB 1541459225,St [],I 0]) Z kr) ?_;refine Dz c1 104 fun w2 b4 c2 o f=>?_;refine za Z<|Ac ?_;replace g:=(g.mv l).mv o;have p:w.heap.size≤b4:=by
  rcases yT b4 w.heap.size with h|h
  ·have i:=g.Bf b4 h;rw[f.Bf] at i;cases i
  exact h
 refine Ab<|AY c2 [] [0,0,0,0,1,0,0,0,0,3] [0,1,2,3,4,5,6,7,8,9] fun R r j=>?_;refine AK Z Z<|vd Z (fun _=>Ae Z)<|vd Z (fun _=>Aa LD Z)<|vd Z (fun _=>As GX Z Z Ad Ad)<|vc Z j.kp (f.mv.kb AL Z Z)<|vd Z (fun _=>Eg Z Z)<|vd Z (fun _=>Ae Z)<|vd Z (fun _=>Aa LD Z)<|vd Z (fun _=>As GX Z Z Ad Ad) ?_;refine WD.wild Z Z Z (AJ AL Z Z ra ra f.mv Z) ?_;rintro _ U ⟨f,t⟩;refine WD.nil ?_;clear j;refine Ab<|cg<|zm Z<|za Z<|Ac<|Az Z Z ?_;exact⟨g.mv.below,b4,Z,p,f.Ap⟩
abbrev La(h:List Int)(rest:List UInt8)(n:Int):List Value:=h.map DB++[St rest,I n]
theorem iw{b:Nat}{h:List Int}(b2:FG w b (La h [] 0) LN)(hl:h.length=8)(s:List UInt8)(hs:s.length≤140737488355328):
 Calls QP 94 #[.pointer (some ⟨b,0,none⟩),St s] w (AP fun v w'=>w.grownBy w' (some b)∧∃a7 rest,a7.length=8∧rest.length≤64∧rest.length≤s.length∧FG w' b (La a7 rest s.length) LN∧GD h s 0=Gb a7 rest s.length true):=by
 obtain⟨c,hc⟩:∃c:Nat→Nat,c=Av b:=⟨_,Z⟩;have f:Ar c w 2 b (La h [] 0) LN:=⟨b2,by rw[hc,RI]⟩;have j:Acc c w [2] c w:=Acc.refl _ _ _;clear b2;obtain⟨H,U⟩:∃H,H=h:=⟨h,Z⟩;rw[←U];have a8:=hl;obtain⟨l,o,p,r,C,I,J,R,rfl⟩:=eight hl;refine enter (n:=62) (res:=#[]) Tryz.func94 Z Z Z Z<|Ab<|cg<|zm Z<|vq (Ae Z)<|vq (Aa Oq Z)<|vq (Ah BK Z f.Ap Z)<|zm Z<|vq (dU Z Z Ad)<|za Z ?_;refine Ac<|Ab<|AY c [] [0,0,0,1,0,0,0,1,0,0,0,0,3] [0,1,2,3,4,5,6,7,8,9,10,11,12] fun w1 c3 i=>?_;have b1:=f;refine AK Z Z<|vd Z (fun _=>Ae Z)<|vd Z (fun _=>Aa HW Z)<|vc Z i.kp (b1.mv.kb Au Z Z)<|AK Z Z<|vd Z (fun _=>Ae Z)<|vd Z (fun _=>Aa Oq Z)<|vc Z i.kp (b1.mv.kb BK Z Z)<|vd Z (fun _=>Bp.BY Tryz.underlying9 Z)<|vd Z (fun _=>EX Z Z Ad Ad)<|vd Z (fun _=>Ae Z)<|vd Z (fun _=>Aa HW Z) ?_;refine WD.wild Z Z Z (AJ Au Z Z ra ra f.mv Z) ?_;rintro _ w2 ⟨f,c4⟩;refine WD.nil ?_;clear b1;clear i;refine Ab<|Ai ?_;rw[←U] at a8;refine WC.loop (σ:=List Int×List UInt8×Nat) (fun g=>[(0, .pointer (some ⟨b,0,none⟩)),(1,St g.2.1)]) (fun g w'=>∃c',Ar c' w' 2 b (La g.1 [] g.2.2) LN∧Acc c w [2] c' w'∧g.1.length=8∧g.2.2+g.2.1.length=s.length∧GD H s 0=GD g.1 g.2.1 g.2.2) (fun g=>g.2.1.length) (H,s,0) Aq ⟨_,by rw[U];exact f,j.mv,a8,by simp,Z⟩ ?_;clear f j U;clear a8 hl;rintro⟨h,t,n⟩ h1 ⟨a6,f,j,hl,b3,b0⟩;dsimp only at f j hl b3 b0⊢;obtain⟨l,o,p,r,C,I,J,R,rfl⟩:=eight hl;refine Ab<|Ab<|cg<|zm Z<|vq (Bp.BY Tryz.underlying9 Z)<|vq (BZ Z Z)<|Ac<|AS Z (fun b9=>?_) fun b9=>?_
 ·have ht:64<t.length:=oo;refine Aj<|Ai<|Ab<|cg<|zm Z<|vq (Ae Z)<|vq (Aa HW Z)<|vq (Ah Au Z f.Ap Z)<|vq (AH Z Z Ad Ad) ?_;refine vq (Ae Z)<|vq (Aa HW Z)<|WR.AI (AJ Au Z Z ra ra f Z) ?_;rintro _ e5 ⟨f,c5⟩;refine Ac<|Ab<|AY a6 [] [0,0,0,0,1,0,0,0,0,0,1,2,0,0,3] [0,1,2,3,4,5,6,7,8,9,10,11,12,13,14] fun e6 c6 i=>?_;refine AK Z Z<|AK Z Z<|vd Z (fun _=>Ae Z)<|vd Z (fun _=>Aa LD Z)<|vc Z i.kp (fun W b8=>Cy Hz Z (f.mv.kp b8 Z).Ap (by simp[La]))<|AK Z Z<|vd Z (fun _=>JT gx Z Z oo oo)<|AK Z Z<|vd Z (fun _=>Ae Z) ?_;refine vd Z (fun _=>Aa HW Z)<|vc Z i.kp (f.mv.kb Au Z Z) ?_;refine WD.AW Z Z Z (Al a6 1 (Ay.call oY Z (UD (h:=[l,o,p,r,C,I,J,R]) Z (t.take 64) (by simp;omega) _ oo oo false))) Z ?_;rintro e3 e7 ⟨c1,b6,e1,rfl⟩;refine i.AX b6 fun i=>vd Z (fun _=>Ae Z)<|vd Z (fun _=>Aa LD Z) ?_;refine WD.wild Z Z Z (Mk Hz Z Z f.mv (by simp[Gb]) (by simp[La]) (fun v hv=>by obtain⟨n,_,rfl⟩:=zc.1 hv;rfl)) ?_;rintro _ c0 ⟨b7,e0⟩;replace f:Ar _ c0 2 b (La (Gb [l,o,p,r,C,I,J,R] (t.take 64) ((n:Int)+64) false) [] ((n:Int)+64)) LN:=b7;refine WD.nil ?_;clear i;refine cg<|zm Z<|vq (Gz gx Z Z Ad Ad)<|za Z<|Ac ?_;have b5:((n:Int)+64)=((n+64:Nat):Int):=oo;rw[b5] at f;refine⟨(Gb [l,o,p,r,C,I,J,R] (t.take 64) ((n+64:Nat):Int) false,t.drop 64,n+64),Aq,⟨_,f,j.mv,Gj _ _ _ _,by simp;omega,by rw[b0,LI ht]⟩,by simp;omega⟩
 have ht:¬64<t.length:=oo;refine WC.exit Z<|Ab<|cg<|zm Z<|zm Z<|ve (Al a6 1 (Ay.call tC Z (iv t oo))) ?_;rintro e4 e8 ⟨c2,c7,e2,rfl⟩;refine vq (Ae Z)<|vq (Aa Oq Z)<|WR.AI (AJ BK Z Z ra ra f.mv Z) ?_;rintro _ e9 ⟨f,c8⟩;refine Ac<|cg<|zm Z<|vq (Ae Z)<|vq (Aa HW Z)<|vq (Ah Au Z f.Ap Z)<|zm Z<|vq (Bp.BY gx Z)<|vq (AH Z Z Ad Ad) ?_;refine vq (Ae Z)<|vq (Aa HW Z)<|WR.AI (AJ Au Z Z ra ra f Z) ?_;rintro _ h0 ⟨f,c9⟩;refine Ac<|⟨_,_,Z,Z,?_⟩;have b4:((n:Int)+(t.length:Int))=((s.length:Nat):Int):=oo;have a1:Ar _ _ 2 b (La [l,o,p,r,C,I,J,R] t ((n:Int)+(t.length:Int))) LN:=f;rw[b4] at a1;have a1:=a1.Ap;subst hc;refine⟨Z,j.mv.OD,_,t,Z,by omega,by omega,a1,?_⟩;rw[b0,Jw ht,b3]
end Go.Proofs.K
namespace Go.Eng
open Go
theorem qV{P:Program}{env:Env}{ty:TypeId}{op:Op}{i b:Nat}{R:Value→World→Prop}(hc:c b=i)(g:b<w.heap.size)(h:Ay P env w op ty (fun v w'=>w.grownBy w' (some b)∧R v w')):
 Ay P env w op ty (fun v w'=>∃c',Mv c w c' w' [i]∧c' b=i∧R v w'):=h.mono fun v w' ⟨hg,j⟩=>by
 obtain⟨c',f,_⟩:=Mv.grown c i hg (fun k hk=>by injection hk with hk;subst hk;exact hc);exact⟨c',f,(f.Bf b g).trans hc,j⟩
end Go.Eng
namespace Go.Proofs.K
open Go Go.Eng Go.RowKit Silo TryzT
theorem qW{b:Nat}{h:List Int}{rest:List UInt8}{n:Int}(a1:FG w b (La h rest n) LN)(hl:h.length=8)(b5:rest.length≤64)(h0:0≤n)(b4:n<9223372036854775808):
 Calls QP 95 #[.pointer (some ⟨b,0,none⟩)] w (AP fun v w'=>Below w.heap.size w w'∧v=St (lN (Gb h rest n true))):=by
 obtain⟨c,j,hc⟩:=AQ.start w;have l:Ar c w 0 b (La h rest n) LN:=⟨a1,hc b⟩;clear a1 hc;obtain⟨o,p,r,t,C,J,R,U,rfl⟩:=eight hl;refine enter (n:=39) (res:=#[.tmp 2]) Tryz.func95 Z Z Z Z<|Ab<|cg<|za Z<|Ac<|Ab<|cg<|za Z<|Ac<|Ab<|Ab<|AY c [] [0,0,0,1,0,0,0,1,0,0,0,1,2,0] [0,1,2,3,4,5,6,7,8,9,10,11,13,12] fun w1 c0 i=>?_;refine AK Z Z<|vd Z (fun _=>Ae Z)<|vd Z (fun _=>Aa LD Z)<|vc Z i.kp (fun W b1=>Cy Hz Z (l.mv.kp b1 Z).Ap (by simp[La]))<|AK Z Z<|vd Z (fun _=>Ae Z)<|vd Z (fun _=>Aa Oq Z)<|vc Z i.kp (l.mv.kb BK Z Z)<|AK Z Z ?_;refine vd Z (fun _=>Ae Z)<|vd Z (fun _=>Aa HW Z)<|vc Z i.kp (l.mv.kb Au Z Z)<|AK Z Z<|WD.AW Z Z Z (Al c 1 (Ay.call oY Z (UD (h:=[o,p,r,t,C,J,R,U]) Z rest b5 n h0 b4 true))) Z ?_;rintro c6 w2 ⟨c2,b0,c5,rfl⟩;refine i.AX b0 fun i=>WD.nil ?_;clear i;refine Ai ?_;have b3:=Gj [o,p,r,t,C,J,R,U] rest n true;generalize Gb [o,p,r,t,C,J,R,U] rest n true=H at b3⊢;refine WC.loop (σ:=Nat×Value) (fun f=>[(3,f.2),(18, .agg (H.map DB).toArray),(19,I f.1)]) (fun f w'=>∃c',AQ w c' w'∧Ao c' w' 1 5 1 f.2 (4*f.1) (Ax (MK H (4*f.1)))∧f.1≤8) (fun f=>8-f.1) (0, .slice none 0 0) Aq ⟨_,j.mv,Ao.nil _ _ _ _ _,by simp⟩ ?_;clear j l;rintro⟨k,v⟩ c9 ⟨a7,j,g,hk⟩;dsimp only at j g hk⊢;refine Ab<|cg<|vq (AE Z Z)<|Ac<|Ab<|AS Z (fun b2=>?_) fun b2=>?_
 ·have c4:k<8:=oo;refine Aj<|Ab<|Ai<|Ab<|cg<|vq (eb GX AL Z Z oo oo (hb oo))<|za Z<|Ac<|cg ?_;refine zm Z<|zm Z<|vq (Fk VL yR Z)<|zm Z<|vq (Ir Z Z Ad (by simp[IntKind.bits]<;>omega))<|vq (Fk VL yR Z)<|zm Z<|vq (Ir Z Z Ad (by simp[IntKind.bits]<;>omega))<|vq (Fk VL yR Z) ?_;refine zm Z<|vq (Ir Z Z Ad (by simp[IntKind.bits]<;>omega))<|vq (Fk VL yR Z) ?_;refine ve (Nj a7 134 Di Z Z Z (by simp[Value.cells]) Z Z) ?_;rintro _ c7 ⟨b7,b8,rfl,c1,a6⟩;refine ve (AN Di Z Z g.mv (Src.An zG a6.Ap.An Z AG) EY Fb) ?_;rintro b6 c8 ⟨b9,c3,g⟩;clear a6;have a8:Ax (MK H (4*k))++[Value.int .u8 (Iq (gW H (k:Int).toNat)).toNat,Value.int .u8 (Iq (gW H (k:Int).toNat/2^(8:Int).toNat)).toNat,Value.int .u8 (Iq (gW H (k:Int).toNat/2^(16:Int).toNat)).toNat,Value.int .u8 (Iq (gW H (k:Int).toNat/2^(24:Int).toNat)).toNat]=Ax (MK H (4*(k+1))):=by
   rw[eg];simp[Ax]
  replace g:Ao _ _ 1 5 1 b6 (4*k+4) (Ax (MK H (4*k))++[Value.int .u8 (Iq (gW H (k:Int).toNat)).toNat,Value.int .u8 (Iq (gW H (k:Int).toNat/2^(8:Int).toNat)).toNat,Value.int .u8 (Iq (gW H (k:Int).toNat/2^(16:Int).toNat)).toNat,Value.int .u8 (Iq (gW H (k:Int).toNat/2^(24:Int).toNat)).toNat]):=g;rw[a8,show 4*k+4=4*(k+1) by omega] at g;refine za Z<|Ac<|cg<|vq (AH Z Z Ad Ad)<|zm Z<|Ac ?_;exact⟨(k+1,_),Aq,⟨_,j.mv,g,by dsimp only;omega⟩,by dsimp only;omega⟩
 have:k=8:=oo;subst this;refine WC.exit Z<|Ab<|cg<|zm Z<|vq (GV zG gx yR Z g.own)<|za Z<|Ac<|Az Z Z ?_;exact⟨j.below,Z⟩
theorem pO(s:List UInt8)(hs:s.length≤140737488355328):Calls QP 50 #[St s] w (AP fun v w'=>Below w.heap.size w w'∧v=St (AV s)):=by
 obtain⟨c,i,hc⟩:=AQ.start w;clear hc;refine enter (n:=10) (res:=#[.tmp 2]) Tryz.func50 Z Z Z Z<|Ab<|cg<|za Z<|Ac<|Ab<|cg<|ve (Al c 7 (Ay.call ya Z (qU))) ?_;rintro v4 w1 ⟨c1,R,C,⟨b4,rfl,p,g⟩⟩;have f:Ar _ _ 7 b4 (La JL [] 0) LN:=⟨g,C b4 p⟩;clear g;refine za Z<|Ac<|Ab<|cg<|zm Z<|zm Z<|ve (qV f.Bf f.Ap.lt (Ay.call yb Z (iw f.Ap Z s hs))) ?_;rintro a8 w2 ⟨c2,U,o,J,rest,r,t,a6,l,j⟩;replace f:Ar _ _ 7 b4 _ LN:=⟨l,o⟩;refine Ac<|Ab<|cg<|zm Z<|ve (Al c2 1 (Ay.call yc Z (qW f.Ap r t oo oo))) ?_;rintro b0 b1 ⟨I,a1,a7,rfl⟩;refine za Z<|Ac<|Az Z Z ?_;exact⟨i.mv.below,by rw[AV,show Cv.set 0 (MW (gW Cv 0) 16842784)=JL from Z,j]⟩
theorem aw(s:List UInt8)(hs:s.length≤140737488355328):Calls QP 30 #[St s] w (AP fun v w'=>Below w.heap.size w w'∧v=St (AV s)):=by
 obtain⟨c,g,hc⟩:=AQ.start w;clear hc;refine enter (n:=54) (res:=#[.tmp 2]) Tryz.func30 Z Z Z Z<|Ab<|cg<|za Z<|Ac<|Ab<|cg<|ve (Al c 1 (Ay.call sL Z (SC))) ?_;rintro e3 w1 ⟨c1,c0,e0,rfl⟩;refine Db c1 103 Mn fun w2 b3 c2 c3 f=>WR.AI (Am Hz Z Z f Z Z AG) ?_;rintro _ e4 ⟨f,c4⟩;refine Ac ?_;replace f:=cM (l:=Cv) f;have b4:Cv.length=8:=rfl;refine Ab<|cg<|vq (As GX Z Z Ad Ad)<|vq (NZ AL Z f.Ap Ad)<|vq (Eg Z Z)<|vq (As GX Z Z Ad Ad) ?_;refine WR.AI (CV AL Z Z f Ad) ?_;rintro _ e5 ⟨f,c5⟩;refine Ac<|Ab<|cg<|za Z<|Ac<|Ab<|Ai ?_;replace f:Ar _ _ 103 b3 (JL.map DB++[]) d8:=f;refine WC.loop (σ:=List Int×Nat) (fun i=>[(0,St s),(3, .pointer (some ⟨b3,0,none⟩)),(4,I i.2)]) (fun i w'=>∃c',AQ w c' w'∧Ar c' w' 103 b3 (i.1.map DB++[]) d8∧i.1.length=8∧i.2≤s.length∧GD JL s 0=GD i.1 (s.drop i.2) i.2) (fun i=>s.length-i.2) (JL,0) Aq ⟨_,g.mv,f,Z,by simp,Z⟩ ?_;clear g f b4;rintro⟨h,n⟩ h0 ⟨b9,g,f,hl,b5,o⟩;dsimp only at g f hl b5 o⊢;refine Ab<|Ab<|cg<|zm Z<|vq (Bp.BY Tryz.underlying9 Z)<|zm Z<|vq (EX Z Z Ad Ad)<|vq (BZ Z Z)<|Ac ?_;refine AS Z (fun b0=>?_) fun b0=>?_
 ·have ht:64<(s.drop n).length:=by simp;omega
  refine Aj<|Ai<|Ab<|cg<|zm Z<|zm Z<|zm Z<|vq (AH Z Z Ad Ad)<|vq (Bp.sslice Tryz.underlying9 Z Z Z oo oo oo) ?_;refine zm Z<|vq (AH Z Z Ad Ad)<|vq (Co Tryz.underlying3 Tryz.underlying136 Z Ad Ad) ?_;refine ve (LK f (Ay.call sM Z (UC f.Ap hl ((s.drop (n:Int).toNat).take ((((n:Int)+64).toNat)-(n:Int).toNat)) (by simp;omega) ((n:Int)+64) oo oo false))) ?_;rintro e1 e6 ⟨b6,c6,f⟩;refine Ac<|cg<|zm Z<|vq (AH Z Z Ad Ad)<|za Z<|Ac ?_;have C:((n:Int)+64).toNat-(n:Int).toNat=64:=oo;rw[C,Int.toNat_natCast,show((n:Int)+64)=((n+64:Nat):Int) by omega] at f;have J:((n:Int)+64)=((n+64:Nat):Int):=oo;rw[J];exact⟨(Gb h ((s.drop n).take 64) ((n+64:Nat):Int) false,n+64),Aq,⟨_,g.mv,f,Gj _ _ _ _,by simp at ht;dsimp only;omega,by rw[o,LI ht,List.drop_drop]⟩,by simp at ht;dsimp only;omega⟩
 have ht:¬64<(s.drop n).length:=by simp;omega
 refine WC.exit Z<|Ab<|cg<|zm Z<|zm Z<|vq (Gz gx Z Z oo oo)<|zm Z<|vq (Bp.BY gx Z)<|vq (Co oz zL Z Ad Ad) ?_;refine ve (LK f (Ay.call sM Z (UC f.Ap hl (s.drop (n:Int).toNat) (by simp;omega) (s.length:Int) oo oo true))) ?_;rintro e2 e7 ⟨t,c7,f⟩;have R:Gb h (s.drop (n:Int).toNat) (s.length:Int) true=GD JL s 0:=by
  rw[o,Jw ht,pv,lz,show n+(s.length-n)=s.length by omega]
 rw[R] at f;have b2:=TU _ JL s 0 (lx _);generalize a7:GD JL s 0=H at f b2;refine Ac<|Ab<|cg<|ve (XC t 135 Di Z Z Ad Ad Ad) ?_;rintro r e8 ⟨b7,c8,p⟩;refine za Z<|Ac ?_;simp only[show Int.toNat 32=32 from Z,Lo] at p;refine Ab<|Ab<|cg<|za Z<|Ac<|Ai<|WC.loop (σ:=Nat) (fun k=>[(3, .pointer (some ⟨b3,0,none⟩)),(5,r),(6,I k)]) (fun k w'=>∃c',AQ w c' w'∧Ar c' w' 103 b3 (H.map DB++[]) d8∧Ao c' w' 135 5 1 r 32 (Ax (MK H k++List.replicate (32-k) 0))∧k≤32) (fun k=>32-k) 0 Aq ⟨_,g.mv,f.mv,p,by omega⟩ ?_;clear g f p;rintro k wk ⟨b8,g,f,j,hk⟩;refine Ab<|Ab<|cg<|zm Z<|vq (AE Z Z)<|Ac<|AS Z (fun a8=>?_) fun a8=>?_
 ·have b1:k<32:=oo;refine Aj<|Ab<|Ai<|cg<|zm Z<|zm Z<|zm Z<|vq (Rk Z Z Ad Ad Ad)<|vq (As GX Z Z Ad Ad) ?_;refine vq (NZ AL Z f.Ap Ad)<|zm Z<|vq (Xr Z Z Ad Ad)<|vq (FZ Z Z Ad Ad)<|vq (Ir Z Z Ad (by simp[IntKind.bits]<;>omega))<|vq (Fk VL yR Z)<|vq (Bj Di j Z Z oo oo) ?_;refine WR.AI (ca Ot j Ad Z Z ra ra) ?_;rintro _ e9 ⟨j,c9⟩;simp only[pv] at j;have U:((k:Int)/4).toNat=k/4:=oo;have a1:(8*((k:Int)%4)).toNat=8*(k%4):=oo;rw[U,a1,Sc,il b1] at j;refine Ac<|cg<|zm Z<|vq (AH Z Z Ad Ad)<|za Z<|Ac ?_;exact⟨k+1,Aq,⟨_,g.mv,f.mv,j,by omega⟩,by omega⟩
 have:k=32:=oo;subst this;refine WC.exit Z<|Ab<|cg<|zm Z<|vq (GV zG gx yR Z j.own)<|za Z<|Ac<|Az Z Z ?_;have a6:MK H 32++List.replicate (32-32) 0=AV s:=by rw[←a7];simp[AV,lN,MK,JL]
 exact⟨g.below,by rw[a6]⟩
theorem Ns(s:List UInt8)(hs:s.length≤140737488355328):Calls QP 8 #[St s] w (AP fun v w'=>Below w.heap.size w w'∧v=St (AV s)):=by
 have f:Bz w w:=Bz.refl w;refine enter (n:=5) (res:=#[.tmp 2]) Tryz.func8 Z Z Z Z<|Ab<|cg<|za Z<|Ac<|Ab<|cg<|zm Z<|ve (Ay.call xu Z (aw s hs)) ?_;rintro v4 w1 ⟨g,rfl⟩;refine za Z<|Ac<|Az Z Z ?_;exact⟨(f.up g),Z⟩
end Go.Proofs.K
namespace Silo
open Go Go.Eng Go.RowKit
def Yf:Shape (List (List UInt8)) where
 size:=1
 rd:=fun B w cs l=>∃v,cs=[v]∧Dx CL B w v l
 len:=fun⟨_,h,_⟩=>by rw[h];rfl
 keep:=fun hk ⟨v,h,f⟩=>⟨v,h,f.keep hk⟩
 mono:=fun g ⟨v,h,f⟩=>⟨v,h,f.mono g⟩
 one:=fun⟨v,h,f⟩ u hu=>by
  obtain⟨A,c,rfl,_⟩:=f.form;subst h;simp at hu;subst hu;rfl
theorem LO(l:List Nat)(k:Nat):(l.take k).sum≤l.sum:=by
 conv=>rhs;rw[←zM k l,List.sum_append]
 omega
theorem SD{α:Type}(l:List (List α)):l.flatten.length=(l.map List.length).sum:=List.length_flatten
end Silo
namespace Go.Proofs.K
open Go Go.Eng Go.RowKit Silo TryzT
theorem ix(n:Nat)(p:n≤1048576):Calls QP 319 #[.slice none 0 0,I n] w (AP fun v w'=>Below w.heap.size w w'∧BJ w' w.heap.size 9 1 v 0 []):=by
 have f:Below w.heap.size w w:=zy _ _;refine enter (n:=27) (res:=#[.tmp 4]) Tryz.func319 Z Z Z Z<|Ab<|cg<|za Z<|Ac<|Ab<|Ab<|cg<|zm Z<|vq (AE Z Z)<|Ac<|CD Z (fun g=>?_) fun g=>?_
 ·exfalso;simp only[JV] at g;omega
 refine Aj<|Ab<|Ab<|cg<|zm Z<|zm Z<|vq (XP zb Z)<|zm Z ?_
 first|refine vq (BN BE (by assumption) Z) ?_|refine vq (CH zb Z) ?_
 refine vq (EX Z Z Ad Ad)<|vq (EX Z Z Ad Ad)<|za Z<|Ac<|Ab<|cg<|zm Z<|vq (BZ Z Z)<|Ac ?_;refine AS Z (fun l=>?_) fun l=>?_
 ·have r:0<n:=oo;refine cg<|zm Z<|zm Z<|vq (XP zb Z)<|vq (GC BE Z Z oo oo)<|zm Z ?_;refine ve (Wl BE oz Z Z oo dd oo dd) ?_;rintro _ t ⟨G,rfl,o,j,i⟩;refine zm Z ?_
  first|refine vq (BN BE (by assumption) Z) ?_|refine vq (CH zb Z) ?_
  refine vq (GC BE Z Z oo oo)<|za Z<|Ac<|Ab<|cg<|zm Z<|za Z<|Ac ?_;refine Az Z Z ?_
  first
  |exact⟨i,by
   have e:∀m:Nat,BM (.slice (some ⟨w.heap.size,0,none⟩) m G) 0 ((0:Nat):Int).toNat 1= .slice (some ⟨w.heap.size,0,none⟩) 0 G:=fun m=>by simp[BM,show¬G=0 by omega,add_lit]
   rw[e];exact j⟩
  |exact⟨f,BJ.nil _ _ _ _⟩
 refine Aj<|Ab<|cg<|zm Z<|za Z<|Ac<|Az Z Z ?_
 first
 |exact⟨i,by
  have e:∀m:Nat,BM (.slice (some ⟨w.heap.size,0,none⟩) m G) 0 ((0:Nat):Int).toNat 1= .slice (some ⟨w.heap.size,0,none⟩) 0 G:=fun m=>by simp[BM,show¬G=0 by omega,add_lit]
  rw[e];exact j⟩
 |exact⟨f,BJ.nil _ _ _ _⟩
theorem eo{v:Value}{L:List (List (List UInt8))}(h1:Rd Yf w v L)(a8:(L.map List.length).sum≤1048576):
 Calls QP 242 #[v] w (AP fun b3 w'=>Below w.heap.size w w'∧BJ w' w.heap.size 9 1 b3 L.flatten.length (L.flatten.flatMap fun x=>[St x])):=by
 have b6:=h1.small;unfold Rd at h1;obtain⟨B,U⟩:∃B,B=w.heap.size:=⟨_,Z⟩;have f:B≤w.heap.size:=Ab8 U;have g:Below B w w:=zy _ _;rw[←U] at h1⊢;refine enter (n:=36) (res:=#[.tmp 2]) Tryz.func242 Z Z Z Z<|Ab<|cg<|za Z<|Ac<|Ab<|cg<|za Z<|Ac<|Ab<|Ab<|cg<|zm Z ?_
 first|refine vq (BN QI (by assumption) Z) ?_|refine vq (CH Tryz.underlying195 Z) ?_
 refine zm Z<|Ac<|Ai ?_;refine WC.loop (σ:=Nat) (fun k=>[(0,v),(3,I (((L.take k).map List.length).sum:Nat)),(9,v),(10,I L.length),(11,I k)]) (fun k w'=>Dx Yf B w' v L∧Below B w w'∧B≤w'.heap.size∧k≤L.length) (fun k=>L.length-k) 0 (by simp only[Agj,Ac3,List.sum_nil];repeat (first|exact Sub.nil _|refine Sub.cons Z ?_|refine MS Z ?_)) ⟨h1,g,f,by omega⟩ ?_;clear f h1 g;rintro k b9 ⟨h1,g,f,hk⟩;refine Ab<|cg<|vq (AE Z Z)<|Ac<|Ab<|AS Z (fun b1=>?_) fun b1=>?_
 ·have ka:k<L.length:=oo;obtain⟨a6,r,b5,rfl,l⟩:=h1.wN ka;replace r:=r.bY f;have J:((L.take k).map List.length).sum+L[k].length≤1048576:=by
   rw[←ED _ ka];have:=LO (L.map List.length) (k+1);rw[←Acv] at this;omega
  have b2:=l.small;refine Aj<|Ab<|Ai<|Ab<|cg<|vq (AF QI (by assumption) Z Z Z Ad Ad)<|vq (Bl CB Z r)<|za Z<|Ac ?_;refine Ab<|cg<|zm Z<|zm Z ?_
  first|refine vq (BN BE (by assumption) Z) ?_|refine vq (CH zb Z) ?_
  refine vq (AH Z Z Ad Ad)<|za Z<|Ac<|Ab<|cg<|zm Z<|vq (AE Z Z)<|Ac ?_;refine CD Z (fun a1=>?_) fun a1=>?_
  ·exfalso;simp only[JV] at a1;omega
  refine Aj<|cg<|vq (AH Z Z Ad Ad)<|zm Z<|Ac ?_;exact⟨k+1,(by rw[ED _ ka,Ady];repeat (first|exact Sub.nil _|refine Sub.cons Z ?_|refine MS Z ?_)),⟨h1,g,f,ka⟩,by omega⟩
 have:k=L.length:=oo;subst this;rw[Ui];have a7:=f;refine WC.exit Z<|Ab<|cg<|zm Z<|ve (Ay.call uV Z (ix (L.map List.length).sum a8)) ?_;rintro b4 w1 ⟨C,p⟩;replace h1:=h1.Ei (C.mono f);replace g:=g.Ei (C.mono f);replace f:=zz f C.size;replace p:=p.Dl a7;refine za Z<|Ac<|Ab<|Ab<|cg<|zm Z ?_
 first|refine vq (BN QI (by assumption) Z) ?_|refine vq (CH Tryz.underlying195 Z) ?_
 refine zm Z<|Ac<|Ai<|WC.loop (σ:=Nat×Value) (fun i=>[(6,i.2),(25,v),(26,I L.length),(27,I i.1)]) (fun i w'=>Dx Yf B w' v L∧Below B w w'∧B≤w'.heap.size∧i.1≤L.length∧BJ w' B 9 1 i.2 (L.take i.1).flatten.length ((L.take i.1).flatten.flatMap fun x=>[St x])) (fun i=>L.length-i.1) (0,b4) Aq ⟨h1,g,f,by simp,p⟩ ?_;clear f h1 g p;rintro⟨k,b7⟩ c0 ⟨h1,g,f,hk,j⟩;dsimp only at h1 g hk j⊢;refine Ab<|cg<|vq (AE Z Z)<|Ac<|Ab<|AS Z (fun b0=>?_) fun b0=>?_
 ·have ka:k<L.length:=oo;obtain⟨a6,t,b5,rfl,l⟩:=h1.wN ka;replace t:=t.bY f;have J:((L.take k).map List.length).sum+L[k].length≤1048576:=by
   rw[←ED _ ka];have:=LO (L.map List.length) (k+1);rw[←Acv] at this;omega
  rw[←SD] at J;have b2:=l.small;refine Aj<|Ab<|Ai<|Ab<|cg<|vq (AF QI (by assumption) Z Z Z Ad Ad)<|vq (Bl CB Z t)<|za Z<|Ac ?_;refine cg<|zm Z<|zm Z<|ve (Ay.append BE Z Z j (Src.flat Tryz.underlying38 l) EY Fb f) ?_;intro b8 w2 R;have o:=R.PJ j f;replace h1:=h1.Ei o;replace g:=g.Ei o;replace l:=l.Ei o;replace f:=Nat.le_trans f o.size;replace j:=R.own;refine za Z<|Ac<|cg<|vq (AH Z Z Ad Ad)<|zm Z<|Ac ?_;rw[←List.flatMap_append,←List.length_append,←Ws ka] at j;exact⟨(k+1,_),Aq,⟨h1,g,f,ka,j⟩,by dsimp only;omega⟩
 have:k=L.length:=oo;subst this;rw[Ui] at j;refine WC.exit Z<|Ab<|cg<|zm Z<|za Z<|Ac<|Az Z Z ?_;exact⟨g,j⟩
theorem qX{i b:Nat}{va vb:Value}{x y:List (List UInt8)}{T:TypeId}(l:Ar c w i b [va,vb] T)(h1:Rd CL w va x)(j:Rd CL w vb y):Rd Yf w (.slice (some ⟨b,0,none⟩) 2 2) [x,y]:=
 BJ.rd (s:=Yf) (css:=[[va],[vb]]) ss (l.own (n:=2) (size:=1) Z dd).own Z Z fun k cs z f g=>by
  rcases k with _|_|k
  ·injection f with f;injection g with g;subst f g;exact⟨va,Z,h1⟩
  ·injection f with f;injection g with g;subst f g;exact⟨vb,Z,j⟩
  ·cases f
end Go.Proofs.K
namespace Go.Eng
open Go Go.RowKit Silo
theorem qY(l:List (List UInt8)):l.map (Value.string∘fun x=>ByteArray.mk x.toArray)=l.flatMap fun x=>[St x]:=by
 induction l with
 |nil=>rfl
 |cons a r f=>simp only[Rw,zD,f];rfl
def Dc(v:Value):Prop:=∃A n c,v= .slice A n c∧(0<n→∃b off,A=some ⟨b,off,none⟩)
theorem Dc.sub{A:Option Addr}{n c lo hi sz:Nat}(h:0<n→∃b off,A=some ⟨b,off,none⟩)(hh:hi≤n):Dc (BM (.slice A n c) lo hi sz):=by
 refine⟨_,_,_,Z,fun hp=>?_⟩;obtain⟨b,off,rfl⟩:=h oo;by_cases hc:c=lo
 ·rw[yP hc];exact⟨_,_,Z⟩
 rw[yK hc];exact⟨_,_,by rw[Ab4,add_lit]⟩
theorem BJ.Yg{base:Nat}{e:TypeId}{size n:Nat}{v:Value}{xs:List Value}(h:BJ w base e size v n xs):∃A c,v= .slice A n c∧n≤c∧(0<n→∃b off,A=some ⟨b,off,none⟩):=by
 rcases h.2 with⟨rfl,A,rfl⟩|⟨g,cap,Cs,f,rfl,_,_,_,hc,_⟩
 ·exact⟨A,0,Z,lx _,fun h=>absurd h (Nat.lt_irrefl _)⟩
 ·exact⟨_,cap,Z,hc,fun _=>⟨_,_,Z⟩⟩
theorem pP{base:Nat}{e:TypeId}{size n:Nat}{v:Value}{xs:List Value}(h:w.ownsRow base e size v n xs):BJ w base e size v n xs:=by
 obtain⟨hl,h⟩:=h;rcases h with⟨rfl,rfl⟩|⟨g,cap,Cs,rfl,f,i,j,l,o,p⟩
 ·exact⟨hl, .inl ⟨Z,_,Z⟩⟩
 ·exact⟨hl,KX ⟨g,cap,Cs,(0,0),Z,f,i,fun h=>by simp at h,j,l,o,p⟩⟩
end Go.Eng
namespace Go.Eng
open Go Go.RowKit
theorem Ao.Gu{w w':World}{i n size:Nat}{e:TypeId}{u:Value}{xs:List Value}(R:AQ w c w')(h:Ao c w' i e size u n xs)(hi:i≠0):BJ w' w.heap.size e size u n xs:=by
 obtain⟨hl,f⟩:=h.own;refine⟨hl,?_⟩;rcases f with f|⟨g,cap,Cs,o,rfl,U,p,r,t,C,I,J,j⟩
 ·exact .inl f
 refine .inr ⟨g,cap,Cs,o,Z,?_,p,r,t,C,I,J,j⟩;rcases yT g w.heap.size with hg|hg
 ·have l:=R.Bf g hg;rw[h.Bf g (AM j)] at l;exact(hi l).elim
 exact hg
end Go.Eng
namespace Go.Proofs.K
open Go Go.Eng Go.RowKit Silo TryzT
theorem OF{v:Value}{l:List (List UInt8)}(h:Rd CL w v l)(hp:Dc v)(hl:l.length*16≤140737488355328):Calls QP 149 #[v] w (AP fun t w'=>Below w.heap.size w w'∧BJ w' w.heap.size 9 1 t l.length (l.flatMap fun x=>[St x])):=by
 obtain⟨A,n,c,rfl,g⟩:=hp;have R:l.length=n:=by obtain⟨U,c',f,_⟩:=h.form;injection f with _ f _;exact f.symm
 subst R;cases A with
 |none=>
  have i:l=[]:=by
   cases l with
   |nil=>rfl
   |cons a r=>obtain⟨b,off,h⟩:=g ss;cases h
  subst i;refine(Tryz.slices_Clone_string_nil _ c w).mono fun e w' f=>?_;obtain⟨rfl,rfl⟩:=f;exact⟨_,Z,zy _ _,BJ.nil _ _ _ _⟩
 |some a=>
  rcases zX l.length with i|i
  ·have I:l=[]:=yJ i;subst I;refine(Tryz.slices_Clone_string_zero a c w).mono fun e w' f=>?_;obtain⟨t,rfl,o,_,p⟩:=f;exact⟨_,Z,p,pP o⟩
  obtain⟨b,off,g⟩:=g i;injection g with g;subst g;refine(Tryz.slices_Clone_string b off l.length c (l.map fun x=>⟨x.toArray⟩) w ss hl fun j J=>?_).mono fun e w' f=>?_
  ·have C:j<l.length:=by simpa using J
   obtain⟨cs,hc,rfl,_⟩:=h.el C;have:=hc.1 0 (St l[j]) Z;rw[gy,yY,aa C];simpa[Bh,add_lit,CL,Shape.flat] using this
  obtain⟨t,rfl,o,_,p⟩:=f;refine⟨_,Z,p,?_⟩;have:=pP o;rwa [yM ss,Abd,qY l] at this
theorem ep(s:List UInt8)(hs:s.length≤1048576):
 Calls QP 80 #[St s] w (AP fun v w'=>Below w.heap.size w w'∧∃e6 e7,v= .tuple #[.agg #[I ((BX s).getD Lh).kind,e6,e7],I (if(BX s).isSome then 0 else 7)]∧BJ w' w.heap.size 9 1 e6 ((BX s).getD Lh).HX.length (((BX s).getD Lh).HX.flatMap fun x=>[St x])∧BJ w' w.heap.size 9 1 e7 ((BX s).getD Lh).Aq.length (((BX s).getD Lh).Aq.flatMap fun x=>[St x])):=by
 obtain⟨c,g,hc⟩:=AQ.start w;clear hc;refine enter (n:=68) (res:=#[.cell 2 172, .tmp 3]) Tryz.func80 Z Z Z Z<|Ab<|cg<|Db c 102 Wi fun w1 b2 c1 k8 f=>?_;refine za Z<|Ac<|Ab<|Ab<|cg<|zm Z<|vq (Bp.BY gx Z)<|vq (AE Z Z)<|zm Z ?_;apply WR.CJ false 4 _ BT
 ·intro l6;refine wo<|zm rfl<|wo<|vq (Bp.BY gx rfl)<|wo<|vq (Xr rfl rfl Ad Ad)<|wo<|vq (Bm rfl rfl) ?_;exact Dm 4
 refine zm Z ?_;apply WR.CJ false 3 _ BT
 ·intro l5;refine wo<|zm rfl<|wo<|vq (JT gx rfl rfl Ad Ad)<|wo<|vq (lG rfl rfl) ?_;exact Dm 3
 refine Ac<|AS Z (fun J=>?_) fun J=>?_
 ·have o:BX s=none:=Nr (by
   rintro⟨h6,c6,c7⟩;rcases J with(h|h)|h
   ·omega
   ·omega
   rw[show Int.toNat 4=4 from Z,c6] at h;simp at h)
  refine Ab<|cg<|vq (AB (cells:=#[I 0, .slice none 0 0, .slice none 0 0]) Z kr) ?_;refine WR.AI (Am Ij Z Z f Z Z AG) ?_;rintro _ w2 ⟨f,l0⟩;refine za Z<|Ac<|DR Z (Br Ij Z f.Ap Z) (Cp.tmp Z) ?_;exact⟨g.mv.below,_,_,by rw[o];rfl,by rw[o];exact BJ.nil _ _ _ _,by rw[o];exact BJ.nil _ _ _ _⟩
 obtain⟨h8,k6,h7⟩:7≤s.length∧s.length%32=7∧s.take 4=[77,65,78,70]:=⟨by omega,by omega,by simpa using J.2⟩;obtain⟨K,k7⟩:∃K,s.length=7+32*K:=⟨(s.length-7)/32,by omega⟩;have e2:4<s.length:=oo;have C:5<s.length:=oo;have R:6<s.length:=oo;clear J;have l9:=s[5].toNat_lt;have n0:=s[6].toNat_lt;have l8:=s[4].toNat_lt;refine Aj<|Ab<|cg<|zm Z<|vq (Gy Tryz.underlying9 Z Z oo (List.getElem?_eq_getElem e2))<|vq (RV Tryz.underlying5 Tryz.underlying3 Z)<|vq (AB (cells:=#[I s[4].toNat, .slice none 0 0, .slice none 0 0]) Z kr) ?_;refine Db c1 104 Wi fun o2 b4 k2 l1 i=>WR.AI (Am Ij Z Z i Z Z AG) ?_;rintro _ o3 ⟨i,l2⟩;refine Ac<|Ab<|cg<|za Z<|Ac<|Ab<|Ab<|cg<|za Z<|Ac<|Ai<|WC.loop (σ:=Nat×Value) (fun r=>[(0,St s),(2, .pointer (some ⟨b2,0,none⟩)),(4, .pointer (some ⟨b4,0,none⟩)),(5,r.2),(6,I (7+32*r.1:Nat))]) (fun r w'=>∃c',AQ w c' w'∧Ar c' w' 102 b2 [I 0, .slice none 0 0, .slice none 0 0] 172∧Ar c' w' 104 b4 [I s[4].toNat, .slice none 0 0, .slice none 0 0] 172∧Ao c' w' 5 9 1 r.2 (chunks r.1 (s.drop 7)).length ((chunks r.1 (s.drop 7)).flatMap fun x=>[St x])∧r.1≤K) (fun r=>K-r.1) (0, .slice none 0 0) Aq ⟨_,g.mv,f.mv,i,Ao.nil _ _ _ _ _,by simp⟩ ?_;clear g f i;rintro⟨k,v⟩ j9 ⟨a8,g,f,i,p,hk⟩;dsimp only at g f i p hk⊢;have c2:=Cm k (s.drop 7);refine Ab<|Ab<|cg<|zm Z<|zm Z<|vq (Bp.BY Tryz.underlying9 Z)<|vq (AE Z Z)<|Ac<|AS Z (fun j0=>?_) fun j0=>?_
 ·have j2:k<K:=oo;refine Aj<|Ab<|Ai<|cg<|zm Z<|zm Z<|zm Z<|zm Z<|vq (AH Z Z Ad Ad) ?_;refine vq (Bp.sslice gx Z Z Z oo oo oo) ?_;refine ve (Bb a8 139 BE Z Z Z Z Z) ?_;rintro _ o4 ⟨k0,a7,rfl,b7,e0⟩;refine ve (AN BE Z Z p.mv (Src.An zb e0.Ap.An Z AG) EY Fb) ?_;rintro n4 o5 ⟨k4,b8,p⟩;clear e0;refine za Z<|Ac<|cg<|zm Z<|vq (AH Z Z Ad Ad)<|za Z<|Ac ?_;have h0:((7+32*k:Nat):Int)+32=((7+32*(k+1):Nat):Int):=oo;have h1:(((7+32*k:Nat):Int)+32).toNat-((7+32*k:Nat):Int).toNat=32:=oo;have h2:(chunks k (s.drop 7)).flatMap (fun x=>[St x])++[St ((s.drop ((7+32*k:Nat):Int).toNat).take 32)]=(chunks (k+1) (s.drop 7)).flatMap (fun x=>[St x]):=by
   rw[XS,zP,Abj,pv];rfl
  have h3:(chunks k (s.drop 7)).length+1=(chunks (k+1) (s.drop 7)).length:=by rw[Cm,Cm]
  rw[h1,h2,h3] at p;replace g:=(g.mv b7).mv b8;replace f:=(f.mv b7).mv b8;replace i:=(i.mv b7).mv b8;exact⟨(k+1,_),(by rw[←h0];repeat (first|exact Sub.nil _|refine Sub.cons Z ?_|refine MS Z ?_)),⟨_,g,f,i,p,j2⟩,by dsimp only;omega⟩
 have:k=K:=oo;subst this;refine WC.exit Z<|Ab<|cg<|zm Z<|vq (Gy gx Z Z oo (aa C))<|vq (RV yR oz Z)<|za Z<|Ac<|Ab<|Ab ?_;refine cg<|zm Z<|zm Z<|vq (Gy gx Z Z oo (aa R))<|vq (RV yR oz Z)<|vq (AH Z Z Ad Ad)<|zm Z<|vq (NX BE p Z)<|vq (Bm Z Z) ?_;refine Ac<|AS Z (fun b9=>?_) fun b9=>?_
 ·rw[c2] at b9;have o:BX s=none:=Nr (by
   rintro⟨h6,c6,c7⟩;rw[LJ C,LJ R] at c7;omega)
  refine Ab<|cg<|vq (AB (cells:=#[I 0, .slice none 0 0, .slice none 0 0]) Z kr) ?_;refine WR.AI (Am Ij Z Z f Z Z AG) ?_;rintro _ o6 ⟨f,l3⟩;refine za Z<|Ac<|DR Z (Br Ij Z f.Ap Z) (Cp.tmp Z) ?_;exact⟨g.mv.below,_,_,by rw[o];rfl,by rw[o];exact BJ.nil _ _ _ _,by rw[o];exact BJ.nil _ _ _ _⟩
 rw[c2] at b9;have j1:7≤s.length∧s.take 4=[77,65,78,70]∧s.length=7+32*(at_ s 5+at_ s 6):=⟨h8,h7,by rw[LJ C,LJ R];omega⟩;have e3:=QO j1;have e1:k=at_ s 5+at_ s 6:=by rw[LJ C,LJ R];omega
 have j3:((s[5].toNat:Nat):Int).toNat=at_ s 5:=by rw[LJ C];rfl
 have l7:Rd CL j9 v (chunks k (s.drop 7)):=p.own.Ln (fun x hx=>by have:=GF _ _ x hx;omega) oo;have e4:∀x∈chunks k (s.drop 7),x.length≤140737488355328:=fun x hx=>by have:=GF _ _ x hx;omega
 have e5:(chunks k (s.drop 7)).length≤140737488355328:=oo;obtain⟨c4,a7,rfl,l4,c8⟩:=p.own.Yg;have U:Na s=⟨s[4].toNat,chunks (at_ s 5) (s.drop 7),chunks (at_ s 6) ((s.drop 7).drop (32*at_ s 5))⟩:=by rw[Na,LJ e2]
 have j4:Dc (BM (.slice c4 (chunks k (s.drop 7)).length a7) 0 ((s[5].toNat:Nat):Int).toNat 1):=Dc.sub c8 (by rw[c2];omega);have j5:Dc (BM (.slice c4 (chunks k (s.drop 7)).length a7) ((s[5].toNat:Nat):Int).toNat (chunks k (s.drop 7)).length 1):=Dc.sub c8 (lx _);refine Aj<|Ab<|AY a8 [] [0,0,0,2,0,0,0,2,0,3,0,3] [0,1,2,4,5,6,3,8,7,9,10,11] fun o7 h9 t=>?_;refine AK Z Z<|AK Z Z<|vd Z (fun _=>GC BE Z Z oo oo)<|AK Z Z<|AK Z Z<|vd Z (fun _=>BG BE Z Z oo oo) ?_;refine WD.AW Z Z Z (Al a8 156 (Ay.call oT Z (OF ((p.mv.own.Ln e4 e5).zo (hi:=((s[5].toNat:Nat):Int).toNat) oo) j4 (by simp;omega)))) Z ?_;rintro a1 o8 ⟨e9,c9,j8,j⟩;refine t.AX c9 fun t=>?_;replace j:=j.Cl j8;have k3:=j.Aw;have n2:=j.Av;refine vd Z (fun _=>Aa Oi Z) ?_;refine WD.AW Z Z Z (Al e9 160 (Ay.call oT Z (OF ((p.mv.own.Ln e4 e5).from_ (lo:=((s[5].toNat:Nat):Int).toNat) oo) j5 (by simp;omega)))) Z ?_;rintro a6 n6 ⟨e8,b0,j7,l⟩;refine t.AX b0 fun t=>?_;replace l:=l.Cl j7;have k5:=l.Aw;have n3:=l.Av;refine WD.wild Z Z Z (AJ CB Z Z ra ra i.mv Z) ?_;rintro _ n7 ⟨i,b1⟩;refine vd Z (fun _=>Aa Oj Z)<|WD.wild Z Z Z (AJ CB Z Z ra ra i Z) ?_;rintro _ n8 ⟨i,b3⟩;refine WD.nil ?_;clear t;refine Ab<|Ab ?_;replace j:=((j.mv b0).mv b1).mv b3;replace l:=(l.mv b1).mv b3;rw[j3] at j l;have h4:(chunks k (s.drop 7)).take (at_ s 5)=chunks (at_ s 5) (s.drop 7):=by rw[e1,QM]
 have h5:(chunks k (s.drop 7)).drop (at_ s 5)=chunks (at_ s 6) ((s.drop 7).drop (32*at_ s 5)):=by rw[e1,QN]
 rw[h4] at j;rw[h5] at l;have j6:∀(c5:Nat→Nat) (W:World),Ao c5 W 156 9 1 a1 (chunks (at_ s 5) (s.drop 7)).length ((chunks (at_ s 5) (s.drop 7)).flatMap fun x=>[St x])→Ao c5 W 160 9 1 a6 (chunks (at_ s 6) ((s.drop 7).drop (32*at_ s 5))).length ((chunks (at_ s 6) ((s.drop 7).drop (32*at_ s 5))).flatMap fun x=>[St x])→pL W [I s[4].toNat,a1,a6] (Na s):=fun _ _ j l=>by
  rw[U];exact⟨a1,a6,Z,j.own.Ln (fun x hx=>by have:=GF _ _ x hx;omega) (by rw[Cm];have:=XW s 5;omega),l.own.Ln (fun x hx=>by have:=GF _ _ x hx;omega) (by rw[Cm];have:=XW s 6;omega),by dsimp only;omega,by dsimp only;omega⟩
 refine cg<|vq (AD Ij Z i.Ap Z)<|ve (Al e8 1 (Ay.call tw Z (mj (j6 _ _ j l)))) ?_;rintro n5 n9 ⟨k1,b5,n1,rfl⟩;refine vq (Bq Z)<|Ac<|AS Z (fun c0=>?_) fun c0=>?_
 ·have o:BX s=none:=by rw[e3,c0];rfl
  refine Ab<|cg<|vq (AB (cells:=#[I 0, .slice none 0 0, .slice none 0 0]) Z kr) ?_;refine WR.AI (Am Ij Z Z f.mv Z Z AG) ?_;rintro _ o0 ⟨f,k9⟩;refine za Z<|Ac<|DR Z (Br Ij Z f.Ap Z) (Cp.tmp Z) ?_;exact⟨g.mv.below,_,_,by rw[o];rfl,by rw[o];exact BJ.nil _ _ _ _,by rw[o];exact BJ.nil _ _ _ _⟩
 have c3:BX s=some (Na s):=by rw[e3,c0];rfl
 refine Aj<|Ab<|cg<|vq (AD Ij Z i.mv.Ap Z)<|WR.AI (Am Ij Z Z f.mv Z Z AG) ?_;rintro _ o1 ⟨f,b6⟩;refine za Z<|Ac<|DR Z (Br Ij Z f.Ap Z) (Cp.tmp Z) ?_;replace g:=((((((g.mv h9).mv c9).mv b0).mv b1).mv b3).mv b5).mv b6;exact⟨g.below,a1,a6,by rw[c3,U];rfl,by rw[c3,U];exact((j.mv b5).mv b6).Gu g dd,by rw[c3,U];exact((l.mv b5).mv b6).Gu g dd⟩
theorem Nd{s:List UInt8}:(∀x∈((BX s).getD Lh).HX,x.length≤140737488355328)∧(∀x∈((BX s).getD Lh).Aq,x.length≤140737488355328)∧((BX s).getD Lh).HX.length≤140737488355328∧((BX s).getD Lh).Aq.length≤140737488355328∧Go.Eng.Int64 ((BX s).getD Lh).kind:=by
 have f:=XW s 4;have g:=XW s 5;have i:=XW s 6;by_cases hc:7≤s.length∧s.take 4=[77,65,78,70]∧s.length=7+32*(at_ s 5+at_ s 6)
 ·rw[QO hc];cases j:Np (Na s) with
  |false=>simp[Lh];exact⟨by decide,by decide⟩
  |true=>
   simp only[Afa,Aa1,Na,Cm];exact⟨fun x hx=>by have:=GF _ _ x hx;omega,fun x hx=>by have:=GF _ _ x hx;omega,by omega,by omega,by omega,by omega⟩
 ·rw[Nr hc];simp[Lh];exact⟨by decide,by decide⟩
end Go.Proofs.K
namespace Silo
open Go Go.Eng
structure DE where
 Ak:List UInt8
 text:List UInt8
 Ff:Bool
 deriving DecidableEq
abbrev CP(t:DE):List Value:=[St t.Ak,St t.text, .bool t.Ff]
def HY:Shape DE:=Shape.flat 3 CP (fun t=>t.Ak.length≤140737488355328∧t.text.length≤140737488355328) (fun _=>rfl) (fun _ u hu=>by simp[CP] at hu;rcases hu with rfl|rfl|rfl<;>rfl)
def CR(l:List DE)(d:List UInt8):Option Nat:=l.findIdx? fun t=>t.Ak==d
def Hb(t:DE):List (List UInt8):=if t.Ff then(match BX t.text with|some m=>m.HX++m.Aq|none=>[]) else[]
abbrev L(a b:List UInt8):Prop:=Op.bytesLess a b=true
theorem iy(a:List UInt8):¬L a a:=by unfold L;rw[Eu];decide
theorem mr{a b c:List UInt8}(h:L a b)(f:L b c):L a c:=EE a b c h f
theorem mu{a b:List UInt8}(h:¬L a b)(f:a≠b):L b a:=KB a b (by simpa using h) f
theorem Yh{x:List (List UInt8)}{t:List UInt8}{k:Nat}(hx:x.Pairwise L)(hk:k≤x.length)(h1:∀j (i:j<x.length),j<k→L x[j] t)(o:∀p:k<x.length,L t x[k]):(x.take k++[t]++x.drop k).Pairwise L:=by
 have hd:∀b∈x.drop k,L t b:=fun b f=>by
  obtain⟨j,i,rfl⟩:=Abs.1 f;rw[lz] at i;rw[List.getElem_drop];rcases zX j with l|l
  ·subst l;exact o oo
  exact mr (o oo) (Aa8.1 hx k (k+j) oo oo oo)
 have ht:∀a∈x.take k,L a t:=fun a g=>by
  obtain⟨j,i,rfl⟩:=Abs.1 g;rw[ly] at i;rw[List.getElem_take];exact h1 j oo oo
 have hp:(x.take k++x.drop k).Pairwise L:=by rw[zM];exact hx
 rw[Aab] at hp;rw[zE,Aab];refine⟨hp.1,Aab.2 ⟨by simp,hp.2.1,fun a g b f=>?_⟩,fun a g b f=>?_⟩
 ·simp at g;subst g;exact hd b f
 rcases zH.1 f with f|f
 ·simp at f;subst f;exact ht a g
 exact hp.2.2 a g b f
abbrev Xn:=List UInt8
def yg(T:List DE)(i:Nat):Xn:=(T[i]?.map DE.Ak).getD []
def vx(T:List DE)(i:Nat):List Xn:=(T[i]?.map Hb).getD []
def Hc(T:List DE):Prop:=∀i j (hi:i<T.length) (f:j<T.length),i<j→L T[i].Ak T[j].Ak
theorem IR{T:List DE}{d:Xn}{i:Nat}(h:CR T d=some i):∃hi:i<T.length,T[i].Ak=d:=by
 unfold CR at h;rw[zJ] at h;obtain⟨hi,f,_⟩:=h;exact⟨hi,by simpa using f⟩
theorem OG{T:List DE}(g:Hc T){d:Xn}{i:Nat}(hi:i<T.length)(h:T[i].Ak=d):CR T d=some i:=by
 unfold CR;rw[zJ];refine⟨hi,by simpa using h,fun j f=>?_⟩;have:=g j i oo hi f;simp only[Acl];intro e;rw[e,←h] at this;exact iy _ this
theorem SE(t:DE):(Hb t).length≤20:=by
 unfold Hb;split
 ·cases f:BX t.text with
  |none=>simp
  |some m=>
   have g:Np m=true:=by
    unfold BX at f;split at f
    ·split at f
     ·injection f with e;subst e;assumption
     ·cases f
    ·cases f
   simp only[Np,kg,yI] at g;rw[bU];exact g.1.1.2
 ·simp
inductive Reach (T:List DE) (R:List Xn):Nat→Prop
 |root {d:Xn} {i:Nat}:d∈R→CR T d=some i→Reach T R i
 |step {i:Nat} {d:Xn} {j:Nat}:Reach T R i→d∈vx T i→CR T d=some j→Reach T R j
open Classical in
noncomputable def qZ(T:List DE)(R:List Xn)(i:Nat):Bool:=decide (Reach T R i)
noncomputable def iz(T:List DE)(R:List Xn)(k:Nat):List Xn:=((List.range k).filter (qZ T R)).map (yg T)
noncomputable def vy(T:List DE)(R:List Xn):List Xn:=iz T R T.length
structure zr (T:List DE) (R:List Xn) (seen:List Bool) (todo:List Xn):Prop where
 len:seen.length=T.length
 sound:∀i,seen[i]?=some true→Reach T R i
 yh:∀d∈todo,∀j,CR T d=some j→Reach T R j
 roots:∀d∈R,∀j,CR T d=some j→seen[j]?=some true∨d∈todo
 closed:∀i,seen[i]?=some true→∀d∈vx T i,∀j,CR T d=some j→seen[j]?=some true∨d∈todo
structure zs (seen:List Bool) (ord:List Nat):Prop where
 nodup:ord.Nodup
 mem:∀i,i∈ord↔seen[i]?=some true
def Im(T:List DE)(d:Xn):List Xn:=(T.filter fun t=>(Hb t).contains d).map DE.Ak
theorem Yi{T:List DE}{d:Xn}{k:Nat}(hk:k<T.length):Im (T.take (k+1)) d=if(Hb T[k]).contains d=true then Im (T.take k) d++[T[k].Ak] else Im (T.take k) d:=by
 simp only[Im,yG hk,Acq,zB];split
 ·rename_i h;have f:d∈Hb T[k]:=by simpa using h
  simp[Aeq,f]
 ·rename_i h;have f:d∉Hb T[k]:=by simpa using h
  simp[Aeq,f]
theorem ax(T:List DE)(d:Xn):(Im T d).length≤T.length:=by rw[Im,yF];exact Abc _ _
theorem PU{t:DE}(h:t.Ff=true):Hb t=((BX t.text).getD Lh).HX++((BX t.text).getD Lh).Aq:=by
 rw[Hb,yP h];cases BX t.text<;>rfl
theorem UG{t:DE}(h:t.Ff=false):Hb t=[]:=by rw[Hb,h];rfl
theorem Wv{t:DE}:∀x∈Hb t,x.length≤140737488355328:=fun x hx=>by
 cases h:t.Ff with
 |false=>rw[UG h] at hx;cases hx
 |true=>
  rw[PU h] at hx;obtain⟨f,g,_⟩:=Go.Proofs.K.Nd (s:=t.text);exact(zH.1 hx).elim (f x) (g x)
def TZ(a b:List UInt8):Int:=if Op.bytesLess a b then-1 else if a=b then 0 else 1
theorem cR:∀a b:List UInt8,Lib.compareBytes a b=TZ a b
 |[],[]=>rfl
 |[],_::_=>rfl
 |_::_,[]=>rfl
 |x::a,y::b=>by
  unfold Lib.compareBytes;rw[cR a b];unfold TZ;simp only[Op.bytesLess];by_cases h:x<y
  ·simp[h]
  ·by_cases f:y<x
   ·have i:x≠y:=fun e=>by subst e;exact h f
    simp[h,f,i]
   ·have g:x=y:=by
     rw[UInt8.not_lt] at h f;exact UInt8.le_antisymm f h
    subst g;simp[h]
theorem Ke{a b:List UInt8}:(TZ a b<0)=(Op.bytesLess a b=true):=by
 unfold TZ;split
 ·rename_i h;simp[h]
 ·rename_i h;split<;>simp[h]
theorem PV{a b:List UInt8}:(TZ a b=0)=(a=b):=by
 unfold TZ;split
 ·rename_i h;have:a≠b:=fun e=>by subst e;rw[Eu] at h;cases h
  simp[this]
 ·split<;>simp_all
def BS{α:Type}(p:α→Bool)(l:List α):Nat:=(l.takeWhile p).length
theorem LP{α:Type}{p:α→Bool}:∀{l:List α} {i:Nat},i≤l.length→(∀k (hk:k<l.length),k<i→p l[k]=true)→(∀hi:i<l.length,p l[i]=false)→BS p l=i
 |[],i,hi,_,_=>by simp at hi;subst hi;rfl
 |a::r,0,_,_,f=>by
  have:=f ss;simp only[Aeu] at this;simp[BS,Aan,this]
 |a::r,i+1,hi,j,f=>by
  have g:=j 0 ss oo;simp only[Aeu] at g;have t:=LP (p:=p) (l:=r) (i:=i) (by simpa using hi) (fun k hk C=>by
   have:=j (k+1) (by simpa using hk) oo;simpa using this) (fun o=>by
   have:=f (by simpa using o);simpa using this)
  simp only[BS,Aan,g,Afa,yZ];unfold BS at t;omega
def Io(T:List DE)(d:List UInt8):Nat:=BS (fun t=>Op.bytesLess t.Ak d) T
theorem er{T:List DE}(j:Hc T){d:List UInt8}{i:Nat}(h:CR T d=some i):Io T d=i:=by
 obtain⟨hi,f⟩:=IR h;refine LP oo (fun k hk g=>?_) fun _=>?_
 ·have:=j k i hk hi g;rw[f] at this;exact this
 rw[f];exact Eu d
theorem iA{T:List DE}(r:Hc T){d:List UInt8}{i:Nat}(hi:i≤T.length)(h1:∀k (hk:k<T.length),k<i→Op.bytesLess T[k].Ak d=true)(p:∀k (hk:k<T.length),i≤k→Op.bytesLess T[k].Ak d=false):
 Io T d=i∧(decide ((i:Int)<(T.length:Int))&&decide (((T[i]?.map DE.Ak).getD [])=d))=(CR T d).isSome:=by
 refine⟨LP hi h1 (fun h=>p i h (lx _)),?_⟩;rcases yT i T.length with h|h
 ·rw[Aal (show(i:Int)<(T.length:Int) by omega),Ael,aa h];simp only[Ab4,Aa1];by_cases g:T[i].Ak=d
  ·rw[Aal g,OG r h g];rfl
  rw[Acr g];cases o:CR T d with
  |none=>rfl
  |some j=>
   obtain⟨l,hd⟩:=IR o;exfalso;rcases Afv j i with f|f|f
   ·have:=h1 j l f;rw[hd,Eu] at this;cases this
   ·subst f;exact g hd
   have:=r i j h l f;rw[hd] at this;have t:=p i h (lx _);unfold L at this;rw[t] at this;cases this
 rw[Acr (show¬(i:Int)<(T.length:Int) by omega),Agm];cases o:CR T d with
 |none=>rfl
 |some j=>
  obtain⟨l,hd⟩:=IR o;have:=h1 j l oo;rw[hd,Eu] at this;cases this
def ay(l:List (List UInt8))(d:List UInt8):Int:=match l.findIdx? (fun x=>d==x) with|some i=>(i:Int)|none=>-1
theorem iB{l:List (List UInt8)}{d:List UInt8}{k:Nat}(hk:k<l.length)(h:∀i (hi:i<l.length),i<k→d≠l[i])(f:d=l[k]):ay l d=k:=by
 have:l.findIdx? (fun x=>d==x)=some k:=by
  rw[zJ];exact⟨hk,by simpa using f,fun j g=>by simpa using h j oo g⟩
 rw[ay,this]
theorem et{l:List (List UInt8)}{d:List UInt8}(h:∀i (hi:i<l.length),i<l.length→d≠l[i]):ay l d=-1:=by
 have:l.findIdx? (fun x=>d==x)=none:=by
  rw[Abm];intro x hx;obtain⟨i,hi,rfl⟩:=Abs.1 hx;simpa using h i hi hi
 rw[ay,this]
theorem Ua(l:List (List UInt8))(d:List UInt8):decide (0≤ay l d)=l.contains d:=by
 unfold ay;cases h:l.findIdx? (fun x=>d==x) with
 |some i=>
  obtain⟨hi,f,_⟩:=zJ.1 h;have:l.contains d=true:=by rw[List.contains_iff_mem,show d=l[i] by simpa using f];exact oy hi
  rw[this];simp
 |none=>
  rw[Abm] at h;cases hc:l.contains d with
  |false=>rfl
  |true=>
   rw[List.contains_iff_mem] at hc;have:=h d hc;simp at this
def rb(c:UInt8):Bool:=(decide (97≤c.toNat)&&decide (c.toNat≤122))||(decide (48≤c.toNat)&&decide (c.toNat≤57))
def lead(p:UInt8→Bool):List UInt8→Nat
 |[]=>0
 |c::r=>if p c then lead p r+1 else 0
def vz(s:List UInt8):Nat:=
 if 0<lead (·==45) s then lead (·==45) s else if s.take 2=[95,95] then 2 else if s.take 1=[46]∨s.take 1=[95] then 1 else 0
def iC:Nat→List UInt8→Bool
 |0,_=>false
 |k+1,s=>
  if lead rb s=0∨s.drop (lead rb s)=[] then decide (0<lead rb s)
  else if vz (s.drop (lead rb s))=0 then false
  else iC k ((s.drop (lead rb s)).drop (vz (s.drop (lead rb s))))
def vA(s:List UInt8):Bool:=iC (s.length+1) s
end Silo
namespace Go.Proofs.K
open Go Go.Eng Go.RowKit Silo TryzT
theorem eu(t:DE)(ht:t.text.length≤1048576):
 Calls QP 148 #[.agg (CP t).toArray] w (AP fun v w'=>Below w.heap.size w w'∧BJ w' w.heap.size 9 1 v (Hb t).length ((Hb t).flatMap fun x=>[St x])):=by
 obtain⟨c,o,hc⟩:=AQ.start w;clear hc;refine enter (n:=20) (res:=#[.tmp 2]) Tryz.func148 Z Z Z Z<|Ab<|cg<|Dz c 101 fun w1 b1 c1 b2 p=>?_;refine za Z<|Ac<|Ab<|Ab<|cg<|vq (Aa XL Z)<|vq (Ah Jc Z p.Ap Z)<|vq (Bq Z)<|Ac<|AS Z (fun j=>?_) fun j=>?_
 ·refine Ab<|cg<|za Z<|Ac ?_;refine Az Z Z ?_;rw[UG j];exact⟨o.mv.below,BJ.nil _ _ _ _⟩
 have hl:=SE t;rw[PU j,bU] at hl;obtain⟨C,I,J,R,_⟩:=Nd (s:=t.text);refine Aj<|Ab<|cg<|vq (Aa Lw Z)<|vq (Ah BK Z p.Ap Z)<|ve (Al c1 7 (Ay.call xX Z (ep t.text ht))) ?_;rintro v11 w2 ⟨c2,b4,r,⟨c5,c6,rfl,f,g⟩⟩;replace f:=f.Cl r;replace g:=g.Cl r;have b9:=f.Av;have c0:=g.Av;obtain⟨A1,c3,rfl,_⟩:=f.own.Yg;obtain⟨A2,c4,rfl,_⟩:=g.own.Yg;refine zm Z<|vq (Ag Z Z)<|vq (Ag Z Z)<|Db c2 103 Wi fun c8 b3 U b5 i=>?_;refine WR.AI (Am Ij Z Z i Z Z AG) ?_;rintro _ c9 ⟨i,b6⟩;refine za Z<|Ac<|Ab<|cg<|vq (Aa Oi Z)<|vq (Ah CB Z i.Ap Z)<|vq (Aa Oj Z)<|vq (Ah CB Z i.Ap Z)<|ve (Nj U 118 QI Z Z Z (by simp[Value.cells]) Z Z) ?_;rintro _ e0 ⟨a8,a1,rfl,b7,a6⟩;refine ve (Al a1 8 (Ay.call ui Z (eo (qX a6 (f.mv.own.Ln C J) (g.mv.own.Ln I R)) (by simp;omega)))) ?_;rintro c7 e1 ⟨b0,b8,a7,l⟩;replace l:=l.Cl a7;refine za Z<|Ac<|Az Z Z ?_;rw[PU j];have e:[((BX t.text).getD Lh).HX,((BX t.text).getD Lh).Aq].flatten=((BX t.text).getD Lh).HX++((BX t.text).getD Lh).Aq:=by simp
 rw[e] at l;exact⟨o.mv.below,l.Gu o.mv dd⟩
theorem Nu(a b:List UInt8):Calls QP 146 #[St a,St b] w (AP fun v w'=>Below w.heap.size w w'∧v=I (TZ a b)):=
 (Tryz.strings_Compare ⟨a.toArray⟩ ⟨b.toArray⟩ w).mono fun e w' f=>by
  obtain⟨rfl,rfl⟩:=f;exact⟨_,Z,zy _ _,by rw[cR]⟩
theorem SF(t:DE)(d:List UInt8):Calls QP 145 #[.agg (CP t).toArray,St d] w (AP fun v w'=>Below w.heap.size w w'∧v=I (TZ t.Ak d)):=by
 have g:Bz w w:=Bz.refl w;refine enter (n:=9) (res:=#[.tmp 4]) Tryz.func145 Z Z Z Z<|Ab<|cg<|ve (Ay.box Z) ?_;rintro _ w1 ⟨b2,rfl,f⟩;have j:=f.below;have i:=f.Ap;refine za Z<|Ac<|Ab<|cg<|vq (Aa Lv Z)<|vq (Ah BK Z i Z)<|zm Z<|ve (Ay.call hL Z (Nu t.Ak d)) ?_;rintro o w2 ⟨l,rfl⟩;refine za Z<|Ac<|Az Z Z ?_;exact⟨((g.up j).up l),Z⟩
theorem iD{v:Value}{T:List DE}{d:List UInt8}(h1:Rd HY w v T)(U:Hc T):
 Calls QP 144 #[v,St d, .func (.func 145) #[] #[]] w (AP fun c4 w'=>Below w.heap.size w w'∧c4= .tuple #[I (Io T d:Nat), .bool (CR T d).isSome]):=by
 have f:Bz w w:=Bz.refl w;have c6:=h1.small;refine enter (n:=49) (res:=#[.tmp 6, .tmp 7]) Tryz.func144 Z Z Z Z<|Ab<|cg<|za Z<|za Z<|Ac<|Ab<|cg<|zm Z ?_
 first|refine vq (BN EI (by assumption) Z) ?_|refine vq (CH Abh Z) ?_
 refine za Z<|Ac<|Ab<|cg<|zm Z<|za Z<|za Z<|Ac<|Ab<|Ai ?_;refine WC.loop (σ:=Nat×Nat) (fun g=>[(0,v),(1,St d),(2, .func (.func 145) #[] #[]),(8,I T.length),(9,I g.1),(10,I g.2)]) (fun g w'=>Rd HY w' v T∧Bz w w'∧g.1≤g.2∧g.2≤T.length∧(∀k (hk:k<T.length),k<g.1→Op.bytesLess T[k].Ak d=true)∧∀k (hk:k<T.length),g.2≤k→Op.bytesLess T[k].Ak d=false) (fun g=>g.2-g.1) (0,T.length) Aq ⟨h1,f,by simp,by simp,fun k _ h=>absurd h (Nat.not_lt_zero _),fun k hk h=>by dsimp only at h;omega⟩ ?_;clear h1 f;rintro⟨i,j⟩ a8 ⟨h1,f,b7,t,p,r⟩;dsimp only at b7 t p r⊢;refine Ab<|Ab<|cg<|zm Z<|zm Z<|vq (AE Z Z)<|Ac<|AS Z (fun b4=>?_) fun b4=>?_
 ·have c7:i<j:=oo;refine Aj<|Ai<|Ab<|cg<|zm Z<|zm Z<|vq (AH Z Z Ad Ad)<|vq (Co oz zW Z Ad Ad)<|vq (Ir Z Z Ad (by simp[IntKind.bits]<;>omega)) ?_;refine vq (Em zW oz Z Ad Ad)<|za Z<|Ac ?_;have b1:((i:Int)+(j:Int))/2^(1:Int).toNat=((i+j)/2:Nat):=by
   rw[show(2:Int)^(1:Int).toNat=2 from Z];omega
  rw[b1];have J:(i+j)/2<T.length:=oo;have R:i≤(i+j)/2:=oo;have c2:(i+j)/2<j:=oo;generalize(i+j)/2=h at J R c2⊢;obtain⟨b0,b3,rfl,c3⟩:=h1.el J;refine Ab<|cg<|zm Z<|zm Z<|zm Z<|vq (AF EI (by assumption) Z Z Z Ad Ad)<|vq (Dg Gc Z b3 Z)<|zm Z ?_;refine ve (Gg Z oS Z (SF T[h] d)) ?_;rintro v30 w1 ⟨C,rfl⟩;refine vq (AE Z Z)<|Ac<|AS Z (fun l=>?_) fun l=>?_
  ·rw[Ke] at l;have a1:∀k (hk:k<T.length),k<h+1→Op.bytesLess T[k].Ak d=true:=fun k hk a7=>by
    rcases yT k h with o|o
    ·exact EE _ _ _ (U k h hk J o) l
    have:k=h:=oo;subst this;exact l
   refine cg<|zm Z<|vq (AH Z Z Ad Ad)<|za Z<|Ac ?_;replace h1:=h1.up C;replace f:=f.up C
   first
   |exact⟨(h+1,j),Aq,⟨h1,f,by dsimp only;omega,t,a1,r⟩,by dsimp only;omega⟩
   |exact⟨(i,h),Aq,⟨h1,f,R,by dsimp only;omega,p,a6⟩,by dsimp only;omega⟩
  rw[Ke,Aci] at l;have a6:∀k (hk:k<T.length),h≤k→Op.bytesLess T[k].Ak d=false:=fun k hk a7=>by
   rcases Abo a7 with o|o
   ·subst o;exact l
   cases hx:Op.bytesLess T[k].Ak d with
   |false=>rfl
   |true=>rw[EE _ _ _ (U h k J hk o) hx] at l;cases l
  refine cg<|zm Z<|za Z<|Ac ?_;replace h1:=h1.up C;replace f:=f.up C
  first
  |exact⟨(h+1,j),Aq,⟨h1,f,by dsimp only;omega,t,a1,r⟩,by dsimp only;omega⟩
  |exact⟨(i,h),Aq,⟨h1,f,R,by dsimp only;omega,p,a6⟩,by dsimp only;omega⟩
 have:i=j:=oo;subst this;obtain⟨c0,c1⟩:=iA U t p r;refine WC.exit Z<|Ab<|cg<|zm Z<|zm Z<|zm Z<|vq (AE Z Z)<|zm Z ?_;apply Ul true 8 (decide (((T[i]?.map DE.Ak).getD [])=d)) BT
 ·intro c5;have hi:i<T.length:=oo;obtain⟨b0,b5,rfl,c3⟩:=h1.el hi;have b6:((T[i]?.map DE.Ak).getD [])=T[i].Ak:=by rw[aa hi];rfl
  have b2:Bz a8 a8:=Bz.refl _;refine wo<|zm Z<|wo<|zm Z<|wo<|zm Z<|wo<|vq (AF EI (by assumption) Z Z Z Ad Ad)<|wo ?_;refine vq (Dg Gc Z b5 Z)<|wo<|zm Z<|wo<|ve (Gg Z oS Z (SF T[i] d)) ?_;rintro c8 w2 ⟨b8,rfl⟩;refine wo<|vq (AU Z Z) ?_;exact WR.nil ⟨(by rw[b6];simp only[look,PV];rfl),Sub.drop _ 8 _ Z Z,(b2.up b8)⟩
 intro c9 b9;refine za rfl<|za rfl<|Ac<|Dn rfl rfl rfl ?_;exact⟨(f.up b9),by rw[c0,c1];rfl⟩
theorem SG{v:Value}{T:List DE}{d:List UInt8}(h1:Rd HY w v T)(i:Hc T):Calls QP 75 #[v,St d] w (AP fun j w'=>Below w.heap.size w w'∧j= .tuple #[I (Io T d:Nat), .bool (CR T d).isSome]):=by
 have f:Bz w w:=Bz.refl w;refine enter (n:=11) (res:=#[.tmp 4, .tmp 5]) Tryz.func75 Z Z Z Z<|Ab<|cg<|za Z<|za Z<|Ac<|Ab<|cg<|zm Z<|zm Z<|ve (Ay.call tt Z (iD h1 i)) ?_;rintro l w1 ⟨g,rfl⟩;refine vq (Ag Z Z)<|vq (Ag Z Z)<|za Z<|za Z<|Ac<|Dn Z Z Z ?_;exact⟨(f.up g),Z⟩
theorem iE{v:Value}{l:List (List UInt8)}{d:List UInt8}(h1:Rd CL w v l):Calls QP 162 #[v,St d] w (AP fun t w'=>Below w.heap.size w w'∧t=I (ay l d)):=by
 have f:Bz w w:=Bz.refl w;have J:=h1.small;refine enter (n:=19) (res:=#[.tmp 4]) Tryz.func162 Z Z Z Z<|Ab<|cg<|za Z<|Ac<|Ab<|Ab<|cg<|zm Z ?_
 first|refine vq (BN BE (by assumption) Z) ?_|refine vq (CH zb Z) ?_
 refine zm Z<|Ac<|Ai<|WC.loop (σ:=Nat) (fun k=>[(0,v),(1,St d),(7,I l.length),(8,I k)]) (fun k w'=>Rd CL w' v l∧Bz w w'∧k≤l.length∧∀i (hi:i<l.length),i<k→d≠l[i]) (fun k=>l.length-k) 0 Aq ⟨h1,f,by omega,fun i hi h=>absurd h (Nat.not_lt_zero _)⟩ ?_;clear h1 f;rintro k U ⟨h1,f,hk,hd⟩;refine Ab<|cg<|vq (AE Z Z)<|Ac<|Ab<|AS Z (fun r=>?_) fun r=>?_
 ·have ka:k<l.length:=oo;obtain⟨C,p,rfl,R⟩:=h1.el ka;refine Aj<|Ab<|Ai<|Ab<|cg<|zm Z<|za Z<|Ac<|Ab<|cg<|zm Z<|zm Z<|zm Z<|vq (AF BE (by assumption) Z Z Z Ad Ad)<|vq (Bl BK Z p)<|vq (Xs Z Z)<|Ac ?_;refine AS Z (fun g=>?_) fun g=>?_
  ·have j:d=l[k]:=by simpa using g
   refine Ab<|cg<|zm Z<|za Z<|Ac<|Az Z Z ?_;exact⟨f,by rw[iB ka hd j]⟩
  have j:d≠l[k]:=by simpa using g
  refine Aj<|cg<|vq (AH Z Z Ad Ad)<|zm Z<|Ac ?_;exact⟨k+1,Aq,⟨h1,f,ka,fun i hi h=>by
   rcases yT i k with o|o
   ·exact hd i hi o
   have:i=k:=oo;subst this;exact j⟩,by omega⟩
 have:k=l.length:=oo;subst this;refine WC.exit Z<|Ab<|cg<|za Z<|Ac<|Az Z Z ?_;exact⟨f,by rw[et hd]⟩
theorem Yj{v:Value}{l:List (List UInt8)}{d:List UInt8}(h1:Rd CL w v l):Calls QP 90 #[v,St d] w (AP fun i w'=>Below w.heap.size w w'∧i= .bool (l.contains d)):=by
 have f:Bz w w:=Bz.refl w;refine enter (n:=9) (res:=#[.tmp 4]) Tryz.func90 Z Z Z Z<|Ab<|cg<|za Z<|Ac<|Ab<|cg<|zm Z<|zm Z<|ve (Ay.call tz Z (iE h1)) ?_;rintro j w1 ⟨g,rfl⟩;refine vq (Cu Z Z)<|za Z<|Ac<|Az Z Z ?_;exact⟨(f.up g),by rw[←Ua]⟩
theorem iF{v:Value}{T:List DE}{d:List UInt8}(h0:Rd HY w v T)(b4:∀t∈T,t.text.length≤1048576)(hl:T.length≤1048576):
 Calls QP 78 #[v,St d] w (AP fun c0 w'=>Below w.heap.size w w'∧BJ w' w.heap.size 9 1 c0 (Im T d).length ((Im T d).flatMap fun x=>[St x])):=by
 obtain⟨c,f,hc⟩:=AQ.start w;have g:Bi HY c w [0] v T:=Rd.Cl h0 (fun k hk=>by simp[hc,AA]);clear hc h0;refine enter (n:=25) (res:=#[.tmp 4]) Tryz.func78 Z Z Z Z<|Ab<|cg<|za Z<|Ac<|Ab<|cg<|za Z<|Ac<|Ab<|Ab<|cg<|zm Z<|vq (BI EI) ?_;refine zm Z<|Ac<|Ai<|WC.loop (σ:=Nat×Value) (fun j=>[(1,St d),(8,v),(9,I T.length),(5,j.2),(10,I j.1)]) (fun j w'=>∃c',AQ w c' w'∧Bi HY c' w' [0] v T∧Ao c' w' 5 9 1 j.2 (Im (T.take j.1) d).length ((Im (T.take j.1) d).flatMap fun x=>[St x])∧j.1≤T.length) (fun j=>T.length-j.1) (0, .slice none 0 0) Aq ⟨_,f,g,Ao.nil _ _ _ _ _,by simp⟩ ?_;clear f g;rintro⟨k,b0⟩ e4 ⟨b3,f,g,i,hk⟩;dsimp only at f g i hk⊢;have b8:=ax (T.take k) d;rw[List.length_take] at b8;refine Ab<|cg<|vq (AE Z Z)<|Ac<|Ab<|AS Z (fun b6=>?_) fun b6=>?_
 ·have ka:k<T.length:=oo;obtain⟨b5,c7⟩:=BP g ka dd;have l:=Yi (d:=d) ka;have c5:=SE T[k];refine Aj<|Ab<|Ai<|Ab<|cg<|vq (ER EI) ?_;refine vq (Dg Gc Z b5.CY Z)<|Db b3 107 Ov fun w1 b7 c1 o J=>?_;refine WR.AI (Am Gc Z Z J Z Z AG) ?_;rintro _ w2 ⟨J,p⟩;refine Ac<|Ab<|cg<|vq (AD Gc Z J.Ap Z)<|ve (Al c1 8 (Ay.call tv Z (eu T[k] (b4 _ (oy ka))))) ?_;rintro c8 e0 ⟨b1,r,b9,U⟩;replace U:=U.Cl b9;refine zm Z<|ve (Al b1 1 (Ay.call xY Z (Yj (U.own.Ln Wv oo)))) ?_;rintro c9 e1 ⟨b2,C,c6,rfl⟩;refine Ac<|AS Z (fun R=>?_) fun R=>?_
  ·rw[yP R] at l;refine cg<|zm Z<|vq (Aa Lv Z)<|vq (Ah BK Z J.mv.Ap Z)<|ve (Bb b2 121 BE Z Z Z Z Z) ?_;rintro _ e2 ⟨c2,c3,rfl,a1,a7⟩;refine ve (AN BE Z Z i.mv (Src.An zb a7.Ap.An Z AG) EY Fb) ?_;rintro a8 e3 ⟨c4,a6,i⟩;clear a7;refine za Z<|Ac<|cg<|vq (AH Z Z Ad Ad)<|zm Z<|Ac ?_;replace f:=(((((f.mv o).mv p).mv r).mv C).mv a1).mv a6;replace g:=(((((g.mv o).mv p).mv r).mv C).mv a1).mv a6
   first
   |exact⟨(k+1,b0),Aq,⟨_,f,g,by rw[l];exact i,ka⟩,by dsimp only;omega⟩
   |exact⟨(k+1,a8),Aq,⟨_,f,g,by rw[l,List.flatMap_append,List.length_append];exact i,ka⟩,by dsimp only;omega⟩
  rw[yK (by rw[R];decide)] at l;refine Aj<|cg<|vq (AH Z Z Ad Ad)<|zm Z<|Ac ?_;replace f:=(((f.mv o).mv p).mv r).mv C;replace g:=(((g.mv o).mv p).mv r).mv C;replace i:=(((i.mv o).mv p).mv r).mv C
  first
  |exact⟨(k+1,b0),Aq,⟨_,f,g,by rw[l];exact i,ka⟩,by dsimp only;omega⟩
  |exact⟨(k+1,a8),Aq,⟨_,f,g,by rw[l,List.flatMap_append,List.length_append];exact i,ka⟩,by dsimp only;omega⟩
 have:k=T.length:=oo;subst this;rw[Ui] at i;refine WC.exit Z<|Ab<|cg<|zm Z<|za Z<|Ac<|Az Z Z ?_;exact⟨f.below,i.Gu f dd⟩
end Go.Proofs.K
namespace Silo
open Go Go.Eng
structure Tg where
 name:List UInt8
 Ak:List UInt8
 deriving DecidableEq
structure Mt where
 id:Int
 text:List UInt8
 deriving DecidableEq
structure Hq where
 things:List DE
 tags:List Tg
 sessions:List Mt
 next:Int
 deriving DecidableEq
structure Kf where
 kind:Int
 id:Int
 n:Int
 m:Int
 name:List UInt8
 Ak:List UInt8
 text:List UInt8
 deriving DecidableEq
structure ev where
 n:Int
 text:List UInt8
 err:Int
 deriving DecidableEq
abbrev Is(t:Tg):List Value:=[St t.name,St t.Ak]
abbrev Fw(t:Mt):List Value:=[I t.id,St t.text]
abbrev FB(o:Kf):List Value:=[I o.kind,I o.id,I o.n,I o.m,St o.name,St o.Ak,St o.text]
abbrev LQ(r:ev):List Value:=[I r.n,St r.text,I r.err]
def RJ:Shape Tg:=Shape.flat 2 Is (fun t=>t.name.length≤140737488355328∧t.Ak.length≤140737488355328) (fun _=>rfl) (fun _ u hu=>by simp[Is] at hu;rcases hu with rfl|rfl<;>rfl)
def SH:Shape Mt:=Shape.flat 2 Fw (fun t=>Go.Eng.Int64 t.id∧t.text.length≤140737488355328) (fun _=>rfl) (fun _ u hu=>by simp[Fw] at hu;rcases hu with rfl|rfl<;>rfl)
def ew:Shape Kf:=Shape.flat 7 FB (fun o=>(Go.Eng.Int64 o.kind∧Go.Eng.Int64 o.id∧Go.Eng.Int64 o.n∧Go.Eng.Int64 o.m)∧o.name.length≤140737488355328∧o.Ak.length≤140737488355328∧o.text.length≤140737488355328) (fun _=>rfl)
 (fun _ u hu=>by simp[FB] at hu;rcases hu with rfl|rfl|rfl|rfl|rfl|rfl|rfl<;>rfl)
def iG(c:UInt8)(s:List UInt8):List UInt8×Option (List UInt8):=(s.take (lead (fun x=> !(x==c)) s),if lead (fun x=> !(x==c)) s<s.length then some (s.drop (lead (fun x=> !(x==c)) s+1)) else none)
def splitB(c:UInt8):Nat→List UInt8→List (List UInt8)
 |0,_=>[]
 |k+1,s=>match(iG c s).2 with
  |none=>[(iG c s).1]
  |some r=>(iG c s).1::splitB c k r
def parts(s:List UInt8):List (List UInt8):=splitB 47 (s.length+1) s
def vB(i:Nat)(c:UInt8):Bool:=rb c||(decide (65≤c.toNat)&&decide (c.toNat≤90))||c==95||(!decide (i=0)&&(c==46||c==45))
def vC(s:List UInt8):Bool:= !(s==[])&&(List.range s.length).all fun i=>vB i (s[i]?.getD 0)
def vD(s:List UInt8):List UInt8:=match(iG 58 s).2 with|none=>[108,97,116,101,115,116]|some v=>v
def rc(s:List UInt8):Bool:=decide (s.length≤40)&&(parts (iG 58 s).1).all vA&&vC (vD s)
def yi(T:List DE)(d:List UInt8)(sub:Bool):Bool:=match CR T d with|none=>false|some i=>((T[i]?.map DE.Ff).getD false)==sub
def iH(T:List DE)(m:mh):Bool:=m.HX.all (fun d=>yi T d false)&&m.Aq.all (fun d=>yi T d true)
def wO(T:List DE)(s:List UInt8):Bool:=match BX s with|none=>false|some m=>iH T m
def cT(l:List Tg)(d:List UInt8):Option Nat:=l.findIdx? fun t=>t.name==d
def OH(l:List Mt)(id:Int):Option Nat:=l.findIdx? fun t=>decide (t.id=id)
def mw(l:List Tg)(d:List UInt8):Nat:=BS (fun t=>Op.bytesLess t.name d) l
abbrev pQ:=Hq×ev
def bad(S:Hq)(e:Int):pQ:=(S,⟨0,[],e⟩)
def HZ(T:List DE)(t:DE):Option (List DE):=if(CR T t.Ak).isSome then some T else if 60≤T.length then none else some (T.take (Io T t.Ak)++t::T.drop (Io T t.Ak))
def FC(S:Hq):pQ:=if 8≤S.sessions.length∨1073741824≤S.next then bad S 2 else({S with sessions:=S.sessions++[⟨S.next,[]⟩],next:=S.next+1},⟨S.next,[],0⟩)
def HC(S:Hq)(o:Kf):pQ:=match OH S.sessions o.id with
 |none=>bad S 3
 |some k=>
  let x:=(S.sessions[k]?).getD ⟨0,[]⟩
  if o.kind=2 then
   if 2000<x.text.length+o.text.length then bad S 2 else({S with sessions:=S.sessions.set k ⟨x.id,x.text++o.text⟩},⟨((x.text++o.text).length:Nat),[],0⟩)
  else if o.kind=3 then
   if AV x.text=o.Ak then
    match HZ S.things ⟨o.Ak,x.text,false⟩ with
    |none=>bad S 2
    |some f=>({S with things:=f,sessions:=S.sessions.eraseIdx k},⟨(x.text.length:Nat),[],0⟩)
   else bad S 7
  else({S with sessions:=S.sessions.eraseIdx k},⟨0,[],0⟩)
def CC(S:Hq)(o:Kf):pQ:=match CR S.things o.Ak with
 |none=>bad S 3
 |some i=>
  let t:=((S.things[i]?).map DE.text).getD []
  if o.kind=4 then(S,⟨0,t,0⟩)
  else if o.kind=5 then(S,⟨(t.length:Nat),[],0⟩)
  else if o.kind=6 then
   if o.n<0∨(t.length:Int)<o.n∨o.m<0 then bad S 1 else(S,⟨0,(t.drop o.n.toNat).take (min o.m (t.length-o.n)).toNat,0⟩)
  else if(S.tags.any fun g=>g.Ak==o.Ak)||decide (0<(Im S.things o.Ak).length) then bad S 11
  else({S with things:=S.things.eraseIdx i},⟨0,[],0⟩)
def vE(S:Hq)(o:Kf):pQ:=match BX o.text with
 |none=>bad S 7
 |some m=>
  if iH S.things m then
   match HZ S.things ⟨AV o.text,o.text,true⟩ with
   |none=>bad S 2
   |some f=>({S with things:=f},⟨0,AV o.text,0⟩)
  else bad S 3
def vH(S:Hq)(o:Kf):pQ:=
 if o.kind=9 then
  if rc o.name then
   if yi S.things o.Ak true then
    match cT S.tags o.name with
    |some k=>({S with tags:=S.tags.set k ⟨o.name,o.Ak⟩},⟨0,[],0⟩)
    |none=>if 40≤S.tags.length then bad S 2 else({S with tags:=S.tags.take (mw S.tags o.name)++⟨o.name,o.Ak⟩::S.tags.drop (mw S.tags o.name)},⟨0,[],0⟩)
   else bad S 3
  else bad S 7
 else match cT S.tags o.name with
  |none=>bad S 3
  |some k=>if o.kind=10 then(S,⟨0,((S.tags[k]?).map Tg.Ak).getD [],0⟩) else({S with tags:=S.tags.eraseIdx k},⟨0,[],0⟩)
noncomputable def iI(S:Hq):List DE:=S.things.filter fun t=>(vy S.things (S.tags.map Tg.Ak)).contains t.Ak
noncomputable def mx(S:Hq):pQ:=({S with things:=iI S},⟨(S.things.length:Int)-(iI S).length,[],0⟩)
noncomputable def Jd(S:Hq)(o:Kf):pQ:=
 if o.kind=1 then FC S
 else if o.kind=2∨o.kind=3∨o.kind=13 then HC S o
 else if 4≤o.kind∧o.kind≤7 then CC S o
 else if o.kind=8 then vE S o
 else if 9≤o.kind∧o.kind≤11 then vH S o
 else mx S
def my(o:Kf):Bool:=decide (1≤o.kind)&&decide (o.kind≤13)
theorem FH(x:DE):(CP x).length=3:=rfl
theorem KE(x:Mt):(Fw x).length=2:=rfl
theorem KF(x:DE):∀u∈CP x,u.oneCell'=true:=fun u hu=>by simp[CP] at hu;rcases hu with rfl|rfl|rfl<;>rfl
theorem SI(x:Mt):∀u∈Fw x,u.oneCell'=true:=fun u hu=>by simp[Fw] at hu;rcases hu with rfl|rfl<;>rfl
theorem search_end{α:Type}{p q:α→Bool}{l:List α}(R:∀j k (g:j<l.length) (hk:k<l.length),j<k→q l[k]=true→p l[j]=true)(J:∀k (hk:k<l.length),q l[k]=true→p l[k]=false){i:Nat}(hi:i≤l.length)(h1:∀k (hk:k<l.length),k<i→p l[k]=true)(t:∀k (hk:k<l.length),i≤k→p l[k]=false):
 BS p l=i∧(decide ((i:Int)<(l.length:Int))&&(l[i]?.map q).getD false)=(l.findIdx? q).isSome:=by
 refine⟨LP hi h1 (fun h=>t i h (lx _)),?_⟩;rw[Ab6,kg,yI,Aaa];constructor
 ·rintro⟨h,hx⟩;have r:i<l.length:=oo;rw[aa r] at hx;cases C:l.findIdx? q with
  |some j=>exact⟨j,Z⟩
  |none=>
   rw[Abm] at C;have:=C _ (oy r);simp only[Ab4,Aa1] at hx;rw[hx] at this;cases this
 rintro⟨j,g⟩;rw[zJ] at g;obtain⟨f,o,_⟩:=g;have I:j=i:=by
  rcases Afv j i with h|h|h
  ·have:=h1 j f h;rw[J j f o] at this;cases this
  ·exact h
  have:=R i j oo f h o;rw[t i oo (lx _)] at this;cases this
 subst I;exact⟨by omega,by rw[aa f];exact o⟩
theorem Nv{α:Type}{p q:α→Bool}{l:List α}(r:∀j k (t:j<l.length) (hk:k<l.length),j<k→q l[k]=true→p l[j]=true)(o:∀k (hk:k<l.length),q l[k]=true→p l[k]=false){i:Nat}(h:l.findIdx? q=some i):BS p l=i:=by
 rw[zJ] at h;obtain⟨hi,f,_⟩:=h;exact LP oo (fun k hk g=>r k i hk hi g f) (fun _=>o i hi f)
def pR(l:List Tg):Prop:=∀i j (hi:i<l.length) (f:j<l.length),i<j→Op.bytesLess l[i].name l[j].name=true
def SJ(l:List Mt):Prop:=∀i j (hi:i<l.length) (f:j<l.length),i<j→l[i].id<l[j].id
def mz(l:List Mt)(id:Int):Nat:=BS (fun t=>decide (t.id<id)) l
theorem mA{l:List Tg}(h:pR l)(d:List UInt8):∀j k (f:j<l.length) (hk:k<l.length),j<k→(fun t:Tg=>t.name==d) l[k]=true→(fun t:Tg=>Op.bytesLess t.name d) l[j]=true:=fun j k f hk g i=>by
 have:=h j k f hk g;have e:l[k].name=d:=by simpa using i
 rw[e] at this;exact this
theorem mB{l:List Tg}(d:List UInt8):∀k (hk:k<l.length),(fun t:Tg=>t.name==d) l[k]=true→(fun t:Tg=>Op.bytesLess t.name d) l[k]=false:=fun k hk f=>by
 have e:l[k].name=d:=by simpa using f
 show Op.bytesLess l[k].name d=false
 rw[e];exact Eu d
theorem cU{l:List Mt}(h:SJ l)(d:Int):∀j k (f:j<l.length) (hk:k<l.length),j<k→(fun t:Mt=>decide (t.id=d)) l[k]=true→(fun t:Mt=>decide (t.id<d)) l[j]=true:=fun j k f hk g i=>by
 have:=h j k f hk g;have e:l[k].id=d:=by simpa using i
 rw[e] at this;simpa using this
theorem cV{l:List Mt}(d:Int):∀k (hk:k<l.length),(fun t:Mt=>decide (t.id=d)) l[k]=true→(fun t:Mt=>decide (t.id<d)) l[k]=false:=fun k hk f=>by
 have e:l[k].id=d:=by simpa using f
 simp[e]
def Yk(a b:Int):Int:=if a<b then-1 else if b<a then 1 else 0
theorem OI{a b:Int}:(Yk a b<0)=(decide (a<b)=true):=by
 unfold Yk;rw[yI];split
 ·simp[*]
 ·split<;>simp[*]
theorem UH{a b:Int}:(Yk a b=0)=(a=b):=by
 unfold Yk;apply propext;split
 ·constructor<;>intro h<;>omega
 ·split<;>constructor<;>intro h<;>omega
theorem Yl{α:Type}{q:α→Bool}{l:List α}{j:Nat}(h:∀x∈l.take j,q x=false)(i:j<l.length)(hx:q l[j]=false):∀x∈l.take (j+1),q x=false:=by
 intro x g;rw[Afx,aa i] at g;rcases zH.1 g with f|f
 ·exact h x f
 ·rw[Option.toList_some,yN] at f;rw[f];exact hx
def az{α:Type}(q:α→Bool)(l:List α)(i:Int):Prop:=(i=-1∧∀x∈l,q x=false)∨∃k:Nat,i=k∧∃hk:k<l.length,q l[k]=true∧∀x∈l.take k,q x=false
theorem aA{α:Type}{q:α→Bool}{l:List α}{i:Int}(h:az q l i):decide (0≤i)=l.any q:=by
 rcases h with⟨rfl,h⟩|⟨k,rfl,hk,f,_⟩
 ·rw[Aas.2 fun x hx=>by rw[h x hx];decide];rfl
 ·rw[Kn.2 ⟨_,oy hk,f⟩];simp
abbrev Gk:List Nat:=[70,71,72,73]
def rf(r:ev):Value:= .tuple #[.agg (LQ (if r.err=0 then r else⟨0,[],0⟩)).toArray,I r.err]
def KG(S:Hq):Prop:=(∀t∈S.things,t.Ak.length≤140737488355328∧t.text.length≤1048576)∧(∀t∈S.tags,t.name.length≤140737488355328∧t.Ak.length≤140737488355328)∧(∀t∈S.sessions,Go.Eng.Int64 t.id∧t.text.length≤1048576)∧S.things.length≤200∧S.tags.length≤200∧S.sessions.length≤200∧(0≤S.next∧S.next≤1073741824)
theorem OJ{α:Type}(p:α→Bool)(l:List α):BS p l≤l.length:=(List.takeWhile_prefix p).length_le
theorem Ym{T:List DE}{t:DE}(h:(CR T t.Ak).isSome=true):HZ T t=some T:=by rw[HZ,yP h]
theorem iJ{T:List DE}{t:DE}(h:(CR T t.Ak).isSome=false)(hl:60≤T.length):HZ T t=none:=by rw[HZ,yK (by simp[h]),yP hl]
theorem UI{T:List DE}{t:DE}(h:(CR T t.Ak).isSome=false)(hl:¬60≤T.length):HZ T t=some (T.take (Io T t.Ak)++t::T.drop (Io T t.Ak)):=by rw[HZ,yK (by simp[h]),yK hl]
theorem Ub{α:Type}{enc:α→List Value}{n:Nat}(g:∀x,(enc x).length=n){l:List α}{k f:Nat}{x:α}{u:Value}(hk:k<l.length)(j:f<n)(hx:enc x=(enc l[k]).set f u):(l.flatMap enc).set (k*n+f) u=(l.set k x).flatMap enc:=by
 have hl:l=l.take k++l[k]::l.drop (k+1):=by rw[←zO hk,zM]
 have i:((l.take k).flatMap enc).length=k*n:=by rw[CM g,ly,zQ oo]
 conv=>lhs;rw[hl]
 rw[Aa0 (l:=l),yP hk,zP,zD,zP,zD,Abn (h:=by omega),i,Aap,Acy (h:=by rw[g];exact j),hx]
theorem _root_.Go.Eng.DF.at_{J:List Nat}{p:Addr}{cs:List Value}{i:Nat}{v:Value}(h:DF c w J p cs)(hi:cs[i]?=some v):DF c w J (p.add i) [v]:=by
 have f:(p.add i).block=p.block:=by rw[El]
 refine⟨⟨fun j u hu=>?_,by rw[f];exact h.CY.2⟩,by rw[f];exact h.Bf⟩;cases j with
 |zero=>
  simp at hu;subst hu;rw[add_zero];exact h.CY.1 i v hi
 |succ j=>simp at hu
end Silo
namespace Go.Proofs.K
open Go Go.Eng Go.RowKit Silo TryzT
theorem ey{v:Value}{l:List DE}(h0:Rd HY w v l)(hp:Dc v)(hl:l.length≤1048576):Calls QP 40 #[v] w (AP fun C w'=>Below w.heap.size w w'∧BJ w' w.heap.size 112 3 C l.length (l.flatMap CP)):=by
 obtain⟨c,g,hc⟩:=AQ.start w;have o:Bi HY c w [0] v l:=Rd.Cl h0 (fun k hk=>by simp[hc,AA]);clear hc;obtain⟨A,n,cp,rfl,p⟩:=hp;have t:l.length=n:=by obtain⟨I,c',j,_⟩:=h0.form;injection j with _ j _;exact j.symm
 clear h0;refine enter (n:=8) (res:=#[.tmp 2]) Tryz.func40 Z Z Z Z<|Ab<|cg<|za Z<|Ac<|Ab<|Ab<|cg<|zm Z<|vq (OA Abh Z)<|Ac<|AS Z (fun i=>?_) fun i=>?_
 ·refine Ab<|cg<|za Z<|Ac ?_;refine Az Z Z ?_;have h0:l=[]:=by
   cases l with
   |nil=>rfl
   |cons a r=>
    obtain⟨b,off,h⟩:=p (by rw[←t];simp);rw[h] at i;cases i
  subst h0;exact⟨g.below,BJ.nil _ _ _ _⟩
 refine Aj<|Ab<|cg<|ve ((IB c EI)) ?_;rintro U w1 ⟨c1,J,⟨b5,rfl⟩⟩;have f:Ao c1 w1 50 112 3 (.slice (some ⟨b5,0,none⟩) 0 0) 0 []:=KA;refine zm Z<|ve (AN EI Z Z f (Src.flat Abh o.mv.now) EY Fb) ?_;rintro a1 w2 ⟨c2,R,f⟩;rw[Aaz,PB] at f;refine za Z<|Ac<|Az Z Z ?_;exact⟨g.mv.below,f.Gu g.mv dd⟩
theorem UJ{v:Value}{l:List Tg}(h0:Rd RJ w v l)(hp:Dc v)(hl:l.length≤1048576):Calls QP 41 #[v] w (AP fun C w'=>Below w.heap.size w w'∧BJ w' w.heap.size 115 2 C l.length (l.flatMap Is)):=by
 obtain⟨c,g,hc⟩:=AQ.start w;have o:Bi RJ c w [0] v l:=Rd.Cl h0 (fun k hk=>by simp[hc,AA]);clear hc;obtain⟨A,n,cp,rfl,p⟩:=hp;have t:l.length=n:=by obtain⟨I,c',j,_⟩:=h0.form;injection j with _ j _;exact j.symm
 clear h0;refine enter (n:=8) (res:=#[.tmp 2]) Tryz.func41 Z Z Z Z<|Ab<|cg<|za Z<|Ac<|Ab<|Ab<|cg<|zm Z<|vq (OA Ada Z)<|Ac<|AS Z (fun i=>?_) fun i=>?_
 ·refine Ab<|cg<|za Z<|Ac ?_;refine Az Z Z ?_;have h0:l=[]:=by
   cases l with
   |nil=>rfl
   |cons a r=>
    obtain⟨b,off,h⟩:=p (by rw[←t];simp);rw[h] at i;cases i
  subst h0;exact⟨g.below,BJ.nil _ _ _ _⟩
 refine Aj<|Ab<|cg<|ve ((IB c Wf)) ?_;rintro U w1 ⟨c1,J,⟨b5,rfl⟩⟩;have f:Ao c1 w1 50 115 2 (.slice (some ⟨b5,0,none⟩) 0 0) 0 []:=KA;refine zm Z<|ve (AN Wf Z Z f (Src.flat Ada o.mv.now) EY Fb) ?_;rintro a1 w2 ⟨c2,R,f⟩;rw[Aaz,PB] at f;refine za Z<|Ac<|Az Z Z ?_;exact⟨g.mv.below,f.Gu g.mv dd⟩
theorem ez{v:Value}{l:List Mt}(h0:Rd SH w v l)(hp:Dc v)(hl:l.length≤1048576):Calls QP 42 #[v] w (AP fun C w'=>Below w.heap.size w w'∧BJ w' w.heap.size 118 2 C l.length (l.flatMap Fw)):=by
 obtain⟨c,g,hc⟩:=AQ.start w;have o:Bi SH c w [0] v l:=Rd.Cl h0 (fun k hk=>by simp[hc,AA]);clear hc;obtain⟨A,n,cp,rfl,p⟩:=hp;have t:l.length=n:=by obtain⟨I,c',j,_⟩:=h0.form;injection j with _ j _;exact j.symm
 clear h0;refine enter (n:=8) (res:=#[.tmp 2]) Tryz.func42 Z Z Z Z<|Ab<|cg<|za Z<|Ac<|Ab<|Ab<|cg<|zm Z<|vq (OA Ad4 Z)<|Ac<|AS Z (fun i=>?_) fun i=>?_
 ·refine Ab<|cg<|za Z<|Ac ?_;refine Az Z Z ?_;have h0:l=[]:=by
   cases l with
   |nil=>rfl
   |cons a r=>
    obtain⟨b,off,h⟩:=p (by rw[←t];simp);rw[h] at i;cases i
  subst h0;exact⟨g.below,BJ.nil _ _ _ _⟩
 refine Aj<|Ab<|cg<|ve ((IB c Lf)) ?_;rintro U w1 ⟨c1,J,⟨b5,rfl⟩⟩;have f:Ao c1 w1 50 118 2 (.slice (some ⟨b5,0,none⟩) 0 0) 0 []:=KA;refine zm Z<|ve (AN Lf Z Z f (Src.flat Ad4 o.mv.now) EY Fb) ?_;rintro a1 w2 ⟨c2,R,f⟩;rw[Aaz,PB] at f;refine za Z<|Ac<|Az Z Z ?_;exact⟨g.mv.below,f.Gu g.mv dd⟩
theorem mC{v:Value}{l:List DE}{k:Nat}(h:Ao c w 71 112 3 v l.length (l.flatMap CP))(hk:k<l.length)(hl:l.length≤1048576):Calls QP 79 #[v,I k,I ((k:Int)+1)] w (AP fun C w'=>∃c',Mv c w c' w' [71]∧Ao c' w' 71 112 3 C (l.eraseIdx k).length ((l.eraseIdx k).flatMap CP)):=by
 have hJ:=AZ.start c w [71];have f:=h.Ca (J:=[71]) Z;generalize AT c [71]=c0 at hJ f;obtain⟨g,cp,rfl,a1,U⟩:=f.BW oo;refine enter (n:=33) (res:=#[.tmp 6]) Tryz.func79 Z Z Z Z<|Ab<|cg<|za Z<|Ac<|Ab<|cg<|zm Z<|zm Z<|zm Z<|zm Z<|vq (BI EI) ?_;rw[show((k:Int)+1)=((k+1:Nat):Int) by omega];refine vq (ic EI Z Z Z Z oo oo oo)<|Ac<|Ab<|Ab<|cg<|zm Z<|zm Z<|vq (AU Z Z)<|Ac ?_;refine CD Z (fun p=>?_) fun p=>?_
 ·exact absurd (Abu p) oo
 refine Aj<|Ab<|cg<|zm Z<|vq (BI EI) ?_;refine za Z<|Ac<|Ab<|AY c0 [71] [0,0,0,0,0,0,2,0] [0,1,2,3,4,5,6,7] fun w1 j i=>?_;refine AK Z Z<|AK Z Z ?_;have r:BM (.slice (some ⟨g,0,none⟩) l.length cp) 0 (k:Int).toNat 3= .slice (some ⟨g,0,none⟩) k cp:=by simp[BM,add_lit]
 refine vd Z (fun _=>GC EI Z Z oo oo) ?_;rw[r];refine AK Z Z<|AK Z Z<|vd Z (fun _=>BG EI Z Z oo oo) ?_;have hs:=(f.mv j).Oy (P:=QP) Abh (EU KF l) (k:=k+1) oo;replace f:=f.mv j;replace f:=f.to (k:=k) oo;rw[FT FH] at f;rw[Et FH] at hs;rw[show BM (.slice (some ⟨g,0,none⟩) l.length cp) 0 k 3= .slice (some ⟨g,0,none⟩) k cp from r] at f;refine WD.AW Z Z Z ((XQ EI Z Z f hs oo oo)) Z ?_;rintro a6 w2 ⟨c2,o,⟨rfl,f⟩⟩;refine i.AX o fun i=>Ga Z Z<|WD.nil ?_;clear i;refine Ab<|cg<|zm Z<|zm Z<|vq (BI EI) ?_;refine zm Z<|vq (ah EI Z Z Z oo oo oo) ?_;refine WR.AI ((ib EI AG f Z oo oo oo)) ?_;rintro _ a7 ⟨R,t,f⟩;refine Ac<|Ab<|cg<|zm Z<|za Z<|Ac<|Az Z Z ?_;have e:=Adl l k;exact⟨_,hJ.mv.out,by rw[e,bU,ly,lz,zP,zQ oo];exact f.out (((hJ.mv j).mv o).mv t) Z⟩
theorem mD{v:Value}{l:List Mt}{k:Nat}(h:Ao c w 73 118 2 v l.length (l.flatMap Fw))(hk:k<l.length)(hl:l.length≤1048576):Calls QP 74 #[v,I k,I ((k:Int)+1)] w (AP fun C w'=>∃c',Mv c w c' w' [73]∧Ao c' w' 73 118 2 C (l.eraseIdx k).length ((l.eraseIdx k).flatMap Fw)):=by
 have hJ:=AZ.start c w [73];have f:=h.Ca (J:=[73]) Z;generalize AT c [73]=c0 at hJ f;obtain⟨g,cp,rfl,a1,U⟩:=f.BW oo;refine enter (n:=33) (res:=#[.tmp 6]) Tryz.func74 Z Z Z Z<|Ab<|cg<|za Z<|Ac<|Ab<|cg<|zm Z<|zm Z<|zm Z<|zm Z<|vq (BI Lf) ?_;rw[show((k:Int)+1)=((k+1:Nat):Int) by omega];refine vq (ic Lf Z Z Z Z oo oo oo)<|Ac<|Ab<|Ab<|cg<|zm Z<|zm Z<|vq (AU Z Z)<|Ac ?_;refine CD Z (fun p=>?_) fun p=>?_
 ·exact absurd (Abu p) oo
 refine Aj<|Ab<|cg<|zm Z<|vq (BI Lf) ?_;refine za Z<|Ac<|Ab<|AY c0 [73] [0,0,0,0,0,0,2,0] [0,1,2,3,4,5,6,7] fun w1 j i=>?_;refine AK Z Z<|AK Z Z ?_;have r:BM (.slice (some ⟨g,0,none⟩) l.length cp) 0 (k:Int).toNat 2= .slice (some ⟨g,0,none⟩) k cp:=by simp[BM,add_lit]
 refine vd Z (fun _=>GC Lf Z Z oo oo) ?_;rw[r];refine AK Z Z<|AK Z Z<|vd Z (fun _=>BG Lf Z Z oo oo) ?_;have hs:=(f.mv j).Oy (P:=QP) Ad4 (EU SI l) (k:=k+1) oo;replace f:=f.mv j;replace f:=f.to (k:=k) oo;rw[FT KE] at f;rw[Et KE] at hs;rw[show BM (.slice (some ⟨g,0,none⟩) l.length cp) 0 k 2= .slice (some ⟨g,0,none⟩) k cp from r] at f;refine WD.AW Z Z Z ((XQ Lf Z Z f hs oo oo)) Z ?_;rintro a6 w2 ⟨c2,o,⟨rfl,f⟩⟩;refine i.AX o fun i=>Ga Z Z<|WD.nil ?_;clear i;refine Ab<|cg<|zm Z<|zm Z<|vq (BI Lf) ?_;refine zm Z<|vq (ah Lf Z Z Z oo oo oo) ?_;refine WR.AI ((ib Lf AG f Z oo oo oo)) ?_;rintro _ a7 ⟨R,t,f⟩;refine Ac<|Ab<|cg<|zm Z<|za Z<|Ac<|Az Z Z ?_;have e:=Adl l k;exact⟨_,hJ.mv.out,by rw[e,bU,ly,lz,zP,zQ oo];exact f.out (((hJ.mv j).mv o).mv t) Z⟩
theorem mE(w:World)(args:Array Value)(h:(Extern.SlicesOverlaps.overlaps #[67,67] #[4] args).run QP w= .ok (.bool false) w):(callFunc 239 args).run QP w= .ok (.value (.bool false)) w:=by
 rw[Aft Tryz.func239 kr kr kr (e:=Extern.SlicesOverlaps.overlaps #[67,67] #[4]) kr,h];rfl
theorem mF{v:Value}{l:List DE}{k b j:Nat}{x:DE}(h:Ao c w 71 112 3 v l.length (l.flatMap CP))(p:Ar c w j b (CP x) 112)(e6:AA [71] j=false)(hk:k≤l.length)(hl:l.length≤1000):Calls QP 143 #[v,I k, .slice (some ⟨b,0,none⟩) 1 1] w (AP fun h3 w'=>∃c',Mv c w c' w' [71]∧Ao c' w' 71 112 3 h3 (l.length+1) ((l.take k++x::l.drop k).flatMap CP)):=by
 have hJ:=AZ.start c w [71];have f:=h.Ca (J:=[71]) Z;replace p:=p.Kc (J:=[71]) e6;generalize AT c [71]=c0 at hJ f p;have R:=FH x;have b7:=EU KF l;have b0:=CM FH l;have a6:=KF x;obtain⟨A,cp,rfl,j1,e2⟩:=f.own.len;have j0:cp≤9223372036854775807:=by rw[GK] at e2;omega
 refine enter (n:=95) (res:=#[.tmp 6]) Tryz.func143 Z Z Z Z<|Ab<|cg<|za Z<|Ac<|Ab<|cg<|zm Z<|zm Z<|vq (BG EI Z Z oo oo) ?_;refine Ac<|Ab<|cg<|zm Z<|vq (BI EI) ?_;refine za Z<|Ac<|Ab<|Ab<|cg<|zm Z<|vq (AU Z Z)<|Ac<|CD Z (fun a8=>?_) fun a8=>?_
 ·exact absurd (Abu a8) dd
 refine Aj<|Ab<|cg<|zm Z<|vq (BI EI) ?_;refine za Z<|Ac<|Ab<|Ab<|cg<|zm Z<|zm Z<|vq (AU Z Z)<|Ac<|AS Z (fun e0=>?_) fun e0=>?_
 ·have e7:k=l.length:=oo;subst e7;refine Ab<|cg<|zm Z<|zm Z<|ve (AN EI Z Z f (Src.An Abh p.Ap.An R a6) EY Fb) ?_;rintro j2 w1 ⟨c1,t,f⟩;refine za Z<|Ac<|Az Z Z ?_;exact⟨_,hJ.mv.out,by rw[Ui,Af3,zP];exact f.out (hJ.mv t) Z⟩
 have h9:k<l.length:=oo;obtain⟨g,h7,e3,-,-⟩:=f.BW oo;injection e3 with c7 _ _;subst c7;clear a8;refine Aj<|Ab<|Ab<|cg<|zm Z<|zm Z<|vq (AH Z Z Ad Ad)<|zm Z<|vq (XP Abh Z) ?_;refine vq (BZ Z Z)<|Ac<|AS Z (fun e1=>?_) fun e1=>?_
 ·refine Ab<|cg<|zm Z<|zm Z ?_;have a1:BM (.slice (some ⟨g,0,none⟩) l.length cp) 0 (k:Int).toNat 3= .slice (some ⟨g,0,none⟩) k cp:=by simp[BM,add_lit]
  have b1:=f.to (k:=k) oo;rw[show BM (.slice (some ⟨g,0,none⟩) l.length cp) 0 k 3= .slice (some ⟨g,0,none⟩) k cp from a1] at b1;refine vq (GC EI Z Z oo oo) ?_;rw[a1];refine zm Z<|zm Z<|vq (AH Z Z Ad Ad)<|zm Z<|vq (EX Z Z Ad Ad) ?_;have c6:((l.length:Int)+((1:Nat):Int)-(k:Int))=((l.length+1-k:Nat):Int):=oo;rw[c6];refine ve (Sv 99 EI oz dd b1 Z Z oo oo oo dd) ?_;rintro j3 w1 ⟨c1,t,G,ys,a7,hv,o⟩;rw[pv] at a7 hv o;rw[show k+(l.length+1-k)=l.length+1 by omega] at hv o;obtain⟨g2,e5⟩:∃g2,g2=w.heap.size:=⟨_,Z⟩;rw[←e5] at hv;subst hv;clear b1;refine za Z<|Ac<|Ab<|cg<|zm Z<|zm Z<|vq (BG EI Z Z oo oo)<|zm Z ?_;have U:=Src.An (P:=QP) (size:=3) (m:=1) (c:=1) Abh (p.mv t).Ap.An R a6;have b8:Nat.min 1 (l.length+1-k)=1:=zQ oo;refine ve (KZ (news:=CP x) (a:=k) EI o oo oo Z Z U.lenOf (by rw[b8];exact U.cells) (by rw[b8];exact R) a6) ?_;rintro j4 w2 ⟨c2,C,c9⟩;replace o:=c9;refine Ac<|Ab ?_;replace hJ:=(hJ.mv t).mv C;replace f:=(f.mv t).mv C;replace p:=(p.mv t).mv C;refine AY c2 [99] [0,0,0,0,0,0,0,0,2] [0,1,2,3,4,5,6,7,8] fun w2 C r=>AK Z Z<|AK Z Z<|AK Z Z<|vd Z (fun _=>AH Z Z Ad Ad) ?_;rw[show((k:Int)+((1:Nat):Int))=((k+1:Nat):Int) from Z];refine vd Z (fun _=>BG EI Z Z oo oo) ?_;rw[show((k+1:Nat):Int).toNat=k+1 from Z];refine AK Z Z<|AK Z Z<|vd Z (fun _=>BG EI Z Z oo oo) ?_;have b2:=(f.mv C).Oy (P:=QP) Abh b7 (k:=k) oo;rw[Et FH] at b2;have b9:Nat.min (l.length-k) (l.length+1-(k+1))=l.length-k:=zQ oo;refine WD.AW Z Z Z ((KZ (x:= .tmp 50) (y:= .tmp 53) (news:=(l.drop k).flatMap CP) (a:=k+1) EI o.mv oo oo Z Z b2.lenOf (by rw[b9];exact b2.cells) (by rw[b9,CM FH,lz]) (EU KF _))) Z ?_;rintro j5 j8 ⟨h4,b3,o⟩;refine r.AX b3 fun r=>WD.nil ?_;clear r;refine Ab<|cg<|zm Z<|za Z<|Ac<|Az Z Z ?_;rw[Sw FH hk a7 Z Z] at o;obtain⟨c5,c8,h1⟩:=((hJ.mv C).mv b3).qQ (i:=71) (j:=99) Z;exact⟨c5,c8,h1 o⟩
 refine Aj<|Ab<|cg<|zm Z<|zm Z<|zm Z<|vq (AH Z Z Ad Ad) ?_;rw[show((l.length:Int)+((1:Nat):Int))=((l.length+1:Nat):Int) from Z];obtain⟨ys,a7,o⟩:=f.wide (k:=1) oo;have a1:BM (.slice (some ⟨g,0,none⟩) l.length cp) 0 ((l.length+1:Nat):Int).toNat 3= .slice (some ⟨g,0,none⟩) (l.length+1) cp:=by simp[BM,add_lit]
 rw[show BM (.slice (some ⟨g,0,none⟩) l.length cp) 0 (l.length+1) 3= .slice (some ⟨g,0,none⟩) (l.length+1) cp from a1] at o;clear f;have f:=o;clear o;refine vq (GC EI Z Z oo oo) ?_;rw[a1];refine za Z<|Ac<|Ab<|Ab<|cg<|zm Z<|zm Z<|zm Z<|zm Z<|vq (AH Z Z Ad Ad) ?_;rw[show((k:Int)+((1:Nat):Int))=((k+1:Nat):Int) from Z];refine vq (BG EI Z Z oo oo) ?_;have h2:=mE _ _ (IQ (P:=QP) (tR:=4) (m:=1) (lo:=k+1) EI p f oo dd dd);refine vq (ar Z h2)<|vq (Bq Z)<|Ac<|Sb Z (fun b6=>?_) fun b6=>?_
 ·refine Ab ?_;refine AY c0 [71] [0,0,0,0,0,0,0,0,2] [0,1,2,3,4,5,6,7,8] fun j9 b4 r=>AK Z Z<|AK Z Z<|AK Z Z<|vd Z (fun _=>AH Z Z Ad Ad) ?_;rw[show((k:Int)+((1:Nat):Int))=((k+1:Nat):Int) from Z];refine vd Z (fun _=>BG EI Z Z oo oo) ?_;rw[show((k+1:Nat):Int).toNat=k+1 from Z];refine AK Z Z<|AK Z Z<|vd Z (fun _=>BG EI Z Z oo oo) ?_;have e4:=(f.mv b4).Mr (P:=QP) (k:=k) (m:=l.length-k) oo;have e9:∀W:World,(Builtin.lenOf (BM (.slice (some ⟨g,0,none⟩) (l.length+1) cp) k (l.length+1) 3)).run QP W= .ok (l.length+1-k) W:=fun W=>by
   unfold BM;dsimp only;split<;>simp[Builtin.lenOf]
  have c3:Nat.min (l.length+1-k) (l.length+1-(k+1))=l.length-k:=by rw[show l.length+1-(k+1)=l.length-k by omega];exact Adr oo
  have e8:(((l.flatMap CP++ys).drop (k*3)).take ((l.length-k)*3)).length=(l.length-k)*3:=by rw[ly,lz,bU,b0,a7];omega
  have h0:∀y∈((l.flatMap CP++ys).drop (k*3)).take ((l.length-k)*3),y.oneCell'=true:=fun y hy=>by
   rw[Ack (by rw[b0];omega),Aat (by rw[lz,b0];omega)] at hy;exact b7 y (Abg (Aa4 hy))
  refine WD.AW Z Z Z ((KZ (x:= .tmp 73) (y:= .tmp 76) (a:=k+1) (m:=l.length+1-k) EI f.mv oo oo Z Z e9 (by rw[c3];exact e4) (by rw[c3];exact e8) h0)) Z ?_;rintro j6 k0 ⟨h5,b5,f⟩;refine r.AX b5 fun r=>WD.nil ?_;clear r;refine Ab<|cg<|zm Z<|zm Z<|vq (BG EI Z Z oo oo) ?_;have U:=Src.An (P:=QP) (size:=3) (m:=1) (c:=1) Abh ((p.mv b4).mv b5).Ap.An R a6;have c4:Nat.min 1 (l.length+1-k)=1:=zQ oo;refine zm Z ?_;refine ve ((KZ (news:=CP x) (a:=k) EI f oo oo Z Z U.lenOf (by rw[c4];exact U.cells) (by rw[c4];exact R) a6)) ?_;rintro j7 k1 ⟨h6,h8,f⟩;refine Ac<|Ab<|cg<|zm Z<|za Z<|Ac<|Az Z Z ?_;rw[PP FH hk a7 Z Z Z] at f;exact⟨_,hJ.mv.out,f.out hJ.mv Z⟩
 cases b6
theorem PW(a b:Int):Calls QP 142 #[I a,I b] w (AP fun v w'=>Below w.heap.size w w'∧v=I (Yk a b)):=by
 refine(Tryz.cmp_Compare_int a b w).mono fun e w' f=>?_;obtain⟨rfl,rfl⟩:=f;exact⟨_,Z,zy _ _,Z⟩
theorem UK(t:Tg)(d:List UInt8):Calls QP 156 #[.agg (Is t).toArray,St d] w (AP fun v w'=>Below w.heap.size w w'∧v=I (TZ t.name d)):=by
 have g:Bz w w:=Bz.refl w;refine enter (n:=9) (res:=#[.tmp 4]) Tryz.func156 Z Z Z Z<|Ab<|cg<|ve (Ay.box Z) ?_;rintro _ w1 ⟨b2,rfl,f⟩;have j:=f.below;have i:=f.Ap;refine za Z<|Ac<|Ab<|cg<|vq (Aa hA Z)<|vq (Ah BK Z i Z)<|zm Z<|ve (Ay.call hL Z (Nu t.name d)) ?_;rintro o w2 ⟨l,rfl⟩;refine za Z<|Ac<|Az Z Z ?_;exact⟨((g.up j).up l),Z⟩
theorem UL(t:Mt)(d:Int):Calls QP 141 #[.agg (Fw t).toArray,I d] w (AP fun v w'=>Below w.heap.size w w'∧v=I (Yk t.id d)):=by
 have g:Bz w w:=Bz.refl w;refine enter (n:=9) (res:=#[.tmp 4]) Tryz.func141 Z Z Z Z<|Ab<|cg<|ve (Ay.box Z) ?_;rintro _ w1 ⟨b2,rfl,f⟩;have j:=f.below;have i:=f.Ap;refine za Z<|Ac<|Ab<|cg<|vq (Aa hC Z)<|vq (Ah Au Z i Z)<|zm Z<|ve (Ay.call hK Z (PW t.id d)) ?_;rintro o w2 ⟨l,rfl⟩;refine za Z<|Ac<|Az Z Z ?_;exact⟨((g.up j).up l),Z⟩
theorem yj{v:Value}{T:List Tg}{d:List UInt8}(h1:Rd RJ w v T)(a7:pR T):
 Calls QP 155 #[v,St d, .func (.func 156) #[] #[]] w (AP fun c7 w'=>Below w.heap.size w w'∧c7= .tuple #[I (mw T d:Nat), .bool (cT T d).isSome]):=by
 have f:Bz w w:=Bz.refl w;have c9:=h1.small;refine enter (n:=49) (res:=#[.tmp 6, .tmp 7]) Tryz.func155 Z Z Z Z<|Ab<|cg<|za Z<|za Z<|Ac<|Ab<|cg<|zm Z ?_
 first|refine vq (BN Wf (by assumption) Z) ?_|refine vq (CH Ada Z) ?_
 refine za Z<|Ac<|Ab<|cg<|zm Z<|za Z<|za Z<|Ac<|Ab<|Ai ?_;refine WC.loop (σ:=Nat×Nat) (fun g=>[(0,v),(1,St d),(2, .func (.func 156) #[] #[]),(8,I T.length),(9,I g.1),(10,I g.2)]) (fun g w'=>Rd RJ w' v T∧Bz w w'∧g.1≤g.2∧g.2≤T.length∧(∀k (hk:k<T.length),k<g.1→(fun t:Tg=>Op.bytesLess t.name d) T[k]=true)∧∀k (hk:k<T.length),g.2≤k→(fun t:Tg=>Op.bytesLess t.name d) T[k]=false) (fun g=>g.2-g.1) (0,T.length) Aq ⟨h1,f,by simp,by simp,fun k _ h=>absurd h (Nat.not_lt_zero _),fun k hk h=>by dsimp only at h;omega⟩ ?_;clear h1 f;rintro⟨i,j⟩ b2 ⟨h1,f,c0,J,r,C⟩;dsimp only at c0 J r C⊢;refine Ab<|Ab<|cg<|zm Z<|zm Z<|vq (AE Z Z)<|Ac<|AS Z (fun b7=>?_) fun b7=>?_
 ·have e0:i<j:=oo;refine Aj<|Ai<|Ab<|cg<|zm Z<|zm Z<|vq (AH Z Z Ad Ad)<|vq (Co oz zW Z Ad Ad)<|vq (Ir Z Z Ad (by simp[IntKind.bits]<;>omega)) ?_;refine vq (Em zW oz Z Ad Ad)<|za Z<|Ac ?_;have b4:((i:Int)+(j:Int))/2^(1:Int).toNat=((i+j)/2:Nat):=by
   rw[show(2:Int)^(1:Int).toNat=2 from Z];omega
  rw[b4];have U:(i+j)/2<T.length:=oo;have a6:i≤(i+j)/2:=oo;have c5:(i+j)/2<j:=oo;generalize(i+j)/2=h at U a6 c5⊢;obtain⟨b3,b6,rfl,c6⟩:=h1.el U;refine Ab<|cg<|zm Z<|zm Z<|zm Z<|vq (AF Wf (by assumption) Z Z Z Ad Ad)<|vq (Dg ai Z b6 Z)<|zm Z ?_;refine ve (Gg Z oU Z (UK T[h] d)) ?_;rintro v30 w1 ⟨R,rfl⟩;refine vq (AE Z Z)<|Ac<|AS Z (fun l=>?_) fun l=>?_
  ·rw[Ke] at l;have a8:∀k (hk:k<T.length),k<h+1→(fun t:Tg=>Op.bytesLess t.name d) T[k]=true:=fun k hk b1=>by
    rcases yT k h with o|o
    ·have a1:=a7 k h hk U o;exact EE _ _ _ a1 l
    have:k=h:=oo;subst this;exact l
   refine cg<|zm Z<|vq (AH Z Z Ad Ad)<|za Z<|Ac ?_;replace h1:=h1.up R;replace f:=f.up R
   first
   |exact⟨(h+1,j),Aq,⟨h1,f,by dsimp only;omega,J,a8,C⟩,by dsimp only;omega⟩
   |exact⟨(i,h),Aq,⟨h1,f,a6,by dsimp only;omega,r,b0⟩,by dsimp only;omega⟩
  rw[Ke,Aci] at l;have b0:∀k (hk:k<T.length),h≤k→(fun t:Tg=>Op.bytesLess t.name d) T[k]=false:=fun k hk b1=>by
   rcases Abo b1 with o|o
   ·subst o;exact l
   have a1:=a7 h k U hk o;cases hx:Op.bytesLess T[k].name d with
   |false=>exact hx
   |true=>rw[EE _ _ _ a1 hx] at l;cases l
  refine cg<|zm Z<|za Z<|Ac ?_;replace h1:=h1.up R;replace f:=f.up R
  first
  |exact⟨(h+1,j),Aq,⟨h1,f,by dsimp only;omega,J,a8,C⟩,by dsimp only;omega⟩
  |exact⟨(i,h),Aq,⟨h1,f,a6,by dsimp only;omega,r,b0⟩,by dsimp only;omega⟩
 have:i=j:=oo;subst this;obtain⟨c3,c4⟩:=search_end (p:=fun t:Tg=>Op.bytesLess t.name d) (q:=fun t:Tg=>t.name==d) (mA a7 d) (mB d) J r C;refine WC.exit Z<|Ab<|cg<|zm Z<|zm Z<|zm Z<|vq (AE Z Z)<|zm Z ?_;apply Ul true 8 ((T[i]?.map (fun t:Tg=>t.name==d)).getD false) BT
 ·intro c8;have hi:i<T.length:=oo;obtain⟨b3,b8,rfl,c6⟩:=h1.el hi;have b9:((T[i]?.map (fun t:Tg=>t.name==d)).getD false)=(fun t:Tg=>t.name==d) T[i]:=by rw[aa hi];rfl
  have b5:Bz b2 b2:=Bz.refl _;refine wo<|zm Z<|wo<|zm Z<|wo<|zm Z<|wo<|vq (AF Wf (by assumption) Z Z Z Ad Ad)<|wo ?_;refine vq (Dg ai Z b8 Z)<|wo<|zm Z<|wo<|ve (Gg Z oU Z (UK T[i] d)) ?_;rintro e1 w2 ⟨c1,rfl⟩;refine wo<|vq (AU Z Z) ?_;exact WR.nil ⟨(by rw[b9];simp only[look,PV];exact zC (fun b=>some (Value.bool b)) (by rw[Ab6];simp)),Sub.drop _ 8 _ Z Z,(b5.up c1)⟩
 intro e2 c2;refine za rfl<|za rfl<|Ac<|Dn rfl rfl rfl ?_;exact⟨(f.up c2),by rw[show mw T d=i from c3,show(cT T d).isSome=_ from c4.symm];rfl⟩
theorem rh{v:Value}{T:List Mt}{d:Int}(h1:Rd SH w v T)(a6:SJ T):
 Calls QP 140 #[v,I d, .func (.func 141) #[] #[]] w (AP fun c7 w'=>Below w.heap.size w w'∧c7= .tuple #[I (mz T d:Nat), .bool (OH T d).isSome]):=by
 have f:Bz w w:=Bz.refl w;have c9:=h1.small;refine enter (n:=49) (res:=#[.tmp 6, .tmp 7]) Tryz.func140 Z Z Z Z<|Ab<|cg<|za Z<|za Z<|Ac<|Ab<|cg<|zm Z ?_
 first|refine vq (BN Lf (by assumption) Z) ?_|refine vq (CH Ad4 Z) ?_
 refine za Z<|Ac<|Ab<|cg<|zm Z<|za Z<|za Z<|Ac<|Ab<|Ai ?_;refine WC.loop (σ:=Nat×Nat) (fun g=>[(0,v),(1,I d),(2, .func (.func 141) #[] #[]),(8,I T.length),(9,I g.1),(10,I g.2)]) (fun g w'=>Rd SH w' v T∧Bz w w'∧g.1≤g.2∧g.2≤T.length∧(∀k (hk:k<T.length),k<g.1→(fun t:Mt=>decide (t.id<d)) T[k]=true)∧∀k (hk:k<T.length),g.2≤k→(fun t:Mt=>decide (t.id<d)) T[k]=false) (fun g=>g.2-g.1) (0,T.length) Aq ⟨h1,f,by simp,by simp,fun k _ h=>absurd h (Nat.not_lt_zero _),fun k hk h=>by dsimp only at h;omega⟩ ?_;clear h1 f;rintro⟨i,j⟩ b1 ⟨h1,f,c0,J,r,C⟩;dsimp only at c0 J r C⊢;refine Ab<|Ab<|cg<|zm Z<|zm Z<|vq (AE Z Z)<|Ac<|AS Z (fun b7=>?_) fun b7=>?_
 ·have e0:i<j:=oo;refine Aj<|Ai<|Ab<|cg<|zm Z<|zm Z<|vq (AH Z Z Ad Ad)<|vq (Co oz zW Z Ad Ad)<|vq (Ir Z Z Ad (by simp[IntKind.bits]<;>omega)) ?_;refine vq (Em zW oz Z Ad Ad)<|za Z<|Ac ?_;have b3:((i:Int)+(j:Int))/2^(1:Int).toNat=((i+j)/2:Nat):=by
   rw[show(2:Int)^(1:Int).toNat=2 from Z];omega
  rw[b3];have U:(i+j)/2<T.length:=oo;have a1:i≤(i+j)/2:=oo;have c5:(i+j)/2<j:=oo;generalize(i+j)/2=h at U a1 c5⊢;obtain⟨b2,b6,rfl,c6⟩:=h1.el U;refine Ab<|cg<|zm Z<|zm Z<|zm Z<|vq (AF Lf (by assumption) Z Z Z Ad Ad)<|vq (Dg ho Z b6 Z)<|zm Z ?_;refine ve (Gg Z oR Z (UL T[h] d)) ?_;rintro v30 w1 ⟨R,rfl⟩;refine vq (AE Z Z)<|Ac<|AS Z (fun l=>?_) fun l=>?_
  ·rw[OI] at l;have a7:∀k (hk:k<T.length),k<h+1→(fun t:Mt=>decide (t.id<d)) T[k]=true:=fun k hk b0=>by
    rcases yT k h with o|o
    ·have b4:=a6 k h hk U o;simp only[yI] at l⊢;omega
    have:k=h:=oo;subst this;exact l
   refine cg<|zm Z<|vq (AH Z Z Ad Ad)<|za Z<|Ac ?_;replace h1:=h1.up R;replace f:=f.up R
   first
   |exact⟨(h+1,j),Aq,⟨h1,f,by dsimp only;omega,J,a7,C⟩,by dsimp only;omega⟩
   |exact⟨(i,h),Aq,⟨h1,f,a1,by dsimp only;omega,r,a8⟩,by dsimp only;omega⟩
  rw[OI,Aci] at l;have a8:∀k (hk:k<T.length),h≤k→(fun t:Mt=>decide (t.id<d)) T[k]=false:=fun k hk b0=>by
   rcases Abo b0 with o|o
   ·subst o;exact l
   have b4:=a6 h k U hk o;simp only[zY] at l⊢;omega
  refine cg<|zm Z<|za Z<|Ac ?_;replace h1:=h1.up R;replace f:=f.up R
  first
  |exact⟨(h+1,j),Aq,⟨h1,f,by dsimp only;omega,J,a7,C⟩,by dsimp only;omega⟩
  |exact⟨(i,h),Aq,⟨h1,f,a1,by dsimp only;omega,r,a8⟩,by dsimp only;omega⟩
 have:i=j:=oo;subst this;obtain⟨c3,c4⟩:=search_end (p:=fun t:Mt=>decide (t.id<d)) (q:=fun t:Mt=>decide (t.id=d)) (cU a6 d) (cV d) J r C;refine WC.exit Z<|Ab<|cg<|zm Z<|zm Z<|zm Z<|vq (AE Z Z)<|zm Z ?_;apply Ul true 8 ((T[i]?.map (fun t:Mt=>decide (t.id=d))).getD false) BT
 ·intro c8;have hi:i<T.length:=oo;obtain⟨b2,b8,rfl,c6⟩:=h1.el hi;have b9:((T[i]?.map (fun t:Mt=>decide (t.id=d))).getD false)=(fun t:Mt=>decide (t.id=d)) T[i]:=by rw[aa hi];rfl
  have b5:Bz b1 b1:=Bz.refl _;refine wo<|zm Z<|wo<|zm Z<|wo<|zm Z<|wo<|vq (AF Lf (by assumption) Z Z Z Ad Ad)<|wo ?_;refine vq (Dg ho Z b8 Z)<|wo<|zm Z<|wo<|ve (Gg Z oR Z (UL T[i] d)) ?_;rintro e1 w2 ⟨c1,rfl⟩;refine wo<|vq (AU Z Z) ?_;exact WR.nil ⟨(by rw[b9];simp only[look,UH];rfl),Sub.drop _ 8 _ Z Z,(b5.up c1)⟩
 intro e2 c2;refine za rfl<|za rfl<|Ac<|Dn rfl rfl rfl ?_;exact⟨(f.up c2),by rw[show mz T d=i from c3,show(OH T d).isSome=_ from c4.symm];rfl⟩
theorem Yn{v:Value}{T:List Mt}{d:Int}(h1:Rd SH w v T)(i:SJ T):Calls QP 72 #[v,I d] w (AP fun j w'=>Below w.heap.size w w'∧j= .tuple #[I (mz T d:Nat), .bool (OH T d).isSome]):=by
 have f:Bz w w:=Bz.refl w;refine enter (n:=11) (res:=#[.tmp 4, .tmp 5]) Tryz.func72 Z Z Z Z<|Ab<|cg<|za Z<|za Z<|Ac<|Ab<|cg<|zm Z<|zm Z<|ve (Ay.call tq Z (rh h1 i)) ?_;rintro l w1 ⟨g,rfl⟩;refine vq (Ag Z Z)<|vq (Ag Z Z)<|za Z<|za Z<|Ac<|Dn Z Z Z ?_;exact⟨(f.up g),Z⟩
theorem sm{v:Value}{l:List DE}{f:FuncId}{o:Array Value}{q:DE→Bool}(h1:Rd HY w v l)(J:Af QP f=true)(R:∀(w':World) (x:DE),Below w.heap.size w w'→Calls QP f (#[.agg (CP x).toArray]++o) w' (AP fun v w''=>Below w'.heap.size w' w''∧v= .bool (q x))):
 Calls QP 161 #[v, .func (.func f) #[] o] w (AP fun U w'=>Below w.heap.size w w'∧∃i:Int,U=I i∧az q l i):=by
 have a6:=h1.small;have g:Bz w w:=Bz.refl w;refine enter (n:=19) (res:=#[.tmp 4]) Tryz.func161 Z Z Z Z<|Ab<|cg<|za Z<|Ac<|Ab<|Ab<|cg<|zm Z ?_
 first|refine vq (BN EI (by assumption) Z) ?_|refine vq (CH Abh Z) ?_
 refine zm Z<|Ac<|Ai<|WC.loop (σ:=Nat) (fun k=>[(0,v),(1, .func (.func f) #[] o),(7,I l.length),(8,I k)]) (fun k w'=>Rd HY w' v l∧Bz w w'∧k≤l.length∧∀x∈l.take k,q x=false) (fun k=>l.length-k) 0 Aq ⟨h1,g,by omega,by simp⟩ ?_;rintro k b0 ⟨h1,g,hk,j⟩;refine Ab<|cg<|vq (AE Z Z)<|Ac<|Ab<|AS Z (fun C=>?_) fun C=>?_
 ·have ka:k<l.length:=oo;obtain⟨a1,t,rfl,a7⟩:=h1.el ka;refine Aj<|Ab<|Ai<|Ab<|cg<|zm Z<|za Z<|Ac<|Ab<|cg<|zm Z<|zm Z<|zm Z<|vq (AF EI (by assumption) Z Z Z Ad Ad)<|vq (Dg Gc Z t Z) ?_;refine ve (Gg Z J Z (R _ _ g)) ?_;rintro _ a8 ⟨r,rfl⟩;refine Ac<|AS Z (fun p=>?_) fun p=>?_
  ·refine Ab<|cg<|zm Z<|za Z<|Ac ?_;refine Az Z Z ?_;exact⟨(g.up r),_,Z, .inr ⟨k,Z,ka,p,j⟩⟩
  refine Aj<|cg<|vq (AH Z Z Ad Ad)<|zm Z<|Ac ?_;exact⟨k+1,Aq,⟨(h1.up r),(g.up r),ka,Yl j ka p⟩,by omega⟩
 refine WC.exit Z<|Ab<|cg<|za Z<|Ac<|Az Z Z ?_;exact⟨g,-1,Z, .inl ⟨Z,by rw[yM oo] at j;exact j⟩⟩
theorem eA{v:Value}{l:List Tg}{f:FuncId}{o:Array Value}{q:Tg→Bool}(h1:Rd RJ w v l)(J:Af QP f=true)(R:∀(w':World) (x:Tg),Below w.heap.size w w'→Calls QP f (#[.agg (Is x).toArray]++o) w' (AP fun v w''=>Below w'.heap.size w' w''∧v= .bool (q x))):
 Calls QP 147 #[v, .func (.func f) #[] o] w (AP fun U w'=>Below w.heap.size w w'∧∃i:Int,U=I i∧az q l i):=by
 have a6:=h1.small;have g:Bz w w:=Bz.refl w;refine enter (n:=19) (res:=#[.tmp 4]) Tryz.func147 Z Z Z Z<|Ab<|cg<|za Z<|Ac<|Ab<|Ab<|cg<|zm Z ?_
 first|refine vq (BN Wf (by assumption) Z) ?_|refine vq (CH Ada Z) ?_
 refine zm Z<|Ac<|Ai<|WC.loop (σ:=Nat) (fun k=>[(0,v),(1, .func (.func f) #[] o),(7,I l.length),(8,I k)]) (fun k w'=>Rd RJ w' v l∧Bz w w'∧k≤l.length∧∀x∈l.take k,q x=false) (fun k=>l.length-k) 0 Aq ⟨h1,g,by omega,by simp⟩ ?_;rintro k b0 ⟨h1,g,hk,j⟩;refine Ab<|cg<|vq (AE Z Z)<|Ac<|Ab<|AS Z (fun C=>?_) fun C=>?_
 ·have ka:k<l.length:=oo;obtain⟨a1,t,rfl,a7⟩:=h1.el ka;refine Aj<|Ab<|Ai<|Ab<|cg<|zm Z<|za Z<|Ac<|Ab<|cg<|zm Z<|zm Z<|zm Z<|vq (AF Wf (by assumption) Z Z Z Ad Ad)<|vq (Dg ai Z t Z) ?_;refine ve (Gg Z J Z (R _ _ g)) ?_;rintro _ a8 ⟨r,rfl⟩;refine Ac<|AS Z (fun p=>?_) fun p=>?_
  ·refine Ab<|cg<|zm Z<|za Z<|Ac ?_;refine Az Z Z ?_;exact⟨(g.up r),_,Z, .inr ⟨k,Z,ka,p,j⟩⟩
  refine Aj<|cg<|vq (AH Z Z Ad Ad)<|zm Z<|Ac ?_;exact⟨k+1,Aq,⟨(h1.up r),(g.up r),ka,Yl j ka p⟩,by omega⟩
 refine WC.exit Z<|Ab<|cg<|za Z<|Ac<|Az Z Z ?_;exact⟨g,-1,Z, .inl ⟨Z,by rw[yM oo] at j;exact j⟩⟩
theorem eB{v:Value}{l:List Tg}{f:FuncId}{g:Array Value}{q:Tg→Bool}(h1:Rd RJ w v l)(o:Af QP f=true)(r:∀(w':World) (x:Tg),Below w.heap.size w w'→Calls QP f (#[.agg (Is x).toArray]++g) w' (AP fun v w''=>Below w'.heap.size w' w''∧v= .bool (q x))):
 Calls QP 77 #[v, .func (.func f) #[] g] w (AP fun t w'=>Below w.heap.size w w'∧t= .bool (l.any q)):=by
 have j:Bz w w:=Bz.refl w;refine enter (n:=9) (res:=#[.tmp 4]) Tryz.func77 Z Z Z Z<|Ab<|cg<|za Z<|Ac<|Ab<|cg<|zm Z<|zm Z<|ve (Ay.call tu Z (eA h1 o r)) ?_;rintro C w1 ⟨p,i,rfl,hi⟩;refine vq (Cu Z Z)<|za Z<|Ac<|Az Z Z ?_;exact⟨(j.up p),by rw[←aA hi]⟩
end Go.Proofs.K
namespace Go.Eng
open Go Go.RowKit
theorem yk{P:Program}{env:Env}{ty:TypeId}{x y:Operand}{t i:TypeId}{m n:Int}(hx:Ba env x=some (I m))(hy:Ba env y=some (I n)):Bp P env w (.call ⟨.builtin .min,#[x,y],#[t,i]⟩) ty (I (min m n)):=fun _ a f d pos j g=>by
 have e:(if n<m then n else m)=min m n:=by rw[Int.min_def];split<;>split<;>omega
 simp[execOp,resolve,invoke,builtin,Builtin.min_,Builtin.min2,f.eval hx,f.eval hy,e]
end Go.Eng
namespace Go.Proofs.K
open Go Go.Eng Go.RowKit Silo TryzT
def JM(c:Nat→Nat)(w:World)(b:Nat)(S:Hq):Prop:=∃vT vG vS,Ar c w 70 b [vT,vG,vS,I S.next] 71∧Ao c w 71 112 3 vT S.things.length (S.things.flatMap CP)∧Ao c w 72 115 2 vG S.tags.length (S.tags.flatMap Is)∧Ao c w 73 118 2 vS S.sessions.length (S.sessions.flatMap Fw)
theorem _root_.Go.Eng.Ao.mG{v:Value}{i:Nat}{e:TypeId}{T:List DE}(h:Ao c w i e 3 v T.length (T.flatMap CP))(hl:T.length≤1048576)(f:∀t∈T,t.Ak.length≤140737488355328∧t.text.length≤1048576):Bi HY c w [i] v T:=h.Ez oo fun t ht=>⟨(f t ht).1,by have:=(f t ht).2;omega⟩
theorem _root_.Go.Eng.Ao.zg{v:Value}{i:Nat}{e:TypeId}{T:List Tg}(h:Ao c w i e 2 v T.length (T.flatMap Is))(hl:T.length≤1048576)(f:∀t∈T,t.name.length≤140737488355328∧t.Ak.length≤140737488355328):Bi RJ c w [i] v T:=h.Ez oo f
theorem _root_.Go.Eng.Ao.ri{v:Value}{i:Nat}{e:TypeId}{T:List Mt}(h:Ao c w i e 2 v T.length (T.flatMap Fw))(hl:T.length≤1048576)(f:∀t∈T,Go.Eng.Int64 t.id∧t.text.length≤1048576):Bi SH c w [i] v T:=h.Ez oo fun t ht=>⟨(f t ht).1,by have:=(f t ht).2;omega⟩
theorem eC{b:Nat}{S:Hq}(h:JM c w b S)(a8:KG S):Calls QP 43 #[.pointer (some ⟨b,0,none⟩)] w (AP fun v w'=>∃c',Mv c w c' w' Gk∧JM c' w' b (FC S).1∧v=rf (FC S).2):=by
 obtain⟨vT,vG,vS,f,o,l,g⟩:=h;obtain⟨e1,e2,e3,e4,e5,e6,e7⟩:=a8;have hJ:=AZ.start c w Gk;replace f:=f.Ca (J:=Gk) Z;replace o:=o.Ca (J:=Gk) Z;replace l:=l.Ca (J:=Gk) Z;replace g:=g.Ca (J:=Gk) Z;generalize AT c Gk=c0 at hJ f o l g;have b9:=o.Av;have c2:=l.Av;have c3:=g.Av;refine enter (n:=45) (res:=#[.cell 2 42, .tmp 3]) Tryz.func43 Z Z Z Z<|Ab<|cg<|Db c0 102 Ik fun w1 b2 c1 a6 j=>?_;refine za Z<|Ac<|Ab<|Ab<|cg<|zm Z<|vq (Ae Z)<|vq (Aa Iz Z)<|vq (Ah Ou Z f.mv.Ap Z)<|vq (NX Lf g.mv Z)<|vq (Cu Z Z)<|zm Z ?_;apply WR.CJ false 5 _ BT
 ·intro b6;refine wo<|zm rfl<|wo<|vq (Ae rfl)<|wo<|vq (Aa Ob rfl)<|wo<|vq (Ah Au rfl f.mv.Ap rfl)<|wo<|vq (Cu rfl rfl) ?_;exact Dm 5
 refine Ac<|AS Z (fun b0=>?_) fun b0=>?_
 ·refine Ab<|cg<|vq (AB (cells:=#[.int .i64 0, .string ⟨[].toArray⟩, .int .i64 0]) Z kr) ?_;refine WR.AI (Am BH Z Z j Z Z AG) ?_;rintro _ w2 ⟨j,b5⟩;refine za Z<|Ac<|DR Z (Br BH Z j.Ap Z) (Cp.tmp Z) ?_;have e:FC S=bad S 2:=by rw[FC,yP];omega
  rw[e];exact⟨_,hJ.mv.out,⟨vT,vG,vS,f.mv.out hJ.mv Z,o.mv.out hJ.mv Z,l.mv.out hJ.mv Z,g.mv.out hJ.mv Z⟩,Z⟩
 refine Aj<|Ab<|AY c1 [73] [0,0,0,0,1,0,0,0,1,0,2,2,0,0,3] [0,1,2,3,4,5,6,7,8,9,10,11,12,13,14] fun c5 a7 i=>?_;refine AK Z Z<|AK Z Z<|vd Z (fun _=>Ae Z)<|vd Z (fun _=>Aa Iz Z)<|vc Z i.kp (f.mv.kb Ou Z Z)<|AK Z Z<|vd Z (fun _=>Ae Z)<|vd Z (fun _=>Aa Ob Z)<|vc Z i.kp (f.mv.kb Au Z Z)<|vd Z (fun _=>AB (cells:=#[I S.next,St []]) Z kr) ?_;refine WD.AW Z Z Z (Bb c1 128 Lf Z Z Z Z Z) Z ?_;rintro _ c6 ⟨b1,b3,rfl,r,U⟩;refine i.AX r fun i=>WD.AW Z Z Z (AN Lf Z Z g.mv (Src.An Ad4 U.Ap.An Z AG) EY Fb) Z ?_;rintro c4 c7 ⟨b4,t,g⟩;refine i.AX t fun i=>?_;clear U;have b7:=g.Aw;have b8:=g.Av;refine vd Z (fun _=>Ae Z)<|vd Z (fun _=>Aa Iz Z)<|WD.wild Z Z Z (AJ Ou Z Z ra ra f.mv Z) ?_;rintro _ c8 ⟨f,p⟩;try replace i:=i.tr p Z
 refine WD.nil ?_;clear i;refine Ab<|cg<|zm Z<|vq (Ae Z)<|vq (Aa Ob Z)<|vq (Ah Au Z f.Ap Z)<|vq (AH Z Z Ad Ad)<|vq (Ae Z)<|vq (Aa Ob Z) ?_;refine WR.AI (AJ Au Z Z ra ra f Z) ?_;rintro _ c9 ⟨f,C⟩;refine Ac<|Ab<|cg<|zm Z<|vq (Ae Z)<|vq (Aa Ob Z)<|vq (Ah Au Z f.Ap Z)<|vq (EX Z Z oo oo) ?_;rw[show S.next+1-1=S.next by omega];refine vq (AB (cells:=#[I S.next,St [],I 0]) Z kr) ?_;refine WR.AI (Am BH Z Z j.mv Z Z AG) ?_;rintro _ e0 ⟨j,R⟩;refine za Z<|Ac<|DR Z (Br BH Z j.Ap Z) (Cp.tmp Z) ?_;have e:FC S=({S with sessions:=S.sessions++[⟨S.next,[]⟩],next:=S.next+1},⟨S.next,[],0⟩):=by rw[FC,yK];omega
 rw[e];have a1:(S.sessions++[(⟨S.next,[]⟩:Mt)]).flatMap Fw=S.sessions.flatMap Fw++[I S.next,St []]:=by rw[zP];rfl
 exact⟨_,hJ.mv.out,⟨vT,vG,_,f.mv.out hJ.mv Z,o.mv.out hJ.mv Z,l.mv.out hJ.mv Z,by dsimp only;rw[a1,List.length_append];exact(((g.mv p).mv C).mv R).out (((((((hJ.mv a6).mv a7).mv r).mv t).mv p).mv C).mv R) Z⟩,Z⟩
theorem iK{b:Nat}{vT vG vS:Value}{n:Int}{T:List DE}{x:DE}(i:Ar c w 70 b [vT,vG,vS,I n] 71)(g:Ao c w 71 112 3 vT T.length (T.flatMap CP))(b7:Hc T)(hl:T.length≤200)(b6:∀t∈T,t.Ak.length≤140737488355328∧t.text.length≤1048576):Calls QP 73 #[.pointer (some ⟨b,0,none⟩), .agg (CP x).toArray] w (AP fun v w'=>∃c',Mv c w c' w' [70,71]∧∃a7,v=I (if(HZ T x).isSome then 0 else 2)∧Ar c' w' 70 b [a7,vG,vS,I n] 71∧Ao c' w' 71 112 3 a7 ((HZ T x).getD T).length (((HZ T x).getD T).flatMap CP)):=by
 have hJ:=AZ.start c w [70,71];replace i:=i.Ca (J:=[70,71]) Z;replace g:=g.Ca (J:=[70,71]) Z;generalize AT c [70,71]=c0 at hJ i g;have a6:=OJ (fun t:DE=>Op.bytesLess t.Ak x.Ak) T;refine enter (n:=37) (res:=#[.tmp 4]) Tryz.func73 Z Z Z Z<|Ab<|cg<|Dz c0 103 fun w1 b3 c1 a8 U=>?_;refine za Z<|Ac<|Ab<|AY c1 [] [0,0,0,1,0,1,2,0,0,0,0,0] [0,1,2,3,4,5,6,7,8,9,10,11] fun w2 b0 f=>?_;have R:=i;have a1:=U;refine AK Z Z<|vd Z (fun _=>Ae Z)<|vd Z (fun _=>Aa FQ Z)<|vc Z f.kp (R.mv.kb Kb Z Z)<|vd Z (fun _=>Aa Lv Z)<|vc Z f.kp (a1.mv.kb BK Z Z)<|WD.AW Z Z Z (Al c1 1 (Ay.call qH Z (SG (g.mv.mG oo b6).now b7))) Z ?_;rintro c7 c9 ⟨o,p,c4,rfl⟩;refine f.AX p fun f=>AK Z Z<|vd Z (fun _=>Ag Z Z)<|vd Z (fun _=>Ag Z Z)<|Ga Z Z<|Ga Z Z<|WD.nil ?_;clear R a1;clear f;refine Ab<|Ai<|Ab<|cg<|zm Z<|za Z<|Ac<|AS Z (fun j=>?_) fun j=>?_
 ·refine Ab<|cg<|za Z<|Ac ?_;refine Az Z Z ?_;rw[Ym j];exact⟨_,hJ.mv.out,_,Z,i.mv.out hJ.mv Z,g.mv.out hJ.mv Z⟩
 refine Ab<|cg<|zm Z<|vq (Ae Z)<|vq (Aa FQ Z)<|vq (Ah Kb Z i.mv.Ap Z)<|vq (NX EI g.mv Z)<|vq (Cu Z Z)<|za Z<|Ac<|AS Z (fun b4=>?_) fun b4=>?_
 ·refine Ab<|cg<|za Z<|Ac ?_;refine Az Z Z ?_;rw[iJ (by simpa using j) oo];exact⟨_,hJ.mv.out,_,Z,i.mv.out hJ.mv Z,g.mv.out hJ.mv Z⟩
 refine Aj<|Ab<|AY o [71] [0,0,0,0,1,0,1,2,2,0,0,3] [0,1,2,3,4,5,6,7,8,9,10,11] fun e0 b1 f=>?_;refine AK Z Z<|AK Z Z<|vd Z (fun _=>Ae Z)<|vd Z (fun _=>Aa FQ Z)<|vc Z f.kp (i.mv.kb Kb Z Z)<|AK Z Z<|vc Z f.kp (U.mv.kn Gc Z Z)<|WD.AW Z Z Z (Bb o 133 EI Z Z Z Z Z) Z ?_;rintro _ e1 ⟨b8,b9,rfl,r,b2⟩;refine f.AX r fun f=>WD.AW Z Z Z (Ay.call ts Z (mF (k:=Io T x.Ak) g.mv b2 Z a6 oo)) Z ?_;rintro c8 e2 ⟨c2,C,g⟩;refine f.AX C fun f=>?_;have c5:=g.Aw;have c6:=g.Av;refine vd Z (fun _=>Ae Z)<|vd Z (fun _=>Aa FQ Z)<|WD.wild Z Z Z (AJ Kb Z Z ra ra i.mv Z) ?_;rintro _ e3 ⟨i,l⟩;try replace f:=f.tr l Z
 refine WD.nil ?_;clear f;refine Ab<|cg<|za Z<|Ac<|Az Z Z ?_;rw[UI (by simpa using j) oo];have b5:(T.take (Io T x.Ak)++x::T.drop (Io T x.Ak)).length=T.length+1:=by
  have c3:Io T x.Ak≤T.length:=a6;rw[bU,yZ,ly,lz];omega
 exact⟨_,hJ.mv.out,_,Z,i.out hJ.mv Z,by rw[Aa1,b5];exact(g.mv l).out (((((((hJ.mv a8).mv b0).mv p).mv b1).mv r).mv C).mv l) Z⟩
end Go.Proofs.K
namespace Silo
open Go Go.Eng
def SK(o:Kf):Prop:=(Go.Eng.Int64 o.kind∧Go.Eng.Int64 o.id∧Go.Eng.Int64 o.n∧Go.Eng.Int64 o.m)∧o.name.length≤1048576∧o.Ak.length≤1048576∧o.text.length≤1048576
def RE(r:ev):Prop:=r.err=0∨r=⟨0,[],r.err⟩
theorem iL(S:Hq):RE (FC S).2:=by
 unfold FC bad;split
 ·exact .inr Z
 ·exact .inl Z
theorem vI(S:Hq)(o:Kf):RE (HC S o).2:=by
 unfold HC bad
 repeat' (first|exact .inr Z|exact .inl Z|split|dsimp only)
theorem iM(S:Hq)(o:Kf):RE (CC S o).2:=by
 unfold CC bad
 repeat' (first|exact .inr Z|exact .inl Z|split|dsimp only)
def Gl(n:Int):Bool:=decide (0≤n)&&decide (n≤1073741824)
def IC(p:Int×Int):Bool:=decide (p.1< -1)||decide (12≤p.1)||decide (p.2<0)||decide (64≤p.2)
def pS(r:Rec):Int:=if hasB r.kind 105 then r.id else 0
def pT(r:Rec):List UInt8:=if hasB r.kind 110 then r.name else[]
def pU(r:Rec):List UInt8:=if hasB r.kind 100 then r.Ak else[]
def pV(r:Rec):List Int:=if hasB r.kind 108 then r.list else[]
def pW(r:Rec):List (Int×Int):=if hasB r.kind 115 then r.CF else[]
def want(r:Rec):Rec:=⟨r.kind,pS r,pT r,pU r,pV r,pW r⟩
def Mu(r:Rec):Bool:=decide (r.kind<1)||decide (8<r.kind)
def iN(r:Rec):Bool:=
 !decide (r=want r)|| !Gl r.id||(hasB r.kind 110&& !(decide (1≤(r.name.length:Int))&&decide ((r.name.length:Int)≤40)))||(hasB r.kind 100&& !decide ((r.Ak.length:Int)=32))||
  decide (2000<(r.list.length:Int))||(decide (r.kind=2)&& !decide ((r.list.length:Int)=2))||(hasB r.kind 115&& !(decide (1≤(r.CF.length:Int))&&decide ((r.CF.length:Int)≤14)))
def JN(r:Rec):Bool:= !Mu r&& !iN r&&r.list.all Gl&&r.CF.all (fun p=> !IC p)
def OK(r:Rec):Bool:=(hasB r.kind 105&& !Gl r.id)||(hasB r.kind 110&&(decide ((r.name.length:Int)<1)||decide (40<(r.name.length:Int))))||(hasB r.kind 100&& !decide ((r.Ak.length:Int)=32))
def SL(r:Rec):Bool:= !(decide (r.kind=2)&& !decide ((r.list.length:Int)=2))&&(decide ((r.list.length:Int)≤2000)&& !(r.list.any fun n=> !Gl n))
def Mw(l:List (Int×Int)):Bool:=decide (1≤(l.length:Int))&&decide ((l.length:Int)≤14)&& !(l.any IC)
def OL(r:Rec):Bool:=(hasB r.kind 108&& !SL r)||(hasB r.kind 115&& !Mw r.CF)
def cW(r:Rec):Bool:=(hasB r.kind 105||decide (r.id=0))&&(hasB r.kind 110||(r.name==[]))&&(hasB r.kind 100||(r.Ak==[]))&&(hasB r.kind 108||decide ((r.list.length:Int)=0))&&(hasB r.kind 115||decide ((r.CF.length:Int)=0))
theorem yl{α:Type}(l:List α):((l.length:Int)=0)↔l=[]:=by cases l<;>simp;omega
theorem Yo(r:Rec):r=want r↔(hasB r.kind 105=true∨r.id=0)∧(hasB r.kind 110=true∨r.name=[])∧(hasB r.kind 100=true∨r.Ak=[])∧(hasB r.kind 108=true∨r.list=[])∧(hasB r.kind 115=true∨r.CF=[]):=by
 obtain⟨k,i,n,d,l,s⟩:=r;simp only[want,pS,pT,pU,pV,pW,Rec.mk.injEq,true_and];cases hasB k 105<;>cases hasB k 110<;>cases hasB k 100<;>cases hasB k 108<;>cases hasB k 115<;>simp
theorem vJ{k:Int}(h:k=2):hasB k 108=true:=by subst h;decide
theorem eD(r:Rec):SL r=true↔(r.kind=2→(r.list.length:Int)=2)∧(r.list.length:Int)≤2000∧∀x∈r.list,Gl x=true:=by
 simp only[SL,kg,zV,Ab2,zY,Aea,yI,Aas,Aci,Bool.not_eq_false];constructor
 ·rintro⟨f,g,i⟩;exact⟨fun e=>f.resolve_left (fun n=>n e),g,i⟩
 ·rintro⟨f,g,i⟩;exact⟨(Decidable.em (r.kind=2)).symm.imp id f,g,i⟩
theorem Yp(l:List (Int×Int)):Mw l=true↔(1≤(l.length:Int)∧(l.length:Int)≤14)∧∀x∈l,IC x=false:=by
 simp only[Mw,kg,zV,yI,Aas,Aci]
theorem OM(r:Rec):JN r=true↔Mu r=false∧r=want r∧Gl r.id=true∧(hasB r.kind 110=true→1≤(r.name.length:Int)∧(r.name.length:Int)≤40)∧(hasB r.kind 100=true→(r.Ak.length:Int)=32)∧
 (r.list.length:Int)≤2000∧(r.kind=2→(r.list.length:Int)=2)∧(hasB r.kind 115=true→1≤(r.CF.length:Int)∧(r.CF.length:Int)≤14)∧(∀x∈r.list,Gl x=true)∧(∀x∈r.CF,IC x=false):=by
 simp only[JN,iN,kg,zV,VJ,Ab2,zY,Aea,yI,zK,Int.not_lt,and_assoc];refine Aev fun _=>Aev fun _=>Aev fun _=>and_congr ?_ (and_congr ?_ (Aev fun _=>and_congr ?_ (and_congr ?_ Iff.rfl)))
 ·cases hasB r.kind 110<;>simp
 ·cases hasB r.kind 100<;>simp
 ·by_cases h:r.kind=2<;>simp[h]
 cases hasB r.kind 115<;>simp
theorem eE:Gl 0=true:=by decide
theorem My(r:Rec):JN r=(!Mu r&& !OK r&& !OL r&&cW r):=by
 rw[Ab6,OM,Yo];simp only[OK,OL,cW,kg,zV,VJ,Ab2,zY,Aea,yI,Acl,zZ,eD,Yp,yl,and_assoc,Int.not_lt];have hk:=@vJ r.kind;constructor
 ·rintro⟨C,j,R,J,g,l,t,o,p,i,f,U,a1,a6⟩;refine⟨C, .inr t,?_,?_, .inr ⟨f,i,a1⟩,?_,j,R,J,g,l⟩
  ·cases e:hasB r.kind 110
   ·exact .inl Z
   exact .inr (o e)
  ·cases e:hasB r.kind 100
   ·exact .inl Z
   exact .inr (p e)
  cases e:hasB r.kind 115
  ·exact .inl Z
  have:=U e;exact .inr ⟨this.1,this.2,a6⟩
 rintro⟨C,t,o,p,i,f,j,R,J,g,l⟩;have I:(r.kind=2→(r.list.length:Int)=2)∧(r.list.length:Int)≤2000∧∀x∈r.list,Gl x=true:=by
  rcases i with i|i
  ·rcases g with g|g
   ·rw[i] at g;exact absurd g dd
   exact⟨fun e=>by rw[vJ e] at i;exact absurd i dd,by simp[g],by simp[g]⟩
  exact i
 refine⟨C,j,R,J,g,l,?_,?_,?_,I.2.1,I.1,?_,I.2.2,?_⟩
 ·rcases t with t|t
  ·rcases j with j|j
   ·rw[t] at j;exact absurd j dd
   rw[j];exact eE
  exact t
 ·intro e;rcases o with o|o
  ·rw[e] at o;exact absurd o dd
  exact o
 ·intro e;rcases p with p|p
  ·rw[e] at p;exact absurd p dd
  exact p
 ·intro e;rcases f with f|f
  ·rw[e] at f;exact absurd f dd
  exact⟨f.1,f.2.1⟩
 rcases f with f|f
 ·rcases l with l|l
  ·rw[f] at l;exact absurd l dd
  simp[l]
 exact f.2.2
def bI(r:Rec):List UInt8:=if hasB r.kind 105 then be 4 r.id else[]
def bN(r:Rec):List UInt8:=if hasB r.kind 110 then be 1 r.name.length++r.name else[]
def bL(r:Rec):List UInt8:=if hasB r.kind 108 then be 4 r.list.length++r.list.flatMap (be 4) else[]
def aB(p:Int×Int):List UInt8:=be 4 p.1++be 4 p.2
def bS(r:Rec):List UInt8:=if hasB r.kind 115 then be 1 r.CF.length++r.CF.flatMap aB else[]
def A1(r:Rec):List UInt8:=be 1 r.kind++bI r
def A2(r:Rec):List UInt8:=A1 r++bN r
def A3(r:Rec):List UInt8:=A2 r++r.Ak
def A4(r:Rec):List UInt8:=A3 r++bL r
def bytesOf(r:Rec):List UInt8:=A4 r++bS r
theorem iO(r:Rec):(A1 r).length≤5:=by
 simp only[A1,bI,bU,Bc];split
 ·simp[Bc]
 ·simp
theorem Kg(l:List Int):(l.flatMap (be 4)).length=4*l.length:=by
 induction l with
 |nil=>rfl
 |cons x r f=>simp only[zD,bU,Bc,yZ,f];omega
theorem SM(l:List (Int×Int)):(l.flatMap aB).length=8*l.length:=by
 induction l with
 |nil=>rfl
 |cons x r f=>simp only[zD,bU,aB,Bc,yZ,f];omega
def eF(x:Nat):Nat:=if x%2=1 then(x/2)^^^14514072000185962306 else x/2
def mH:Nat→Nat→Nat
 |0,x=>x
 |k+1,x=>eF (mH k x)
def rj(x:Nat)(b:UInt8):Nat:=mH 8 (x^^^b.toNat)
def Yq(x:Nat)(s:List UInt8):Nat:=s.foldl rj x
def JA(x:Nat):Nat:=18446744073709551615-x
def mI(s:List UInt8):Nat:=JA (Yq (JA 0) s)
theorem mJ{x:Nat}(h:x<18446744073709551616):eF x<18446744073709551616:=by
 unfold eF;split
 ·exact Aco (n:=64) oo dd
 ·omega
theorem Ww:∀(k:Nat) {x:Nat},x<18446744073709551616→mH k x<18446744073709551616
 |0,_,h=>h
 |k+1,_,h=>mJ (Ww k h)
theorem QT{x:Nat}(b:UInt8)(h:x<18446744073709551616):x^^^b.toNat<18446744073709551616:=Aco (n:=64) h (by have:=b.toNat_lt;omega)
theorem mK{x:Nat}(b:UInt8)(h:x<18446744073709551616):rj x b<18446744073709551616:=Ww 8 (QT b h)
theorem cX:∀(s:List UInt8) {x:Nat},x<18446744073709551616→Yq x s<18446744073709551616
 |[],_,h=>h
 |b::s,_,h=>cX s (mK b h)
theorem Yr(x:Nat):JA x<18446744073709551616:=by unfold JA;omega
theorem eG{x:Nat}{s:List UInt8}{k:Nat}(hk:k<s.length):Yq x (s.take (k+1))=rj (Yq x (s.take k)) s[k]:=by
 rw[yG hk,Yq,Adj];rfl
end Silo
namespace Go.Proofs.K
open Go Go.Eng Go.RowKit Silo TryzT
theorem aC{b:Nat}{S:Hq}{o:Kf}(h:JM c w b S)(k2:KG S)(k1:SK o)(l2:Hc S.things)(j3:SJ S.sessions):Calls QP 44 #[.pointer (some ⟨b,0,none⟩), .agg (FB o).toArray] w (AP fun v w'=>∃c',Mv c w c' w' Gk∧JM c' w' b (HC S o).1∧v=rf (HC S o).2):=by
 obtain⟨vT,vG,vS,p,t,R,f⟩:=h;obtain⟨l6,r3,h4,r4,r5,r6,r7⟩:=k2;obtain⟨⟨q6,q7,q8,q9⟩,r0,r1,r2⟩:=k1;have hJ:=AZ.start c w Gk;replace p:=p.Ca (J:=Gk) Z;replace t:=t.Ca (J:=Gk) Z;replace R:=R.Ca (J:=Gk) Z;replace f:=f.Ca (J:=Gk) Z;generalize AT c Gk=c0 at hJ p t R f;have o5:=t.Av;have o6:=R.Av;have o7:=f.Av;refine enter (n:=105) (res:=#[.cell 4 42, .tmp 5]) Tryz.func44 Z Z Z Z<|Ab<|cg<|Dz c0 103 fun w1 b3 c1 a8 a7=>?_;refine Db c1 104 Ik fun w2 b4 c2 a6 r=>za Z<|Ac<|Ab<|AY c2 [] [0,0,0,1,0,1,2,0,0,0,0,0] [0,1,2,3,4,5,6,7,8,9,10,11] fun q1 a1 C=>?_;have c4:=p;have b9:=a7;have e1:=r;refine AK Z Z<|vd Z (fun _=>Ae Z)<|vd Z (fun _=>Aa Iz Z)<|vc Z C.kp (c4.mv.kb Ou Z Z)<|vd Z (fun _=>Aa lV Z)<|vc Z C.kp (b9.mv.kb Au Z Z)<|WD.AW Z Z Z (Al c2 1 (Ay.call xQ Z (Yn (f.mv.ri oo h4).now j3))) Z ?_;rintro o9 q2 ⟨e7,U,o0,rfl⟩;refine C.AX U fun C=>AK Z Z<|vd Z (fun _=>Ag Z Z)<|vd Z (fun _=>Ag Z Z)<|Ga Z Z<|Ga Z Z<|WD.nil ?_;clear c4 b9 e1;clear C;refine Ab<|Ab<|cg<|zm Z<|vq (Bq Z)<|Ac<|AS Z (fun e9=>?_) fun e9=>?_
 ·refine Ab<|cg<|vq (AB (cells:=#[.int .i64 0, .string ⟨[].toArray⟩, .int .i64 0]) Z kr) ?_;refine WR.AI (Am BH Z Z r.mv Z Z AG) ?_;rintro _ q3 ⟨r,n4⟩;refine za Z<|Ac<|DR Z (Br BH Z r.Ap Z) (Cp.tmp Z) ?_;have e:HC S o=bad S 3:=by
   cases b1:OH S.sessions o.id with
   |none=>rw[HC,b1]
   |some k=>rw[b1] at e9;simp at e9
  rw[e];exact⟨_,hJ.mv.out,⟨vT,vG,vS,p.mv.out hJ.mv Z,t.mv.out hJ.mv Z,R.mv.out hJ.mv Z,f.mv.out hJ.mv Z⟩,Z⟩
 obtain⟨k,b1⟩:=Aaa.1 (show(OH S.sessions o.id).isSome=true by simpa using e9);have l0:mz S.sessions o.id=k:=Nv (cU j3 o.id) (cV o.id) b1;obtain⟨hk,n6,_⟩:=zJ.1 b1;rw[l0];obtain⟨g,cp,rfl,n8,n7⟩:=((((f.mv a8).mv a6).mv a1).mv U).BW oo;have hx:(S.sessions[k]?).getD ⟨0,[]⟩=S.sessions[k]:=by rw[aa hk];rfl
 have o1:=(h4 _ (oy hk)).2;obtain⟨e4,_⟩:=BP (((((f.mv a8).mv a6).mv a1).mv U).ri oo h4) hk dd;have c5:=e4.at_ (i:=1) Z;have h2:=c5;have k5:=c5;have j0:=c5;have h7:=c5;clear e4;refine Aj<|Ab<|cg<|zm Z<|vq (Ae Z)<|vq (Aa Iz Z)<|vq (Ah Ou Z p.mv.Ap Z)<|zm Z<|vq (Bj Lf f.mv Z Z oo oo) ?_;refine za Z<|Ac<|Ab<|Ab<|cg<|vq (Aa Gs Z)<|vq (Ah Au Z a7.mv.Ap Z)<|Ac<|WC.mono (N:=(fun e w'=>∃(c':Nat→Nat) (c3:Value) (b0:List DE),Sub [(4000000, .tuple #[]),(0, .pointer (some ⟨b,0,none⟩)),(3, .pointer (some ⟨b3,0,none⟩)),(4, .pointer (some ⟨b4,0,none⟩)),(6,I k),(8, .pointer (some (Bh (.slice (some ⟨g,0,none⟩) S.sessions.length cp) 2 (k:Int).toNat)))] e∧AZ c w Gk c' w'∧Ar c' w' 70 b [c3,vG, .slice (some ⟨g,0,none⟩) S.sessions.length cp,I S.next] 71∧Ao c' w' 71 112 3 c3 b0.length (b0.flatMap CP)∧Ao c' w' 72 115 2 vG S.tags.length (S.tags.flatMap Is)∧Ao c' w' 73 118 2 (.slice (some ⟨g,0,none⟩) S.sessions.length cp) S.sessions.length (S.sessions.flatMap Fw)∧Ar c' w' 103 b3 (FB o) 40∧Ar c' w' 104 b4 [I 0,St [],I 0] 42∧((o.kind=3∧AV S.sessions[k].text=o.Ak∧HZ S.things ⟨o.Ak,S.sessions[k].text,false⟩=some b0)∨(o.kind≠2∧o.kind≠3∧b0=S.things)))) ?_ ?_
 ·refine Ai<|Ab<|cg<|vq (AU Z Z)<|za Z<|Ac ?_;refine AS Z (fun c6=>?_) fun c6=>?_
  ·refine Ab<|Ab ?_;refine AY e7 [] [0,0,0,1,0,0,1,0,0,0] [0,1,2,3,4,5,6,7,8,9] fun q4 c9 C=>?_;have c4:=p;have b9:=a7;have e1:=r;have h6:=h2;refine AK Z Z<|vd Z (fun _=>Ae Z) ?_
   first|refine vd Z (fun _=>Aa Er Z) ?_|refine vd Z (fun _=>AR Er Z) ?_
   refine vc Z C.kp (c5.mv.ke BK Z)<|vd Z (fun _=>Bp.BY gx Z)<|vd Z (fun _=>Aa Rz Z)<|vc Z C.kp (b9.mv.kb BK Z Z)<|vd Z (fun _=>Bp.BY gx Z)<|vd Z (fun _=>AH Z Z Ad Ad)<|vd Z (fun _=>BZ Z Z) ?_;refine WD.nil ?_;clear c4 b9 e1 h6;clear C;refine AS Z (fun k6=>?_) fun k6=>?_
   ·refine Ab<|cg<|vq (AB (cells:=#[.int .i64 0, .string ⟨[].toArray⟩, .int .i64 0]) Z kr) ?_;refine WR.AI (Am BH Z Z r.mv Z Z AG) ?_;rintro _ q5 ⟨r,n5⟩;refine za Z<|Ac<|DR Z (Br BH Z r.Ap Z) (Cp.tmp Z) ?_;have e:HC S o=bad S 2:=by rw[HC,b1];dsimp only;rw[hx,if_pos c6,if_pos oo]
    rw[e];exact⟨_,hJ.mv.out,⟨vT,vG,_,p.mv.out hJ.mv Z,t.mv.out hJ.mv Z,R.mv.out hJ.mv Z,f.mv.out hJ.mv Z⟩,Z⟩
   refine Aj<|Ab<|AY e7 [] [0,0,0,1,0,1,0,0,0,3] [0,1,2,3,4,5,6,7,8,9] fun l5 e0 C=>?_;refine AK Z Z<|vd Z (fun _=>Ae Z) ?_
   first|refine vd Z (fun _=>Aa Er Z) ?_|refine vd Z (fun _=>AR Er Z) ?_
   refine vc Z C.kp (h2.mv.ke BK Z)<|vd Z (fun _=>Aa Rz Z)<|vc Z C.kp (a7.mv.kb BK Z Z)<|vd Z (fun _=>dU Z Z Ad)<|vd Z (fun _=>Ae Z) ?_
   first|refine vd Z (fun _=>Aa Er Z) ?_|refine vd Z (fun _=>AR Er Z) ?_
   have j8:(⟨g,k*2+1,none⟩:Addr)=(Bh (.slice (some ⟨g,0,none⟩) S.sessions.length cp) 2 (k:Int).toNat).add 1:=by simp[Bh,add_lit]
   refine WD.wild Z Z Z (Gt (j:=k*2+1) (x:= .tmp 53) (y:= .tmp 51) (u:=St (S.sessions[k].text++o.text)) BK f.mv Z oo (by rw[j8];rfl) Z Z Z) ?_;rintro _ j5 ⟨j7,b8,l1⟩;replace f:=l1;rw[Ub (x:=⟨S.sessions[k].id,S.sessions[k].text++o.text⟩) KE hk dd Z] at f;clear h2;refine WD.nil ?_;clear C;refine Ab ?_;have j2:(S.sessions.set k ⟨S.sessions[k].id,S.sessions[k].text++o.text⟩).length=S.sessions.length:=zF;have k3:=Ao.Ez (n':=2) (enc:=Fw) (ok:=fun _=>True) (h0:=KE) (h1:=SI) (l:=S.sessions.set k ⟨S.sessions[k].id,S.sessions[k].text++o.text⟩) (by rw[j2];exact f) oo (fun _ _=>trivial);obtain⟨h3,_⟩:=BP k3 (k:=k) oo dd;rw[List.getElem_set_self] at h3;replace h3:=h3.at_ (i:=1) Z;refine cg<|zm Z<|vq (Ae Z) ?_
   first|refine vq (Aa Er Z) ?_|refine vq (AR Er Z) ?_
   refine vq (Bl BK Z h3.CY)<|vq (Bp.BY Tryz.underlying9 Z)<|vq (AB (cells:=#[I ((S.sessions[k].text++o.text).length:Nat),St [],I 0]) Z kr) ?_;refine WR.AI (Am BH Z Z r.mv Z Z AG) ?_;replace hJ:=((((((hJ.mv a8).mv a6).mv a1).mv U).mv c9).mv e0).mv b8;replace p:=((((((p.mv a8).mv a6).mv a1).mv U).mv c9).mv e0).mv b8;replace t:=((((((t.mv a8).mv a6).mv a1).mv U).mv c9).mv e0).mv b8;replace R:=((((((R.mv a8).mv a6).mv a1).mv U).mv c9).mv e0).mv b8;replace a7:=(((((a7.mv a6).mv a1).mv U).mv c9).mv e0).mv b8;rintro _ j5 ⟨r,b8⟩;refine za Z<|Ac<|DR Z (Br BH Z r.Ap Z) (Cp.tmp Z) ?_;have e:HC S o=({S with sessions:=S.sessions.set k ⟨S.sessions[k].id,S.sessions[k].text++o.text⟩},⟨((S.sessions[k].text++o.text).length:Nat),[],0⟩):=by rw[HC,b1];dsimp only;rw[hx,if_pos c6,if_neg oo]
   rw[e];exact⟨_,hJ.mv.out,⟨vT,vG,_,p.mv.out hJ.mv Z,t.mv.out hJ.mv Z,R.mv.out hJ.mv Z,by dsimp only;rw[j2];exact(f.mv b8).out (hJ.mv b8) Z⟩,Z⟩
  refine Ab<|cg<|vq (AU Z Z)<|za Z<|Ac<|AS Z (fun e2=>?_) fun e2=>?_
  ·refine Ab<|Ab ?_;refine AY e7 [] [0,0,0,1,2,0,1,0] [0,1,2,3,5,6,4,7] fun p2 b6 C=>?_;have c4:=p;have b9:=a7;have e1:=r;have k4:=c5;have h6:=h2;have h9:=k5;have k7:=j0;have k8:=h7;refine AK Z Z<|vd Z (fun _=>Ae Z) ?_
   first|refine vd Z (fun _=>Aa Er Z) ?_|refine vd Z (fun _=>AR Er Z) ?_
   refine vc Z C.kp (h9.mv.ke BK Z)<|vd Z (fun _=>Aa Ky Z)<|vc Z C.kp (b9.mv.kb BK Z Z)<|WD.AW Z Z Z (Al e7 1 (Ay.call sJ Z (pO S.sessions[k].text oo))) Z ?_;rintro p0 p3 ⟨j6,b2,n9,rfl⟩;refine C.AX b2 fun C=>vd Z (fun _=>lG Z Z)<|WD.nil ?_;clear c4 b9 e1 k4 h6 h9 k7 k8;clear C;refine AS Z (fun e8=>?_) fun e8=>?_
   ·refine Ab<|cg<|vq (AB (cells:=#[.int .i64 0, .string ⟨[].toArray⟩, .int .i64 0]) Z kr) ?_;refine WR.AI (Am BH Z Z r.mv Z Z AG) ?_;rintro _ p4 ⟨r,n0⟩;refine za Z<|Ac<|DR Z (Br BH Z r.Ap Z) (Cp.tmp Z) ?_;have e:HC S o=bad S 7:=by rw[HC,b1];dsimp only;rw[hx,if_neg c6,if_pos e2,if_neg (by intro e;rw[e] at e8;simp at e8)]
    rw[e];exact⟨_,hJ.mv.out,⟨vT,vG,_,p.mv.out hJ.mv Z,t.mv.out hJ.mv Z,R.mv.out hJ.mv Z,f.mv.out hJ.mv Z⟩,Z⟩
   have j1:AV S.sessions[k].text=o.Ak:=by simpa using e8
   refine Aj<|Ab<|AY j6 [70,71] [0,0,1,0,0,0,1,0,2,0] [0,1,2,3,4,5,6,7,8,9] fun p5 b7 C=>?_;refine AK Z Z<|vd Z (fun _=>Aa Ky Z)<|vc Z C.kp (a7.mv.kb BK Z Z)<|AK Z Z<|vd Z (fun _=>Ae Z) ?_
   first|refine vd Z (fun _=>Aa Er Z) ?_|refine vd Z (fun _=>AR Er Z) ?_
   refine vc Z C.kp (j0.mv.ke BK Z)<|vd Z (fun _=>AB (cells:=#[St o.Ak,St S.sessions[k].text, .bool false]) Z kr) ?_;refine WD.AW Z Z Z (Ay.call xR Z (iK (x:=⟨o.Ak,S.sessions[k].text,false⟩) p.mv t.mv l2 oo l6)) Z ?_;rintro p1 p6 ⟨l7,b5,⟨j4,rfl,p,t⟩⟩;refine C.AX b5 fun C=>Ga Z Z<|WD.nil ?_;clear C;refine Ab<|cg<|zm Z<|vq (Bm Z Z)<|Ac<|AS Z (fun e3=>?_) fun e3=>?_
   ·refine Ab<|cg<|vq (AB (cells:=#[.int .i64 0, .string ⟨[].toArray⟩, .int .i64 0]) Z kr)<|zm Z ?_;refine WR.AI (Am BH Z Z r.mv Z Z AG) ?_;rintro _ p7 ⟨r,c8⟩;refine za Z<|Ac<|DR Z (Br BH Z r.Ap Z) (Cp.tmp Z) ?_;replace hJ:=((((((((hJ.mv a8).mv a6).mv a1).mv U).mv b6).mv b2).mv b7).mv b5).mv c8;replace R:=((((((((R.mv a8).mv a6).mv a1).mv U).mv b6).mv b2).mv b7).mv b5).mv c8;replace f:=((((((((f.mv a8).mv a6).mv a1).mv U).mv b6).mv b2).mv b7).mv b5).mv c8;replace p:=p.mv c8;replace t:=t.mv c8;cases c7:HZ S.things ⟨o.Ak,S.sessions[k].text,false⟩ with
    |some b0=>rw[c7] at e3;simp at e3
    |none=>
     rw[c7] at t;have e:HC S o=bad S 2:=by rw[HC,b1];dsimp only;rw[hx,if_neg c6,if_pos e2,if_pos j1,c7]
     rw[e];exact⟨_,hJ.out,⟨j4,vG,_,p.out hJ Z,t.out hJ Z,R.out hJ Z,f.out hJ Z⟩,Z⟩
   refine Aj ?_;replace hJ:=(((((((hJ.mv a8).mv a6).mv a1).mv U).mv b6).mv b2).mv b7).mv b5;replace R:=(((((((R.mv a8).mv a6).mv a1).mv U).mv b6).mv b2).mv b7).mv b5;replace f:=(((((((f.mv a8).mv a6).mv a1).mv U).mv b6).mv b2).mv b7).mv b5;replace a7:=((((((a7.mv a6).mv a1).mv U).mv b6).mv b2).mv b7).mv b5;replace r:=(((((r.mv a1).mv U).mv b6).mv b2).mv b7).mv b5;cases c7:HZ S.things ⟨o.Ak,S.sessions[k].text,false⟩ with
   |none=>rw[c7] at e3;simp at e3
   |some b0=>
    rw[c7] at t;exact⟨_,j4,b0,Aq,hJ,p,t,R,f,a7,r, .inl ⟨e2,j1,Z⟩⟩
  refine Aj ?_;exact⟨_,vT,S.things,Aq,hJ.mv,p.mv,t.mv,R.mv,f.mv,a7.mv,r.mv, .inr ⟨c6,e2,Z⟩⟩
 rintro k0 j5 ⟨j7,c3,b0,e5,hJ,p,t,R,f,a7,r,k9⟩;refine WC.sub e5 ?_;clear e5 k0;obtain⟨e4,_⟩:=BP (f.ri oo h4) hk dd;have h7:=e4.at_ (i:=1) rfl;clear e4;refine Ab<|cg<|za rfl<|Ac<|Ab<|Ab<|cg<|vq (Aa Gs rfl)<|vq (Ah Au rfl a7.Ap rfl)<|vq (AU rfl rfl)<|Ac<|WC.mono (N:=(fun e w'=>∃(c':Nat→Nat),Sub [(4000000, .tuple #[]),(0, .pointer (some ⟨b,0,none⟩)),(4, .pointer (some ⟨b4,0,none⟩)),(6,I k),(10,I (if o.kind=3 then(S.sessions[k].text.length:Int) else 0))] e∧AZ c w Gk c' w'∧Ar c' w' 70 b [c3,vG, .slice (some ⟨g,0,none⟩) S.sessions.length cp,I S.next] 71∧Ao c' w' 71 112 3 c3 b0.length (b0.flatMap CP)∧Ao c' w' 72 115 2 vG S.tags.length (S.tags.flatMap Is)∧Ao c' w' 73 118 2 (.slice (some ⟨g,0,none⟩) S.sessions.length cp) S.sessions.length (S.sessions.flatMap Fw)∧Ar c' w' 104 b4 [I 0,St [],I 0] 42)) ?_ ?_
 ·refine AS Z (fun h5=>?_) fun h5=>?_
  ·refine cg<|zm Z<|vq (Ae Z) ?_
   first|refine vq (Aa Er Z) ?_|refine vq (AR Er Z) ?_
   refine vq (Bl BK Z h7.CY)<|vq (Bp.BY gx Z)<|za Z<|Ac ?_;rw[yP h5];exact⟨_,Aq,hJ,p,t,R,f,r⟩
  refine Aj ?_;rw[yK h5];exact⟨_,Aq,hJ,p,t,R,f,r⟩
 rintro j9 l5 ⟨l9,e5,hJ,p,t,R,f,r⟩;refine WC.sub e5 ?_;clear e5 j9;have o4:=t.Av;refine Ab<|cg<|zm rfl<|zm rfl<|vq (Ae rfl)<|vq (Aa Iz rfl)<|vq (Ah Ou rfl p.Ap rfl)<|zm rfl<|zm rfl<|vq (AH rfl rfl Ad Ad) ?_;refine ve (Ay.call xS rfl (mD f hk oo)) ?_;rintro o8 p8 ⟨l8,n1,f⟩;have o2:=f.Aw;have o3:=f.Av;refine vq (Ae rfl)<|vq (Aa Iz rfl)<|WR.AI (AJ Ou rfl rfl ra ra p.mv rfl) ?_;rintro _ p9 ⟨p,n2⟩;refine Ac<|Ab<|cg<|zm rfl<|vq (AB (cells:=#[I (if o.kind=3 then(S.sessions[k].text.length:Int) else 0),St [],I 0]) rfl kr) ?_;refine WR.AI (Am BH rfl rfl r.mv rfl rfl AG) ?_;rintro _ q0 ⟨r,n3⟩;refine za rfl<|Ac<|DR rfl (Br BH rfl r.Ap rfl) (Cp.tmp rfl) ?_;rcases k9 with⟨e6,l4,h8⟩|⟨l3,e6,h8⟩
 ·have e:HC S o=({S with things:=b0,sessions:=S.sessions.eraseIdx k},⟨(S.sessions[k].text.length:Nat),[],0⟩):=by rw[HC,b1];dsimp only;rw[hx,if_neg oo,if_pos e6,if_pos l4,h8]
  rw[e,yP e6];exact⟨_,hJ.mv.out,⟨c3,vG,_,p.mv.out hJ.mv Z,t.mv.out hJ.mv Z,R.mv.out hJ.mv Z,f.mv.out hJ.mv Z⟩,Z⟩
 subst h8;have e:HC S o=({S with sessions:=S.sessions.eraseIdx k},⟨0,[],0⟩):=by rw[HC,b1];dsimp only;rw[hx,if_neg l3,if_neg e6]
 rw[e,yK e6];exact⟨_,hJ.mv.out,⟨c3,vG,_,p.mv.out hJ.mv Z,t.mv.out hJ.mv Z,R.mv.out hJ.mv Z,f.mv.out hJ.mv Z⟩,Z⟩
theorem eH{x:Tg}{o:Kf}{b:Nat}(j:FG w b (FB o) 40):Calls QP 76 #[.agg (Is x).toArray, .pointer (some ⟨b,0,none⟩)] w (AP fun v w'=>Below w.heap.size w w'∧v= .bool (x.Ak==o.Ak)):=by
 have i:Bz w w:=Bz.refl w;refine enter (n:=9) (res:=#[.tmp 3]) Tryz.func76 Z Z Z Z<|Ab<|cg<|ve (Ay.box Z) ?_;rintro _ w1 ⟨b2,rfl,g⟩;have f:=g.below;have l:=g.Ap;refine za Z<|Ac<|Ab<|cg<|vq (Aa hB Z)<|vq (Ah BK Z l Z)<|vq (Aa Ky Z)<|vq (Ah BK Z (j.up f) Z)<|vq (Xs Z Z)<|za Z<|Ac<|Az Z Z ?_;exact⟨(i.up f),Z⟩
theorem eI{b:Nat}{S:Hq}{o:Kf}(h:JM c w b S)(e4:KG S)(e3:SK o)(c7:Hc S.things):Calls QP 45 #[.pointer (some ⟨b,0,none⟩), .agg (FB o).toArray] w (AP fun v w'=>∃c',Mv c w c' w' Gk∧JM c' w' b (CC S o).1∧v=rf (CC S o).2):=by
 obtain⟨vT,vG,vS,j,g,p,R⟩:=h;obtain⟨a8,h2,o4,o5,o6,o7,o8⟩:=e4;obtain⟨⟨n7,n8,n9,o0⟩,o1,o2,o3⟩:=e3;have hJ:=AZ.start c w Gk;replace j:=j.Ca (J:=Gk) Z;replace g:=g.Ca (J:=Gk) Z;replace p:=p.Ca (J:=Gk) Z;replace R:=R.Ca (J:=Gk) Z;generalize AT c Gk=c0 at hJ j g p R;have k5:=g.Av;have k6:=p.Av;have k7:=R.Av;refine enter (n:=107) (res:=#[.cell 4 42, .tmp 5]) Tryz.func45 Z Z Z Z<|Ab<|cg<|Dz c0 103 fun w1 b3 c1 c9 r=>?_;refine Db c1 104 Ik fun w2 b4 c2 b7 f=>za Z<|Ac<|Ab<|AY c2 [] [0,0,0,1,0,1,2,0,0,0,0,0] [0,1,2,3,4,5,6,7,8,9,10,11] fun n0 b8 l=>?_;have b9:=j;have c3:=r;have e5:=f;refine AK Z Z<|vd Z (fun _=>Ae Z)<|vd Z (fun _=>Aa FQ Z)<|vc Z l.kp (b9.mv.kb Kb Z Z)<|vd Z (fun _=>Aa Ky Z)<|vc Z l.kp (c3.mv.kb BK Z Z)<|WD.AW Z Z Z (Al c2 1 (Ay.call qH Z (SG (g.mv.mG oo a8).now c7))) Z ?_;rintro k9 n1 ⟨b6,b2,k2,rfl⟩;refine l.AX b2 fun l=>AK Z Z<|vd Z (fun _=>Ag Z Z)<|vd Z (fun _=>Ag Z Z)<|Ga Z Z<|Ga Z Z<|WD.nil ?_;clear b9 c3 e5;clear l;refine Ab<|Ab<|cg<|zm Z<|vq (Bq Z)<|Ac<|AS Z (fun b1=>?_) fun b1=>?_
 ·refine Ab<|cg<|vq (AB (cells:=#[.int .i64 0, .string ⟨[].toArray⟩, .int .i64 0]) Z kr) ?_;refine WR.AI (Am BH Z Z f.mv Z Z AG) ?_;rintro _ n2 ⟨f,j1⟩;refine za Z<|Ac<|DR Z (Br BH Z f.Ap Z) (Cp.tmp Z) ?_;have e:CC S o=bad S 3:=by
   cases C:CR S.things o.Ak with
   |none=>rw[CC,C]
   |some k=>rw[C] at b1;simp at b1
  rw[e];exact⟨_,hJ.mv.out,⟨vT,vG,vS,j.mv.out hJ.mv Z,g.mv.out hJ.mv Z,p.mv.out hJ.mv Z,R.mv.out hJ.mv Z⟩,Z⟩
 obtain⟨k,C⟩:=Aaa.1 (show(CR S.things o.Ak).isSome=true by simpa using b1);have e7:=er c7 C;obtain⟨hk,j6⟩:=IR C;rw[e7];have hx:((S.things[k]?).map DE.text).getD []=S.things[k].text:=by rw[aa hk];rfl
 have h0:=(a8 _ (oy hk)).2;obtain⟨c4,_⟩:=BP (((((g.mv c9).mv b7).mv b8).mv b2).mG oo a8) hk dd;have c5:=c4.at_ (i:=1) Z;clear c4;refine Aj<|Ab<|cg<|zm Z<|vq (Ae Z)<|vq (Aa FQ Z)<|vq (Ah Kb Z j.mv.Ap Z)<|zm Z<|vq (Bj EI g.mv Z Z oo oo) ?_
 first|refine vq (Aa Lw Z) ?_|refine vq (AR Lw Z) ?_
 refine vq (Bl BK Z c5.CY)<|za Z ?_;clear c5;generalize k0:S.things[k].text=t at hx h0⊢;refine Ac<|Ab<|Ab<|cg<|vq (Aa Gs Z)<|vq (Ah Au Z r.mv.Ap Z)<|Ac<|Ai<|Ab<|cg<|vq (AU Z Z)<|za Z<|Ac<|AS Z (fun U=>?_) fun U=>?_
 ·refine Ab<|cg<|zm Z<|vq (AB (cells:=#[I 0,St t,I 0]) Z kr) ?_;refine WR.AI (Am BH Z Z f.mv Z Z AG) ?_;rintro _ n3 ⟨f,j2⟩;refine za Z<|Ac<|DR Z (Br BH Z f.Ap Z) (Cp.tmp Z) ?_;have e:CC S o=(S,⟨0,t,0⟩):=by rw[CC,C];dsimp only;rw[hx,if_pos U]
  rw[e];exact⟨_,hJ.mv.out,⟨vT,vG,vS,j.mv.out hJ.mv Z,g.mv.out hJ.mv Z,p.mv.out hJ.mv Z,R.mv.out hJ.mv Z⟩,Z⟩
 refine Ab<|cg<|vq (AU Z Z)<|za Z<|Ac<|AS Z (fun a1=>?_) fun a1=>?_
 ·refine Ab<|cg<|zm Z<|vq (Bp.BY Tryz.underlying9 Z)<|vq (AB (cells:=#[I (t.length:Nat),St [],I 0]) Z kr) ?_;refine WR.AI (Am BH Z Z f.mv Z Z AG) ?_;rintro _ n4 ⟨f,j3⟩;refine za Z<|Ac<|DR Z (Br BH Z f.Ap Z) (Cp.tmp Z) ?_;have e:CC S o=(S,⟨(t.length:Nat),[],0⟩):=by rw[CC,C];dsimp only;rw[hx,if_neg U,if_pos a1]
  rw[e];exact⟨_,hJ.mv.out,⟨vT,vG,vS,j.mv.out hJ.mv Z,g.mv.out hJ.mv Z,p.mv.out hJ.mv Z,R.mv.out hJ.mv Z⟩,Z⟩
 refine Ab<|cg<|vq (AU Z Z)<|za Z<|Ac<|AS Z (fun a7=>?_) fun a7=>?_
 ·refine Ab<|Ab<|cg<|vq (Aa Oa Z)<|vq (Ah Au Z r.mv.Ap Z)<|vq (AE Z Z)<|zm Z ?_;apply WR.CJ false 5 _ BT
  ·intro j9;refine wo<|vq (Aa Oa rfl)<|wo<|vq (Ah Au rfl r.mv.Ap rfl)<|wo<|zm rfl<|wo<|vq (Bp.BY gx rfl)<|wo<|vq (BZ rfl rfl) ?_;exact Dm 5
  refine zm Z ?_;apply WR.CJ false 3 _ BT
  ·intro j7;refine wo<|vq (Aa ck rfl)<|wo<|vq (Ah Au rfl r.mv.Ap rfl)<|wo<|vq (AE rfl rfl) ?_;exact Dm 3
  refine Ac<|AS Z (fun e6=>?_) fun e6=>?_
  ·refine Ab<|cg<|vq (AB (cells:=#[.int .i64 0, .string ⟨[].toArray⟩, .int .i64 0]) Z kr) ?_;refine WR.AI (Am BH Z Z f.mv Z Z AG) ?_;rintro _ n5 ⟨f,j4⟩;refine za Z<|Ac<|DR Z (Br BH Z f.Ap Z) (Cp.tmp Z) ?_;have e:CC S o=bad S 1:=by rw[CC,C];dsimp only;rw[hx,if_neg U,if_neg a1,if_pos a7,if_pos oo]
   rw[e];exact⟨_,hJ.mv.out,⟨vT,vG,vS,j.mv.out hJ.mv Z,g.mv.out hJ.mv Z,p.mv.out hJ.mv Z,R.mv.out hJ.mv Z⟩,Z⟩
  refine Aj<|Ab ?_;obtain⟨a6,c6⟩:∃a6:Int,a6=min o.m ((t.length:Int)-o.n):=⟨_,Z⟩;refine cg<|zm Z<|vq (Aa Oa Z)<|vq (Ah Au Z r.mv.Ap Z)<|vq (Aa Oa Z)<|vq (Ah Au Z r.mv.Ap Z)<|vq (Aa ck Z)<|vq (Ah Au Z r.mv.Ap Z)<|zm Z<|vq (Bp.BY Tryz.underlying9 Z)<|vq (Aa Oa Z)<|vq (Ah Au Z r.mv.Ap Z)<|vq (EX Z Z Ad Ad)<|vq (yk Z Z) ?_;rw[←c6];refine vq (AH Z Z Ad Ad)<|vq (Bp.sslice Tryz.underlying9 Z Z Z oo oo oo) ?_;rw[show(o.n+a6).toNat-o.n.toNat=a6.toNat by omega];refine vq (AB (cells:=#[I 0,St ((t.drop o.n.toNat).take a6.toNat),I 0]) Z kr) ?_;refine WR.AI (Am BH Z Z f.mv Z Z AG) ?_;rintro _ n6 ⟨f,j5⟩;refine za Z<|Ac<|DR Z (Br BH Z f.Ap Z) (Cp.tmp Z) ?_;have e:CC S o=(S,⟨0,(t.drop o.n.toNat).take a6.toNat,0⟩):=by rw[CC,C];dsimp only;rw[hx,if_neg U,if_neg a1,if_pos a7,if_neg oo,←c6]
  rw[e];exact⟨_,hJ.mv.out,⟨vT,vG,vS,j.mv.out hJ.mv Z,g.mv.out hJ.mv Z,p.mv.out hJ.mv Z,R.mv.out hJ.mv Z⟩,Z⟩
 refine Aj<|Ab<|cg<|vq (CI Z)<|za Z<|Ac<|Ab<|Ab ?_;have h1:=fun t ht=>(a8 t ht).2;refine AY b6 [] [0,0,0,1,0,2,0,0,0,0,1,0,1,2,0,0,0] [0,1,2,3,4,5,6,7,8,9,10,11,12,13,14,15,16] fun l2 e0 l=>AK Z Z<|vd Z (fun _=>Ae Z)<|vd Z (fun _=>Aa Wc Z)<|vc Z l.kp (j.mv.kb Uq Z Z)<|AK Z Z ?_;have e8:=fun(w':World) (x:Tg) (hk:Below _ _ w')=>eH (x:=x) (((((r.mv b7).mv b8).mv b2).mv e0).Ap.up hk);refine WD.AW Z Z Z (Al b6 1 (Ay.call xU Z (eB (p.mv.zg oo h2).now xT e8))) Z ?_;rintro l0 l3 ⟨b5,e1,k1,rfl⟩;refine l.AX e1 fun l=>AK Z Z ?_;apply WD.Ko b5 false 9 (decide (0<((Im S.things o.Ak).length:Int))) l.kp RH
 ·intro j8 c8;refine AK rfl rfl<|vd rfl (fun _=>Ae rfl)<|vd rfl (fun _=>Aa FQ rfl)<|vc rfl l.kp (j.mv.kb Kb rfl rfl)<|vd rfl (fun _=>Aa Ky rfl)<|vc rfl l.kp (r.mv.kb BK rfl rfl)<|WD.AW rfl rfl rfl (Al b5 60 (Ay.call xV rfl (iF (g.mv.mG oo a8).now h1 oo))) rfl ?_;rintro l1 l4 ⟨h3,e2,e9,hu⟩;refine l.AX e2 fun l=>?_;replace hu:=hu.Cl e9;refine vd rfl (fun _=>NX BE hu rfl)<|vd rfl (fun _=>BZ rfl rfl) ?_;exact WD.Kq 9 c8.mv (rfl)
 intro l5 h4 h6;refine WD.nil ?_;clear l;refine AS rfl (fun b0=>?_) fun b0=>?_
 ·refine Ab<|cg<|vq (AB (cells:=#[.int .i64 0, .string ⟨[].toArray⟩, .int .i64 0]) Z kr) ?_;refine WR.AI (Am BH Z Z f.mv Z Z AG) ?_;rintro _ l6 ⟨f,h7⟩;refine za Z<|Ac<|DR Z (Br BH Z f.Ap Z) (Cp.tmp Z) ?_;have e:CC S o=bad S 11:=by
   rw[CC,C];dsimp only;rw[if_neg U,if_neg a1,if_neg a7,if_pos];rcases b0 with h|h
   ·rw[h];rfl
   rw[zZ,yI];exact .inr oo
  rw[e];exact⟨_,hJ.mv.out,⟨vT,vG,vS,j.mv.out hJ.mv Z,g.mv.out hJ.mv Z,p.mv.out hJ.mv Z,R.mv.out hJ.mv Z⟩,Z⟩
 refine Aj<|Ab<|cg<|zm Z<|zm Z<|vq (Ae Z)<|vq (Aa FQ Z)<|vq (Ah Kb Z j.mv.Ap Z)<|zm Z<|zm Z<|vq (AH Z Z Ad Ad) ?_;refine ve (Ay.call xW Z (mC g.mv hk oo)) ?_;rintro k8 l7 ⟨h5,h8,g⟩;have k3:=g.Aw;have k4:=g.Av;refine vq (Ae Z)<|vq (Aa FQ Z)<|WR.AI (AJ Kb Z Z ra ra j.mv Z) ?_;rintro _ l8 ⟨j,h9⟩;refine Ac<|Ab<|cg<|vq (AB (cells:=#[.int .i64 0, .string ⟨[].toArray⟩, .int .i64 0]) Z kr) ?_;refine WR.AI (Am BH Z Z f.mv Z Z AG) ?_;rintro _ l9 ⟨f,j0⟩;refine za Z<|Ac<|DR Z (Br BH Z f.Ap Z) (Cp.tmp Z) ?_;have e:CC S o=({S with things:=S.things.eraseIdx k},⟨0,[],0⟩):=by
  rw[CC,C];dsimp only;rw[if_neg U,if_neg a1,if_neg a7,if_neg];rw[b0.1,decide_eq_false (by have:=b0.2;omega)];decide
 rw[e];exact⟨_,hJ.mv.out,⟨_,vG,vS,j.mv.out hJ.mv Z,g.mv.out hJ.mv Z,p.mv.out hJ.mv Z,R.mv.out hJ.mv Z⟩,Z⟩
end Go.Proofs.K
namespace Go.Eng
open Go Go.RowKit
theorem Ao.aD{c0 c:Nat→Nat}{w0 w:World}{J:List Nat}{i:Nat}{e:TypeId}{size n:Nat}{v:Value}{xs:List Value}(f:Ao c w i e size v n xs)(h:AZ c0 w0 J c w)(hi:(Nat.blt 0 i&& !AA J i)=true):Ao (back c0 w0 c) w i e size v n xs:=by
 rw[kg,zV] at hi;have j:0<i:=yV hi.1;refine⟨f.own,fun k hk=>?_⟩;have Mq:=f.Bf k hk;unfold back;split
 ·rename_i g;rw[h.Bf k g] at Mq;unfold AT at Mq;split at Mq
  ·rename_i hh;rw[Mq,hi.2] at hh;cases hh
  omega
 exact Mq
end Go.Eng
namespace Go.Proofs.K
open Go Go.Eng Go.RowKit Silo TryzT
theorem mL{vT vG vS:Value}{S:Hq}(h1:Rd HY w vT S.things)(i:Rd RJ w vG S.tags)(j:Rd SH w vS S.sessions)(b4:Dc vT)(b5:Dc vG)(b6:Dc vS)(a8:S.things.length≤1048576)(b0:S.tags.length≤1048576)(b3:S.sessions.length≤1048576):Calls QP 26 #[.agg #[vT,vG,vS,I S.next]] w (AP fun v w'=>∃c',Mv c w c' w' []∧∃J t C,v= .agg #[J,t,C,I S.next]∧Ao c' w' 71 112 3 J S.things.length (S.things.flatMap CP)∧Ao c' w' 72 115 2 t S.tags.length (S.tags.flatMap Is)∧Ao c' w' 73 118 2 C S.sessions.length (S.sessions.flatMap Fw)):=by
 have hJ:=AZ.start c w [];have e7:=h1.Av;have e8:=i.Av;have e9:=j.Av;replace h1:Bi HY (AT c []) w [0] vT S.things:=Rd.Cl h1 (fun k hk=>by simp[AT,AA]);replace i:Bi RJ (AT c []) w [0] vG S.tags:=Rd.Cl i (fun k hk=>by simp[AT,AA]);replace j:Bi SH (AT c []) w [0] vS S.sessions:=Rd.Cl j (fun k hk=>by simp[AT,AA]);generalize AT c []=c0 at hJ h1 i j;refine enter (n:=16) (res:=#[.cell 2 71]) Tryz.func26 Z Z Z Z<|Ab<|cg<|Dz c0 101 fun w1 b1 c1 c4 g=>?_;refine Db c1 102 hY fun w2 b2 c2 c6 r=>Ac<|Ab<|AY c2 [] [0,1,2,0,1,2,0,1,2,0,3,0,3,0,3] [0,1,3,4,6,7,2,9,5,8,10,11,12,13,14] fun h4 c7 f=>vd Z (fun _=>Aa FQ Z)<|vc Z f.kp (g.mv.kb Kb Z Z)<|vd Z (fun _=>Aa Wc Z)<|vc Z f.kp (g.mv.kb Uq Z Z)<|vd Z (fun _=>Aa Iz Z)<|vc Z f.kp (g.mv.kb Ou Z Z)<|WD.AW Z Z Z (Al c2 71 (Ay.call xC Z (ey h1.mv.now b4 a8))) Z ?_;rintro h0 h5 ⟨R,a1,b7,p⟩;refine f.AX a1 fun f=>?_;replace p:=p.Cl b7;have e1:=p.Aw;have e2:=p.Av;refine vd Z (fun _=>Aa FQ Z)<|WD.AW Z Z Z (Al R 72 (Ay.call sI Z (UJ i.mv.now b5 b0))) Z ?_;rintro h2 h6 ⟨U,a6,b8,l⟩;refine f.AX a6 fun f=>?_;replace l:=l.Cl b8;have e3:=l.Aw;have e4:=l.Av;refine WD.AW Z Z Z (Al U 73 (Ay.call xD Z (ez j.mv.now b6 b3))) Z ?_;rintro v11 h7 ⟨c3,a7,b9,o⟩;refine f.AX a7 fun f=>?_;replace o:=o.Cl b9;have e5:=o.Aw;have e6:=o.Av;refine WD.wild Z Z Z (AJ Kb Z Z ra ra g.mv Z) ?_;rintro _ h8 ⟨g,c8⟩;refine vd Z (fun _=>Aa Wc Z)<|WD.wild Z Z Z (AJ Uq Z Z ra ra g Z) ?_;rintro _ h9 ⟨g,c9⟩;refine vd Z (fun _=>Aa Iz Z)<|WD.wild Z Z Z (AJ Ou Z Z ra ra g Z) ?_;rintro _ j0 ⟨g,e0⟩;refine WD.nil ?_;clear f;refine Ab<|cg<|vq (AD MY Z g.Ap Z)<|WR.AI (Am MY Z Z r.mv Z Z AG) ?_;rintro _ h3 ⟨r,c5⟩;refine Ac<|Fz Z (Br MY Z r.Ap Z) ?_;exact⟨_,hJ.mv.out,_,_,_,Z,p.mv.aD hJ.mv Z,l.mv.aD hJ.mv Z,o.mv.aD hJ.mv Z⟩
theorem JM.mv{c c':Nat→Nat}{w w':World}{I:List Nat}{b:Nat}{S:Hq}(h:JM c w b S)(m:Mv c w c' w' I:=by exact Go.Eng.Jb)(hi:(!AA I 70&& !AA I 71&& !AA I 72&& !AA I 73)=true:=by rfl):JM c' w' b S:=by
 obtain⟨vT,vG,vS,a,t,g,s⟩:=h;simp only[kg,zV] at hi;exact⟨vT,vG,vS,a.mv m hi.1.1.1,t.mv m hi.1.1.2,g.mv m hi.1.2,s.mv m hi.2⟩
theorem JM.Ca{b:Nat}{S:Hq}(h:JM c w b S):JM (AT c Gk) w b S:=by
 obtain⟨vT,vG,vS,a,t,g,s⟩:=h;exact⟨vT,vG,vS,a.Ca Z,t.Ca Z,g.Ca Z,s.Ca Z⟩
theorem JM.out{c0 c:Nat→Nat}{w0 w:World}{b:Nat}{S:Hq}(h:JM c w b S)(hJ:AZ c0 w0 Gk c w):JM (back c0 w0 c) w b S:=by
 obtain⟨vT,vG,vS,a,t,g,s⟩:=h;exact⟨vT,vG,vS,a.out hJ Z,t.out hJ Z,g.out hJ Z,s.out hJ Z⟩
theorem iP{b:Nat}{S:Hq}{o:Kf}(h:JM c w b S)(a6:KG S)(b1:SK o)(b2:Hc S.things)(c4:SJ S.sessions)(e9:1≤o.kind∧o.kind≤6):Calls QP 27 #[.pointer (some ⟨b,0,none⟩), .agg (FB o).toArray] w (AP fun v w'=>∃c',Mv c w c' w' Gk∧JM c' w' b ((Jd S o).1)∧v= .tuple #[.agg (LQ (Jd S o).2).toArray,I (Jd S o).2.err, .bool true]):=by
 have hJ:=AZ.start c w Gk;replace h:=h.Ca;generalize AT c Gk=c0 at hJ h;refine enter (n:=69) (res:=#[.cell 4 42, .tmp 5, .tmp 6]) Tryz.func27 Z Z Z Z<|Ab<|cg<|Dz c0 103 fun w1 b3 c1 J g=>?_;refine Db c1 104 Ik fun w2 b4 c2 p f=>za Z<|za Z<|Ac<|Ab<|Ab<|cg<|vq (Aa Gs Z)<|vq (Ah Au Z g.mv.Ap Z)<|Ac<|WC.mono (N:=(fun e w'=>∃(c':Nat→Nat) (S':Hq) (r:ev),Sub [(4000000, .tuple #[]),(4, .pointer (some ⟨b4,0,none⟩)),(5,I r.err)] e∧AZ c w Gk c' w'∧JM c' w' b S'∧Ar c' w' 104 b4 (LQ (if r.err=0 then r else⟨0,[],0⟩)) 42∧Jd S o=(S',r)∧RE r∧my o=true)) ?_ ?_
 ·refine Ai<|Ab<|cg<|vq (AU Z Z)<|za Z<|Ac ?_;refine AS Z (fun a7=>?_) fun a7=>?_
  ·refine cg<|zm Z ?_;refine ve (Ay.call xE Z (eC h.mv a6)) ?_;rintro h1 h5 ⟨c7,e2,⟨h,rfl⟩⟩;refine zm Z<|vq (Ag Z Z)<|vq (Ag Z Z)<|WR.AI (Am BH Z Z f.mv Z Z AG) ?_;rintro _ h6 ⟨f,e3⟩;refine za Z<|Ac ?_;have e:Jd S o=FC S:=by rw[Jd,yP a7]
   exact⟨_,(FC S).1,(FC S).2,Aq,hJ.mv,h.mv,f,by rw[e],iL S,by rw[my,a7];rfl⟩
  refine Ab<|Ab<|cg<|vq (AU Z Z)<|za Z<|Ac ?_;refine WC.mono (N:=(fun e w'=>∃(c':Nat→Nat),Sub [(4000000, .tuple #[]),(0, .pointer (some ⟨b,0,none⟩)),(3, .pointer (some ⟨b3,0,none⟩)),(4, .pointer (some ⟨b4,0,none⟩)),(8,I o.kind),(17, .bool (decide (o.kind=2)||decide (o.kind=3)||decide (o.kind=13)))] e∧AZ c w Gk c' w'∧JM c' w' b S∧Ar c' w' 103 b3 (FB o) 40∧Ar c' w' 104 b4 [I 0,St [],I 0] 42)) ?_ ?_
  ·refine AS Z (fun a8=>?_) fun a8=>?_
   ·refine Aj ?_;have l:o.kind=2:=by assumption
    rw[show(decide (o.kind=2)||decide (o.kind=3)||decide (o.kind=13))=decide (o.kind=2) by simp[l]];exact⟨_,Aq,hJ.mv,h.mv,g.mv,f⟩
   refine Ab<|cg<|vq (AU Z Z)<|za Z<|Ac<|AS Z (fun c3=>?_) fun c3=>?_
   ·refine Aj ?_;have l:¬o.kind=2:=by assumption
    by_cases C:o.kind=3
    ·rw[show(decide (o.kind=2)||decide (o.kind=3)||decide (o.kind=13))=decide (o.kind=3) by simp[C]];replace hJ:=(hJ.mv J).mv p;replace h:=(h.mv J).mv p;replace g:=g.mv p
     first
      |exact absurd C (by assumption)
      |exact⟨_,Aq,hJ,h,g,f⟩
    rw[show(decide (o.kind=2)||decide (o.kind=3)||decide (o.kind=13))=decide (o.kind=13) by simp[l,C]];replace hJ:=(hJ.mv J).mv p;replace h:=(h.mv J).mv p;replace g:=g.mv p
    first
     |exact absurd (show o.kind=3 by assumption) C
     |exact⟨_,Aq,hJ,h,g,f⟩
   refine cg<|vq (AU Z Z)<|za Z<|Ac ?_;have l:¬o.kind=2:=by assumption
   by_cases C:o.kind=3
   ·rw[show(decide (o.kind=2)||decide (o.kind=3)||decide (o.kind=13))=decide (o.kind=3) by simp[C]];replace hJ:=(hJ.mv J).mv p;replace h:=(h.mv J).mv p;replace g:=g.mv p
    first
     |exact absurd C (by assumption)
     |exact⟨_,Aq,hJ,h,g,f⟩
   rw[show(decide (o.kind=2)||decide (o.kind=3)||decide (o.kind=13))=decide (o.kind=13) by simp[l,C]];replace hJ:=(hJ.mv J).mv p;replace h:=(h.mv J).mv p;replace g:=g.mv p
   first
    |exact absurd (show o.kind=3 by assumption) C
    |exact⟨_,Aq,hJ,h,g,f⟩
  rintro R b5 ⟨b0,t,hJ,h,g,f⟩;refine WC.sub t ?_;clear t R;refine AS rfl (fun a8=>?_) fun a8=>?_
  ·have hk:o.kind=2∨o.kind=3∨o.kind=13:=oo;refine cg<|zm Z<|vq (AD XI Z g.Ap Z)<|ve (Ay.call xF Z (aC h a6 b1 b2 c4)) ?_;rintro h2 h7 ⟨c8,e4,⟨h,rfl⟩⟩;refine zm Z<|vq (Ag Z Z)<|vq (Ag Z Z)<|WR.AI (Am BH Z Z f.mv Z Z AG) ?_;rintro _ h8 ⟨f,e5⟩;refine za Z<|Ac ?_;have e:Jd S o=HC S o:=by rw[Jd,yK oo,yP hk]
   exact⟨_,(HC S o).1,(HC S o).2,Aq,hJ.mv,h.mv,f,by rw[e],vI S o,by rw[my,kg,yI,yI];omega⟩
  refine Ab<|Ab<|cg<|vq (AU Z Z)<|za Z<|Ac ?_;refine WC.mono (N:=(fun e w'=>∃(c':Nat→Nat),Sub [(4000000, .tuple #[]),(0, .pointer (some ⟨b,0,none⟩)),(3, .pointer (some ⟨b3,0,none⟩)),(4, .pointer (some ⟨b4,0,none⟩)),(8,I o.kind),(27, .bool (decide (o.kind=4)||decide (o.kind=5)||decide (o.kind=6)||decide (o.kind=7)))] e∧AZ c w Gk c' w'∧JM c' w' b S∧Ar c' w' 103 b3 (FB o) 40∧Ar c' w' 104 b4 [I 0,St [],I 0] 42)) ?_ ?_
  ·refine AS Z (fun U=>?_) fun U=>?_
   ·refine Aj ?_;have l:o.kind=4:=by assumption
    rw[show(decide (o.kind=4)||decide (o.kind=5)||decide (o.kind=6)||decide (o.kind=7))=decide (o.kind=4) by simp[l]];exact⟨_,Aq,hJ,h,g,f⟩
   refine Ab<|cg<|vq (AU Z Z)<|za Z<|Ac<|AS Z (fun b7=>?_) fun b7=>?_
   ·refine Aj ?_;have l:¬o.kind=4:=by assumption
    by_cases i:o.kind=5
    ·rw[show(decide (o.kind=4)||decide (o.kind=5)||decide (o.kind=6)||decide (o.kind=7))=decide (o.kind=5) by simp[i]]
     first
      |exact absurd i (by assumption)
      |exact⟨_,Aq,hJ,h,g,f⟩
    by_cases j:o.kind=6
    ·rw[show(decide (o.kind=4)||decide (o.kind=5)||decide (o.kind=6)||decide (o.kind=7))=decide (o.kind=6) by simp[j]]
     first
      |exact absurd (show o.kind=5 by assumption) i
      |exact absurd j (by assumption)
      |exact⟨_,Aq,hJ,h,g,f⟩
    rw[show(decide (o.kind=4)||decide (o.kind=5)||decide (o.kind=6)||decide (o.kind=7))=decide (o.kind=7) by simp[l,i,j]]
    first
     |exact absurd (show o.kind=5 by assumption) i
     |exact absurd (show o.kind=6 by assumption) j
     |exact⟨_,Aq,hJ,h,g,f⟩
   refine Ab<|cg<|vq (AU Z Z)<|za Z<|Ac<|AS Z (fun b8=>?_) fun b8=>?_
   ·refine Aj ?_;have l:¬o.kind=4:=by assumption
    by_cases i:o.kind=5
    ·rw[show(decide (o.kind=4)||decide (o.kind=5)||decide (o.kind=6)||decide (o.kind=7))=decide (o.kind=5) by simp[i]]
     first
      |exact absurd i (by assumption)
      |exact⟨_,Aq,hJ,h,g,f⟩
    by_cases j:o.kind=6
    ·rw[show(decide (o.kind=4)||decide (o.kind=5)||decide (o.kind=6)||decide (o.kind=7))=decide (o.kind=6) by simp[j]]
     first
      |exact absurd (show o.kind=5 by assumption) i
      |exact absurd j (by assumption)
      |exact⟨_,Aq,hJ,h,g,f⟩
    rw[show(decide (o.kind=4)||decide (o.kind=5)||decide (o.kind=6)||decide (o.kind=7))=decide (o.kind=7) by simp[l,i,j]]
    first
     |exact absurd (show o.kind=5 by assumption) i
     |exact absurd (show o.kind=6 by assumption) j
     |exact⟨_,Aq,hJ,h,g,f⟩
   refine cg<|vq (AU Z Z)<|za Z<|Ac ?_;have l:¬o.kind=4:=by assumption
   by_cases i:o.kind=5
   ·rw[show(decide (o.kind=4)||decide (o.kind=5)||decide (o.kind=6)||decide (o.kind=7))=decide (o.kind=5) by simp[i]]
    first
     |exact absurd i (by assumption)
     |exact⟨_,Aq,hJ,h,g,f⟩
   by_cases j:o.kind=6
   ·rw[show(decide (o.kind=4)||decide (o.kind=5)||decide (o.kind=6)||decide (o.kind=7))=decide (o.kind=6) by simp[j]]
    first
     |exact absurd (show o.kind=5 by assumption) i
     |exact absurd j (by assumption)
     |exact⟨_,Aq,hJ,h,g,f⟩
   rw[show(decide (o.kind=4)||decide (o.kind=5)||decide (o.kind=6)||decide (o.kind=7))=decide (o.kind=7) by simp[l,i,j]]
   first
    |exact absurd (show o.kind=5 by assumption) i
    |exact absurd (show o.kind=6 by assumption) j
    |exact⟨_,Aq,hJ,h,g,f⟩
  rintro R b5 ⟨b0,t,hJ,h,g,f⟩;refine WC.sub t ?_;clear t R;refine Sb rfl (fun U=>?_) fun U=>?_
  ·have hk:4≤o.kind∧o.kind≤7:=oo;refine cg<|zm Z<|vq (AD XI Z g.Ap Z)<|ve (Ay.call xG Z (eI h a6 b1 b2)) ?_;rintro h3 h9 ⟨c9,e6,⟨h,rfl⟩⟩;refine zm Z<|vq (Ag Z Z)<|vq (Ag Z Z)<|WR.AI (Am BH Z Z f.mv Z Z AG) ?_;rintro _ j0 ⟨f,e7⟩;refine za Z<|Ac ?_;have e:Jd S o=CC S o:=by rw[Jd,yK oo,yK oo,yP hk]
   exact⟨_,(CC S o).1,(CC S o).2,Aq,hJ.mv,h.mv,f,by rw[e],iM S o,by rw[my,kg,yI,yI];omega⟩
  simp only[JV] at U;omega
 rintro b6 c6 ⟨e0,S',r,t,hJ,h,f,e,c5,h0⟩;refine WC.sub t ?_;clear t b6;refine Ab<|Ab<|cg<|zm rfl<|vq (Bm rfl rfl)<|Ac<|WC.mono (N:=(fun e w'=>∃(c':Nat→Nat),Sub [(4000000, .tuple #[]),(4, .pointer (some ⟨b4,0,none⟩)),(5,I r.err)] e∧AZ c w Gk c' w'∧JM c' w' b S'∧Ar c' w' 104 b4 (LQ r) 42)) ?_ ?_
 ·refine AS Z (fun b9=>?_) fun b9=>?_
  ·refine cg<|zm Z<|vq (AB (cells:=#[I 0,St [],I r.err]) Z kr) ?_;refine WR.AI (Am BH Z Z f Z Z AG) ?_;rintro _ c6 ⟨f,e8⟩;refine Ac ?_;have a1:r=⟨0,[],r.err⟩:=c5.resolve_left (by assumption);exact⟨_,Aq,hJ.mv,h.mv,by rw[a1];exact f⟩
  refine Aj ?_;have a1:r.err=0:=by assumption
  exact⟨_,Aq,hJ,h,by rw[yP a1] at f;exact f⟩
 rintro R b5 ⟨b0,t,hJ,h,f⟩;refine WC.sub t ?_;clear t R;refine Ab<|cg<|vq (AD BH rfl f.Ap rfl)<|zm rfl<|WR.AI (Am BH rfl rfl f rfl rfl AG) ?_;rintro _ h4 ⟨f,e1⟩;refine za rfl<|za rfl<|Ac<|MV rfl (Br BH rfl f.Ap rfl) (Cp.tmp rfl) (Cp.tmp rfl) ?_;rw[e];exact⟨_,hJ.mv.out,h.mv.out hJ.mv,rfl⟩
theorem UM(n:Int):Calls QP 172 #[I n] w (AP fun v w'=>Below w.heap.size w w'∧v= .bool (decide (0≤n)&&decide (n≤1073741824))):=by
 refine enter (n:=9) (res:=#[.tmp 2]) Tryz.func172 Z Z Z Z<|Ab<|cg<|za Z<|Ac<|Ab<|cg<|zm Z<|vq (Cu Z Z)<|zm Z ?_;apply WR.CJ true 2 _ BT
 ·intro f;refine wo<|zm rfl<|wo<|vq (FV rfl rfl) ?_;exact Dm 2
 refine za Z<|Ac<|Az Z Z ?_;exact⟨zy _ _,Z⟩
theorem HD(l:List UInt8)(hl:l.length≤7):
 Calls QP 198 #[St l] w (AP fun p w'=>Below w.heap.size w w'∧p= .int .u64 (DT l:Nat)):=by
 refine enter (n:=18) (res:=#[.tmp 2]) Tryz.func198 Z Z Z Z<|Ab<|cg<|za Z<|Ac<|Ab<|Ab<|cg<|zm Z<|vq (Bp.BY gx Z)<|zm Z<|Ac<|Ai<|WC.loop (σ:=Nat) (fun k=>[(0,St l),(5,I l.length),(6,I k),(2, .int .u64 (DT (l.take k):Nat))]) (fun k w'=>k≤l.length∧w'=w) (fun k=>l.length-k) 0 Aq ⟨by omega,Z⟩ ?_;rintro k r ⟨hk,rfl⟩;refine Ab<|cg<|vq (AE Z Z)<|Ac<|Ab<|AS Z (fun j=>?_) fun j=>?_
 ·have f:k<l.length:=oo;have o:=NY (l.take k);have g:DT (l.take k)<72057594037927936:=by
   rw[XD hk] at o;have:256^k≤256^7:=Ae4 dd oo;omega
  refine Aj<|Ab<|Ai<|Ab<|cg<|zm Z<|za Z<|Ac<|cg<|zm Z<|vq (Xu Z Z g)<|zm Z<|zm Z<|vq (Gy gx Z Z oo (aa f))<|vq (PH yR zL Z)<|vq (Uj Z Z g l[k].toNat_lt)<|za Z<|Ac ?_;refine cg<|vq (AH Z Z Ad Ad)<|zm Z<|Ac ?_;have i:DT (l.take (k+1))=DT (l.take k)*256+l[k].toNat:=by rw[yG f,Nn]
  refine⟨k+1,?_,⟨f,Z⟩,by omega⟩;rw[i]
  repeat (first|exact Sub.nil _|refine Sub.cons Z ?_|refine MS Z ?_)
 refine WC.exit Z<|Ab<|cg<|zm Z<|za Z<|Ac<|Az Z Z ?_;exact⟨zy _ _,by rw[yM oo]⟩
theorem eJ(k:Int):Calls QP 265 #[I k] w (AP fun v w'=>Below w.heap.size w w'∧v=St (FA k)):=by
 refine enter (n:=19) (res:=#[.tmp 2]) Tryz.func265 Z Z Z Z<|Ab<|cg<|za Z<|Ac<|Ab<|Ab<|cg<|zm Z<|Ac<|Ai<|Ab<|cg<|vq (AU Z Z)<|za Z<|Ac<|AS Z (fun o=>?_) fun o=>?_
 ·refine Ab<|cg<|za Z<|Ac ?_;refine Az Z Z ?_;exact⟨zy _ _,by subst o;rfl⟩
 refine Ab<|cg<|vq (AU Z Z)<|za Z<|Ac<|AS Z (fun p=>?_) fun p=>?_
 ·refine Ab<|cg<|za Z<|Ac ?_;refine Az Z Z ?_;exact⟨zy _ _,by subst p;rfl⟩
 refine Ab<|cg<|vq (AU Z Z)<|za Z<|Ac<|AS Z (fun r=>?_) fun r=>?_
 ·refine Ab<|cg<|za Z<|Ac ?_;refine Az Z Z ?_;exact⟨zy _ _,by subst r;rfl⟩
 refine Ab<|Ab<|cg<|vq (AU Z Z)<|za Z<|Ac<|AS Z (fun j=>?_) fun j=>?_
 ·refine Aj ?_;refine AS Z (fun j=>?_) fun j=>?_
  ·refine Ab<|cg<|za Z<|Ac ?_;refine Az Z Z ?_;exact⟨zy _ _,by first|(subst j;rfl)|(subst l;rfl)⟩
  refine Ab<|cg<|vq (AU Z Z)<|za Z<|Ac<|AS Z (fun f=>?_) fun f=>?_
  ·refine Ab<|cg<|za Z<|Ac ?_;refine Az Z Z ?_;exact⟨zy _ _,by first|(subst f;rfl)|(exfalso;omega)⟩
  refine Ab<|cg<|vq (AU Z Z)<|za Z<|Ac<|AS Z (fun g=>?_) fun g=>?_
  ·refine Ab<|cg<|za Z<|Ac ?_;refine Az Z Z ?_;exact⟨zy _ _,by first|(subst g;rfl)|(exfalso;omega)⟩
  refine Ab<|cg<|vq (AU Z Z)<|za Z<|Ac<|AS Z (fun i=>?_) fun i=>?_
  ·refine Ab<|cg<|za Z<|Ac ?_;refine Az Z Z ?_;exact⟨zy _ _,by first|(subst i;rfl)|(exfalso;omega)⟩
  refine Aj<|Ab<|cg<|za Z<|Ac<|Az Z Z ?_;exact⟨zy _ _,by first|(exfalso;omega)|simp[FA, *]⟩
 refine cg<|vq (AU Z Z)<|za Z<|Ac<|AS Z (fun l=>?_) fun l=>?_
 ·refine Ab<|cg<|za Z<|Ac ?_;refine Az Z Z ?_;exact⟨zy _ _,by first|(subst j;rfl)|(subst l;rfl)⟩
 refine Ab<|cg<|vq (AU Z Z)<|za Z<|Ac<|AS Z (fun f=>?_) fun f=>?_
 ·refine Ab<|cg<|za Z<|Ac ?_;refine Az Z Z ?_;exact⟨zy _ _,by first|(subst f;rfl)|(exfalso;omega)⟩
 refine Ab<|cg<|vq (AU Z Z)<|za Z<|Ac<|AS Z (fun g=>?_) fun g=>?_
 ·refine Ab<|cg<|za Z<|Ac ?_;refine Az Z Z ?_;exact⟨zy _ _,by first|(subst g;rfl)|(exfalso;omega)⟩
 refine Ab<|cg<|vq (AU Z Z)<|za Z<|Ac<|AS Z (fun i=>?_) fun i=>?_
 ·refine Ab<|cg<|za Z<|Ac ?_;refine Az Z Z ?_;exact⟨zy _ _,by first|(subst i;rfl)|(exfalso;omega)⟩
 refine Aj<|Ab<|cg<|za Z<|Ac<|Az Z Z ?_;exact⟨zy _ _,by first|(exfalso;omega)|simp[FA, *]⟩
theorem eK{k c:Int}{j:Nat}(h:∀x∈(FA k).take j,(x.toNat:Int)≠c)(f:(FA k).length≤j):hasB k c=false:=by
 rw[yM f] at h;simp only[hasB,Aas,yI];exact h
theorem eL{k c:Int}{j:Nat}(f:j<(FA k).length)(h:((FA k)[j].toNat:Int)=c):hasB k c=true:=by
 simp only[hasB,Kn,yI];exact⟨_,oy f,h⟩
theorem Wx{l:List UInt8}{c:Int}{j:Nat}(h:∀x∈l.take j,(x.toNat:Int)≠c)(f:j<l.length)(g:(l[j].toNat:Int)≠c):∀x∈l.take (j+1),(x.toNat:Int)≠c:=by
 rw[yG f];intro x hx;rcases zH.1 hx with hx|hx
 ·exact h x hx
 ·rw[yN.1 hx];exact g
theorem Hd(k c:Int):Calls QP 171 #[I k, .int .i32 c] w (AP fun v w'=>Below w.heap.size w w'∧v= .bool (hasB k c)):=by
 obtain⟨B,o⟩:∃B,B=w.heap.size:=⟨_,Z⟩;have g:Below B w w:=zy _ _;have f:B≤w.heap.size:=Ab8 o;rw[←o];refine enter (n:=16) (res:=#[.tmp 4]) Tryz.func171 Z Z Z Z<|Ab<|cg<|za Z<|Ac<|Ab<|Ab<|cg<|zm Z<|ve (Ay.call uu Z (eJ k)) ?_;rintro b0 w1 ⟨p,rfl⟩;replace g:=g.Ei (p.mono f);replace f:=zz f p.size;refine ve (gO gx Z) ?_;rintro _ w2 ⟨r,b,rfl,J,hit⟩;have a7:B≤b:=oo;clear J;replace g:=g.Ei (r.mono f);replace f:=zz f r.size;refine Ac<|Ai<|WC.loop (σ:=Nat) (fun j=>[(0,I k),(1, .int .i32 c),(9, .pointer (some ⟨b,0,none⟩))]) (fun j w'=>Iter w' b (FA k) j∧Below B w w'∧B≤w'.heap.size∧j≤(FA k).length∧∀x∈(FA k).take j,(x.toNat:Int)≠c) (fun j=>(FA k).length-j) 0 Aq ⟨hit,g,f,by omega,by simp⟩ ?_;rintro j a6 ⟨hit,g,f,a8,C⟩;refine Ab ?_;skip;refine cg<|ve (lI Z hit (TS k)) ?_;rintro _ a1 ⟨R,rfl,U⟩;have t:Below B a6 a1:=GU R f (by simp;omega);replace g:=g.Ei t;replace f:=zz f t.size;refine vq (qy Z)<|Ac<|Ab<|AS Z (fun i=>?_) fun i=>?_
 ·replace hit:=U i;refine Aj<|Ai<|Ab<|cg<|vq (sw Z i)<|za Z<|Ac<|Ab<|cg<|zm Z<|zm Z<|vq (AU Z Z)<|Ac<|AS Z (fun l=>?_) fun l=>?_
  ·refine Ab<|cg<|za Z<|Ac ?_;refine Az Z Z ?_;exact⟨g,by rw[eL i l]⟩
  refine Aj ?_;exact⟨j+1,Aq,⟨hit,g,f,i,Wx C i l⟩,by omega⟩
 refine WC.exit Z<|Ab<|cg<|za Z<|Ac<|Az Z Z ?_;exact⟨g,by rw[eK C oo]⟩
theorem iQ(n:Int):Calls QP 267 #[I n] w (AP fun v w'=>Below w.heap.size w w'∧v= .bool (!(decide (0≤n)&&decide (n≤1073741824)))):=by
 have f:Bz w w:=Bz.refl w;refine enter (n:=6) (res:=#[.tmp 2]) Tryz.func267 Z Z Z Z<|Ab<|cg<|za Z<|Ac<|Ab<|cg<|zm Z<|ve (Ay.call oZ Z (UM n)) ?_;rintro v4 w1 ⟨g,rfl⟩;refine vq (Bq Z)<|za Z<|Ac<|Az Z Z ?_;exact⟨(f.up g),Z⟩
theorem aE(p:Int×Int):Calls QP 268 #[.agg #[I p.1,I p.2]] w (AP fun v w'=>Below w.heap.size w w'∧v= .bool (IC p)):=by
 have i:Bz w w:=Bz.refl w;refine enter (n:=21) (res:=#[.tmp 2]) Tryz.func268 Z Z Z Z<|Ab<|cg<|ve (Ay.box Z) ?_;rintro _ w1 ⟨b1,rfl,g⟩;have j:=g.below;have f:=g.Ap;refine za Z<|Ac<|Ab<|cg<|vq (Aa CE Z)<|vq (Ah Au Z f Z)<|vq (AE Z Z)<|zm Z ?_;apply WR.CJ false 3 _ BT
 ·intro r;refine wo<|vq (Aa CE rfl)<|wo<|vq (Ah Au rfl f rfl)<|wo<|vq (Cu rfl rfl) ?_;exact Dm 3
 refine zm Z ?_;apply WR.CJ false 3 _ BT
 ·intro l;refine wo<|vq (Aa HV rfl)<|wo<|vq (Ah Au rfl f rfl)<|wo<|vq (AE rfl rfl) ?_;exact Dm 3
 refine zm Z ?_;apply WR.CJ false 3 _ BT
 ·intro o;refine wo<|vq (Aa HV rfl)<|wo<|vq (Ah Au rfl f rfl)<|wo<|vq (Cu rfl rfl) ?_;exact Dm 3
 refine za Z<|Ac<|Az Z Z ?_;exact⟨(i.up j),Z⟩
theorem Ys{α:Type}{q:α→Bool}{l:List α}{j:Nat}(h:∀x∈l.take j,q x=false)(f:j<l.length)(g:q l[j]=false):∀x∈l.take (j+1),q x=false:=by
 rw[yG f];intro x hx;rcases zH.1 hx with hx|hx
 ·exact h x hx
 ·rw[yN.1 hx];exact g
theorem any_none{α:Type}{q:α→Bool}{l:List α}{j:Nat}(h:∀x∈l.take j,q x=false)(f:l.length≤j):l.any q=false:=by
 rw[yM f] at h;simp only[Aas];intro x hx;rw[h x hx];decide
theorem Yt{w:World}{v:Value}{l:List Int}{f:FuncId}{q:Int→Bool}(h1:Rd Bw w v l)(C:Af QP f=true)(J:∀(w:World) (x:Int),Calls QP f #[I x] w (AP fun v w'=>Below w.heap.size w w'∧v= .bool (q x))):
 Calls QP 341 #[v, .func (.func f) #[] #[]] w (AP fun R w'=>Below w.heap.size w w'∧∃i:Int,R=I i∧decide (0≤i)=l.any q):=by
 have a1:=h1.small;have g:Bz w w:=Bz.refl w;refine enter (n:=19) (res:=#[.tmp 4]) Tryz.func341 Z Z Z Z<|Ab<|cg<|za Z<|Ac<|Ab<|Ab<|cg<|zm Z ?_
 first|refine vq (BN Bu (by assumption) Z) ?_|refine vq (CH zU Z) ?_
 refine zm Z<|Ac<|Ai<|WC.loop (σ:=Nat) (fun k=>[(0,v),(1, .func (.func f) #[] #[]),(7,I l.length),(8,I k)]) (fun k w'=>Rd Bw w' v l∧Bz w w'∧k≤l.length∧∀x∈l.take k,q x=false) (fun k=>l.length-k) 0 Aq ⟨h1,g,by omega,by simp⟩ ?_;rintro k a8 ⟨h1,g,hk,p⟩;refine Ab<|cg<|vq (AE Z Z)<|Ac<|Ab<|AS Z (fun t=>?_) fun t=>?_
 ·have ka:k<l.length:=oo;obtain⟨U,r,rfl,a6⟩:=h1.el ka;refine Aj<|Ab<|Ai<|Ab<|cg<|zm Z<|za Z<|Ac<|Ab<|cg<|zm Z<|zm Z<|zm Z<|vq (AF Bu (by assumption) Z Z Z Ad Ad)<|vq (Bl Au Z r) ?_;refine ve (Gg Z C Z (J _ _)) ?_;rintro _ a7 ⟨o,rfl⟩;refine Ac<|AS Z (fun j=>?_) fun j=>?_
  ·refine Ab<|cg<|zm Z<|za Z<|Ac ?_;refine Az Z Z ?_;exact⟨(g.up o),_,Z,by rw[Kn.2 ⟨_,oy ka,j⟩];simp⟩
  refine Aj<|cg<|vq (AH Z Z Ad Ad)<|zm Z<|Ac ?_;exact⟨k+1,Aq,⟨(h1.up o),(g.up o),ka,Ys p ka j⟩,by omega⟩
 refine WC.exit Z<|Ab<|cg<|za Z<|Ac<|Az Z Z ?_;exact⟨g,-1,Z,by rw[any_none p oo];decide⟩
theorem Wy{w:World}{v:Value}{l:List (Int×Int)}{f:FuncId}{q:Int×Int→Bool}(h1:Rd Bg w v l)(C:Af QP f=true)(J:∀(w:World) (x:Int×Int),Calls QP f #[.agg #[I x.1,I x.2]] w (AP fun v w'=>Below w.heap.size w w'∧v= .bool (q x))):
 Calls QP 307 #[v, .func (.func f) #[] #[]] w (AP fun R w'=>Below w.heap.size w w'∧∃i:Int,R=I i∧decide (0≤i)=l.any q):=by
 have a1:=h1.small;have g:Bz w w:=Bz.refl w;refine enter (n:=19) (res:=#[.tmp 4]) Tryz.func307 Z Z Z Z<|Ab<|cg<|za Z<|Ac<|Ab<|Ab<|cg<|zm Z ?_
 first|refine vq (BN CQ (by assumption) Z) ?_|refine vq (CH Aa3 Z) ?_
 refine zm Z<|Ac<|Ai<|WC.loop (σ:=Nat) (fun k=>[(0,v),(1, .func (.func f) #[] #[]),(7,I l.length),(8,I k)]) (fun k w'=>Rd Bg w' v l∧Bz w w'∧k≤l.length∧∀x∈l.take k,q x=false) (fun k=>l.length-k) 0 Aq ⟨h1,g,by omega,by simp⟩ ?_;rintro k a8 ⟨h1,g,hk,p⟩;refine Ab<|cg<|vq (AE Z Z)<|Ac<|Ab<|AS Z (fun t=>?_) fun t=>?_
 ·have ka:k<l.length:=oo;obtain⟨U,r,rfl,a6⟩:=h1.el ka;refine Aj<|Ab<|Ai<|Ab<|cg<|zm Z<|za Z<|Ac<|Ab<|cg<|zm Z<|zm Z<|zm Z<|vq (AF CQ (by assumption) Z Z Z Ad Ad)<|vq (Dg DK Z r Z) ?_;refine ve (Gg Z C Z (J _ _)) ?_;rintro _ a7 ⟨o,rfl⟩;refine Ac<|AS Z (fun j=>?_) fun j=>?_
  ·refine Ab<|cg<|zm Z<|za Z<|Ac ?_;refine Az Z Z ?_;exact⟨(g.up o),_,Z,by rw[Kn.2 ⟨_,oy ka,j⟩];simp⟩
  refine Aj<|cg<|vq (AH Z Z Ad Ad)<|zm Z<|Ac ?_;exact⟨k+1,Aq,⟨(h1.up o),(g.up o),ka,Ys p ka j⟩,by omega⟩
 refine WC.exit Z<|Ab<|cg<|za Z<|Ac<|Az Z Z ?_;exact⟨g,-1,Z,by rw[any_none p oo];decide⟩
theorem SN{w:World}{v:Value}{l:List Int}{f:FuncId}{q:Int→Bool}(h1:Rd Bw w v l)(j:Af QP f=true)(p:∀(w:World) (x:Int),Calls QP f #[I x] w (AP fun v w'=>Below w.heap.size w w'∧v= .bool (q x))):
 Calls QP 266 #[v, .func (.func f) #[] #[]] w (AP fun r w'=>Below w.heap.size w w'∧r= .bool (l.any q)):=by
 have g:Bz w w:=Bz.refl w;refine enter (n:=9) (res:=#[.tmp 4]) Tryz.func266 Z Z Z Z<|Ab<|cg<|za Z<|Ac<|Ab<|cg<|zm Z<|zm Z<|ve (Ay.call pG Z (Yt h1 j p)) ?_;rintro t w1 ⟨o,i,rfl,hi⟩;refine vq (Cu Z Z)<|za Z<|Ac<|Az Z Z ?_;exact⟨(g.up o),by rw[hi]⟩
theorem Ro{w:World}{v:Value}{l:List (Int×Int)}{f:FuncId}{q:Int×Int→Bool}(h1:Rd Bg w v l)(j:Af QP f=true)(p:∀(w:World) (x:Int×Int),Calls QP f #[.agg #[I x.1,I x.2]] w (AP fun v w'=>Below w.heap.size w w'∧v= .bool (q x))):
 Calls QP 210 #[v, .func (.func f) #[] #[]] w (AP fun r w'=>Below w.heap.size w w'∧r= .bool (l.any q)):=by
 have g:Bz w w:=Bz.refl w;refine enter (n:=9) (res:=#[.tmp 4]) Tryz.func210 Z Z Z Z<|Ab<|cg<|za Z<|Ac<|Ab<|cg<|zm Z<|zm Z<|ve (Ay.call pE Z (Wy h1 j p)) ?_;rintro t w1 ⟨o,i,rfl,hi⟩;refine vq (Cu Z Z)<|za Z<|Ac<|Az Z Z ?_;exact⟨(g.up o),by rw[hi]⟩
theorem mM{cs:List Value}{r:Rec}(h:Ur w cs r):Calls QP 173 #[.agg cs.toArray] w (AP fun v w'=>Below w.heap.size w w'∧v= .bool (SL r)):=by
 obtain⟨a6,vs,rfl,hl,hs,C⟩:=h;have j:Bz w w:=Bz.refl w;have R:=hl.Av;have U:=hs.Av;refine enter (n:=22) (res:=#[.tmp 2]) Tryz.func173 Z Z Z Z<|Ab<|cg<|ve (Ay.box Z) ?_;rintro _ w1 ⟨b1,rfl,l⟩;have i:=l.below;have f:=l.Ap;refine za Z<|Ac<|Ab<|Ab<|cg<|vq (Aa Fc Z)<|vq (Ah Au Z f Z)<|vq (AU Z Z)<|zm Z ?_;apply WR.CJ true 4 _ BT
 ·intro I;refine wo<|vq (Aa DG rfl)<|wo<|vq (Ah BL rfl f rfl)<|wo ?_
  first|refine vq (BN Bu (by assumption) Z) ?_|refine vq (CH zU Z) ?_
  refine wo<|vq (Bm Z Z) ?_;exact Dm 4
 refine Ac<|AS Z (fun g=>?_) fun g=>?_
 ·refine Ab<|cg<|za Z<|Ac ?_;refine Az Z Z ?_;exact⟨(j.up i),by simp[SL,g]⟩
 refine Aj<|Ab<|cg<|vq (Aa DG Z)<|vq (Ah BL Z f Z) ?_
 first|refine vq (BN Bu (by assumption) Z) ?_|refine vq (CH zU Z) ?_
 refine vq (FV Z Z)<|zm Z ?_;apply Ul true 4 (!(r.list.any fun n=> !Gl n)) BT
 ·intro J;have o:Bz w1 w1:=Bz.refl _;refine wo<|vq (Aa DG rfl)<|wo<|vq (Ah BL rfl f rfl)<|wo<|ve (Ay.call pA rfl (SN (hl.up i) uv (fun _ x↦iQ x))) ?_;rintro a1 w2 ⟨p,rfl⟩;refine wo<|vq (Bq rfl) ?_;exact WR.nil ⟨rfl,Sub.drop _ 4 _ rfl rfl,(o.up p)⟩
 intro a7 t;refine za rfl<|Ac<|Az rfl rfl ?_;exact⟨((j.up i).up t),by rw[SL,g];simp only[cond_true,Bool.not_false,Ael]⟩
theorem eM{v:Value}{l:List (Int×Int)}(h1:Rd Bg w v l):Calls QP 174 #[v] w (AP fun o w'=>Below w.heap.size w w'∧o= .bool (Mw l)):=by
 have f:Bz w w:=Bz.refl w;refine enter (n:=18) (res:=#[.tmp 2]) Tryz.func174 Z Z Z Z<|Ab<|cg<|za Z<|Ac<|Ab<|cg<|za Z<|Ac<|Ab<|cg<|zm Z ?_
 first|refine vq (BN CQ (by assumption) Z) ?_|refine vq (CH Aa3 Z) ?_
 refine vq (Cu Z Z)<|zm Z ?_;apply WR.CJ true 3 _ BT
 ·intro r;refine wo<|zm rfl<|wo ?_
  first|refine vq (BN CQ (by assumption) Z) ?_|refine vq (CH Aa3 Z) ?_
  refine wo<|vq (FV Z Z) ?_;exact Dm 3
 refine zm Z ?_;apply Ul true 4 (!(l.any IC)) BT
 ·intro p;have g:Bz w w:=Bz.refl _;refine wo<|zm rfl<|wo<|zm rfl<|wo<|ve (Ay.call hP rfl (Ro h1 uw (fun _ x↦aE x))) ?_;rintro t w1 ⟨i,rfl⟩;refine wo<|vq (Bq rfl) ?_;exact WR.nil ⟨rfl,Sub.drop _ 4 _ rfl rfl,(g.up i)⟩
 intro w2 j;refine za rfl<|Ac<|Az rfl rfl ?_;exact⟨(f.up j),rfl⟩
theorem iR{cs:List Value}{r:Rec}(h:Ur w cs r):Calls QP 96 #[.agg cs.toArray] w (AP fun v w'=>Below w.heap.size w w'∧v= .bool (JN r)):=by
 obtain⟨c1,vs,rfl,hl,hs,h7⟩:=h;have R:Bz w w:=Bz.refl w;have k3:=hl.Av;have k4:=hs.Av;refine enter (n:=108) (res:=#[.tmp 2]) Tryz.func96 Z Z Z Z<|Ab<|cg<|ve (Ay.box Z) ?_;rintro _ w1 ⟨b1,rfl,c0⟩;have t:=c0.below;have l:=c0.Ap;refine za Z<|Ac<|Ab<|cg<|vq (Aa Fc Z)<|vq (Ah Au Z l Z)<|za Z<|Ac<|Ab<|Ab<|cg<|zm Z<|vq (AE Z Z)<|zm Z ?_;apply WR.CJ false 2 _ BT
 ·intro k1;refine wo<|zm rfl<|wo<|vq (BZ rfl rfl) ?_;exact Dm 2
 refine Ac<|WC.cond Z (fun a6=>?_) fun a6=>?_
 ·refine Ab<|cg<|za Z<|Ac ?_;refine Az Z Z ?_;have e:Mu r=true:=a6;exact⟨(R.up t),by rw[My,e];rfl⟩
 refine Aj<|Ab<|Ab<|cg<|zm Z<|ve (Ay.call Jr Z (Hd r.kind 105)) ?_;rintro k6 w2 ⟨f,rfl⟩;refine zm Z ?_;apply Ul true 4 (!Gl r.id) BT
 ·intro k2;have h1:Bz w2 w2:=Bz.refl _;refine wo<|vq (Aa HU rfl)<|wo<|vq (Ah Au rfl (l.up f) rfl)<|wo<|ve (Ay.call oZ rfl (UM r.id)) ?_;rintro k7 n7 ⟨h6,rfl⟩;refine wo<|vq (Bq rfl) ?_;exact WR.nil ⟨rfl,Sub.drop _ 4 _ rfl rfl,(h1.up h6)⟩
 intro c8 g;refine zm rfl ?_;apply Ul false 14 (hasB r.kind 110&&(decide ((r.name.length:Int)<1)||decide (40<(r.name.length:Int)))) BT
 ·intro h9;have e5:Bz c8 c8:=Bz.refl _;refine wo<|zm rfl<|wo<|ve (Ay.call Jr rfl (Hd r.kind 110)) ?_;rintro k8 n8 ⟨b3,rfl⟩;refine wo<|zm rfl ?_;apply WR.CJ true 10 _ BT
  ·intro j5;refine wo<|vq (Aa Lx rfl)<|wo<|vq (Ah BK rfl (((l.up f).up g).up b3) rfl)<|wo<|vq (Bp.BY gx rfl)<|wo<|vq (AE rfl rfl)<|wo<|zm rfl ?_;apply WR.CJ false 4 _ BT
   ·intro j4;refine wo<|vq (Aa Lx rfl)<|wo<|vq (Ah BK rfl (((l.up f).up g).up b3) rfl)<|wo<|vq (Bp.BY gx rfl)<|wo<|vq (BZ rfl rfl) ?_;exact Dm 4
   exact Dm 6
  exact WR.nil ⟨Z,Sub.drop _ 4 _ Z Z,(e5.up b3)⟩
 intro c9 i;refine zm rfl ?_;apply Ul false 8 (hasB r.kind 100&& !decide ((r.Ak.length:Int)=32)) BT
 ·intro j0;have e7:Bz c9 c9:=Bz.refl _;refine wo<|zm rfl<|wo<|ve (Ay.call Jr rfl (Hd r.kind 100)) ?_;rintro k9 n9 ⟨b9,rfl⟩;refine wo<|zm rfl ?_;apply WR.CJ true 4 _ BT
  ·intro j7;refine wo<|vq (Aa JY rfl)<|wo<|vq (Ah BK rfl ((((l.up f).up g).up i).up b9) rfl)<|wo<|vq (Bp.BY gx rfl)<|wo<|vq (Bm rfl rfl) ?_;exact Dm 4
  exact WR.nil ⟨Z,Sub.drop _ 4 _ Z Z,(e7.up b9)⟩
 intro o0 j;refine Ac<|WC.cond rfl (fun a7=>?_) fun a7=>?_
 ·refine Ab<|cg<|za Z<|Ac ?_;refine Az Z Z ?_;have e:OK r=true:=a7;exact⟨(((((R.up t).up f).up g).up i).up j),by rw[My,e];simp⟩
 refine Aj<|Ab<|Ab<|cg<|zm Z<|ve (Ay.call Jr Z (Hd r.kind 108)) ?_;rintro l0 e0 ⟨o,rfl⟩;refine zm Z ?_;apply Ul true 3 (!SL r) BT
 ·intro j1;have h0:Bz e0 e0:=Bz.refl _;refine wo<|vq (AD Fs rfl (((((l.up f).up g).up i).up j).up o) rfl)<|wo<|ve (Ay.call tD rfl (mM (r:=r) (cs:=[I r.kind,I r.id,St r.name,St r.Ak,c1,vs]) ⟨c1,vs,rfl,((((((hl.up t).up f).up g).up i).up j).up o),((((((hs.up t).up f).up g).up i).up j).up o),h7⟩)) ?_;rintro l1 l8 ⟨h2,rfl⟩;refine wo<|vq (Bq rfl) ?_;exact WR.nil ⟨rfl,Sub.drop _ 3 _ rfl rfl,(h0.up h2)⟩
 intro c2 p;refine zm rfl ?_;apply Ul false 8 (hasB r.kind 115&& !Mw r.CF) BT
 ·intro j3;have e4:Bz c2 c2:=Bz.refl _;refine wo<|zm rfl<|wo<|ve (Ay.call Jr rfl (Hd r.kind 115)) ?_;rintro l2 c3 ⟨b0,rfl⟩;refine wo<|zm rfl ?_;apply Ul true 4 (!Mw r.CF) BT
  ·intro h8;have a1:Bz c3 c3:=Bz.refl _;refine wo<|vq (Aa GY rfl)<|wo<|vq (Ah BV rfl (((((((l.up f).up g).up i).up j).up o).up p).up b0) rfl)<|wo<|ve (Ay.call tE rfl (eM ((((((((hs.up t).up f).up g).up i).up j).up o).up p).up b0))) ?_;rintro l3 l9 ⟨h3,rfl⟩;refine wo<|vq (Bq rfl) ?_;exact WR.nil ⟨rfl,Sub.drop _ 4 _ rfl rfl,(a1.up h3)⟩
  intro n0 h4;exact WR.nil ⟨rfl,Sub.drop _ 4 _ rfl rfl,((e4.up b0).up h4)⟩
 intro n1 C;refine Ac<|WC.cond rfl (fun a8=>?_) fun a8=>?_
 ·refine Ab<|cg<|za Z<|Ac ?_;refine Az Z Z ?_;have e:OL r=true:=a8;exact⟨((((((((R.up t).up f).up g).up i).up j).up o).up p).up C),by rw[My,e];simp⟩
 refine Aj<|Ab<|cg<|zm Z<|ve (Ay.call Jr Z (Hd r.kind 105)) ?_;rintro l4 c4 ⟨J,rfl⟩;refine zm Z ?_;apply WR.CJ false 3 _ BT
 ·intro j1;refine wo<|vq (Aa HU rfl)<|wo<|vq (Ah Au rfl ((((((((l.up f).up g).up i).up j).up o).up p).up C).up J) rfl)<|wo<|vq (AU rfl rfl) ?_;exact Dm 3
 refine zm Z ?_;apply Ul true 7 (hasB r.kind 110||(r.name==[])) BT
 ·intro h8;have a1:Bz c4 c4:=Bz.refl _;refine wo<|zm rfl<|wo<|ve (Ay.call Jr rfl (Hd r.kind 110)) ?_;rintro l5 n2 ⟨b4,rfl⟩;refine wo<|zm rfl ?_;apply WR.CJ false 3 _ BT
  ·intro j2;refine wo<|vq (Aa Lx rfl)<|wo<|vq (Ah BK rfl (((((((((l.up f).up g).up i).up j).up o).up p).up C).up J).up b4) rfl)<|wo<|vq (Xs rfl rfl) ?_;exact Dm 3
  exact WR.nil ⟨Z,Sub.drop _ 4 _ Z Z,(a1.up b4)⟩
 intro c5 U;refine zm rfl ?_;apply Ul true 7 (hasB r.kind 100||(r.Ak==[])) BT
 ·intro j6;have e6:Bz c5 c5:=Bz.refl _;refine wo<|zm rfl<|wo<|ve (Ay.call Jr rfl (Hd r.kind 100)) ?_;rintro l6 n3 ⟨b5,rfl⟩;refine wo<|zm rfl ?_;apply WR.CJ false 3 _ BT
  ·intro h9;refine wo<|vq (Aa JY rfl)<|wo<|vq (Ah BK rfl ((((((((((l.up f).up g).up i).up j).up o).up p).up C).up J).up U).up b5) rfl)<|wo<|vq (Xs rfl rfl) ?_;exact Dm 3
  exact WR.nil ⟨Z,Sub.drop _ 4 _ Z Z,(e6.up b5)⟩
 intro c6 b2;refine zm rfl ?_;apply Ul true 8 (hasB r.kind 108||decide ((r.list.length:Int)=0)) BT
 ·intro j8;have e8:Bz c6 c6:=Bz.refl _;refine wo<|zm rfl<|wo<|ve (Ay.call Jr rfl (Hd r.kind 108)) ?_;rintro l7 n4 ⟨b6,rfl⟩;refine wo<|zm rfl ?_;apply WR.CJ false 4 _ BT
  ·intro j0;refine wo<|vq (Aa DG rfl)<|wo<|vq (Ah BL rfl (((((((((((l.up f).up g).up i).up j).up o).up p).up C).up J).up U).up b2).up b6) rfl)<|wo ?_
   first|refine vq (BN Bu (by assumption) Z) ?_|refine vq (CH zU Z) ?_
   refine wo<|vq (AU Z Z) ?_;exact Dm 4
  exact WR.nil ⟨Z,Sub.drop _ 4 _ Z Z,(e8.up b6)⟩
 intro c7 b7;refine zm rfl ?_;apply Ul true 8 (hasB r.kind 115||decide ((r.CF.length:Int)=0)) BT
 ·intro k0;have e9:Bz c7 c7:=Bz.refl _;refine wo<|zm rfl<|wo<|ve (Ay.call Jr rfl (Hd r.kind 115)) ?_;rintro k5 n5 ⟨b8,rfl⟩;refine wo<|zm rfl ?_;apply WR.CJ false 4 _ BT
  ·intro j9;refine wo<|vq (Aa GY rfl)<|wo<|vq (Ah BV rfl ((((((((((((l.up f).up g).up i).up j).up o).up p).up C).up J).up U).up b2).up b7).up b8) rfl)<|wo ?_
   first|refine vq (BN CQ (by assumption) Z) ?_|refine vq (CH Aa3 Z) ?_
   refine wo<|vq (AU Z Z) ?_;exact Dm 4
  exact WR.nil ⟨Z,Sub.drop _ 4 _ Z Z,(e9.up b8)⟩
 intro n6 h5;refine za rfl<|Ac<|Az rfl rfl ?_;have e1:Mu r=false:=a6;have e2:OK r=false:=a7;have e3:OL r=false:=a8;exact⟨(((((((((((((R.up t).up f).up g).up i).up j).up o).up p).up C).up J).up U).up b2).up b7).up h5),by rw[My,e1,e2,e3];rfl⟩
end Go.Proofs.K
namespace Go.Eng
open Go Go.RowKit Silo
abbrev Wz(n:Nat):Value:= .int .u64 (n:Int)
theorem PX{n:Nat}(h:n<18446744073709551616):IntKind.u64.wrap (n:Int)=n:=by
 simp[IntKind.wrap,IntKind.signed,IntKind.bits];omega
section
variable {P:Program} {env:Env} {w:World} {ty ty2 t:TypeId} {x y:Operand} {m n:Nat}
theorem mN(hx:Ba env x=some (Wz m))(hy:Ba env y=some (.int .u64 1))(f:m<18446744073709551616):Bp P env w (.binOp .and t x y ty2) ty (Wz (m%2)):=by
 have:=JU (P:=P) (w:=w) (ty:=ty) (t:=t) (ty2:=ty2) (op:= .and) (k:= .u64) hx hy (.inr (.inl ⟨Z,Z⟩));have e:((BitVec.ofInt IntKind.u64.bits (m:Int)&&& BitVec.ofInt IntKind.u64.bits 1).toNat)=m%2:=by
  rw[Ads,DY _ m (by exact f),show(BitVec.ofInt IntKind.u64.bits 1).toNat=1 from by decide,Afn]
 rw[e,PX oo] at this;exact this
theorem iS(hx:Ba env x=some (Wz m))(hy:Ba env y=some (Wz n))(f:m<18446744073709551616)(g:n<18446744073709551616):Bp P env w (.binOp .xor t x y ty2) ty (Wz (m^^^n)):=by
 have:=JU (P:=P) (w:=w) (ty:=ty) (t:=t) (ty2:=ty2) (op:= .xor) (k:= .u64) hx hy (.inr (.inr ⟨Z,Z⟩));have e:((BitVec.ofInt IntKind.u64.bits (m:Int)^^^BitVec.ofInt IntKind.u64.bits (n:Int)).toNat)=m^^^n:=by
  rw[Af4,DY _ m (by exact f),DY _ n (by exact g)]
 rw[e,PX (Aco (n:=64) f g)] at this;exact this
theorem cY(hx:Ba env x=some (Wz m))(hy:Ba env y=some (.int .u64 1)):Bp P env w (.binOp .shr t x y ty2) ty (Wz (m/2)):=by
 have:=Ir (P:=P) (w:=w) (ty:=ty) (t:=t) (ty2:=ty2) hx hy dd dd;have e:((m:Int)/2^(1:Int).toNat)=((m/2:Nat):Int):=by
  have f:(2:Int)^(1:Int).toNat=2:=by decide
  rw[f];omega
 rw[e] at this;exact this
theorem iT(hx:Ba env x=some (Wz m))(l:m<18446744073709551616):Bp P env w (.unOp .xor t x) ty (Wz (JA m)):=fun _ a o d pos p g=>by
 have f:(BitVec.ofInt 64 18446744073709551615^^^BitVec.ofInt 64 (m:Int)).toNat=JA m:=by
  have i:BitVec.ofInt 64 18446744073709551615=BitVec.allOnes 64:=by decide
  rw[i,BitVec.allOnes_xor,BitVec.toNat_not,DY 64 m (by exact l)];rfl
 have h:(Op.intBits .xor .u64 18446744073709551615 (m:Int):Sem Value)=pure (Wz (JA m)):=by
  have e:IntKind.u64.wrap ((BitVec.ofInt IntKind.u64.bits 18446744073709551615^^^BitVec.ofInt IntKind.u64.bits (m:Int)).toNat:Int)=JA m:=by
   have j:((BitVec.ofInt IntKind.u64.bits 18446744073709551615^^^BitVec.ofInt IntKind.u64.bits (m:Int)).toNat)=JA m:=f;rw[j,PX (Yr m)]
  simp only[Op.intBits];rw[e]
 simp only[execOp,o.eval hx,Op.unary];simp[IntKind.signed,IntKind.max,IntKind.bits,h]
end
end Go.Eng
namespace Go.Proofs.K
open Go Go.Eng Go.RowKit Silo TryzT
theorem aF{x:Nat}(hx:x<18446744073709551616):Calls QP 393 #[Wz x] w (AP fun v w'=>Below w.heap.size w w'∧v=Wz (eF x)):=by
 refine enter (n:=11) (res:=#[.tmp 2]) Tryz.func393 Z Z Z Z<|Ab<|cg<|za Z<|Ac<|Ab<|Ab<|cg<|zm Z<|vq (mN Z Z hx)<|vq (AU Z Z)<|Ac<|AS Z (fun g=>?_) fun g=>?_
 ·have f:x%2=1:=oo;refine Ab<|cg<|zm Z<|vq (cY Z Z)<|vq (iS (n:=14514072000185962306) Z Z oo dd)<|za Z<|Ac ?_;refine Az Z Z ?_;exact⟨zy _ _,by rw[eF,yP f]⟩
 refine Aj<|Ab<|cg<|zm Z<|vq (cY Z Z)<|za Z<|Ac<|Az Z Z ?_;exact⟨zy _ _,by rw[eF,yK oo]⟩
theorem iU{x:Nat}{s:List UInt8}(hx:x<18446744073709551616)(hs:s.length≤140737488355328):Calls QP 352 #[Wz x,St s] w (AP fun v w'=>Below w.heap.size w w'∧v=Wz (JA (Yq (JA x) s))):=by
 have f:Bz w w:=Bz.refl w;refine enter (n:=28) (res:=#[.tmp 4]) Tryz.func352 Z Z Z Z<|Ab<|cg<|za Z<|Ac<|Ab<|cg<|zm Z<|vq (iT Z hx)<|za Z<|Ac<|Ab<|Ab<|cg<|zm Z<|vq (Bp.BY gx Z)<|zm Z<|Ac<|Ai<|WC.loop (σ:=Nat) (fun k=>[(1,St s),(5,Wz (Yq (JA x) (s.take k))),(10,I s.length),(11,I k)]) (fun k w'=>Bz w w'∧k≤s.length) (fun k=>s.length-k) 0 Aq ⟨f,by omega⟩ ?_;clear f;rintro k R ⟨f,hk⟩;have hl:=cX (s.take k) (Yr x);refine Ab<|cg<|vq (AE Z Z)<|Ac<|Ab<|AS Z (fun g=>?_) fun g=>?_
 ·have ka:k<s.length:=oo;have ht:=eG (x:=JA x) ka;have t:=QT s[k] hl;refine Aj<|Ab<|Ai<|Ab<|cg<|zm Z<|za Z<|Ac<|Ab ?_;refine cg<|zm Z<|zm Z<|zm Z<|vq (Gy gx Z Z oo (show s[((k:Nat):Int).toNat]?=some s[k] by rw[pv];exact aa ka))<|vq (PH yR zL Z)<|vq (iS (n:=s[k].toNat) Z Z hl (by have:=s[k].toNat_lt;omega))<|za Z<|Ac ?_;refine Ab<|cg<|zm Z<|Ac<|Ai<|WC.loop (σ:=Nat) (fun j=>[(1,St s),(5,Wz (mH j (Yq (JA x) (s.take k)^^^s[k].toNat))),(10,I s.length),(11,I k),(20,I j)]) (fun j w'=>Bz w w'∧j≤8) (fun j=>8-j) 0 Aq ⟨f,by omega⟩ ?_;clear f;rintro j U ⟨f,C⟩;have o:=Ww j t;refine Ab<|cg<|vq (AE Z Z)<|Ac<|Ab<|AS Z (fun i=>?_) fun i=>?_
  ·refine Aj<|Ab<|Ai<|cg<|zm Z ?_;refine ve (Ay.call vt Z (aF o)) ?_;rintro J w1 ⟨p,rfl⟩;refine za Z<|Ac<|cg<|vq (AH Z Z Ad Ad)<|zm Z<|Ac ?_;exact⟨j+1,Aq,⟨(f.up p),by omega⟩,by omega⟩
  have l:j=8:=oo;subst l;refine WC.exit Z<|cg<|vq (AH Z Z Ad Ad)<|zm Z<|Ac ?_;refine⟨k+1,?_,⟨f,ka⟩,by omega⟩;rw[ht];exact Aq
 have r:k=s.length:=oo;subst r;rw[Ui] at hl⊢;refine WC.exit Z<|Ab<|cg<|zm Z<|vq (iT Z hl)<|za Z<|Ac<|Az Z Z ?_;exact⟨f,Z⟩
theorem WA{s:List UInt8}(hs:s.length≤140737488355328):Calls QP 291 #[St s] w (AP fun v w'=>Below w.heap.size w w'∧v=Wz (mI s)):=by
 have f:Bz w w:=Bz.refl w;refine enter (n:=5) (res:=#[.tmp 2]) Tryz.func291 Z Z Z Z<|Ab<|cg<|za Z<|Ac<|Ab<|cg<|zm Z<|ve (Ay.call vj Z (iU (x:=0) dd hs)) ?_;rintro v4 w1 ⟨g,rfl⟩;refine za Z<|Ac<|Az Z Z ?_;exact⟨(f.up g),Z⟩
end Go.Proofs.K
namespace Silo
def aG(x:Nat):Nat:=if 256≤2*x then(2*x)^^^285 else 2*x
def mulL:Nat→Nat→Nat→Nat→Nat
 |0,_,_,n=>n
 |f+1,b,x,n=>if b=0 then n else mulL f (b/2) (aG x) (if b%2=1 then n^^^x else n)
def vK(a b:Nat):Nat:=mulL 8 b a 0
def ML(a b:UInt8):UInt8:=UInt8.ofNat (vK a.toNat b.toNat)
theorem mO{x:Nat}(h:x<256):aG x<256:=by
 have:=(by decide:∀x:Fin 256,aG x.1<256) ⟨x,h⟩;exact this
theorem mP{x y:Nat}(h:x<256)(f:y<256):x^^^y<256:=Aco (n:=8) h f
theorem eN(f x n:Nat):mulL f 0 x n=n:=by cases f<;>simp[mulL]
def eO:Nat→Nat→UInt8→UInt8→UInt8
 |0,_,_,x=>x
 |f+1,n,a,x=>if n=0 then x else eO f (n/2) (ML a a) (if n%2=1 then ML x a else x)
theorem eP(f:Nat)(a x:UInt8):eO f 0 a x=x:=by cases f<;>simp[eO]
def SO(a:UInt8)(n:Nat):UInt8:=eO 8 n a 1
def iV(a:UInt8):UInt8:=SO a 254
def JB(b s:List UInt8)(c:UInt8):List UInt8:=if c=0 then b else List.zipWith (fun x y=>x^^^ML y c) b s
theorem PY{b s:List UInt8}{c:UInt8}(h:b.length≤s.length):(JB b s c).length=b.length:=by
 unfold JB;split<;>simp<;>omega
structure Mx where
 r:Nat
 c:Nat
 l:List UInt8
def Mx.row(m:Mx)(i:Nat):List UInt8:=(m.l.drop (i*m.c)).take m.c
def Mx.ok(m:Mx):Prop:=m.l.length=m.r*m.c
def Mx.put(m:Mx)(i:Nat)(x:List UInt8):Mx:={m with l:=m.l.take (i*m.c)++x++m.l.drop (i*m.c+x.length)}
def WB(r c:Nat):Mx:=⟨r,c,List.replicate (r*c) 0⟩
def FI(f:Nat→List UInt8):List UInt8→Nat→List UInt8→List UInt8
 |[],_,b=>b
 |c::r,k,b=>FI f r (k+1) (JB b (f k) c)
def Fo(a b:Mx):Nat→List UInt8
 |0=>[]
 |i+1=>Fo a b i++FI b.row (a.row i) 0 (List.replicate b.c 0)
def KH(a b:Mx):Mx:=⟨a.r,b.c,Fo a b a.r⟩
def Hr(m:Mx)(l:List Nat):Mx:=⟨l.length,m.c,l.flatMap m.row⟩
def Uc(n:Nat):Nat→List UInt8
 |0=>[]
 |i+1=>Uc n i++(List.replicate n 0).set i 1
def Rp(n:Nat):Mx:=⟨n,n,Uc n n⟩
def Nw(m:Mx)(l:List (List UInt8)):List (List UInt8):=
 (List.range m.r).map fun i=>FI (fun k=>l.getD k []) (m.row i) 0 (List.replicate (l.getD 0 []).length 0)
def Ia(m:Mx)(c:Nat):Nat→Nat→Option Nat
 |0,_=>none
 |f+1,i=>if(m.row i).getD c 0=0 then Ia m c f (i+1) else some i
def FJ(m:Mx)(i k:Nat):Mx:=if i=k then m else(m.put i (m.row k)).put k (m.row i)
def JO(m:Mx)(k:Nat)(o:UInt8):Mx:=m.put k ((m.row k).map fun x=>ML x o)
def elimM(c f:Nat):Nat→Mx×Mx→Mx×Mx
 |0,p=>p
 |k+1,p=>
  let q:=elimM c f k p
  if k≠f∧(q.1.row k).getD c 0≠0 then
   (q.1.put k (JB (q.1.row k) (q.1.row f) ((q.1.row k).getD c 0)),q.2.put k (JB (q.2.row k) (q.2.row f) ((q.1.row k).getD c 0)))
  else q
def ON(c f i:Nat)(p:Mx×Mx):Mx×Mx:=
 let q:=(FJ p.1 i f,FJ p.2 i f)
 let o:=iV ((q.1.row f).getD c 0)
 elimM c f p.1.r (JO q.1 f o,JO q.2 f o)
def Dj:Nat→Nat→Nat→Mx×Mx→Nat×(Mx×Mx)
 |0,_,g,p=>(g,p)
 |f+1,c,g,p=>
  match Ia p.1 c (p.1.r-g) g with
  |none=>Dj f (c+1) g p
  |some i=>Dj f (c+1) (g+1) (ON c g i p)
def Gv(m:Mx):Mx:=if(Dj m.c 0 0 (m,Rp m.r)).1<m.r then⟨0,0,[]⟩ else(Dj m.c 0 0 (m,Rp m.r)).2.2
def Gw(k:Nat):Nat→List UInt8
 |0=>[]
 |i+1=>Gw k i++(List.range k).map fun j=>SO (SO 2 i) j
def MM(k m:Nat):Mx:=
 let v:Mx:=⟨k+m,k,Gw k (k+m)⟩
 KH v (Gv (Hr v (List.range k)))
end Silo
namespace Silo
open Go Go.Eng
abbrev Tx:=List UInt8
def DC(n:Nat):Nat→Tx→List Tx
 |0,_=>[]
 |f+1,l=>if l=[] then[] else l.take n::DC n f (l.drop n)
theorem QU(n:Nat)(i:0<n):∀(f:Nat) (l:Tx),l.length≤f*n→(DC n f l).flatten=l
 |0,l,h=>by
  have:l=[]:=yJ oo;subst this;rfl
 |f+1,l,h=>by
  rw[DC];split
  ·rename_i g;rw[g];rfl
  ·rw[VM,QU n i f _ (by rw[lz,yS] at*;omega),zM]
theorem SP(n:Nat)(o:0<n):∀(f:Nat) (l:Tx),l.length=f*n→(DC n f l).length=f∧∀x∈DC n f l,x.length=n
 |0,l,h=>by simp[DC]
 |f+1,l,h=>by
  have h1:(f+1)*n=f*n+n:=by rw[yS,zS]
  have g:l≠[]:=by
   intro e;rw[e] at h;simp at h;omega
  obtain⟨i,j⟩:=SP n o f (l.drop n) (by rw[lz];omega);rw[DC,yK g];refine⟨by rw[yZ,i],fun x hx=>?_⟩;rcases zN.1 hx with rfl|hx
  ·rw[ly];omega
  exact j x hx
def Bn(n:Nat):Nat:=(15+n+8+64-1)/64
theorem PZ(n:Nat):n+23≤Bn n*64:=by unfold Bn;omega
theorem SQ(n:Nat):0<Bn n:=by unfold Bn;omega
structure TN where
 EM:Int
 index:Int
 gen:Int
 text:Tx
def Nf(s:TN):Tx:=[83,72,82,68]++be 4 s.EM++be 4 s.gen++[Iq s.index]++be 2 (s.text.length:Int)++s.text
theorem UN(s:TN):(Nf s).length=15+s.text.length:=by
 simp only[Nf,bU,Bc,yZ,Aa6]
def OO(s:TN):Tx:=Nf s++be 8 (mI (Nf s):Nat)
theorem UO(s:TN):(OO s).length=23+s.text.length:=by
 rw[OO,bU,UN,Bc];omega
def He(s:TN):Tx:=OO s++List.replicate (Bn s.text.length*64-(OO s).length) 0
theorem Qa(s:TN):(He s).length=Bn s.text.length*64:=by
 have:=PZ s.text.length;rw[He,bU,yX,UO];omega
def Ge(s:TN):List Tx:=DC 64 (Bn s.text.length) (He s)
theorem Yu(s:TN):(Ge s).flatten=He s:=QU 64 oo _ _ (Ab8 (Qa s))
theorem KI(s:TN):(Ge s).length=Bn s.text.length∧∀x∈Ge s,x.length=64:=SP 64 oo _ _ (Qa s)
def Li(s:TN):Bool:=(decide (0≤s.EM)&&decide (s.EM≤1073741824))&&(decide (0≤s.gen)&&decide (s.gen≤1073741824))&&(decide (0≤s.index)&&decide (s.index<14))&&(decide (1≤s.text.length)&&decide (s.text.length≤120))
def Ud(t:Tx)(n:Nat):TN:=⟨(DT ((t.drop 4).take 4):Nat),((t.getD 12 0).toNat:Nat),(DT ((t.drop 8).take 4):Nat),(t.drop 15).take n⟩
def Qb(t:Tx):Nat:=DT ((t.drop 13).take 2)
def GN(l:List Tx):Option TN:=
 if l=[]∨Bn 120<l.length∨(l.any fun t=> !decide (t.length=64))=true then none
 else if 120<Qb l.flatten∨Bn (Qb l.flatten)≠l.length then none
 else if Li (Ud l.flatten (Qb l.flatten))=true∧Ge (Ud l.flatten (Qb l.flatten))=l then some (Ud l.flatten (Qb l.flatten)) else none
def Gm(t:Tx):Bool:=t.all fun b=>b==0
def IS(l:List Tx)(EM gen index:Int):Int:=
 match GN l with
 |some s=>if s.EM=EM∧s.gen=gen∧s.index=index then 2 else if Gm l.flatten then 0 else 1
 |none=>if Gm l.flatten then 0 else 1
structure Cn where
 k:Nat
 m:Nat
 size:Nat
def Cn.ok(s:Cn):Prop:=1≤s.k∧s.k≤8∧s.m≤6∧1≤s.size∧s.size≤120
def BF(s:Cn)(n:Nat):Nat:=(n+s.k*s.size-1)/(s.k*s.size)
def GG(s:Cn)(t:Tx):List Tx:=DC (s.k*s.size) t.length t
def JP(s:Cn)(t:Tx):List Tx:=(List.range s.k).map fun i=>((t++List.replicate (s.k*s.size-t.length) 0).drop (i*s.size)).take s.size
def eQ(s:Cn)(l:List Tx):List Tx:=Nw (MM s.k s.m) l
def CS(k:Nat):Nat→List Bool→List Nat
 |_,[]=>[]
 |i,b::r=>if b=true∧0<k then i::CS (k-1) (i+1) r else CS k (i+1) r
def Qc(s:Cn)(l:List Tx)(f:List Bool):Option (List Tx):=
 if(CS s.k 0 f).length<s.k then none
 else some (Nw (KH (MM s.k s.m) (Gv (Hr (MM s.k s.m) (CS s.k 0 f)))) ((CS s.k 0 f).map fun i=>l.getD i []))
def QV(s:Cn)(l:List Tx)(n:Int):Option Tx:=
 if 1≤n∧n≤(s.k*s.size:Nat)∧Gm (l.flatten.drop n.toNat)=true then some (l.flatten.take n.toNat) else none
def plain(n:Nat):Int:=n
theorem cZ:∀(s:Nat) (n:Int),be (s+1) n=be s (n/256)++[Iq n]
 |0,n=>by simp[be]
 |s+1,n=>by
  have e:n/256/256^s=n/256^(s+1):=by
   rw[Int.ediv_ediv_of_nonneg dd,Int.pow_succ,Int.mul_comm]
  show Iq (n/256^(s+1))::be (s+1) n=(Iq (n/256/256^s)::be s (n/256))++[Iq n]
  rw[cZ s n,e];rfl
def Nx(r:Rec)(n:Int):List UInt8:=be 3 (bytesOf r).length++be 4 n++bytesOf r
theorem SR{r:Rec}(h:JN r=true):1≤r.kind∧r.kind≤8∧r.name.length≤40∧r.Ak.length≤32∧r.list.length≤2000∧r.CF.length≤14∧(hasB r.kind 108=false→r.list=[])∧(hasB r.kind 115=false→r.CF=[]):=by
 obtain⟨hk,j,_,g,f,t,_,i,_⟩:=(OM r).1 h;obtain⟨_,p,l,o,wS⟩:=(Yo r).1 j;simp only[Mu,VJ,zY] at hk;refine⟨by omega,by omega,?_,?_,by omega,?_,fun e=>o.resolve_left (by simp[e]),fun e=>wS.resolve_left (by simp[e])⟩
 ·rcases p with e|e
  ·have:=g e;omega
  simp[e]
 ·rcases l with e|e
  ·have:=f e;omega
  simp[e]
 rcases wS with e|e
 ·have:=i e;omega
 simp[e]
def Ny(r:Rec)(n:Int):List UInt8:=Nx r n++be 8 (mI (Nx r n):Nat)
theorem eR{r:Rec}(h:JN r=true):1≤(bytesOf r).length∧(bytesOf r).length≤9000:=by
 obtain⟨_,_,o,p,t,C,_⟩:=SR h;have g:=iO r;have f:1≤(A1 r).length:=by simp[A1,Bc]
 have i:(bN r).length≤41:=by unfold bN;split<;>simp[Bc];omega
 have j:(bL r).length≤8004:=by unfold bL;split<;>simp only[bU,Bc,Kg,Aa6]<;>omega
 have l:(bS r).length≤113:=by unfold bS;split<;>simp only[bU,Bc,SM,Aa6]<;>omega
 simp only[bytesOf,A4,A3,A2,bU];omega
theorem SS(r:Rec)(n:Int):(Nx r n).length=7+(bytesOf r).length:=by simp[Nx,Bc];omega
theorem SU(r:Rec)(n:Int):(Ny r n).length=15+(bytesOf r).length:=by simp[Ny,SS,Bc];omega
theorem OP:∀(s n:Nat),DT (be s (n:Int))=n%256^s
 |0,n=>by simp[be,DT,Nat.mod_one]
 |s+1,n=>by
  have e:((n:Int)/256)=((n/256:Nat):Int):=oo;have hu:(Iq (n:Int)).toNat=n%256:=by
   unfold Iq;have f:((n:Int)%256).toNat=n%256:=oo;rw[f,Ad8];omega
  rw[cZ,Nn,e,OP s (n/256),hu,Nat.pow_succ,Nat.mul_comm (256^s) 256,Nat.mod_mul];omega
theorem SW(s:TN):∃R,He s=[83,72,82,68]++(be 4 s.EM++(be 4 s.gen++([Iq s.index]++(be 2 (s.text.length:Int)++(s.text++R))))):=by
 refine⟨be 8 (mI (Nf s):Nat)++List.replicate (Bn s.text.length*64-(OO s).length) 0,?_⟩;rw[He];generalize List.replicate (Bn s.text.length*64-(OO s).length) (0:UInt8)=f;simp only[OO,Nf,zE]
theorem SX{a b r t:List UInt8}{i n:Nat}(h:t=a++(b++r))(hi:a.length=i)(f:b.length=n):(t.drop i).take n=b:=by
 rw[h,List.drop_left' hi,Adx f]
theorem eS(s:TN)(h:s.text.length<65536):Qb (He s)=s.text.length:=by
 obtain⟨f,j⟩:=SW s;have g:=SX (a:=[83,72,82,68]++be 4 s.EM++be 4 s.gen++[Iq s.index]) (b:=be 2 (s.text.length:Int)) (r:=s.text++f) (t:=He s) (i:=13) (n:=2) (by rw[j];simp only[zE]) (by simp[Bc]) (Bc _ _);rw[Qb,g,OP];omega
theorem iW(s:TN)(h:Li s=true):Ud (He s) s.text.length=s:=by
 obtain⟨f,j⟩:=SW s;have a1:=SX (a:=[83,72,82,68]) (b:=be 4 s.EM) (r:=be 4 s.gen++([Iq s.index]++(be 2 (s.text.length:Int)++(s.text++f)))) (t:=He s) (i:=4) (n:=4) j Z (Bc _ _);have a6:=SX (a:=[83,72,82,68]++be 4 s.EM) (b:=be 4 s.gen) (r:=[Iq s.index]++(be 2 (s.text.length:Int)++(s.text++f))) (t:=He s) (i:=8) (n:=4) (by rw[j];simp only[zE]) (by simp[Bc]) (Bc _ _);have a7:=SX (a:=[83,72,82,68]++be 4 s.EM++be 4 s.gen) (b:=[Iq s.index]) (r:=be 2 (s.text.length:Int)++(s.text++f)) (t:=He s) (i:=12) (n:=1) (by rw[j];simp only[zE]) (by simp[Bc]) Z;have a8:=SX (a:=[83,72,82,68]++be 4 s.EM++be 4 s.gen++[Iq s.index]++be 2 (s.text.length:Int)) (b:=s.text) (r:=f) (t:=He s) (i:=15) (n:=s.text.length) (by rw[j];simp only[zE]) (by simp[Bc]) Z;have b0:(He s).getD 12 0=Iq s.index:=by
  have e:=zC (fun l:List UInt8=>l[0]?) a7;simp only[Aek (show 0<1 by omega),Aaw,List.getElem?_cons_zero] at e;rw[gy,e];rfl
 simp only[Li,Bool.and_eq_true,decide_eq_true_eq] at h;obtain⟨⟨⟨⟨o,b1⟩,C,b2⟩,I,b3⟩,b4,b5⟩:=h;obtain⟨p,i,g,t⟩:=s;dsimp only at*;obtain⟨p,rfl⟩:=Int.eq_ofNat_of_zero_le o;obtain⟨g,rfl⟩:=Int.eq_ofNat_of_zero_le C;obtain⟨i,rfl⟩:=Int.eq_ofNat_of_zero_le I;rw[Ud,a1,a6,a8,b0,OP,OP];have J:p%256^4=p:=Nat.mod_eq_of_lt oo;have R:g%256^4=g:=Nat.mod_eq_of_lt oo;have U:(Iq (i:Int)).toNat=i:=by
  unfold Iq;rw[Ad8];omega
 rw[J,R,U]
theorem SY(s:TN)(h:Li s=true):GN (Ge s)=some s:=by
 have p:=h;simp only[Li,kg,yI] at p;obtain⟨f,i⟩:=KI s;have j:=eS s oo;have l:=iW s h;have o:=Yu s;have r:=SQ s.text.length;have t:Bn s.text.length≤Bn 120:=by unfold Bn;omega
 rw[GN,yK,o,j,yK,l,yP ⟨h,Z⟩]
 ·rw[f];omega
 ·rw[f];rintro(g|g|g)
  ·rw[g] at f;simp at f;omega
  ·omega
  ·obtain⟨x,hx,hy⟩:=Kn.1 g;rw[i x hx] at hy;simp at hy
theorem Yv(s:TN)(h:Li s=true):IS (Ge s) s.EM s.gen s.index=2:=by
 rw[IS,SY s h];simp
theorem SZ{l:List Tx}{a b c:Int}(h:IS l a b c=2):∃s,GN l=some s∧s.EM=a∧s.gen=b∧s.index=c:=by
 unfold IS at h;split at h
 ·rename_i s hs;by_cases f:s.EM=a∧s.gen=b∧s.index=c
  ·exact⟨s,hs,f⟩
  ·rw[yK f] at h;split at h<;>simp at h
 ·split at h<;>simp at h
end Silo
namespace Go.Proofs.K
open Go Go.Eng Go.RowKit Silo TryzT
theorem pX{base m:Nat}{v:Value}{l:List UInt8}(a6:BJ w base 5 1 v m (Ax l))(i:base≤w.heap.size)(n size:Int)(h0:0≤size)(b0:size≤8)(b1:m≤1099511627776):
 Calls QP 290 #[v, .int .u64 n,I size] w (AP fun C w'=>Kept w w' v.rowOf C.rowOf∧BJ w' base 5 1 C (m+size.toNat) (Ax (l++be size.toNat n))):=by
 obtain⟨s,rfl⟩:=Int.eq_ofNat_of_zero_le h0;have hs:s≤8:=oo;have o:Kept w w v.rowOf v.rowOf:=Kept.refl _ _;refine enter (n:=23) (res:=#[.tmp 6]) Tryz.func290 Z Z Z Z<|Ab<|cg<|za Z<|Ac<|Ab<|Ab<|cg<|zm Z<|vq (EX Z Z Ad Ad) ?_;refine za Z<|Ac<|Ai<|WC.loop (σ:=Nat×Value) (fun g=>[(0,g.2),(1, .int .u64 n),(2,I s),(7,I ((g.1:Int)-1))]) (fun g w'=>BJ w' base 5 1 g.2 (m+(s-g.1)) (Ax (l++(be s n).take (s-g.1)))∧g.1≤s∧Kept w w' v.rowOf g.2.rowOf∧base≤w'.heap.size) (fun g=>g.1) (s,v) Aq ⟨by simpa using a6,Nat.le_refl _,o,i⟩ ?_;rintro⟨k,v⟩ b2 ⟨f,hk,o,i⟩;dsimp only at f hk o⊢;refine Ab<|Ab<|cg<|zm Z<|vq (Cu Z Z)<|Ac<|AS Z (fun U=>?_) fun U=>?_
 ·obtain⟨j,rfl⟩:∃j,k=j+1:=⟨k-1,by omega⟩;have R:((j+1:Nat):Int)-1=(j:Int):=oo;rw[R];refine Aj<|Ab<|Ai<|cg<|zm Z<|zm Z<|zm Z<|vq (FZ Z Z Ad Ad)<|vq (Ir Z Z Ad (by simp[IntKind.bits]<;>omega)) ?_;refine vq (Fk zL yR Z)<|ve (RY Di Z Z Z Z Z) ?_;rintro _ w1 ⟨a8,rfl,t⟩;have r:=t.below;replace f:=f.up r;replace o:=o.up r;replace i:=zz i r.size;refine ve (Ay.append Di Z Z f (Src.An zG t.Ap.An Z AG) EY Fb i) ?_;intro a7 w2 p;have a1:=p.PJ f i;replace i:=zz i a1.size;replace f:=p.own;replace o:=o.trans p.sA;have J:Ax (l++(be s n).take (s-(j+1)))++[Value.int .u8 (Iq (n/2^(8*(j:Int)).toNat)).toNat]=Ax (l++(be s n).take (s-j)):=by
   have:(8*(j:Int)).toNat=8*j:=oo;rw[VS s j n hk,this,xa];simp[Ax]
  rw[J,show m+(s-(j+1))+1=m+(s-j) by omega] at f;refine za Z<|Ac<|cg<|zm Z<|vq (EX Z Z Ad Ad)<|za Z<|Ac ?_;exact⟨(j,a7),Aq,⟨f,by omega,o,i⟩,by simp⟩
 refine WC.exit Z<|Ab<|cg<|zm Z<|za Z<|Ac<|Az Z Z ?_;have:k=0:=oo;subst this;refine⟨o,?_⟩;rw[Nat.sub_zero,XE] at f;simpa using f
theorem Qd{base m:Nat}{v:Value}{l:List UInt8}(p:BJ w base 5 1 v m (Ax l))(i:base≤w.heap.size)(n:Int)(j:m≤1099511627776):
 Calls QP 366 #[v,I n] w (AP fun f w'=>Kept w w' v.rowOf f.rowOf∧BJ w' base 5 1 f (m+4) (Ax (l++be 4 n))):=by
 have r:0≤n%4294967296:=Ab5 _ dd;have t:n%4294967296<4294967296:=Ab1 _ dd;have g:be 4 (n%4294967296)=be 4 n:=XF 4 _ _ (by show n%4294967296%4294967296=n%4294967296;exact Ae8 _ ⟨1,Z⟩);refine enter (n:=10) (res:=#[.tmp 4]) Tryz.func366 Z Z Z Z<|Ab<|cg<|za Z<|Ac<|Ab<|cg<|zm Z<|zm Z<|vq (Ht oz VL Z)<|vq (Co VL zL Z Ad Ad) ?_;refine ve (Ay.call Ka Z (pX p i (n%4294967296) 4 dd dd j)) ?_;rintro C w1 ⟨hk,o⟩;refine za Z<|Ac<|Az Z Z ?_;rw[←g];exact⟨hk,o⟩
theorem ym(n:Int):be 1 n=[Iq n]:=by simp[be]
theorem FK(a b:List UInt8):Ax (a++b)=Ax a++Ax b:=by simp[Ax]
def cL(r:Rec):List UInt8:=if hasB r.kind 108 then be 4 r.list.length else[]
def cS(r:Rec):List UInt8:=if hasB r.kind 115 then be 1 r.CF.length else[]
theorem iX{cs:List Value}{r:Rec}(h:Ur w cs r)(l4:r.name.length≤1000000)(hd:r.Ak.length≤1000000)(l3:r.list.length≤1000000)(l9:r.CF.length≤1000000)(j8:hasB r.kind 108=false→r.list=[])(j9:hasB r.kind 115=false→r.CF=[]):
 Calls QP 365 #[.agg cs.toArray] w (AP fun v w'=>Below w.heap.size w w'∧v=St (bytesOf r)):=by
 obtain⟨C,vs,rfl,hl,hs,k1⟩:=h;obtain⟨l5,l6,l7,l8⟩:=k1;have n4:=hl.Av;have n5:=hs.Av;have n0:=iO r;have n1:(A2 r).length≤1000006:=by
  simp only[A2,bN,bU];split
  ·simp only[bU,Bc];omega
  simp;omega
 have n2:(A3 r).length≤2000006:=by simp only[A3,bU];omega
 have n3:(A4 r).length≤6000010:=by
  simp only[A4,bL,bU];split
  ·simp only[bU,Bc,Kg];omega
  simp;omega
 have l:Bz w w:=Bz.refl w;refine enter (n:=82) (res:=#[.tmp 2]) Tryz.func365 Z Z Z Z<|Ab<|cg<|ve (Ay.box Z) ?_;rintro _ w1 ⟨b1,rfl,h6⟩;have e9:=h6.below;have g:=h6.Ap;refine za Z<|Ac<|Ab ?_;obtain⟨B,e0⟩:∃B,B=w1.heap.size:=⟨_,Z⟩;have f:B≤w1.heap.size:=Ab8 e0;replace l:=l.up e9;replace g:=g.fix;replace l:=Bz.fix l;replace hl:=hl.up e9;replace hs:=hs.up e9;rw[←e0] at hl hs g l;refine cg<|vq (Aa Fc Z)<|vq (Ah Au Z g.2 Z)<|vq (Fk oz yR Z)<|ve (RY Di Z Z Z Z Z) ?_;rintro _ w2 ⟨l0,rfl,h7⟩;have c5:=h7.below;replace hl:=hl.Ei (c5.mono f);replace hs:=hs.Ei (c5.mono f);replace g:=g.Ei (c5.mono f);replace l:=l.Ei (c5.mono f);replace f:=zz f c5.size;refine za Z<|Ac ?_;have i:=h7.own (base:=B) (n:=1) (size:=1) (Ab8 e0) Z dd;rw[show[Value.int .u8 (Iq r.kind).toNat]=Ax (be 1 r.kind) by rw[ym];rfl] at i;refine Ab<|Ab<|cg<|vq (Aa Fc Z)<|vq (Ah Au Z g.2 Z)<|ve (Ay.call Jr Z (Hd r.kind 105)) ?_;rintro n6 p1 ⟨b9,rfl⟩;replace hl:=hl.Ei (b9.mono f);replace hs:=hs.Ei (b9.mono f);replace g:=g.Ei (b9.mono f);replace l:=l.Ei (b9.mono f);replace i:=i.up b9;replace f:=zz f b9.size;refine Ac<|WC.mono (N:=fun e w'=>∃p,Sub [(4000000, .tuple #[]),(1, .pointer (some ⟨b1,0,none⟩)),(3,p)] e∧TQ B w' b1 [I r.kind,I r.id,St r.name,St r.Ak,C,vs] 127∧Dx Bw B w' C r.list∧Dx Bg B w' vs r.CF∧TR B w w'∧B≤w'.heap.size∧BJ w' B 5 1 p (A1 r).length (Ax (A1 r))) ?_ ?_
 ·refine AS Z (fun e4=>?_) fun e4=>?_
  ·refine cg<|zm Z<|vq (Aa HU Z)<|vq (Ah Au Z g.2 Z) ?_;refine ve (Ay.call Up Z (Qd i f r.id oo)) ?_;rintro n7 k9 ⟨o,c7⟩;replace o:=o.below i (lx _) f;replace hl:=hl.Ei o;replace hs:=hs.Ei o;replace g:=g.Ei o;replace l:=l.Ei o;replace f:=zz f o.size;refine za Z<|Ac ?_;have e:A1 r=be 1 r.kind++be 4 r.id:=by simp[A1,bI,e4]
   rw[e];exact⟨_,Aq,g,hl,hs,l,f,by rw[bU,Bc,Bc];exact c7⟩
  refine Aj ?_;have e:A1 r=be 1 r.kind:=by simp[A1,bI,e4]
  rw[e];exact⟨_,Aq,g,hl,hs,l,f,by rw[Bc];exact i⟩
 rintro _ p7 ⟨p,R,g,hl,hs,l,f,i⟩;refine WC.sub R ?_;clear R;refine Ab<|Ab<|cg<|vq (Aa Fc rfl)<|vq (Ah Au rfl g.2 rfl)<|ve (Ay.call Jr rfl (Hd r.kind 110)) ?_;rintro n8 b4 ⟨c0,rfl⟩;replace hl:=hl.Ei (c0.mono f);replace hs:=hs.Ei (c0.mono f);replace g:=g.Ei (c0.mono f);replace l:=l.Ei (c0.mono f);replace i:=i.up c0;replace f:=zz f c0.size;refine Ac<|WC.mono (N:=fun e w'=>∃p,Sub [(4000000, .tuple #[]),(1, .pointer (some ⟨b1,0,none⟩)),(3,p)] e∧TQ B w' b1 [I r.kind,I r.id,St r.name,St r.Ak,C,vs] 127∧Dx Bw B w' C r.list∧Dx Bg B w' vs r.CF∧TR B w w'∧B≤w'.heap.size∧BJ w' B 5 1 p (A2 r).length (Ax (A2 r))) ?_ ?_
 ·refine AS Z (fun e5=>?_) fun e5=>?_
  ·refine Mh (Below B b4) [0,0,1,0,0,2,2,0,1,2,0] [0,1,2,3,4,7,8,5,6,9,10] mixed kr ?_;have b0:Below b4.heap.size b4 b4.drew:=(zy _ _).drew;have U:Below B b4 b4.drew:=(zy _ _).drew;generalize b4.drew=p2 at b0 U⊢;have e2:=g;replace hl:=hl.Ei (b0.mono f);replace hs:=hs.Ei (b0.mono f);replace g:=g.Ei (b0.mono f);replace l:=l.Ei (b0.mono f);replace i:=i.up b0;replace f:=zz f b0.size;refine AK Z Z<|vd Z (fun _=>Aa Lx Z)<|qc Z Z Z U (fun W a8=>Ah BK Z (e2.Ei a8).2 Z) Z<|vd Z (fun _=>Bp.BY gx Z)<|vd Z (fun _=>Fk oz yR Z)<|vd Z (fun _=>Aa Lx Z)<|qc Z Z Z U (fun W a8=>Ah BK Z (e2.Ei a8).2 Z) Z<|WD.AW Z Z Z (RY Di Z Z Z Z Z) Z ?_;rintro _ p3 ⟨l1,rfl,h8⟩;have a7:=h8.below;refine⟨fun J=>Adw J (a7.mono f),?_⟩;replace U:=Adw U (a7.mono f);replace hl:=hl.Ei (a7.mono f);replace hs:=hs.Ei (a7.mono f);replace g:=g.Ei (a7.mono f);replace l:=l.Ei (a7.mono f);replace i:=i.up a7;replace f:=zz f a7.size;refine WD.AW Z Z Z (Ay.append Di Z Z i (Src.An zG h8.Ap.An Z AG) EY Fb f) Z ?_;intro n9 p4 h2;have b2:=h2.PJ i f;refine⟨fun J=>Adw J b2,?_⟩;replace U:=Adw U b2;replace hl:=hl.Ei b2;replace hs:=hs.Ei b2;replace g:=g.Ei b2;replace l:=l.Ei b2;replace f:=zz f b2.size;replace i:=h2.own;rw[show[Value.int .u8 (Iq r.name.length).toNat]=Ax (be 1 r.name.length) by rw[ym];rfl,←FK] at i;refine WD.AW Z Z Z (Ay.append Di Z Z i (sv gx) EY Fb f) Z ?_;intro o0 p5 h3;have b3:=h3.PJ i f;refine⟨fun J=>Adw J b3,?_⟩;replace U:=Adw U b3;replace hl:=hl.Ei b3;replace hs:=hs.Ei b3;replace g:=g.Ei b3;replace l:=l.Ei b3;replace f:=zz f b3.size;replace i:=h3.own;rw[show(r.name.map fun b=>Value.int .u8 b.toNat)=Ax r.name from Z,←FK] at i;refine Ga Z Z<|WD.nil ?_;clear e2;clear U;have e:A2 r=A1 r++be 1 r.name.length++r.name:=by simp[A2,bN,e5]
   rw[e];exact⟨_,Aq,g,hl,hs,l,f,by rw[bU,bU,Bc];exact i⟩
  refine Aj ?_;have e:A2 r=A1 r:=by simp[A2,bN,e5]
  rw[e];exact⟨_,Aq,g,hl,hs,l,f,i⟩
 rintro _ p8 ⟨p,R,g,hl,hs,l,f,i⟩;refine WC.sub R ?_;clear R;refine Ab<|cg<|zm rfl<|vq (Aa JY rfl)<|vq (Ah BK rfl g.2 rfl)<|ve (Ay.append Di rfl rfl i (sv gx) EY Fb f) ?_;intro o1 k9 h4;have o:=h4.PJ i f;replace hl:=hl.Ei o;replace hs:=hs.Ei o;replace g:=g.Ei o;replace l:=l.Ei o;replace f:=zz f o.size;replace i:=h4.own;rw[show(r.Ak.map fun b=>Value.int .u8 b.toNat)=Ax r.Ak from rfl,←FK,show(A2 r).length+r.Ak.length=(A3 r).length by simp[A3]] at i;change BJ _ _ _ _ _ _ (Ax (A3 r)) at i;refine za rfl<|Ac<|Ab<|Ab<|cg<|vq (Aa Fc rfl)<|vq (Ah Au rfl g.2 rfl)<|ve (Ay.call Jr rfl (Hd r.kind 108)) ?_;rintro o2 k6 ⟨b6,rfl⟩;replace hl:=hl.Ei (b6.mono f);replace hs:=hs.Ei (b6.mono f);replace g:=g.Ei (b6.mono f);replace l:=l.Ei (b6.mono f);replace i:=i.up b6;replace f:=zz f b6.size;refine Ac<|WC.mono (N:=fun e w'=>∃p,Sub [(4000000, .tuple #[]),(1, .pointer (some ⟨b1,0,none⟩)),(3,p)] e∧TQ B w' b1 [I r.kind,I r.id,St r.name,St r.Ak,C,vs] 127∧Dx Bw B w' C r.list∧Dx Bg B w' vs r.CF∧TR B w w'∧B≤w'.heap.size∧BJ w' B 5 1 p (A3 r++cL r).length (Ax (A3 r++cL r))) ?_ ?_
 ·refine AS Z (fun e7=>?_) fun e7=>?_
  ·refine cg<|zm Z<|vq (Aa DG Z)<|vq (Ah BL Z g.2 Z) ?_
   first|refine vq (BN Bu (by assumption) Z) ?_|refine vq (CH zU Z) ?_
   refine ve (Ay.call Up Z (Qd i f r.list.length oo)) ?_;rintro o3 o9 ⟨o,c7⟩;replace o:=o.below i (lx _) f;replace hl:=hl.Ei o;replace hs:=hs.Ei o;replace g:=g.Ei o;replace l:=l.Ei o;replace f:=zz f o.size;refine za Z<|Ac ?_;have e:cL r=be 4 r.list.length:=by simp[cL,e7]
   rw[e];exact⟨_,Aq,g,hl,hs,l,f,by rw[bU,Bc];exact c7⟩
  refine Aj ?_;have e:cL r=[]:=by simp[cL,e7]
  rw[e,Qy];exact⟨_,Aq,g,hl,hs,l,f,i⟩
 rintro _ p9 ⟨p,R,g,hl,hs,l,f,i⟩;refine WC.sub R ?_;clear R;refine Ab<|Ab<|cg<|vq (Aa DG rfl)<|vq (Ah BL rfl g.2 rfl) ?_
 first|refine vq (BN Bu (by assumption) Z) ?_|refine vq (CH zU Z) ?_
 refine zm Z<|Ac<|Ai ?_;have lc:(A3 r++cL r).length≤2000010:=by
  simp only[cL,bU];split<;>simp[Bc]<;>omega
 refine WC.loop (σ:=Nat×Value) (fun t=>[(1, .pointer (some ⟨b1,0,none⟩)),(3,t.2),(45,C),(46,I r.list.length),(47,I t.1)]) (fun t w'=>TQ B w' b1 [I r.kind,I r.id,St r.name,St r.Ak,C,vs] 127∧Dx Bw B w' C r.list∧Dx Bg B w' vs r.CF∧TR B w w'∧B≤w'.heap.size∧t.1≤r.list.length∧BJ w' B 5 1 t.2 ((A3 r++cL r).length+4*t.1) (Ax (A3 r++cL r++(r.list.take t.1).flatMap (be 4)))) (fun t=>r.list.length-t.1) (0,p) Aq ⟨g,hl,hs,l,f,by simp,by simpa using i⟩ ?_;rintro⟨k,p⟩ h1 ⟨g,hl,hs,l,f,hk,i⟩;dsimp only at hk i⊢;refine Ab<|cg<|vq (AE Z Z)<|Ac<|Ab<|AS Z (fun j5=>?_) fun j5=>?_
 ·have ka:k<r.list.length:=oo;obtain⟨j2,e6,rfl,k3⟩:=hl.wN ka;replace e6:=e6.bY f;refine Aj<|Ab<|Ai<|Ab<|cg<|vq (AF Bu (by assumption) Z Z Z Ad Ad)<|vq (Bl Au Z e6)<|za Z<|Ac ?_;refine cg<|zm Z<|zm Z<|ve (Ay.call Up Z (Qd i f _ oo)) ?_;rintro k4 p0 ⟨o,c7⟩;replace o:=o.below i (lx _) f;replace hl:=hl.Ei o;replace hs:=hs.Ei o;replace g:=g.Ei o;replace l:=l.Ei o;replace f:=zz f o.size;refine za Z<|Ac<|cg<|vq (AH Z Z Ad Ad)<|zm Z<|Ac ?_;exact⟨(k+1,k4),Aq,⟨g,hl,hs,l,f,ka,by rw[Jp _ ka,←zE,Nat.mul_add,←Aej];exact c7⟩,by simp;omega⟩
 refine WC.exit Z ?_;have j1:BJ h1 B 5 1 p (A4 r).length (Ax (A4 r)):=by
  have j3:k=r.list.length:=oo;subst j3;rw[yM (lx _)] at i;have e:A4 r=A3 r++cL r++r.list.flatMap (be 4):=by
   cases e:hasB r.kind 108
   ·simp[A4,bL,cL,e,j8 e]
   simp[A4,bL,cL,e]
  rw[e];rw[bU,Kg];exact i
 clear i;have i:=j1;clear j1;refine Ab<|Ab<|cg<|vq (Aa Fc Z)<|vq (Ah Au Z g.2 Z)<|ve (Ay.call Jr Z (Hd r.kind 115)) ?_;rintro o4 k7 ⟨a1,rfl⟩;replace hl:=hl.Ei (a1.mono f);replace hs:=hs.Ei (a1.mono f);replace g:=g.Ei (a1.mono f);replace l:=l.Ei (a1.mono f);replace i:=i.up a1;replace f:=zz f a1.size;refine Ac<|WC.mono (N:=fun e w'=>∃p,Sub [(4000000, .tuple #[]),(1, .pointer (some ⟨b1,0,none⟩)),(3,p)] e∧TQ B w' b1 [I r.kind,I r.id,St r.name,St r.Ak,C,vs] 127∧Dx Bw B w' C r.list∧Dx Bg B w' vs r.CF∧TR B w w'∧B≤w'.heap.size∧BJ w' B 5 1 p (A4 r++cS r).length (Ax (A4 r++cS r))) ?_ ?_
 ·refine AS Z (fun e3=>?_) fun e3=>?_
  ·refine cg<|zm Z<|vq (Aa GY Z)<|vq (Ah BV Z g.2 Z) ?_
   first|refine vq (BN CQ (by assumption) Z) ?_|refine vq (CH Aa3 Z) ?_
   refine vq (Fk oz yR Z)<|ve (RY Di Z Z Z Z Z) ?_;rintro _ k8 ⟨l2,rfl,h9⟩;have a6:=h9.below;replace hl:=hl.Ei (a6.mono f);replace hs:=hs.Ei (a6.mono f);replace g:=g.Ei (a6.mono f);replace l:=l.Ei (a6.mono f);replace i:=i.up a6;replace f:=zz f a6.size;refine ve (Ay.append Di Z Z i (Src.An zG h9.Ap.An Z AG) EY Fb f) ?_;intro o5 o7 h5;have c4:=h5.PJ i f;replace hl:=hl.Ei c4;replace hs:=hs.Ei c4;replace g:=g.Ei c4;replace l:=l.Ei c4;replace f:=zz f c4.size;replace i:=h5.own;rw[show[Value.int .u8 (Iq r.CF.length).toNat]=Ax (be 1 r.CF.length) by rw[ym];rfl,←FK] at i;refine za Z<|Ac ?_;have e:cS r=be 1 r.CF.length:=by simp[cS,e3]
   rw[e];exact⟨_,Aq,g,hl,hs,l,f,by rw[bU,Bc];exact i⟩
  refine Aj ?_;have e:cS r=[]:=by simp[cS,e3]
  rw[e,Qy];exact⟨_,Aq,g,hl,hs,l,f,i⟩
 rintro _ p6 ⟨p,R,g,hl,hs,l,f,i⟩;refine WC.sub R ?_;clear R;refine Ab<|Ab<|cg<|vq (Aa GY rfl)<|vq (Ah BV rfl g.2 rfl) ?_
 first|refine vq (BN CQ (by assumption) Z) ?_|refine vq (CH Aa3 Z) ?_
 refine zm Z<|Ac<|Ai ?_;have lc:(A4 r++cS r).length≤6000012:=by
  simp only[cS,bU];split<;>simp[Bc]<;>omega
 refine WC.loop (σ:=Nat×Value) (fun t=>[(1, .pointer (some ⟨b1,0,none⟩)),(3,t.2),(66,vs),(67,I r.CF.length),(68,I t.1)]) (fun t w'=>TQ B w' b1 [I r.kind,I r.id,St r.name,St r.Ak,C,vs] 127∧Dx Bw B w' C r.list∧Dx Bg B w' vs r.CF∧TR B w w'∧B≤w'.heap.size∧t.1≤r.CF.length∧BJ w' B 5 1 t.2 ((A4 r++cS r).length+8*t.1) (Ax (A4 r++cS r++(r.CF.take t.1).flatMap aB))) (fun t=>r.CF.length-t.1) (0,p) Aq ⟨g,hl,hs,l,f,by simp,by simpa using i⟩ ?_;rintro⟨k,p⟩ h1 ⟨g,hl,hs,l,f,hk,i⟩;dsimp only at hk i⊢;refine Ab<|cg<|vq (AE Z Z)<|Ac<|Ab<|AS Z (fun j6=>?_) fun j6=>?_
 ·have ka:k<r.CF.length:=oo;obtain⟨j2,e8,rfl,k3⟩:=hs.wN ka;replace e8:=e8.bY f;have k2:∀j,p.rowOf=some j→j<h1.heap.size:=fun j c1=>(i.lt j c1).2;refine Aj<|Ab<|Ai<|Ab<|cg<|vq (AF CQ (by assumption) Z Z Z Ad Ad)<|vq (Dg DK Z e8 Z) ?_;refine ve (Ay.alloc Mo) ?_;rintro _ o8 ⟨b7,rfl,c9⟩;have b8:=c9.below;have j7:B≤b7:=by rw[c9.at_];exact f
  replace hl:=hl.Ei (b8.mono f);replace hs:=hs.Ei (b8.mono f);replace g:=g.Ei (b8.mono f);replace l:=l.Ei (b8.mono f);replace i:=i.up b8;replace f:=zz f b8.size;have c8:=c9.Ap;refine WR.AI (bX DK Z Z c8 Z Z AG) ?_;intro _ b5 e1;have h0:p.rowOf≠some b7:=fun e=>by have:=k2 _ e;have:=c9.at_;omega
  have c6:Below B _ _:=Xy e1 j7 f;replace i:=i.grown e1.grown (fun j c1 e=>h0 (c1.trans e.symm));replace hl:=hl.Ei c6;replace hs:=hs.Ei c6;replace g:=g.Ei c6;replace l:=l.Ei c6;replace f:=zz f c6.size;replace c8:=e1.Ap;refine Ac<|Mh (fun W=>b5.grownBy W p.rowOf) [0,0,1,2,0,1,2,0] [0,1,2,4,5,3,6,7] mixed kr ?_;have hd:Below b5.heap.size b5 b5.drew:=(zy _ _).drew;have J:b5.grownBy b5.drew p.rowOf:=Ll hd _;replace i:=i.up hd;replace hl:=hl.Ei (hd.mono f);replace hs:=hs.Ei (hd.mono f);replace g:=g.Ei (hd.mono f);replace l:=l.Ei (hd.mono f);replace f:=zz f hd.size;generalize b5.drew=k6 at hd J i hl hs g l f⊢;refine AK Z Z<|vd Z (fun _=>Aa CE Z)<|qc Z Z Z J (fun W a8=>Ah Au Z (c8.grown a8 h0) Z) Z<|vd Z (fun _=>Aa HV Z)<|qc Z Z Z J (fun W a8=>Ah Au Z (c8.grown a8 h0) Z) Z<|WD.AW Z Z Z (Ay.call Up Z (Qd i f _ oo)) Z ?_;rintro o6 k7 ⟨a1,j0⟩;refine⟨fun J=>Jn J (.inl Z) a1.grown,?_⟩;have c2:=a1.below i (lx _) f;replace hl:=hl.Ei c2;replace hs:=hs.Ei c2;replace g:=g.Ei c2;replace l:=l.Ei c2;replace f:=zz f c2.size;refine WD.AW Z Z Z (Ay.call Up Z (Qd j0 f _ oo)) Z ?_;rintro k5 k8 ⟨a6,k0⟩;refine⟨fun j4=>Jn j4 (a1.at_.imp id fun⟨j,e,c1⟩=>⟨j,e,zz J.size c1⟩) a6.grown,?_⟩;have c3:=a6.below j0 (lx _) f;replace hl:=hl.Ei c3;replace hs:=hs.Ei c3;replace g:=g.Ei c3;replace l:=l.Ei c3;replace f:=zz f c3.size;refine Ga Z Z<|WD.nil<|cg<|vq (AH Z Z Ad Ad)<|zm Z<|Ac ?_;exact⟨(k+1,k5),Aq,⟨g,hl,hs,l,f,ka,by rw[Jp _ ka,aB,←zE,←zE];exact k0⟩,by simp;omega⟩
 refine WC.exit Z<|Ab<|cg<|zm Z<|vq (GV zG gx yR Z i)<|za Z<|Ac<|Az Z Z<|⟨l.1,?_⟩;have e:bytesOf r=A4 r++cS r++(r.CF.take k).flatMap aB:=by
  rw[yM oo];cases e:hasB r.kind 115
  ·simp[bytesOf,bS,cS,e,j9 e]
  simp[bytesOf,bS,cS,e]
 rw[e]
theorem Lb{i m:Nat}{v:Value}{l:List UInt8}(g:Ao c w i 5 1 v m (Ax l))(n size:Int)(h0:0≤size)(r:size≤8)(J:m≤1099511627776):
 Calls QP 290 #[v, .int .u64 n,I size] w (AP fun p w'=>∃c',Mv c w c' w' [i]∧Ao c' w' i 5 1 p (m+size.toNat) (Ax (l++be size.toNat n))):=by
 refine(pX g.own (yU _) n size h0 r J).mono fun e w' t=>?_;obtain⟨p,rfl,hk,R⟩:=t;obtain⟨c',o,hx⟩:=Mv.grown c i hk.grown g.Bf;refine⟨_,Z,c',o,R,fun k f=>?_⟩;rcases hk.at_ with e|⟨j,e,C⟩
 ·rw[e] at f;rw[o.Bf k (g.own.lt k f).2];exact g.Bf k f
 rw[e] at f;cases f;exact hx _ C
theorem rl{i m:Nat}{v:Value}{l:List UInt8}(g:Ao c w i 5 1 v m (Ax l))(n:Int)(C:m≤1099511627776):
 Calls QP 366 #[v,I n] w (AP fun p w'=>∃c',Mv c w c' w' [i]∧Ao c' w' i 5 1 p (m+4) (Ax (l++be 4 n))):=by
 refine(Qd g.own (yU _) n C).mono fun e w' r=>?_;obtain⟨p,rfl,hk,J⟩:=r;obtain⟨c',o,hx⟩:=Mv.grown c i hk.grown g.Bf;refine⟨_,Z,c',o,J,fun k f=>?_⟩;rcases hk.at_ with e|⟨j,e,t⟩
 ·rw[e] at f;rw[o.Bf k (g.own.lt k f).2];exact g.Bf k f
 rw[e] at f;cases f;exact hx _ t
theorem eT{cs:List Value}{r:Rec}{n:Int}(h:Ur w cs r)(j:JN r=true):Calls QP 315 #[.agg cs.toArray,I n] w (AP fun v w'=>Below w.heap.size w w'∧v=St (Ny r n)):=by
 obtain⟨g,vs,rfl,hl,hs,C⟩:=h;have c3:=hl.Av;have c4:=hs.Av;have b7:=eR j;have b8:=SS r n;obtain⟨_,_,c5,c6,c7,c8,J,R⟩:=SR j;obtain⟨c,p,hc⟩:=AQ.start w;replace hl:Bi Bw c w [0] g r.list:=Rd.Cl hl (fun k hk=>by simp[hc,AA]);replace hs:Bi Bg c w [0] vs r.CF:=Rd.Cl hs (fun k hk=>by simp[hc,AA]);clear hc;refine enter (n:=23) (res:=#[.tmp 4]) Tryz.func315 Z Z Z Z<|Ab<|cg<|Dz c 102 fun w1 b2 c1 a8 t=>?_;refine za Z<|Ac<|Ab<|cg<|vq (AD Fs Z t.Ap Z)<|ve (Al c1 1 (Ay.call vr Z (iX (r:=r) (cs:=[I r.kind,I r.id,St r.name,St r.Ak,g,vs]) ⟨g,vs,Z,hl.mv.now,hs.mv.now,C⟩ oo oo oo oo J R))) ?_;rintro e3 w2 ⟨c2,b0,b9,rfl⟩;refine za Z<|Ac<|Ab<|cg<|zm Z<|vq (Bp.BY gx Z)<|vq (Co oz zL Z oo oo) ?_;refine ve (Ay.call Ka Z (Lb (i:=9) (l:=[]) (Ao.nil c2 w2 9 5 1) ((bytesOf r).length:Nat) 3 dd dd dd)) ?_;rintro c9 e4 ⟨U,b1,f⟩;refine zm Z<|ve (Ay.call Up Z (rl f n ss)) ?_;rintro e0 e5 ⟨a1,b3,f⟩;refine zm Z<|ve (AN Di Z Z f (sv gx) EY Fb) ?_;rintro e1 e6 ⟨o,b4,f⟩;rw[show((bytesOf r).map fun b=>Value.int .u8 b.toNat)=Ax (bytesOf r) from Z,←FK] at f;rw[show[]++be (3:Int).toNat ((bytesOf r).length:Nat)++be 4 n++bytesOf r=Nx r n from Z] at f;refine za Z<|Ac<|Ab<|cg<|zm Z<|zm Z<|vq (GV zG gx yR Z f.own)<|ve (Al o 1 (Ay.call cu Z (WA (s:=Nx r n) oo))) ?_;rintro v20 e7 ⟨a6,b5,c0,rfl⟩;refine ve (Ay.call Ka Z (Lb f.mv (mI (Nx r n):Nat) 8 dd dd (by simp;omega))) ?_;rintro e2 e8 ⟨a7,b6,f⟩;refine vq (GV zG gx yR Z f.own)<|za Z<|Ac<|Az Z Z ?_;exact⟨p.mv.below,Z⟩
end Go.Proofs.K
namespace Go.Eng
open Go Go.RowKit Go.ChangeMaps
abbrev Ec:=List UInt8
def tx(C:List Ec)(k:Nat):Ec:=C.getD k []
theorem Hf{C:List Ec}{k j:Nat}{t:Ec}(hk:k<C.length):tx (C.set k t) j=if j=k then t else tx C j:=by
 unfold tx;rw[gy,gy,Aeg];by_cases h:k=j
 ·subst h;simp[hk]
 ·rw[yK h,yK (fun e=>h e.symm)]
theorem vM{C:List Ec}{k:Nat}(h:C.length≤k):tx C k=[]:=by simp[tx,gy,yW h]
theorem da{C:List Ec}{k:Nat}(h:tx C k≠[]):k<C.length:=by
 rcases yT k C.length with f|f
 ·exact f
 ·exact absurd (vM f) h
theorem WE{C:List Ec}{k:Nat}(h:k<C.length):tx C k=C[k]:=by simp[tx,gy,aa h]
def Yw(C:List Ec):List Nat:=(List.range C.length).filter fun k=> !(tx C k).isEmpty
theorem eU{C:List Ec}{k:Nat}:k∈Yw C↔tx C k≠[]:=by
 simp only[Yw,List.mem_filter,Aac,zV,List.isEmpty_eq_false_iff];exact⟨fun h=>h.2,fun h=>⟨da h,h⟩⟩
structure Kh (es:Array MapEntry) (clock:Nat) (C:List Ec):Prop where
 lB:∀e∈es.toList,∃k,tx C k≠[]∧e.key=I k∧e.val=St (tx C k)
 all:∀k,tx C k≠[]→∃e∈es.toList,e.key=I k
 keys:es.toList.Pairwise (fun x y=>x.key≠y.key)
 born:es.toList.Pairwise (fun x y=>x.born≠y.born)
 low:∀e∈es.toList,e.born<clock
theorem pY{a b:Nat}(h:I a=I b):a=b:=by injection h with _ h;omega
theorem Ta{α:Type}{R:α→α→Prop}(hs:∀x y,R x y→R y x):∀{l:List α},l.Pairwise R→∀{x y:α},x∈l→y∈l→¬R x y→x=y
 |[],_,_,_,hx,_,_=>by simp at hx
 |a::r,hp,x,y,hx,hy,h=>by
  obtain⟨h1,o⟩:=Abf.1 hp;rcases zN.1 hx with i|j
  ·rcases zN.1 hy with f|g
   ·rw[i,f]
   ·exact absurd (i▸h1 y g) h
  ·rcases zN.1 hy with f|g
   ·exact absurd (f▸hs _ _ (h1 x j)) h
   ·exact Ta hs o j g h
theorem iY{α:Type}{R:α→α→Prop}(hs:∀x y,R x y→R y x){l:List α}(h:l.Pairwise R){i j:Nat}{x y:α}(hi:l[i]?=some x)(r:l[j]?=some y)(p:¬R x y):i=j:=by
 obtain⟨g,rfl⟩:=yO.1 hi;obtain⟨o,rfl⟩:=yO.1 r;have:=Aa8.1 h;rcases Afv i j with f|f|f
 ·exact absurd (this i j g o f) p
 ·exact f
 ·exact absurd (hs _ _ (this j i o g f)) p
theorem Kh.key_inj{f:Array MapEntry}{clock:Nat}{C:List Ec}(h:Kh f clock C){x y:MapEntry}(hx:x∈f.toList)(hy:y∈f.toList)(e:x.key=y.key):x=y:=
 Ta (fun _ _ h=>Ne.symm h) h.keys hx hy (fun g=>g e)
theorem Kh.born_inj{f:Array MapEntry}{clock:Nat}{C:List Ec}(h:Kh f clock C){x y:MapEntry}(hx:x∈f.toList)(hy:y∈f.toList)(e:x.born=y.born):x=y:=
 Ta (fun _ _ h=>Ne.symm h) h.born hx hy (fun g=>g e)
theorem Kh.val{f:Array MapEntry}{clock:Nat}{C:List Ec}(h:Kh f clock C){e:MapEntry}(l:e∈f.toList){k:Nat}(hk:e.key=I k):tx C k≠[]∧e.val=St (tx C k):=by
 obtain⟨o,i,g,j⟩:=h.lB e l;rw[hk] at g;have:=pY g;subst this;exact⟨i,j⟩
theorem Kh.empty(n:Nat)(clock:Nat):Kh #[] clock (List.replicate n []):=by
 have e:∀k,tx (List.replicate n []) k=[]:=fun k=>by
  unfold tx;rw[gy,Aep];split<;>rfl
 exact⟨fun _ h=>by simp at h,fun k h=>absurd (e k) h,by simp,by simp,fun _ h=>by simp at h⟩
theorem Kh.push{l:Array MapEntry}{clock:Nat}{C:List Ec}(h:Kh l clock C){k:Nat}{t:Ec}(hk:k<C.length)(ht:t≠[])(o:∀e∈l.toList,e.key≠I k):Kh (l.push ⟨I k,St t,clock⟩) (clock+1) (C.set k t):=by
 have r:∀j,tx C j≠[]→j≠k:=fun j i e=>by
  subst e;obtain⟨e,f,g⟩:=h.all j i;exact o e f g
 refine⟨fun e f=>?_,fun j i=>?_,?_,?_,fun e f=>?_⟩
 ·simp only[Acx,zH,yN] at f;rcases f with f|rfl
  ·obtain⟨j,p,g,J⟩:=h.lB e f;refine⟨j,?_,g,?_⟩<;>rw[Hf hk,yK (r j p)]<;>assumption
  exact⟨k,by rw[Hf hk,yP Z];exact ht,Z,by rw[Hf hk,yP Z]⟩
 ·rw[Hf hk] at i;split at i
  ·rename_i e;exact⟨⟨I k,St t,clock⟩,by simp,by rw[e]⟩
  obtain⟨e,f,g⟩:=h.all j i;exact⟨e,by simp[Array.mem_toList_iff.1 f],g⟩
 ·rw[Acx,Aab];exact⟨h.keys,by simp,fun x hx y hy=>by simp at hy;subst hy;exact o x hx⟩
 ·rw[Acx,Aab];exact⟨h.born,by simp,fun x hx y hy=>by
   simp at hy;subst hy;have:=h.low x hx;show x.born≠clock
   omega⟩
 simp only[Acx,zH,yN] at f;rcases f with f|rfl
 ·have:=h.low e f;omega
 exact Nat.lt_succ_self _
theorem Yx{g:Array MapEntry}{j:Nat}{f:MapEntry→MapEntry}:(g.modify j f).toList=g.toList.modify j f:=Afg
theorem Lc{α:Type}{R:α→α→Prop}{f:α→α}(h1:∀x y,R x y→R (f x) y)(t:∀x y,R x y→R x (f y)):∀{l:List α} (j:Nat),l.Pairwise R→(l.modify j f).Pairwise R
 |[],j,_=>by cases j<;>simp
 |a::r,0,h=>by
  obtain⟨g,o⟩:=Abf.1 h;rw[List.modify_zero_cons];exact Abf.2 ⟨fun y hy=>h1 _ _ (g y hy),o⟩
 |a::r,j+1,h=>by
  obtain⟨g,o⟩:=Abf.1 h;rw[List.modify_succ_cons];refine Abf.2 ⟨fun y hy=>?_,Lc h1 t j o⟩;obtain⟨i,hi⟩:=Aae hy;rw[Acz] at hi;cases p:r[i]? with
  |none=>rw[p] at hi;simp at hi
  |some z=>
   rw[p] at hi;have C:=g z (zx p);split at hi
   ·simp at hi;subst hi;exact t _ _ C
   simp at hi;subst hi;exact C
theorem mem_modify{α:Type}{f:α→α}{l:List α}{j:Nat}{o:α}(h:l[j]?=some o){x:α}(hx:x∈l.modify j f):x=f o∨x∈l:=by
 obtain⟨i,hi⟩:=Aae hx;rw[Acz] at hi;cases g:l[i]? with
 |none=>rw[g] at hi;simp at hi
 |some z=>
  rw[g] at hi;split at hi
  ·rename_i e;subst e;rw[h] at g;injection g with g;subst g;simp at hi;exact .inl hi.symm
  ·simp at hi;subst hi;exact .inr (zx g)
theorem Kh.modify{g:Array MapEntry}{clock:Nat}{C:List Ec}(h:Kh g clock C){k j:Nat}{t:Ec}{J:MapEntry}(hk:k<C.length)(ht:t≠[])(b4:g[j]?=some J)(a6:J.key=I k):Kh (g.modify j fun e=>{e with key:=I k,val:=St t}) clock (C.set k t):=by
 have r:g.toList[j]?=some J:=by simpa using b4
 have a1:J∈g.toList:=zx r;have a7:(g.toList.modify j fun e=>{e with key:=I k,val:=St t}).map (·.key)=g.toList.map (·.key):=by
  apply Abv;intro i;rw[yY,yY,Acz];cases o:g.toList[i]? with
  |none=>rfl
  |some z=>
   by_cases b0:j=i
   ·subst b0;rw[r] at o;injection o with o;subst o;simp[a6]
   simp[b0]
 have c1:∀x∈g.toList.modify j (fun e=>{e with key:=I k,val:=St t}),x.key≠I k→x∈g.toList:=fun x hx a8=>by
  rcases mem_modify r hx with e|e
  ·subst e;exact absurd Z a8
  exact e
 rw[show g.modify j (fun e=>{e with key:=I k,val:=St t})=(g.toList.modify j (fun e=>{e with key:=I k,val:=St t})).toArray by rw[←Yx]];refine⟨fun x hx=>?_,fun i hi=>?_,?_,?_,fun x hx=>?_⟩
 ·rcases mem_modify r hx with e|e
  ·subst e;exact⟨k,by rw[Hf hk,yP Z];exact ht,Z,by rw[Hf hk,yP Z]⟩
  obtain⟨i,b9,U,c0⟩:=h.lB x e;by_cases b1:i=k
  ·subst b1;have b7:=h.key_inj e a1 (U.trans a6.symm)
   subst b7;obtain⟨p,hp⟩:=Aae hx;have b2:=zC (fun l=>l[p]?) a7;simp only[yY] at b2;rw[hp] at b2;rw[Acz] at hp;cases o:g.toList[p]? with
   |none=>rw[o] at hp;simp at hp
   |some z=>
    rw[o] at hp;split at hp
    ·rename_i e;subst e;rw[r] at o;injection o with o;subst o;simp at hp;exact⟨i,by rw[Hf hk,yP Z];exact ht,U,by rw[Hf hk,yP Z,←hp]⟩
    rename_i b6;simp at hp;subst hp;exfalso;exact b6 (iY (fun _ _ h=>Ne.symm h) h.keys r o (fun a8=>a8 Z))
  refine⟨i,?_,U,?_⟩<;>rw[Hf hk,yK b1]<;>assumption
 ·have b5:tx C i≠[]:=by
   rw[Hf hk] at hi;split at hi
   ·rename_i e;subst e;exact(h.val a1 a6).1
   exact hi
  obtain⟨e,b3,U⟩:=h.all i b5;have:I (i:Int)∈(g.toList.modify j fun e=>{e with key:=I k,val:=St t}).map (·.key):=by rw[a7];exact zc.2 ⟨e,b3,U⟩
  obtain⟨x,hx,b8⟩:=zc.1 this;exact⟨x,hx,b8⟩
 ·have:=Aef.2 h.keys;rw[←a7] at this;exact Aef.1 this
 ·exact Lc (f:=fun e:MapEntry=>{e with key:=I k,val:=St t}) (R:=fun x y:MapEntry=>x.born≠y.born) (fun _ _ (h:MapEntry.born _≠MapEntry.born _)=>h) (fun _ _ (h:MapEntry.born _≠MapEntry.born _)=>h) j h.born
 rcases mem_modify r hx with e|e
 ·subst e;exact h.low J a1
 exact h.low x e
def LR(w:World)(b:Nat)(C:List Ec):Prop:=∃f clock,w.heap[b]?=some (.map f clock)∧Kh f clock C
structure Je (c:Nat→Nat) (w:World) (i b:Nat) (C:List Ec):Prop where
 obj:LR w b C
 Bf:c b=i
section
variable {c c':Nat→Nat} {w w':World} {i b:Nat} {C:List Ec}
theorem LR.lt(h:LR w b C):b<w.heap.size:=by obtain⟨g,clock,f,_⟩:=h;exact BA f
theorem LR.keep(h:LR w b C)(hk:w'.heap[b]?=w.heap[b]?):LR w' b C:=by obtain⟨f,clock,g,h⟩:=h;exact⟨f,clock,hk.trans g,h⟩
theorem Je.mv{I:List Nat}(h:Je c w i b C)(m:Mv c w c' w' I:=by exact Go.Eng.Jb)(hi:AA I i=false:=by rfl):Je c' w' i b C:=
 ⟨h.obj.keep (m.block b h.obj.lt (by rw[h.Bf];exact hi)),(m.Bf b h.obj.lt).trans h.Bf⟩
end
section
variable {P:Program} {env:Env} {w:World} {ty:TypeId} {b:Nat} {C:List Ec}
theorem OQ{k:Nat}(hk:k≤9223372036854775807):(Lit.int .i64 (k:Int)).wf=true:=by
 simp[Lit.wf,IntKind.min,IntKind.max,IntKind.bits,IntKind.signed];omega
structure Ng (P:Program) (t k e:TypeId):Prop where
 eV:P.underlying t=some (.map k e)
 key:P.underlying k=some (.int .i64)
 zero:(P.info? e).bind (·.zero)=some (St [])
theorem Ng.zeroV{t k e:TypeId}(h:Ng P t k e)(w:World):(zeroValue e).run P w= .ok (St []) w:=by
 have:=h.zero;cases hi:P.info? e with
 |none=>rw[hi] at this;cases this
 |some i=>
  rw[hi] at this;have f:i.zero=some (St []):=this;simp[zeroValue,typeInfo,Sem.run,hi,f]
theorem Kh.find{f:Array MapEntry}{clock:Nat}(h:Kh f clock C){kt:TypeId}(hk:P.underlying kt=some (.int .i64))(a1:C.length≤9223372036854775807){k:Nat}(J:k≤9223372036854775807)(w:World):
 ((Instr.findKey kt (I k) f.toList).run P w= .ok none w∧(∀e∈f.toList,e.key≠I k)∧tx C k=[])∨∃j e,(Instr.findKey kt (I k) f.toList).run P w= .ok (some (j,e.val)) w∧f[j]?=some e∧e.key=I k∧e.val=St (tx C k)∧tx C k≠[]:=by
 have K:=Maps.int_keyed (P:=P) hk;have R:∀e∈f.toList,∃l,keyOf P kt e.key=some l:=fun e o=>by
  obtain⟨j,i,g,_⟩:=h.lB e o;rw[g];exact⟨_,Adp hk (OQ (by have:=da i;omega))⟩
 rcases K.find w (Adp hk (OQ J)) f.toList R with⟨i,g⟩|⟨j,e,i,g,p⟩
 ·refine .inl ⟨i,g,Aed fun U=>?_⟩;obtain⟨e,o,t⟩:=h.all k U;exact g e o t
 have r:f[j]?=some e:=by simpa using g
 have hv:=h.val (zx g) p;exact .inr ⟨j,e,i,r,p,hv.2,hv.1⟩
theorem OR{kt:TypeId}(hk:P.underlying kt=some (.int .i64))(em:Bool){k:Nat}(f:k≤9223372036854775807)(w:World):(Instr.checkKey em 10000 kt (I k)).run P w= .ok () w:=
 (Maps.int_keyed (P:=P) hk).check w em (Adp hk (OQ f))
theorem Ay.makeMap{t:TypeId}(n:Nat):Ay P env w (.makeMap t none) ty (fun v w'=>Below w.heap.size w w'∧v= .map (some w.heap.size)∧LR w' w.heap.size (List.replicate n [])∧w'.heap.size=w.heap.size+1):=
 Dp fun _ a i d pos f g=>⟨.map (some w.heap.size),w.alloc (.map #[] 0),by simp[execOp,Instr.makeMap],(zy _ _).alloc (lx _) _,Z,⟨#[],0,Acd _ _,Kh.empty n 0⟩,Age _ _⟩
theorem rm{t kt e:TypeId}{m x y:Operand}(f:Ng P t kt e)(a7:Ba env m=some (.map (some b)))(b1:LR w b C){k:Nat}{s:Ec}(hx:Ba env x=some (I k))(hy:Ba env y=some (St s))(hk:k<C.length)(b0:C.length≤9223372036854775807)(hs:s≠[]):
 Ay P env w (.mapUpdate t m x y) ty (fun _ w'=>LR w' b (C.set k s)∧w.grownBy w' (some b)):=
 Jj fun _ a p d pos b3 g=>by
  obtain⟨U,clock,l,R⟩:=b1;have a8:∀o,(setBlock w b o).heap[b]?=some o:=fun o=>heap_setBlock_same l o;have a6:∀o,w.grownBy (setBlock w b o) (some b):=fun o=>⟨Z,Z,Z,by simp[setBlock],fun i _ hi=>heap_setBlock_other l o (fun e=>hi (by rw[e]))⟩;have Mq:=OR (P:=P) f.key false (k:=k) oo w;rcases R.find (P:=P) f.key b0 (k:=k) oo w with⟨J,r,_⟩|⟨j,b4,J,r,a1,_,_⟩
  ·refine⟨setBlock w b (.map (U.push ⟨I k,St s,clock⟩) (clock+1)),?_,⟨_,_,a8 _,R.push hk hs r⟩,a6 _⟩;simp[execOp,p.eval a7,p.eval hx,p.eval hy,Instr.mapUpdate,yH f.eV,Aax l,Mq,J,Acu _ l,Result.andThen,setBlock]
  refine⟨setBlock w b (.map (U.modify j fun e=>{e with key:=I k,val:=St s}) clock),?_,⟨_,_,a8 _,R.modify hk hs r a1⟩,a6 _⟩;have b2:(Instr.keyThatStays (I k) (I k)).run P w= .ok (I k) w:=(Maps.int_keyed (P:=P) f.key).stays w (Adp f.key (OQ oo));simp[execOp,p.eval a7,p.eval hx,p.eval hy,Instr.mapUpdate,yH f.eV,Aax l,Mq,J,r,a1,b2,Acu _ l,Result.andThen,setBlock]
theorem eW{t kt e:TypeId}(f:Ng P t kt e)(a1:LR w b C){k:Nat}(hk:k≤9223372036854775807)(R:C.length≤9223372036854775807)(ok:Bool):(Instr.lookup t (.map (some b)) (I k) ok).run P w= .ok (if ok then .tuple #[St (tx C k), .bool (!(tx C k).isEmpty)] else St (tx C k)) w:=by
 obtain⟨o,clock,l,U⟩:=a1;have Mq:=OR (P:=P) f.key o.isEmpty hk w;rcases U.find (P:=P) f.key R hk w with⟨g,p,i⟩|⟨j,a6,g,p,i,r,J⟩
 ·simp[Instr.lookup,yH f.eV,Aax l,Mq,g,f.zeroV,Result.andThen,i];try(cases ok<;>simp)
 ·simp[Instr.lookup,yH f.eV,Aax l,Mq,g,Result.andThen,r];cases ok<;>simp[J]
theorem vN{t kt e:TypeId}{m x:Operand}(j:Ng P t kt e)(l:Ba env m=some (.map (some b)))(o:LR w b C){k:Nat}(hx:Ba env x=some (I k))(hk:k≤9223372036854775807)(i:C.length≤9223372036854775807):
 Bp P env w (.lookup t m x true) ty (.tuple #[St (tx C k), .bool (!(tx C k).isEmpty)]):=fun _ a f d pos p g=>by
 simp[execOp,f.eval l,f.eval hx,eW j o hk i,Result.andThen]
theorem rn{t kt e:TypeId}{m:Operand}(j:Ng P t kt e)(l:Ba env m=some (.map (some b)))(o:LR w b C):Ay P env w (.call ⟨.builtin .clear,#[m],#[t]⟩) ty (fun _ w'=>LR w' b (List.replicate C.length [])∧w.grownBy w' (some b)):=
 Dp fun _ a p d pos r g=>by
  obtain⟨I,clock,f,J⟩:=o;refine⟨.tuple #[],setBlock w b (.map #[] clock),?_,⟨_,_,heap_setBlock_same f _,Kh.empty _ _⟩,⟨Z,Z,Z,by simp[setBlock],fun i _ hi=>heap_setBlock_other f _ (fun e=>hi (by rw[e]))⟩⟩;simp[execOp,resolve,invoke,builtin,Builtin.clear_,p.eval l,yH j.eV,Aax f,Acu _ f,Result.andThen,setBlock]
end
end Go.Eng
