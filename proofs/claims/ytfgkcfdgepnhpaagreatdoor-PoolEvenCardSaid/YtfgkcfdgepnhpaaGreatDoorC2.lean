/- The program, walked: part 2. No condition. -/
import Derived.Test.YtfgkcfdgepnhpaaGreatDoorC1
set_option linter.unusedSimpArgs false
set_option linter.unusedVariables false
set_option maxRecDepth 100000
set_option maxHeartbeats 4000000
open Go.Proofs.Tryz renaming prog → QP
variable {c : Nat → Nat} {w : Go.World}
namespace Go.Eng
open Go.RowKit Go.Proofs Go.Proofs.Tryz
variable {α:Type}{k m n i life:Nat}{s:List UInt8}{css:List (List Value)}{l:List Int}{w' h N:World}{cs news b:List Value}{c' j:Nat→Nat}{va a y:Value}{d A:TypeId}{e:List Nat}{f K:Operand}{g:Option (Nat×Bool)}{o:Array Edge}{p:Int}{q:List (List Int)}{r:Value→World→Prop}{u:List (Int×Int)}{v:String}{x:List Bool}{z:CO}{B:Bool}{H:Program}{J:Option (Rec×List UInt8)}{P:List Rec}{R:IntKind}{S:FuncId}{T:Option Nat}{W:Tx}{X:World→Prop}{Y:List (List Rec)}{encs:α→List Value}{Qjq:List α→α→(Nat→Nat)→World→Prop}{Fin:List α→Prop}{t:List α}
open List (replicate)
theorem lY{r:Rec}(h:FT r=true):PI r=r:=by
 obtain⟨_,_,f,_,_,_,_,_,j,o⟩:=(HZ r).1 h;cases r with
 |mk k i n d l s=>
  simp only[PI,Rec.mk.injEq,true_and,Ae4];refine⟨lW f,?_,?_⟩
  ·exact(Abw (g:=id) fun x hx=>lW (j x hx)).trans (Aep _)
  exact(Abw (g:=id) fun x hx=>by show(x.1,mI x.2)=x;rw[pU (o x hx)]).trans (Aep _)
theorem lZ{r:Rec}(h:FT (PI r)=true):PI r=r:=by
 obtain⟨_,_,f,_,_,_,_,_,j,o⟩:=(HZ _).1 h;cases r with
 |mk k i n d l s=>
  simp only[PI] at f j o;simp only[PI,Rec.mk.injEq,true_and,Ae4];refine⟨lX f,?_,?_⟩
  ·exact(Abw (g:=id) fun x hx=>lX (j _ (Aag.2 ⟨x,hx,Z⟩))).trans (Aep _)
  exact(Abw (g:=id) fun x hx=>by show(x.1,mI x.2)=x;rw[pV (o _ (Aag.2 ⟨x,hx,Z⟩))]).trans (Aep _)
theorem ui(x:Rec×List UInt8):QX (mX x)=QX x:=by
 obtain⟨r,s⟩:=x;show QX (PI r,s)=QX (r,s)
 by_cases h:FT r=true
 ·rw[lY h]
 ·have f:¬FT (PI r)=true:=fun e=>h (by rw[←lZ e];exact e);simp[QX,h,f]
theorem Wv(s:List UInt8):EC minus s=EC plain s:=by
 cases s with
 |nil=>rfl
 |cons k s=>
  have f:(EV (k.toNat:Int),s)=mX (EV k.toNat,s):=by simp[mX,PI,EV,mI]
  show(Dm minus (Cb k.toNat) (EV k.toNat,s)).bind QX=(Dm plain (Cb k.toNat) (EV k.toNat,s)).bind QX
  rw[show Dm minus (Cb k.toNat) (EV k.toNat,s)=Dm minus (Cb k.toNat) (mX (EV k.toNat,s)) by rw[←f],Xh];cases Dm plain (Cb k.toNat) (EV k.toNat,s) with
  |none=>rfl
  |some x=>exact ui x
theorem Zc:∀(s:Nat) (n:Int),be (s+1) n=be s (n/256)++[MO n]
 |0,n=>by simp[be]
 |s+1,n=>by
  have e:n/256/256^s=n/256^(s+1):=by
   rw[Int.ediv_ediv_of_nonneg AO,Int.pow_succ,Int.mul_comm]
  show MO (n/256^(s+1))::be (s+1) n=(MO (n/256/256^s)::be s (n/256))++[MO n]
  rw[Zc s n,e];rfl
theorem aK(m:Nat)(b:UInt8):MO (((m*256+b.toNat:Nat)):Int)=b:=by
 rw[YI];have h:(((m*256+b.toNat:Nat)):Int)%256=(b.toNat:Int):=by
  have:=b.toNat_lt;omega
 rw[h];have f:((b.toNat:Int)%256).toNat=b.toNat:=by have:=b.toNat_lt;omega
 unfold MO;rw[f];exact UInt8.ofNat_toNat
theorem UM(l:List UInt8):be l.length (Bi l:Nat)=l:=by
 obtain⟨r,f⟩:∃r,r=l.reverse:=⟨_,Z⟩;induction r generalizing l with
 |nil=>have:l=[]:=by simpa using f.symm
       subst this;rfl
 |cons b r g=>
  have hl:l=r.reverse++[b]:=by rw[←List.reverse_reverse l,←f,List.reverse_cons]
  subst hl;have h:=g r.reverse Bb;rw[ft,Abt,Zc,Jy,aK];have e:((Bi r.reverse*256+b.toNat:Nat):Int)/256=(Bi r.reverse:Nat):=by
   have:=b.toNat_lt;omega
  rw[e,h]
theorem Iu{a b:List UInt8}(h:Gp n s=some (a,b)):s=a++b∧a.length=n:=by
 unfold Gp at h;split at h
 ·rename_i hl;simp only[Abe,Ab1] at h;obtain⟨rfl,rfl⟩:=h;exact⟨(Aas n s).symm,by rw[kL];omega⟩
 ·cases h
theorem ON{t:List UInt8}(h:Kh plain s=some (p,t)):s=be 4 p++t:=by
 unfold Kh at h;cases hp:Gp 4 s with
 |none=>rw[hp] at h;cases h
 |some x=>
  obtain⟨a,b⟩:=x;rw[hp] at h;simp only[Aa7,Abe,Ab1] at h;obtain⟨rfl,rfl⟩:=h;obtain⟨e,hl⟩:=Iu hp;rw[e];have:=UM a;rw[hl] at this;show a++b=be 4 (plain (Bi a))++b
  rw[show plain (Bi a)=((Bi a:Nat):Int) from Z,this]
theorem dP{t:List UInt8}(h:Kh minus s=some (p,t)):s=be 4 p++t:=by
 rw[UL] at h;cases hp:Kh plain s with
 |none=>rw[hp] at h;cases h
 |some x=>
  obtain⟨m,b⟩:=x;rw[hp] at h;simp only[Aa7,Abe,Ab1] at h;obtain⟨rfl,rfl⟩:=h;rw[ON hp];congr 1;unfold mI;split
  ·rename_i e;subst e;exact Qx 4 _ _ AO
  ·rfl
theorem UN:∀(n:Nat) {s t:List UInt8} {l:List Int},Jo plain n s=some (l,t)→s=l.flatMap (be 4)++t∧l.length=n
 |0,s,t,l,h=>by
  simp only[Jo,Abe,Ab1] at h;obtain⟨rfl,rfl⟩:=h;exact⟨Z,Z⟩
 |n+1,s,t,l,h=>by
  simp only[Jo] at h;cases hp:Kh plain s with
  |none=>rw[hp] at h;cases h
  |some x=>
   obtain⟨m,b⟩:=x;rw[hp] at h;simp only[Aa5] at h;cases f:Jo plain n b with
   |none=>rw[f] at h;cases h
   |some y=>
    obtain⟨g,i⟩:=y;rw[f] at h;simp only[Aa7,Abe,Ab1] at h;obtain⟨rfl,rfl⟩:=h;obtain⟨e,hl⟩:=UN n f;rw[ON hp,e];exact⟨by simp[Aaa],by simp[hl]⟩
theorem Oa:∀(n:Nat) {s t:List UInt8} {l:List (Int×Int)},Gq plain minus n s=some (l,t)→s=l.flatMap PF++t∧l.length=n
 |0,s,t,l,h=>by
  simp only[Gq,Abe,Ab1] at h;obtain⟨rfl,rfl⟩:=h;exact⟨Z,Z⟩
 |n+1,s,t,l,h=>by
  simp only[Gq] at h;cases hp:Kh minus s with
  |none=>rw[hp] at h;cases h
  |some x=>
   obtain⟨m,b⟩:=x;rw[hp] at h;simp only[Aa5] at h;cases f:Kh plain b with
   |none=>rw[f] at h;cases h
   |some i=>
    obtain⟨o,b2⟩:=i;rw[f] at h;simp only[Aa5] at h;cases g:Gq plain minus n b2 with
    |none=>rw[g] at h;cases h
    |some y=>
     obtain⟨j,p⟩:=y;rw[g] at h;simp only[Aa7,Abe,Ab1] at h;obtain⟨rfl,rfl⟩:=h;obtain⟨e,hl⟩:=Oa n g;rw[dP hp,ON f,e];exact⟨by simp[Aaa,PF],by simp[hl]⟩
theorem dQ(h:s.length=1):s=be 1 ((Bi s:Nat):Int):=by
 have:=UM s;rw[h] at this;exact this.symm
theorem LO{c:Nat}{r f:Rec}{t:List UInt8}(h:BT plain c (r,s)=some (f,t))(hl:r.list=[])(hs:r.Bo=[]):
 (c=105∧f={r with id:=f.id}∧s=be 4 f.id++t)∨
 (c=110∧f={r with name:=f.name}∧s=be 1 f.name.length++f.name++t)∨
 (c=100∧f={r with AK:=f.AK}∧s=f.AK++t)∨
 (c=108∧f={r with list:=f.list}∧s=be 4 f.list.length++f.list.flatMap (be 4)++t)∨
 (c=115∧f={r with Bo:=f.Bo}∧s=be 1 f.Bo.length++f.Bo.flatMap PF++t)∨
 (c≠105∧c≠110∧c≠100∧c≠108∧c≠115):=by
 unfold BT at h;split at h
 ·left;cases hp:Kh plain s with
  |none=>rw[hp] at h;cases h
  |some x=>
   rw[hp] at h;simp only[Aa7,Abe,Ab1] at h;obtain⟨rfl,rfl⟩:=h;exact⟨Z,Z,ON hp⟩
 ·right;left;cases hp:Gp 1 s with
  |none=>rw[hp] at h;cases h
  |some x=>
   rw[hp] at h;simp only[Aa5] at h;cases g:Gp (Bi x.1) x.2 with
   |none=>rw[g] at h;cases h
   |some y=>
    rw[g] at h;simp only[Aa7,Abe,Ab1] at h;obtain⟨rfl,rfl⟩:=h;obtain⟨i,l⟩:=Iu hp;obtain⟨j,o⟩:=Iu g;refine⟨Z,Z,?_⟩;show s=be 1 ((y.1.length:Nat):Int)++y.1++y.2
    rw[o,←dQ l,i,oo,←j]
 ·right;right;left;cases hp:Gp 32 s with
  |none=>rw[hp] at h;cases h
  |some x=>
   rw[hp] at h;simp only[Aa7,Abe,Ab1] at h;obtain⟨rfl,rfl⟩:=h;exact⟨Z,Z,(Iu hp).1⟩
 ·right;right;right;left;cases hp:Gp 4 s with
  |none=>rw[hp] at h;cases h
  |some x=>
   rw[hp] at h;simp only[Aa5] at h;cases g:Jo plain (Bi x.1) x.2 with
   |none=>rw[g] at h;cases h
   |some y=>
    rw[g] at h;simp only[Aa7,Abe,Ab1] at h;obtain⟨rfl,rfl⟩:=h;obtain⟨i,l⟩:=Iu hp;obtain⟨j,o⟩:=UN _ g;refine⟨Z,by simp[hl],?_⟩;simp only[hl,Abu];have p:=UM x.1;rw[l] at p;rw[o,p,i,oo,←j]
 ·right;right;right;right;left;cases hp:Gp 1 s with
  |none=>rw[hp] at h;cases h
  |some x=>
   rw[hp] at h;simp only[Aa5] at h;cases g:Gq plain minus (Bi x.1) x.2 with
   |none=>rw[g] at h;cases h
   |some y=>
    rw[g] at h;simp only[Aa7,Abe,Ab1] at h;obtain⟨rfl,rfl⟩:=h;obtain⟨i,l⟩:=Iu hp;obtain⟨j,o⟩:=Oa _ g;refine⟨Z,by simp[hs],?_⟩;simp only[hs,Abu];rw[o,←dQ l,i,oo,←j]
 rename_i C I J R U;right;right;right;right;right;exact⟨C,I,J,R,U⟩
theorem pF1{φ:Nat→Int}{c:UInt8}{x y:Rec×List UInt8}(h:Dm φ [c] x=some y):BT φ c.toNat x=some y:=by
 simpa[Dm] using h
theorem pF2{φ:Nat→Int}{c d:UInt8}{x y:Rec×List UInt8}(h:Dm φ [c,d] x=some y):∃z,BT φ c.toNat x=some z∧BT φ d.toNat z=some y:=by
 simpa[Dm,Aeo] using h
theorem pF3{φ:Nat→Int}{c d e:UInt8}{x y:Rec×List UInt8}(h:Dm φ [c,d,e] x=some y):∃z,BT φ c.toNat x=some z∧∃u,BT φ d.toNat z=some u∧BT φ e.toNat u=some y:=by
 simpa[Dm,Aeo] using h
theorem fI{r f:Rec}{t:List UInt8}(h:BT plain 105 (r,s)=some (f,t))(hl:r.list=[])(hs:r.Bo=[]):f={r with id:=f.id}∧s=be 4 f.id++t:=by
 rcases LO h hl hs with⟨_,a,b⟩|⟨e,_⟩|⟨e,_⟩|⟨e,_⟩|⟨e,_⟩|⟨e,_⟩
 ·exact⟨a,b⟩
 all_goals exact absurd e AO
theorem fN{r f:Rec}{t:List UInt8}(h:BT plain 110 (r,s)=some (f,t))(hl:r.list=[])(hs:r.Bo=[]):f={r with name:=f.name}∧s=be 1 f.name.length++f.name++t:=by
 rcases LO h hl hs with⟨e,_⟩|⟨_,a,b⟩|⟨e,_⟩|⟨e,_⟩|⟨e,_⟩|⟨_,e,_⟩
 ·exact absurd e AO
 ·exact⟨a,b⟩
 all_goals exact absurd e AO
theorem fD{r f:Rec}{t:List UInt8}(h:BT plain 100 (r,s)=some (f,t))(hl:r.list=[])(hs:r.Bo=[]):f={r with AK:=f.AK}∧s=f.AK++t:=by
 rcases LO h hl hs with⟨e,_⟩|⟨e,_⟩|⟨_,a,b⟩|⟨e,_⟩|⟨e,_⟩|⟨_,_,e,_⟩
 ·exact absurd e AO
 ·exact absurd e AO
 ·exact⟨a,b⟩
 all_goals exact absurd e AO
theorem fL{r f:Rec}{t:List UInt8}(h:BT plain 108 (r,s)=some (f,t))(hl:r.list=[])(hs:r.Bo=[]):f={r with list:=f.list}∧s=be 4 f.list.length++f.list.flatMap (be 4)++t:=by
 rcases LO h hl hs with⟨e,_⟩|⟨e,_⟩|⟨e,_⟩|⟨_,a,b⟩|⟨e,_⟩|⟨_,_,_,e,_⟩
 ·exact absurd e AO
 ·exact absurd e AO
 ·exact absurd e AO
 ·exact⟨a,b⟩
 all_goals exact absurd e AO
theorem fS{r f:Rec}{t:List UInt8}(h:BT plain 115 (r,s)=some (f,t))(hs:r.Bo=[]):f={r with Bo:=f.Bo}∧s=be 1 f.Bo.length++f.Bo.flatMap PF++t:=by
 unfold BT at h;cases hp:Gp 1 s with
 |none=>rw[show(115:Nat)=115 from Z] at h;simp[hp] at h
 |some x=>
  simp only[hp,Aa5] at h;cases g:Gq plain minus (Bi x.1) x.2 with
  |none=>rw[g] at h;cases h
  |some y=>
   rw[g] at h;simp only[Aa7,Abe,Ab1] at h;obtain⟨rfl,rfl⟩:=h;obtain⟨i,l⟩:=Iu hp;obtain⟨j,o⟩:=Oa _ g;refine⟨Z,?_⟩;simp only[hs,Abu];rw[o,←dQ l,i,oo,←j]
theorem dR{r:Rec}(h:EC plain s=some r):bytesOf r=s∧FT r=true:=by
 cases s with
 |nil=>cases h
 |cons k s=>
  simp only[EC] at h;obtain⟨⟨l,t⟩,hf,U⟩:=Aeo.1 h;unfold QX at U;split at U
  ·rename_i hc;obtain⟨ht,a6⟩:=hc;dsimp only at ht a6;subst ht;simp only[Option.some.injEq] at U;subst U;refine⟨?_,a6⟩;have g:be 1 (k.toNat:Int)=[k]:=by
    have:=aK 0 k;simp only[Ac4,Abs] at this;simp[be,this]
   have i:(k.toNat:Int)=1∨(k.toNat:Int)=2∨(k.toNat:Int)=3∨(k.toNat:Int)=4∨(k.toNat:Int)=5∨(k.toNat:Int)=6∨(k.toNat:Int)=7∨(k.toNat:Int)=8∨(k.toNat:Int)=0∨8<(k.toNat:Int):=G;have f:∀{a b:Rec},a=b→a.Ar=b.Ar:=fun h=>by rw[h]
   clear f;have I:∀t:List UInt8,k::t=[k]++t:=fun _=>rfl;rcases i with h|h|h|h|h|h|h|h|h|h
   ·rw[h] at hf g;obtain⟨⟨p,a7⟩,i,o⟩:=pF2 hf;obtain⟨f,b1⟩:=fI i Z Z;generalize p.id=J at f b1;subst f;obtain⟨j,b2⟩:=fS o Z;generalize l.Bo=a8 at j b2;subst j;subst b2;subst b1;rw[I,←g];simp[bytesOf,A4,A3,A2,A1,bI,bN,bL,bS,EV,hasB,Cb,oo]
   ·rw[h] at hf g;obtain⟨⟨p,a7⟩,i,⟨a1,b0⟩,o,R⟩:=pF3 hf;obtain⟨f,b1⟩:=fI i Z Z;generalize p.id=J at f b1;subst f;obtain⟨j,b2⟩:=fL o Z Z;generalize a1.list=a8 at j b2;subst j;obtain⟨C,b3⟩:=fS R Z;generalize l.Bo=b4 at C b3;subst C;subst b3;subst b2;subst b1;rw[I,←g];simp[bytesOf,A4,A3,A2,A1,bI,bN,bL,bS,EV,hasB,Cb,oo]
   ·rw[h] at hf g;have i:=pF1 hf;obtain⟨f,b1⟩:=fI i Z Z;generalize l.id=J at f b1;subst f;subst b1;rw[I,←g];simp[bytesOf,A4,A3,A2,A1,bI,bN,bL,bS,EV,hasB,Cb,oo]
   ·rw[h] at hf g;obtain⟨⟨p,a7⟩,i,⟨a1,b0⟩,o,R⟩:=pF3 hf;obtain⟨f,b1⟩:=fI i Z Z;generalize p.id=J at f b1;subst f;obtain⟨j,b2⟩:=fD o Z Z;generalize a1.AK=a8 at j b2;subst j;obtain⟨C,b3⟩:=fL R Z Z;generalize l.list=b4 at C b3;subst C;subst b3;subst b2;subst b1;rw[I,←g];simp[bytesOf,A4,A3,A2,A1,bI,bN,bL,bS,EV,hasB,Cb,oo]
   ·rw[h] at hf g;obtain⟨⟨p,a7⟩,i,⟨a1,b0⟩,o,R⟩:=pF3 hf;obtain⟨f,b1⟩:=fI i Z Z;generalize p.id=J at f b1;subst f;obtain⟨j,b2⟩:=fD o Z Z;generalize a1.AK=a8 at j b2;subst j;obtain⟨C,b3⟩:=fL R Z Z;generalize l.list=b4 at C b3;subst C;subst b3;subst b2;subst b1;rw[I,←g];simp[bytesOf,A4,A3,A2,A1,bI,bN,bL,bS,EV,hasB,Cb,oo]
   ·rw[h] at hf g;have i:=pF1 hf;obtain⟨f,b1⟩:=fD i Z Z;generalize l.AK=J at f b1;subst f;subst b1;rw[I,←g];simp[bytesOf,A4,A3,A2,A1,bI,bN,bL,bS,EV,hasB,Cb,oo]
   ·rw[h] at hf g;obtain⟨⟨p,a7⟩,i,o⟩:=pF2 hf;obtain⟨f,b1⟩:=fN i Z Z;generalize p.name=J at f b1;subst f;obtain⟨j,b2⟩:=fD o Z Z;generalize l.AK=a8 at j b2;subst j;subst b2;subst b1;rw[I,←g];simp[bytesOf,A4,A3,A2,A1,bI,bN,bL,bS,EV,hasB,Cb,oo]
   ·rw[h] at hf g;have i:=pF1 hf;obtain⟨f,b1⟩:=fN i Z Z;generalize l.name=J at f b1;subst f;subst b1;rw[I,←g];simp[bytesOf,A4,A3,A2,A1,bI,bN,bL,bS,EV,hasB,Cb,oo]
   ·rw[h] at hf;have e:l=EV 0:=by
     have f:some (EV 0,s)=some (l,([]:List UInt8)):=hf;injection f with f;injection f with f _;exact f.symm
    subst e;exact absurd a6 AO
   have g:Cb (k.toNat:Int)=[]:=by
    unfold Cb
    repeat rw[ss G]
   rw[g] at hf;have e:l=EV k.toNat:=by
    have f:some (EV k.toNat,s)=some (l,([]:List UInt8)):=hf;injection f with f;injection f with f _;exact f.symm
   subst e;have:=((HZ _).1 a6).1;have f:KL (EV (k.toNat:Int))=true:=by
    show(decide ((k.toNat:Int)<1)||decide ((8:Int)<(k.toNat:Int)))=true
    rw[Aa3,pn,pn];omega
   rw[f] at this;cases this
  cases U
def Iv(r:Rec)(n:Int):List UInt8:=be 3 (bytesOf r).length++be 4 n++bytesOf r
theorem sU(r:CJ w k 5 1 a m (AS s))(BH:k≤w.heap.size)(n size:Int)(p:0≤size)(C:size≤8)(J:m≤1099511627776):
 Calls QP 227 #[a, .int .u64 n,I size] w (Bt fun v' w'=>Kept w w' a.rowOf v'.rowOf∧CJ w' k 5 1 v' (m+size.toNat) (AS (s++be size.toNat n))):=by
 obtain⟨l,rfl⟩:=Int.eq_ofNat_of_zero_le p;have hs:l≤8:=G;have g:Kept w w a.rowOf a.rowOf:=Kept.refl _ _;refine AY 23 #[.tmp 6] func227 Z<|Q<|V Z<|Ag<|Q<|M Z<|E (Gu Z Z Ai Ai) ?_;refine V Z<|An<|AG (σ:=Nat×Value) (fun f=>[(0,f.2),(1, .int .u64 n),(2,I l),(7,I ((f.1:Int)-1))]) (fun f w'=>CJ w' k 5 1 f.2 (m+(l-f.1)) (AS (s++(be l n).take (l-f.1)))∧f.1≤l∧Kept w w' a.rowOf f.2.rowOf∧k≤w'.heap.size) (fun f=>f.1) (l,a) AL ⟨by simpa using r,Nat.le_refl _,g,BH⟩ ?_;rintro⟨base,a⟩ f ⟨f,O,g,BH⟩;dsimp only at f O g⊢;refine Ag<|Q<|M Z<|E (Dh Z Z)<|Ah<|BA Z (fun i=>?_) fun i=>?_
 ·obtain⟨j,rfl⟩:∃j,base=j+1:=⟨base-1,G⟩;have i:((j+1:Nat):Int)-1=(j:Int):=G;rw[i];refine As<|Ag<|An<|cg<|M Z<|M Z<|M Z<|E (HK Z Z Ai Ai)<|E (al Z Z Ai (by simp[IntKind.bits]<;>omega)) ?_;refine E (KT underlying278 underlying5 Z)<|ve (FM EE Z Z Z Z Z) ?_;rintro _ w1 ⟨i,rfl,o⟩;have i:=o.below;replace f:=f.up i;replace g:=g.up i;replace BH:=rX BH i.size;refine ve (Fp EE Z Z f (Aw underlying74 o.AE.AT Z Bg) Fh Fg BH) ?_;intro t w2 i;have o:=i.Pz f BH;replace BH:=rX BH o.size;replace f:=i.own;replace g:=g.trans i.wa;have i:AS (s++(be l n).take (l-(j+1)))++[Value.int .u8 (MO (n/2^(8*(j:Int)).toNat)).toNat]=AS (s++(be l n).take (l-j)):=by
   have:(8*(j:Int)).toNat=8*j:=G;rw[YH l j n O,this,zI];simp[AS]
  rw[i,show m+(l-(j+1))+1=m+(l-j) by omega] at f;refine V Z<|cg<|M Z<|E (Gu Z Z Ai Ai)<|V Z ?_;exact⟨(j,t),AL,⟨f,G,g,BH⟩,by simp⟩
 refine Az Z<|Q<|M Z<|V Z<|Af Z Z ?_;have:base=0:=G;subst this;refine⟨g,?_⟩;rw[Ag2,au] at f;simpa using f
theorem Sg(j:CJ w k 5 1 a m (AS s))(BH:k≤w.heap.size)(n:Int)(g:m≤1099511627776):
 Calls QP 274 #[a,I n] w (Bt fun v' w'=>Kept w w' a.rowOf v'.rowOf∧CJ w' k 5 1 v' (m+4) (AS (s++be 4 n))):=by
 have o:0≤n%4294967296:=Ael _ AO;have p:n%4294967296<4294967296:=Aen _ AO;have f:be 4 (n%4294967296)=be 4 n:=Qx 4 _ _ (by show n%4294967296%4294967296=n%4294967296;exact Agj _ ⟨1,Z⟩);refine AY 10 #[.tmp 4] func274 Z<|Q<|V Z<|Q<|M Z<|M Z<|E (hP underlying3 underlying297 Z)<|E (ED underlying297 underlying278 Z Ai Ai) ?_;refine ve (Ab Li Z (sU j BH (n%4294967296) 4 AO AO g)) ?_;rintro r w1 ⟨O,i⟩;refine V Z<|Af Z Z ?_;rw[←f];exact⟨O,i⟩
theorem be1(n:Int):be 1 n=[MO n]:=by simp[be]
theorem GI(a b:List UInt8):AS (a++b)=AS a++AS b:=by simp[AS]
def cL(r:Rec):List UInt8:=if hasB r.Ar 108 then be 4 r.list.length else[]
def cS(r:Rec):List UInt8:=if hasB r.Ar 115 then be 1 r.Bo.length else[]
theorem ma{r:Rec}(h:UA w cs r)(b6:r.name.length≤1000000)(hd:r.AK.length≤1000000)(b5:r.list.length≤1000000)(b8:r.Bo.length≤1000000)(a7:hasB r.Ar 108=false→r.list=[])(a8:hasB r.Ar 115=false→r.Bo=[]):
 Calls QP 273 #[.agg cs.toArray] w (Bt fun v w'=>Below w.heap.size w w'∧v=St (bytesOf r)):=by
 obtain⟨vl,vs,rfl,hl,hs,f⟩:=h;obtain⟨g,g,g,g⟩:=f;have f:=hl.AD;have f:=hs.AD;have f:=lP r;have f:(A2 r).length≤1000006:=by
  simp only[A2,bN,ft];split
  ·simp only[ft,Be];omega
  simp;omega
 have f:(A3 r).length≤2000006:=by simp only[A3,ft];omega
 have f:(A4 r).length≤6000010:=by
  simp only[A4,bL,ft];split
  ·simp only[ft,Be,Mr];omega
  simp;omega
 have hK:FY w w:=Bf w;refine AY 82 #[.tmp 2] func273 Z<|Q<|ve (IQ Z) ?_;rintro _ w1 ⟨b1,rfl,i⟩;have g:=i.below;have f:=i.AE;refine V Z<|Ag ?_;obtain⟨B,i⟩:∃B,B=w1.heap.size:=⟨_,Z⟩;have BH:B≤w1.heap.size:=Ado i;replace hK:=hK.up g;replace f:=f.fix;replace hK:=FY.fix hK;replace hl:=hl.up g;replace hs:=hs.up g;rw[←i] at hl hs f hK;refine cg<|E (Aa Gg Z)<|E (Al AF Z f.2 Z)<|E (KT underlying3 underlying5 Z)<|ve (FM EE Z Z Z Z Z) ?_;rintro _ w2 ⟨g,rfl,l⟩;have g:=l.below;replace hl:=hl.DH (g.mono BH);replace hs:=hs.DH (g.mono BH);replace f:=f.DH (g.mono BH);replace hK:=hK.DH (g.mono BH);replace BH:=rX BH g.size;refine V Z ?_;have g:=l.own (base:=B) (n:=1) (size:=1) (Ado i) Z AO;rw[show[Value.int .u8 (MO r.Ar).toNat]=AS (be 1 r.Ar) by rw[be1];rfl] at g;refine Ag<|Q<|E (Aa Gg Z)<|E (Al AF Z f.2 Z)<|ve (Ab QM Z (IX r.Ar 105)) ?_;rintro i i ⟨i,rfl⟩;replace hl:=hl.DH (i.mono BH);replace hs:=hs.DH (i.mono BH);replace f:=f.DH (i.mono BH);replace hK:=hK.DH (i.mono BH);replace g:=g.up i;replace BH:=rX BH i.size;refine Ah<|WC.mono (N:=fun e w'=>∃l,Sub [(4000000, .tuple #[]),(1, .pointer (some ⟨b1,0,none⟩)),(3,l)] e∧Tt B w' b1 [I r.Ar,I r.id,St r.name,St r.AK,vl,vs] 52∧FC Cg B w' vl r.list∧FC Bx B w' vs r.Bo∧Tu B w w'∧B≤w'.heap.size∧CJ w' B 5 1 l (A1 r).length (AS (A1 r))) ?_ ?_
 ·refine BA Z (fun o=>?_) fun o=>?_
  ·refine cg<|M Z<|E (Aa Hl Z)<|E (Al AF Z f.2 Z) ?_;refine ve (Ab Xa Z (Sg g BH r.id G)) ?_;rintro i a6 ⟨i,J⟩;replace i:=i.below g (kM _) BH;replace hl:=hl.DH i;replace hs:=hs.DH i;replace f:=f.DH i;replace hK:=hK.DH i;replace BH:=rX BH i.size;refine V Z ?_;have e:A1 r=be 1 r.Ar++be 4 r.id:=by simp[A1,bI,o]
   rw[e];exact⟨_,AL,f,hl,hs,hK,BH,by rw[ft,Be,Be];exact J⟩
  refine As ?_;have e:A1 r=be 1 r.Ar:=by simp[A1,bI,o]
  rw[e];exact⟨_,AL,f,hl,hs,hK,BH,by rw[Be];exact g⟩
 rintro _ o ⟨l,p,f,hl,hs,hK,BH,g⟩;refine DN p ?_;refine Ag<|Q<|E (Aa Gg Z)<|E (Al AF Z f.2 Z)<|ve (Ab QM Z (IX r.Ar 110)) ?_;rintro o C ⟨o,rfl⟩;replace hl:=hl.DH (o.mono BH);replace hs:=hs.DH (o.mono BH);replace f:=f.DH (o.mono BH);replace hK:=hK.DH (o.mono BH);replace g:=g.up o;replace BH:=rX BH o.size;refine Ah<|WC.mono (N:=fun e w'=>∃l,Sub [(4000000, .tuple #[]),(1, .pointer (some ⟨b1,0,none⟩)),(3,l)] e∧Tt B w' b1 [I r.Ar,I r.id,St r.name,St r.AK,vl,vs] 52∧FC Cg B w' vl r.list∧FC Bx B w' vs r.Bo∧Tu B w w'∧B≤w'.heap.size∧CJ w' B 5 1 l (A2 r).length (AS (A2 r))) ?_ ?_
 ·refine BA Z (fun U=>?_) fun U=>?_
  ·refine Fq (Below B C) [0,0,1,0,0,2,2,0,1,2,0] [0,1,2,3,4,7,8,5,6,9,10] mixed Ao ?_;have t:Below C.heap.size C C.drew:=(Aar _ _).drew;have o:Below B C C.drew:=(Aar _ _).drew;generalize C.drew=C at t o⊢;have R:=f;replace hl:=hl.DH (t.mono BH);replace hs:=hs.DH (t.mono BH);replace f:=f.DH (t.mono BH);replace hK:=hK.DH (t.mono BH);replace g:=g.up t;replace BH:=rX BH t.size;refine Bm Z Z<|AN Z (Aa MW Z)<|qc Z Z Z o (fun W C=>Al CQ Z (R.DH C).2 Z) Z<|AN Z (Ey underlying9 Z)<|AN Z (KT underlying3 underlying5 Z)<|AN Z (Aa MW Z)<|qc Z Z Z o (fun W C=>Al CQ Z (R.DH C).2 Z) Z<|Db Z (FM EE Z Z Z Z Z) ?_;rintro _ t ⟨t,rfl,a1⟩;have t:=a1.below;refine⟨fun hC=>Ae8 hC (t.mono BH),?_⟩;replace o:=Ae8 o (t.mono BH);replace hl:=hl.DH (t.mono BH);replace hs:=hs.DH (t.mono BH);replace f:=f.DH (t.mono BH);replace hK:=hK.DH (t.mono BH);replace g:=g.up t;replace BH:=rX BH t.size;refine Db Z (Fp EE Z Z g (Aw underlying74 a1.AE.AT Z Bg) Fh Fg BH) ?_;intro t t a1;have t:=a1.Pz g BH;refine⟨fun hC=>Ae8 hC t,?_⟩;replace o:=Ae8 o t;replace hl:=hl.DH t;replace hs:=hs.DH t;replace f:=f.DH t;replace hK:=hK.DH t;replace BH:=rX BH t.size;replace g:=a1.own;rw[show[Value.int .u8 (MO r.name.length).toNat]=AS (be 1 r.name.length) by rw[be1];rfl,←GI] at g;refine Db Z (Fp EE Z Z g (vX underlying9) Fh Fg BH) ?_;intro t t a1;have t:=a1.Pz g BH;refine⟨fun hC=>Ae8 hC t,?_⟩;replace o:=Ae8 o t;replace hl:=hl.DH t;replace hs:=hs.DH t;replace f:=f.DH t;replace hK:=hK.DH t;replace BH:=rX BH t.size;replace g:=a1.own;rw[show(r.name.map fun b=>Value.int .u8 b.toNat)=AS r.name from Z,←GI] at g;refine Ir Z Z<|AP ?_;have e:A2 r=A1 r++be 1 r.name.length++r.name:=by simp[A2,bN,U]
   rw[e];exact⟨_,AL,f,hl,hs,hK,BH,by rw[ft,ft,Be];exact g⟩
  refine As ?_;have e:A2 r=A1 r:=by simp[A2,bN,U]
  rw[e];exact⟨_,AL,f,hl,hs,hK,BH,g⟩
 rintro _ o ⟨l,p,f,hl,hs,hK,BH,g⟩;refine DN p ?_;refine Q<|M Z<|E (Aa JS Z)<|E (Al CQ Z f.2 Z)<|ve (Fp EE Z Z g (vX underlying9) Fh Fg BH) ?_;intro o a6 o;have i:=o.Pz g BH;replace hl:=hl.DH i;replace hs:=hs.DH i;replace f:=f.DH i;replace hK:=hK.DH i;replace BH:=rX BH i.size;replace g:=o.own;rw[show(r.AK.map fun b=>Value.int .u8 b.toNat)=AS r.AK from Z,←GI,show(A2 r).length+r.AK.length=(A3 r).length by simp[A3]] at g;change CJ _ _ _ _ _ _ (AS (A3 r)) at g;refine V Z<|Ag<|Q<|E (Aa Gg Z)<|E (Al AF Z f.2 Z)<|ve (Ab QM Z (IX r.Ar 108)) ?_;rintro o b2 ⟨o,rfl⟩;replace hl:=hl.DH (o.mono BH);replace hs:=hs.DH (o.mono BH);replace f:=f.DH (o.mono BH);replace hK:=hK.DH (o.mono BH);replace g:=g.up o;replace BH:=rX BH o.size;refine Ah<|WC.mono (N:=fun e w'=>∃l,Sub [(4000000, .tuple #[]),(1, .pointer (some ⟨b1,0,none⟩)),(3,l)] e∧Tt B w' b1 [I r.Ar,I r.id,St r.name,St r.AK,vl,vs] 52∧FC Cg B w' vl r.list∧FC Bx B w' vs r.Bo∧Tu B w w'∧B≤w'.heap.size∧CJ w' B 5 1 l (A3 r++cL r).length (AS (A3 r++cL r))) ?_ ?_
 ·refine BA Z (fun o=>?_) fun o=>?_
  ·refine cg<|M Z<|E (Aa DE Z)<|E (Al BQ Z f.2 Z) ?_
   first|refine E (Ez BM (by assumption) Z) ?_|refine E (Fo underlying23 Z) ?_
   refine ve (Ab Xa Z (Sg g BH r.list.length G)) ?_;rintro t t ⟨i,J⟩;replace i:=i.below g (kM _) BH;replace hl:=hl.DH i;replace hs:=hs.DH i;replace f:=f.DH i;replace hK:=hK.DH i;replace BH:=rX BH i.size;refine V Z ?_;have e:cL r=be 4 r.list.length:=by simp[cL,o]
   rw[e];exact⟨_,AL,f,hl,hs,hK,BH,by rw[ft,Be];exact J⟩
  refine As ?_;have e:cL r=[]:=by simp[cL,o]
  rw[e,Aaz];exact⟨_,AL,f,hl,hs,hK,BH,g⟩
 rintro _ o ⟨l,p,f,hl,hs,hK,BH,g⟩;refine DN p ?_;refine Ag<|Q<|E (Aa DE Z)<|E (Al BQ Z f.2 Z) ?_
 first|refine E (Ez BM (by assumption) Z) ?_|refine E (Fo underlying23 Z) ?_
 refine M Z<|Ah<|An ?_;have lc:(A3 r++cL r).length≤2000010:=by
  simp only[cL,ft];split<;>simp[Be]<;>omega
 refine AG (σ:=Nat×Value) (fun o=>[(1, .pointer (some ⟨b1,0,none⟩)),(3,o.2),(45,vl),(46,I r.list.length),(47,I o.1)]) (fun o w'=>Tt B w' b1 [I r.Ar,I r.id,St r.name,St r.AK,vl,vs] 52∧FC Cg B w' vl r.list∧FC Bx B w' vs r.Bo∧Tu B w w'∧B≤w'.heap.size∧o.1≤r.list.length∧CJ w' B 5 1 o.2 ((A3 r++cL r).length+4*o.1) (AS (A3 r++cL r++(r.list.take o.1).flatMap (be 4)))) (fun o=>r.list.length-o.1) (0,l) AL ⟨f,hl,hs,hK,BH,by simp,by simpa using g⟩ ?_;rintro⟨k,l⟩ U ⟨f,hl,hs,hK,BH,O,g⟩;dsimp only at O g⊢;refine Q<|E (AX Z Z)<|Ah<|Ag<|BA Z (fun t=>?_) fun t=>?_
 ·have ka:k<r.list.length:=G;obtain⟨a6,t,rfl,b0⟩:=hl.zx ka;replace t:=t.fx BH;refine As<|Ag<|An<|Q<|E (BJ BM (by assumption) Z Z Z Ai Ai)<|E (Cc AF Z t)<|V Z ?_;refine cg<|M Z<|M Z<|ve (Ab Xa Z (Sg g BH _ G)) ?_;rintro t R ⟨i,J⟩;replace i:=i.below g (kM _) BH;replace hl:=hl.DH i;replace hs:=hs.DH i;replace f:=f.DH i;replace hK:=hK.DH i;replace BH:=rX BH i.size;refine V Z<|cg<|E (Bc Z Z Ai Ai)<|M Z<|Ah ?_;exact⟨(k+1,t),AL,⟨f,hl,hs,hK,BH,ka,by rw[Hi _ ka,←oo,Nat.mul_add,←Agu];exact J⟩,by simp;omega⟩
 refine Az Z ?_;have i:CJ U B 5 1 l (A4 r).length (AS (A4 r)):=by
  have t:k=r.list.length:=G;subst t;rw[vq (kM _)] at g;have e:A4 r=A3 r++cL r++r.list.flatMap (be 4):=by
   cases e:hasB r.Ar 108
   ·simp[A4,bL,cL,e,a7 e]
   simp[A4,bL,cL,e]
  rw[e];rw[ft,Mr];exact g
 clear g;have g:=i;refine Ag<|Q<|E (Aa Gg Z)<|E (Al AF Z f.2 Z)<|ve (Ab QM Z (IX r.Ar 115)) ?_;rintro i b3 ⟨i,rfl⟩;replace hl:=hl.DH (i.mono BH);replace hs:=hs.DH (i.mono BH);replace f:=f.DH (i.mono BH);replace hK:=hK.DH (i.mono BH);replace g:=g.up i;replace BH:=rX BH i.size;refine Ah<|WC.mono (N:=fun e w'=>∃l,Sub [(4000000, .tuple #[]),(1, .pointer (some ⟨b1,0,none⟩)),(3,l)] e∧Tt B w' b1 [I r.Ar,I r.id,St r.name,St r.AK,vl,vs] 52∧FC Cg B w' vl r.list∧FC Bx B w' vs r.Bo∧Tu B w w'∧B≤w'.heap.size∧CJ w' B 5 1 l (A4 r++cS r).length (AS (A4 r++cS r))) ?_ ?_
 ·refine BA Z (fun R=>?_) fun R=>?_
  ·refine cg<|M Z<|E (Aa Gh Z)<|E (Al CH Z f.2 Z) ?_
   first|refine E (Ez DL (by assumption) Z) ?_|refine E (Fo underlying50 Z) ?_
   refine E (KT underlying3 underlying5 Z)<|ve (FM EE Z Z Z Z Z) ?_;rintro _ b4 ⟨t,rfl,J⟩;have t:=J.below;replace hl:=hl.DH (t.mono BH);replace hs:=hs.DH (t.mono BH);replace f:=f.DH (t.mono BH);replace hK:=hK.DH (t.mono BH);replace g:=g.up t;replace BH:=rX BH t.size;refine ve (Fp EE Z Z g (Aw underlying74 J.AE.AT Z Bg) Fh Fg BH) ?_;intro J J a1;have J:=a1.Pz g BH;replace hl:=hl.DH J;replace hs:=hs.DH J;replace f:=f.DH J;replace hK:=hK.DH J;replace BH:=rX BH J.size;replace g:=a1.own;rw[show[Value.int .u8 (MO r.Bo.length).toNat]=AS (be 1 r.Bo.length) by rw[be1];rfl,←GI] at g;refine V Z ?_;have e:cS r=be 1 r.Bo.length:=by simp[cS,R]
   rw[e];exact⟨_,AL,f,hl,hs,hK,BH,by rw[ft,Be];exact g⟩
  refine As ?_;have e:cS r=[]:=by simp[cS,R]
  rw[e,Aaz];exact⟨_,AL,f,hl,hs,hK,BH,g⟩
 rintro _ J ⟨l,p,f,hl,hs,hK,BH,g⟩;refine DN p ?_;refine Ag<|Q<|E (Aa Gh Z)<|E (Al CH Z f.2 Z) ?_
 first|refine E (Ez DL (by assumption) Z) ?_|refine E (Fo underlying50 Z) ?_
 refine M Z<|Ah<|An ?_;have lc:(A4 r++cS r).length≤6000012:=by
  simp only[cS,ft];split<;>simp[Be]<;>omega
 refine AG (σ:=Nat×Value) (fun o=>[(1, .pointer (some ⟨b1,0,none⟩)),(3,o.2),(66,vs),(67,I r.Bo.length),(68,I o.1)]) (fun o w'=>Tt B w' b1 [I r.Ar,I r.id,St r.name,St r.AK,vl,vs] 52∧FC Cg B w' vl r.list∧FC Bx B w' vs r.Bo∧Tu B w w'∧B≤w'.heap.size∧o.1≤r.Bo.length∧CJ w' B 5 1 o.2 ((A4 r++cS r).length+8*o.1) (AS (A4 r++cS r++(r.Bo.take o.1).flatMap PF))) (fun o=>r.Bo.length-o.1) (0,l) AL ⟨f,hl,hs,hK,BH,by simp,by simpa using g⟩ ?_;rintro⟨k,l⟩ U ⟨f,hl,hs,hK,BH,O,g⟩;dsimp only at O g⊢;refine Q<|E (AX Z Z)<|Ah<|Ag<|BA Z (fun o=>?_) fun o=>?_
 ·have ka:k<r.Bo.length:=G;obtain⟨a6,o,rfl,b0⟩:=hs.zx ka;replace o:=o.fx BH;have b0:∀j,l.rowOf=some j→j<U.heap.size:=fun j p=>(g.lt j p).2;refine As<|Ag<|An<|Q<|E (BJ DL (by assumption) Z Z Z Ai Ai)<|E (DT Dj Z o Z) ?_;refine ve (Js JU) ?_;rintro _ o ⟨b7,rfl,J⟩;have o:=J.below;have a6:B≤b7:=by rw[J.at_];exact BH
  replace hl:=hl.DH (o.mono BH);replace hs:=hs.DH (o.mono BH);replace f:=f.DH (o.mono BH);replace hK:=hK.DH (o.mono BH);replace g:=g.up o;replace BH:=rX BH o.size;have R:=J.AE;refine Av (Ff Dj Z Z R Z Z Bg) ?_;intro _ o U;have a1:l.rowOf≠some b7:=fun e=>by have:=b0 _ e;have:=J.at_;omega
  have J:Below B _ _:=CX U a6 BH;replace g:=g.grown U.grown (fun j p e=>a1 (p.trans e.symm));replace hl:=hl.DH J;replace hs:=hs.DH J;replace f:=f.DH J;replace hK:=hK.DH J;replace BH:=rX BH J.size;replace R:=U.AE;refine Ah<|Fq (fun W=>o.grownBy W l.rowOf) [0,0,1,2,0,1,2,0] [0,1,2,4,5,3,6,7] mixed Ao ?_;have hd:Below o.heap.size o o.drew:=(Aar _ _).drew;have hC:o.grownBy o.drew l.rowOf:=Lb hd _;replace g:=g.up hd;replace hl:=hl.DH (hd.mono BH);replace hs:=hs.DH (hd.mono BH);replace f:=f.DH (hd.mono BH);replace hK:=hK.DH (hd.mono BH);replace BH:=rX BH hd.size;generalize o.drew=b2 at hd hC g hl hs f hK BH⊢;refine Bm Z Z<|AN Z (Aa Ct Z)<|qc Z Z Z hC (fun W C=>Al AF Z (R.grown C a1) Z) Z<|AN Z (Aa GP Z)<|qc Z Z Z hC (fun W C=>Al AF Z (R.grown C a1) Z) Z<|Db Z (Ab Xa Z (Sg g BH _ G)) ?_;rintro l b3 ⟨i,o⟩;refine⟨fun hC=>Kc hC (.inl Z) i.grown,?_⟩;have l:=i.below g (kM _) BH;replace hl:=hl.DH l;replace hs:=hs.DH l;replace f:=f.DH l;replace hK:=hK.DH l;replace BH:=rX BH l.size;refine Db Z (Ab Xa Z (Sg o BH _ G)) ?_;rintro J b4 ⟨t,C⟩;refine⟨fun l=>Kc l (i.at_.imp id fun⟨j,e,p⟩=>⟨j,e,rX hC.size p⟩) t.grown,?_⟩;have i:=t.below o (kM _) BH;replace hl:=hl.DH i;replace hs:=hs.DH i;replace f:=f.DH i;replace hK:=hK.DH i;replace BH:=rX BH i.size;refine Ir Z Z<|AP<|cg<|E (Bc Z Z Ai Ai)<|M Z<|Ah ?_;exact⟨(k+1,J),AL,⟨f,hl,hs,hK,BH,ka,by rw[Hi _ ka,PF,←oo,←oo];exact C⟩,by simp;omega⟩
 refine Az Z<|Q<|M Z<|E (Ij underlying74 underlying9 underlying5 Z g)<|V Z<|Af Z Z<|⟨hK.1,?_⟩;have e:bytesOf r=A4 r++cS r++(r.Bo.take k).flatMap PF:=by
  rw[vq G];cases e:hasB r.Ar 115
  ·simp[bytesOf,bS,cS,e,a8 e]
  simp[bytesOf,bS,cS,e]
 rw[e]
theorem UO{r:Rec}(h:FT r=true):1≤r.Ar∧r.Ar≤8∧r.name.length≤40∧r.AK.length≤32∧r.list.length≤2000∧r.Bo.length≤14∧(hasB r.Ar 108=false→r.list=[])∧(hasB r.Ar 115=false→r.Bo=[]):=by
 obtain⟨O,l,_,i,g,C,_,j,_⟩:=(HZ r).1 h;obtain⟨_,t,o,p,f⟩:=(NY r).1 l;simp only[KL,Aa1,Aay] at O;refine⟨G,G,?_,?_,G,?_,fun e=>p.resolve_left (by simp[e]),fun e=>f.resolve_left (by simp[e])⟩
 ·rcases t with e|e
  ·have:=i e;omega
  simp[e]
 ·rcases o with e|e
  ·have:=g e;omega
  simp[e]
 rcases f with e|e
 ·have:=j e;omega
 simp[e]
end Go.Eng
namespace Go
section
variable {P:Program} {b:Frame} {a:Act} {k:List Item} {cs:List Frame} {w:World}
theorem IA{c:Code}:step P (lone (b.atR a (.code (.scope c)::k)) cs w)= .next (lone (b.atR a (.code c:: .inScope c::k)) cs w):=
 step_lone_go (by simp[stepG,stepG.exec,Frame.atR])
theorem Ww{c:Code}:step P (lone (b.atR a (.inScope c::k)) cs w)= .next (lone (b.atR a k) cs w):=
 step_lone_go (by simp[stepG,stepG.exec,Frame.atR])
end
theorem dS{F:Fence}{n:Nat}{P:Program}{Qjq:Exit→Act→World→Prop}{a:Act}{c:Code}(h:c.wpIn F n P Qjq a w)(hg:∀l a w,¬Qjq (.goto l) a w):(Code.scope c).wpIn F n P Qjq a w:=by
 intro b k cs t p r;have f:(lone (b.atR a (.code (.scope c)::k)) cs w).fenced P F:=fenced_calm p r Z;obtain⟨e,j,o,i,g⟩:=h b (.inScope c::k) cs t p r;cases e with
 |normal=>exact⟨.normal,j,o,i, .head f IA (StepsIn.trans g (.one (fenced_calm p r Z) Ww))⟩
 |exit id=>
  have hx:exitTo id (.inScope c::k)=exitTo id k:=by simp[exitTo]
  exact⟨_,j,o,i,fun p O=> .head f IA (g.1 p (by rw[hx];exact O)),
   fun t O=>let⟨C,p,r⟩:=g.2 t (by rw[hx];exact O);⟨C,p, .head f IA r⟩⟩
 |goto l=>exact absurd i (hg _ _ _)
 |ret=>exact⟨_,j,o,i, .of_steps (.one f IA) g⟩
 |panic p=>exact⟨_,j,o,i, .of_steps (.one f IA) g⟩
 |outgrown=>exact⟨_,j,o,i, .of_steps (.one f IA) g⟩
end Go
namespace Go.Eng
open Go.RowKit Go.Proofs Go.Proofs.Tryz
variable {α:Type}{k m n i life:Nat}{s:List UInt8}{css:List (List Value)}{l:List Int}{w' h N:World}{cs news b:List Value}{c' j:Nat→Nat}{va a y:Value}{d A:TypeId}{e:List Nat}{f K:Operand}{g:Option (Nat×Bool)}{o:Array Edge}{p:Int}{q:List (List Int)}{r:Value→World→Prop}{u:List (Int×Int)}{v:String}{x:List Bool}{z:CO}{B:Bool}{H:Program}{J:Option (Rec×List UInt8)}{P:List Rec}{R:IntKind}{S:FuncId}{T:Option Nat}{W:Tx}{X:World→Prop}{Y:List (List Rec)}{encs:α→List Value}{Qjq:List α→α→(Nat→Nat)→World→Prop}{Fin:List α→Prop}{t:List α}
open List (replicate)
theorem Xi{c:Cx}{B:List (Nat×EI)}{env:Env}{N:EI}{x:Code}(h:WC c B x env w N):WC c B (.scope x) env w N:=fun a f=>dS (h a f) fun _ _ _ g=>g
theorem mb:∀(css:List (List Value)) (n:Nat),(∀cs∈css,cs.length=n)→∀(i:Nat) (hi:i<css.length) (j:Nat) (u:Value),css[i][j]?=some u→css.flatten[i*n+j]?=some u
 |cs::r,n,hl,0,_,j,u,hu=>by
  have l:j<cs.length:=by
   rcases Aab j cs.length with f|f
   ·exact f
   ·simp[Aam f] at hu
  simp only[Abc,Ac4,Abs];rw[Abh l];simpa using hu
 |cs::r,n,hl,i+1,hi,j,u,hu=>by
  have g:=hl cs Bb;simp only[Abc];rw[Abb (by rw[g,Aad];omega),g];have:(i+1)*n+j-n=i*n+j:=by rw[Aad];omega
  rw[this];exact mb r n (fun c hc=>hl c (by simp[hc])) i (by simpa using hi) j u (by simpa using hu)
def Zd(w:World)(e:TypeId)(size:Nat)(v:Value)(n:Nat)(xs:List Value):Prop:=
 xs.length=n*size∧
 ((n=0∧∃A,v= .slice A 0 0)∨
  ∃g o cap f i,v= .slice (some ⟨g,o,none⟩) n cap∧w.heap[g]?=some (.cells f e i)∧(i.1<i.2→f.size≤i.1)∧n≤cap∧cap≤maxLen∧f.size=o+cap*size∧(f.toList.drop o).take (n*size)=xs∧0<cap)
section
variable {w w':World} {e:TypeId} {size:Nat} {v:Value} {n:Nat} {xs:List Value}
theorem CJ.any(h:CJ w m e size v n xs):Zd w e size v n xs:=by
 refine⟨h.1,?_⟩;rcases h.2 with C|⟨g,cap,f,i,rfl,J,j,l,o,p,I,r,t⟩
 ·exact .inl C
 exact .inr ⟨g,0,cap,f,i,Z,j,l,o,p,G,by simpa using r,t⟩
theorem Zd.cells(h:Zd w e size v n xs){g c:Nat}(hv:v= .slice (some ⟨g,k,none⟩) m c)(I:0<c):AT w ⟨g,k,none⟩ xs:=by
 intro j u hu;rcases h.2 with⟨_,A,i⟩|⟨f,f,cap,l,p,i,hg,_,_,_,_,C,hc⟩
 ·rw[hv] at i;injection i with f r t;omega
 ·rw[hv] at i;injection i with f r t;injection f with f;injection f with f i r;subst f i;rw[add_lit,Ahm w g _ l e p hg];rw[←C,Ab2] at hu;split at hu
  ·rw[Acb] at hu;simpa using hu
  ·cases hu
theorem Zd.from(h:Zd w e size v n xs)(O:k≤n):Zd w e size (En v k n size) (n-k) (xs.drop (k*size)):=by
 refine⟨by rw[kK,h.1,Nat.sub_mul],?_⟩;rcases h.2 with⟨rfl,A,rfl⟩|⟨g,o,cap,i,j,rfl,hg,l,p,C,I,r,t⟩
 ·have:k=0:=G;subst this;exact .inl ⟨by simp,A,by simp[En]⟩
 rcases Agw (rX O p) with f|f
 ·subst f;exact .inl ⟨G,some ⟨g,o,none⟩,by simp[En];omega⟩
 refine .inr ⟨g,o+k*size,cap-k,i,j,?_,hg,l,G,G,?_,?_,G⟩
 ·simp only[En];rw[ss G];simp[add_lit]
 ·have:cap*size=k*size+(cap-k)*size:=by rw[←Aad];congr 1;omega
  omega
 rw[←r,List.drop_take,Ab7,Nat.sub_mul]
end
section
variable {P:Program} {w:World}
end
structure abm (c:Nat→Nat) (w:World) (i:Nat) (e:TypeId) (size:Nat) (v:Value) (n:Nat) (xs:List Value):Prop where
 own:Zd w e size v n xs
 BF:∀k,v.rowOf=some k→c k=i
section
variable {c c':Nat→Nat} {w w' W w0:World} {i:Nat} {e:TypeId} {size:Nat} {v:Value} {n:Nat} {xs:List Value} {I J:List Nat}
theorem PJ{v:Value}{hi sz:Nat}(h:(En v m hi sz).rowOf=some k):v.rowOf=some k:=by
 cases v with
 |slice A lo cp=>
  simp only[En] at h;by_cases hc:cp=m
  ·subst hc;rw[zm Z,Acl,Iq] at h;cases h
  ·rw[ss hc] at h;cases A with
   |none=>simp[Value.rowOf] at h
   |some a=>
    by_cases f:cp=0
    ·subst f;rw[Nat.zero_sub,Iq] at h;cases h
    ·have LF:0<cp:=G;rw[Bh LF];by_cases g:cp-m=0
     ·rw[g,Iq] at h;cases h
     ·rw[Aa7,Bh G,Gk] at h;exact h
 |_=>exact h
variable {P:Program} {env:Env} {ty:TypeId}
end
def Hc(r:Rec)(n:Int):List UInt8:=Iv r n++be 8 (TA (Iv r n):Nat)
theorem Xj{r:Rec}(h:FT r=true):1≤(bytesOf r).length∧(bytesOf r).length≤9000:=by
 obtain⟨_,_,o,p,t,C,_⟩:=UO h;have g:=lP r;have f:1≤(A1 r).length:=by simp[A1,Be]
 have i:(bN r).length≤41:=by unfold bN;split<;>simp[Be];omega
 have j:(bL r).length≤8004:=by unfold bL;split<;>simp only[ft,Be,Mr,Ace]<;>omega
 have l:(bS r).length≤113:=by unfold bS;split<;>simp only[ft,Be,UG,Ace]<;>omega
 simp only[bytesOf,A4,A3,A2,ft];omega
theorem PK(r:Rec)(n:Int):(Iv r n).length=7+(bytesOf r).length:=by simp[Iv,Be];omega
theorem Nc(r:Rec)(n:Int):(Hc r n).length=15+(bytesOf r).length:=by simp[Hc,PK,Be];omega
theorem LP{l:List UInt8}(g:AJ c w i 5 1 a m (AS l))(n size:Int)(p:0≤size)(r:size≤8)(J:m≤1099511627776):
 Calls QP 227 #[a, .int .u64 n,I size] w (Bt fun v' w'=>∃c',Mv c w c' w' [i]∧AJ c' w' i 5 1 v' (m+size.toNat) (AS (l++be size.toNat n))):=by
 refine(sU g.own (Wm _) n size p r J).mono fun e w' t=>?_;obtain⟨v',rfl,O,R⟩:=t;obtain⟨c',o,hx⟩:=Mv.grown c i O.grown g.BF;refine⟨_,Z,c',o,R,fun k f=>?_⟩;rcases O.at_ with e|⟨j,e,C⟩
 ·rw[e] at f;rw[o.BF k (g.own.lt k f).2];exact g.BF k f
 rw[e] at f;cases f;exact hx _ C
theorem uj(g:AJ c w i 5 1 a m (AS s))(n:Int)(t:m≤1099511627776):
 Calls QP 274 #[a,I n] w (Bt fun v' w'=>∃c',Mv c w c' w' [i]∧AJ c' w' i 5 1 v' (m+4) (AS (s++be 4 n))):=by
 refine(Sg g.own (Wm _) n t).mono fun e w' p=>?_;obtain⟨v',rfl,O,C⟩:=p;obtain⟨c',o,hx⟩:=Mv.grown c i O.grown g.BF;refine⟨_,Z,c',o,C,fun k f=>?_⟩;rcases O.at_ with e|⟨j,e,r⟩
 ·rw[e] at f;rw[o.BF k (g.own.lt k f).2];exact g.BF k f
 rw[e] at f;cases f;exact hx _ r
theorem im{r:Rec}{n:Int}(h:UA w cs r)(g:FT r=true):Calls QP 228 #[.agg cs.toArray,I n] w (Bt fun v w'=>AZ w w'∧v=St (Hc r n)):=by
 obtain⟨vl,vs,rfl,hl,hs,j⟩:=h;have f:=hl.AD;have f:=hs.AD;have f:=Xj g;have f:=PK r n;obtain⟨_,_,f,f,f,f,o,p⟩:=UO g;obtain⟨c,hO,hc⟩:=Ay w;replace hl:Bu Cg c w [0] vl r.list:=Rd.Du hl (fun k O=>by simp[hc,AU]);replace hs:Bu Bx c w [0] vs r.Bo:=Rd.Du hs (fun k O=>by simp[hc,AU]);refine AY 23 #[.tmp 4] func228 Z<|Q<|Fa c 102 fun w1 b2 c1 f f=>?_;refine V Z<|Q<|E (Ba Df Z f.AE Z)<|ve (Ac c1 1 (Ab yt Z (ma (r:=r) (cs:=[I r.Ar,I r.id,St r.name,St r.AK,vl,vs]) ⟨vl,vs,Z,hl.D.AB,hs.D.AB,j⟩ G G G G o p))) ?_;rintro f w2 ⟨c2,f,f,rfl⟩;refine V Z<|Q<|M Z<|E (Ey underlying9 Z)<|E (ED underlying3 underlying278 Z G G) ?_;refine ve (Ab Li Z (LP (i:=9) (l:=[]) (Br c2 w2 9 5 1) ((bytesOf r).length:Nat) 3 AO AO AO)) ?_;rintro f f ⟨f,f,f⟩;refine M Z<|ve (Ab Xa Z (uj f n Bb)) ?_;rintro j j ⟨j,j,f⟩;refine M Z<|ve (Ax EE Z Z f (vX underlying9) Fh Fg) ?_;rintro j j ⟨j,o,f⟩;rw[show((bytesOf r).map fun b=>Value.int .u8 b.toNat)=AS (bytesOf r) from Z,←GI] at f;rw[show[]++be (3:Int).toNat ((bytesOf r).length:Nat)++be 4 n++bytesOf r=Iv r n from Z] at f;refine V Z<|Q<|M Z<|M Z<|E (Ij underlying74 underlying9 underlying5 Z f.own)<|ve (Ac j 1 (Ab Uv Z (PG (s:=Iv r n) G))) ?_;rintro v20 j ⟨j,j,j,rfl⟩;refine ve (Ab Li Z (LP f.D (TA (Iv r n):Nat) 8 AO AO (by simp;omega))) ?_;rintro j j ⟨j,j,f⟩;refine E (Ij underlying74 underlying9 underlying5 Z f.own)<|V Z<|Af Z Z ?_;exact⟨hO.D.below,Z⟩
theorem dT(n:Int):Calls QP 95 #[I n] w (Bt fun v w'=>AZ w w'∧v= .bool (Fb n)):=by
 have hK:FY w w:=Bf w;refine AY 9 #[.tmp 2] func95 Z<|Q<|V Z<|Q<|M Z<|E (Dh Z Z)<|M Z ?_;apply AW true 2 _ CK
 ·intro f;refine wo<|M Z<|wo<|E (Gw Z Z) ?_;exact EQ 2
 refine V Z<|Af Z Z ?_;exact⟨hK,Z⟩
theorem Ob:∀(s n:Nat),Bi (be s (n:Int))=n%256^s
 |0,n=>by simp[be,Bi,Nat.mod_one]
 |s+1,n=>by
  have e:((n:Int)/256)=((n/256:Nat):Int):=G;have hu:(MO (n:Int)).toNat=n%256:=by
   unfold MO;have f:((n:Int)%256).toNat=n%256:=G;rw[f,Aem];omega
  rw[Zc,Jy,e,Ob s (n/256),hu,Nat.pow_succ,Nat.mul_comm (256^s) 256,Nat.mod_mul];omega
theorem mc(s:List UInt8):TA s<18446744073709551616:=UH _
def Hn(s:List UInt8):Option (Rec×Nat×Nat):=
 if s.length<15 then none
 else if s.length<15+Bi (s.take 3) then none
 else if Bi ((s.drop (7+Bi (s.take 3))).take 8)=TA (s.take (7+Bi (s.take 3))) then
  match EC plain ((s.drop 7).take (Bi (s.take 3))) with
  |none=>none
  |some r=>if Bi ((s.drop 3).take 4)≤1073741824 then some (r,Bi ((s.drop 3).take 4),15+Bi (s.take 3)) else none
 else none
theorem PL{r:Rec}(h:Hn s=some (r,k,m)):15≤m∧m≤s.length∧FT r=true∧k≤1073741824:=by
 unfold Hn at h;split at h
 ·cases h
 ·split at h
  ·cases h
  ·split at h
   ·cases ht:EC plain ((s.drop 7).take (Bi (s.take 3))) with
    |none=>rw[ht] at h;cases h
    |some f=>
     rw[ht] at h;dsimp only at h;split at h
     ·simp only[Abe,Ab1] at h;obtain⟨rfl,rfl,rfl⟩:=h;exact⟨G,G,(dR ht).2,by assumption⟩
     ·cases h
   ·cases h
def Gj:Nat→List UInt8→List Rec→Nat→Nat→List Rec×Nat×Nat
 |0,_,l,first,bytes=>(l,first,bytes)
 |f+1,s,l,first,bytes=>match Hn s with
  |none=>(l,first,bytes)
  |some (r,k,z)=>
   if k=(if l=[] then k else first)+l.length then Gj f (s.drop z) (l++[r]) (if l=[] then k else first) (bytes+z)
   else(l,first,bytes)
def Ho(s:List UInt8):List Rec×Nat×Nat:=Gj (s.length+1) s [] 0 0
theorem Jb:∀(f g:Nat) (s:List UInt8) (l:List Rec) (first bytes:Nat),s.length<f→s.length<g→Gj f s l first bytes=Gj g s l first bytes
 |0,_,_,_,_,_,h,_=>absurd h (Ahg _)
 |_,0,_,_,_,_,_,h=>absurd h (Ahg _)
 |f+1,g+1,s,l,first,bytes,hf,hg=>by
  unfold Gj;cases ht:Hn s with
  |none=>rfl
  |some x=>
   obtain⟨r,k,z⟩:=x;have:=PL ht;have i:=Jb f g (s.drop z) (l++[r]) (if l=[] then k else first) (bytes+z) (by rw[List.length_drop];omega) (by rw[List.length_drop];omega);dsimp only;rw[i]
theorem PM(s:Wn):∃R,IZ s=[83,72,82,68]++(be 4 s.Gn++(be 4 s.gen++([MO s.index]++(be 2 (s.text.length:Int)++(s.text++R))))):=by
 refine⟨be 8 (TA (Ps s):Nat)++replicate (Ca s.text.length*64-(QV s).length) 0,?_⟩;rw[IZ];generalize replicate (Ca s.text.length*64-(QV s).length) (0:UInt8)=f;simp only[QV,Ps,oo]
theorem UP{a b r t:List UInt8}(h:t=a++(b++r))(hi:a.length=i)(f:b.length=n):(t.drop i).take n=b:=by
 rw[h,Afe hi,Ad7 f]
theorem iq(s:Wn)(h:s.text.length<65536):QW (IZ s)=s.text.length:=by
 obtain⟨R,g⟩:=PM s;have f:=UP (a:=[83,72,82,68]++be 4 s.Gn++be 4 s.gen++[MO s.index]) (b:=be 2 (s.text.length:Int)) (r:=s.text++R) (t:=IZ s) (i:=13) (n:=2) (by rw[g];simp only[oo]) (by simp[Be]) (Be _ _);rw[QW,f,Ob];omega
theorem me(s:Wn)(h:Nb s=true):UK (IZ s) s.text.length=s:=by
 obtain⟨R,f⟩:=PM s;have a1:=UP (a:=[83,72,82,68]) (b:=be 4 s.Gn) (r:=be 4 s.gen++([MO s.index]++(be 2 (s.text.length:Int)++(s.text++R)))) (t:=IZ s) (i:=4) (n:=4) f Z (Be _ _);have a6:=UP (a:=[83,72,82,68]++be 4 s.Gn) (b:=be 4 s.gen) (r:=[MO s.index]++(be 2 (s.text.length:Int)++(s.text++R))) (t:=IZ s) (i:=8) (n:=4) (by rw[f];simp only[oo]) (by simp[Be]) (Be _ _);have a7:=UP (a:=[83,72,82,68]++be 4 s.Gn++be 4 s.gen) (b:=[MO s.index]) (r:=be 2 (s.text.length:Int)++(s.text++R)) (t:=IZ s) (i:=12) (n:=1) (by rw[f];simp only[oo]) (by simp[Be]) Z;have a8:=UP (a:=[83,72,82,68]++be 4 s.Gn++be 4 s.gen++[MO s.index]++be 2 (s.text.length:Int)) (b:=s.text) (r:=R) (t:=IZ s) (i:=15) (n:=s.text.length) (by rw[f];simp only[oo]) (by simp[Be]) Z;have b0:(IZ s).getD 12 0=MO s.index:=by
  have e:=Aao (fun l:List UInt8=>l[0]?) a7;simp only[Afr (show 0<1 by omega),Acb,Afw] at e;rw[hk,e];rfl
 simp only[Nb,Bool.and_eq_true,decide_eq_true_eq] at h;obtain⟨⟨⟨⟨j,b1⟩,o,b2⟩,C,b3⟩,b4,b5⟩:=h;obtain⟨p,i,g,t⟩:=s;dsimp only at*;obtain⟨p,rfl⟩:=Int.eq_ofNat_of_zero_le j;obtain⟨g,rfl⟩:=Int.eq_ofNat_of_zero_le o;obtain⟨i,rfl⟩:=Int.eq_ofNat_of_zero_le C;rw[UK,a1,a6,a8,b0,Ob,Ob];have I:p%256^4=p:=Nat.mod_eq_of_lt G;have J:g%256^4=g:=Nat.mod_eq_of_lt G;have U:(MO (i:Int)).toNat=i:=by
  unfold MO;rw[Aem];omega
 rw[I,J,U]
theorem UQ(s:Wn)(h:Nb s=true):Hy (Gb s)=some s:=by
 have p:=h;simp only[Nb,kg,pn] at p;obtain⟨f,i⟩:=Na s;have j:=iq s G;have l:=me s h;have o:=SS s;have r:=PH s.text.length;have t:Ca s.text.length≤Ca 120:=by unfold Ca;omega
 rw[Hy,ss,o,j,ss,l,zm ⟨h,Z⟩]
 ·rw[f];omega
 ·rw[f];rintro(g|g|g)
  ·rw[g] at f;simp at f;omega
  ·omega
  ·obtain⟨x,hx,hy⟩:=Aa8.1 g;rw[i x hx] at hy;simp at hy
theorem aL(s:Wn)(h:Nb s=true):Ja (Gb s) s.Gn s.gen s.index=2:=by
 rw[Ja,UQ s h];simp
theorem UR{l:List Tx}{b c:Int}(h:Ja l p b c=2):∃s,Hy l=some s∧s.Gn=p∧s.gen=b∧s.index=c:=by
 unfold Ja at h;split at h
 ·rename_i s hs;by_cases f:s.Gn=p∧s.gen=b∧s.index=c
  ·exact⟨s,hs,f⟩
  ·rw[ss f] at h;split at h<;>simp at h
 ·split at h<;>simp at h
def Bw(c:Nat→Nat)(J:List Nat):Nat→Nat:=fun k=>if AU J (c k) then c k else 0
theorem KN(h:AU e (c k)=true):Bw c e k=c k:=by simp[Bw,h]
theorem Ia(h:AU e (c k)=false):Bw c e k=0:=by simp[Bw,h]
structure BE (c0:Nat→Nat) (w0:World) (J:List Nat) (c:Nat→Nat) (w:World):Prop where
 os:w.os=w0.os
 tape:w.tape=w0.tape
 output:w.output=w0.output
 size:w0.heap.size≤w.heap.size
 BF:∀k,k<w0.heap.size→c k=Bw c0 J k
 block:∀k,k<w0.heap.size→AU J (c0 k)=false→w.heap[k]?=w0.heap[k]?
section
variable {c0 c c':Nat→Nat} {w0 w w':World} {I J K:List Nat}
theorem BE.start(c0:Nat→Nat)(w0:World)(J:List Nat):BE c0 w0 J (Bw c0 J) w0:=⟨Z,Z,Z,kM _,fun _ _=>rfl,fun _ _ _=>rfl⟩
theorem BE.D(h:BE c0 w0 J c w)(m:Mv c w c' w' I:=by exact Go.Eng.KU)(hi:AU I 0=false:=by rfl):BE c0 w0 J c' w':=
 ⟨m.os.trans h.os,m.tape.trans h.tape,m.output.trans h.output,rX h.size m.size,fun k O=>(m.BF k (Aaq O h.size)).trans (h.BF k O),
  fun k O f=>(m.block k (Aaq O h.size) (by rw[h.BF k O,Ia f];exact hi)).trans (h.block k O f)⟩
def back(c0:Nat→Nat)(w0:World)(c:Nat→Nat):Nat→Nat:=fun k=>if k<w0.heap.size then c0 k else c k
theorem QY(h:BE c0 w0 J c w)(hi:AU J i=true)(f:i≠0)(O:c k=i):back c0 w0 c k=i:=by
 unfold back;split
 ·rename_i g;rw[h.BF k g] at O;unfold Bw at O;split at O
  ·exact O
  ·exact absurd O.symm f
 ·exact O
theorem BE.out(h:BE c0 w0 J c w):Mv c0 w0 (back c0 w0 c) w J:=⟨h.os,h.tape,h.output,h.size,fun k O=>by simp[back,O],h.block⟩
theorem AI.out(f:AI c w i k cs d)(h:BE c0 w0 J c w)(hi:(Nat.blt 0 i&&AU J i)=true):AI (back c0 w0 c) w i k cs d:=by
 rw[kg] at hi;exact⟨f.AE,QY h hi.2 (by have:=Aat hi.1;omega) f.BF⟩
theorem AJ.out(f:AJ c w i d k a n b)(h:BE c0 w0 J c w)(hi:(Nat.blt 0 i&&AU J i)=true):AJ (back c0 w0 c) w i d k a n b:=by
 rw[kg] at hi;exact⟨f.own,fun size O=>QY h hi.2 (by have:=Aat hi.1;omega) (f.BF size O)⟩
theorem BE.yH(h:BE c0 w0 J c w){j:Nat}(f:(Nat.blt 0 j&& !AU J j)=true):∃c'',Mv c0 w0 c'' w J∧∀{e:TypeId} {size n:Nat} {v:Value} {xs:List Value},AJ c w j e size v n xs→AJ c'' w i e size v n xs:=by
 rw[kg,Aa9] at f;have p:0<j:=Aat f.1;refine⟨fun k=>if k<w0.heap.size then c0 k else if c k=j then i else c k,⟨h.os,h.tape,h.output,h.size,fun k O=>by simp[O],h.block⟩,fun{e size n v xs} g=>⟨g.own,fun k O=>?_⟩⟩;have Ze:=g.BF k O;have l:¬k<w0.heap.size:=fun o=>by
  rw[h.BF k o] at Ze;unfold Bw at Ze;split at Ze
  ·rename_i hh;rw[Ze,f.2] at hh;cases hh
  omega
 show(if k<w0.heap.size then c0 k else if c k=j then i else c k)=i
 rw[ss l,zm Ze]
theorem AI.Oc(f:AI c w i k cs d)(hi:AU J i=false):AI (Bw c J) w 0 k cs d:=
 ⟨f.AE,by rw[Ia (by rw[f.BF];exact hi)]⟩
theorem AI.Dt(f:AI c w i k cs d)(hi:AU J i=true):AI (Bw c J) w i k cs d:=
 ⟨f.AE,by rw[KN (by rw[f.BF];exact hi)];exact f.BF⟩
theorem AJ.Dt(f:AJ c w i d k a n b)(hi:AU J i=true):AJ (Bw c J) w i d k a n b:=
 ⟨f.own,fun size O=>by rw[KN (by rw[f.BF size O];exact hi)];exact f.BF size O⟩
theorem Xk{K J:List Nat}(h:BB K J=true)(O:AU K i=true):AU J i=false:=Fs h O
theorem EA.Dt(h:EA X c w K)(f:BB K J=true):EA X (Bw c J) w [0]:=HM.mono h fun k _ O=>by
 show AU [0] (Bw c J k)=true
 rw[Ia (Xk f O)];rfl
theorem DG.Dt{p:Addr}(h:DG c w K p cs)(f:BB K J=true):DG (Bw c J) w [0] p cs:=
 ⟨h.DF,by rw[Ia (Xk f h.BF)];rfl⟩
end
section
open Go.ChangeMaps
abbrev FI:=List UInt8
def tx(C:List FI)(k:Nat):FI:=C.getD k []
theorem JD{C:List FI}{t:FI}(O:k<C.length):tx (C.set k t) m=if m=k then t else tx C m:=by
 unfold tx;rw[hk,hk,Afp];by_cases h:k=m
 ·subst h;simp[O]
 ·rw[ss h,ss (fun e=>h e.symm)]
theorem yI{C:List FI}(h:C.length≤k):tx C k=[]:=by simp[tx,hk,Aam h]
theorem gk{C:List FI}(h:tx C k≠[]):k<C.length:=by
 rcases Aab k C.length with f|f
 ·exact f
 ·exact absurd (yI f) h
theorem Zf{C:List FI}(h:k<C.length):tx C k=C[k]:=by simp[tx,hk,dd h]
def aM(C:List FI):List Nat:=(List.range C.length).filter fun k=> !(tx C k).isEmpty
theorem ir{C:List FI}:k∈aM C↔tx C k≠[]:=by
 simp only[aM,Acr,Aax,Aa9,List.isEmpty_eq_false_iff];exact⟨fun h=>h.2,fun h=>⟨gk h,h⟩⟩
structure Od (es:Array MapEntry) (clock:Nat) (C:List FI):Prop where
 dx:∀e∈es.toList,∃k,tx C k≠[]∧e.key=I k∧e.val=St (tx C k)
 all:∀k,tx C k≠[]→∃e∈es.toList,e.key=I k
 keys:es.toList.Pairwise (fun x y=>x.key≠y.key)
 born:es.toList.Pairwise (fun x y=>x.born≠y.born)
 low:∀e∈es.toList,e.born<clock
theorem sV(h:I k=I m):k=m:=by injection h with _ h;omega
theorem US{α:Type}{R:α→α→Prop}(hs:∀x y,R x y→R y x):∀{l:List α},l.Pairwise R→∀{x y:α},x∈l→y∈l→¬R x y→x=y
 |[],_,_,_,hx,_,_=>by simp at hx
 |a::r,hp,x,y,hx,hy,h=>by
  obtain⟨j,p⟩:=Abg.1 hp;rcases Aak.1 hx with i|o
  ·rcases Aak.1 hy with f|g
   ·rw[i,f]
   ·exact absurd (i▸j y g) h
  ·rcases Aak.1 hy with f|g
   ·exact absurd (f▸hs _ _ (j x o)) h
   ·exact US hs p o g h
theorem mf{R:α→α→Prop}(hs:∀x y,R x y→R y x)(h:t.Pairwise R){x y:α}(hi:t[i]?=some x)(r:t[k]?=some y)(p:¬R x y):i=k:=by
 obtain⟨g,rfl⟩:=kJ.1 hi;obtain⟨o,rfl⟩:=kJ.1 r;have:=Aal.1 h;rcases Aet i k with f|f|f
 ·exact absurd (this i k g o f) p
 ·exact f
 ·exact absurd (hs _ _ (this k i o g f)) p
theorem Od.key_inj{f:Array MapEntry}{C:List FI}(h:Od f k C){x y:MapEntry}(hx:x∈f.toList)(hy:y∈f.toList)(e:x.key=y.key):x=y:=
 US (fun _ _ h=>Ne.symm h) h.keys hx hy (fun g=>g e)
theorem Od.born_inj{f:Array MapEntry}{C:List FI}(h:Od f k C){x y:MapEntry}(hx:x∈f.toList)(hy:y∈f.toList)(e:x.born=y.born):x=y:=
 US (fun _ _ h=>Ne.symm h) h.born hx hy (fun g=>g e)
theorem Od.val{f:Array MapEntry}{C:List FI}(h:Od f m C){e:MapEntry}(l:e∈f.toList)(O:e.key=I k):tx C k≠[]∧e.val=St (tx C k):=by
 obtain⟨o,i,g,j⟩:=h.dx e l;rw[O] at g;have:=sV g;subst this;exact⟨i,j⟩
theorem sW(n:Nat)(clock:Nat):Od #[] clock (replicate n []):=by
 have e:∀k,tx (replicate n []) k=[]:=fun k=>by
  unfold tx;rw[hk,Ady];split<;>rfl
 exact⟨fun _ h=>by simp at h,fun k h=>absurd (e k) h,by simp,by simp,fun _ h=>by simp at h⟩
theorem Od.push{l:Array MapEntry}{C:List FI}(h:Od l m C){t:FI}(O:k<C.length)(ht:t≠[])(o:∀e∈l.toList,e.key≠I k):Od (l.push ⟨I k,St t,m⟩) (m+1) (C.set k t):=by
 have r:∀j,tx C j≠[]→j≠k:=fun j i e=>by
  subst e;obtain⟨e,f,g⟩:=h.all j i;exact o e f g
 refine⟨fun e f=>?_,fun j i=>?_,?_,?_,fun e f=>?_⟩
 ·simp only[Aeb,Aac,pv] at f;rcases f with f|rfl
  ·obtain⟨j,p,g,J⟩:=h.dx e f;refine⟨j,?_,g,?_⟩<;>rw[JD O,ss (r j p)]<;>assumption
  exact⟨k,by rw[JD O,zm Z];exact ht,Z,by rw[JD O,zm Z]⟩
 ·rw[JD O] at i;split at i
  ·rename_i e;exact⟨⟨I k,St t,m⟩,by simp,by rw[e]⟩
  obtain⟨e,f,g⟩:=h.all j i;exact⟨e,by simp[Array.mem_toList_iff.1 f],g⟩
 ·rw[Aeb,Abp];exact⟨h.keys,by simp,fun x hx y hy=>by simp at hy;subst hy;exact o x hx⟩
 ·rw[Aeb,Abp];exact⟨h.born,by simp,fun x hx y hy=>by
   simp at hy;subst hy;have:=h.low x hx;show x.born≠m
   omega⟩
 simp only[Aeb,Aac,pv] at f;rcases f with f|rfl
 ·have:=h.low e f;omega
 exact Nat.lt_succ_self _
theorem aN{g:Array MapEntry}{f:MapEntry→MapEntry}:(g.modify k f).toList=g.toList.modify k f:=Agn
theorem Nw{α:Type}{R:α→α→Prop}{f:α→α}(t:∀x y,R x y→R (f x) y)(C:∀x y,R x y→R x (f y)):∀{l:List α} (j:Nat),l.Pairwise R→(l.modify j f).Pairwise R
 |[],j,_=>by cases j<;>simp
 |a::r,0,h=>by
  obtain⟨g,o⟩:=Abg.1 h;rw[List.modify_zero_cons];exact Abg.2 ⟨fun y hy=>t _ _ (g y hy),o⟩
 |a::r,j+1,h=>by
  obtain⟨g,o⟩:=Abg.1 h;rw[List.modify_succ_cons];refine Abg.2 ⟨fun y hy=>?_,Nw t C j o⟩;obtain⟨i,hi⟩:=Aba hy;rw[Aee] at hi;cases p:r[i]? with
  |none=>rw[p] at hi;simp at hi
  |some z=>
   rw[p] at hi;have I:=g z (Lx p);split at hi
   ·simp at hi;subst hi;exact C _ _ I
   simp at hi;subst hi;exact I
theorem mem_modify{f:α→α}{o:α}(h:t[k]?=some o){x:α}(hx:x∈t.modify k f):x=f o∨x∈t:=by
 obtain⟨i,hi⟩:=Aba hx;rw[Aee] at hi;cases g:t[i]? with
 |none=>rw[g] at hi;simp at hi
 |some z=>
  rw[g] at hi;split at hi
  ·rename_i e;subst e;rw[h] at g;injection g with g;subst g;simp at hi;exact .inl hi.symm
  ·simp at hi;subst hi;exact .inr (Lx g)
theorem Od.modify{g:Array MapEntry}{clock:Nat}{C:List FI}(h:Od g clock C){k j:Nat}{t:FI}{J:MapEntry}(O:k<C.length)(ht:t≠[])(b4:g[j]?=some J)(a6:J.key=I k):Od (g.modify j fun e=>{e with key:=I k,val:=St t}) clock (C.set k t):=by
 have r:g.toList[j]?=some J:=by simpa using b4
 have a1:J∈g.toList:=Lx r;have a7:(g.toList.modify j fun e=>{e with key:=I k,val:=St t}).map (·.key)=g.toList.map (·.key):=by
  apply Adr;intro i;rw[Aah,Aah,Aee];cases o:g.toList[i]? with
  |none=>rfl
  |some z=>
   by_cases b0:j=i
   ·subst b0;rw[r] at o;injection o with o;subst o;simp[a6]
   simp[b0]
 have c1:∀x∈g.toList.modify j (fun e=>{e with key:=I k,val:=St t}),x.key≠I k→x∈g.toList:=fun x hx a8=>by
  rcases mem_modify r hx with e|e
  ·subst e;exact absurd Z a8
  exact e
 rw[show g.modify j (fun e=>{e with key:=I k,val:=St t})=(g.toList.modify j (fun e=>{e with key:=I k,val:=St t})).toArray by rw[←aN]];refine⟨fun x hx=>?_,fun i hi=>?_,?_,?_,fun x hx=>?_⟩
 ·rcases mem_modify r hx with e|e
  ·subst e;exact⟨k,by rw[JD O,zm Z];exact ht,Z,by rw[JD O,zm Z]⟩
  obtain⟨i,b9,U,c0⟩:=h.dx x e;by_cases b1:i=k
  ·subst b1;have b7:=h.key_inj e a1 (U.trans a6.symm)
   subst b7;obtain⟨p,hp⟩:=Aba hx;have b2:=Aao (fun l=>l[p]?) a7;simp only[Aah] at b2;rw[hp] at b2;rw[Aee] at hp;cases o:g.toList[p]? with
   |none=>rw[o] at hp;simp at hp
   |some z=>
    rw[o] at hp;split at hp
    ·rename_i e;subst e;rw[r] at o;injection o with o;subst o;simp at hp;exact⟨i,by rw[JD O,zm Z];exact ht,U,by rw[JD O,zm Z,←hp]⟩
    rename_i b6;simp at hp;subst hp;exfalso;exact b6 (mf (fun _ _ h=>Ne.symm h) h.keys r o (fun a8=>a8 Z))
  refine⟨i,?_,U,?_⟩<;>rw[JD O,ss b1]<;>assumption
 ·have b5:tx C i≠[]:=by
   rw[JD O] at hi;split at hi
   ·rename_i e;subst e;exact(h.val a1 a6).1
   exact hi
  obtain⟨e,b3,U⟩:=h.all i b5;have:I (i:Int)∈(g.toList.modify j fun e=>{e with key:=I k,val:=St t}).map (·.key):=by rw[a7];exact Aag.2 ⟨e,b3,U⟩
  obtain⟨x,hx,b8⟩:=Aag.1 this;exact⟨x,hx,b8⟩
 ·have:=Adg.2 h.keys;rw[←a7] at this;exact Adg.1 this
 ·exact Nw (f:=fun e:MapEntry=>{e with key:=I k,val:=St t}) (R:=fun x y:MapEntry=>x.born≠y.born) (fun _ _ (h:MapEntry.born _≠MapEntry.born _)=>h) (fun _ _ (h:MapEntry.born _≠MapEntry.born _)=>h) j h.born
 rcases mem_modify r hx with e|e
 ·subst e;exact h.low J a1
 exact h.low x e
def Oe(w:World)(b:Nat)(C:List FI):Prop:=∃f clock,w.heap[b]?=some (.map f clock)∧Od f clock C
structure Ly (c:Nat→Nat) (w:World) (i b:Nat) (C:List FI):Prop where
 obj:Oe w b C
 BF:c b=i
section
variable {c c':Nat→Nat} {w w':World} {i b:Nat} {C:List FI}
theorem Oe.lt(h:Oe w b C):b<w.heap.size:=by obtain⟨g,clock,f,_⟩:=h;exact Cp f
theorem Oe.keep(h:Oe w b C)(O:w'.heap[b]?=w.heap[b]?):Oe w' b C:=by obtain⟨f,clock,g,h⟩:=h;exact⟨f,clock,O.trans g,h⟩
theorem Ly.D(h:Ly c w i b C)(m:Mv c w c' w' e:=by exact Go.Eng.KU)(hi:AU e i=false:=by rfl):Ly c' w' i b C:=
 ⟨h.obj.keep (m.block b h.obj.lt (by rw[h.BF];exact hi)),(m.BF b h.obj.lt).trans h.BF⟩
end
section
variable {P:Program} {env:Env} {w:World} {ty:TypeId} {b:Nat} {C:List FI}
theorem QZ(O:k≤9223372036854775807):(Lit.int .i64 (k:Int)).wf=true:=by
 simp[Lit.wf,IntKind.min,IntKind.max,IntKind.bits,IntKind.signed];omega
structure Pu (P:Program) (t k e:TypeId):Prop where
 iu:P.underlying t=some (.map k e)
 key:P.underlying k=some (.int .i64)
 zero:(P.info? e).bind (·.zero)=some (St [])
theorem Pu.zeroV{e:TypeId}(h:Pu P d A e)(w:World):(zeroValue e).run P w= .ok (St []) w:=by
 have:=h.zero;cases hi:P.info? e with
 |none=>rw[hi] at this;cases this
 |some i=>
  rw[hi] at this;have f:i.zero=some (St []):=this;simp[zeroValue,typeInfo,Sem.run,hi,f]
theorem Od.find{f:Array MapEntry}(h:Od f m C)(O:P.underlying d=some (.int .i64))(hC:C.length≤9223372036854775807)(J:k≤9223372036854775807)(w:World):
 ((Instr.findKey d (I k) f.toList).run P w= .ok none w∧(∀e∈f.toList,e.key≠I k)∧tx C k=[])∨∃j e,(Instr.findKey d (I k) f.toList).run P w= .ok (some (j,e.val)) w∧f[j]?=some e∧e.key=I k∧e.val=St (tx C k)∧tx C k≠[]:=by
 have K:=Maps.int_keyed (P:=P) O;have R:∀e∈f.toList,∃l,keyOf P d e.key=some l:=fun e o=>by
  obtain⟨j,i,g,_⟩:=h.dx e o;rw[g];exact⟨_,Aez O (QZ (by have:=gk i;omega))⟩
 rcases K.find w (Aez O (QZ J)) f.toList R with⟨i,g⟩|⟨j,e,i,g,p⟩
 ·refine .inl ⟨i,g,Afn fun U=>?_⟩;obtain⟨e,o,t⟩:=h.all k U;exact g e o t
 have r:f[j]?=some e:=by simpa using g
 have hv:=h.val (Lx g) p;exact .inr ⟨j,e,i,r,p,hv.2,hv.1⟩
theorem Ra(O:P.underlying d=some (.int .i64))(f:Bool)(g:k≤9223372036854775807)(w:World):(Instr.checkKey f 10000 d (I k)).run P w= .ok () w:=
 (Maps.int_keyed (P:=P) O).check w f (Aez O (QZ g))
theorem Zg(n:Nat):Hh P env w (.makeMap d none) ty (fun v w'=>AZ w w'∧v= .map (some w.heap.size)∧Oe w' w.heap.size (replicate n [])∧w'.heap.size=w.heap.size+1):=
 Cr fun _ a i t pos f g=>⟨.map (some w.heap.size),w.alloc (.map #[] 0),by simp[execOp,Instr.makeMap],(Aar _ _).alloc (kM _) _,Z,⟨#[],0,Ads _ _,sW n 0⟩,Ahh _ _⟩
theorem aO{e:TypeId}{y:Operand}(hT:Pu P d A e)(a6:BY env f=some (.map (some b)))(a8:Oe w b C){s:FI}(hx:BY env K=some (I k))(hy:BY env y=some (St s))(O:k<C.length)(hC:C.length≤9223372036854775807)(hs:s≠[]):
 Hh P env w (.mapUpdate d f K y) ty (fun _ w'=>Oe w' b (C.set k s)∧w.grownBy w' (some b)):=
 FL fun _ a l t pos m g=>by
  obtain⟨R,clock,m,J⟩:=a8;have a7:∀o,(setBlock w b o).heap[b]?=some o:=fun o=>heap_setBlock_same m o;have a1:∀o,w.grownBy (setBlock w b o) (some b):=fun o=>⟨Z,Z,Z,by simp[setBlock],fun i _ hi=>heap_setBlock_other m o (fun e=>hi (by rw[e]))⟩;have Ze:=Ra (P:=P) hT.key false (k:=k) G w;rcases J.find (P:=P) hT.key hC (k:=k) G w with⟨r,p,_⟩|⟨j,U,r,p,U,_,_⟩
  ·refine⟨setBlock w b (.map (R.push ⟨I k,St s,clock⟩) (clock+1)),?_,⟨_,_,a7 _,J.push O hs p⟩,a1 _⟩;simp[execOp,l.eval a6,l.eval hx,l.eval hy,Instr.mapUpdate,Aaj hT.iu,Acd m,Ze,r,Ad8 _ m,Result.andThen,setBlock]
  refine⟨setBlock w b (.map (R.modify j fun e=>{e with key:=I k,val:=St s}) clock),?_,⟨_,_,a7 _,J.modify O hs p U⟩,a1 _⟩;have J:(Instr.keyThatStays (I k) (I k)).run P w= .ok (I k) w:=(Maps.int_keyed (P:=P) hT.key).stays w (Aez hT.key (QZ G));simp[execOp,l.eval a6,l.eval hx,l.eval hy,Instr.mapUpdate,Aaj hT.iu,Acd m,Ze,r,p,U,J,Ad8 _ m,Result.andThen,setBlock]
theorem iv{e:TypeId}(hT:Pu P d A e)(R:Oe w b C)(O:k≤9223372036854775807)(hC:C.length≤9223372036854775807)(ok:Bool):(Instr.lookup d (.map (some b)) (I k) ok).run P w= .ok (if ok then .tuple #[St (tx C k), .bool (!(tx C k).isEmpty)] else St (tx C k)) w:=by
 obtain⟨l,clock,i,J⟩:=R;have Ze:=Ra (P:=P) hT.key l.isEmpty O w;rcases J.find (P:=P) hT.key hC O w with⟨f,o,g⟩|⟨j,U,f,o,g,p,r⟩
 ·simp[Instr.lookup,Aaj hT.iu,Acd i,Ze,f,hT.zeroV,Result.andThen,g];try(cases ok<;>simp)
 ·simp[Instr.lookup,Aaj hT.iu,Acd i,Ze,f,Result.andThen,p];cases ok<;>simp[r]
theorem yJ{e:TypeId}(hT:Pu P d A e)(i:BY env f=some (.map (some b)))(j:Oe w b C)(hx:BY env K=some (I k))(O:k≤9223372036854775807)(hC:C.length≤9223372036854775807):
 DP P env w (.lookup d f K true) ty (.tuple #[St (tx C k), .bool (!(tx C k).isEmpty)]):=fun _ a m t pos l g=>by
 simp[execOp,m.eval i,m.eval hx,iv hT j O hC,Result.andThen]
theorem aP{e:TypeId}(hT:Pu P d A e)(j:BY env f=some (.map (some b)))(l:Oe w b C):Hh P env w (.call ⟨.builtin .clear,#[f],#[d]⟩) ty (fun _ w'=>Oe w' b (replicate C.length [])∧w.grownBy w' (some b)):=
 Cr fun _ a o t pos p g=>by
  obtain⟨r,clock,m,I⟩:=l;refine⟨.tuple #[],setBlock w b (.map #[] clock),?_,⟨_,_,heap_setBlock_same m _,sW _ _⟩,⟨Z,Z,Z,by simp[setBlock],fun i _ hi=>heap_setBlock_other m _ (fun e=>hi (by rw[e]))⟩⟩;simp[execOp,resolve,invoke,builtin,Builtin.clear_,o.eval j,Aaj hT.iu,Acd m,Ad8 _ m,Result.andThen,setBlock]
end
def mg(w:World)(r b:Nat)(C:List FI)(done:List Nat):Prop:=∃f clock g seen c0,w.heap[b]?=some (.map f clock)∧Od f clock C∧w.heap[r]?=some (.mapIter (some b) g seen c0)∧(∀e∈f.toList,e.born<g)∧g≤c0∧g≤clock∧
 (∀e∈f.toList,seen.contains e.born=true↔∃k∈done,e.key=I (k:Nat))∧(∀pre k,done=pre++[k]→c0=clock∧∃i:Array Nat,∃e∈f.toList,seen=i.push e.born∧e.key=I (k:Nat))∧done.Nodup∧∀k∈done,tx C k≠[]
section
variable {P:Program} {env:Env} {w:World} {ty:TypeId} {b r:Nat} {C:List FI} {done:List Nat}
theorem mg.lt(h:mg w r b C done):r<w.heap.size∧b<w.heap.size:=by obtain⟨i,clock,j,seen,c0,f,_,g,_⟩:=h;exact⟨Cp g,Cp f⟩
theorem mg.keep(h:mg w r b C done)(o:w'.heap[r]?=w.heap[r]?)(p:w'.heap[b]?=w.heap[b]?):mg w' r b C done:=by
 obtain⟨l,clock,t,seen,c0,f,g,i,j⟩:=h;exact⟨l,clock,t,seen,c0,p.trans f,g,o.trans i,j⟩
theorem aQ{e:TypeId}(hT:Pu P d A e)(p:BY env f=some (.map (some b)))(l:Oe w b C):Hh P env w (.range d f) ty (fun v w'=>AZ w w'∧v= .pointer (some ⟨w.heap.size,0,none⟩)∧mg w' w.heap.size b C []):=
 Cr fun _ a r t pos I g=>by
  have o:=l.lt;obtain⟨m,clock,j,i⟩:=l;refine⟨_,_,?_,(Aar _ w).alloc (kM _) (.mapIter (some b) clock #[] clock),Z,m,clock,clock,#[],clock,((MapKept.heap_alloc w _).2 b o).trans j,i,(MapKept.heap_alloc w _).1,i.low,kM _,kM _,fun e _=>by simp,fun pre k h=>by simp at h,by simp,by simp⟩;simp[execOp,r.eval p,run_range_map w d A e b m clock hT.iu j,Result.andThen]
theorem dU{x:Operand}(hx:BY env x=some (.pointer (some ⟨r,0,none⟩)))(h:mg w r b C done):Hh P env w (.next x false) ty (fun v w'=>w.grownBy w' (some r)∧
 ((v= .tuple #[.bool false]∧mg w' r b C done∧∀k,tx C k≠[]→k∈done)∨∃k,k∉done∧tx C k≠[]∧v= .tuple #[.bool true,I (k:Nat),St (tx C k)]∧mg w' r b C (done++[k]))):=
 Cr fun _ a c3 d pos e5 g=>by
  obtain⟨J,clock,a6,seen,c0,a7,t,U,b2,c4,b5,a8,e2,c2,c1⟩:=h;have e4:r≠b:=fun e=>by rw[e,a7] at U;cases U
  rcases run_next_at (P:=P) w ty r b a6 c0 seen J clock U a7 b2 c4 with⟨c6,b3⟩|⟨e,c9,w1,b1,b3⟩
  ·refine⟨_,w,by simp[execOp,c3.eval hx,b3,Result.andThen],⟨Z,Z,Z,kM _,fun _ _ _=>rfl⟩, .inl ⟨Z,⟨J,clock,a6,seen,c0,a7,t,U,b2,c4,b5,a8,e2,c2,c1⟩,fun k O=>?_⟩⟩;obtain⟨e,l,e0⟩:=t.all k O;obtain⟨o,j,b6⟩:=(a8 e l).1 (all_seen J seen c6 e l);rw[e0] at b6;rw[sV b6];exact j
  obtain⟨l,e1⟩:=mem_left c9;obtain⟨k,b8,R,c7⟩:=t.dx e l;have e3:w1.heap[r]?=some (.mapIter (some b) a6 seen c0):=by rcases b1 with rfl|rfl<;>exact U
  have c8:w1.heap[b]?=some (.map J clock):=by rcases b1 with rfl|rfl<;>exact a7
  have b4:=MapKept.heap_set (o':= .mapIter (some b) a6 (seen.push e.born) clock) e3;have b9:k∉done:=fun O=>by
   have:=(a8 e l).2 ⟨k,O,R⟩;rw[e1] at this;cases this
  refine⟨_,_,by simp[execOp,c3.eval hx,b3,Result.andThen];exact⟨Z,Z⟩,?_, .inr ⟨k,b9,b8,by rw[R,c7],J,clock,a6,seen.push e.born,clock,(b4.2 b (fun b0=>e4 b0.symm)).trans c8,t,b4.1,b2,b5,b5,fun x a1=>?_,fun pre o j=>?_,?_,?_⟩⟩
  ·rcases b1 with rfl|rfl<;>exact⟨Z,Z,Z,by simp[setBlock],fun i _ hi=>b4.2 i (fun b0=>hi (by rw[b0]))⟩
  ·rw[contains_push,Aa3,a8 x a1];constructor
   ·rintro(⟨o,j,p⟩|p)
    ·exact⟨o,by simp[j],p⟩
    have:=t.born_inj a1 l (by simpa using p);subst this;exact⟨k,by simp,R⟩
   rintro⟨o,j,p⟩;rcases Aac.1 j with f|f
   ·exact .inl ⟨o,f,p⟩
   simp at f;subst f;right;have:=t.key_inj a1 l (p.trans R.symm);subst this;simp
  ·obtain⟨rfl,b7⟩:=List.append_inj' j Z;simp at b7;subst b7;exact⟨Z,seen,e,l,Z,R⟩
  ·rw[Ac5];exact⟨c2,by simp,fun x a1 y hy c5=>by simp at hy;subst hy;subst c5;exact b9 a1⟩
  intro o j;rcases Aac.1 j with f|f
  ·exact c1 o f
  simp at f;subst f;exact b8
theorem uk{x:Operand}{k:Nat}(hx:BY env x=some (.pointer (some ⟨r,0,none⟩)))(h:mg w r b C (done++[k])):DP P env w (.entry x) ty (.tuple #[I (k:Nat),St (tx C k)]):=fun _ a J d pos a6 g=>by
 obtain⟨o,clock,a1,seen,c0,p,f,R,b0,b1,b3,b2,t,a8,a7⟩:=h;obtain⟨rfl,U,e,i,rfl,j⟩:=t done k Z;have hv:=f.val i j;have l:=run_entry_at (P:=P) w r b a1 U o c0 e R p i (Adg.2 f.born);rw[j,hv.2] at l;simp[execOp,J.eval hx,l,Result.andThen]
end
end
section
open Go.Lib
section
variable {P:Program} {c:Nat→Nat} {w:World} {i:Nat} {e:TypeId} {size:Nat} {v:Value} {n:Nat} {xs:List Value}
theorem Zd.src(h:Zd w e size v n xs)(hu:P.underlying d=some (.slice A))(i:∀y∈xs,y.oneCell'=true):Src P w d size v n xs:=by
 have hl:=h.1;rcases h.2 with⟨rfl,f,rfl⟩|⟨g,o,cap,l,p,rfl,hg,C,I,r,t,J,LF⟩
 ·have hx:xs=[]:=rY (by simpa using hl);subst hx;refine⟨.inl ⟨_,hu⟩,fun W=>by cases f<;>simp[Builtin.lenOf],fun W _=>?_,by simp,by simp⟩;cases f with
  |none=>exact Afj (P:=P) W size 0 0 0
  |some a=>simpa using Ab8 (P:=P) W size 0 a 0 0 [] Bb (fun j y hy=>by simp at hy)
 exact Aw hu (h.cells Z LF) hl i
theorem AJ.gl(h:AJ c w i e size v n xs)(hu:P.underlying d=some (.slice A))(g:∀y∈xs,y.oneCell'=true)(O:k≤n):Src P w d size (En v k n size) (n-k) (xs.drop (k*size)):=
 (h.own.any.from O).src hu fun y hy=>g y (Acy hy)
theorem AJ.to(h:AJ c w i e size v n xs)(O:k≤n):AJ c w i e size (En v 0 k size) k (xs.take (k*size)):=by
 have I:k*size≤n*size:=WN _ O;refine⟨⟨by rw[kL,h.own.1];omega,?_⟩,fun j C=>h.BF j (PJ C)⟩;rcases h.own.2 with⟨rfl,A,rfl⟩|⟨g,cap,f,l,rfl,o,hg,t,R,p,r,J,LF⟩
 ·have:k=0:=G;subst this;exact .inl ⟨Z,A,by simp[En]⟩
 refine .inr ⟨g,cap,f,l,?_,o,hg,t,G,p,r,?_,LF⟩
 ·simp[En,add_lit]
 rw[←J,Aed,Abl I]
theorem AJ.wide{A:Option Addr}(h:AJ c w i e size (.slice A n m) n xs)(hc:n+k≤m):∃ys,ys.length=k*size∧AJ c w i e size (En (.slice A n m) 0 (n+k) size) (n+k) (xs++ys):=by
 have hl:=h.own.1;rcases h.own.2 with⟨rfl,f,o⟩|⟨g,f,f,C,o,J,hg,U,l,R,t,a1,LF⟩
 ·injection o with r I l;subst l;have:k=0:=G;subst this;have hx:xs=[]:=rY (by simpa using hl);subst hx;refine⟨[],by simp,⟨⟨by simp, .inl ⟨G,A,by simp[En]⟩⟩,fun j p=>h.BF j (PJ p)⟩⟩
 injection o with r I l;subst r l;have o:(n+k)*size=n*size+k*size:=Aad _ _ _;have l:(n+k)*size≤m*size:=WN _ hc;have l:f.toList.length=m*size:=by simpa using t
 refine⟨(f.toList.drop (n*size)).take (k*size),by rw[kL,kK,l];omega,⟨⟨?_, .inr ⟨g,m,f,C,?_,J,hg,U,hc,R,t,?_,LF⟩⟩,fun j p=>h.BF j (PJ p)⟩⟩
 ·rw[ft,hl,kL,kK,l];omega
 ·simp[En,add_lit]
 rw[o,List.take_add,a1]
end
section
variable {P:Program} {env:Env} {ty:TypeId} {c:Nat→Nat} {w:World} {i:Nat} {e:TypeId} {size:Nat} {v:Value} {n:Nat} {xs:List Value}
theorem AJ.put(h:AJ c w i e size v n xs){o:Nat}(a1:0<n)(a6:o+news.length≤n*size)(C:∀y∈news,y.oneCell'=true):
 ∃g cap w',v= .slice (some ⟨g,0,none⟩) n cap∧(storeCells ⟨g,o,none⟩ news).run P w= .ok () w'∧AJ c w' i e size v n (xs.take o++news++xs.drop (o+news.length))∧Mv c w c w' [i]:=by
 rcases h.own.2 with⟨rfl,A,rfl⟩|⟨g,cap,f,j,rfl,I,hg,p,r,J,t,R,LF⟩
 ·omega
 have l:n*size≤cap*size:=WN _ r;have l:f.toList.length=cap*size:=by simpa using t
 have t:=ER (P:=P) g o e j news 0 f w hg p G C;simp only[Aeg] at t;have U:=h.own.1;refine⟨g,cap,_,Z,t,⟨⟨?_, .inr ⟨g,cap,_,j,Z,I,Agq w g f _ e j hg,?_,r,J,?_,?_,LF⟩⟩,h.BF⟩,?_⟩
 ·simp only[ft,kL,kK,U];omega
 ·intro hf;have:=p hf;simp only[Abz,ft,kL,kK,l];omega
 ·simp only[Abz,ft,kL,kK,l];omega
 ·rw[←R];show(f.toList.take o++news++f.toList.drop (o+news.length)).take (n*size)=_
  rw[Ag7,Ag7,Aed,Aed,ft,kL,l,List.drop_take];rw[Abl (show o≤cap*size by omega),Aft (show o≤n*size by omega),Abl (show o≤n*size by omega)];rw[vq (show news.length≤n*size-o by omega),Nat.sub_add_eq]
 refine⟨Z,Z,Z,by simp[World.setRow],fun _ _=>rfl,fun k _ O=>Ahb w g k _ (fun e=>?_)⟩;rw[e] at O;have f:=h.BF g (Bh LF);rw[f] at O;simp[AU] at O
theorem Jc{x y:Operand}{j:Nat}(ht:IM P d=some size)(R:AJ c w i e size v n xs)(I:j<n)(hx:BY env x=some (.pointer (some (Bz v size j))))(hy:BY env y=some (.agg cs.toArray))(hl:cs.length=size)(p:∀y∈cs,y.oneCell'=true):
 Hh P env w (.store d x y) ty (fun _ w'=>∃c',Mv c w c' w' [i]∧AJ c' w' i e size v n (xs.take (j*size)++cs++xs.drop ((j+1)*size))):=
 FL fun _ a l t pos f g=>by
  obtain⟨_,f,C,a1⟩:=HU (w:=w) ht;have f:(j+1)*size≤n*size:=WN _ I;have J:(j+1)*size=j*size+size:=by rw[Aad,Aa2]
  obtain⟨f,cap,w',rfl,U,f,r⟩:=R.put (P:=P) (o:=j*size) (news:=cs) G G p;rw[hl,←J] at f;refine⟨w',?_,c,r,f⟩;simp only[execOp,Instr.storeAt,storeVar,l.eval hx,l.eval hy,Instr.sureAddr,Abk,Acw,Abd,sizeOf,typeInfo,program,Sem.run,C,Value.cells,Abz,hl,a1];simp[Bz,add_lit,U]
theorem Dv{x y:Operand}{j:Nat}{u:Value}{J:Nat}(ht:FB P d=true)(p:AJ c w i e size v n xs)(hv:v= .slice (some ⟨k,0,none⟩) m J)(a6:j<n*size)(hx:BY env x=some (.pointer (some ⟨k,j,none⟩)))(hy:BY env y=some u)(hu:u.cells=#[u])(R:u.oneCell'=true):
 Hh P env w (.store d x y) ty (fun _ w'=>∃c',Mv c w c' w' [i]∧AJ c' w' i e size v n (xs.set j u)):=
 FL fun _ a l t pos f g2=>by
  obtain⟨f,a1,a8⟩:=Uj ht;have a7:0<n:=by
   rcases Aa6 n with h|h
   ·rw[h,Ac4] at a6;omega
   exact h
  obtain⟨f,cap,w',I,C,f,U⟩:=p.put (P:=P) (o:=j) (news:=[u]) a7 (by simp;omega) (by simpa using R);rw[hv] at I;injection I with hg _ _;injection hg with hg;injection hg with hg _ _;subst hg;have I:=p.own.1;have I:xs.take j++[u]++xs.drop (j+[u].length)=xs.set j u:=by
   rw[Acg,zm G];simp
  rw[I] at f;refine⟨w',?_,c,U,f⟩;simp only[storeCells,Abk,Acw] at C;have key:∀r:Result Unit,(r.andThen fun _ w=> .ok () w)= .ok () w'→(r.andThen fun _ w=> .ok Next.skip w)= .ok Next.skip w':=fun r h=>by
   cases r<;>simp_all [Result.andThen]
  have f:=key _ C;simp only[execOp,Instr.storeAt,storeVar,l.eval hx,l.eval hy,Instr.sureAddr,Abk,Acw,Abd,sizeOf,typeInfo,program,Sem.run,a1,hu,a8];simpa[storeCells] using f
theorem Hz{t t2:TypeId}{by_:Nat}{z:List Value}{x y:Operand}{a m:Nat}{l:Value}{news:List Value}(ht:JQ P t=some (e,size,by_,z))(U:AJ c w i e size v n xs)(b0:0<n)(b8:a≤n)(hx:BY env x=some (En v a n size))(hy:BY env y=some l)
 (C:∀W:World,(Builtin.lenOf l).run P W= .ok m W)(a8:∀W:World,W.heap=w.heap→(Builtin.firstCells size (Nat.min m (n-a)) l).run P W= .ok news.toArray W)(b2:news.length=Nat.min m (n-a)*size)(a1:∀y∈news,y.oneCell'=true):
 Hh P env w (.call ⟨.builtin .copy,#[x,y],#[t,t2]⟩) ty (fun _ w'=>∃c',Mv c w c' w' [i]∧AJ c' w' i e size v n (xs.take (a*size)++news++xs.drop (a*size+news.length))):=
 Cr fun _ b4 f d pos b5 g=>by
  obtain⟨hu,c5,c6,hi,hs,b9,c4,c0,c1⟩:=DU ht;have c2:Nat.min m (n-a)*size≤(n-a)*size:=WN _ (Ag6 _ _);have c3:a*size+(n-a)*size=n*size:=by rw[←Aad];congr 1;omega
  obtain⟨b6,cap,w',rfl,j,a6,a7⟩:=U.put (P:=P) (o:=a*size) (news:=news) b0 G a1;have hf:=a8 w Z;refine⟨I ((Nat.min m (n-a):Nat):Int),w',?_,c,a7,a6⟩;by_cases p:cap=a
  ·have R:n-a=0:=by
    have:=U.own.len;obtain⟨A,cp,r,b7,_⟩:=this;injection r with _ _ r;omega
   have J:Nat.min m (n-a)=0:=by rw[R];exact Nat.min_zero m
   have b1:news=[]:=rY (by rw[b2,J,Ac4]);subst b1;have b3:w'=w:=by simp[storeCells] at j;exact j.symm
   subst b3;rw[J] at hf;simp[execOp,resolve,invoke,builtin,Builtin.copy_,f.eval hx,f.eval hy,Aaj hu,sizeOf,typeInfo,hi,hs,C,En,p,R,hf,goInt,storeCells]
  simp[execOp,resolve,invoke,builtin,Builtin.copy_,f.eval hx,f.eval hy,Aaj hu,sizeOf,typeInfo,hi,hs,C,En,p,hf,j,goInt,add_lit]
theorem Pv{tn:Option Addr}{kn:IntKind}{by_:Int}(j:Nat)(ht:JQ P d=some (e,size,k,b))(b0:P.underlying A=some (.int kn))(a8:0<size)(r:AJ c w i e size (.slice tn n m) n xs)(hx:BY env f=some (.slice tn n m))(hy:BY env K=some (.int R by_))
 (kq:0<by_)(hg:(m:Int)<n+by_)(b2:(n:Int)+by_≤1048576)(b1:1048576*k≤140737488355328):
 Hh P env w (.call ⟨.builtin .append,#[f,K],#[d,A]⟩) ty (fun v' w'=>∃c',Mv c w c' w' []∧∃Gjq ys,ys.length=by_.toNat*size∧v'= .slice (some ⟨w.heap.size,0,none⟩) (n+by_.toNat) Gjq∧AJ c' w' j e size v' (n+by_.toNat) (xs++ys)):=
 Cr fun _ x I t pos x g=>by
  obtain⟨cap,rfl⟩:=Abv (Int.le_of_lt kq);obtain⟨hu,x,l,hi,p,o,U,hc,hl⟩:=DU ht;subst p o;have o:(n+cap)*x.bytes≤1048576*x.bytes:=WN _ G;have o:cap*x.bytes≤(n+cap)*x.bytes:=WN _ G;have p:=r.own.1;have J:(Builtin.firstCells x.size n (.slice tn n m)).run P w.drew= .ok xs.toArray w.drew:=by
   rcases r.own.2 with⟨rfl,o,o⟩|⟨g,C,C,C,o,C,C,C,C,C,C,C,LF⟩
   ·have C:xs=[]:=rY (by simpa using p);subst C;injection o with _ _ o;subst o;cases tn with
    |none=>exact Afj (P:=P) w.drew x.size 0 0 0
    |some a=>simpa using Ab8 (P:=P) w.drew x.size 0 a 0 0 [] Bb (fun j K hy=>by simp at hy)
   injection o with o _ C;subst o C;exact Ab8 (P:=P) w.drew x.size n ⟨g,0,none⟩ n m xs p (r.own.cells (Bh LF))
  have a7:=Lib.run_append_grow_zeros (P:=P) w d A ty e x l R kn hu b0 hi U tn n m xs J cap G a8 G G G (Agr G G);have a1:=Ags w (n+cap) m e;have a6:=Ag5 w (n+cap) m e (by unfold maxLen;omega);have C:l.cells.size=x.size:=by rw[hc];simpa using hl
  have J:Below w.heap.size w (w.drew.alloc (.cells (xs.toArray++Builtin.zeroCells l.cells cap++Builtin.zeroCells l.cells (grownCap w (n+cap) m e-(n+cap))) e)):=(Aar _ _).drew.alloc (kM _) _;obtain⟨c',o,U⟩:=Mv.pure c j J;have J:(Builtin.zeroCells l.cells cap).toList.length=cap*x.size:=by rw[Ac7,Agp,C]
  refine⟨_,_,by simp only[execOp,resolve,invoke,builtin,List.map_toArray,Aci,List.map_nil,I.eval hx,I.eval hy,a7,Abk,Abd,Acw];rfl,c',o,grownCap w (n+cap) m e,(Builtin.zeroCells l.cells cap).toList,by rw[Ac7,Agp,C];rfl,Z,⟨?_,fun j o=>?_⟩⟩
  ·refine⟨by rw[ft,J,p,Aad];rfl, .inr ⟨w.heap.size,_,_,(0,0),Z,Wm _,Aex w.drew _,fun h=>by simp at h,a1,a6,?_,?_,G⟩⟩
   ·simp only[Ag4,Abz,Agp,C,p,←Aad];congr 1;omega
   have C:(xs++(Builtin.zeroCells l.cells cap).toList).length=(n+cap)*x.size:=by rw[ft,J,p,Aad]
   simp only[Ago,TJ];rw[←C];exact Aco
  refine U j ?_;rw[Bh (show 0<grownCap w (n+cap) m e by omega)] at o;injection o with o;exact Ado o
end
section
variable {P:Program} {env:Env} {w:World} {ty t e:TypeId} {sz by_:Nat} {z:List Value}
theorem UT{A:Option Addr}{c:Nat}(ht:P.underlying t=some (.slice e))(hx:BY env f=some (.slice A n c)):DP P env w (.binOp .eql t f (.const (.slice none 0 0)) d) ty (.bool A.isNone):=fun _ a j ty2 pos l g=>by
 have x:=run_equal_slice_nil (P:=P) (w:=w) t e A n c ht;have i:a.eval (.const (.slice none 0 0))= .slice none 0 0:=rfl;simp[execOp,j.eval hx,eqGuard,binOp,x,i]
theorem yK{l o:Operand}{A:Option Addr}{c:Nat}{U a1:IntKind}{j:Nat}(ht:JQ P t=some (e,sz,by_,z))(hx:BY env f=some (.slice A n c))(hy:BY env K=some (.int R i))(J:BY env l=some (.int U j))(k:BY env o=some (.int a1 m))(p:i≤j)(r:j≤m)(C:m≤c):
 DP P env w (.slice t f (some K) (some l) (some o)) ty (.slice (if m=i then A else A.map (·.add (i*sz))) (j-i) (m-i)):=fun _ a x d pos I g=>by
 obtain⟨hu,I,I,I,hs,_⟩:=DU ht;subst hs;simp[execOp,Instr.sliceAt,Instr.slice,Instr.sliceBounds,Instr.sliceBound,asIntOf,x.eval hx,x.eval hy,x.eval J,x.eval k,Aaj hu,p,r,C,sizeOf,typeInfo,I]
end
section
variable {α:Type} {enc:α→List Value} {n:Nat}
theorem KO(f:∀x,(enc x).length=n):∀(l:List α) (k:Nat),(l.flatMap enc).take (k*n)=(l.take k).flatMap enc
 |_,0=>by simp
 |[],k+1=>by simp
 |x::r,k+1=>by
  rw[Aaa,Afh,Aaa,←KO f r k,show(k+1)*n=(enc x).length+k*n by rw[f,Aad,Aa2,Adi],List.take_length_add_append]
theorem Jd(f:∀x,(enc x).length=n):∀(l:List α) (k:Nat),(l.flatMap enc).drop (k*n)=(l.drop k).flatMap enc
 |_,0=>by simp
 |[],k+1=>by simp
 |x::r,k+1=>by
  rw[Aaa,Agm,←Jd f r k,show(k+1)*n=(enc x).length+k*n by rw[f,Aad,Aa2,Adi],List.drop_length_add_append]
theorem LQ(f:∀x,∀u∈enc x,u.oneCell'=true)(l:List α):∀u∈l.flatMap enc,u.oneCell'=true:=fun u hu=>by
 obtain⟨x,_,hx⟩:=Ab5.1 hu;exact f x u hx
theorem aR(i:∀x,(enc x).length=n){l:List α}{k:Nat}{x:α}{ys:List Value}(O:k≤l.length)(hy:ys.length=(l.length+1-k)*n){g f:List Value}(o:g=(l.flatMap enc).take (k*n)++ys)(p:f=g.take (k*n)++enc x++g.drop (k*n+(enc x).length)):
 f.take ((k+1)*n)++(l.drop k).flatMap enc++f.drop ((k+1)*n+((l.drop k).flatMap enc).length)=(l.take k++x::l.drop k).flatMap enc:=by
 have j:((l.take k).flatMap enc).length=k*n:=by rw[EN i,kL,Abl O]
 have r:((l.drop k).flatMap enc).length=(l.length-k)*n:=by rw[EN i,kK]
 have R:(k+1)*n=k*n+n:=by rw[Aad,Aa2]
 have U:(l.length+1-k)*n=(l.length-k)*n+n:=by rw[show l.length+1-k=l.length-k+1 by omega,Aad,Aa2]
 rw[KO i] at o;have C:g.length=k*n+(l.length+1-k)*n:=by rw[o,ft,j,hy]
 have t:g.take (k*n)=(l.take k).flatMap enc:=by rw[o,←j];exact Aco
 rw[t] at p;have J:f.length=(k+1)*n+(l.length-k)*n:=by
  rw[p,ft,ft,j,i,kK,C];omega
 have I:f.take ((k+1)*n)=(l.take k).flatMap enc++enc x:=by
  have:(k+1)*n=((l.take k).flatMap enc++enc x).length:=by rw[ft,j,i];omega
  rw[p,this];exact Aco
 have hd:f.drop ((k+1)*n+((l.drop k).flatMap enc).length)=[]:=Abn (by rw[J,r];omega);rw[I,hd,Aaz,Aan,Aaa,oo]
theorem Xl(f:∀x,(enc x).length=n){l:List α}{k:Nat}{x:α}{ys:List Value}(O:k≤l.length)(hy:ys.length=1*n){X g Djq:List Value}(j:X=l.flatMap enc++ys)(C:Djq=(X.drop (k*n)).take ((l.length-k)*n))(i:g=X.take ((k+1)*n)++Djq++X.drop ((k+1)*n+Djq.length)):
 g.take (k*n)++enc x++g.drop (k*n+(enc x).length)=(l.take k++x::l.drop k).flatMap enc:=by
 have hl:=EN f l;have t:k*n≤l.length*n:=WN _ O;have a6:l.length*n=k*n+(l.length-k)*n:=by rw[←Aad];congr 1;omega
 have a1:(k+1)*n=k*n+n:=by rw[Aad,Aa2]
 have o:Djq=(l.drop k).flatMap enc:=by
  rw[C,j,Ae7 (by rw[hl];exact t),Jd f];have:(l.length-k)*n=((l.drop k).flatMap enc).length:=by rw[EN f,kK]
  rw[this];exact Aco
 have I:Djq.length=(l.length-k)*n:=by rw[o,EN f,kK]
 have p:X.length=l.length*n+n:=by rw[j,ft,hl,hy,Aa2]
 have U:X.drop ((k+1)*n+Djq.length)=[]:=Abn (by rw[p,I];omega);rw[U,Aaz] at i;have r:(X.take ((k+1)*n)).length=(k+1)*n:=by rw[kL,p];omega
 have J:g.take (k*n)=(l.take k).flatMap enc:=by
  rw[i,Ade (by rw[r];omega),Aed,Abl G,j,Ade (by rw[hl];exact t),KO f]
 have R:g.drop (k*n+(enc x).length)=Djq:=by
  rw[f,←a1,i];exact Afe r
 rw[J,R,o,Aan,Aaa,oo]
theorem LR(f:∀x,(enc x).length=n)(l:List α)(k:Nat)(O:k<l.length)(x:α):(l.flatMap enc).take (k*n)++enc x++(l.flatMap enc).drop ((k+1)*n)=(l.set k x).flatMap enc:=by
 rw[KO f,Jd f,Acg,zm O,Aan,Aaa,oo]
end
section
variable {c:Nat→Nat} {w:World} {i:Nat} {e:TypeId} {size:Nat}
theorem AJ.CT(h:AJ c w i e size a n b)(p:0<n):∃g cp,a= .slice (some ⟨g,0,none⟩) n cp∧n≤cp∧cp≤9223372036854775807:=by
 rcases h.own.2 with⟨f,_⟩|⟨g,cap,l,o,rfl,_,_,_,f,j,_⟩
 ·omega
 ·exact⟨g,cap,Z,f,by rw[HE] at j;omega⟩
theorem PN:AJ c w i e size (.slice (some ⟨k,0,none⟩) 0 0) 0 []:=⟨CJ.zero _ _ _ _ _,fun b O=>by rw[Iq] at O;cases O⟩
variable {P:Program} {env:Env} {ty:TypeId}
theorem GJ(c:Nat→Nat)(ht:JQ P d=some (e,size,k,b)):Hh P env w (.buildSlice d 0 #[]) ty (fun v w'=>∃c',Mv c w c' w' []∧∃z,v= .slice (some ⟨z,0,none⟩) 0 0):=
 Cr fun _ a l t pos i g=>by
  obtain⟨hu,p,r,hi,hs,j,o,hc,hl⟩:=DU ht;obtain⟨c',f,_⟩:=Mv.pure (w:=w) c 1 ((Aar w.heap.size w).alloc (kM _) (.cells #[] e));refine⟨.slice (some ⟨w.heap.size,0,none⟩) 0 0,w.alloc (.cells #[] e),?_,c',f,_,Z⟩;simp[execOp,Instr.buildSlice,Aaj hu,sizeOf,typeInfo,hi,newRow,Instr.fill];rw[show(Array.map (fun _=>(default:Value)) (Array.range 0))=#[] from by simp[Array.range]]
theorem mh{args:Array Operand}{at_:Array TypeId}(hx:fu env args.toList=some b)(o:(callFunc S b.toArray).run P w= .ok (.value a) w):DP P env w (.call ⟨.value (.func S),args,at_⟩) ty a:=fun _ u l d pos p g=>by
 have i:=l.SH hx;have e:args.map u.eval=b.toArray:=by rw[←i];apply Ag1;simp
 have j:u.eval (.func S)= .func (.func S) #[] #[]:=rfl;simp[execOp,resolve,Deferred.ofValue,j,invoke,e,o]
theorem AJ.Sh(h:AJ c w i e size a n b)(O:k+m≤n):∀W:World,W.heap=w.heap→(Builtin.firstCells size m (En a k n size)).run P W= .ok ((b.drop (k*size)).take (m*size)).toArray W:=by
 intro W l;have r:=h.own.1;have f:=h.own.any.from (k:=k) G;have hl:((b.drop (k*size)).take (m*size)).length=m*size:=by
  have:(k+m)*size≤n*size:=WN _ O;rw[Aad] at this;rw[kL,kK,r];omega
 rcases f.2 with⟨I,A,hv⟩|⟨g,o,cap,t,C,hv,hg,_,_,_,_,J,LF⟩
 ·have p:m=0:=G;subst p;rw[hv];simp only[Ac4,Aeu];cases A with
  |none=>exact Afj (P:=P) W size 0 0 0
  |some v=>simpa using Ab8 (P:=P) W size 0 v 0 0 [] Bb (fun j y hy=>by simp at hy)
 have hc:=f.cells hv LF;rw[hv];refine Ab8 (P:=P) W size m ⟨g,o,none⟩ _ cap _ hl fun j y hy=>?_;rw[Ab2] at hy;split at hy
 ·rw[←hc j y hy];exact Aeh (by rw[l])
 cases hy
theorem Of{tR:TypeId}{z j lo:Nat}{xs:List Value}(ht:JQ P d=some (e,size,k,b))(l:AI c w j z cs A)(r:AJ c w i e size a n xs)(a6:0<n)(a7:0<size)(I:i≠j):
 (Extern.SlicesOverlaps.overlaps #[d,d] #[tR] #[.slice (some ⟨z,0,none⟩) m m,En a lo n size]).run P w= .ok (.bool false) w:=by
 obtain⟨hu,f,f,hi,a1,f,f,f,f⟩:=DU ht;rcases r.own.2 with⟨f,_⟩|⟨g,cap,f,p,rfl,p,hg,p,p,p,C,p,LF⟩
 ·omega
 have J:z≠g:=fun e=>I (by rw[←r.BF g (Bh LF),←e];exact l.BF);have p:w.heap[z]?=some (.cells cs.toArray A (0,0)):=l.AE;have R:w.shape? z=some (A,cs.toArray.size):=by unfold World.shape?;rw[p]
 have U:w.shape? g=some (e,f.size):=by unfold World.shape?;rw[hg]
 have O:f.size≠0:=by
  rw[C];exact Nat.mul_ne_zero G G
 have C:∀w,(Go.sizeOf e).run P w= .ok size w:=fun w=>by simp[sizeOf,typeInfo,hi,a1]
 have KG:∀o,w.frozen? ⟨z,o,none⟩=false:=fun o=>by simp[World.frozen?,p]
 obtain⟨o,f⟩:∃o,(if cap=lo then(some ⟨g,0,none⟩:Option Addr) else(some ⟨g,0,none⟩:Option Addr).map (·.add (lo*size)))=some ⟨g,o,none⟩:=by
  split
  ·exact⟨0,Z⟩
  ·exact⟨lo*size,by simp[add_lit]⟩
 have p:En (.slice (some ⟨g,0,none⟩) n cap) lo n size= .slice (some ⟨g,o,none⟩) (n-lo) (cap-lo):=by
  show Value.slice _ _ _=_
  rw[f]
 rw[p];exact Lib.run_overlaps_apart w d tR e hu size C ⟨z,0,none⟩ ⟨g,o,none⟩ m m (n-lo) (cap-lo) J A e _ _ R U O (KG 0) (KG _)
end
end
end Go.Eng
namespace Go.Proofs
open Go.Proofs.Tryz
open List (replicate)
open Go.Shelf
def SU:Go.Shelf.Ren:=⟨fun|169=>146|n=>n,fun|70=>227|9=>9|0=>0|72=>229|37=>74|127=>302|3=>3|5=>5|n=>n,fun|n=>n⟩
theorem pW:Go.Proofs.Lays.n169 QP SU:={
 mixed:=Ao
 f169:=func146.trans (Aao some Ao)
 t0:=underlying0
 a0:=isAgg0
 z0:=sizeOf0
 v0:=zeroValue0
 t3:=underlying3
 a3:=isAgg3
 z3:=sizeOf3
 v3:=zeroValue3
 t9:=underlying9
 a9:=isAgg9
 z9:=sizeOf9
 v9:=zeroValue9
 t37:=underlying74
 a37:=isAgg74
 z37:=sizeOf74
 v37:=zeroValue74
 t70:=underlying227
 a70:=isAgg227
 z70:=sizeOf227
 v70:=zeroValue227
 t72:=underlying229
 a72:=isAgg229
 z72:=sizeOf229
 v72:=zeroValue229
 t127:=underlying302
 a127:=isAgg302
 z127:=sizeOf302
 v127:=zeroValue302}
theorem Rb:Builder.Extra QP SU:={
 sizeBuilder:=Ao
 liesBuilder:=Ao
 t5:=underlying5
 a5:=isAgg5
 z5:=sizeOf5
 v5:=zeroValue5
 infoByte:=Ao
 cellsByte:=Ao
 sizeByte:=Ao
 neB5:=by decide}
def SW:Go.Shelf.Ren:=⟨fun|156=>138|165=>143|166=>144|169=>146|240=>221|241=>222|276=>268|277=>269|n=>n,fun|31=>37|9=>9|3=>3|4=>4|0=>0|20=>20|72=>229|76=>233|70=>227|37=>74|75=>232|127=>302|164=>345|5=>5|80=>235|n=>n,fun|n=>n⟩
theorem gm:Go.Proofs.Lays.n156 QP SW:={
 mixed:=Ao
 f156:=func138.trans (Aao some Ao)
 f165:=func143.trans (Aao some Ao)
 f166:=func144.trans (Aao some Ao)
 f169:=func146.trans (Aao some Ao)
 f240:=func221.trans (Aao some Ao)
 f241:=func222.trans (Aao some Ao)
 f276:=func268.trans (Aao some Ao)
 f277:=func269.trans (Aao some Ao)
 t0:=underlying0
 a0:=isAgg0
 z0:=sizeOf0
 v0:=zeroValue0
 t3:=underlying3
 a3:=isAgg3
 z3:=sizeOf3
 v3:=zeroValue3
 t4:=underlying4
 a4:=isAgg4
 z4:=sizeOf4
 v4:=zeroValue4
 t9:=underlying9
 a9:=isAgg9
 z9:=sizeOf9
 v9:=zeroValue9
 t20:=underlying20
 a20:=isAgg20
 z20:=sizeOf20
 v20:=zeroValue20
 t31:=underlying37
 a31:=isAgg37
 z31:=sizeOf37
 v31:=zeroValue37
 t37:=underlying74
 a37:=isAgg74
 z37:=sizeOf74
 v37:=zeroValue74
 t70:=underlying227
 a70:=isAgg227
 z70:=sizeOf227
 v70:=zeroValue227
 t72:=underlying229
 a72:=isAgg229
 z72:=sizeOf229
 v72:=zeroValue229
 t75:=underlying232
 a75:=isAgg232
 z75:=sizeOf232
 v75:=zeroValue232
 t76:=underlying233
 a76:=isAgg233
 z76:=sizeOf233
 v76:=zeroValue233
 t127:=underlying302
 a127:=isAgg302
 z127:=sizeOf302
 v127:=zeroValue302
 t164:=underlying345
 a164:=isAgg345
 z164:=sizeOf345
 v164:=zeroValue345}
theorem LS:Builder.Extra QP SW:={
 sizeBuilder:=Ao
 liesBuilder:=Ao
 t5:=underlying5
 a5:=isAgg5
 z5:=sizeOf5
 v5:=zeroValue5
 infoByte:=Ao
 cellsByte:=Ao
 sizeByte:=Ao
 neB5:=by decide}
open Go.RowKit in
theorem Tryz.strings_Join_none(a:Option Addr)(c:Nat)(sep:ByteArray)(w:World):
 Calls QP 138 #[.slice a 0 c, .string sep] w fun e w'=>e= .returned (.string ⟨#[]⟩)∧w'=w:=Any.strings_Join_none gm LS a c sep w
open Go.RowKit in
theorem Tryz.strings_Join(bk o c:Nat)(xs:List ByteArray)(sep:ByteArray)(w:World)(l:∀(j:Nat) x,xs[j]?=some x→w.cell? ⟨bk,o+j,none⟩=some (.string x))(g:bk<w.heap.size)(f:xs.length≤140737488355328)(i:xs.length≤c)(p:(Lib.join (xs.map (·.data.toList)) sep.data.toList).length≤140737488355328):
 Calls QP 138 #[.slice (some ⟨bk,o,none⟩) xs.length c, .string sep] w fun e w'=>e= .returned (.string ⟨(Lib.join (xs.map (·.data.toList)) sep.data.toList).toArray⟩)∧AZ w w':=Any.strings_Join gm LS bk o c xs sep w l g f i p
def sX:Go.Shelf.Ren:=⟨fun|213=>233|265=>277|n=>n,fun|9=>9|3=>3|n=>n,fun|n=>n⟩
def aS:Go.Shelf.Ren:=⟨fun|106=>163|213=>233|265=>277|n=>n,fun|9=>9|3=>3|n=>n,fun|n=>n⟩
theorem pX:Go.Proofs.Lays.n106 QP aS:={
 mixed:=Ao
 f106:=func163.trans (Aao some Ao)
 f213:=func233.trans (Aao some Ao)
 f265:=func277.trans (Aao some Ao)
 t3:=underlying3
 a3:=isAgg3
 z3:=sizeOf3
 v3:=zeroValue3
 t9:=underlying9
 a9:=isAgg9
 z9:=sizeOf9
 v9:=zeroValue9}
open Go.RowKit in
theorem Tryz.strings_Compare(a b:ByteArray)(w:World):
 Calls QP 163 #[.string a, .string b] w fun e w'=>e= .returned (.int .i64 (Lib.compareBytes a.data.toList b.data.toList))∧w'=w:=Any.strings_Compare pX a b w
def sY:Go.Shelf.Ren:=⟨fun|215=>226|n=>n,fun|3=>3|4=>4|n=>n,fun|n=>n⟩
def aT:Go.Shelf.Ren:=⟨fun|122=>154|215=>226|n=>n,fun|3=>3|4=>4|n=>n,fun|n=>n⟩
theorem pY:Go.Proofs.Lays.n122 QP aT:={
 mixed:=Ao
 f122:=func154.trans (Aao some Ao)
 f215:=func226.trans (Aao some Ao)
 t3:=underlying3
 a3:=isAgg3
 z3:=sizeOf3
 v3:=zeroValue3
 t4:=underlying4
 a4:=isAgg4
 z4:=sizeOf4
 v4:=zeroValue4}
open Go.RowKit in
theorem Tryz.cmp_Compare_int(x y:Int)(w:World):
 Calls QP 154 #[.int .i64 x, .int .i64 y] w fun e w'=>e= .returned (.int .i64 (Lib.compareInt x y))∧w'=w:=Any.cmp_Compare_int pY x y w
open Go.RowKit in
theorem Tryz.Builder_String_any_k(B b:Nat)(l:List UInt8)(w:World)(h:Lib.IsBuilderF 229 5 B b (Lib.byteCells l) w)(BH:B≤w.heap.size):
 Calls QP 146 #[.pointer (some ⟨b,0,none⟩)] w fun e w'=>e= .returned (.string ⟨l.toArray⟩)∧(Lib.IsBuilderF 229 5 B b (Lib.byteCells l) w'∧Below B w w'∧Lib.OthersKept 5 (some b) w w'):=Any.Builder_String_any_k pW Rb B b l w h BH
def aU:Go.Shelf.Ren:=⟨fun|189=>178|125=>249|257=>248|128=>294|129=>295|294=>286|295=>287|296=>288|297=>289|298=>290|299=>291|216=>255|300=>292|301=>293|328=>311|329=>312|330=>313|331=>314|332=>315|215=>226|343=>323|n=>n,fun|28=>23|3=>3|46=>73|0=>0|51=>297|53=>278|4=>4|183=>364|182=>363|131=>104|5=>5|9=>9|218=>385|222=>389|228=>403|229=>120|n=>n,fun|n=>n⟩
theorem gn:Go.Proofs.Lays.n189 QP aU:={
 mixed:=Ao
 f125:=func249.trans (Aao some Ao)
 f128:=func294.trans (Aao some Ao)
 f129:=func295.trans (Aao some Ao)
 f189:=func178.trans (Aao some Ao)
 f215:=func226.trans (Aao some Ao)
 f216:=func255.trans (Aao some Ao)
 f257:=func248.trans (Aao some Ao)
 f294:=func286.trans (Aao some Ao)
 f295:=func287.trans (Aao some Ao)
 f296:=func288.trans (Aao some Ao)
 f297:=func289.trans (Aao some Ao)
 f298:=func290.trans (Aao some Ao)
 f299:=func291.trans (Aao some Ao)
 f300:=func292.trans (Aao some Ao)
 f301:=func293.trans (Aao some Ao)
 f328:=func311.trans (Aao some Ao)
 f329:=func312.trans (Aao some Ao)
 f330:=func313.trans (Aao some Ao)
 f331:=func314.trans (Aao some Ao)
 f332:=func315.trans (Aao some Ao)
 f343:=func323.trans (Aao some Ao)
 t0:=underlying0
 a0:=isAgg0
 z0:=sizeOf0
 v0:=zeroValue0
 t3:=underlying3
 a3:=isAgg3
 z3:=sizeOf3
 v3:=zeroValue3
 t4:=underlying4
 a4:=isAgg4
 z4:=sizeOf4
 v4:=zeroValue4
 t5:=underlying5
 a5:=isAgg5
 z5:=sizeOf5
 v5:=zeroValue5
 t9:=underlying9
 a9:=isAgg9
 z9:=sizeOf9
 v9:=zeroValue9
 t28:=underlying23
 a28:=isAgg23
 z28:=sizeOf23
 v28:=zeroValue23
 t46:=underlying73
 a46:=isAgg73
 z46:=sizeOf73
 v46:=zeroValue73
 t51:=underlying297
 a51:=isAgg297
 z51:=sizeOf297
 v51:=zeroValue297
 t53:=underlying278
 a53:=isAgg278
 z53:=sizeOf278
 v53:=zeroValue278
 t131:=underlying104
 a131:=isAgg104
 z131:=sizeOf104
 v131:=zeroValue104
 t182:=underlying363
 a182:=isAgg363
 z182:=sizeOf363
 v182:=zeroValue363
 t183:=underlying364
 a183:=isAgg364
 z183:=sizeOf364
 v183:=zeroValue364
 t218:=underlying385
 a218:=isAgg385
 z218:=sizeOf385
 v218:=zeroValue385
 t222:=underlying389
 a222:=isAgg389
 z222:=sizeOf389
 v222:=zeroValue389
 t228:=underlying403
 a228:=isAgg403
 z228:=sizeOf403
 v228:=zeroValue403
 t229:=underlying120
 a229:=isAgg120
 z229:=sizeOf120
 v229:=zeroValue120}
open Go.Sort Go.RowKit in
theorem Tryz.slices_Sort_int(AE off cap:Nat)(f:List Int)(w:World)(g:Holds (Value.int .i64) w AE off f.toArray)(i:AE<w.heap.size)(j:f.length<4611686018427387904):
 Calls QP 178 #[.slice (some ⟨AE,off,none⟩) f.length cap] w fun e w'=>
  e= .returned (.tuple #[])∧∃n os,w'=grow (putRow (Value.int .i64) (Sort.ahead w n) AE off (f.mergeSort fun x y=>decide (x≤y)).toArray) os:=Any.slices_Sort_int gn AE off cap f w g i j
def aV:Go.Shelf.Ren:=⟨fun|212=>141|263=>218|264=>219|n=>n,fun|46=>73|51=>297|146=>298|53=>278|148=>300|n=>n,fun|n=>n⟩
theorem pZ:Go.Proofs.Lays.n212 QP aV:={
 mixed:=Ao
 f212:=func141.trans (Aao some Ao)
 f263:=func218.trans (Aao some Ao)
 f264:=func219.trans (Aao some Ao)
 t46:=underlying73
 a46:=isAgg73
 z46:=sizeOf73
 v46:=zeroValue73
 t51:=underlying297
 a51:=isAgg297
 z51:=sizeOf297
 v51:=zeroValue297
 t53:=underlying278
 a53:=isAgg278
 z53:=sizeOf278
 v53:=zeroValue278
 t146:=underlying298
 a146:=isAgg298
 z146:=sizeOf298
 v146:=zeroValue298
 t148:=underlying300
 a148:=isAgg300
 z148:=sizeOf300
 v148:=zeroValue300}
open Go.RowKit Go.Lib in
theorem Tryz.bits_Mul(x y:Nat)(hx:x<18446744073709551616)(hy:y<18446744073709551616)(w:World):
 Calls QP 141 #[.int .u64 x, .int .u64 y] w fun e w'=>e= .returned (.tuple #[.int .u64 ((x*y/18446744073709551616:Nat):Int), .int .u64 ((x*y%18446744073709551616:Nat):Int)])∧w'=w:=Any.bits_Mul pZ x y hx hy w
def Og:Go.Shelf.Ren:=⟨fun|105=>70|212=>141|99=>142|165=>143|166=>144|170=>145|169=>146|263=>218|264=>219|206=>220|240=>221|241=>222|276=>268|277=>269|n=>n,fun|9=>9|3=>3|4=>4|20=>20|0=>0|46=>73|109=>224|5=>5|72=>229|76=>233|51=>297|146=>298|53=>278|148=>300|70=>227|37=>74|75=>232|127=>302|164=>345|80=>235|n=>n,fun|n=>n⟩
theorem gp:Go.Proofs.Lays.n105 QP Og:={
 mixed:=Ao
 f99:=func142.trans (Aao some Ao)
 f105:=func70.trans (Aao some Ao)
 f165:=func143.trans (Aao some Ao)
 f166:=func144.trans (Aao some Ao)
 f169:=func146.trans (Aao some Ao)
 f170:=func145.trans (Aao some Ao)
 f206:=func220.trans (Aao some Ao)
 f212:=func141.trans (Aao some Ao)
 f240:=func221.trans (Aao some Ao)
 f241:=func222.trans (Aao some Ao)
 f263:=func218.trans (Aao some Ao)
 f264:=func219.trans (Aao some Ao)
 f276:=func268.trans (Aao some Ao)
 f277:=func269.trans (Aao some Ao)
 t0:=underlying0
 a0:=isAgg0
 z0:=sizeOf0
 v0:=zeroValue0
 t3:=underlying3
 a3:=isAgg3
 z3:=sizeOf3
 v3:=zeroValue3
 t4:=underlying4
 a4:=isAgg4
 z4:=sizeOf4
 v4:=zeroValue4
 t5:=underlying5
 a5:=isAgg5
 z5:=sizeOf5
 v5:=zeroValue5
 t9:=underlying9
 a9:=isAgg9
 z9:=sizeOf9
 v9:=zeroValue9
 t20:=underlying20
 a20:=isAgg20
 z20:=sizeOf20
 v20:=zeroValue20
 t37:=underlying74
 a37:=isAgg74
 z37:=sizeOf74
 v37:=zeroValue74
 t46:=underlying73
 a46:=isAgg73
 z46:=sizeOf73
 v46:=zeroValue73
 t51:=underlying297
 a51:=isAgg297
 z51:=sizeOf297
 v51:=zeroValue297
 t53:=underlying278
 a53:=isAgg278
 z53:=sizeOf278
 v53:=zeroValue278
 t70:=underlying227
 a70:=isAgg227
 z70:=sizeOf227
 v70:=zeroValue227
 t72:=underlying229
 a72:=isAgg229
 z72:=sizeOf229
 v72:=zeroValue229
 t75:=underlying232
 a75:=isAgg232
 z75:=sizeOf232
 v75:=zeroValue232
 t76:=underlying233
 a76:=isAgg233
 z76:=sizeOf233
 v76:=zeroValue233
 t109:=underlying224
 a109:=isAgg224
 z109:=sizeOf224
 v109:=zeroValue224
 t127:=underlying302
 a127:=isAgg302
 z127:=sizeOf302
 v127:=zeroValue302
 t146:=underlying298
 a146:=isAgg298
 z146:=sizeOf298
 v146:=zeroValue298
 t148:=underlying300
 a148:=isAgg300
 z148:=sizeOf300
 v148:=zeroValue300
 t164:=underlying345
 a164:=isAgg345
 z164:=sizeOf345
 v164:=zeroValue345}
theorem LU:Builder.Extra QP Og:={
 sizeBuilder:=Ao
 liesBuilder:=Ao
 t5:=underlying5
 a5:=isAgg5
 z5:=sizeOf5
 v5:=zeroValue5
 infoByte:=Ao
 cellsByte:=Ao
 sizeByte:=Ao
 neB5:=by decide}
open Go.RowKit Go.Lib in
theorem Tryz.strings_Repeat(s:ByteArray)(c:Nat)(w:World)(hc:c≤9223372036854775807)(f:s.size*c≤140737488355328):
 Calls QP 70 #[.string s, .int .i64 c] w fun e w'=>e= .returned (.string ⟨(Lib.repeatL s.data.toList c).toArray⟩)∧AZ w w':=Any.strings_Repeat gp LU s c w hc f
def aW:Go.Shelf.Ren:=⟨fun|107=>279|108=>309|n=>n,fun|28=>23|3=>3|4=>4|0=>0|n=>n,fun|n=>n⟩
theorem gq:Go.Proofs.Lays.n107 QP aW:={
 mixed:=Ao
 f107:=func279.trans (Aao some Ao)
 f108:=func309.trans (Aao some Ao)
 t0:=underlying0
 a0:=isAgg0
 z0:=sizeOf0
 v0:=zeroValue0
 t3:=underlying3
 a3:=isAgg3
 z3:=sizeOf3
 v3:=zeroValue3
 t4:=underlying4
 a4:=isAgg4
 z4:=sizeOf4
 v4:=zeroValue4
 t28:=underlying23
 a28:=isAgg23
 z28:=sizeOf23
 v28:=zeroValue23}
open Go.Lib in
theorem Tryz.slices_Contains_int(b off n c:Nat)(f:List Int)(x:Int)(w:World)(i:n≤f.length)(g:n≤9223372036854775807)(hc:∀j,j<f.length→w.cell? ⟨b,off+j,none⟩=some (.int .i64 (f.getD j 0))):
 Calls QP 279 #[.slice (some ⟨b,off,none⟩) n c, .int .i64 x] w fun e w'=>e= .returned (.bool ((f.take n).contains x))∧w'=w:=Any.slices_Contains_int gq b off n c f x w i g hc
open Go.Lib in
theorem Tryz.slices_Contains_int_empty(a:Option Addr)(c:Nat)(x:Int)(w:World):
 Calls QP 279 #[.slice a 0 c, .int .i64 x] w fun e w'=>e= .returned (.bool false)∧w'=w:=Any.slices_Contains_int_empty gq a c x w
def Wx:Go.Shelf.Ren:=⟨fun|20=>179|n=>n,fun|22=>23|3=>3|4=>4|0=>0|n=>n,fun|n=>n⟩
theorem Xm:Go.Proofs.Lays2.n20 QP Wx:={
 mixed:=Ao
 f20:=func179.trans (Aao some Ao)
 t0:=underlying0
 a0:=isAgg0
 z0:=sizeOf0
 v0:=zeroValue0
 t3:=underlying3
 a3:=isAgg3
 z3:=sizeOf3
 v3:=zeroValue3
 t4:=underlying4
 a4:=isAgg4
 z4:=sizeOf4
 v4:=zeroValue4
 t22:=underlying23
 a22:=isAgg23
 z22:=sizeOf23
 v22:=zeroValue23
 i3:=by kernel_rfl}
open Go.RowKit Go.Lib Go.Sort in
theorem Tryz.slices_Compact_int(AE off cap:Nat)(f:List Int)(w:World)(g:Holds (Value.int .i64) w AE off f.toArray)(j:f.length≤9223372036854775807)(i:f.length≤cap):
 Calls QP 179 #[.slice (some ⟨AE,off,none⟩) f.length cap] w fun e w'=>e= .returned (.slice (some ⟨AE,off,none⟩) (Lib.compact f).length cap)∧∃q,w'=putRow (Value.int .i64) (Sort.ahead w q) AE off (Lib.compact f++replicate (f.length-(Lib.compact f).length) 0).toArray:=Any.slices_Compact_int Xm AE off cap f w g j i
open Go.RowKit Go.Lib Go.Sort in
theorem Tryz.slices_Compact_int_empty(a:Option Addr)(cap:Nat)(w:World):
 Calls QP 179 #[.slice a 0 cap] w fun e w'=>e= .returned (.slice a 0 cap)∧w'=w:=Any.slices_Compact_int_empty Xm a cap w
def Wy:Go.Shelf.Ren:=⟨fun|25=>195|31=>255|32=>256|37=>226|n=>n,fun|22=>23|3=>3|4=>4|40=>73|0=>0|n=>n,fun|n=>n⟩
theorem Xn:Go.Proofs.Lays2.n25 QP Wy:={
 mixed:=Ao
 f25:=func195.trans (Aao some Ao)
 f31:=func255.trans (Aao some Ao)
 f32:=func256.trans (Aao some Ao)
 f37:=func226.trans (Aao some Ao)
 t0:=underlying0
 a0:=isAgg0
 z0:=sizeOf0
 v0:=zeroValue0
 t3:=underlying3
 a3:=isAgg3
 z3:=sizeOf3
 v3:=zeroValue3
 t4:=underlying4
 a4:=isAgg4
 z4:=sizeOf4
 v4:=zeroValue4
 t22:=underlying23
 a22:=isAgg23
 z22:=sizeOf23
 v22:=zeroValue23
 t40:=underlying73
 a40:=isAgg73
 z40:=sizeOf73
 v40:=zeroValue73}
open Go.RowKit Go.Lib in
theorem Tryz.slices_BinarySearch_int(b off n c:Nat)(f:List Int)(x:Int)(w:World)(i:n≤f.length)(g:n<4611686018427387904)(hc:∀j,j<f.length→w.cell? ⟨b,off+j,none⟩=some (.int .i64 (f.getD j 0)))(hs:(f.take n).Pairwise (·≤ ·)):
 Calls QP 195 #[.slice (some ⟨b,off,none⟩) n c, .int .i64 x] w fun e w'=>e= .returned (.tuple #[.int .i64 ((f.take n).countP (·<x):Nat), .bool ((f.take n).contains x)])∧∃q,w'=w.drewN q:=Any.slices_BinarySearch_int Xn b off n c f x w i g hc hs
def Wz:Go.Shelf.Ren:=⟨fun|23=>196|n=>n,fun|22=>23|3=>3|4=>4|0=>0|n=>n,fun|n=>n⟩
theorem iw:Go.Proofs.Lays2.n23 QP Wz:={
 mixed:=Ao
 f23:=func196.trans (Aao some Ao)
 t0:=underlying0
 a0:=isAgg0
 z0:=sizeOf0
 v0:=zeroValue0
 t3:=underlying3
 a3:=isAgg3
 z3:=sizeOf3
 v3:=zeroValue3
 t4:=underlying4
 a4:=isAgg4
 z4:=sizeOf4
 v4:=zeroValue4
 t22:=underlying23
 a22:=isAgg23
 z22:=sizeOf23
 v22:=zeroValue23
 i3:=by kernel_rfl}
open Go.RowKit Go.Lib Go.Sort in
theorem Tryz.slices_Delete_int(AE off cap i j:Nat)(f:List Int)(w:World)(g:Holds (Value.int .i64) w AE off f.toArray)(l:f.length≤cap)(r:cap≤9223372036854775807)(o:i≤j)(p:j≤f.length):
 Calls QP 196 #[.slice (some ⟨AE,off,none⟩) f.length cap, .int .i64 i, .int .i64 j] w fun e w'=>e= .returned (.slice (some ⟨AE,off,none⟩) (f.length-(j-i)) cap)∧∃q,w'=putRow (Value.int .i64) (Sort.ahead w q) AE off (f.take i++f.drop j++replicate (j-i) 0).toArray:=Any.slices_Delete_int iw AE off cap i j f w g l r o p
open Go.RowKit Go.Sort in
theorem Tryz.slices_Sort_int_none(p:Option Addr)(cap:Nat)(w:World):
 Calls QP 178 #[.slice p 0 cap] w fun e w'=>e= .returned (.tuple #[])∧w'=w:=Any.slices_Sort_int_none gn p cap w
open Go.RowKit Go.Lib in
theorem Tryz.slices_BinarySearch_int_empty(a:Option Addr)(c:Nat)(x:Int)(w:World):
 Calls QP 195 #[.slice a 0 c, .int .i64 x] w fun e w'=>e= .returned (.tuple #[.int .i64 0, .bool false])∧w'=w:=Any.slices_BinarySearch_int_empty Xn a c x w
end Go.Proofs
namespace Go.Eng
open Go.RowKit Go.Proofs Go.Proofs.Tryz
variable {α:Type}{k m n i life:Nat}{s:List UInt8}{css:List (List Value)}{l:List Int}{w' h N:World}{cs news b:List Value}{c' j:Nat→Nat}{va a y:Value}{d A:TypeId}{e:List Nat}{f K:Operand}{g:Option (Nat×Bool)}{o:Array Edge}{p:Int}{q:List (List Int)}{r:Value→World→Prop}{u:List (Int×Int)}{v:String}{x:List Bool}{z:CO}{B:Bool}{H:Program}{J:Option (Rec×List UInt8)}{P:List Rec}{R:IntKind}{S:FuncId}{T:Option Nat}{W:Tx}{X:World→Prop}{Y:List (List Rec)}{encs:α→List Value}{Qjq:List α→α→(Nat→Nat)→World→Prop}{Fin:List α→Prop}{t:List α}
open List (replicate)
section
open Go.Sort Go.ChangeMaps
theorem AJ.aX{w:World}(hO:CD w c w')(h:AJ c w' i d k a n b)(hi:i≠0):CJ w' w.heap.size d k a n b:=by
 obtain⟨hl,f⟩:=h.own;refine⟨hl,?_⟩;rcases f with f|⟨g,cap,l,o,rfl,j,p,r,t,C,I,J,j⟩
 ·exact .inl f
 refine .inr ⟨g,cap,l,o,Z,?_,p,r,t,C,I,J,j⟩;rcases Aab g w.heap.size with l|f
 ·have:=h.BF g (Bh j);rw[hO.BF g l] at this;exact absurd this.symm hi
 exact f
theorem CJ.dV(h:CJ w k d 1 a l.length (l.map encZ)):
 (l=[]∧∃A cap,a= .slice A 0 cap)∨(∃g cap f i,a= .slice (some ⟨g,0,none⟩) l.length cap∧k≤g∧w.heap[g]?=some (.cells f d i)∧(i.1<i.2→f.size≤i.1)∧l.length≤cap∧cap≤maxLen∧f.size=cap∧0<cap∧Holds encZ w g 0 l.toArray):=by
 rcases Aa6 l.length with o|o
 ·have:l=[]:=rY o;subst this;left;rcases h.2 with⟨_,A,rfl⟩|⟨g,cap,f,i,rfl,_⟩
  ·exact⟨Z,A,0,Z⟩
  exact⟨Z,_,cap,Z⟩
 right;rcases h.2 with⟨o,_⟩|⟨g,cap,f,i,rfl,J,p,r,o,C,t,t,I⟩
 ·omega
 refine⟨g,cap,f,i,Z,J,p,r,o,C,G,I,fun j o=>?_⟩;have C:j<l.length:=by simpa using o
 constructor
 ·rw[Acn] at t;have o:(f.toList.take l.length)[j]?=(l.map encZ)[j]?:=by rw[t]
  rw[Afr C] at o;simp only[World.cell?,p,Abs];simp only[Option.isSome_none,Ad5,if_false];rw[←Array.getElem?_toList,o];simp[C]
 obtain⟨t,hi⟩:=i;simp[World.frozen?,p];intro p;rcases Aab t hi with o|o
 ·have:=r o;simp at this;omega
 omega
theorem ix{C:List FI}(g:e.Nodup)(f:∀k∈e,tx C k≠[]):e.length≤(aM C).length:=g.length_le_of_subset fun k O=>ir.2 (f k O)
theorem iy(C:List FI):(aM C).length≤C.length:=by
 have:=Aa0 (fun k=> !(tx C k).isEmpty) (List.range C.length);simpa[aM] using this
structure qa (c:Nat→Nat) (w:World) (i j r b:Nat) (C:List FI) (done:List Nat):Prop where
 obj:mg w r b C done
 BF:c r=i
 ul:c b=j
theorem qa.D{c:Nat→Nat}{w:World}{j :Nat}{C:List FI}{I:List Nat}(h:qa c w i j k n C e)(m:Mv c w c' w' I:=by exact Go.Eng.KU)(hi:AU I i=false:=by rfl)(f:AU I j=false:=by rfl):qa c' w' i j k n C e:=
 ⟨h.obj.keep (m.block k h.obj.lt.1 (by rw[h.BF];exact hi)) (m.block n h.obj.lt.2 (by rw[h.ul];exact f)),(m.BF k h.obj.lt.1).trans h.BF,(m.BF n h.obj.lt.2).trans h.ul⟩
theorem qa.len{C:List FI}(h:qa c w i k m n C e):e.Nodup∧(∀j∈e,tx C j≠[])∧e.length≤C.length:=by
 obtain⟨f,clock,f,seen,c0,f,f,f,f,f,f,f,f,g,f⟩:=h.obj;exact⟨g,f,rX (ix g f) (iy C)⟩
def mi(C:List FI):Option Nat→List Value
 |none=>[.bool false]
 |some k=>[.bool true,I (k:Nat),St (tx C k)]
theorem qb(C:List FI)(o:Option Nat):(mi C o)[0]?=some (.bool o.isSome):=by cases o<;>rfl
section
variable {P:Program} {env:Env} {w:World} {ty:TypeId} {c:Nat→Nat}
theorem aY{C:List FI}(hx:BY env f=some (.pointer (some ⟨m,0,none⟩)))(h:qa c w i k m n C e):
 Hh P env w (.next f false) ty (fun v w'=>∃c',Mv c w c' w' [i]∧∃o,v= .tuple (mi C o).toArray∧qa c' w' i k m n C (e++o.toList)∧(o=none→∀j,tx C j≠[]→j∈e)∧∀j,o=some j→j∉e∧tx C j≠[]):=
 (dU hx h.obj).mono fun v w' ⟨hg,p⟩=>by
  obtain⟨c',x,_⟩:=Mv.grown (i:=i) c i hg (fun j O=>by cases O;exact h.BF);have g:=(x.BF m h.obj.lt.1).trans h.BF;have l:=(x.BF n h.obj.lt.2).trans h.ul;refine⟨c',x,?_⟩;rcases p with⟨rfl,x,p⟩|⟨j,t,I,rfl,x⟩
  ·exact⟨none,Z,⟨by simpa using x,g,l⟩,fun _=>p,fun j h=>by cases h⟩
  exact⟨some j,Z,⟨x,g,l⟩,by simp,fun x x=>by injection x with x;subst x;exact⟨t,I⟩⟩
end
end
section
open Go.Sort
abbrev aaw:=82
theorem qd:Pu QP aaw 3 9:=⟨underlying82,underlying3,by kernel_rfl⟩
theorem aZ(h:CJ w k 3 1 a l.length (l.map encZ))(U:l.length<4611686018427387904):
 Calls QP 178 #[a] w (Bt fun _ w'=>w.grownBy w' a.rowOf∧CJ w' k 3 1 a l.length ((l.mergeSort fun x y=>decide (x≤y)).map encZ)):=by
 rcases h.dV with⟨rfl,A,cap,rfl⟩|⟨g,cap,o,p,rfl,R,j,r,t,C,I,f,J⟩
 ·refine(Tryz.slices_Sort_int_none A cap w).mono fun e w' i=>?_;obtain⟨rfl,rfl⟩:=i;exact⟨_,Z,⟨Z,Z,Z,kM _,fun _ _ _=>rfl⟩,by simpa using h⟩
 refine(Tryz.slices_Sort_int g 0 cap l w J (Acq.1 j).1 U).mono fun e w' i=>?_;obtain⟨rfl,n,os,rfl⟩:=i;have hl:(l.mergeSort fun x y=>decide (x≤y)).length=l.length:=List.length_mergeSort _;refine⟨_,Z,by rw[Bh f];exact grownBy_sorted_i _,by simp[hl], .inr ⟨g,cap,_,p,Z,R,heap_sorted_i _ j,?_,t,C,?_,?_,f⟩⟩
 ·simpa[putCells] using r
 ·simp[putCells,I]
 have:=take_putCells_i o (l.mergeSort fun x y=>decide (x≤y)) G;rw[hl] at this;simpa using this
end
section
open Go.Lib
section
variable {P:Program} {env:Env} {ty:TypeId} {c:Nat→Nat} {w:World} {i:Nat} {e:TypeId} {size:Nat} {v:Value} {n:Nat} {xs:List Value}
theorem UU{t t2:TypeId}{by_:Nat}{z:List Value}{x y:Operand}{a m:Nat}{l:Value}{news:List Value}(ht:JQ P t=some (e,size,by_,z))(U:AJ c w i e size v n xs)(b0:0<n)(b8:a≤n)(hx:BY env x=some (En v a n size))(hy:BY env y=some l)
 (C:∀W:World,(Builtin.lenOf l).run P W= .ok m W)(a8:∀W:World,W.heap=w.heap→(Builtin.firstCells size (Nat.min m (n-a)) l).run P W= .ok news.toArray W)(b2:news.length=Nat.min m (n-a)*size)(a1:∀y∈news,y.oneCell'=true):
 Hh P env w (.call ⟨.builtin .copy,#[x,y],#[t,t2]⟩) ty (fun u w'=>∃c',Mv c w c' w' [i]∧AJ c' w' i e size v n (xs.take (a*size)++news++xs.drop (a*size+news.length))∧u=I (Nat.min m (n-a):Nat)):=
 Cr fun _ b4 f d pos b5 g=>by
  obtain⟨hu,c5,c6,hi,hs,b9,c4,c0,c1⟩:=DU ht;have c2:Nat.min m (n-a)*size≤(n-a)*size:=WN _ (Ag6 _ _);have c3:a*size+(n-a)*size=n*size:=by rw[←Aad];congr 1;omega
  obtain⟨b6,cap,w',rfl,j,a6,a7⟩:=U.put (P:=P) (o:=a*size) (news:=news) b0 G a1;have hf:=a8 w Z;refine⟨I ((Nat.min m (n-a):Nat):Int),w',?_,c,a7,a6,Z⟩;by_cases p:cap=a
  ·have R:n-a=0:=by
    have:=U.own.len;obtain⟨A,cp,r,b7,_⟩:=this;injection r with _ _ r;omega
   have J:Nat.min m (n-a)=0:=by rw[R];exact Nat.min_zero m
   have b1:news=[]:=rY (by rw[b2,J,Ac4]);subst b1;have b3:w'=w:=by simp[storeCells] at j;exact j.symm
   subst b3;rw[J] at hf;simp[execOp,resolve,invoke,builtin,Builtin.copy_,f.eval hx,f.eval hy,Aaj hu,sizeOf,typeInfo,hi,hs,C,En,p,R,hf,goInt,storeCells]
  simp[execOp,resolve,invoke,builtin,Builtin.copy_,f.eval hx,f.eval hy,Aaj hu,sizeOf,typeInfo,hi,hs,C,En,p,hf,j,goInt,add_lit]
theorem mj(a b:α){n:Nat}(O:k≤n)(j:m≤n-k)(i:m≤k):
 (replicate k a++replicate (n-k) b).take k++(replicate k a).take m++(replicate k a++replicate (n-k) b).drop (k+m)=replicate (k+m) a++replicate (n-(k+m)) b:=by
 rw[Ad7 Bb,List.take_replicate,Abl i,List.drop_append,List.drop_replicate,List.drop_replicate,Iz];have f:k-(k+m)=0:=G;have g:n-k-(k+m-k)=n-(k+m):=G;rw[f,g];simp
theorem Xo{n:Nat}:En (.slice (some ⟨k,0,none⟩) n m) 0 n 1= .slice (some ⟨k,0,none⟩) n m:=by simp[En,add_lit]
theorem Zh{n cp:Nat}:En (.slice (some ⟨m,0,none⟩) n cp) 0 k 1= .slice (some ⟨m,0,none⟩) k cp:=by simp[En,add_lit]
theorem ba(P:Program)(A:Option Addr)(n cp:Nat)(W:World):(Builtin.lenOf (.slice A n cp)).run P W= .ok n W:=by cases A<;>simp[Builtin.lenOf]
theorem Zi{w:World}{p:Addr}{xs:List Value}(W:h.heap=w.heap)(hc:AT w p xs):AT h p xs:=fun j v f=>by
 have:=hc j v f;rw[←this];exact Aeh (by rw[W])
theorem bb(n:Nat)(a:α):(replicate n [a]).flatten=replicate n a:=by induction n with
 |zero=>rfl
 |succ n f=>rw[Abo,Abc,f,Abo];rfl
end
end
section
open Go.Sort
theorem dW{x y:Nat}(hx:x<18446744073709551616)(hy:y<18446744073709551616)(h:x*y<9223372036854775808):Calls QP 141 #[.int .u64 x, .int .u64 y] w (Bt fun v w'=>AZ w w'∧v= .tuple #[.int .u64 0, .int .u64 ((x*y:Nat):Int)]):=by
 refine(Tryz.bits_Mul x y hx hy w).mono fun e w' f=>?_;obtain⟨rfl,rfl⟩:=f;refine⟨_,Z,Aar _ _,?_⟩;rw[Adx G,Adw G];rfl
theorem Nd(h:s.length*n≤140737488355328)(i:n≤9223372036854775807):Calls QP 70 #[St s,I n] w (Bt fun v w'=>AZ w w'∧v=St (Go.Lib.repeatL s n)):=by
 refine(Tryz.strings_Repeat ⟨s.toArray⟩ n w i (by simpa[ByteArray.size] using h)).mono fun e w' g=>?_;obtain⟨rfl,f⟩:=g;exact⟨_,Z,f,by simp⟩
theorem dX(p:Gt w i [St s] 9)(b:0<n)(a1:n≤1048576):Calls QP 69 #[.slice (some ⟨i,0,none⟩) 1 1,I n] w (Bt fun v w'=>AZ w w'∧CJ w' w.heap.size 9 1 v n (replicate n (St s))):=by
 obtain⟨c,hO,hc⟩:=Ay w;have j:AI c w 0 i [St s] 9:=⟨p,hc _⟩;refine AY 48 #[.tmp 4] func69 Z<|Q<|V Z<|Ag<|Q<|M Z<|E (AX Z Z)<|Ah<|Cz Z (fun f=>?_) fun f=>?_
 ·exact absurd (Adf f) G
 refine As<|Q<|M Z<|E (BN Ch) ?_;refine E (ED underlying3 underlying73 Z G G)<|M Z<|E (ED underlying3 underlying73 Z G G) ?_;refine ve (Ac c 1 (Ab xm Z (dW (x:=1) (y:=n) G G G))) ?_;rintro f w1 ⟨c1,o,f,rfl⟩;refine M Z<|E (Aq Z Z)<|E (Aq Z Z)<|za Z<|V Z<|Ag<|Q<|M Z<|E (CM Z Z)<|M Z ?_;apply AW false 2 _ CK
 ·intro f;refine wo<|M Z<|wo<|E (CM Z Z) ?_;exact EQ 2
 refine Ah<|Cz Z (fun f=>?_) fun f=>?_
 ·exact absurd f (by simp;omega)
 refine As<|Q<|M Z<|E (EY underlying73 underlying3 Z G G) ?_;rw[Aa2];refine ve (GD c1 7 Ch Z Z G G G) ?_;rintro v30 t ⟨f,r,f⟩;rw[TJ,bb] at f;obtain⟨g,cp,rfl,LF,l⟩:=f.CT b;have l:Nat.min 1 (n-0)=1:=Abl G;replace j:=(j.D o).D r;have r:∀W:World,W.heap=t.heap→(Builtin.firstCells 1 (Nat.min 1 (n-0)) (.slice (some ⟨i,0,none⟩) 1 1)).run QP W= .ok [St s].toArray W:=fun W o=>by rw[l];exact Ab8 (P:=QP) W 1 1 _ 1 1 [St s] Z (Zi o j.AE.AT)
 have o:[St s].length=Nat.min 1 (n-0)*1:=by rw[l];rfl
 refine V Z<|Q<|M Z<|M Z ?_;refine ve ((UU (a:=0) (news:=[St s]) (m:=1) Ch f b G (by rw[Xo];rfl) Z (ba _ _ _ _) r o Bg)) ?_;rintro r w2 ⟨c2,r,f,rfl⟩;rw[l];refine V Z<|Ag<|An<|AG (σ:=Nat) (fun k=>[(7, .slice (some ⟨g,0,none⟩) n cp),(8,I k)]) (fun k w'=>∃c',CD w c' w'∧AJ c' w' 7 9 1 (.slice (some ⟨g,0,none⟩) n cp) n (replicate k (St s)++replicate (n-k) (St []))∧1≤k∧k≤n) (fun k=>n-k) 1 AL ⟨_,hO.D,by simpa using f,G,b⟩ ?_;rintro k j ⟨j,hO,f,l,l⟩;have J:Nat.min k (n-k)≤k:=Nat.min_le_left _ _;have R:Nat.min k (n-k)≤n-k:=Ag6 _ _;have o:((replicate k (St s)).drop (0*1) |>.take (Nat.min k (n-k)*1)).length=Nat.min k (n-k)*1:=by simp
 have U:∀y∈(replicate k (St s)).drop (0*1) |>.take (Nat.min k (n-k)*1),y.oneCell'=true:=fun y hy=>by
  have:=Ack (Acy (Aca hy));rw[this];rfl
 refine Ag<|Q<|M Z<|M Z<|E (BN Ch) ?_;refine E (AX Z Z)<|Ah<|BA Z (fun r=>?_) fun r=>?_
 ·refine As<|An ?_;refine AM j [7] [0,0,0,0,0,0,0,2,0,0] [0,1,2,3,4,5,6,7,8,9] fun j t j=>Bm Z Z<|Bm Z Z<|Bm Z Z<|AN Z (DJ Ch Z Z G G)<|Bm Z Z<|Bm Z Z<|AN Z (MV Ch Z Z G G) ?_;have C:=(f.D t).to l;rw[Acn,Ad7 Bb,Zh] at C;have t:=C.Sh (P:=QP) (k:=0) (m:=Nat.min k (n-k)) (by rw[Abs];exact Nat.min_le_left _ _);rw[Xo] at t;refine Db Z ((UU (x:= .tmp 41) (y:= .tmp 44) (a:=k) (m:=k) Ch f.D b l Z Z (by rw[Zh];exact ba _ _ _ _) (by rw[Zh];exact t) o U)) ?_;rintro o o ⟨o,o,f,rfl⟩;refine j.Bl o fun j=>AN Z (Bc Z Z Ai Ai)<|Ir Z Z ?_;refine AP ?_;have j:0<Nat.min k (n-k):=by have:=r;rw[show Nat.min k (n-k)=min k (n-k) from Z];omega
  refine⟨k+Nat.min k (n-k),AL,⟨_,hO.D,?_,G,G⟩,G⟩;have e:=mj (St s) (St []) l R J;simp only[Acn,Ac4,Adl] at f;rw[show((replicate k (St s)).take (Nat.min k (n-k))).length=Nat.min k (n-k) by rw[kL,Iz];exact Abl J,e] at f;exact f
 have:k=n:=G;subst this;rw[Acl] at f;refine Az Z<|Q<|M Z<|V Z<|Af Z Z ?_;exact⟨hO.below,by simpa using f.aX hO AO⟩
def dY:List UInt8:=replicate 64 0
theorem yL:Go.Lib.repeatL [0] 64=dY:=by rfl
theorem ml(l:0<n)(U:n≤1048576):Calls QP 30 #[I n] w (Bt fun u w'=>AZ w w'∧∃lv j,u= .agg #[.bool true,lv, .map (some j)]∧w.heap.size≤j∧CJ w' w.heap.size 9 1 lv n (replicate n (St dY))∧Oe w' j (replicate n [])):=by
 obtain⟨c,hO,hc⟩:=Ay w;refine AY 9 #[.cell 2 84] func30 Z<|Q<|EK c 102 ue fun w1 b2 c1 r i=>?_;refine Ah<|Q<|ve (Ac c1 1 (Ab pK Z (Nd (s:=[0]) (n:=64) AO AO))) ?_;rintro f w2 ⟨c2,t,f,rfl⟩;rw[yL];refine ve (AH c2 104 Ch Z Z Z Z Z) ?_;rintro _ f ⟨b4,f,rfl,C,Bd⟩;refine M Z<|ve (Ac f 7 (Ab aaj Z (dX Bd.AE l U))) ?_;rintro v6 o ⟨p,J,R,f⟩;replace f:=f.Du R;obtain⟨g,cp,rfl,LF,R⟩:=f.CT l;have R:=((((hO.D r).D t).D C).D J).le;refine ve (Ac p 8 ((Zg n))) ?_;rintro p J ⟨p,r,C,⟨rfl,t,_⟩⟩;have r:Ly p J 8 o.heap.size (replicate n []):=⟨t,C _ (kM _)⟩;refine E (By (cells:=#[.bool true, .slice (some ⟨g,0,none⟩) n cp, .map (some o.heap.size)]) Z Ao) ?_;refine Av (Am fE Z Z i.D Z Z Bg) ?_;rintro _ o ⟨i,o⟩;refine Ah<|FH Z (DZ fE Z i.AE Z) ?_;exact⟨hO.D.below,_,_,Z,R,f.D.aX hO.D AO,r.D.obj⟩
end
structure UW where
 liveQ:Bool
 l:List FI
 cache:List FI
structure CS where
 d:List UW
 CU:Nat
 off:Bool
 left:Int
 BC:Nat
variable {F:CS}
abbrev zT:FI:=replicate 64 0
def Ep(n:Nat):UW:=⟨true,replicate n zT,replicate n []⟩
def Pg(bc CU:Nat):CS:=⟨replicate bc (Ep CU),CU,false,-1,0⟩
def PO(A:CS)(d:Int):Bool:=decide (0≤d)&&decide (d<A.d.length)
def Eb(A:CS)(k:Nat):UW:=A.d.getD k ⟨false,[],[]⟩
def TD(A:CS)(k:Nat):Int:=if A.off then 9 else if(Eb A k).liveQ then 0 else 8
def Ll(A:CS):CS:={A with BC:=A.BC+1,left:=if 0<A.left then A.left-1 else A.left,off:=if 0<A.left then decide (A.left-1=0) else A.off}
def Ph(A:CS)(d s:Int):Bool:=PO A d&&(decide (0≤s)&&decide (s<A.CU))
def Bp(A:CS)(d s:Int):FI×Int:=
 if Ph A d s then if TD A d.toNat=0 then(if tx (Eb A d.toNat).cache s.toNat=[] then tx (Eb A d.toNat).l s.toNat else tx (Eb A d.toNat).cache s.toNat,0) else([],TD A d.toNat) else([],3)
def Ms(A:CS)(k:Nat)(x:UW):CS:={A with d:=A.d.set k x}
def Er(A:CS)(d s:Int)(t:FI):CS×Int:=
 if Ph A d s then if t.length=64 then if TD A d.toNat=0 then(Ll (Ms A d.toNat {Eb A d.toNat with cache:=(Eb A d.toNat).cache.set s.toNat t}),0) else(A,TD A d.toNat) else(A,1) else(A,3)
def over(l cache:List FI):List FI:=(List.range l.length).map fun j=>if tx cache j=[] then tx l j else tx cache j
def Kz(x:UW):UW:={x with l:=over x.l x.cache,cache:=replicate x.cache.length []}
def Fj(A:CS)(d:Int):CS×Int:=
 if PO A d then if TD A d.toNat=0 then(Ll (Ms A d.toNat (Kz (Eb A d.toNat))),0) else(A,TD A d.toNat) else(A,3)
def BG(A:CS)(d:Int):Bool:=PO A d&&(Eb A d.toNat).liveQ
def Jp(A:CS)(d:Int):CS×Int:=if PO A d then(Ms A d.toNat {Ep A.CU with liveQ:=false},0) else(A,3)
def Ec(A:CS)(d:Int):CS×Int:=if PO A d then(Ms A d.toNat (Ep A.CU),0) else(A,3)
def pick(L:List Int)(at_:Nat):Bool:=decide (0<L.length)&&decide (L.getD (at_%L.length) 0%2=1)
structure dy (n:Nat) (x:UW):Prop where
 ll:x.l.length=n
 lc:x.cache.length=n
 tl:∀k,k<n→(tx x.l k).length=64
 tc:∀k,tx x.cache k=[]∨(tx x.cache k).length=64
structure SX (A:CS):Prop where
 many:0<A.d.length∧A.d.length≤12
 sec:0<A.CU∧A.CU≤2048
 each:∀x∈A.d,dy A.CU x
 left:-1≤A.left∧A.left≤9223372036854775807
 Mt:A.BC≤4611686018427387904
theorem IB:∀l:List UInt8,Op.bytesLess l l=false
 |[]=>rfl
 |a::r=>by simp[Op.bytesLess,IB r]
theorem UX:∀a b:List UInt8,Op.bytesLess a b=true→Op.bytesLess b a=false
 |[],[],h=>by simp[Op.bytesLess] at h
 |[],_::_,_=>rfl
 |_::_,[],h=>by simp[Op.bytesLess] at h
 |x::a,y::b,h=>by
  simp only[Op.bytesLess,Aa3,pn,kg,Ad1] at h;simp only[Op.bytesLess,Aa1,Aay,Ac9,Agl];rcases h with h|⟨rfl,h⟩
  ·exact⟨by rw[UInt8.not_lt];exact UInt8.le_of_lt h, .inl (fun e=>by subst e;exact absurd h (UInt8.lt_irrefl _))⟩
  ·exact⟨UInt8.lt_irrefl _, .inr (UX a b h)⟩
theorem PP:∀a b:List UInt8,Op.bytesLess a b=false→a≠b→Op.bytesLess b a=true
 |[],[],_,h=>absurd Z h
 |[],_::_,h,_=>by simp[Op.bytesLess] at h
 |_::_,[],_,_=>rfl
 |x::a,y::b,h,i=>by
  simp only[Op.bytesLess,Aa1,Aay,Ac9,Agl] at h;simp only[Op.bytesLess,Aa3,pn,kg,Ad1];obtain⟨f,g⟩:=h;by_cases e:x=y
  ·subst e;exact .inr ⟨Z,PP a b (g.resolve_left (fun h=>h Z)) (fun e=>i (by rw[e]))⟩
  ·left;rw[UInt8.not_lt] at f;exact UInt8.lt_of_le_of_ne f (Ne.symm e)
theorem JE:∀a b c:List UInt8,Op.bytesLess a b=true→Op.bytesLess b c=true→Op.bytesLess a c=true
 |_,_,[],_,h=>by simp[Op.bytesLess] at h
 |_,[],_::_,h,_=>by simp[Op.bytesLess] at h
 |[],_::_,_::_,_,_=>rfl
 |x::a,y::b,z::c,h,f=>by
  simp only[Op.bytesLess,Aa3,pn,kg,Ad1] at h f⊢;rcases h with h|⟨rfl,h⟩
  ·rcases f with f|⟨rfl,f⟩
   ·exact .inl (UInt8.lt_trans h f)
   ·exact .inl h
  ·rcases f with f|⟨rfl,f⟩
   ·exact .inl f
   ·exact .inr ⟨Z,JE a b c h f⟩
theorem mm(a b:List UInt8):Op.bytesLess a b= !(Op.bytesLess b a||(b==a)):=by
 cases h:Op.bytesLess a b with
 |true=>
  have f:=UX a b h;have g:(b==a)=false:=by
   rw[Agl];intro e;subst e;rw[IB] at h;cases h
  rw[f,g];rfl
 |false=>
  by_cases e:a=b
  ·subst e;simp
  ·rw[PP a b h e];rfl
def yM(l:List (List UInt8))(i:Nat):Bool:=decide ((l[i]?.getD []).length=32)&&(decide (i=0)||Op.bytesLess (l[i-1]?.getD []) (l[i]?.getD []))
def gr(l:List (List UInt8)):Bool:=(List.range l.length).all (yM l)
structure Man where
 Ar:Int
 mn:List (List UInt8)
 AL:List (List UInt8)
 deriving DecidableEq
def um(m:Man):Bool:=(decide (0≤m.Ar)&&decide (m.Ar≤255))&&decide (m.mn.length+m.AL.length≤20)&&gr m.mn&&gr m.AL
def chunks:Nat→List UInt8→List (List UInt8)
 |0,_=>[]
 |k+1,s=>s.take 32::chunks k (s.drop 32)
def at_(s:List UInt8)(i:Nat):Nat:=(s[i]?.getD 0).toNat
def sZ(s:List UInt8):Man:=⟨at_ s 4,chunks (at_ s 5) (s.drop 7),chunks (at_ s 6) ((s.drop 7).drop (32*at_ s 5))⟩
def qe(s:List UInt8):Option Man:=
 if 7≤s.length∧s.take 4=[77,65,78,70]∧s.length=7+32*(at_ s 5+at_ s 6) then(if um (sZ s) then some (sZ s) else none) else none
def wk(s:List UInt8)(k:Nat):List Int:=(List.range k).foldl (wb s) (replicate 16 0)
def vk(h:List Int)(k:Nat):List Int:=(List.range k).foldl (fun v i=>(v.set i (gW h i)).set (i+8) (gW pz i)) (replicate 16 0)
def Ze(h v:List Int)(k:Nat):List Int:=(List.range k).foldl (fun l i=>l.set i (zy (zy (gW l i) (gW v i)) (gW v (i+8)))) h
def LF(h v:List Int)(k:Nat):List Int:=(List.range k).foldl (fun l i=>l.set i (zy (gW l i) (zy (gW v i) (gW v (i+8))))) h
def HO(v:Value):Prop:=∃A n c,v= .slice A n c∧(0<n→∃b off,A=some ⟨b,off,none⟩)
theorem HO.sub{A:Option Addr}{c :Nat}(h:0<n→∃b off,A=some ⟨b,off,none⟩)(hh:m≤n):HO (En (.slice A n c) k m i):=by
 refine⟨_,_,_,Z,fun hp=>?_⟩;obtain⟨b,off,rfl⟩:=h G;by_cases hc:c=k
 ·rw[zm hc];exact⟨_,_,Z⟩
 rw[ss hc];exact⟨_,_,by rw[Aa7,add_lit]⟩
theorem CJ.ta(h:CJ w k d m a n b):∃A c,a= .slice A n c∧n≤c∧(0<n→∃xs off,A=some ⟨xs,off,none⟩):=by
 rcases h.2 with⟨rfl,A,rfl⟩|⟨g,cap,f,i,rfl,_,_,_,hc,_⟩
 ·exact⟨A,0,Z,kM _,fun h=>absurd h (Nat.lt_irrefl _)⟩
 ·exact⟨_,cap,Z,hc,fun _=>⟨_,_,Z⟩⟩
theorem AJ.OO{w:World}(hO:CD w c w')(h:AJ c w' i d k a n b)(hi:i≠0):CJ w' w.heap.size d k a n b:=by
 obtain⟨hl,f⟩:=h.own;refine⟨hl,?_⟩;rcases f with f|⟨g,cap,o,p,rfl,U,r,t,C,I,J,R,j⟩
 ·exact .inl f
 refine .inr ⟨g,cap,o,p,Z,?_,r,t,C,I,J,R,j⟩;rcases Aab g w.heap.size with hg|hg
 ·have l:=hO.BF g hg;rw[h.BF g (Bh j)] at l;exact(hi l).elim
 exact hg
structure vE where
 AK:List UInt8
 text:List UInt8
 mo:Bool
 deriving DecidableEq
def bd(l:List vE)(d:List UInt8):Option Nat:=l.findIdx? fun t=>t.AK==d
def uo(t:vE):List (List UInt8):=if t.mo then(match qe t.text with|some m=>m.mn++m.AL|none=>[]) else[]
abbrev L(a b:List UInt8):Prop:=Op.bytesLess a b=true
abbrev vH:=List UInt8
def yN(T:List vE)(i:Nat):List vH:=(T[i]?.map uo).getD []
inductive Reach (T:List vE) (R:List vH):Nat→Prop
 |root {d:vH} {i:Nat}:d∈R→bd T d=some i→Reach T R i
 |step {i:Nat} {d:vH} {j:Nat}:Reach T R i→d∈yN T i→bd T d=some j→Reach T R j
structure abF (T:List vE) (R:List vH) (seen:List Bool) (todo:List vH):Prop where
 len:seen.length=T.length
 sound:∀i,seen[i]?=some true→Reach T R i
 aay:∀d∈todo,∀j,bd T d=some j→Reach T R j
 roots:∀d∈R,∀j,bd T d=some j→seen[j]?=some true∨d∈todo
 closed:∀i,seen[i]?=some true→∀d∈yN T i,∀j,bd T d=some j→seen[j]?=some true∨d∈todo
structure abG (seen:List Bool) (ord:List Nat):Prop where
 nodup:ord.Nodup
 mem:∀i,i∈ord↔seen[i]?=some true
def bf(a b:List UInt8):Int:=if Op.bytesLess a b then-1 else if a=b then 0 else 1
theorem gu:∀a b:List UInt8,Lib.compareBytes a b=bf a b
 |[],[]=>rfl
 |[],_::_=>rfl
 |_::_,[]=>rfl
 |x::a,y::b=>by
  unfold Lib.compareBytes;rw[gu a b];unfold bf;simp only[Op.bytesLess];by_cases h:x<y
  ·simp[h]
  ·by_cases f:y<x
   ·have i:x≠y:=fun e=>by subst e;exact h f
    simp[h,f,i]
   ·have g:x=y:=by
     rw[UInt8.not_lt] at h f;exact UInt8.le_antisymm f h
    subst g;simp[h]
theorem bg{b:List UInt8}:(bf s b<0)=(Op.bytesLess s b=true):=by
 unfold bf;split
 ·rename_i h;simp[h]
 ·rename_i h;split<;>simp[h]
theorem iz{b:List UInt8}:(bf s b=0)=(s=b):=by
 unfold bf;split
 ·rename_i h;have:s≠b:=fun e=>by subst e;rw[IB] at h;cases h
  simp[this]
 ·split<;>simp_all
def Ej{α:Type}(p:α→Bool)(l:List α):Nat:=(l.takeWhile p).length
theorem UY{α:Type}{p:α→Bool}:∀{l:List α} {i:Nat},i≤l.length→(∀k (O:k<l.length),k<i→p l[k]=true)→(∀hi:i<l.length,p l[i]=false)→Ej p l=i
 |[],i,hi,_,_=>by simp at hi;subst hi;rfl
 |a::r,0,_,_,f=>by
  have:=f Bb;simp only[List.getElem_cons_zero] at this;simp[Ej,Adh,this]
 |a::r,i+1,hi,j,f=>by
  have g:=j 0 Bb G;simp only[List.getElem_cons_zero] at g;have t:=UY (p:=p) (l:=r) (i:=i) (by simpa using hi) (fun k O C=>by
   have:=j (k+1) (by simpa using O) G;simpa using this) (fun o=>by
   have:=f (by simpa using o);simpa using this)
  simp only[Ej,Adh,g,Afo,SG];unfold Ej at t;omega
theorem dZ(a b:List UInt8):Calls QP 163 #[St a,St b] w (Bt fun v w'=>AZ w w'∧v=I (bf a b)):=
 (Tryz.strings_Compare ⟨a.toArray⟩ ⟨b.toArray⟩ w).mono fun e w' f=>by
  obtain⟨rfl,rfl⟩:=f;exact⟨_,Z,Aar _ _,by rw[gu]⟩
def lead(p:UInt8→Bool):List UInt8→Nat
 |[]=>0
 |c::r=>if p c then lead p r+1 else 0
structure Tg where
 name:List UInt8
 AK:List UInt8
 deriving DecidableEq
structure Ses where
 id:Int
 text:List UInt8
 deriving DecidableEq
structure Sta where
 AQ:List vE
 De:List Tg
 yO:List Ses
 next:Int
 deriving DecidableEq
structure MOp where
 Ar:Int
 id:Int
 n:Int
 m:Int
 name:List UInt8
 AK:List UInt8
 text:List UInt8
 deriving DecidableEq
structure Rep where
 n:Int
 text:List UInt8
 err:Int
 deriving DecidableEq
abbrev Xp(t:Tg):List Value:=[St t.name,St t.AK]
def Wo:Shape Tg:=Shape.flat 2 Xp (fun t=>t.name.length≤140737488355328∧t.AK.length≤140737488355328) (fun _=>rfl) (fun _ u hu=>by simp[Xp] at hu;rcases hu with rfl|rfl<;>rfl)
def uq(c:UInt8)(s:List UInt8):List UInt8×Option (List UInt8):=(s.take (lead (fun x=> !(x==c)) s),if lead (fun x=> !(x==c)) s<s.length then some (s.drop (lead (fun x=> !(x==c)) s+1)) else none)
def splitB(c:UInt8):Nat→List UInt8→List (List UInt8)
 |0,_=>[]
 |k+1,s=>match(uq c s).2 with
  |none=>[(uq c s).1]
  |some r=>(uq c s).1::splitB c k r
def parts(s:List UInt8):List (List UInt8):=splitB 47 (s.length+1) s
abbrev Res:=Sta×Rep
def bad(S:Sta)(e:Int):Res:=(S,⟨0,[],e⟩)
structure CV where
 id:Int
 len:Int
 gen:Int
 Ad:List (Int×Int)
 deriving DecidableEq
variable {C:List CV}
structure KA where
 AK:Tx
 len:Int
 ur:Bool
 list:List Int
 deriving DecidableEq
structure Bk where
 Ae:List CV
 AQ:List KA
 De:List Tg
 next:Int
 deriving DecidableEq
def Nf:Bk:=⟨[],[],[],0⟩
def Ki(p:Int×Int):Bool:=(decide (0≤p.1)&&decide (p.1<12)&&decide (0≤p.2)&&decide (p.2<64))||(decide (p.1=-1)&&decide (p.2=0))
def KB:List (Int×Int)→List (Int×Int)→Bool
 |_,[]=>true
 |seen,s::r=>if s.1≠-1∧(seen.any fun x=>decide (x.1=s.1))=true then false else KB (seen++[s]) r
def Dg(s:CO)(x:CV):Bool:=(Fb x.id&&Fb x.gen&&decide (1≤x.len)&&decide (x.len≤(s.k*s.size:Nat))&&decide (x.Ad.length=s.k+s.m))&&(KB [] x.Ad&& !(x.Ad.any fun p=> !Ki p))
def Nx:List (Int×Int)→List (Int×Int)→Bool
 |_,[]=>true
 |T,p::r=>if 0≤p.1∧p∈T then false else Nx (p::T) r
def Gy(s:CO)(next:Int):Option Int→List (Int×Int)→List CV→Bool
 |_,_,[]=>true
 |o,T,x::r=>(Dg s x&&decide (x.id<next)&&(match o with|none=>true|some y=>decide (y<x.id)))&&(Nx T x.Ad&&Gy s next (some x.id) (x.Ad.reverse++T) r)
def Pw(l:List CV)(id:Int):Nat:=Ej (fun x=>decide (x.id<id)) l
def Ib(l:List CV)(id:Int):Option Nat:=l.findIdx? fun x=>decide (x.id=id)
def Fc(s:CO)(l:List CV):Int→List Int→Bool
 |left,[]=>decide (left=0)
 |left,id::r=>match Ib l id with
  |none=>false
  |some i=>match l[i]? with
   |none=>false
   |some x=>if x.len=min left (s.k*s.size:Nat) then Fc s l (left-x.len) r else false
def Lm:List Int→List Int→Bool
 |_,[]=>true
 |T,p::r=>if p∈T then false else Lm (p::T) r
def Ln(s:CO)(l:List CV):Option Tx→List Int→List KA→Bool
 |_,_,[]=>true
 |o,T,x::r=>(decide (x.AK.length=32)&&(match o with|none=>true|some y=>Op.bytesLess y x.AK)&&decide (0≤x.len)&&decide (x.len≤2000)&&decide (x.list.length=BI s x.len.toNat)&&Fc s l x.len x.list)&&(Lm T x.list&&Ln s l (some x.AK) (x.list.reverse++T) r)
def bh:Option Tx→List Tg→Bool
 |_,[]=>true
 |o,x::r=>(decide (1≤x.name.length)&&decide (x.name.length≤40)&&decide (x.AK.length=32)&&(match o with|none=>true|some y=>Op.bytesLess y x.name))&&bh (some x.name) r
def Ek(s:CO)(b:Bk):Bool:=(Fb b.next&&Gy s b.next none [] b.Ae)&&(Ln s b.Ae none [] b.AQ&&decide (b.AQ.length≤60))&&(bh none b.De&&decide (b.De.length≤40))
def Ic(l:List CV):Prop:=∀i j (hi:i<l.length) (f:j<l.length),i<j→l[i].id<l[j].id
theorem PQ{o:Option Int}{x:CV}(h:Gy z p o u (x::C)=true):Dg z x=true∧x.id<p∧(∀y,o=some y→y<x.id)∧Gy z p (some x.id) (x.Ad.reverse++u) C=true:=by
 unfold Gy at h;simp only[kg,pn] at h;obtain⟨⟨⟨f,g⟩,i⟩,_,j⟩:=h;refine⟨f,g,fun y hy=>?_,j⟩;subst hy;simpa using i
theorem Xq{s:CO}{next:Int}:∀{l:List CV} {o:Option Int} {T:List (Int×Int)},Gy s next o T l=true→∀x∈l,Dg s x=true∧x.id<next
 |[],_,_,_,x,hx=>by simp at hx
 |y::r,o,T,h,x,hx=>by
  obtain⟨f,g,_,i⟩:=PQ h;rcases Aak.1 hx with rfl|hx
  ·exact⟨f,g⟩
  ·exact Xq i x hx
theorem Xr{s:CO}{next:Int}:∀{l:List CV} {o:Option Int} {T:List (Int×Int)},Gy s next o T l=true→∀x∈l,∀y,o=some y→y<x.id
 |[],_,_,_,x,hx=>by simp at hx
 |z::r,o,T,h,x,hx=>fun y hy=>by
  obtain⟨_,_,f,g⟩:=PQ h;rcases Aak.1 hx with rfl|hx
  ·exact f y hy
  ·exact Int.lt_trans (f y hy) (Xr g x hx z.id Z)
theorem PR{s:CO}{next:Int}:∀{l:List CV} {o:Option Int} {T:List (Int×Int)},Gy s next o T l=true→Ic l
 |[],_,_,_=>fun i j hi=>by simp at hi
 |z::r,o,T,h=>fun i j hi g p=>by
  obtain⟨_,_,_,f⟩:=PQ h;cases j with
  |zero=>omega
  |succ j=>cases i with
   |zero=>exact Xr f _ (mv (by simpa using g)) z.id Z
   |succ i=>exact PR f i j (by simpa using hi) (by simpa using g) G
theorem Oh{s:CO}{l:List CV}:∀{r:List Int} {left:Int},Fc s l left r=true→∀id∈r,∃i,Ib l id=some i
 |[],_,_,id,h=>by simp at h
 |a::r,left,h,id,g=>by
  rw[Fc] at h;cases f:Ib l a with
  |none=>rw[f] at h;cases h
  |some i=>
   rw[f] at h;rcases Aak.1 g with rfl|g
   ·exact⟨i,f⟩
   ·dsimp only at h;cases hx:l[i]? with
    |none=>rw[hx] at h;cases h
    |some x=>
     rw[hx] at h;dsimp only at h;split at h
     ·exact Oh h id g
     ·cases h
theorem Oi{s:CO}{l:List CV}:∀{r:List KA} {o:Option Tx} {T:List Int},Ln s l o T r=true→∀x∈r,x.AK.length=32∧0≤x.len∧x.len≤2000∧x.list.length=BI s x.len.toNat∧Fc s l x.len x.list=true
 |[],_,_,_,x,h=>by simp at h
 |a::r,o,T,h,x,f=>by
  unfold Ln at h;simp only[kg,pn] at h;obtain⟨⟨⟨⟨⟨⟨g,_⟩,i⟩,j⟩,p⟩,t⟩,_,C⟩:=h;rcases Aak.1 f with rfl|f
  ·exact⟨g,i,j,p,t⟩
  ·exact Oi C x f
theorem El{b:Bk}(h:Ek z b=true):Fb b.next=true∧Gy z b.next none [] b.Ae=true∧Ln z b.Ae none [] b.AQ=true∧b.AQ.length≤60∧bh none b.De=true∧b.De.length≤40:=by
 rw[Ek] at h;simp only[kg,pn] at h;obtain⟨⟨⟨f,g⟩,i,j⟩,l,o⟩:=h;exact⟨f,g,i,j,l,o⟩
theorem JF{b:Bk}(h:Ek z b=true):Ic b.Ae:=PR (El h).2.1
theorem IC{b:Bk}(h:Ek z b=true):∀x∈b.Ae,Dg z x=true∧x.id<b.next:=Xq (El h).2.1
theorem bi{b:Bk}(h:Ek z b=true){e:KA}(f:e∈b.AQ)(hi:p∈e.list):∃i,Ib b.Ae p=some i:=Oh ((Oi (El h).2.2.1 e f).2.2.2.2) p hi
theorem CI{x:CV}(h:Dg z x=true):(0≤x.id∧x.id≤1073741824)∧(0≤x.gen∧x.gen≤1073741824)∧1≤x.len∧x.len≤(z.k*z.size:Nat)∧x.Ad.length=z.k+z.m∧∀p∈x.Ad,Ki p=true:=by
 rw[Dg] at h;simp only[kg,pn,Fb,Aa9,Ab9] at h;obtain⟨⟨⟨⟨⟨f,g⟩,i⟩,j⟩,l⟩,_,o⟩:=h;exact⟨f,g,i,j,l,fun p hp=>by simpa using o p hp⟩
def Dk(A:CS)(d from_:Int):Nat→Option (List Tx)
 |0=>some []
 |k+1=>match Dk A d from_ k with
  |none=>none
  |some l=>if(Bp A d (from_+(k:Nat))).2=0 then some (l++[(Bp A d (from_+(k:Nat))).1]) else none
def BZ(s:CO):Nat:=Ca s.size
def Dp(A:CS)(s:CO)(x:CV)(i:Nat):Tx×Bool:=
 match x.Ad[i]? with
 |none=>([],false)
 |some p=>match Dk A p.1 (1024+p.2*(BZ s:Nat)) (BZ s) with
  |none=>([],false)
  |some l=>if Ja l x.id x.gen (i:Nat)=2 then match Hy l with
   |none=>([],false)
   |some h=>(h.text,decide (h.text.length=s.size))
   else([],false)
def Hd(A:CS)(s:CO)(x:CV):List Bool:=(List.range (s.k+s.m)).map fun i=>(Dp A s x i).2
def KC(A:CS)(s:CO)(x:CV):List Tx:=(List.range (s.k+s.m)).map fun i=>(Dp A s x i).1
def JG(A:CS)(s:CO)(x:CV):Option (List Tx):=Sf s (KC A s x) (Hd A s x)
def OP(A:CS)(s:CO)(b:Bk)(id:Int):Option Tx:=
 match Ib b.Ae id with
 |none=>none
 |some i=>match b.Ae[i]? with
  |none=>none
  |some x=>match JG A s x with
   |none=>none
   |some l=>Pt s (l.take s.k) x.len
def TE(A:CS)(s:CO)(b:Bk):Tx→List Int→Option Tx
 |t,[]=>some t
 |t,id::r=>match OP A s b id with
  |none=>none
  |some u=>TE A s b (t++u) r
def Ny(A:CS)(s:CO)(b:Bk)(d:Tx):Tx×Int:=
 match b.AQ.findIdx? fun e=>e.AK==d with
 |none=>([],3)
 |some i=>match b.AQ[i]? with
  |none=>([],3)
  |some e=>match TE A s b [] e.list with
   |none=>([],8)
   |some t=>(t,0)
structure FU (c:Nat→Nat) (w:World) (i:Nat) (t:TypeId) (vs:List Value) (L:List (List FI)):Prop where
 len:vs.length=L.length
 row:∀(j:Nat) (v:Value) (l:List FI),vs[j]?=some v→L[j]?=some l→AJ c w i t 1 v l.length (l.map St)
 apart:vs.Pairwise fun u v=>∀k,u.rowOf=some k→v.rowOf≠some k
structure FV (c:Nat→Nat) (w:World) (i:Nat) (ms:List Nat) (L:List (List FI)):Prop where
 len:ms.length=L.length
 row:∀(j:Nat) (m:Nat) (l:List FI),ms[j]?=some m→L[j]?=some l→Ly c w i m l
 apart:ms.Nodup
section
variable {c c':Nat→Nat} {w w':World} {i:Nat} {t:TypeId} {vs:List Value} {ms:List Nat} {L:List (List FI)} {I:List Nat}
theorem FU.D(h:FU c w i t vs L)(m:Mv c w c' w' I:=by exact Go.Eng.KU)(hi:AU I i=false:=by rfl):FU c' w' i t vs L:=⟨h.len,fun j v l f g=>(h.row j v l f g).D m hi,h.apart⟩
theorem FV.D(h:FV c w i ms L)(m:Mv c w c' w' I:=by exact Go.Eng.KU)(hi:AU I i=false:=by rfl):FV c' w' i ms L:=⟨h.len,fun j v l f g=>(h.row j v l f g).D m hi,h.apart⟩
theorem FU.nil:FU c w i t [] []:=⟨Z,fun j v l h=>by simp at h,List.Pairwise.nil⟩
theorem FV.nil:FV c w i [] []:=⟨Z,fun j v l h=>by simp at h,List.nodup_nil⟩
theorem Rc{R:α→α→Prop}(hs:∀x y,R x y→R y x){l:List α}(h:l.Pairwise R){i:Nat}{x y:α}(hi:l[i]?=some x)(p:l[k]?=some y)(r:i≠k):R x y:=by
 obtain⟨g,rfl⟩:=kJ.1 hi;obtain⟨o,rfl⟩:=kJ.1 p;have:=Aal.1 h;rcases Nat.lt_or_gt_of_ne r with f|f
 ·exact this i k g o f
 ·exact hs _ _ (this k i o g f)
theorem Kj(x y:Value)(h:∀k,x.rowOf=some k→y.rowOf≠some k):∀k,y.rowOf=some k→x.rowOf≠some k:=fun k f g=>h k g f
theorem HA{l:List α}{x y:α}(h:(l.set m x)[k]?=some y):(k=m∧y=x∧m<l.length)∨(k≠m∧l[k]?=some y):=by
 rw[Afp] at h;split at h
 ·rename_i e;split at h
  ·injection h with h;exact .inl ⟨e.symm,h.symm,by assumption⟩
  ·cases h
 ·rename_i e;exact .inr ⟨fun f=>e f.symm,h⟩
theorem UZ{R:α→α→Prop}(hs:∀x y,R x y→R y x){l:List α}(h:l.Pairwise R){x:α}(hx:∀j y,j≠k→l[j]?=some y→R x y):(l.set k x).Pairwise R:=by
 rw[Aal];intro a b C i U;rcases HA (dd C) with⟨J,p,_⟩|⟨I,g⟩
 ·rcases HA (dd i) with⟨r,_,_⟩|⟨o,f⟩
  ·omega
  ·rw[p];exact hx b _ o f
 ·rcases HA (dd i) with⟨r,t,_⟩|⟨o,f⟩
  ·rw[t];exact hs _ _ (hx a _ I g)
  ·exact Rc hs h g f G
theorem FU.put(h:FU c w i t vs L){l':List FI}(o:vs[k]?=some a)(r:AJ c' w' i t 1 a l'.length (l'.map St))(hg:w.grownBy w' a.rowOf)(hc:∀j,j<w.heap.size→c' j=c j):FU c' w' i t vs (L.set k l'):=by
 refine⟨by rw[Yy];exact h.len,fun j u l O hl=>?_,h.apart⟩;rcases HA hl with⟨rfl,rfl,_⟩|⟨p,hl⟩
 ·rw[o] at O;injection O with O;rw[←O];exact r
 have g:=h.row j u l O hl;exact⟨g.own.SL fun b f=>hg.block b (g.own.lt b f).2 fun e=>Rc Kj h.apart O o p b f e.symm,fun b f=>(hc b (g.own.lt b f).2).trans (g.BF b f)⟩
theorem FV.put(h:FV c w i ms L){l':List FI}(g:ms[k]?=some m)(r:Ly c' w' i m l')(hg:w.grownBy w' (some m))(hc:∀j,j<w.heap.size→c' j=c j):FV c' w' i ms (L.set k l'):=by
 refine⟨by rw[Yy];exact h.len,fun j u l O hl=>?_,h.apart⟩;rcases HA hl with⟨rfl,rfl,_⟩|⟨p,hl⟩
 ·rw[g] at O;injection O with O;rw[←O];exact r
 have f:=h.row j u l O hl;have o:=f.obj.lt;exact⟨f.obj.keep (hg.block u o fun e=>by injection e with e;exact Rc (R:=(·≠ ·)) (fun _ _ h=>h.symm) h.apart g O (fun e=>p e.symm) e.symm),(hc u o).trans f.BF⟩
theorem FU.uu(h:FU c w i t vs L){l':List FI}(I:AJ c w i t 1 a l'.length (l'.map St))(r:∀(j:Nat) (u:Value) (l:List FI) (b:Nat),vs[j]?=some u→L[j]?=some l→u.rowOf=some b→a.rowOf≠some b):FU c w i t (vs.set k a) (L.set k l'):=by
 refine⟨by rw[Yy,Yy];exact h.len,fun j u l O hl=>?_,UZ Kj h.apart fun j y O hy b f g=>?_⟩
 ·rcases HA O with⟨rfl,rfl,_⟩|⟨o,O⟩
  ·rcases HA hl with⟨_,rfl,_⟩|⟨C,_⟩
   ·exact I
   exact absurd Z C
  rcases HA hl with⟨e,_,_⟩|⟨_,hl⟩
  ·exact absurd e o
  exact h.row j u l O hl
 obtain⟨p,_⟩:=kJ.1 hy;exact r j y _ b hy (dd (by rw[←h.len];exact p)) g f
theorem FV.uu(h:FV c w i ms L){l':List FI}(p:Ly c w i m l')(g:∀u∈ms,m≠u):FV c w i (ms.set k m) (L.set k l'):=by
 refine⟨by rw[Yy,Yy];exact h.len,fun j u l O hl=>?_,UZ (R:=(·≠ ·)) (fun _ _ h=>h.symm) h.apart fun j y _ hy=>g y (Lx hy)⟩;rcases HA O with⟨rfl,rfl,_⟩|⟨f,O⟩
 ·rcases HA hl with⟨_,rfl,_⟩|⟨o,_⟩
  ·exact p
  exact absurd Z o
 rcases HA hl with⟨e,_,_⟩|⟨_,hl⟩
 ·exact absurd e f
 exact h.row j u l O hl
theorem JW{l:List α}{x y:α}(h:(l++[x])[k]?=some y):(k=l.length∧y=x)∨l[k]?=some y:=by
 rw[Agh] at h;split at h
 ·exact .inr h
 ·have:k-l.length=0:=by
   rcases Aa6 (k-l.length) with f|f
   ·exact f
   ·rw[Aam (by simp;omega)] at h;cases h
  rw[this] at h;injection h with h;exact .inl ⟨G,h.symm⟩
theorem FU.snoc(h:FU c w i t vs L){l':List FI}(p:AJ c w i t 1 a l'.length (l'.map St))(o:∀(k:Nat) (u:Value) (l:List FI) (b:Nat),vs[k]?=some u→L[k]?=some l→u.rowOf=some b→a.rowOf≠some b):FU c w i t (vs++[a]) (L++[l']):=by
 refine⟨by simp[h.len],fun k u l O hl=>?_,?_⟩
 ·rcases JW O with⟨rfl,rfl⟩|O
  ·rcases JW hl with⟨_,rfl⟩|hl
   ·exact p
   rw[Aam (by rw[h.len];omega)] at hl;cases hl
  rcases JW hl with⟨e,rfl⟩|hl
  ·rw[Aam (by rw[e,h.len];omega)] at O;cases O
  exact h.row k u l O hl
 rw[Abp];refine⟨h.apart,by simp,fun x hx y hy b f g=>?_⟩;simp at hy;subst hy;obtain⟨k,O⟩:=Aba hx;obtain⟨j,_⟩:=kJ.1 O;exact o k x _ b O (dd (by rw[←h.len];exact j)) f g
theorem FV.snoc(h:FV c w i ms L){l':List FI}(o:Ly c w i m l')(j:∀u∈ms,m≠u):FV c w i (ms++[m]) (L++[l']):=by
 refine⟨by simp[h.len],fun k u l O hl=>?_,?_⟩
 ·rcases JW O with⟨rfl,rfl⟩|O
  ·rcases JW hl with⟨_,rfl⟩|hl
   ·exact o
   rw[Aam (by rw[h.len];omega)] at hl;cases hl
  rcases JW hl with⟨e,rfl⟩|hl
  ·rw[Aam (by rw[e,h.len];omega)] at O;cases O
  exact h.row k u l O hl
 rw[Ac5];exact⟨h.apart,by simp,fun a g b f e=>by simp at f;subst f;exact j a g e.symm⟩
theorem FU.newRow(w0:FU j h i t vs L){v:Value}(hv:∀k,v.rowOf=some k→h.heap.size≤k):∀(k:Nat) (u:Value) (l:List FI) (b:Nat),vs[k]?=some u→L[k]?=some l→u.rowOf=some b→v.rowOf≠some b:=fun k u l b O hl g f=>by
 have:=((w0.row k u l O hl).own.lt b g).2;have:=hv b f;omega
theorem FV.uv(w0:FV j h i ms L)(g:h.heap.size≤m):∀u∈ms,m≠u:=fun u hu e=>by
 obtain⟨k,O⟩:=Aba hu;obtain⟨f,_⟩:=kJ.1 O;have:=(w0.row k u _ O (dd (by rw[←w0.len];exact f))).obj.lt;omega
end
abbrev DX:=Bool×Value×Nat
def bl(x:DX):List Value:=[.bool x.1,x.2.1, .map (some x.2.2)]
theorem Re(x:DX):(bl x).length=3:=rfl
structure Cm (c:Nat→Nat) (w:World) (v:Value) (X:List DX) (Djq:List UW):Prop where
 liveQ:X.map (·.1)=Djq.map (·.liveQ)
 own:AJ c w 61 84 3 v X.length (X.flatMap bl)
 rows:FU c w 62 9 (X.map (·.2.1)) (Djq.map (·.l))
 maps:FV c w 63 (X.map (·.2.2)) (Djq.map (·.cache))
theorem AJ.elem{enc:α→List Value}(h:AJ c w i d n a t.length (t.flatMap enc))(o:∀x,(enc x).length=n)(C:0<n)(O:k<t.length):DG c w [i] (Bz a n k) (enc t[k]):=by
 rcases h.own.2 with⟨f,_⟩|⟨g,cap,f,f,rfl,f,hg,f,f,f,l,X,LF⟩
 ·omega
 have r:=(h.own.lt g (Bh LF)).2;refine⟨⟨fun j u p=>?_,?_⟩,?_⟩
 ·have f:j<n:=by rw[←o t[k]];exact(kJ.1 p).1
  have f:(t.flatMap enc)[k*n+j]?=some u:=by
   rw[Acj];exact mb _ n (fun cs l=>by obtain⟨x,_,rfl⟩:=Aag.1 l;exact o x) k (by simpa using O) j u (by simpa using p)
  have l:k*n+j<t.length*n:=by
   have:(k+1)*n≤t.length*n:=WN _ O;rw[Aad,Aa2] at this;omega
  rw[←X,Afr l,Array.getElem?_toList] at f;simp[Bz,add_lit,World.cell?,hg,f]
 ·simpa[Bz,Gk] using r
 have:=h.BF g (Bh LF);simp[Bz,AU,Gk,this]
theorem Ed{o:Type}(f:α→o){x y:α}(O:t[k]?=some x)(i:f y=f x):(t.set k y).map f=t.map f:=by
 rw[Ab0,i];apply Adr;intro j;rw[Afp];split
 ·rename_i e;subst e;obtain⟨g,rfl⟩:=kJ.1 O;simp[g]
 ·rfl
theorem mq{x:α}(O:t[k]?=some x):t.set k x=t:=by
 have:=Ed id O (y:=x) Z;simpa using this
section
variable {c c':Nat→Nat} {w w':World} {v:Value} {X:List DX} {Djq:List UW} {K:List Nat} {k:Nat} {b:Bool} {lv:Value} {m:Nat} {x:UW}
theorem Cm.len(h:Cm c w v X Djq):X.length=Djq.length:=by simpa using Aao List.length h.liveQ
theorem Cm.form(h:Cm c w v X Djq):∃A cp,v= .slice A Djq.length cp∧Djq.length≤cp∧cp≤maxLen:=by rw[←h.len];exact h.own.own.len
theorem Cm.D(h:Cm c w v X Djq)(m:Mv c w c' w' K:=by exact Go.Eng.KU)(f:AU K 61=false:=by rfl)(g:AU K 62=false:=by rfl)(i:AU K 63=false:=by rfl):Cm c' w' v X Djq:=
 ⟨h.liveQ,h.own.D m f,h.rows.D m g,h.maps.D m i⟩
theorem Cm.AD(h:Cm c w v X Djq):v.oneCell'=true:=by obtain⟨A,cp,rfl,_⟩:=h.form;rfl
theorem Cm.AA(h:Cm c w v X Djq):v.cells=#[v]:=by obtain⟨A,cp,rfl,_⟩:=h.form;rfl
theorem Cm.at_(h:Cm c w v X Djq)(i:Djq[k]?=some x):∃lv m,X[k]?=some (x.liveQ,lv,m):=by
 obtain⟨O,rfl⟩:=kJ.1 i;have f:k<X.length:=by rw[h.len];exact O
 have g:X[k].1=Djq[k].liveQ:=by
  have:=Aao (·[k]?) h.liveQ;simpa[f,O] using this
 exact⟨X[k].2.1,X[k].2.2,by rw[dd f,←g]⟩
theorem Cm.DF(h:Cm c w v X Djq)(f:X[k]?=some (b,lv,m)):DG c w [61] (Bz v 3 (k:Int).toNat) [.bool b,lv, .map (some m)]:=by
 obtain⟨O,g⟩:=kJ.1 f;have:=h.own.elem Re AO O;rw[g] at this;exact this
theorem Cm.row(h:Cm c w v X Djq)(g:X[k]?=some (b,lv,m))(f:Djq[k]?=some x):AJ c w 62 9 1 lv x.l.length (x.l.map St):=h.rows.row k lv x.l (by simp[g]) (by simp[f])
theorem Cm.map(h:Cm c w v X Djq)(g:X[k]?=some (b,lv,m))(f:Djq[k]?=some x):Ly c w 63 m x.cache:=h.maps.row k m x.cache (by simp[g]) (by simp[f])
theorem Cm.gv(h:Cm c w v X Djq)(l:X[k]?=some (b,lv,m))(f:Djq[k]?=some x){C:List FI}(r:Oe w' m C)(hg:w.grownBy w' (some m)):∃c',Mv c w c' w' [63]∧Cm c' w' v X (Djq.set k {x with cache:=C}):=by
 obtain⟨c',g,_⟩:=Mv.grown (i:=63) c 63 hg (fun j o=>by cases o;exact(h.map l f).BF);have p:=(h.map l f).obj.lt;refine⟨c',g,?_,h.own.D g,?_,?_⟩
 ·rw[Ed _ f (by rfl)];exact h.liveQ
 ·rw[Ed _ f (by rfl)];exact h.rows.D g
 rw[Ab0];exact h.maps.put (by simp[l]) ⟨r,(g.BF m p).trans (h.map l f).BF⟩ hg g.BF
theorem Cm.qf(h:Cm c w v X Djq)(p:X[k]?=some (b,lv,m))(g:Djq[k]?=some x){l:List FI}(t:CJ w' 0 9 1 lv l.length (l.map St))(hg:w.grownBy w' lv.rowOf):∃c',Mv c w c' w' [62]∧Cm c' w' v X (Djq.set k {x with l:=l}):=by
 have o:=h.row p g;obtain⟨c',f,_⟩:=Mv.grown (i:=62) c 62 hg o.BF;refine⟨c',f,?_,h.own.D f,?_,?_⟩
 ·rw[Ed _ g (by rfl)];exact h.liveQ
 ·rw[Ab0];exact h.rows.put (by simp[p]) ⟨t,fun j r=>(f.BF j (o.own.lt j r).2).trans (o.BF j r)⟩ hg f.BF
 rw[Ed _ g (by rfl)];exact h.maps.D f
variable {P:Program} {env:Env} {ty:TypeId}
theorem Zj{e:TypeId}{x1 y:Operand}(hT:Pu P d A e)(h:Cm c w v X Djq)(g:X[k]?=some (b,lv,m))(o:Djq[k]?=some x)(r:BY env f=some (.map (some m))){j:Nat}{s:FI}(hx:BY env x1=some (I j))(hy:BY env y=some (St s))(p:j<x.cache.length)(hC:x.cache.length≤9223372036854775807)(hs:s≠[]):
 Hh P env w (.mapUpdate d f x1 y) ty (fun _ w'=>∃c',Mv c w c' w' [63]∧Cm c' w' v X (Djq.set k {x with cache:=x.cache.set j s})):=
 (aO hT r (h.map g o).obj hx hy p hC hs).mono fun _ _ ⟨i,l⟩=>h.gv g o i l
theorem Va{e:TypeId}(hT:Pu P d A e)(h:Cm c w v X Djq)(g:X[k]?=some (b,lv,m))(o:Djq[k]?=some x)(l:BY env f=some (.map (some m))):
 Hh P env w (.call ⟨.builtin .clear,#[f],#[d]⟩) ty (fun _ w'=>∃c',Mv c w c' w' [63]∧Cm c' w' v X (Djq.set k {x with cache:=replicate x.cache.length []})):=
 (aP hT l (h.map g o).obj).mono fun _ _ ⟨i,j⟩=>h.gv g o i j
theorem Vb{y:Operand}{s:FI}(ht:FB P d=true)(h:Cm c w v X Djq)(g:X[k]?=some (b,lv,m))(x1:Djq[k]?=some x)(hx:BY env f=some (.pointer (some (Bz lv 1 n))))(hy:BY env y=some (St s))(p:n<x.l.length):
 Hh P env w (.store d f y) ty (fun _ w'=>∃c',Mv c w c' w' [62]∧Cm c' w' v X (Djq.set k {x with l:=x.l.set n s})):=
 (Po ht (h.row g x1).own p hx hy Z Z).mono fun _ _ ⟨i,o,_⟩=>h.qf g x1 (by rw[Yy,Ab0];exact i) o
theorem Rf{x1 y:Operand}{x':UW}(ht:IM P d=some 3)(h:Cm c w v X Djq)(O:k<Djq.length)(hx:BY env x1=some (.pointer (some (Bz v 3 k))))(hy:BY env y=some (.agg #[.bool B,a, .map (some n)]))
 (C:x'.liveQ=B)(r:AJ c w 62 9 1 a x'.l.length (x'.l.map St))(I:Ly c w 63 n x'.cache)(J:∀(j:Nat) (u:Value) (l:List FI) (b:Nat),(X.map (·.2.1))[j]?=some u→(Djq.map (·.l))[j]?=some l→u.rowOf=some b→a.rowOf≠some b)(R:∀u∈X.map (·.2.2),n≠u):
 Hh P env w (.store d x1 y) ty (fun _ w'=>∃c',Mv c w c' w' [61]∧Cm c' w' v (X.set k (B,a,n)) (Djq.set k x')):=
 (Jc ht h.own (by rw[h.len];exact O) hx (cs:=bl (B,a,n)) hy Z (by intro u hu;simp[bl] at hu;rcases hu with rfl|rfl|rfl<;>first|rfl|exact r.AD)).mono fun _ _ ⟨c',o,p⟩=>by
  rw[LR Re X k (by rw[h.len];exact O)] at p;refine⟨c',o,?_,by rw[Yy];exact p,?_,?_⟩
  ·rw[Ab0,Ab0,h.liveQ,C]
  ·rw[Ab0,Ab0];exact(h.rows.uu r J).D o
  rw[Ab0,Ab0];exact(h.maps.uu I R).D o
theorem iA{X:List DX}{k:Nat}{b:Bool}{lv:Value}{m:Nat}(f:X[k]?=some (b,lv,m)):(X.flatMap bl).set (k*3) (.bool false)=(X.set k (false,lv,m)).flatMap bl:=by
 induction X generalizing k with
 |nil=>simp at f
 |cons a r g=>cases k with
  |zero=>simp at f;subst f;simp[bl]
  |succ k=>
   have:=g (k:=k) (by simpa using f);rw[List.set_cons_succ,Aaa,Aaa,←this,Adm _ _ (by rw[Re];omega),Re];congr 2;omega
theorem Zk{x1:Operand}{o:Nat}(ht:FB P d=true)(h:Cm c w v X Djq)(y:X[k]?=some (b,lv,m))(l:Djq[k]?=some x)(hv:v= .slice (some ⟨n,0,none⟩) i o)(hx:BY env x1=some (.pointer (some ⟨n,k*3,none⟩)))(hy:BY env f=some (.bool false)):
 Hh P env w (.store d x1 f) ty (fun _ w'=>∃c',Mv c w c' w' [61]∧Cm c' w' v (X.set k (false,lv,m)) (Djq.set k {x with liveQ:=false})):=
 (Dv ht h.own hv (by have:=(kJ.1 y).1;omega) hx hy Z Z).mono fun _ _ ⟨c',p,j⟩=>by
  rw[iA y] at j;refine⟨c',p,?_,by rw[Yy];exact j,?_,?_⟩
  ·rw[Ab0,Ab0,h.liveQ]
  ·rw[Ed _ y (by rfl),Ed _ l (by rfl)];exact h.rows.D p
  rw[Ed _ y (by rfl),Ed _ l (by rfl)];exact h.maps.D p
def BW(c:Nat→Nat)(w:World)(p:Nat)(A:CS):Prop:=∃v X,AI c w 60 p [v,I A.CU, .bool A.off,I A.left,I A.BC] 88∧Cm c w v X A.d
abbrev BX:List Nat:=[60,61,62,63]
theorem BW.D(h:BW c w n F)(m:Mv c w c' w' K:=by exact Go.Eng.KU)(f:AU K 60=false:=by rfl)(g:AU K 61=false:=by rfl)(i:AU K 62=false:=by rfl)(j:AU K 63=false:=by rfl):BW c' w' n F:=by
 obtain⟨v,X,a,b⟩:=h;exact⟨v,X,a.D m f,b.D m g i j⟩
theorem Ly.Dt{J:List Nat}{b:Nat}{C:List FI}(h:Ly c w i b C)(hi:AU J i=true):Ly (Bw c J) w i b C:=⟨h.obj,by rw[KN (by rw[h.BF];exact hi)];exact h.BF⟩
theorem FU.Dt{J:List Nat}{vs:List Value}{L:List (List FI)}(h:FU c w i d vs L)(hi:AU J i=true):FU (Bw c J) w i d vs L:=⟨h.len,fun j v l f g=>(h.row j v l f g).Dt hi,h.apart⟩
theorem FV.Dt{J:List Nat}{L:List (List FI)}(h:FV c w i e L)(hi:AU J i=true):FV (Bw c J) w i e L:=⟨h.len,fun j v l f g=>(h.row j v l f g).Dt hi,h.apart⟩
theorem Ly.out{b:Nat}{C:List FI}(f:Ly c w i b C)(w0:BE j h e c w)(hi:(Nat.blt 0 i&&AU e i)=true):Ly (back j h c) w i b C:=by
 rw[kg] at hi;exact⟨f.obj,QY w0 hi.2 (by have:=Aat hi.1;omega) f.BF⟩
theorem FU.out{vs:List Value}{L:List (List FI)}(f:FU c w i d vs L)(w0:BE j h e c w)(hi:(Nat.blt 0 i&&AU e i)=true):FU (back j h c) w i d vs L:=⟨f.len,fun c0 v l g o=>(f.row c0 v l g o).out w0 hi,f.apart⟩
theorem FV.out{ms:List Nat}{L:List (List FI)}(f:FV c w i ms L)(w0:BE j h e c w)(hi:(Nat.blt 0 i&&AU e i)=true):FV (back j h c) w i ms L:=⟨f.len,fun c0 v l g o=>(f.row c0 v l g o).out w0 hi,f.apart⟩
theorem Cm.Dt(h:Cm c w v X Djq):Cm (Bw c BX) w v X Djq:=⟨h.liveQ,h.own.Dt Z,h.rows.Dt Z,h.maps.Dt Z⟩
theorem Cm.out(f:Cm c w v X Djq)(w0:BE j h BX c w):Cm (back j h c) w v X Djq:=⟨f.liveQ,f.own.out w0 Z,f.rows.out w0 Z,f.maps.out w0 Z⟩
theorem BW.Dt(h:BW c w n F):BW (Bw c BX) w n F:=by
 obtain⟨v,X,a,b⟩:=h;exact⟨v,X,a.Dt Z,b.Dt⟩
theorem BW.out(f:BW c w n F)(w0:BE j h BX c w):BW (back j h c) w n F:=by
 obtain⟨v,X,a,b⟩:=f;exact⟨v,X,a.out w0 Z,b.out w0⟩
end
structure DD (c0:Nat→Nat) (w0:World) (J:List Nat) (c:Nat→Nat) (w:World):Prop where
 below:AZ w0 w
 BF:∀k,k<w0.heap.size→c k=Bw c0 J k
theorem DD.start(c0:Nat→Nat)(w0:World)(J:List Nat):DD c0 w0 J (Bw c0 J) w0:=⟨Aar _ _,fun _ _=>rfl⟩
theorem DD.D{c0 c:Nat→Nat}{w:World}{I:List Nat}(w0:DD c0 h e c w)(m:Mv c w c' w' I:=by exact Go.Eng.KU)(f:AU I 0=false:=by rfl)(hJ:BB e I=true:=by rfl):DD c0 h e c' w':=by
 have hs:=w0.below.size;refine⟨⟨m.os.trans w0.below.os,m.tape.trans w0.below.tape,m.output.trans w0.below.output,rX hs m.size,fun k O=>?_⟩,fun k O=>(m.BF k (Aaq O hs)).trans (w0.BF k O)⟩;refine(m.block k (Aaq O hs) ?_).trans (w0.below.block k O);rw[w0.BF k O];unfold Bw;split
 ·rename_i hh;exact Fs hJ hh
 exact f
theorem HH(O:k<F.d.length):F.d[k]?=some (Eb F k):=by
 simp[Eb,O]
theorem Rg{s:Int}:Ph F p s=true↔PO F p=true∧0≤s∧s<F.CU:=by simp[Ph]
theorem bm:PO F p=true↔0≤p∧p<F.d.length:=by simp[PO]
theorem Xs{s:Int}(h:(PO F p=false∨s<0)∨(F.CU:Int)≤s):Ph F p s=false:=by
 cases hx:Ph F p s with
 |false=>rfl
 |true=>
  obtain⟨a,b,e⟩:=Rg.1 hx;rcases h with(h|h)|h
  ·rw[a] at h;cases h
  ·omega
  ·omega
theorem gw{s:Int}(h:Ph F p s=true):∃k j:Nat,p=k∧s=j∧k<F.d.length∧j<F.CU:=by
 obtain⟨a,b,e⟩:=Rg.1 h;obtain⟨f,g⟩:=bm.1 a;exact⟨p.toNat,s.toNat,G,G,G,G⟩
theorem Zl(h:PO F p=true):∃k:Nat,p=k∧k<F.d.length:=by
 obtain⟨f,g⟩:=bm.1 h;exact⟨p.toNat,G,G⟩
theorem AJ.yP{l:List FI}(h:AJ c w i d 1 a l.length (l.map St)){j:Nat}(f:j<l.length):DG c w [i] (Bz a 1 j) [St (tx l j)]:=by
 have o:AJ c w i d 1 a l.length (l.flatMap fun x=>[St x]):=by
  have g:∀l:List FI,(l.flatMap fun x=>[St x])=l.map St:=fun l=>by induction l with
   |nil=>rfl
   |cons v r p=>rw[Aaa,p];rfl
  rw[g];exact h
 have:=o.elem (fun _=>rfl) AO f;rw[Zf f];exact this
section
variable {c:Nat→Nat} {w:World} {p:Nat} {A:CS} {d:Int}
theorem Si(h:BW c w p A):Calls QP 29 #[.pointer (some ⟨p,0,none⟩),I d] w (Bt fun u w'=>AZ w w'∧u= .bool (PO A d)):=by
 obtain⟨v,X,g,f⟩:=h;have i:=DD.start c w BX;replace g:=g.Dt (J:=BX) Z;replace f:=f.Dt;obtain⟨j,cp,rfl,l,o⟩:=f.form;generalize Bw c BX=c0 at i g f;refine AY 16 #[.tmp 4] func29 Z<|Q<|V Z<|Q<|M Z<|E (Dh Z Z)<|M Z ?_;apply AW true 7 _ CK
 ·intro r;refine wo<|M Z<|wo<|M Z<|wo<|E (Ak Z)<|wo<|E (Aa GH Z)<|wo<|E (Al Lk Z g.AE Z)<|wo<|E (BN PD) ?_;refine wo<|E (AX Z Z) ?_;exact EQ 7
 refine V Z<|Af Z Z ?_;exact⟨i.below,by simp[PO]⟩
theorem GZ(h:BW c w p A):Calls QP 56 #[.pointer (some ⟨p,0,none⟩)] w (Bt fun u w'=>AZ w w'∧u=I A.d.length):=by
 obtain⟨v,X,g,f⟩:=h;have i:=DD.start c w BX;replace g:=g.Dt (J:=BX) Z;replace f:=f.Dt;obtain⟨j,cp,rfl,l,o⟩:=f.form;generalize Bw c BX=c0 at i g f;refine AY 8 #[.tmp 2] func56 Z<|Q<|V Z<|Q<|M Z<|E (Ak Z)<|E (Aa GH Z)<|E (Al Lk Z g.AE Z)<|E (BN PD) ?_;refine V Z<|Af Z Z ?_;exact⟨i.below,Z⟩
theorem SY(h:BW c w p A):Calls QP 72 #[.pointer (some ⟨p,0,none⟩)] w (Bt fun u w'=>AZ w w'∧u=I A.CU):=by
 obtain⟨v,X,f,i⟩:=h;have g:=DD.start c w BX;replace f:=f.Dt (J:=BX) Z;generalize Bw c BX=c0 at g f;refine AY 7 #[.tmp 2] func72 Z<|Q<|V Z<|Q<|M Z<|E (Ak Z)<|E (Aa QB Z)<|E (Al AF Z f.AE Z)<|V Z<|Af Z Z ?_;exact⟨g.below,Z⟩
theorem bn(h:BW c w p A):Calls QP 158 #[.pointer (some ⟨p,0,none⟩)] w (Bt fun u w'=>AZ w w'∧u=I A.BC):=by
 obtain⟨v,X,f,i⟩:=h;have g:=DD.start c w BX;replace f:=f.Dt (J:=BX) Z;generalize Bw c BX=c0 at g f;refine AY 7 #[.tmp 2] func158 Z<|Q<|V Z<|Q<|M Z<|E (Ak Z)<|E (Aa YK Z)<|E (Al AF Z f.AE Z)<|V Z<|Af Z Z ?_;exact⟨g.below,Z⟩
theorem Rh(h:BW c w p A):Calls QP 57 #[.pointer (some ⟨p,0,none⟩),I d] w (Bt fun u w'=>AZ w w'∧u= .bool (BG A d)):=by
 have g:=h;obtain⟨v,X,i,f⟩:=h;have j:=DD.start c w BX;replace i:=i.Dt (J:=BX) Z;replace f:=f.Dt;replace g:=g.Dt;obtain⟨l,cp,rfl,l,l⟩:=f.form;generalize Bw c BX=c0 at j i f g;refine AY 18 #[.tmp 4] func57 Z<|Q<|V Z<|Q<|M Z<|M Z<|ve (Ac c0 1 (Ab hW Z (Si g))) ?_;rintro g w1 ⟨c1,g,l,rfl⟩;refine M Z ?_;apply AW true 8 (Eb A d.toNat).liveQ CK
 ·intro l;obtain⟨k,rfl⟩:∃k:Nat,d=k:=⟨d.toNat,by simp[PO] at l;omega⟩;have O:k<A.d.length:=by simp[PO] at l;omega
  obtain⟨lv,m,l⟩:=(f.D g).at_ (HH O);have o:=(f.D g).len;have o:=(f.D g).DF l;refine wo<|M Z<|wo<|E (Ak Z)<|wo<|E (Aa GH Z)<|wo<|E (Al Lk Z i.D.AE Z)<|wo<|M Z<|wo<|E (BS PD f.D.own Z Z G G)<|wo<|E (Bn TM Z)<|wo<|E (FF IW Z o.DF Z) ?_;exact EQ 8
 refine V Z<|Af Z Z ?_;exact⟨j.D.below,Z⟩
theorem Zm(h:BW c w p A)(O:k<A.d.length):Calls QP 197 #[.pointer (some ⟨p,0,none⟩),I k] w (Bt fun u w'=>AZ w w'∧u=I (TD A k)):=by
 obtain⟨v,X,g,f⟩:=h;have i:=DD.start c w BX;replace g:=g.Dt (J:=BX) Z;replace f:=f.Dt;obtain⟨lv,m,r⟩:=f.at_ (HH O);obtain⟨t,cp,rfl,R,U⟩:=f.form;have C:=f.len;have o:=f.DF r;generalize Bw c BX=c0 at i g f o;refine AY 20 #[.tmp 4] func197 Z<|Q<|V Z<|Ag<|An<|Q<|M Z<|E (Ak Z)<|E (Aa fM Z)<|E (Al IW Z g.AE Z)<|V Z<|BA Z (fun j=>?_) fun j=>?_
 ·refine Q<|V Z ?_;refine Af Z Z ?_;exact⟨i.below,by simp[TD,j]⟩
 refine Q<|M Z<|E (Ak Z)<|E (Aa GH Z)<|E (Al Lk Z g.AE Z)<|M Z<|E (BS PD f.own Z Z G G)<|E (Bn TM Z) ?_;refine E (FF IW Z o.DF Z)<|E (BL Z)<|V Z<|BA Z (fun l=>?_) fun l=>?_
 ·refine Q<|V Z ?_;refine Af Z Z ?_;exact⟨i.below,by simp[TD,j,l]⟩
 refine As<|Q<|V Z<|Af Z Z ?_;exact⟨i.below,by simp[TD,j,l]⟩
theorem Ri(h:BW c w p A)(R:SX A){s:Int}:Calls QP 122 #[.pointer (some ⟨p,0,none⟩),I d,I s] w (Bt fun u w'=>AZ w w'∧u= .tuple #[St (Bp A d s).1,I (Bp A d s).2]):=by
 have l:=h;obtain⟨v,X,g,f⟩:=h;have o:=DD.start c w BX;replace g:=g.Dt (J:=BX) Z;replace f:=f.Dt;replace l:=l.Dt;obtain⟨i,cp,rfl,i,i⟩:=f.form;have i:=f.len;generalize Bw c BX=c0 at o g f l;refine AY 59 #[.tmp 6, .tmp 7] func122 Z<|Q<|za Z<|V Z<|Ag<|Q<|M Z<|M Z<|ve (Ac c0 1 (Ab hW Z (Si l))) ?_;rintro i w1 ⟨c1,r,i,rfl⟩;refine E (BL Z)<|M Z ?_;apply AW false 2 _ CK
 ·intro i;refine wo<|M Z<|wo<|E (AX Z Z) ?_;exact EQ 2
 refine M Z ?_;apply AW false 6 _ CK
 ·intro i;refine wo<|M Z<|wo<|M Z<|wo<|E (Ak Z)<|wo<|E (Aa QB Z)<|wo<|E (Al AF Z g.D.AE Z)<|wo<|E (Dh Z Z) ?_;exact EQ 6
 refine Ah<|BA Z (fun t=>?_) fun t=>?_
 ·have i:Ph A d s=false:=Xs t;refine Q<|za Z<|V Z<|BR Z Z Z ?_;exact⟨o.D.below,by simp[Bp,i]⟩
 have i:Ph A d s=true:=Rg.2 ⟨t.1.1,G,G⟩;obtain⟨k,j,rfl,rfl,O,t⟩:=gw i
 have hx:=R.each _ (Lx (HH O));obtain⟨lv,m,C⟩:=(f.D r).at_ (HH O);refine As<|Ag<|Q<|M Z<|M Z<|ve (Ac c1 1 (Ab lF Z (Zm l.D O))) ?_;rintro l w2 ⟨c2,t,l,rfl⟩;refine V Z<|Q<|M Z<|E (BK Z Z)<|Ah<|BA Z (fun l=>?_) fun l=>?_
 ·refine Q<|M Z<|za Z<|V Z ?_;refine BR Z Z Z ?_;exact⟨o.D.below,by simp[Bp,i,l]⟩
 have U:=((f.D r).D t).DF C;have a1:=U;have a6:=((f.D r).D t).map C (HH O);have hl:=((f.D r).D t).row C (HH O);have r:=R.sec;have r:=hx.lc;have r:=hx.ll;have t:=hl.yP (j:=(j:Int).toNat) G;refine As<|Ag<|Q<|M Z<|E (Ak Z)<|E (Aa GH Z)<|E (Al Lk Z g.D.AE Z)<|M Z<|E (BS PD f.D.own Z Z G G)<|E (Bn TN Z)<|E (FF fX Z U.DF Z)<|M Z<|E (yJ qd Z a6.obj Z G G)<|M Z<|E (Aq Z Z)<|E (Aq Z Z)<|za Z ?_;refine V Z<|Q<|M Z<|Ah<|BA Z (fun r=>?_) fun r=>?_
 ·refine Q<|M Z<|za Z<|V Z ?_;refine BR Z Z Z ?_;exact⟨o.D.below,by simp[Bp,i,l];intro e;rw[e] at r;simp at r⟩
 refine As<|Q<|M Z<|E (Ak Z)<|E (Aa GH Z)<|E (Al Lk Z g.D.AE Z)<|M Z<|E (BS PD f.D.own Z Z G G) ?_;refine E (Bn fK Z)<|E (FF Eh Z a1.DF Z)<|M Z<|E (BS Ch hl Z Z G G)<|E (Cc CQ Z t.DF)<|za Z<|V Z ?_;refine BR Z Z Z ?_;exact⟨o.D.below,by simp[Bp,i,l];intro e;exact absurd (List.isEmpty_iff.1 r) e⟩
end
def Kk(l C:List FI):List Nat→List FI
 |[]=>l
 |j::r=>Kk (l.set j (tx C j)) C r
theorem OQ(C:List FI):∀(r:List Nat) (l:List FI),(Kk l C r).length=l.length
 |[],l=>rfl
 |j::r,l=>by rw[Kk,OQ C r,Yy]
theorem Vc(C:List FI)(j:Nat):∀(r:List Nat) (l:List FI),Kk l C (r++[j])=(Kk l C r).set j (tx C j)
 |[],l=>rfl
 |i::r,l=>by rw[Adz,Kk,Kk,Vc C j r]
theorem bo(C:List FI)(i:Nat):∀(r:List Nat) (l:List FI),(∀j∈r,j<l.length)→tx (Kk l C r) i=if i∈r then tx C i else tx l i
 |[],l,_=>by simp[Kk]
 |j::r,l,h=>by
  rw[Kk,bo C i r _ fun p o=>by rw[Yy];exact h p (by simp[o]),JD (h j Bb)];by_cases f:i∈r
  ·simp[f]
  ·by_cases g:i=j
   ·subst g;simp[f]
   ·simp[f,g]
theorem uw{l l':List FI}(h:l.length=l'.length)(i:∀k,k<l.length→tx l k=tx l' k):l=l':=by
 refine Ab6 h fun k f g=>?_;have:=i k f;rwa [Zf f,Zf g] at this
theorem Vd(l C:List FI):(over l C).length=l.length:=by simp[over]
theorem Zn{l C:List FI}(O:k<l.length):tx (over l C) k=if tx C k=[] then tx l k else tx C k:=by
 rw[Zf (by rw[Vd];exact O)];simp[over]
theorem iB{l C:List FI}(hl:C.length≤l.length)(f:∀k∈e,tx C k≠[])(g:∀k,tx C k≠[]→k∈e):Kk l C e=over l C:=by
 have p:∀j∈e,j<l.length:=fun j i=>Aaq (gk (f j i)) hl;refine uw (by rw[OQ,Vd]) fun k O=>?_;rw[OQ] at O;rw[bo C k e l p,Zn O];by_cases h:k∈e
 ·rw[zm h,ss (f k h)]
 rw[ss h,zm (Afn fun o=>h (g k o))]
section
variable {c:Nat→Nat} {w:World} {p:Nat} {A:CS} {d:Int}
theorem SZ(h:BW c w p A)(j:A.BC≤4611686018427387904)(l:-1≤A.left)(o:A.left≤9223372036854775807):Calls QP 247 #[.pointer (some ⟨p,0,none⟩)] w (Bt fun _ w'=>∃c',Mv c w c' w' BX∧BW c' w' p (Ll A)):=by
 obtain⟨v,X,f,g⟩:=h;have hJ:=BE.start c w BX;replace f:=f.Dt (J:=BX) Z;replace g:=g.Dt;have I:=g.AD;have R:=g.AA;generalize Bw c BX=c0 at hJ f g;refine AY 29 #[] func247 Z<|Q<|M Z<|E (Ak Z)<|E (Aa YK Z)<|E (Al AF Z f.AE Z)<|E (Bc Z Z Ai Ai)<|E (Ak Z)<|E (Aa YK Z) ?_;refine Av (Ap AF Z Z ra ra f Z) ?_;rintro _ w1 ⟨f,r⟩;refine Ah<|Q<|M Z<|E (Ak Z)<|E (Aa TO Z)<|E (Al AF Z f.AE Z)<|E (CM Z Z)<|Ah<|BA Z (fun i=>?_) fun i=>?_
 ·refine Q<|M Z<|E (Ak Z)<|E (Aa TO Z)<|E (Al AF Z f.AE Z)<|E (Gu Z Z Ai Ai)<|E (Ak Z)<|E (Aa TO Z) ?_;refine Av (Ap AF Z Z ra ra f Z) ?_;rintro _ w2 ⟨f,t⟩;refine Ah<|cg<|M Z<|M Z<|E (Ak Z)<|E (Aa TO Z)<|E (Al AF Z f.AE Z)<|E (BO Z Z)<|E (Ak Z)<|E (Aa fM Z)<|Av (Ap IW Z Z ra ra f Z) ?_;rintro _ U ⟨f,C⟩;refine Ah<|⟨_,_,Z,Z,?_⟩;refine⟨Z,_,hJ.D.out,v,X,?_,g.D.out hJ.D⟩;rw[Ll,zm G,zm G];exact f.out hJ.D Z
 refine As<|⟨_,_,Z,Z,?_⟩;refine⟨Z,_,hJ.D.out,v,X,?_,g.D.out hJ.D⟩;rw[Ll,ss G,ss G];exact f.out hJ.D Z
theorem Xt(h:BW c w p A)(R:SX A){s:Int}{t:FI}:Calls QP 177 #[.pointer (some ⟨p,0,none⟩),I d,I s,St t] w (Bt fun u w'=>∃c',Mv c w c' w' BX∧BW c' w' p (Er A d s t).1∧u=I (Er A d s t).2):=by
 have l:=h;obtain⟨v,X,o,f⟩:=h;have hJ:=BE.start c w BX;replace o:=o.Dt (J:=BX) Z;replace f:=f.Dt;replace l:=l.Dt;obtain⟨g,cp,rfl,g,g⟩:=f.form;have g:=f.len;generalize Bw c BX=c0 at hJ o f l;refine AY 49 #[.tmp 8] func177 Z<|Q<|V Z<|Ag<|An<|Q<|M Z<|M Z<|ve (Ac c0 1 (Ab hW Z (Si l))) ?_;rintro g w1 ⟨c1,g,i,rfl⟩;refine E (BL Z)<|M Z ?_;apply AW false 2 _ CK
 ·intro i;refine wo<|M Z<|wo<|E (AX Z Z) ?_;exact EQ 2
 refine M Z ?_;apply AW false 6 _ CK
 ·intro i;refine wo<|M Z<|wo<|M Z<|wo<|E (Ak Z)<|wo<|E (Aa QB Z)<|wo<|E (Al AF Z o.D.AE Z)<|wo<|E (Dh Z Z) ?_;exact EQ 6
 refine V Z<|BA Z (fun r=>?_) fun r=>?_
 ·have i:Ph A d s=false:=Xs r;refine Q<|V Z<|Af Z Z ?_;exact⟨_,hJ.D.out,by simpa[Er,i] using(l.D g).out (hJ.D g),by simp[Er,i]⟩
 have i:Ph A d s=true:=Rg.2 ⟨r.1.1,G,G⟩;obtain⟨k,j,rfl,rfl,O,r⟩:=gw i
 have hx:=R.each _ (Lx (HH O));obtain⟨lv,m,U⟩:=(f.D g).at_ (HH O);refine Q<|M Z<|E (Ey underlying9 Z)<|E (BK Z Z)<|V Z<|BA Z (fun r=>?_) fun r=>?_
 ·have ht:t.length≠64:=G;refine Q<|V Z<|Af Z Z ?_;exact⟨_,hJ.D.out,by simpa[Er,i,ht] using(l.D g).out (hJ.D g),by simp[Er,i,ht]⟩
 have ht:t.length=64:=G;refine As<|Ag<|Q<|M Z<|M Z<|ve (Ac c1 1 (Ab lF Z (Zm l.D O))) ?_;rintro r w2 ⟨c2,r,C,rfl⟩;refine V Z<|Q<|M Z<|E (BK Z Z)<|Ah<|BA Z (fun C=>?_) fun C=>?_
 ·refine Q<|M Z<|V Z ?_;refine Af Z Z ?_;exact⟨_,hJ.D.out,by simpa[Er,i,ht,C] using((l.D g).D r).out ((hJ.D g).D r),by simp[Er,i,ht,C]⟩
 have l:=((f.D g).D r).DF U;have a1:=R.sec;have a1:=hx.lc;have a8:=R.Mt;have a1:=R.left;refine As<|Q<|M Z<|E (Ak Z)<|E (Aa GH Z)<|E (Al Lk Z o.D.AE Z)<|M Z<|E (BS PD f.D.own Z Z G G) ?_;refine E (Bn TN Z)<|E (FF fX Z l.DF Z)<|M Z<|M Z ?_;refine Av ((Zj (j:=j) (s:=t) qd f.D U (HH O) Z Z Z G G (by intro e;rw[e] at ht;cases ht))) ?_;rintro _ a7 ⟨a6,U,f⟩;have l:BW a6 a7 p (Ms A k {Eb A k with cache:=(Eb A k).cache.set j t}):=⟨_,X,(((o.D g).D r).D U),f⟩;refine Ah<|Q<|M Z<|ve (Ab sJ Z (SZ l a8 a1.1 a1.2)) ?_;rintro f f ⟨f,f,l⟩;refine Ah<|Q<|V Z<|Af Z Z ?_;exact⟨_,hJ.D.out,by simpa[Er,i,ht,C] using l.out ((((hJ.D g).D r).D U).D f),by simp[Er,i,ht,C]⟩
end
theorem Rj(B:CS)(k:Nat)(x:UW):(Ms B k x).d.length=B.d.length:=Yy
theorem Kl{x:UW}(O:k<F.d.length):Eb (Ms F k x) m=if m=k then x else Eb F m:=by
 by_cases h:m=k
 ·subst h;rw[zm Z];simp[Eb,Ms,O]
 ·rw[ss h];simp only[Eb,Ms,hk];rw[Ac1 (fun e=>h e.symm)]
theorem qg{x:UW}(h:x∈F.d):∃k,k<F.d.length∧Eb F k=x:=by
 obtain⟨k,O⟩:=Aba h;obtain⟨f,g⟩:=kJ.1 O;exact⟨k,f,by simp[Eb,hk,O]⟩
theorem Oj(n:Nat):dy n (Ep n):=⟨Iz,Iz,fun k O=>by simp[Ep,tx,hk,O],fun k=> .inl (by
 simp only[Ep,tx,hk,Ady];split<;>rfl)⟩
theorem dy.liveQ{n:Nat}{x:UW}(h:dy n x)(b:Bool):dy n {x with liveQ:=b}:=⟨h.ll,h.lc,h.tl,h.tc⟩
theorem dy.aaz{x:UW}(h:dy n x){t:FI}(f:k<n)(ht:t.length=64):dy n {x with cache:=x.cache.set k t}:=
 ⟨h.ll,by rw[Yy];exact h.lc,h.tl,fun j=>by
  rw[JD (by rw[h.lc];exact f)];split
  ·exact .inr ht
  ·exact h.tc j⟩
theorem Zo(n k:Nat):tx (replicate n ([]:FI)) k=[]:=by
 simp only[tx,hk,Ady];split<;>rfl
theorem dy.flush{x:UW}(h:dy n x):dy n (Kz x):=by
 refine⟨by rw[Kz];dsimp only;rw[Vd];exact h.ll,by rw[Kz];dsimp only;rw[List.length_replicate];exact h.lc,fun k O=>?_,fun k=> .inl (Zo _ _)⟩;rw[Kz];dsimp only;rw[Zn (by rw[h.ll];exact O)];split
 ·exact h.tl k O
 rename_i f;exact(h.tc k).resolve_left f
structure GR (n m:Nat) (A:CS):Prop where
 len:A.d.length=n
 sec:A.CU=m
 on:A.off=false
 left:A.left=-1
 each:∀k,k<n→dy m (Eb A k)
section
variable {n m:Nat} {A:CS} {d s:Int} {t:FI}
theorem GR.wf(h:GR n m A)(g:0<n∧n≤12)(f:0<m∧m≤2048)(hc:A.BC≤4611686018427387904):SX A:=
 ⟨by rw[h.len];exact g,by rw[h.sec];exact f,fun x hx=>by
  obtain⟨k,O,rfl⟩:=qg hx;rw[h.sec];exact h.each k (by rw[←h.len];exact O),by rw[h.left];omega,hc⟩
theorem LV:PO A d=true↔0≤d∧d<A.d.length:=by simp[PO]
theorem LW:Ph A d s=true↔(0≤d∧d<A.d.length)∧0≤s∧s<A.CU:=by simp[Ph,LV]
theorem GR.may(h:GR n m A)(k:Nat):TD A k=if(Eb A k).liveQ then 0 else 8:=by simp[TD,h.on]
theorem GR.ea(h:GR n m A){x:UW}(O:k<n)(hx:dy m x):GR n m (Ms A k x):=
 ⟨by rw[Rj];exact h.len,h.sec,h.on,h.left,fun j f=>by
  rw[Kl (by rw[h.len];exact O)];split
  ·exact hx
  ·exact h.each j f⟩
theorem GR.gx(h:GR n m A):Ll A={A with BC:=A.BC+1}:=by
 rw[Ll,h.left];simp[h.left]
theorem GR.bump(h:GR n m A):GR n m {A with BC:=A.BC+1}:=⟨h.len,h.sec,h.on,h.left,h.each⟩
theorem GR.read(h:GR n m A):Bp A d s=if Ph A d s=true then if(Eb A d.toNat).liveQ=true then(if tx (Eb A d.toNat).cache s.toNat=[] then tx (Eb A d.toNat).l s.toNat else tx (Eb A d.toNat).cache s.toNat,0) else([],8) else([],3):=by
 rw[Bp,h.may];cases(Eb A d.toNat).liveQ<;>simp
theorem GR.qh(h:GR n m A)(f:(Bp A d s).2=0):(Bp A d s).1.length=64:=by
 rw[h.read] at f⊢;by_cases hi:Ph A d s=true
 ·rw[zm hi] at f⊢;obtain⟨⟨o,i⟩,p,j⟩:=LW.1 hi;rw[h.len] at i;rw[h.sec] at j;split at f
  ·rename_i hl;rw[if_pos hl];have g:=h.each d.toNat G;dsimp only;split
   ·exact g.tl _ G
   ·rename_i l;exact(g.tc _).resolve_left l
  ·simp at f
 ·rw[ss hi] at f;simp at f
theorem GR.write(h:GR n m A)(ht:t.length=64):GR n m (Er A d s t).1∧(Er A d s t).1.BC≤A.BC+1∧(∀k,BG (Er A d s t).1 k=BG A k)∧
 (Er A d s t).2=(if Ph A d s=true then if(Eb A d.toNat).liveQ=true then 0 else 8 else 3)∧∀f s',Bp (Er A d s t).1 f s'=if(Er A d s t).2=0∧f=d∧s'=s then(t,0) else Bp A f s':=by
 have I:t≠[]:=fun e=>by rw[e] at ht;simp at ht
 by_cases hi:Ph A d s=true
 ·by_cases hl:(Eb A d.toNat).liveQ=true
  ·obtain⟨⟨g,g⟩,i,i⟩:=LW.1 hi;have l:d.toNat<n:=by rw[h.len] at g;omega
   have o:s.toNat<m:=by rw[h.sec] at i;omega
   have r:=h.each d.toNat l;have p:=h.ea (x:={Eb A d.toNat with cache:=(Eb A d.toNat).cache.set s.toNat t}) l (r.aaz o ht);obtain⟨B,g⟩:∃B:CS,B={Ms A d.toNat {Eb A d.toNat with cache:=(Eb A d.toNat).cache.set s.toNat t} with BC:=A.BC+1}:=⟨_,Z⟩;have e:Er A d s t=(B,0):=by
    rw[Er,zm hi,zm ht,h.may,zm hl,zm Z,p.gx,g];rfl
   have i:GR n m B:=by rw[g];exact p.bump
   have p:∀j,Eb B j=if j=d.toNat then{Eb A d.toNat with cache:=(Eb A d.toNat).cache.set s.toNat t} else Eb A j:=fun j=>by
    rw[g];exact Kl (by rw[h.len];exact l)
   have l:B.d.length=A.d.length:=by rw[i.len,h.len]
   have C:B.CU=A.CU:=by rw[i.sec,h.sec]
   rw[e];refine⟨i,by rw[g];exact kM _,fun k=>?_,by rw[zm hi,zm hl],fun f s'=>?_⟩
   ·rw[BG,BG,PO,PO,p,l];split
    ·rename_i g;rw[g]
    rfl
   have g:Ph B f s'=Ph A f s':=by rw[Ph,Ph,PO,PO,l,C]
   show Bp B f s'=if(0:Int)=0∧f=d∧s'=s then(t,0) else Bp A f s'
   rw[i.read,h.read,g,p];by_cases g:Ph A f s'=true
   ·obtain⟨⟨i,g2⟩,i,i⟩:=LW.1 g;rw[zm g,zm g];by_cases hd:f.toNat=d.toNat
    ·have i:f=d:=G;rw[if_pos hd];dsimp only;rw[if_pos hl,hd,if_pos hl,JD (by rw[r.lc];exact o)];by_cases hs:s'.toNat=s.toNat
     ·have l:s'=s:=G;rw[zm hs,ss I,zm ⟨Z,i,l⟩]
     rw[ss hs,ss (show¬((0:Int)=0∧f=d∧s'=s) from fun e=>hs (by rw[e.2.2]))]
    rw[ss hd,ss (show¬((0:Int)=0∧f=d∧s'=s) from fun e=>hd (by rw[e.2.1]))]
   rw[ss g,ss g,ss (fun e=>g (by rw[e.2.1,e.2.2];exact hi))]
  have e:Er A d s t=(A,8):=by
   rw[Er,zm hi,zm ht,h.may,ss hl];rfl
  rw[e];exact⟨h,Ae6 _,fun _=>rfl,by rw[zm hi,ss hl],fun f s'=>by rw[ss Bb]⟩
 have e:Er A d s t=(A,3):=by rw[Er,ss hi]
 rw[e];exact⟨h,Ae6 _,fun _=>rfl,by rw[ss hi],fun f s'=>by rw[ss Bb]⟩
theorem GR.flush(h:GR n m A):GR n m (Fj A d).1∧(Fj A d).1.BC≤A.BC+1∧(∀k,BG (Fj A d).1 k=BG A k)∧
 (Fj A d).2=(if PO A d=true then if(Eb A d.toNat).liveQ=true then 0 else 8 else 3)∧∀f s',Bp (Fj A d).1 f s'=Bp A f s':=by
 by_cases hi:PO A d=true
 ·by_cases hl:(Eb A d.toNat).liveQ=true
  ·obtain⟨g,g⟩:=LV.1 hi;have l:d.toNat<n:=by rw[h.len] at g;omega
   have p:=h.each d.toNat l;have o:=h.ea (x:=Kz (Eb A d.toNat)) l p.flush;obtain⟨B,g⟩:∃B:CS,B={Ms A d.toNat (Kz (Eb A d.toNat)) with BC:=A.BC+1}:=⟨_,Z⟩;have e:Fj A d=(B,0):=by
    rw[Fj,zm hi,h.may,zm hl,zm Z,o.gx,g];rfl
   have i:GR n m B:=by rw[g];exact o.bump
   have o:∀j,Eb B j=if j=d.toNat then Kz (Eb A d.toNat) else Eb A j:=fun j=>by
    rw[g];exact Kl (by rw[h.len];exact l)
   have l:B.d.length=A.d.length:=by rw[i.len,h.len]
   have r:B.CU=A.CU:=by rw[i.sec,h.sec]
   rw[e];refine⟨i,by rw[g];exact kM _,fun k=>?_,by rw[zm hi,zm hl],fun f s'=>?_⟩
   ·rw[BG,BG,PO,PO,o,l];split
    ·rename_i g;rw[g];rfl
    rfl
   have g:Ph B f s'=Ph A f s':=by rw[Ph,Ph,PO,PO,l,r]
   show Bp B f s'=Bp A f s'
   rw[i.read,h.read,g,o];by_cases g:Ph A f s'=true
   ·obtain⟨⟨i,g2⟩,i,i⟩:=LW.1 g;rw[h.sec] at i;rw[zm g,zm g];by_cases hd:f.toNat=d.toNat
    ·rw[zm hd,hd];have i:(Kz (Eb A d.toNat)).liveQ=(Eb A d.toNat).liveQ:=rfl;have l:tx (Kz (Eb A d.toNat)).cache s'.toNat=[]:=Zo _ _;have o:tx (Kz (Eb A d.toNat)).l s'.toNat=if tx (Eb A d.toNat).cache s'.toNat=[] then tx (Eb A d.toNat).l s'.toNat else tx (Eb A d.toNat).cache s'.toNat:=Zn (by rw[p.ll];omega)
     rw[i,l,zm Z,o]
    rw[ss hd]
   rw[ss g,ss g]
  have e:Fj A d=(A,8):=by rw[Fj,zm hi,h.may,ss hl];rfl
  rw[e];exact⟨h,Ae6 _,fun _=>rfl,by rw[zm hi,ss hl],fun _ _=>rfl⟩
 have e:Fj A d=(A,3):=by rw[Fj,ss hi]
 rw[e];exact⟨h,Ae6 _,fun _=>rfl,by rw[ss hi],fun _ _=>rfl⟩
theorem GR.ux(h:GR n m A):GR n m (Jp A d).1∧(Jp A d).1.BC≤A.BC:=by
 rw[Jp];split
 ·rename_i hi;obtain⟨g,f⟩:=LV.1 hi;rw[h.len] at f;exact⟨h.ea G (by rw[h.sec];exact(Oj m).liveQ _),kM _⟩
 ·exact⟨h,kM _⟩
theorem GR.replace(h:GR n m A):GR n m (Ec A d).1∧(Ec A d).1.BC≤A.BC:=by
 rw[Ec];split
 ·rename_i hi;obtain⟨g,f⟩:=LV.1 hi;rw[h.len] at f;exact⟨h.ea G (by rw[h.sec];exact Oj m),kM _⟩
 ·exact⟨h,kM _⟩
end
theorem mr:GR n m (Pg n m):=⟨Iz,rfl,rfl,rfl,fun k O=>by
 have e:Eb (Pg n m) k=Ep m:=by simp[Eb,Pg,hk,O]
 rw[e];exact Oj m⟩
theorem Ve(O:k<n):BG (Pg n m) k=true:=by
 have e:Eb (Pg n m) k=Ep m:=by simp[Eb,Pg,hk,O]
 rw[BG,TJ,e,kg,LV];refine⟨⟨G,?_⟩,Z⟩;rw[show(Pg n m).d.length=n from Iz];omega
theorem mu(hd:k<n)(hs:i<m):Bp (Pg n m) k i=(zT,0):=by
 have e:Eb (Pg n m) k=Ep m:=by simp[Eb,Pg,hk,hd]
 rw[(mr (n:=n) (m:=m)).read,zm,TJ,TJ,e]
 ·have f:tx (Ep m).cache i=[]:=Zo _ _;rw[zm (show(Ep m).liveQ=true from Z),f,zm Z];simp[Ep,tx,hk,hs]
 rw[LW];refine⟨⟨G,?_⟩,G,?_⟩
 ·rw[show(Pg n m).d.length=n from Iz];omega
 show(i:Int)<(m:Int);omega
def DS:Shape CV where
 size:=4
 rd:=fun B w cs x=>∃v,cs=[I x.id,I x.len,I x.gen,v]∧FC Bx B w v x.Ad∧Go.Eng.Int64 x.id∧Go.Eng.Int64 x.len∧Go.Eng.Int64 x.gen
 len:=fun⟨_,h,_⟩=>by rw[h];rfl
 keep:=fun O ⟨v,h,f,g⟩=>⟨v,h,f.keep O,g⟩
 mono:=fun i ⟨v,h,f,g⟩=>⟨v,h,f.mono i,g⟩
 one:=fun⟨v,h,f,_⟩ u hu=>by
  obtain⟨A,c,rfl,_⟩:=f.form;subst h;simp at hu;rcases hu with rfl|rfl|rfl|rfl<;>rfl
def Ie:Shape KA where
 size:=4
 rd:=fun B w cs x=>∃v,cs=[St x.AK,I x.len, .bool x.ur,v]∧FC Cg B w v x.list∧Go.Eng.Int64 x.len∧x.AK.length≤140737488355328
 len:=fun⟨_,h,_⟩=>by rw[h];rfl
 keep:=fun O ⟨v,h,f,g⟩=>⟨v,h,f.keep O,g⟩
 mono:=fun i ⟨v,h,f,g⟩=>⟨v,h,f.mono i,g⟩
 one:=fun⟨v,h,f,_⟩ u hu=>by
  obtain⟨A,c,rfl,_⟩:=f.form;subst h;simp at hu;rcases hu with rfl|rfl|rfl|rfl<;>rfl
section
variable {c c':Nat→Nat} {w w':World} {J K:List Nat} {v:Value}
theorem iC{x:CV}(h:EA (fun w'=>DS.rd w'.heap.size w' cs x) c w J):∃u,cs=[I x.id,I x.len,I x.gen,u]∧Bu Bx c w J u x.Ad∧Go.Eng.Int64 x.id∧Go.Eng.Int64 x.len∧Go.Eng.Int64 x.gen:=by
 obtain⟨u,rfl,hu,hi⟩:=h.AB;refine⟨u,Z,fun w' hs f=>?_,hi⟩;obtain⟨u',e,g,_⟩:=h w' hs f;simp only[Ac8,Ae4,true_and] at e;subst e;exact g
theorem iD{x:KA}(h:EA (fun w'=>Ie.rd w'.heap.size w' cs x) c w J):∃u,cs=[St x.AK,I x.len, .bool x.ur,u]∧Bu Cg c w J u x.list∧Go.Eng.Int64 x.len∧x.AK.length≤140737488355328:=by
 obtain⟨u,rfl,hu,hi⟩:=h.AB;refine⟨u,Z,fun w' hs f=>?_,hi⟩;obtain⟨u',e,g,_⟩:=h w' hs f;simp only[Ac8,Ae4,true_and] at e;subst e;exact g
theorem GK(h:Bu DS c w J v C)(O:k<C.length):∃u,DG c w J (Bz v 4 k) [I C[k].id,I C[k].len,I C[k].gen,u]∧Bu Bx c w J u C[k].Ad∧Go.Eng.Int64 C[k].id∧Go.Eng.Int64 C[k].len∧Go.Eng.Int64 C[k].gen:=by
 obtain⟨cs,f,_,g⟩:=Bu.el h O AO;obtain⟨u,rfl,i⟩:=iC g;exact⟨u,f,i⟩
theorem PS{L:List KA}(h:Bu Ie c w J v L)(O:k<L.length):∃u,DG c w J (Bz v 4 k) [St L[k].AK,I L[k].len, .bool L[k].ur,u]∧Bu Cg c w J u L[k].list∧Go.Eng.Int64 L[k].len∧L[k].AK.length≤140737488355328:=by
 obtain⟨cs,f,_,g⟩:=Bu.el h O AO;obtain⟨u,rfl,i⟩:=iD g;exact⟨u,f,i⟩
structure eb (c:Nat→Nat) (w:World) (J:List Nat) (vS vT vG:Value) (b:Bk):Prop where
 s:Bu DS c w J vS b.Ae
 t:Bu Ie c w J vT b.AQ
 g:Bu Wo c w J vG b.De
theorem eb.D{vG:Value}{b:Bk}(h:eb c w J a y vG b)(m:Mv c w c' w' K:=by exact Go.Eng.KU)(hi:BB J K=true:=by rfl):eb c' w' J a y vG b:=⟨h.s.D m hi,h.t.D m hi,h.g.D m hi⟩
end
def Jq(r:Rec):Nat:=15+(bytesOf r).length
def EL(l:List Rec):Nat:=(l.map Jq).sum
def Gf:Nat→List Rec→Tx
 |_,[]=>[]
 |n,r::l=>Hc r (n:Nat)++Gf (n+1) l
theorem Ng(r:Rec)(l:List Rec):EL (r::l)=Jq r+EL l:=rfl
theorem ec(a b:List Rec):EL (a++b)=EL a+EL b:=by simp[EL]
theorem Gr:∀(l:List Rec) (n:Nat),(Gf n l).length=EL l
 |[],_=>rfl
 |r::l,n=>by rw[Gf,ft,Nc,Gr l,Ng,Jq]
theorem Xu:∀(l:List Rec) (n:Nat) (r:Rec),Gf n (l++[r])=Gf n l++Hc r ((n+l.length:Nat):Int)
 |[],n,r=>by simp[Gf]
 |a::l,n,r=>by
  rw[Adz,Gf,Gf,Xu l,oo,SG];congr 3;omega
def TF(x:CV):Rec:=⟨2,x.id,[],[],[x.len,x.gen],x.Ad⟩
def Mu(d:Tx)(n:Int)(l:List Int):Rec:=⟨4,n,[],d,l,[]⟩
theorem bp(x:CV):Jq (TF x)=33+8*x.Ad.length:=by
 have e:bytesOf (TF x)=be 1 2++be 4 x.id++[]++[]++(be 4 (([x.len,x.gen].length:Nat):Int)++[x.len,x.gen].flatMap (be 4))++(be 1 ((x.Ad.length:Nat):Int)++x.Ad.flatMap PF):=rfl;have f:=UG x.Ad;have g:=Mr [x.len,x.gen];rw[Jq,e];simp only[ft,Be,f,g,Ace,SG];omega
theorem iE(d:Tx)(n:Int)(l:List Int):Jq (Mu d n l)=24+d.length+4*l.length:=by
 have e:bytesOf (Mu d n l)=be 1 4++be 4 n++[]++d++(be 4 ((l.length:Nat):Int)++l.flatMap (be 4))++[]:=rfl;have f:=Mr l;rw[Jq,e];simp only[ft,Be,f,Ace];omega
structure Jl where
 life:Nat
 Ew:Nat
 used:Nat
 long:Nat
 tail:Tx
 half:List Int
 failed:Bool
 num:Nat
structure Ta (n:Nat) (j:Jl):Prop where
 half:j.half.length=n
 each:∀h∈j.half,h=0∨h=1
 tail:j.tail.length=j.used%64
 long:j.long≤j.used
 used:j.used≤32704
 Ew:j.Ew≤j.used
 num:j.num≤j.used
 life:j.life≤4611686018427387904
structure HP (n m N:Nat) (A B:CS):Prop where
 pw:GR n m B
 Mt:B.BC≤A.BC+N
 liveQ:∀k,BG B k=BG A k
 keep:∀d s,1024≤s→Bp B d s=Bp A d s
theorem HP.refl{n m:Nat}{A:CS}(h:GR n m A):HP n m 0 A A:=⟨h,kM _,fun _=>rfl,fun _ _ _=>rfl⟩
theorem HP.tr{B C:CS}(h:HP n m k F B)(g:HP n m i B C):HP n m (k+i) F C:=
 ⟨g.pw,by have:=h.Mt;have:=g.Mt;omega,fun N=>(g.liveQ N).trans (h.liveQ N),fun d s hs=>(g.keep d s hs).trans (h.keep d s hs)⟩
theorem HP.more{Mjq:Nat}{B:CS}(h:HP n m k F B)(f:k≤Mjq):HP n m Mjq F B:=⟨h.pw,by have:=h.Mt;omega,h.liveQ,h.keep⟩
theorem gy{s:Int}(h:GR n m F)(hl:BG F p=true)(f:0≤s)(g:s<m):Ph F p s=true∧(Eb F p.toNat).liveQ=true:=by
 rw[BG,kg] at hl;refine⟨?_,hl.2⟩;rw[LW,h.sec];exact⟨LV.1 hl.1,f,g⟩
theorem HP.write{d s:Int}{t:FI}(h:GR n m F)(ht:t.length=64)(hl:BG F d=true)(o:0≤s)(r:s<1024)(C:1024≤m):HP n m 1 F (Er F d s t).1∧(Er F d s t).2=0:=by
 obtain⟨g,i,j,f,l⟩:=h.write (d:=d) (s:=s) ht;obtain⟨b1,b2⟩:=gy (s:=s) h hl o G;rw[zm b1,zm b2] at f;exact⟨⟨g,i,fun k=>j k,fun p s' hs=>by rw[l,ss (by rintro⟨_,_,rfl⟩;omega)]⟩,f⟩
theorem HP.flush{d:Int}(h:GR n m F)(hl:BG F d=true):HP n m 1 F (Fj F d).1∧(Fj F d).2=0:=by
 obtain⟨g,i,j,f,l⟩:=h.flush (d:=d);rw[BG,kg] at hl;rw[zm hl.1,zm hl.2] at f;exact⟨⟨g,i,fun k=>j k,fun o s' _=>l o s'⟩,f⟩
section
variable {P:Program} {env:Env} {w wr:World} {ty t e:TypeId} {by_:Nat} {z:List Value} {c:Nat→Nat} {i n cap g o m cp:Nat} {xs:List Value}
theorem HB{j:Nat}(ht:JQ P t=some (e,1,by_,z))(hx:BY env f=some (.slice (some ⟨g,o,none⟩) m cp))(hy:BY env K=some (.int R (j:Int)))(r:j<m):
 DP P env w (.indexAddr t f K) ty (.pointer (some ⟨g,o+j,none⟩)):=fun _ a x d pos p g2=>by
 have i:(0:Int)≤(j:Int):=G;have l:(j:Int)<(m:Int):=G;simp[execOp,x.eval hx,x.eval hy,LD ht i l,add_lit]
theorem uy{y:Operand}{r:IntKind}{b:Int}(ht:JQ P t=some (e,1,by_,z))(hx:BY env K=some (.slice (some ⟨g,o,none⟩) m cp))(hy:BY env y=some (.int R p))(a:BY env f=some (.int r b))(i:0≤p)(C:p<b)(j:b≤cp):
 DP P env w (.slice t K (some y) (some f) none) ty (.slice (some ⟨g,o+p.toNat,none⟩) (b.toNat-p.toNat) (cp-p.toNat)):=by
 have l:=tO (P:=P) (w:=w) (ty:=ty) ht hx hy a i G j;simpa[En,add_lit,show¬cp=p.toNat by omega] using l
theorem AJ.Zp(h:AJ c w i e 1 (.slice (some ⟨g,0,none⟩) n cap) n xs){j:Nat}{u:Value}(l:xs[j]?=some u):DG c w [i] ⟨g,j,none⟩ [u]:=by
 have hl:=h.own.1;rw[Acn] at hl;have p:j<n:=by have:=(kJ.1 l).1;omega
 have LF:0<cap:=by
  obtain⟨A,c2,f,o,_⟩:=h.own.len;injection f with _ _ f;omega
 refine⟨⟨fun k v hv=>?_,(h.own.lt g (Bh LF)).2⟩,by rw[h.BF g (Bh LF)];simp[AU]⟩;cases k with
 |zero=>
  simp at hv;subst hv;have:=h.own.cells (Bh LF) j u l;simpa[add_lit] using this
 |succ k=>simp at hv
theorem JY(ht:FB P t=true)(l:AJ c w i e 1 (.slice (some ⟨g,0,none⟩) n cap) n xs)(o:k<n)(hx:BY env f=some (.pointer (some ⟨g,k,none⟩)))(hy:BY env K=some a)(hu:a.cells=#[a])(x:a.oneCell'=true):
 Hh P env w (.store t f K) ty (fun _ w'=>∃c',Mv c w c' w' [i]∧AJ c' w' i e 1 (.slice (some ⟨g,0,none⟩) n cap) n (xs.set k a)):=
 Dv ht l Z G hx hy hu x
theorem br{u8:TypeId}(hs:P.underlying d=some (.slice u8))(hd:P.underlying A=some .string)(r:P.underlying u8=some (.int .u8))(hx:BY env f=some (.slice (some ⟨g,o,none⟩) m cp))(x:AJ c w i e 1 (.slice (some ⟨g,0,none⟩) n cap) n (AS s))(p:o+m≤n):
 DP P env w (.convert d A f) ty (St ((s.drop o).take m)):=fun _ a C src pos p g2=>by
 have hl:=x.own.1;simp[AS] at hl;have t:((s.drop o).take m).length=m:=by rw[kL,kK];omega
 have p:=Af9 (P:=P) w d A u8 ⟨g,o,none⟩ cp ((s.drop o).take m) hs r hd (fun j r=>by
  have r:j<m:=G;have r:=(x.Zp (j:=o+j) (u:= .int .u8 ((s.drop o).take m)[j].toNat) (by
   rw[AS,Aah,dd G];simp)).DF.1 0 _ Z
  simpa[add_lit] using r)
 rw[t] at p;simp only[execOp,C.eval hx,Abk,p,Abd];simp
theorem If{w:World}{i:Nat}(m:Mv (fun k=>if T=some k then i else 0) w c' w' [i])(hi:Nat.blt 0 i=true):w.grownBy w' T:=
 ⟨m.os,m.tape,m.output,m.size,fun k O f=>m.block k O (by
  show AU [i] (if T=some k then i else 0)=false
  rw[ss (fun e=>f e.symm)];cases i with
  |zero=>cases hi
  |succ i=>rfl)⟩
theorem LX(l:List UInt8)(j:Nat)(b:UInt8):(AS l).set j (.int .u8 b.toNat)=AS (l.set j b):=by
 rw[AS,AS,Ab0]
theorem Vf(h:k<s.length):(AS s)[k]?=some (.int .u8 (s[k]).toNat):=by
 rw[AS,Aah,dd h];rfl
end
section
variable {P:Program} {env:Env} {w:World} {ty t ty2:TypeId} {x y:Operand} {m n:Nat}
theorem uz(hx:BY env x=some (.int .u8 (m:Int)))(hy:BY env y=some (.int .u8 1))(i:m<256):DP P env w (.binOp .and t x y ty2) ty (.int .u8 ((m%2:Nat):Int)):=by
 have h:=SK (P:=P) (w:=w) (ty:=ty) (t:=t) (ty2:=ty2) (op:= .and) hx hy (.inr (.inl ⟨Z,Z⟩));rw[Ae2,Fu _ _ (by simpa[IntKind.bits] using i)] at h;have f:(BitVec.ofInt IntKind.u8.bits 1).toNat=1:=by decide
 rw[f,Agx] at h;have g:IntKind.u8.wrap ((m%2:Nat):Int)=((m%2:Nat):Int):=by rw[NH];simp[Aem];omega
 rwa [g] at h
theorem Xv(hx:BY env x=some (.int R (m:Int)))(hy:BY env y=some (.int .u64 1))(O:1≤R.bits):DP P env w (.binOp .shr t x y ty2) ty (.int R ((m/2:Nat):Int)):=by
 have h:=al (P:=P) (w:=w) (ty:=ty) (t:=t) (ty2:=ty2) hx hy AO (by simpa using O);have e:(m:Int)/2^(1:Int).toNat=((m/2:Nat):Int):=by simp
 rwa [e] at h
theorem tb(hx:BY env x=some (I (m:Int)))(hy:BY env y=some (.int .u64 1))(f:m<1000000):DP P env w (.binOp .shl t x y ty2) ty (I ((2*m:Nat):Int)):=by
 have h:=rZ (P:=P) (w:=w) (ty:=ty) (t:=t) (ty2:=ty2) hx hy AO AO;have e:(m:Int)*2^(1:Int).toNat=((2*m:Nat):Int):=by simp;omega
 rw[e,Eg G G] at h;exact h
theorem uA(hx:BY env x=some (I (m:Int)))(hy:BY env y=some (I (n:Int)))(f:m<1024)(g:n<1024):DP P env w (.binOp .xor t x y ty2) ty (I ((m^^^n:Nat):Int)):=by
 have h:=SK (P:=P) (w:=w) (ty:=ty) (t:=t) (ty2:=ty2) (op:= .xor) hx hy (.inr (.inr ⟨Z,Z⟩));rw[Aha,Fu _ _ (by simp[IntKind.bits];omega),Fu _ _ (by simp[IntKind.bits];omega)] at h;have i:m^^^n<1024:=Ad2 (n:=10) f g;rwa [Eg G G] at h
theorem yQ(hx:BY env x=some (I (m:Int)))(hy:BY env y=some (I 1))(g:m<1024):DP P env w (.binOp .and t x y ty2) ty (I ((m%2:Nat):Int)):=by
 have h:=SK (P:=P) (w:=w) (ty:=ty) (t:=t) (ty2:=ty2) (op:= .and) hx hy (.inr (.inl ⟨Z,Z⟩));rw[Ae2,Fu _ _ (by simp[IntKind.bits];omega)] at h;have f:(BitVec.ofInt IntKind.i64.bits 1).toNat=1:=by decide
 rw[f,Agx,Eg G G] at h;exact h
theorem aaA{a b:UInt8}(hx:BY env x=some (.int .u8 a.toNat))(hy:BY env y=some (.int .u8 b.toNat)):DP P env w (.binOp .xor t x y ty2) ty (.int .u8 (a^^^b).toNat):=by
 have h:=SK (P:=P) (w:=w) (ty:=ty) (t:=t) (ty2:=ty2) (op:= .xor) hx hy (.inr (.inr ⟨Z,Z⟩));rw[Aha,Fu _ _ (by have:=a.toNat_lt;simpa[IntKind.bits] using this),Fu _ _ (by have:=b.toNat_lt;simpa[IntKind.bits] using this)] at h;have g:a.toNat^^^b.toNat<256:=Ad2 (n:=8) a.toNat_lt b.toNat_lt;have f:IntKind.u8.wrap ((a.toNat^^^b.toNat:Nat):Int)=((a^^^b).toNat:Int):=by
  rw[NH,Af2];simp[Aem]
 rwa [f] at h
end
theorem Rk(a b:UInt8):Calls QP 283 #[.int .u8 a.toNat, .int .u8 b.toNat] w (Bt fun v w'=>AZ w w'∧v= .int .u8 (JA a b).toNat):=by
 have hK:FY w w:=Bf w;refine AY 27 #[.tmp 4] func283 Z<|Q<|V Z<|Q<|M Z<|E (dF underlying5 underlying3 Z)<|za Z<|V Z<|Ag<|An<|AG (σ:=Nat×Nat×Nat) (fun j=>[(1, .int .u8 (j.1:Nat)),(5,I (j.2.2:Nat)),(6,I (j.2.1:Nat))]) (fun j w'=>FY w w'∧j.1<256∧j.2.1<256∧j.2.2<256∧∃f,j.1<2^f∧mulL f j.1 j.2.1 j.2.2=ij a.toNat b.toNat) (fun j=>j.1) (b.toNat,a.toNat,0) AL ⟨hK,b.toNat_lt,a.toNat_lt,Nat.zero_lt_succ _,8,b.toNat_lt,Z⟩ ?_;rintro⟨y,x,n⟩ U ⟨hK,hy,hx,p,f,hf,i⟩;dsimp only at hy hx p hf i⊢;refine Ag<|Q<|M Z<|E (CM Z Z)<|Ah<|BA Z (fun J=>?_) fun J=>?_
 ·obtain⟨f,rfl⟩:∃g,f=g+1:=⟨f-1,by cases f with|zero=>simp at hf;omega|succ f=>rfl⟩;rw[mulL,ss G] at i;have r:=TQ p hx;have l:=TP hx;refine As<|Ag<|An<|Ag<|Q<|M Z<|E (uz Z Z hy)<|E (BO Z Z)<|Ah<|BA Z (fun R=>?_) fun R=>?_
  ·have C:y%2=1:=G;rw[zm C] at i;refine cg<|M Z<|M Z<|E (uA Z Z G G)<|V Z<|Q<|M Z ?_;refine E (tb Z Z G)<|V Z<|Q<|M Z<|E (Dh Z Z)<|Ah ?_;refine BA Z (fun t=>?_) fun t=>?_
   ·have o:TB x=(2*x)^^^285:=if_pos G;refine cg<|M Z<|E (uA (n:=285) Z Z G AO)<|V Z<|cg<|M Z<|E (Xv Z Z AO)<|za Z ?_;refine Ah ?_;rw[o] at i l;exact⟨(y/2,_,_),AL,⟨hK,G,l,by first|exact r|exact p,f,by rw[Nat.pow_succ] at hf;omega,i⟩,by dsimp only;omega⟩
   have o:TB x=2*x:=if_neg G;refine As<|cg<|M Z<|E (Xv Z Z AO)<|V Z ?_;rw[o] at i l;exact⟨(y/2,_,_),AL,⟨hK,G,l,by first|exact r|exact p,f,by rw[Nat.pow_succ] at hf;omega,i⟩,by dsimp only;omega⟩
  have C:¬y%2=1:=G;rw[ss C] at i;refine As<|Q<|M Z<|E (tb Z Z G)<|V Z<|Q ?_;refine M Z<|E (Dh Z Z)<|Ah<|BA Z (fun t=>?_) fun t=>?_
  ·have o:TB x=(2*x)^^^285:=if_pos G;refine cg<|M Z<|E (uA (n:=285) Z Z G AO)<|V Z<|cg<|M Z<|E (Xv Z Z AO)<|za Z ?_;refine Ah ?_;rw[o] at i l;exact⟨(y/2,_,_),AL,⟨hK,G,l,by first|exact r|exact p,f,by rw[Nat.pow_succ] at hf;omega,i⟩,by dsimp only;omega⟩
  have o:TB x=2*x:=if_neg G;refine As<|cg<|M Z<|E (Xv Z Z AO)<|V Z ?_;rw[o] at i l;exact⟨(y/2,_,_),AL,⟨hK,G,l,by first|exact r|exact p,f,by rw[Nat.pow_succ] at hf;omega,i⟩,by dsimp only;omega⟩
 have q0:y=0:=G;subst q0;rw[Xe] at i;subst i;refine Az Z<|Q<|M Z<|E (kW underlying3 underlying5 Z)<|V Z<|Af Z Z ?_;exact⟨hK,Z⟩
theorem Xw(a:UInt8)(n:Int)(l:0≤n)(C:n<256):Calls QP 284 #[.int .u8 a.toNat,I n] w (Bt fun v w'=>AZ w w'∧v= .int .u8 (UI a n.toNat).toNat):=by
 obtain⟨m,rfl⟩:=Int.eq_ofNat_of_zero_le l;have j:m<256:=G;rw[Int.toNat_natCast];have hK:FY w w:=Bf w;refine AY 20 #[.tmp 4] func284 Z<|Q<|V Z<|Q<|V Z<|Ag<|An<|AG (σ:=Nat×UInt8×UInt8) (fun i=>[(0, .int .u8 i.2.1.toNat),(1,I (i.1:Nat)),(5, .int .u8 i.2.2.toNat)]) (fun i w'=>FY w w'∧i.1<256∧∃f,i.1<2^f∧ik f i.1 i.2.1 i.2.2=UI a m) (fun i=>i.1) (m,a,1) AL ⟨hK,j,8,j,Z⟩ ?_;rintro⟨y,p,x⟩ i ⟨hK,hy,f,hf,i⟩;dsimp only at hy hf i⊢;refine Ag<|Q<|M Z<|E (CM Z Z)<|Ah<|BA Z (fun j=>?_) fun j=>?_
 ·obtain⟨f,rfl⟩:∃g,f=g+1:=⟨f-1,by cases f with|zero=>simp at hf;omega|succ f=>rfl⟩;rw[ik,ss G] at i;refine As<|Ag<|An<|Ag<|Q<|M Z<|E (yQ Z Z G)<|E (BO Z Z) ?_;refine Ah<|BA Z (fun j=>?_) fun j=>?_
  ·have j:y%2=1:=G;rw[if_pos j] at i;refine cg<|M Z<|M Z<|ve (Ab aA Z (Rk _ _)) ?_;rintro o w1 ⟨o,rfl⟩;refine V Z<|cg<|M Z<|M Z<|ve (Ab aA Z (Rk _ _)) ?_;rintro t w2 ⟨r,rfl⟩;refine V Z<|cg<|M Z<|E (Xv Z Z AO)<|V Z ?_;exact⟨(y/2,_,_),AL,⟨((hK.up o).up r),by dsimp only;omega,f,by rw[Nat.pow_succ] at hf;dsimp only;omega,i⟩,by dsimp only;omega⟩
  have j:¬y%2=1:=G;rw[if_neg j] at i;refine As<|cg<|M Z<|M Z<|ve (Ab aA Z (Rk _ _)) ?_;rintro t j ⟨j,rfl⟩;refine V Z<|cg<|M Z<|E (Xv Z Z AO)<|V Z ?_;exact⟨(y/2,_,_),AL,⟨(hK.up j),by dsimp only;omega,f,by rw[Nat.pow_succ] at hf;dsimp only;omega,i⟩,by dsimp only;omega⟩
 have q0:y=0:=G;subst q0;rw[il] at i;subst i;refine Az Z<|Q<|M Z<|V Z<|Af Z Z ?_;exact⟨hK,Z⟩
theorem mw(a:UInt8):Calls QP 298 #[.int .u8 a.toNat] w (Bt fun v w'=>AZ w w'∧v= .int .u8 (lT a).toNat):=by
 have hK:FY w w:=Bf w;refine AY 5 #[.tmp 2] func298 Z<|Q<|V Z<|Q<|M Z<|ve (Ab sL Z (Xw a 254 AO AO)) ?_;rintro v4 w1 ⟨f,rfl⟩;refine V Z<|Af Z Z ?_;exact⟨(hK.up f),Z⟩
theorem gz(a:UInt8)(n:Int)(g:0≤n)(i:n<256):Calls QP 244 #[.int .u8 a.toNat,I n] w (Bt fun v w'=>AZ w w'∧v= .tuple #[.int .u8 (UI a n.toNat).toNat,I 0]):=by
 have hK:FY w w:=Bf w;refine AY 11 #[.tmp 4, .tmp 5] func244 Z<|Q<|za Z<|V Z<|Ag<|Q<|M Z<|E (AX Z Z)<|Ah<|Cz Z (fun f=>?_) fun f=>?_
 ·exact absurd f (by simp;omega)
 refine As<|Q<|M Z<|M Z<|ve (Ab sL Z (Xw a n g i)) ?_;rintro v10 w1 ⟨j,rfl⟩;refine za Z<|V Z<|BR Z Z Z ?_;exact⟨(hK.up j),Z⟩
theorem qi(n:Int)(f:0≤n)(g:n<256):Calls QP 243 #[I n] w (Bt fun v w'=>AZ w w'∧v= .tuple #[.int .u8 (UI 2 n.toNat).toNat,I 0]):=by
 have hK:FY w w:=Bf w;refine AY 8 #[.tmp 2, .tmp 3] func243 Z<|Q<|za Z<|V Z<|Q<|M Z<|ve (Ab sH Z (gz 2 n f g)) ?_;rintro j w1 ⟨i,rfl⟩;refine E (Aq Z Z)<|E (Aq Z Z)<|za Z<|V Z<|BR Z Z Z ?_;exact⟨(hK.up i),Z⟩
def Pj(f:Nat→UInt8→UInt8)(xs:List UInt8)(o:Nat):Nat→List UInt8
 |0=>xs
 |k+1=>(Pj f xs o k).set (o+k) (f k ((Pj f xs o k).getD (o+k) 0))
theorem Rl(f:Nat→UInt8→UInt8)(xs:List UInt8)(o:Nat):∀k,(Pj f xs o k).length=xs.length
 |0=>rfl
 |k+1=>by rw[Pj,Yy,Rl f xs o k]
theorem bt(f:Nat→UInt8→UInt8)(xs:List UInt8)(o:Nat):∀k,o+k≤xs.length→∀j,(Pj f xs o k)[j]?=if o≤j∧j<o+k then(xs[j]?).map (f (j-o)) else xs[j]?
 |0,_,j=>by rw[Pj,ss G]
 |k+1,h,j=>by
  have l:=bt f xs o k G;have hl:=Rl f xs o k;rw[Pj,Afp];by_cases e:o+k=j
  ·subst e;have g:=l (o+k);rw[ss G] at g;rw[zm Z,zm G,zm G,hk,g,dd (show o+k<xs.length by omega),Ab3];rfl
  ·rw[ss e,l j];by_cases i:o≤j∧j<o+k
   ·rw[zm i,zm G]
   ·rw[ss i,ss G]
theorem gA(f:Nat→UInt8→UInt8)(xs:List UInt8)(o m:Nat)(h:o+m≤xs.length):Pj f xs o m=xs.take o++(((xs.drop o).take m).mapIdx f)++xs.drop (o+m):=by
 refine Adr fun j=>?_;rw[bt f xs o m h j];have i:(xs.take o).length=o:=by rw[kL];omega
 have l:(((xs.drop o).take m).mapIdx f).length=m:=by rw[List.length_mapIdx,kL,kK];omega
 rw[oo,Agh];by_cases g:j<o
 ·rw[ss G,zm G,Ab2,zm g]
 rw[ss (show¬j<(xs.take o).length by omega),Agh,i,l];by_cases p:j<o+m
 ·rw[zm G,zm G,Agg,Ab2,zm G,Acb,show o+(j-o)=j by omega]
 rw[ss G,ss G,Acb,show o+m+(j-o-m)=j by omega]
def Rm(xs:List UInt8)(o m:Nat)(s:List UInt8)(c:UInt8):List UInt8:=xs.take o++Kf ((xs.drop o).take m) s c++xs.drop (o+m)
theorem iF(xs:List UInt8)(o m:Nat)(s:List UInt8)(c:UInt8)(hc:c≠0)(h:o+m≤xs.length)(hs:m≤s.length):Pj (fun k x=>x^^^JA (s.getD k 0) c) xs o m=Rm xs o m s c:=by
 rw[gA _ _ _ _ h,Rm,Kf,ss hc];congr 2;refine Adr fun j=>?_;rw[Agg,List.getElem?_zipWith];rcases Aab j ((xs.drop o).take m).length with f|f
 ·have g:j<s.length:=by rw[kL,kK] at f;omega
  rw[dd f,dd g,hk,dd g];rfl
 rw[Aam f];rfl
theorem ed(xs:List UInt8)(o m:Nat)(s:List UInt8):Rm xs o m s 0=xs:=by
 rw[Rm,Kf,zm Z,oo]
 conv=>rhs;rw[←Aas o xs]
 congr 1;rw[←Ab7,Aas]
theorem ID(h:k<s.length):s.getD k 0=s[k]:=by simp[hk,dd h]
theorem Zq{g cap o cp:Nat}{xs:List UInt8}{b:UInt8}(h:CJ w 0 5 1 (.slice (some ⟨g,0,none⟩) n cap) n (AS xs))(a7:o+m≤n)(a1:m<256)(hs:m≤s.length)(a6:n≤1048576):
 Calls QP 241 #[.slice (some ⟨g,o,none⟩) m cp,St s, .int .u8 b.toNat] w (Bt fun _ w'=>w.grownBy w' (Value.rowOf (.slice (some ⟨g,0,none⟩) n cap))∧CJ w' 0 5 1 (.slice (some ⟨g,0,none⟩) n cap) n (AS (Rm xs o m s b))):=by
 obtain⟨v,hv⟩:∃v,v=Value.slice (some ⟨g,0,none⟩) n cap:=⟨_,Z⟩;obtain⟨c,hc⟩:∃c:Nat→Nat,c=fun k=>if v.rowOf=some k then 5 else 0:=⟨_,Z⟩
 have f:AJ c w 5 5 1 (.slice (some ⟨g,0,none⟩) n cap) n (AS xs):=⟨h,fun k O=>by rw[hc];dsimp only;rw[if_pos (by rw[hv];exact O)]⟩;have i:=Acc.refl c w [5];have l:xs.length=n:=by have:=h.1;simpa[AS] using this
 refine AY 59 #[] func241 Z<|Ag<|Q<|M Z<|E (BO Z Z)<|Ah<|BA Z (fun l=>?_) fun l=>?_
 ·have r:b.toNat=0:=G;have p:b=0:=Af3.1 r;refine FK Z ?_;have hg:=If (by rw[hc] at i;exact i.RS) Z;rw[hv] at hg;exact⟨hg,by rw[p,ed];exact f.own⟩
 have p:b≠0:=fun e=>by subst e;simp at l
 refine As<|Ag<|Q<|M Z<|E (BN EE) ?_;refine E (AX Z Z)<|Ah<|Wr Z (fun t=>?_) fun t=>?_
 ·refine Ag<|Q<|M Z<|E (BN EE) ?_;refine M Z<|Ah<|An<|AG (σ:=Nat) (fun k=>[(0, .slice (some ⟨g,o,none⟩) m cp),(1,St s),(2, .int .u8 b.toNat),(16,I m),(17,I k)]) (fun k w'=>∃c',AJ c' w' 5 5 1 (.slice (some ⟨g,0,none⟩) n cap) n (AS (Pj (fun k x=>x^^^JA (s.getD k 0) b) xs o k))∧Acc c w [5] c' w'∧k≤m) (fun k=>m-k) 0 AL ⟨_,f,i,G⟩ ?_;rintro k l ⟨r,f,i,O⟩;refine Q<|E (AX Z Z)<|Ah<|Ag<|BA Z (fun l=>?_) fun l=>?_
  ·have J:k<m:=G;have l:=Rl (fun k x=>x^^^JA (s.getD k 0) b) xs o k;obtain⟨ys,R⟩:∃ys,ys=Pj (fun k x=>x^^^JA (s.getD k 0) b) xs o k:=⟨_,Z⟩;rw[←R] at f l;have C:=f.Zp (j:=o+k) (Vf G);have U:s[((k:Nat):Int).toNat]?=some (s.getD k 0):=by rw[TJ,ID G];exact dd G
   refine As<|Ag<|An<|Q<|M Z<|V Z<|AM r [] [0,0,0,1,0,0,0,0,2,0,0,3] [0,1,2,3,4,5,6,7,8,9,10,11] fun w1 l l=>?_;refine Bm Z Z<|Bm Z Z<|AN Z (HB EE Z Z G)<|vc Z l.kp (C.D.ke Ty Z)<|Bm Z Z<|Bm Z Z<|AN Z (Ks underlying9 Z Z G U)<|Bm Z Z ?_;refine Db Z (Ac r 1 (Ab aA Z (Rk _ _))) ?_;rintro r w2 ⟨c2,r,U,rfl⟩;refine l.Bl r fun l=>AN Z (aaA Z Z)<|AN Z (HB EE Z Z G) ?_;refine LG Z (JY Ty f.D Ai Z Z ra ra) ?_;rintro _ r ⟨r,r,f⟩;refine AP ?_;refine cg<|E (Bc Z Z Ai Ai)<|M Z<|Ah ?_;refine⟨k+1,AL,⟨_,?_,i.D,G⟩,G⟩;rw[Pj,←R,ID (show o+k<ys.length by omega)];rw[LX] at f;exact f
  have J:k=m:=G;subst J;refine Az Z<|FK Z ?_;have hg:=If (by rw[hc] at i;exact i.RS) Z;rw[hv] at hg;rw[iF xs o k s b p G hs] at f;exact⟨hg,f.own⟩
 exact absurd t (by simp;omega)
theorem Rn(n:Int):Calls QP 259 #[I n] w (Bt fun v w'=>AZ w w'∧v= .bool (decide (1≤n)&&decide (n≤16))):=by
 have hK:FY w w:=Bf w;refine AY 9 #[.tmp 2] func259 Z<|Q<|V Z<|Q<|M Z<|E (Dh Z Z)<|M Z ?_;apply AW true 2 _ CK
 ·intro f;refine wo<|M Z<|wo<|E (Gw Z Z) ?_;exact EQ 2
 refine V Z<|Af Z Z ?_;exact⟨hK,by cases h:decide (1≤n)<;>simp[h]⟩
theorem GL{r c:Nat}(J:0<c)(l:(k+1)*c≤n)(R:n≤i)(U:i≤9223372036854775807)(O:k≤1024)(hc:c≤1024):
 Calls QP 260 #[.agg #[I r,I c, .slice (some ⟨m,0,none⟩) n i],I k] w (Bt fun v w'=>AZ w w'∧v= .slice (some ⟨m,k*c,none⟩) c (i-k*c)):=by
 have hK:FY w w:=Bf w;obtain⟨p,hp⟩:∃p,p=k*c:=⟨_,Z⟩;have j:(k+1)*c=p+c:=by rw[Aad,Aa2,hp]
 have t:(k:Int)*(c:Int)=(p:Nat):=by rw[hp];simp
 have C:((k:Int)+1)*(c:Int)=((p+c:Nat):Int):=by rw[←j];simp
 rw[←hp];rw[j] at l;refine AY 17 #[.tmp 4] func260 Z<|Q<|ve (IQ Z) ?_;rintro _ w1 ⟨b2,rfl,cap⟩;have o:=cap.below;have f:=cap.AE;refine V Z<|Q<|E (Aa Lh Z)<|E (Al Pq Z f Z)<|M Z<|E (Aa HY Z)<|E (Al AF Z f Z)<|E (HK Z Z Ai Ai)<|M Z<|E (Bc Z Z Ai Ai)<|E (Aa HY Z)<|E (Al AF Z f Z)<|E (HK Z Z Ai Ai)<|E (uy EE Z Z Z G G G)<|V Z ?_;refine Af Z Z ?_;exact⟨(hK.up o),by rw[t,C];simp only[TJ,Abs,Ab3]⟩
theorem Ro{c:Int}{vl:Value}(i:vl.oneCell'=true)(j:vl.cells=#[vl]):Calls QP 240 #[.agg #[I p,I c,vl]] w (Bt fun u w'=>AZ w w'∧∃b1,u= .func (.func 282) #[] #[.pointer (some ⟨b1,0,none⟩)]∧w.heap.size≤b1∧Gt w' b1 [I p,I c,vl] 266):=by
 obtain⟨c,hO,hc⟩:=Ay w;refine AY 4 #[.tmp 2] func240 Z<|Q<|Fa c 101 fun w1 b1 c1 g f=>?_;refine V Z<|Q<|E (Dn Z)<|V Z<|Af Z Z<|⟨hO.D.below,_,Z,?_,f.AE⟩;rcases Aab b1 w.heap.size with h|h
 ·replace hO:=hO.D g;have:=hO.BF _ h;rw[f.BF] at this;cases this
 exact h
abbrev my(g cap c:Nat)(i:Nat):List Value:=[I i, .slice (some ⟨g,i*c,none⟩) c (cap-i*c)]
theorem OR{cap r c:Nat}(f:AI j h 126 m [I r,I c, .slice (some ⟨i,0,none⟩) n cap] 266)(a1:0<c)(a6:r*c≤n)(a7:n≤cap)(a8:cap≤9223372036854775807)(b3:r≤1024)(hc:c≤1024):
 LH QP 282 [.pointer (some ⟨m,0,none⟩)] (my i cap c) [127] [126] (List.range r) j h:=by
 intro l J c0 c1 W K c0 hK o p hy t;have p:∀g∈[127,126],AU K g=false:=fun g hi=>BD hK (by simpa using hi);replace f:=f.D c0 (p 126 Bb);have hJ:JC (J []) [127] c1 W:=⟨t,fun _ _ _ _ w0 b1=>o _ _ _ _ _ w0 b1⟩;show Calls _ _ [_,_].toArray _ _
 refine AY 17 #[] func282 Z<|Q<|E (Aa HX Z)<|E (Al AF Z f.AE Z)<|M Z<|Ah<|An<|AG (σ:=Nat) (fun g=>[(0, .func (.yield l) #[] #[]),(1, .pointer (some ⟨m,0,none⟩)),(5,I r),(6,I g)]) (fun g w'=>g≤r∧∃c',AI c' w' 126 m [I r,I c, .slice (some ⟨i,0,none⟩) n cap] 266∧JC (J (List.range g)) [127] c' w') (fun g=>r-g) 0 AL ⟨G,_,f,hJ⟩ ?_;rintro g c0 ⟨hi,p,f,hJ⟩;refine Q<|E (AX Z Z)<|Ah<|Ag<|BA Z (fun c0=>?_) fun c0=>?_
 ·have c0:g<r:=G;have t:(g+1)*c≤n:=rX (WN _ c0) a6;have C:List.range g++[g]<+:List.range r:=⟨(List.range r).drop (g+1),by
   have e:=Aas (g+1) (List.range r);rwa [List.take_range,Abl c0,Abf] at e⟩
  refine As<|Ag<|An<|Q<|M Z<|V Z<|Q<|M Z<|M Z<|E (Ba BP Z f.AE Z)<|M Z<|ve (Ac p 127 (Ab Lj Z (GL (k:=g) a1 t a7 a8 G hc))) ?_;rintro c0 w1 ⟨c1,c0,p,rfl⟩;obtain⟨p,b0,t⟩:=hy _ _ _ _ (hJ.D c0).AB C;refine ve (FQ Z Z t) ?_;rintro _ b2 ⟨b,U,rfl,p,R,C⟩;replace f:=f.D c0;replace f:=f.D p (BD b0 Bb);refine E (BL Z)<|Ah<|BA Z (fun c0=>?_) fun c0=>?_
  ·refine FK Z ?_;exact⟨_, .inr ⟨_,C c0⟩⟩
  have hJ:JC (J (List.range (g+1))) [127] U b2:=⟨by rw[Abf];exact R c0,fun _ _ _ _ w0 b1=>o _ _ _ _ _ w0 b1⟩;refine As<|cg<|E (Bc Z Z Ai Ai)<|M Z<|Ah ?_;exact⟨g+1,AL,⟨G,_,f,hJ⟩,G⟩
 have e:g=r:=G;subst e;refine Az Z<|⟨_,_,Z,Z,?_⟩;exact⟨Z,_, .inl hJ.AB⟩
theorem ee(xs:List UInt8)(o m:Nat)(b:UInt8)(h:o+m≤xs.length):Pj (fun _ x=>JA x b) xs o m=xs.take o++(((xs.drop o).take m).map fun x=>JA x b)++xs.drop (o+m):=by
 rw[gA _ _ _ _ h];congr 2;refine Adr fun j=>?_;rw[Agg,Aah]
theorem iG{g cap o cp:Nat}{xs:List UInt8}{b:UInt8}(h:CJ w 0 5 1 (.slice (some ⟨g,0,none⟩) n cap) n (AS xs))(J:o+m≤n)(C:n≤1048576):
 Calls QP 299 #[.slice (some ⟨g,o,none⟩) m cp, .int .u8 b.toNat] w (Bt fun _ w'=>w.grownBy w' (Value.rowOf (.slice (some ⟨g,0,none⟩) n cap))∧CJ w' 0 5 1 (.slice (some ⟨g,0,none⟩) n cap) n (AS (xs.take o++(((xs.drop o).take m).map fun x=>JA x b)++xs.drop (o+m)))):=by
 obtain⟨v,hv⟩:∃v,v=Value.slice (some ⟨g,0,none⟩) n cap:=⟨_,Z⟩;obtain⟨c,hc⟩:∃c:Nat→Nat,c=fun k=>if v.rowOf=some k then 5 else 0:=⟨_,Z⟩
 have f:AJ c w 5 5 1 (.slice (some ⟨g,0,none⟩) n cap) n (AS xs):=⟨h,fun k O=>by rw[hc];dsimp only;rw[if_pos (by rw[hv];exact O)]⟩;have i:=Acc.refl c w [5];have l:xs.length=n:=by have:=h.1;simpa[AS] using this
 refine AY 20 #[] func299 Z<|Q<|M Z<|E (BN EE) ?_;refine M Z<|Ah<|An<|AG (σ:=Nat) (fun k=>[(0, .slice (some ⟨g,o,none⟩) m cp),(1, .int .u8 b.toNat),(6,I m),(7,I k)]) (fun k w'=>∃c',AJ c' w' 5 5 1 (.slice (some ⟨g,0,none⟩) n cap) n (AS (Pj (fun _ x=>JA x b) xs o k))∧Acc c w [5] c' w'∧k≤m) (fun k=>m-k) 0 AL ⟨_,f,i,G⟩ ?_;rintro k l ⟨t,f,i,O⟩;refine Q<|E (AX Z Z)<|Ah<|Ag<|BA Z (fun l=>?_) fun l=>?_
 ·have p:k<m:=G;have l:=Rl (fun _ x=>JA x b) xs o k;obtain⟨ys,r⟩:∃ys,ys=Pj (fun _ x=>JA x b) xs o k:=⟨_,Z⟩;rw[←r] at f l;have l:=f.Zp (j:=o+k) (Vf G);refine As<|Ag<|An<|Q<|M Z<|V Z<|cg<|M Z<|M Z<|M Z<|M Z<|E (HB EE Z Z G)<|E (Cc Ty Z l.DF)<|M Z ?_;refine ve (Ac t 1 (Ab aA Z (Rk _ _))) ?_;rintro t w1 ⟨c1,t,t,rfl⟩;refine E (HB EE Z Z G) ?_;refine Av (JY Ty f.D Ai Z Z ra ra) ?_;rintro _ w2 ⟨c2,l,f⟩;refine Ah<|cg<|E (Bc Z Z Ai Ai)<|M Z<|Ah ?_;refine⟨k+1,AL,⟨_,?_,i.D,G⟩,G⟩;rw[Pj,←r,ID (show o+k<ys.length by omega)];rw[LX] at f;exact f
 have p:k=m:=G;subst p;refine Az Z<|⟨_,_,Z,Z,?_⟩;have hg:=If (by rw[hc] at i;exact i.RS) Z;rw[hv] at hg;rw[ee xs o k b G] at f;exact⟨Z,hg,f.own⟩
theorem _root_.Go.Eng.AJ.Mw{w w':World}{i n size:Nat}{e:TypeId}{u:Value}{xs:List Value}(hO:CD w c w')(h:AJ c w' i e size u n xs)(hi:i≠0):CJ w' w.heap.size e size u n xs:=by
 have key:∀k,u.rowOf=some k→w.heap.size≤k:=fun k O=>by
  rcases Aab k w.heap.size with f|f
  ·have:=hO.BF k f;rw[h.BF k O] at this;exact absurd this hi
  exact f
 refine⟨h.own.1,?_⟩;rcases h.own.2 with f|⟨g,cap,j,l,hv,o,rest⟩
 ·exact .inl f
 refine .inr ⟨g,cap,j,l,hv,?_,rest⟩;subst hv;exact key g (Bh (by have:=rest.2.2.2.2.2.2;omega))
theorem Sj(r c:Nat)(j:r≤1024)(hc:c≤1024):Calls QP 242 #[I r,I c] w (Bt fun v w'=>AZ w w'∧∃vl,v= .agg #[I r,I c,vl]∧CJ w' w.heap.size 5 1 vl (r*c) (AS (Za r c).l)):=by
 obtain⟨f,hO,g⟩:=Ay w;obtain⟨p,hp⟩:∃p,p=r*c:=⟨_,Z⟩;have g:(r:Int)*(c:Int)=(p:Nat):=by rw[hp];simp
 have i:p≤1048576:=by rw[hp];exact WO j hc
 rw[Za,←hp];refine AY 12 #[.cell 4 266] func242 Z<|Q<|EK f 104 ET fun w1 b4 c1 f Bd=>?_;refine Ah<|Q<|M Z<|M Z<|M Z<|M Z<|E (HK Z Z Ai Ai) ?_;refine ve (GD c1 128 EE Z Z Ai Ai Ai) ?_;rintro v10 w2 ⟨c2,f,f⟩;rw[g,TJ,SM] at f;obtain⟨g,i,rfl,l,l⟩:=f.own.len;refine E (By (cells:=#[I r,I c, .slice g p i]) Z Ao) ?_;refine Av (Am BP Z Z Bd.D Z Z Bg) ?_;rintro _ g ⟨Bd,g⟩;refine Ah<|FH Z (DZ BP Z Bd.AE Z) ?_;exact⟨hO.D.below,_,Z,f.D.Mw hO.D AO⟩
theorem bu{c :Nat}{A:Option Addr}(p:1≤k∧k≤16)(hc:1≤c∧c≤16)(g:n=k*c):Calls QP 258 #[.agg #[I k,I c, .slice A n m]] w (Bt fun v w'=>AZ w w'∧v= .bool true):=by
 obtain⟨f,hO,i⟩:=Ay w;have o:(k:Int)*(c:Int)=(n:Nat):=by rw[g];simp
 have i:n≤256:=by rw[g];exact WO p.2 hc.2
 have i:(decide ((1:Int)≤(k:Int))&&decide ((k:Int)≤16))=true:=by simp;omega
 have j:(decide ((1:Int)≤(c:Int))&&decide ((c:Int)≤16))=true:=by simp;omega
 refine AY 22 #[.tmp 2] func258 Z<|Q<|Fa f 101 fun w1 b1 c1 f f=>?_;refine V Z<|Q<|E (Aa HX Z)<|E (Al AF Z f.AE Z)<|ve (Ac c1 1 (Ab fV Z (Rn _))) ?_;rintro l w2 ⟨c2,l,l,rfl⟩;refine M Z ?_;apply BU c2 true 3 _ CK
 ·intro l l;refine wo<|E (Aa HY Z)<|wo<|E (Al AF Z f.D.AE Z)<|wo<|ve (Ac c2 1 (Ab fV Z (Rn _))) ?_;rintro t t ⟨t,t,t,rfl⟩;exact BV 3 l.D
 intro l l l;refine M Z ?_;apply AW true 9 _ CK
 ·intro l;refine wo<|E (Aa Lh Z)<|wo<|E (Al Pq Z f.D.AE Z)<|wo<|E (BN EE) ?_;refine wo<|E (Aa HX Z)<|wo<|E (Al AF Z f.D.AE Z)<|wo<|E (Aa HY Z)<|wo<|E (Al AF Z f.D.AE Z)<|wo<|E (HK Z Z Ai Ai)<|wo<|E (BO Z Z) ?_;exact EQ 9
 refine V Z<|Af Z Z ?_;exact⟨hO.D.below,by simp[i,j,o]⟩
theorem Ol(f:Nat→List UInt8)(c:UInt8):∀(l:List UInt8) (k:Nat) (b:List UInt8),Ga f (l++[c]) k b=Kf (Ga f l k b) (f (k+l.length)) c
 |[],k,b=>rfl
 |d::l,k,b=>by
  rw[Adz,Ga,Ga,Ol f c l,SG];congr 2;omega
theorem JH{f:Nat→List UInt8}{n:Nat}:∀(l:List UInt8) (k:Nat) (b:List UInt8),b.length=n→(∀j,k≤j→j<k+l.length→n≤(f j).length)→(Ga f l k b).length=n
 |[],_,_,h,_=>h
 |c::l,k,b,h,hf=>by
  rw[Ga];refine JH l (k+1) _ ?_ fun j g i=>hf j G (by rw[SG];omega);rw[OM]
  ·exact h
  rw[h];exact hf k (kM _) (by rw[SG];omega)
theorem Hp{m:Mx}(h:m.ok)(hi:i<m.r):(m.row i).length=m.c:=by
 have f:(i+1)*m.c≤m.r*m.c:=WN _ hi;have g:(i+1)*m.c=i*m.c+m.c:=by rw[Aad,Aa2]
 have j:m.l.length=m.r*m.c:=h;rw[Mx.row,kL,kK];omega
theorem uB(A R B:List UInt8)(f:A.length=n):((A++R++B).drop n).take R.length=R:=by
 subst f;rw[oo,Ahn,Aco]
theorem qj(A R B:List UInt8)(f:A.length=n):(A++R++B).take n=A:=by
 subst f;rw[oo,Aco]
theorem mz(A R B:List UInt8)(f:A.length=n)(g:R.length=m):(A++R++B).drop (n+m)=B:=by
 subst f g;rw[←ft,Ahn]
theorem bw(A R B s:List UInt8)(c:UInt8)(f:A.length=n)(i:R.length=m):Rm (A++R++B) n m s c=A++Kf R s c++B:=by
 have g:=uB A R B f;rw[i] at g;rw[Rm,qj A R B f,g,mz A R B f i]
theorem JZ{a b:Mx}(g:b.ok)(o:a.c≤b.r)(f:a.ok):∀i,i≤a.r→(GY a b i).length=i*b.c
 |0,_=>by simp[GY]
 |i+1,h=>by
  rw[GY,ft,JZ g o f i G,JH (n:=b.c) _ _ _ Bb,Aad,Aa2];intro j _ l;rw[Hp f G,Abs] at l;rw[Hp g G];exact kM _
theorem Rp(n:Nat):∀i,(Wu n i).length=i*n
 |0=>by simp[Wu]
 |i+1=>by rw[Wu,ft,Rp n i,Yy,Iz,Aad,Aa2]
theorem PT(n i r:Nat)(h:i<r):replicate ((r-i)*n) (0:UInt8)=replicate n 0++replicate ((r-(i+1))*n) 0:=by
 have e:(r-i)*n=n+(r-(i+1))*n:=by
  rw[show r-i=1+(r-(i+1)) by omega,Aad,Aa2]
 rw[e,List.replicate_append_replicate]
theorem mA(n r i:Nat)(h:i<r)(f:i<n):(Wu n i++replicate ((r-i)*n) 0).set (i*n+i) 1=Wu n (i+1)++replicate ((r-(i+1))*n) 0:=by
 have hl:=Rp n i;rw[PT n i r h,Wu,Adm _ _ G,hl,Ab3,Age _ _ (by simpa using f),oo]
theorem qk{m:Mx}(h:m.ok)(hi:i<m.r)(O:k<m.c):some ((m.row i).getD k 0)=m.l[i*m.c+k]?:=by
 have f:=Hp h hi;rw[ID G,←dd,Mx.row,Ab2,zm O,Acb]
theorem OS(h:e++[i]<+:List.range n):e.length=i∧i<n:=by
 obtain⟨t,ht⟩:=h;have f:=Aao (fun l=>l[e.length]?) ht;simp only[oo,Abb (kM _),Acl,Adz,Afw] at f;obtain⟨g,j⟩:=kJ.1 f.symm;rw[Aap] at g;rw[Adk] at j;omega
theorem Je{env:Env}{op:Op}(f:AJ c w i A k a n b)(h:Hh H env w op d (fun v w'=>w.grownBy w' a.rowOf∧r v w')):
 Hh H env w op d (fun v w'=>∃c',Mv c w c' w' [i]∧(∀size,a.rowOf=some size→c' size=i)∧r v w'):=h.mono fun v w' ⟨hg,j⟩=>by
 obtain⟨c',g,_⟩:=Mv.grown c i hg f.BF;exact⟨c',g,fun size O=>(g.BF size (f.own.lt size O).2).trans (f.BF size O),j⟩
theorem ql(C:1≤n)(J:n≤16):Calls QP 261 #[I n] w (Bt fun v w'=>AZ w w'∧∃vl,v= .tuple #[.agg #[I n,I n,vl],I 0]∧CJ w' w.heap.size 5 1 vl (n*n) (AS (TC n).l)):=by
 obtain⟨c,hO,f⟩:=Ay w;have f:n*n≤256:=WO J J;have f:1≤n*n:=WO C C;have o:(decide ((1:Int)≤(n:Int))&&decide ((n:Int)≤16))=true:=by simp;omega
 refine AY 22 #[.cell 2 266, .tmp 3] func261 Z<|Q<|EK c 102 ET fun w1 b2 c1 f f=>?_;refine V Z<|Ag<|Q<|M Z<|ve (Ac c1 1 (Ab fV Z (Rn _))) ?_;rintro j w2 ⟨c2,t,j,rfl⟩;refine E (BL Z)<|Ah<|Cz Z (fun j=>?_) fun j=>?_
 ·exact absurd j (by simp[o])
 refine As<|Q<|M Z<|M Z<|ve (Ac c2 128 (Ab lG Z (Sj n n G G))) ?_;rintro j j ⟨j,o,o,⟨vl,rfl,hv⟩⟩;replace hv:=hv.Du o;have o:=hv.AA;have r:=hv.AD;obtain⟨g,cp,rfl,U,R⟩:=hv.CT G;refine EK j 104 ET fun j b4 j R Bd=>Av (Am BP Z Z Bd Z Z Bg) ?_;rintro _ R ⟨Bd,R⟩;refine Ah<|Ag<|Q<|E (Ba BP Z Bd.AE Z)<|ve (Ac j 126 (Ab fT Z (Ro r o))) ?_;rintro j j ⟨j,j,R,⟨b1,rfl,j,o⟩⟩;have r:AI _ _ 126 b1 _ 266:=⟨o,R _ j⟩;refine Ah<|An<|EJ (α:=Nat) (encs:=my g cp n) (κ:=[127]) (F:=[126]) (L:=List.range n)
  (fun pre d A=>CD w d A∧AJ d A 128 5 1 (.slice (some ⟨g,0,none⟩) (n*n) cp) (n*n) (AS (Wu n pre.length++replicate ((n-pre.length)*n) 0))∧AI d A 102 b2 _ _∧AI d A 104 b4 _ _) [] (fun _ _ _=>False) [128] Z Z fW (OR r G G U G G G) Z (fun _=>rfl) Bb Z
  (fun s d A j B h m=>⟨h.1.D m,h.2.1.D m,h.2.2.1.D m,h.2.2.2.D m⟩) (fun p hp=>by simp at hp) (fun s d A j B h _=>h.elim)
  ⟨hO.D,hv.D,f.D,Bd.D⟩ ?_ ?_ ?_ ?_
 ·clear hO hv f Bd r o;rintro l pre i d A1 ⟨hO,hv,f,Bd⟩ U;have j:=Acc.refl d A1 [128];refine Q<|V Z<|cg<|V Z<|⟨_,j,?_⟩;intro A2 t;have j:=Acc.refl d A2 [128];obtain⟨R,t⟩:=OS U;subst R;have R:pre.length*n+pre.length<n*n:=by
   have R:(pre.length+1)*n≤n*n:=WN _ t
   rw[Aad,Aa2] at R;omega
  have R:(Wu n pre.length++replicate ((n-pre.length)*n) (0:UInt8)).length=n*n:=by
   rw[ft,Rp,Iz,←Aad];congr 1;omega
  refine An<|cg<|M Z<|M Z<|E (HB EE Z Z G) ?_;refine Av (JY Ty hv.D Ai Z Z ra ra) ?_;rintro _ R ⟨R,R,hv⟩;refine Ah ?_;rw[show(Value.int .u8 1)= .int .u8 ((1:UInt8).toNat:Nat) from Z,LX,mA n n pre.length t t] at hv;exact⟨_,j.D,hO.D,by rw[ft];exact hv,f.D,Bd.D⟩
 ·clear hO hv f Bd r o;rintro j d B ⟨hO,hv,f,Bd⟩ j;rw[Aap,Acl,Ac4,Aej,Aaz] at hv;refine Q<|E (Ba BP Z Bd.AE Z)<|Av (Am BP Z Z f Z Z Bg) ?_;rintro _ o ⟨f,o⟩;refine V Z ?_;obtain⟨r,t⟩:=(j.D o).take;refine Jx Z Z r (DZ BP Z f.D.AE Z) (FD.tmp Z) ?_;exact⟨hO.D.below,_,Z,hv.D.Mw hO.D AO⟩
 ·intro p hp;simp at hp
 exact fun _ _ _ _ h=>h.elim
theorem Xx{a b:Mx}{vb:Value}(c5:CJ w 0 5 1 va (a.r*a.c) (AS a.l))(c6:CJ w 0 5 1 vb (b.r*b.c) (AS b.l))(U:a.ok)(a1:b.ok)(e7:a.c=b.r)
 (b8:1≤a.r)(b9:a.r≤16)(c7:1≤a.c)(c8:a.c≤16)(R:1≤b.c)(c0:b.c≤16):
 Calls QP 209 #[.agg #[I a.r,I a.c,va], .agg #[I b.r,I b.c,vb]] w (Bt fun v w'=>AZ w w'∧∃vl,v= .agg #[I a.r,I b.c,vl]∧CJ w' w.heap.size 5 1 vl (a.r*b.c) (AS (Me a b).l)):=by
 obtain⟨c,hO,r⟩:=Ay w;have f:AJ c w 0 5 1 va (a.r*a.c) (AS a.l):=⟨c5,fun k _=>r k⟩;have o:AJ c w 0 5 1 vb (b.r*b.c) (AS b.l):=⟨c6,fun k _=>r k⟩;have pa:1≤a.r*a.c:=WO b8 c7;have r:1≤b.r*b.c:=WO (show 1≤b.r by omega) R;have r:a.r*a.c≤256:=WO b9 c8;have r:b.r*b.c≤256:=WO (show b.r≤16 by omega) c0;have r:1≤a.r*b.c:=WO b8 R;have r:a.r*b.c≤256:=WO b9 c0;have a8:=f.AA;have c4:=f.AD;have r:=o.AA;have r:=o.AD;obtain⟨J,C,rfl,e4,r⟩:=f.CT G;obtain⟨b7,b6,rfl,e5,e6⟩:=o.CT G;refine AY 37 #[.cell 4 266] func209 Z<|Q<|Fa c 102 fun w1 b2 c1 r r=>?_;refine Fa c1 103 fun w2 b3 c2 a7 AR=>?_;refine EK c2 104 ET fun t b4 t c9 Bd=>Ah<|Q<|E (Aa HX Z)<|E (Al AF Z r.D.AE Z)<|E (Aa HY Z)<|E (Al AF Z AR.D.AE Z)<|ve (Ac t 128 (Ab lG Z (Sj a.r b.c G G))) ?_;rintro t t ⟨t,e0,a6,⟨vl,rfl,hv⟩⟩;replace hv:=hv.Du a6;have a6:=hv.AA;have a6:=hv.AD;obtain⟨g,cp,rfl,e2,e3⟩:=hv.CT G;refine EK t 105 ET fun t b5 t b0 Bv=>Av (Am BP Z Z Bv Z Z Bg) ?_;rintro _ a6 ⟨Bv,c3⟩;refine Ah<|Ag<|Q<|E (Ba BP Z r.D.AE Z)<|ve (Ac t 126 (Ab fT Z (Ro c4 a8))) ?_;rintro t t ⟨t,c4,e1,⟨b1,rfl,t,a6⟩⟩;have a8:AI _ _ 126 b1 _ 266:=⟨a6,e1 _ t⟩;refine Ah<|An<|EJ (α:=Nat) (encs:=my J C a.c) (κ:=[127]) (F:=[126]) (L:=List.range a.r)
  (fun pre d A=>CD w d A∧AJ d A 0 5 1 (.slice (some ⟨J,0,none⟩) (a.r*a.c) C) (a.r*a.c) (AS a.l)∧AJ d A 0 5 1 (.slice (some ⟨b7,0,none⟩) (b.r*b.c) b6) (b.r*b.c) (AS b.l)∧AJ d A 128 5 1 (.slice (some ⟨g,0,none⟩) (a.r*b.c) cp) (a.r*b.c) (AS (GY a b pre.length++replicate ((a.r-pre.length)*b.c) 0))∧AI d A 103 b3 _ _∧AI d A 104 b4 _ _∧AI d A 105 b5 _ _) [] (fun _ _ _=>False) [128] Z Z fW (OR a8 G (kM _) e4 G G G) Z (fun _=>rfl) Bb Z
  (fun s d A t B h m=>⟨h.1.D m,h.2.1.D m,h.2.2.1.D m,h.2.2.2.1.D m,h.2.2.2.2.1.D m,h.2.2.2.2.2.1.D m,h.2.2.2.2.2.2.D m⟩) (fun p hp=>by simp at hp) (fun s d A t B h _=>h.elim)
  ⟨hO.D,f.D,o.D,by simpa[GY,Za] using(((hv.D b0).D c3).D c4),AR.D,Bd.D,Bv.D⟩ ?_ ?_ ?_ ?_
 ·clear hO f o hv AR Bd Bv a8 a6;rintro l pre i d A1 ⟨hO,f,o,hv,AR,Bd,Bv⟩ e1;have t:=Acc.refl d A1 [128];refine Q<|V Z<|cg<|V Z<|⟨_,t,?_⟩;replace r:=(((((r.D a7).D c9).D e0).D b0).D c3).D c4;intro A2 a7;have t:=Acc.refl d A2 [128];obtain⟨b0,r⟩:=OS e1;subst b0;have c4:=JZ a1 G U pre.length G;have b0:=Hp U r
  have b0:(pre.length+1)*a.c≤a.r*a.c:=WN _ r
  have b0:(pre.length+1)*b.c≤a.r*b.c:=WN _ r
  replace hv:=hv.D a7;rw[PT b.c pre.length a.r r,←oo] at hv;have a7:a.l.length=a.r*a.c:=U;have a7:b.l.length=b.r*b.c:=a1;refine An<|Q<|M Z<|E (BN EE) ?_;refine M Z<|Ah<|An<|AG (σ:=Nat) (fun k=>[(3, .pointer (some ⟨b3,0,none⟩)),(5, .pointer (some ⟨b5,0,none⟩)),(6,I pre.length),(19, .slice (some ⟨J,pre.length*a.c,none⟩) a.c (C-pre.length*a.c)),(20,I a.c),(21,I k)]) (fun k w'=>k≤a.c∧∃c',CD w c' w'∧AJ c' w' 0 5 1 (.slice (some ⟨J,0,none⟩) (a.r*a.c) C) (a.r*a.c) (AS a.l)∧AJ c' w' 0 5 1 (.slice (some ⟨b7,0,none⟩) (b.r*b.c) b6) (b.r*b.c) (AS b.l)∧AJ c' w' 128 5 1 (.slice (some ⟨g,0,none⟩) (a.r*b.c) cp) (a.r*b.c) (AS (GY a b pre.length++Ga b.row ((a.row pre.length).take k) 0 (replicate b.c 0)++replicate ((a.r-(pre.length+1))*b.c) 0))∧AI c' w' 103 b3 _ _∧AI c' w' 104 b4 _ _∧AI c' w' 105 b5 _ _∧Acc d A2 [128] c' w') (fun k=>a.c-k) 0 AL ⟨G,_,hO.D,f.D,o.D,by simpa[Ga] using hv,AR.D,Bd.D,Bv.D,t⟩ ?_;rintro k C ⟨O,J,hO,f,o,hv,AR,Bd,Bv,t⟩;refine Q<|E (AX Z Z)<|Ah<|Ag<|BA Z (fun C=>?_) fun C=>?_
  ·have b7:k<a.c:=G;have C:(k+1)*b.c≤b.r*b.c:=WN _ G;have b6:=Hp a1 (show k<b.r by omega);have a7:pre.length*b.c+b.c≤a.r*b.c:=by rw[Aad,Aa2] at b0;exact b0
   have a7:k*b.c+b.c≤b.r*b.c:=by rw[Aad,Aa2] at C;exact C
   have c3:(a.row pre.length)[k]?=some ((a.row pre.length).getD k 0):=by rw[ID G];exact dd G
   have a7:=f.Zp (j:=pre.length*a.c+k) (u:= .int .u8 ((a.row pre.length).getD k 0).toNat) (by rw[AS,Aah,←qk U r b7];rfl);refine As<|Ag<|An<|Q<|M Z<|E (HB EE Z Z G)<|E (Cc Ty Z a7.DF)<|za Z ?_;refine V Z<|AM J [128] [1,0,2,1,0,2,1,0,2] [0,1,3,4,7,2,5,6,8] fun r r r=>?_;refine vc Z r.kp (Bv.D.kn BP Z Z)<|Bm Z Z<|vc Z r.kp (AR.D.kn BP Z Z)<|Bm Z Z<|Bm Z Z<|Db Z (Ac J 1 (Ab Lj Z (GL (k:=pre.length) R b0 e2 e3 G G))) ?_;rintro J J ⟨J,a7,b0,rfl⟩;refine r.Bl a7 fun r=>Db Z (Ac J 1 (Ab Lj Z (GL (k:=k) R C e5 e6 G G))) ?_;rintro C C ⟨C,C,J,rfl⟩;refine r.Bl C fun r=>vc Z r.kp (fun W C=>br underlying74 underlying9 underlying5 Z (o.D.kp C Z) G) ?_;refine Db Z (Je hv.D (Ab fU Z (Zq (s:=b.row k) hv.D.own G G (by rw[b6];exact kM _) G))) ?_;rintro C C ⟨C,C,J,hv⟩;refine r.Bl C fun r=>AP ?_;refine cg<|E (Bc Z Z Ai Ai)<|M Z<|Ah ?_;have C:(Ga b.row ((a.row pre.length).take k) 0 (replicate b.c 0)).length=b.c:=JH _ _ _ Bb fun j _ r=>by
    rw[kL] at r;rw[Hp a1 G];exact kM _
   have a7:(a.row pre.length).take (k+1)=(a.row pre.length).take k++[(a.row pre.length).getD k 0]:=by
    rw[List.take_add_one,c3];rfl
   have r:((a.row pre.length).take k).length=k:=by rw[kL];omega
   rw[bw _ _ _ _ _ c4 C] at hv;exact⟨k+1,AL,⟨G,_,hO.D,f.D,o.D,by rw[a7,Ol,r,Abs];exact⟨hv,J⟩,AR.D,Bd.D,Bv.D,t.D⟩,G⟩
  have e:k=a.c:=G;subst e;refine Az Z ?_;rw[vq G] at hv;exact⟨_,t,hO,f,o,by rw[ft];exact hv,AR,Bd,Bv⟩
 ·clear hO f o hv AR Bd Bv a8 a6;rintro r d B ⟨hO,f,o,hv,AR,Bd,Bv⟩ f;rw[Aap,Acl,Ac4,Aej,Aaz] at hv;refine Q<|E (Ba BP Z Bv.AE Z)<|Av (Am BP Z Z Bd Z Z Bg) ?_;rintro _ o ⟨Bd,o⟩;refine Ah ?_;obtain⟨r,t⟩:=(f.D o).take;refine GF Z Z r (DZ BP Z Bd.D.AE Z) ?_;exact⟨hO.D.below,_,Z,hv.D.Mw hO.D AO⟩
 ·intro p hp;simp at hp
 exact fun _ _ _ _ h=>h.elim
section
variable {P:Program} {env:Env} {w:World} {ty t e:TypeId} {by_:Nat} {z:List Value} {c:Nat→Nat} {i n cap g o m cp:Nat} {xs:List Value}
theorem AJ.bx(h:AJ c w i e 1 (.slice (some ⟨g,0,none⟩) n cap) n xs)(r:o+m≤n)(W:World)(l:W.heap=w.heap):(Builtin.firstCells 1 m (.slice (some ⟨g,o,none⟩) m cp)).run P W= .ok ((xs.drop o).take m).toArray W:=by
 have hl:=h.own.1;rw[Acn] at hl;refine Ab8 (P:=P) W 1 m ⟨g,o,none⟩ m cp _ (by rw[kL,kK];omega) fun j u f=>?_;have p:j<m:=by
  have:=(kJ.1 f).1;rw[kL] at this;omega
 rw[Ab2,zm p,Acb] at f;have:=(h.Zp f).DF.1 0 u Z;rw[Aeh (w:=w) (w':=W) (by rw[l])];simpa[add_lit] using this
theorem Rq{x y:Operand}(ht:JQ P t=some (e,1,by_,z))(U:AJ c w i e 1 (.slice (some ⟨g,0,none⟩) n cap) n xs)(a7:o+m≤n)(a6:0<m)(hx:BY env x=some (.slice (some ⟨g,o,none⟩) m cp))(hy:BY env y=some a)
 (J:∀W:World,(Builtin.lenOf a).run P W= .ok m W)(C:∀W:World,W.heap=w.heap→(Builtin.firstCells 1 m a).run P W= .ok news.toArray W)(R:news.length=m)(p:∀y∈news,y.oneCell'=true):
 Hh P env w (.call ⟨.builtin .copy,#[x,y],#[t,d]⟩) ty (fun _ w'=>∃c',Mv c w c' w' [i]∧AJ c' w' i e 1 (.slice (some ⟨g,0,none⟩) n cap) n (xs.take o++news++xs.drop (o+m))):=
 Cr fun _ j l t2 pos j g2=>by
  obtain⟨hu,j,j,hi,hs,j,j,j,j⟩:=DU ht;obtain⟨j,j,w',hv,a1,j,r⟩:=U.put (P:=P) (o:=o) (news:=news) G G p;injection hv with hg _ _;injection hg with hg;injection hg with hg _ _;subst hg;have hf:=C w Z;rw[R] at j;refine⟨I ((m:Nat):Int),w',?_,c,r,j⟩;simp[execOp,resolve,invoke,builtin,Builtin.copy_,l.eval hx,l.eval hy,Aaj hu,sizeOf,typeInfo,hi,hs,J,hf,a1,goInt]
end
theorem AJ.bz{g o:Nat}(h:AJ c w i d 1 (.slice (some ⟨g,0,none⟩) n k) n b)(p:o+m≤n):AT w ⟨g,o,none⟩ ((b.drop o).take m):=fun j u f=>by
 have hl:=h.own.1;rw[Acn] at hl;have l:j<m:=by
  have:=(kJ.1 f).1;rw[kL] at this;omega
 rw[Ab2,zm l,Acb] at f;have:=(h.Zp f).DF.1 0 u Z;simpa[add_lit] using this
theorem AJ.mB{w:World}(hO:CD w c w')(h:AJ c w' i d k a n b)(hi:i≠0):CJ w' w.heap.size d k a n b:=by
 obtain⟨hl,f⟩:=h.own;refine⟨hl,?_⟩;rcases f with f|⟨g,cap,l,o,rfl,j,p,r,t,C,I,J,j⟩
 ·exact .inl f
 refine .inr ⟨g,cap,l,o,Z,?_,p,r,t,C,I,J,j⟩;rcases Aab g w.heap.size with l|f
 ·have:=h.BF g (Bh j);rw[hO.BF g l] at this;exact absurd this.symm hi
 exact f
theorem PU(l:List UInt8):∀y∈AS l,y.oneCell'=true:=fun y hy=>by
 obtain⟨b,_,rfl⟩:=Aag.1 hy;rfl
theorem JI(l:List UInt8)(o m:Nat):((AS l).drop o).take m=AS ((l.drop o).take m):=by simp[AS,List.map_drop,Afq]
theorem gB(h:k+m≤s.length):(((AS s).drop k).take m).length=m:=by rw[kL,kK,AS,kr];omega
theorem gC(l:List UInt8)(o m:Nat):∀y∈((AS l).drop o).take m,y.oneCell'=true:=fun y hy=>PU l y (Acy (Aca hy))
theorem Nh(l r:List UInt8)(o m:Nat):(AS l).take o++AS r++(AS l).drop (o+m)=AS (l.take o++r++l.drop (o+m)):=by simp[AS,List.map_drop,Afq]
theorem Xy(P:Program)(g o m cp:Nat)(W:World):(Builtin.lenOf (.slice (some ⟨g,o,none⟩) m cp)).run P W= .ok m W:=by simp[Builtin.lenOf]
theorem Xz{o cp:Nat}(h:CJ w 0 5 1 (.slice (some ⟨k,0,none⟩) n i) n (AS s))(r:o+m≤n)(I:n≤1048576):Calls QP 300 #[.slice (some ⟨k,o,none⟩) m cp] w (Bt fun v' w'=>AZ w w'∧CJ w' w.heap.size 5 1 v' m (AS ((s.drop o).take m))):=by
 obtain⟨c,hO,j⟩:=Ay w;have t:AJ c w 0 5 1 (.slice (some ⟨k,0,none⟩) n i) n (AS s):=⟨h,fun g _=>j g⟩;have J:s.length=n:=by have:=h.1;simpa[AS] using this
 refine AY 8 #[.tmp 2] func300 Z<|Q<|V Z<|Ag<|Q<|M Z<|E (UT underlying74 Z)<|Ah<|Cz Z (fun cap=>?_) fun cap=>?_
 ·simp at cap
 refine As<|Q<|ve ((GJ c EE)) ?_;rintro R w1 ⟨c1,p,⟨b5,rfl⟩⟩;have f:AJ c1 w1 50 5 1 (.slice (some ⟨b5,0,none⟩) 0 0) 0 []:=PN;have l:=(t.D p).bz (o:=o) (m:=m) r;rw[JI] at l;refine M Z ?_;refine ve (Ax EE Z Z f (Aw underlying74 l (by simp[AS];omega) (PU _)) Fh Fg) ?_;rintro U w2 ⟨c2,C,f⟩;rw[Abu,Abs] at f;refine V Z<|Af Z Z ?_;exact⟨hO.D.below,f.mB hO.D AO⟩
theorem bA{g cap :Nat}{m:Mx}(h:CJ w 0 5 1 (.slice (some ⟨g,0,none⟩) n cap) n (AS m.l))(r:m.ok)(a1:n=m.r*m.c)(hi:i<m.r)(O:k<m.r)(t:1≤m.c)(b2:m.c≤16)(b4:m.r≤16)(C:n≤cap)(J:cap≤9223372036854775807):
 Calls QP 297 #[.agg #[I m.r,I m.c, .slice (some ⟨g,0,none⟩) n cap],I i,I k] w (Bt fun _ w'=>w.grownBy w' (Value.rowOf (.slice (some ⟨g,0,none⟩) n cap))∧CJ w' 0 5 1 (.slice (some ⟨g,0,none⟩) n cap) n (AS (Hx m i k).l)):=by
 obtain⟨v,hv⟩:∃v,v=Value.slice (some ⟨g,0,none⟩) n cap:=⟨_,Z⟩;obtain⟨c,hc⟩:∃c:Nat→Nat,c=fun k=>if v.rowOf=some k then 5 else 0:=⟨_,Z⟩
 have f:AJ c w 5 5 1 (.slice (some ⟨g,0,none⟩) n cap) n (AS m.l):=⟨h,fun k O=>by rw[hc];dsimp only;rw[if_pos (by rw[hv];exact O)]⟩;have p:=Acc.refl c w [5];have j:m.l.length=n:=by rw[a1];exact r
 have j:n≤256:=by rw[a1];exact WO b4 b2
 have R:(i+1)*m.c≤n:=by rw[a1];exact WN _ hi
 have U:(k+1)*m.c≤n:=by rw[a1];exact WN _ O
 have a8:i*m.c+m.c≤n:=by rw[Aad,Aa2] at R;exact R
 have b0:k*m.c+m.c≤n:=by rw[Aad,Aa2] at U;exact U
 refine AY 26 #[] func297 Z<|Q<|Fa c 103 fun w1 b3 c1 a6 AR=>?_;refine Ah<|Q<|M Z<|M Z<|E (BK Z Z)<|Ah<|BA Z (fun j=>?_) fun j=>?_
 ·refine Q<|E (Ba BP Z AR.AE Z)<|M Z ?_;refine ve (Ac c1 1 (Ab Lj Z (GL (k:=i) t R C J G G))) ?_;rintro j w2 ⟨c2,b5,j,rfl⟩;refine ve (Ac c2 7 (Ab sN Z (Xz f.D.own a8 G))) ?_;rintro j j ⟨a7,b6,j,hs⟩;replace hs:=hs.Du j;obtain⟨j,cs,rfl,j,j⟩:=hs.CT G;refine V Z<|Ag<|AM a7 [5] [1,0,2,1,0,2,2] [0,1,3,4,2,5,6] fun j b7 j=>?_;refine vc Z j.kp (AR.D.kn BP Z Z)<|Bm Z Z<|vc Z j.kp (AR.D.kn BP Z Z)<|Bm Z Z<|Db Z (Ac a7 1 (Ab Lj Z (GL (k:=i) t R C J G G))) ?_;rintro R R ⟨a7,R,b1,rfl⟩;refine j.Bl R fun j=>Db Z (Ac a7 1 (Ab Lj Z (GL (k:=k) t U C J G G))) ?_;rintro a7 a7 ⟨a7,a7,b1,rfl⟩;refine j.Bl a7 fun j=>Db Z ((Rq (x:= .tmp 16) (y:= .tmp 19) EE f.D a8 G Z Z (Xy _ _ _ _ _) (f.D.bx b0) (gB G) (gC _ _ _))) ?_;rintro v20 a8 ⟨b1,a8,f⟩;refine j.Bl a8 fun j=>AP ?_;refine cg<|E (Ba BP Z AR.D.AE Z)<|M Z<|ve (Ac b1 1 (Ab Lj Z (GL (k:=k) t U C J G G))) ?_;rintro j j ⟨j,j,U,rfl⟩;refine M Z ?_;refine ve ((Rq EE f.D b0 G Z Z (Xy _ _ _ _ _) (hs.D.bx (o:=0) (m:=m.c) G) (gB (by rw[kL,kK];omega)) (gC _ _ _))) ?_;rintro U U ⟨U,U,f⟩;refine Ah<|⟨_,_,Z,Z,?_⟩;replace p:=((((((((p.D a6).D b5).D b6).D b7).D R).D a7).D a8).D j).D U;have hg:=If (by rw[hc] at p;exact p.RS) Z;rw[hv] at hg;refine⟨Z,hg,?_⟩
  first
  |(have e:i=k:=by omega);rw[Hx,zm e];exact f.own
  |rw[Hx,ss G];rw[JI,JI,Nh,Nh,Adl,vq (l:=(m.l.drop (i*m.c)).take m.c) (by rw[kL];omega)] at f;have j:=Hp r hi;have R:=Hp r O;simp only[Mx.put,j,R];exact f.own
 refine As<|⟨_,_,Z,Z,?_⟩;replace p:=p.D a6;have hg:=If (by rw[hc] at p;exact p.RS) Z;rw[hv] at hg;refine⟨Z,hg,?_⟩;replace f:=f.D a6
 first
 |(have e:i=k:=by omega);rw[Hx,zm e];exact f.own
 |rw[Hx,ss G];rw[JI,JI,Nh,Nh,Adl,vq (l:=(m.l.drop (i*m.c)).take m.c) (by rw[kL];omega)] at f;have j:=Hp r hi;have R:=Hp r O;simp only[Mx.put,j,R];exact f.own
def Sq(n:Nat)(m:Mx):Prop:=m.r=n∧m.c=n∧m.l.length=n*n
theorem Sq.ok{m:Mx}(h:Sq n m):m.ok:=by
 obtain⟨f,g,i⟩:=h;rw[Mx.ok,f,g,i]
theorem Sq.row{m:Mx}(h:Sq n m)(hi:i<n):(m.row i).length=n:=by
 rw[Hp h.ok (by rw[h.1];exact hi),h.2.1]
theorem Sq.put{m:Mx}(h:Sq n m)(hi:i<n)(hx:s.length=n):Sq n (m.put i s):=by
 obtain⟨g,f,j⟩:=h;refine⟨g,f,?_⟩;have l:(i+1)*n≤n*n:=WN _ hi;rw[Aad,Aa2] at l;simp only[Mx.put,ft,kL,kK,j,f,hx];omega
theorem Sq.qm{m:Mx}(h:Sq n m)(hi:i<n)(O:k<n):Sq n (Hx m i k):=by
 rw[Hx];split
 ·exact h
 ·exact(h.put hi (h.row O)).put O (h.row hi)
theorem Sq.scale{m:Mx}(h:Sq n m){o:UInt8}(O:k<n):Sq n (Mf m k o):=h.put O (by rw[kr];exact h.row O)
theorem Sq.yR{m:Mx}(h:Sq n m){o:UInt8}(hi:i<n)(O:k<n):Sq n (m.put i (Kf (m.row i) (m.row k) o)):=h.put hi (by
 have a:=h.row hi;have b:=h.row O;rw[OM G];exact a)
theorem gD{n c g:Nat}(f:g<n){p:Mx×Mx}(i:Sq n p.1)(j:Sq n p.2):∀k,k≤n→Sq n (elimM c g k p).1∧Sq n (elimM c g k p).2
 |0,_=>⟨i,j⟩
 |k+1,O=>by
  obtain⟨a,b⟩:=gD f i j k G;rw[elimM];split
  ·exact⟨a.yR G f,b.yR G f⟩
  ·exact⟨a,b⟩
theorem qn{c :Nat}(f:k<n)(hi:i<n){p:Mx×Mx}(j:Sq n p.1)(l:Sq n p.2):Sq n (QU c k i p).1∧Sq n (QU c k i p).2:=by
 rw[QU];exact gD f ((j.qm hi f).scale f) ((l.qm hi f).scale f) _ (by rw[j.1];exact kM _)
theorem iH{m:Mx}{c :Nat}(h:(m.row i).getD c 0=0):Kg m c (k+1) i=Kg m c k (i+1):=by rw[Kg,zm h]
theorem mC{m:Mx}{c :Nat}(h:(m.row i).getD c 0≠0):Kg m c (k+1) i=some i:=by rw[Kg,ss h]
theorem Vg{c:Nat}{p:Mx×Mx}(h:Kg p.1 c (p.1.r-m) m=none):EF (k+1) c m p=EF k (c+1) m p:=by rw[EF,h]
theorem Vh{c :Nat}{p:Mx×Mx}(h:Kg p.1 c (p.1.r-m) m=some i):EF (k+1) c m p=EF k (c+1) (m+1) (QU c m i p):=by rw[EF,h]
def ad{α:Type}(j:Nat)(a b:α):α:=if j=0 then a else b
structure Qn (c:Nat→Nat) (w:World) (i g cp n:Nat) (m:Mx):Prop where
 own:AJ c w i 5 1 (.slice (some ⟨g,0,none⟩) (n*n) cp) (n*n) (AS m.l)
 sq:Sq n m
 le:n*n≤cp
 RT:cp≤9223372036854775807
abbrev kO(g cp n:Nat):Value:= .slice (some ⟨g,0,none⟩) (n*n) cp
abbrev gE(g cp n:Nat):List Value:=[I n,I n,kO g cp n]
theorem Qn.D{c:Nat→Nat}{w:World}{cp:Nat}{m:Mx}(h:Qn c w i k cp n m)(Mjq:Mv c w c' w' e:=by exact Go.Eng.KU)(hi:AU e i=false:=by rfl):Qn c' w' i k cp n m:=⟨h.own.D Mjq hi,h.sq,h.le,h.RT⟩
theorem Rr{w:World}(h:w.grownBy w' a.rowOf)(hc:∀k,a.rowOf=some k→c k=i):∃c',Mv c w c' w' [i]∧∀k,k<w.heap.size→c' k=c k:=by
 obtain⟨c',f,_⟩:=Mv.grown c i h hc;exact⟨c',f,fun k O=>f.BF k O⟩
theorem qo{A B:List Value}(h:AI c w i k (A++B) d)(g:A.length=3)(l:B.length=3)(o:m<2):DG c w [i] ⟨k,m*3,none⟩ (ad m A B):=by
 refine⟨⟨fun b v hv=>?_,h.AE.lt⟩,by rw[show((⟨k,m*3,none⟩:Addr)).block=k from Z,h.BF];simp[AU]⟩;have f:=h.AE;unfold Gt at f;have O:(A++B)[m*3+b]?=some v:=by
  unfold ad at hv;split at hv
  ·rename_i e;have:=(kJ.1 hv).1;rw[e,Ac4,Abs,Abh G];exact hv
  rw[show m=1 by omega,Abb G,g,show 1*3+b-3=b by omega];exact hv
 simp[World.cell?,f,add_lit,O]
theorem ef{C r g2 t j:Nat}{m x:Mx}(f:Qn c w 5 C r n m)(l:Qn c w 6 g2 t n x)(a1:1≤n)(J:n≤16)(hi:i<n)(O:k<n):
 Calls QP 297 #[.agg #[I n,I n,ad j (kO C r n) (kO g2 t n)],I i,I k] w (Bt fun _ w'=>∃c',Mv c w c' w' [5,6]∧Qn c' w' 5 C r n (ad j (Hx m i k) m)∧Qn c' w' 6 g2 t n (ad j x (Hx x i k))):=by
 unfold ad;split
 ·have hp:=bA (w:=w) (g:=C) (n:=n*n) (cap:=r) (i:=i) (k:=k) (m:=m) (f.own.own.Eu (Wm _)) f.sq.ok (by rw[f.sq.1,f.sq.2.1]) (by rw[f.sq.1];exact hi) (by rw[f.sq.1];exact O) (by rw[f.sq.2.1];exact a1) (by rw[f.sq.2.1];exact J) (by rw[f.sq.1];exact J) f.le f.RT;rw[f.sq.1,f.sq.2.1] at hp;refine hp.mono ?_;rintro e w' ⟨v,rfl,hg,U⟩;obtain⟨c',o,R⟩:=Rr hg f.own.BF;exact⟨v,Z,c',o.more Z,⟨⟨U,fun q p=>(R q (f.own.own.lt q p).2).trans (f.own.BF q p)⟩,f.sq.qm hi O,f.le,f.RT⟩,l.D o⟩
 have hp:=bA (w:=w) (g:=g2) (n:=n*n) (cap:=t) (i:=i) (k:=k) (m:=x) (l.own.own.Eu (Wm _)) l.sq.ok (by rw[l.sq.1,l.sq.2.1]) (by rw[l.sq.1];exact hi) (by rw[l.sq.1];exact O) (by rw[l.sq.2.1];exact a1) (by rw[l.sq.2.1];exact J) (by rw[l.sq.1];exact J) l.le l.RT;rw[l.sq.1,l.sq.2.1] at hp;refine hp.mono ?_;rintro e w' ⟨v,rfl,hg,U⟩;obtain⟨c',o,R⟩:=Rr hg l.own.BF;exact⟨v,Z,c',o.more Z,f.D o,⟨⟨U,fun q p=>(R q (l.own.own.lt q p).2).trans (l.own.BF q p)⟩,l.sq.qm hi O,l.le,l.RT⟩⟩
theorem iI{a:Mx}(h:m<2):ad m (Hx (if m=0 then a else Hx a i k) i k) (if m=0 then a else Hx a i k)=(if m+1=0 then a else Hx a i k):=by
 rcases(show m=0∨m=1 by omega) with rfl|rfl<;>simp[ad]
theorem eg{a:Mx}(h:m<2):ad m (if m=2 then Hx a i k else a) (Hx (if m=2 then Hx a i k else a) i k)=(if m+1=2 then Hx a i k else a):=by
 rcases(show m=0∨m=1 by omega) with rfl|rfl<;>simp[ad]
theorem Zr(h:k<n):k*n+n≤n*n:=by
 have:(k+1)*n≤n*n:=WN _ h;rw[Aad,Aa2] at this;exact this
theorem XA{g cp f :Nat}{m:Mx}{b:UInt8}(h:Qn c w i g cp n m)(j:n≤16)(O:k<n):
 Calls QP 299 #[.slice (some ⟨g,k*n,none⟩) n f, .int .u8 b.toNat] w (Bt fun _ w'=>∃c',Mv c w c' w' [i]∧Qn c' w' i g cp n (Mf m k b)):=by
 have J:n*n≤256:=WO j j;have hp:=iG (w:=w) (g:=g) (n:=n*n) (cap:=cp) (o:=k*n) (m:=n) (cp:=f) (xs:=m.l) (b:=b) (h.own.own.Eu (Wm _)) (Zr O) G;refine hp.mono ?_;rintro e w' ⟨v,rfl,hg,I⟩;obtain⟨c',C,t⟩:=Rr hg h.own.BF;have p:(Mf m k b).l=m.l.take (k*n)++(((m.l.drop (k*n)).take n).map fun x=>JA x b)++m.l.drop (k*n+n):=by
  have r:=h.sq.row O;simp only[Mf,Mx.put,kr,r];rw[Mx.row,h.sq.2.1]
 exact⟨v,Z,c',C,⟨by rw[p];exact I,fun q l=>(t q (h.own.own.lt q l).2).trans (h.own.BF q l)⟩,h.sq.scale O,h.le,h.RT⟩
theorem bB{g cp f :Nat}{m:Mx}{b:UInt8}(h:Qn c w i g cp n m)(l:n≤16)(O:k<n)(hs:s.length=n):
 Calls QP 241 #[.slice (some ⟨g,k*n,none⟩) n f,St s, .int .u8 b.toNat] w (Bt fun _ w'=>∃c',Mv c w c' w' [i]∧Qn c' w' i g cp n (m.put k (Kf (m.row k) s b))):=by
 have R:n*n≤256:=WO l l;have hp:=Zq (w:=w) (g:=g) (n:=n*n) (cap:=cp) (o:=k*n) (m:=n) (cp:=f) (xs:=m.l) (s:=s) (b:=b) (h.own.own.Eu (Wm _)) (Zr O) G G G;refine hp.mono ?_;rintro e w' ⟨v,rfl,hg,J⟩;obtain⟨c',I,C⟩:=Rr hg h.own.BF;have t:=h.sq.row O;have j:(Kf (m.row k) s b).length=n:=by rw[OM G,t]
 have r:(m.put k (Kf (m.row k) s b)).l=Rm m.l (k*n) n s b:=by
  simp only[Mx.put,j,Rm,h.sq.2.1];rw[Mx.row,h.sq.2.1]
 exact⟨v,Z,c',I,⟨by rw[r];exact J,fun q p=>(C q (h.own.own.lt q p).2).trans (h.own.BF q p)⟩,h.sq.put O j,h.le,h.RT⟩
theorem Qn.get{cp j:Nat}{g:Mx}(h:Qn c w i m cp n g)(O:k<n)(l:j<n):DG c w [i] ⟨m,k*n+j,none⟩ [.int .u8 ((g.row k).getD j 0).toNat]:=by
 have f:g.l[k*n+j]?=some ((g.row k).getD j 0):=by
  have:=qk h.sq.ok (show k<g.r by rw[h.sq.1];exact O) (show j<g.c by rw[h.sq.2.1];exact l);rw[h.sq.2.1] at this;exact this.symm
 exact h.own.Zp (by rw[AS,Aah,f];rfl)
section
variable {c c':Nat→Nat} {w w':World} {I:List Nat}
structure Jr (c:Nat→Nat) (w:World) (Ds:List Nat):Prop where
 each:∀Djq∈Ds,w.heap[Djq]?=some (.deferred (some []))∧c Djq=902
 nodup:Ds.Nodup
theorem Jr.nil(c:Nat→Nat)(w:World):Jr c w []:=⟨fun _ h=>by simp at h,List.nodup_nil⟩
theorem Jr.D(h:Jr c w e)(m:Mv c w c' w' I:=by exact Go.Eng.KU)(hi:AU I 902=false:=by rfl):Jr c' w' e:=
 ⟨fun Djq l=>by
  obtain⟨g,i⟩:=h.each Djq l;have j:=Cp g;exact⟨(m.block Djq j (by rw[i];exact hi)).trans g,(m.BF Djq j).trans i⟩,h.nodup⟩
def re(c:Nat→Nat)(Djq:Nat):Nat→Nat:=fun k=>if k=Djq then 902 else c k
theorem td(h:k≠m):re c m k=c k:=by simp[re,h]
theorem eh(f:c m=901)(h:c k=i)(hi:Nat.beq i 901=false):re c m k=i:=by
 rw[td fun e=>?_,h];subst e;rw[f] at h;subst h;cases hi
theorem AI.re{Djq i b:Nat}{cs:List Value}{t:TypeId}(h:AI c w i b cs t)(f:Kv c w Djq)(hi:Nat.beq i 901=false:=by rfl):AI (re c Djq) w i b cs t:=⟨h.AE,eh f.BF h.BF hi⟩
theorem AJ.re{Djq i size n:Nat}{e:TypeId}{v:Value}{xs:List Value}(h:AJ c w i e size v n xs)(f:Kv c w Djq)(hi:Nat.beq i 901=false:=by rfl):AJ (re c Djq) w i e size v n xs:=⟨h.own,fun k O=>eh f.BF (h.BF k O) hi⟩
theorem BE.re{c0:Nat→Nat}{w0:World}{J:List Nat}{Djq:Nat}(h:BE c0 w0 J c w)(i:Kv c w Djq)(hi:AU (0::J) 901=false:=by rfl):BE c0 w0 J (re c Djq) w:=by
 refine⟨h.os,h.tape,h.output,h.size,fun k O=>?_,h.block⟩;have f:=h.BF k O;have:k≠Djq:=fun e=>by
  subst e;rw[i.BF] at f;simp only[AU,Ac3,Aa1] at hi;unfold Bw at f;split at f
  ·rename_i g;rw[←f] at g;rw[show AU J 901=false from hi.2] at g;cases g
  cases f
 rw[td this];exact f
theorem Jr.add(h:Jr c w e)(g:Kv c w k):Jr (Go.Eng.re c k) w (k::e):=by
 have o:k∉e:=fun l=>by
  have:=(h.each k l).2;rw[g.BF] at this;cases this
 refine⟨fun j i=>?_,Afc.2 ⟨o,h.nodup⟩⟩;rcases Aak.1 i with rfl|i
 ·exact⟨g.obj,by simp[Go.Eng.re]⟩
 obtain⟨a,b⟩:=h.each j i;exact⟨a,eh g.BF b Z⟩
abbrev Zs(f:List Nat):Value:= .tuple (f.map I').toArray
theorem Jr.take:∀{f:List Nat} {c:Nat→Nat} {w:World},Jr c w f→∃w',Mk (marksOf (Zs f)) w w'∧Mv c w c w' [902]
 |[],c,w,_=>⟨w,by simp[marksOf,Mk],Mv.refl _ _ _⟩
 |Djq::f,c,w,h=>by
  obtain⟨l,o⟩:=h.each Djq Bb;obtain⟨t,C⟩:=Afc.1 h.nodup;have p:Mv c w c (w.putObj Djq (.deferred none)) [902]:=GX _ o;have j:Jr c (w.putObj Djq (.deferred none)) f:=⟨fun i g=>by
   obtain⟨a,b⟩:=h.each i (Aaw _ g);exact⟨(Abx (fun e=>t (by first|exact e▸g|exact e.symm▸g))).trans a,b⟩,C⟩
  obtain⟨w',ht,r⟩:=j.take;refine⟨w',?_,p.tr r Z⟩;simp only[marksOf,Zs,Aci] at ht⊢;refine⟨Djq,?_,l,?_⟩
  ·simp[I']
  simpa using ht
structure yS (c:Nat→Nat) (w:World) (Ds:List Nat) (w':World):Prop where
 take:Mk (marksOf (Zs Ds)) w w'∧Mv c w c w' [902]
theorem Jr.Hy(h:Jr c w e):∃w',yS c w e w':=by
 obtain⟨w',a,b⟩:=h.take;exact⟨w',a,b⟩
end
section
variable {c:Cx} {B:List (Nat×EI)} {env:Env} {w:World} {N:EI}
theorem iJ{σ:Type}{x:Code}(Mjq:σ→Value)(i:σ→Env)(I:σ→World→Prop)(j:σ→Nat)(g:σ)(U:Sub (i g) env)(p:I g w)
 (round:∀s w,I s w→WC c B x ((4000000,Mjq s)::i s) w (fun o w'=>∃s',Sub ((4000000,Mjq s')::i s') o∧I s' w'∧j s'<j s))(J:Ef env=some (Mjq g):=by rfl):WC c B (.loop x) env w N:=by
 intro a f;refine wpIn_loop_ghost (fun k a w=>∃s,Ex c.n ((4000000,Mjq s)::i s) a∧I s w∧j s=k) (j g) ⟨g,f.sub (WQ J U),p,Z⟩ ?_;rintro k a w ⟨s,hs,f,rfl⟩;refine Aer (round s w f a hs) ?_;intro e f w' f;cases e with
 |normal=>
  obtain⟨o,R,s',r,t,C⟩:=f;exact⟨_,C,s',R.sub r,t,Z⟩
 |exit id=>exact f
 |ret=>exact f
 |goto l=>exact f
 |panic r=>exact f
 |outgrown=>exact f
end
theorem Qn.re{i g cp n Djq:Nat}{m:Mx}(h:Qn c w i g cp n m)(f:Kv c w Djq)(hi:Nat.beq i 901=false:=by rfl):Qn (re c Djq) w i g cp n m:=⟨h.own.re f hi,h.sq,h.le,h.RT⟩
theorem iK{g2 a6:Nat}{a1 x:Mx}(f:Qn c w 5 m i n a1)(g:Qn c w 6 g2 a6 n x)(b4:1≤n)(b9:n≤16):
 Calls QP 262 #[.agg (gE m i n).toArray, .agg (gE g2 a6 n).toArray] w (Bt fun v w'=>∃c',Mv c w c' w' [5,6]∧v=I (EF n 0 0 (a1,x)).1∧Qn c' w' 5 m i n (EF n 0 0 (a1,x)).2.1∧Qn c' w' 6 g2 a6 n (EF n 0 0 (a1,x)).2.2):=by
 have hJ:=BE.start c w [5,6];replace f:Qn (Bw c [5,6]) w 5 m i n a1:=⟨f.own.Dt Z,f.sq,f.le,f.RT⟩;replace g:Qn (Bw c [5,6]) w 6 g2 a6 n x:=⟨g.own.Dt Z,g.sq,g.le,g.RT⟩;generalize Bw c [5,6]=c0 at hJ f g;have r:n*n≤256:=Nat.mul_le_mul b9 b9;refine AY 98 #[.tmp 4] func262 Z<|Q<|Fa c0 102 fun w1 b2 c1 r t=>?_;refine Fa c1 103 fun w2 b3 c2 c9 AR=>?_;refine V Z<|Xi<|Q<|EK c2 105 QN fun r b5 r r Bv=>?_;refine Av (Ap AF Z Z ra ra Bv Z) ?_;rintro _ r ⟨Bv,r⟩;refine Ah<|Ag<|WU<|Ag<|Q<|E (Aa HY Z)<|E (Al AF Z t.D.AE Z)<|M Z<|Ah<|An<|iJ (σ:=Nat×Nat×(Mx×Mx)×List Nat) (fun r=>Zs r.2.2.2) (fun r=>[(2, .pointer (some ⟨b2,0,none⟩)),(3, .pointer (some ⟨b3,0,none⟩)),(5, .pointer (some ⟨b5,0,none⟩)),(15,I n),(16,I r.1)]) (fun r w'=>r.1≤n∧r.2.1≤r.1∧EF (n-r.1) r.1 r.2.1 r.2.2.1=EF n 0 0 (a1,x)∧∃c',BE c w [5,6] c' w'∧Jr c' w' r.2.2.2∧Qn c' w' 5 m i n r.2.2.1.1∧Qn c' w' 6 g2 a6 n r.2.2.1.2∧AI c' w' 102 b2 (gE m i n) 266∧AI c' w' 103 b3 (gE g2 a6 n) 266∧AI c' w' 105 b5 [I r.2.1] 3) (fun r=>n-r.1) (0,0,(a1,x),[]) AL ⟨Nat.zero_le _,Nat.le_refl _,Z,_,hJ.D,Jr.nil _ _,f.D,g.D,t.D,AR.D,Bv⟩ ?_;rintro⟨BF,r,p,b7⟩ e5 ⟨C,R,a8,a7,hJ,J,f,g,t,AR,Bv⟩;dsimp only at C R a8 J f g Bv⊢;refine Q<|E (AX Z Z)<|Ah<|Ag<|BA Z (fun C=>?_) fun C=>?_
 ·have e4:BF<n:=G;have c6:p.1.r=n:=f.sq.1;rw[show n-BF=(n-(BF+1))+1 by omega] at a8;refine As<|Ag<|An<|Q<|M Z<|EK a7 106 QN fun C b6 C C R=>?_;refine Av (Ap AF Z Z ra ra R Z) ?_;rintro _ C ⟨R,C⟩;refine Ah<|Q<|E (Al AF Z Bv.D.AE Z)<|V Z<|An<|AG (σ:=Nat) (fun U=>[(2, .pointer (some ⟨b2,0,none⟩)),(3, .pointer (some ⟨b3,0,none⟩)),(5, .pointer (some ⟨b5,0,none⟩)),(6, .pointer (some ⟨b6,0,none⟩)),(7,I U),(15,I n),(16,I BF)]) (fun U w'=>U≤n∧r≤U∧Kg p.1 BF (n-U) U=Kg p.1 BF (n-r) r∧∃c',BE c w [5,6] c' w'∧Jr c' w' b7∧Qn c' w' 5 m i n p.1∧Qn c' w' 6 g2 a6 n p.2∧AI c' w' 102 b2 (gE m i n) 266∧AI c' w' 103 b3 (gE g2 a6 n) 266∧AI c' w' 105 b5 [I r] 3∧AI c' w' 106 b6 [I BF] 3) (fun U=>n-U) r AL ⟨G,G,Z,_,hJ.D,J.D,f.D,g.D,t.D,AR.D,Bv.D,R⟩ ?_;rintro U e5 ⟨hi,e8,c3,a7,hJ,J,f,g,t,AR,Bv,R⟩;refine Ag<|Q<|M Z<|E (Aa HX Z)<|E (Al AF Z t.AE Z)<|E (AX Z Z)<|Ah<|BA Z (fun C=>?_) fun C=>?_
  ·have c7:U<n:=G;have b0:(U+1)*n≤n*n:=WN _ c7
   have C:U*n+n≤n*n:=by rw[Aad,Aa2] at b0;exact b0
   have C:=f.sq.row c7
   have C:p.1.l[U*n+BF]?=some ((p.1.row U).getD BF 0):=by
    have:=qk f.sq.ok (show U<p.1.r by rw[f.sq.1];exact c7) (show BF<p.1.c by rw[f.sq.2.1];exact e4);rw[f.sq.2.1] at this;exact this.symm
   have e2:=f.own;have e3:=e2.Zp (j:=U*n+BF) (u:= .int .u8 ((p.1.row U).getD BF 0).toNat) (by rw[AS,Aah,C];rfl);refine As<|Ag<|An<|Ag<|Ag<|AM a7 [] [1,0,2,1,0,1,0] [0,1,3,2,4,5,6] fun C C C=>?_;have c4:=t;have e0:=AR;have c8:=Bv;have c5:=R;refine vc Z C.kp (c4.D.kn BP Z Z)<|Bm Z Z<|vc Z C.kp (c5.D.kb AF Z Z)<|Db Z (Ac a7 1 (Ab Lj Z (GL (k:=U) b4 b0 f.D.le f.D.RT G G))) ?_;rintro b0 b0 ⟨e1,b0,b8,rfl⟩;refine C.Bl b0 fun C=>AN Z (HB EE Z Z G)<|vc Z C.kp (e3.D.ke Ty Z)<|AN Z (BO Z Z) ?_;refine AP ?_;refine BA Z (fun b0=>?_) fun b0=>?_
   ·have b8:(p.1.row U).getD BF 0=0:=Af3.1 (by simpa using b0);refine Az Z<|cg<|M Z<|E (Bc Z Z Ai Ai)<|V Z ?_;rw[show n-U=(n-(U+1))+1 by omega,iH b8] at c3;exact⟨U+1,AL,⟨G,G,c3,_,hJ.D,J.D,f.D,g.D,t.D,AR.D,Bv.D,R.D⟩,G⟩
   have b8:(p.1.row U).getD BF 0≠0:=fun e=>by rw[e] at b0;simp at b0
   rw[show n-U=(n-(U+1))+1 by omega,mC b8] at c3;have b0:r<n:=G;refine As<|Ag<|Q<|E (Ba BP Z t.D.AE Z)<|E (Ba BP Z AR.D.AE Z)<|ve (Ht e1 135 lL Z Z Z (by simp[Value.cells]) Z Z) ?_;rintro _ b8 ⟨e1,b8,rfl,b8,b8⟩;refine E (BN lL) ?_;refine M Z<|Ah<|An<|AG (σ:=Nat) (fun j=>[(2, .pointer (some ⟨b2,0,none⟩)),(3, .pointer (some ⟨b3,0,none⟩)),(5, .pointer (some ⟨b5,0,none⟩)),(6, .pointer (some ⟨b6,0,none⟩)),(7,I U),(15,I n),(16,I BF),(35, .slice (some ⟨e1,0,none⟩) 2 2),(36,I (2:Nat)),(37,I j)]) (fun j w'=>j≤2∧∃c',BE c w [5,6] c' w'∧Jr c' w' b7∧Qn c' w' 5 m i n (if j=0 then p.1 else Hx p.1 U r)∧Qn c' w' 6 g2 a6 n (if j=2 then Hx p.2 U r else p.2)∧AI c' w' 102 b2 (gE m i n) 266∧AI c' w' 103 b3 (gE g2 a6 n) 266∧AI c' w' 105 b5 [I r] 3∧AI c' w' 106 b6 [I BF] 3∧AI c' w' 135 e1 (gE m i n++gE g2 a6 n) 266) (fun j=>2-j) 0 AL ⟨G,_,hJ.D,J.D,f.D,g.D,t.D,AR.D,Bv.D,R.D,b8⟩ ?_;rintro j e5 ⟨e1,a7,hJ,J,f,g,t,AR,Bv,R,b8⟩;refine Q<|E (AX Z Z)<|Ah<|Ag<|BA Z (fun e1=>?_) fun e1=>?_
   ·have e2:j<2:=G;have e1:=qo b8 Z Z e2;have e3:ad j (gE m i n) (gE g2 a6 n)=[I n,I n,ad j (kO m i n) (kO g2 a6 n)]:=by unfold ad;split<;>rfl
    have e5:(ad j (kO m i n) (kO g2 a6 n)).oneCell'=true:=by unfold ad;split<;>rfl
    have e5:(ad j (kO m i n) (kO g2 a6 n)).cells=#[ad j (kO m i n) (kO g2 a6 n)]:=by unfold ad;split<;>rfl
    rw[e3] at e1;refine As<|Ag<|An<|Q<|E (lf lL Z Z G G)<|E (DT BP Z e1.DF Z) ?_;refine EK a7 109 ET fun e1 e1 e1 e1 e1=>Av (Am BP Z Z e1 Z Z Bg) ?_;rintro _ e3 ⟨e1,e3⟩;refine Ah<|cg<|E (Ba BP Z e1.AE Z)<|M Z<|E (Al AF Z Bv.D.AE Z)<|ve (Ab yz Z (ef f.D g.D b4 b9 c7 b0)) ?_;rintro c7 c7 ⟨c7,c7,f,g⟩;refine Ah<|cg<|E (Bc Z Z Ai Ai)<|M Z<|Ah ?_;rw[iI e2] at f;rw[eg e2] at g;exact⟨j+1,AL,⟨G,_,hJ.D,J.D,f,g,t.D,AR.D,Bv.D,R.D,b8.D⟩,G⟩
   have e:j=2:=G;subst e;rw[ss AO] at f;rw[zm Z] at g;obtain⟨e1,e6⟩:∃q,q=Hx p.1 U r:=⟨_,Z⟩;obtain⟨e2,e7⟩:∃q,q=Hx p.2 U r:=⟨_,Z⟩;rw[←e6] at f;rw[←e7] at g;have c7:(r+1)*n≤n*n:=WN _ b0;have e5:=f.get b0 e4;refine Az Z<|Ag<|AM a7 [] [1,1,2,1,0,1,2,0] [0,1,3,2,4,5,6,7] fun e3 e3 C=>?_;have c4:=t;have e0:=AR;have c8:=Bv;have c5:=R;refine vc Z C.kp (c4.D.kn BP Z Z)<|vc Z C.kp (c8.D.kb AF Z Z)<|vc Z C.kp (c5.D.kb AF Z Z)<|Db Z (Ac a7 1 (Ab Lj Z (GL (k:=r) b4 c7 f.D.le f.D.RT G G))) ?_;rintro a7 a7 ⟨a7,e3,e9,rfl⟩;refine C.Bl e3 fun C=>AN Z (HB EE Z Z G)<|vc Z C.kp (e5.D.ke Ty Z) ?_;refine Db Z (Ac a7 1 (Ab yA Z (mw _))) ?_;rintro a7 a7 ⟨a7,e3,e5,rfl⟩;refine C.Bl e3 fun C=>Ir Z Z<|AP ?_;refine Q<|E (Ba BP Z t.D.AE Z)<|E (Al AF Z Bv.D.AE Z)<|ve (Ac a7 1 (Ab Lj Z (GL (k:=r) b4 c7 f.D.le f.D.RT G G))) ?_;rintro a7 a7 ⟨a7,a7,a7,rfl⟩;refine M Z<|ve (Ab sM Z (XA f.D b9 b0)) ?_;rintro a7 a7 ⟨a7,c4,f⟩;refine Ah<|Q<|E (Ba BP Z AR.D.AE Z)<|E (Al AF Z Bv.D.AE Z)<|ve (Ac a7 1 (Ab Lj Z (GL (k:=r) b4 c7 g.D.le g.D.RT G G))) ?_;rintro a7 a7 ⟨a7,c4,a7,rfl⟩;refine M Z<|ve (Ab sM Z (XA g.D b9 b0)) ?_;rintro a7 a7 ⟨a7,c5,g⟩;obtain⟨o,e5⟩:∃o,o=lT ((e1.row r).getD BF 0):=⟨_,Z⟩;replace f:=(f.D c4).D c5;rw[←e5] at f g;obtain⟨sp,e0⟩:∃sp:Mx×Mx,sp=(Mf e1 r o,Mf e2 r o):=⟨_,Z⟩;rw[show Mf e1 r o=sp.1 by rw[e0]] at f;rw[show Mf e2 r o=sp.2 by rw[e0]] at g;refine Ah<|Ag<|Q<|E (Ba BP Z t.D.AE Z)<|ve (Ac a7 126 (Ab fT Z (Ro (vl:=kO m i n) Z Z))) ?_;rintro a7 a7 ⟨a7,a7,c4,⟨b1,rfl,a7,e2⟩⟩;have e3:AI _ _ 126 b1 _ 266:=⟨e2,c4 _ a7⟩;refine Ah<|An<|EJ (α:=Nat) (encs:=my m i n) (κ:=[127]) (F:=[126]) (L:=List.range n)
    (fun pre d A=>BE c w [5,6] d A∧Jr d A b7∧Qn d A 5 m i n (elimM BF r pre.length sp).1∧Qn d A 6 g2 a6 n (elimM BF r pre.length sp).2∧AI d A 102 b2 (gE m i n) 266∧AI d A 103 b3 (gE g2 a6 n) 266∧AI d A 105 b5 [I r] 3∧AI d A 106 b6 [I BF] 3) [] (fun _ _ _=>False) [5,6] Z Z fW (OR e3 G (kM _) f.D.le f.D.RT G G) Z (fun _=>rfl) Bb Z
    (fun s d A a7 B h a1=>⟨h.1.D a1,h.2.1.D a1,h.2.2.1.D a1,h.2.2.2.1.D a1,h.2.2.2.2.1.D a1,h.2.2.2.2.2.1.D a1,h.2.2.2.2.2.2.1.D a1,h.2.2.2.2.2.2.2.D a1⟩) (fun p hp=>by simp at hp) (fun s d A a7 B h _=>h.elim)
    ⟨hJ.D,J.D,f.D,g.D,t.D,AR.D,Bv.D,R.D⟩ ?_ ?_ ?_ ?_
   ·clear hJ J f g t AR Bv R b8 e3 e2;rintro l pre k d A1 ⟨hJ,J,f,g,t,AR,Bv,R⟩ c4;have c8:=Acc.refl d A1 [5,6];refine Q<|V Z<|cg<|V Z<|⟨_,c8,?_⟩;intro A2 c9;have c8:=Acc.refl d A2 [5,6];obtain⟨a7,c5⟩:=OS c4;subst a7;obtain⟨a7,c4⟩:∃e,e=elimM BF r pre.length sp:=⟨_,Z⟩;replace f:=f.D c9;replace g:=g.D c9;rw[←c4] at f g;have h1:(pre.length+1)*n≤n*n:=WN _ c5;have e8:=Zr b0;have b0:=Zr c5;have b0:=f.get c5 e4;refine An<|Q<|M Z<|E (Al AF Z R.D.AE Z)<|E (HB EE Z Z G)<|E (Cc Ty Z b0.DF)<|V Z ?_;refine Q<|M Z<|E (Al AF Z Bv.D.AE Z)<|E (BK Z Z)<|M Z ?_;apply AW true 2 _ CK
    ·intro b0;refine wo<|M Z<|wo<|E (BK Z Z) ?_;exact EQ 2
    refine Ah<|BA Z (fun c9=>?_) fun c9=>?_
    ·have b0:pre.length≠r∧(a7.1.row pre.length).getD BF 0≠0:=⟨G,fun e1=>c9.2 (by rw[e1];rfl)⟩;have e4:((a7.1.l.drop (r*n)).take n).length=n:=by rw[kL,kK,f.sq.2.2];omega
     have h3:((a7.2.l.drop (r*n)).take n).length=n:=by rw[kL,kK,g.sq.2.2];omega
     have e9:(a7.1.l.drop (r*n)).take n=a7.1.row r:=by rw[Mx.row,f.sq.2.1]
     have h0:(a7.2.l.drop (r*n)).take n=a7.2.row r:=by rw[Mx.row,g.sq.2.1]
     refine Q<|M Z<|E (Ba BP Z t.D.AE Z)<|E (Al AF Z Bv.D.AE Z)<|ve (Ac d 1 (Ab Lj Z (GL (k:=r) b4 c7 f.le f.RT G G))) ?_;rintro h2 h2 ⟨h2,h2,h2,rfl⟩;refine E (br underlying74 underlying9 underlying5 Z f.D.own e8)<|M Z<|ve (Ab fU Z (bB (s:=(a7.1.l.drop (r*n)).take n) f.D b9 c5 e4)) ?_;rintro e4 e4 ⟨e4,h2,f⟩;refine Ah ?_;have h2:=g;refine AM e4 [6] [1,0,2,1,1,2,2,0,2] [0,1,3,4,7,2,5,6,8] fun h2 h2 C=>vc Z C.kp (AR.D.kn BP Z Z)<|Bm Z Z<|vc Z C.kp (AR.D.kn BP Z Z)<|vc Z C.kp (Bv.D.kb AF Z Z)<|Bm Z Z<|Db Z (Ac e4 1 (Ab Lj Z (GL (k:=pre.length) b4 h1 g.D.le g.D.RT G G))) ?_;rintro e4 e4 ⟨h1,e4,h4,rfl⟩;refine C.Bl e4 fun C=>Db Z (Ac h1 1 (Ab Lj Z (GL (k:=r) b4 c7 g.D.le g.D.RT G G))) ?_;rintro c7 c7 ⟨c7,c7,h1,rfl⟩;refine C.Bl c7 fun C=>Db Z (Cs ((br underlying74 underlying9 underlying5 Z g.D.own e8))) ?_;rintro _ _ ⟨rfl,rfl⟩;refine⟨id,?_⟩;refine Db Z (Ab fU Z (bB (s:=(a7.2.l.drop (r*n)).take n) g.D b9 c5 h3)) ?_;rintro c5 c5 ⟨c5,c5,g⟩;refine C.Bl c5 fun C=>AP ?_;refine⟨_,c8.D,hJ.D,J.D,?_,?_,t.D,AR.D,Bv.D,R.D⟩
     ·rw[ft,Abt,elimM,←c4];replace f:=(((f.D h2).D e4).D c7).D c5
      first
      |(rw[zm b0,←e9]);exact f
      |(rw[ss b0]);exact f
     rw[ft,Abt,elimM,←c4]
     first
     |(rw[zm b0,←h0]);exact g
     |(rw[ss b0]);exact g
    have b0:¬(pre.length≠r∧(a7.1.row pre.length).getD BF 0≠0):=fun hh=>by
     have C:((a7.1.row pre.length).getD BF 0).toNat≠0:=fun e1=>hh.2 (Af3.1 (by rw[e1];rfl));have C:=hh.1;have C:decide (((pre.length:Nat):Int)=((r:Nat):Int))=false:=Ae9 G;have c5:decide (((((a7.1.row pre.length).getD BF 0).toNat:Nat):Int)=0)=false:=Ae9 G;rw[C,c5] at c9;cases c9
    refine As<|⟨_,c8,hJ.D,J.D,?_,?_,t.D,AR.D,Bv.D,R.D⟩
    ·rw[ft,Abt,elimM,←c4]
     first
     |(rw[zm b0,←e9]);exact f
     |(rw[ss b0]);exact f
    rw[ft,Abt,elimM,←c4]
    first
    |(rw[zm b0,←h0]);exact g
    |(rw[ss b0]);exact g
   ·clear hJ J f g t AR Bv R b8 e3 e2;rintro a7 d B ⟨hJ,J,f,g,t,AR,Bv,R⟩ C;rw[Aap] at f g;replace hJ:=hJ.re C;replace f:=f.re C;replace g:=g.re C;replace t:=t.re C;replace AR:=AR.re C;replace Bv:=Bv.re C;replace R:=R.re C;replace J:=J.add C;refine Q<|E (Al AF Z Bv.AE Z)<|E (Bc Z Z Ai Ai) ?_;refine Av (Ap AF Z Z ra ra Bv Z) ?_;rintro _ C ⟨Bv,C⟩;refine Ah<|Az Z<|cg<|E (Bc Z Z Ai Ai)<|M Z<|Ah ?_;replace hJ:=hJ.D C;replace J:=J.D C;replace f:=f.D C;replace g:=g.D C;replace t:=t.D C;replace AR:=AR.D C
    first
    |(have C:Kg p.1 BF (p.1.r-r) r=some U:=(by rw[c6];exact c3.symm);have R:QU BF r U p=elimM BF r n sp:=(by rw[QU];dsimp only;rw[c6,e0,e5,e6,e7]);rw[Vh C,R] at a8;exact⟨(BF+1,r+1,elimM BF r n sp,a7::b7),AL,⟨by dsimp only;omega,by dsimp only;omega,a8,_,hJ,J,f,g,t,AR,Bv⟩,by dsimp only;omega⟩)
    |(rw[Vg b0] at a8;exact⟨(BF+1,r,p,b7),AL,⟨by dsimp only;omega,by dsimp only;omega,a8,_,hJ,J,f,g,t,AR,Bv⟩,by dsimp only;omega⟩)
   ·intro p hp;simp at hp
   exact fun _ _ _ _ h=>h.elim
  have e:U=n:=G;have b0:Kg p.1 BF (p.1.r-r) r=none:=by
   rw[c6,←c3,e,Acl];rfl
  refine Az Z<|cg<|E (Bc Z Z Ai Ai)<|M Z<|Ah ?_
  first
  |(have C:Kg p.1 BF (p.1.r-r) r=some U:=(by rw[c6];exact c3.symm);have R:QU BF r U p=elimM BF r n sp:=(by rw[QU];dsimp only;rw[c6,e0,e5,e6,e7]);rw[Vh C,R] at a8;exact⟨(BF+1,r+1,elimM BF r n sp,a7::b7),AL,⟨by dsimp only;omega,by dsimp only;omega,a8,_,hJ,J,f,g,t,AR,Bv⟩,by dsimp only;omega⟩)
  |(rw[Vg b0] at a8;exact⟨(BF+1,r,p,b7),AL,⟨by dsimp only;omega,by dsimp only;omega,a8,_,hJ,J,f,g,t,AR,Bv⟩,by dsimp only;omega⟩)
 obtain⟨t,t⟩:=J.Hy;refine Az Z<|Q<|E (Al AF Z Bv.AE Z)<|V Z ?_;obtain⟨C,J⟩:=t.take;refine GF Z Z C (FD.tmp Z) ?_;have e:BF=n:=G;rw[e,Acl] at a8;have t:(r,p)=EF n 0 0 (a1,x):=by rw[←a8,EF]
 rw[←t];exact⟨_,hJ.D.out,Z,⟨f.D.own.out hJ.D Z,f.D.sq,f.D.le,f.D.RT⟩,⟨g.D.own.out hJ.D Z,g.D.sq,g.D.le,g.D.RT⟩⟩
theorem mD(n:Nat):Sq n (TC n):=⟨Z,Z,Rp n n⟩
theorem Vi{n:Nat}:∀(f c g:Nat) (p:Mx×Mx),f+c=n→g≤c→Sq n p.1→Sq n p.2→Sq n (EF f c g p).2.1∧Sq n (EF f c g p).2.2
 |0,_,_,_,_,_,l,o=>⟨l,o⟩
 |f+1,c,g,p,h,C,l,o=>by
  rw[EF];split
  ·exact Vi f (c+1) g p G G l o
  ·rename_i i hi;have r:i<n:=by
    have key:∀(k j:Nat),Kg p.1 c k j=some i→i<j+k:=by
     intro k;induction k with
     |zero=>intro j h;simp[Kg] at h
     |succ k t=>
      intro j h;rw[Kg] at h;split at h
      ·have:=t _ h;omega
      ·simp at h;omega
    have:=key _ _ hi;rw[l.1] at this;omega
   obtain⟨a,b⟩:=qn (c:=c) (show g<n by omega) r l o;exact Vi f (c+1) (g+1) _ G G a b
theorem mE{r c:Nat}(l:CJ w 0 5 1 va n (AS s))(p:0<n)(t:n≤1048576):Calls QP 263 #[.agg #[I r,I c,va]] w (Bt fun v w'=>AZ w w'∧∃vl,v= .agg #[I r,I c,vl]∧CJ w' w.heap.size 5 1 vl n (AS s)):=by
 obtain⟨i,hO,j⟩:=Ay w;have f:AJ i w 0 5 1 va n (AS s):=⟨l,fun k _=>j k⟩;have j:=f.AA;have j:=f.AD;have j:s.length=n:=by have:=f.own.1;simpa[AS] using this
 obtain⟨g,cp,rfl,j,j⟩:=f.CT p;refine AY 8 #[.cell 2 266] func263 Z<|Q<|Fa i 101 fun w1 b1 c1 i i=>?_;refine EK c1 102 ET fun w2 b2 c2 j j=>Ah<|Q<|E (Aa Lh Z)<|E (Al Pq Z i.D.AE Z)<|ve (Ac c2 128 (Ab sN Z (Xz (o:=0) (m:=n) f.D.own G t))) ?_;rintro f f ⟨f,f,f,hv⟩;replace hv:=hv.Du f;rw[Adl,vq G] at hv;have f:=hv.AA;have f:=hv.AD;refine E (Aa Lh Z)<|Av (Ap Pq Z Z ra ra i.D Z) ?_;rintro _ f ⟨i,f⟩;refine Ah<|Q<|E (Ba BP Z i.AE Z)<|Av (Am BP Z Z j.D Z Z Bg) ?_;rintro _ f ⟨j,f⟩;refine Ah<|FH Z (DZ BP Z j.AE Z) ?_;exact⟨hO.D.below,_,Z,hv.D.Mw hO.D AO⟩
theorem Vj{m:Mx}(J:CJ w 0 5 1 va (n*n) (AS m.l))(t:Sq n m)(i:1≤n)(j:n≤16)(hi:(EF n 0 0 (m,TC n)).1=n):
 Calls QP 208 #[.agg #[I n,I n,va]] w (Bt fun v w'=>AZ w w'∧∃vl,v= .tuple #[.agg #[I n,I n,vl],I 0]∧CJ w' w.heap.size 5 1 vl (n*n) (AS (HG m).l)):=by
 obtain⟨f,hO,l⟩:=Ay w;have o:AJ f w 0 5 1 va (n*n) (AS m.l):=⟨J,fun k _=>l k⟩;have l:n*n≤256:=WO j j;have l:1≤n*n:=WO i i;have l:=o.AA;have l:=o.AD;obtain⟨g,cp,rfl,l,l⟩:=o.CT G;refine AY 32 #[.cell 2 266, .tmp 3] func208 Z<|Q<|Fa f 101 fun w1 b1 c1 f l=>?_;refine EK c1 102 ET fun w2 b2 c2 f p=>V Z<|Ag<|Q<|E (Ba BP Z l.D.AE Z)<|ve (Ac c2 1 (Ab sK Z (bu ⟨i,j⟩ ⟨i,j⟩ Z))) ?_;rintro f f ⟨C,f,f,rfl⟩;refine E (BL Z)<|M Z ?_;apply AW false 5 _ CK
 ·intro f;refine wo<|E (Aa HX Z)<|wo<|E (Al AF Z l.D.AE Z)<|wo<|E (Aa HY Z)<|wo<|E (Al AF Z l.D.AE Z)<|wo<|E (BK Z Z) ?_;exact EQ 5
 refine Ah<|Cz Z (fun f=>?_) fun f=>?_
 ·exact absurd f Bb
 refine As<|Q<|E (Aa HX Z)<|E (Al AF Z l.D.AE Z)<|ve (Ac C 6 (Ab ym Z (ql i j))) ?_;rintro v20 f ⟨f,C,C,⟨R,rfl,hx⟩⟩;replace hx:=hx.Du C;have C:=hx.AA;have C:=hx.AD;obtain⟨C,C,rfl,R,U⟩:=hx.CT G;refine M Z<|E (Aq Z Z)<|E (Aq Z Z)<|EK f 104 ET fun f b4 C f Bd=>?_;refine Av (Am BP Z Z Bd Z Z Bg) ?_;rintro _ f ⟨Bd,f⟩;refine V Z<|Ag<|Ag<|AM C [5,6] [1,2,1,2,0,1,0] [0,2,4,5,1,3,6] fun f f f=>?_;refine vc Z f.kp (l.D.kn BP Z Z)<|vc Z f.kp (Bd.D.kn BP Z Z)<|AN Z (Aa HX Z)<|vc Z f.kp (l.D.kb AF Z Z)<|Db Z (Ac C 5 (Ab yo Z (mE (r:=n) (c:=n) o.D.own G G))) ?_;rintro l l ⟨l,l,o,⟨C,rfl,hv⟩⟩;refine f.Bl l fun f=>?_;replace hv:=hv.Du o;obtain⟨l,l,rfl,l,o⟩:=hv.CT G;refine Db Z (Ab yn Z (iK ⟨hv,t,l,o⟩ ⟨hx.D,mD n,R,U⟩ i j)) ?_;rintro l l ⟨l,l,rfl,hv,hx⟩;refine f.Bl l fun f=>?_;rw[hi];refine AN Z (AX Z Z)<|AP ?_;refine Cz Z (fun f=>?_) fun f=>?_
 ·exact absurd f Bb
 refine As<|Q<|E (Ba BP Z Bd.D.AE Z)<|Av (Am BP Z Z p.D Z Z Bg) ?_;rintro _ f ⟨p,f⟩;refine V Z<|DI Z (DZ BP Z p.AE Z) (FD.tmp Z) ?_;have e:HG m=(EF n 0 0 (m,TC n)).2.2:=by rw[HG,t.1,t.2.1,ss G]
 rw[e];exact⟨hO.D.below,_,Z,hx.D.own.Mw hO.D AO⟩
theorem Ha{q:α→Bool}(h:∀x∈t.take k,q x=false)(O:k<t.length)(f:q t[k]=false):∀x∈t.take (k+1),q x=false:=fun x hx=>by
 rw[pk O] at hx;rcases Aac.1 hx with hx|hx
 ·exact h x hx
 ·rw[pv.1 hx];exact f
theorem TS{q:α→Bool}(h:∀x∈t.take k,q x=false)(O:t.length≤k):t.any q=false:=by
 rw[vq O] at h;exact Ab9.2 fun x hx=>by rw[h x hx];decide
theorem qp{j:Array Value}{q:Int→Bool}(g:Rd Cg w a l)(hf:Aj QP S=true)(t:∀(w':World) (x:Int),AZ w w'→Calls QP S (#[I x]++j) w' (Bt fun a w''=>AZ w' w''∧a= .bool (q x))):
 Calls QP 236 #[a, .func (.func S) #[] j] w (Bt fun v' w'=>AZ w w'∧∃i:Int,v'=I i∧decide (0≤i)=l.any q):=by
 have o:=g.small;have hK:FY w w:=Bf w;refine AY 19 #[.tmp 4] func236 Z<|Q<|V Z<|Ag<|Q<|M Z ?_
 first|refine E (Ez BM (by assumption) Z) ?_|refine E (Fo underlying23 Z) ?_
 refine M Z<|Ah<|An<|AG (σ:=Nat) (fun k=>[(0,a),(1, .func (.func S) #[] j),(7,I l.length),(8,I k)]) (fun k w'=>Rd Cg w' a l∧FY w w'∧k≤l.length∧∀x∈l.take k,q x=false) (fun k=>l.length-k) 0 AL ⟨g,hK,G,by simp⟩ ?_;rintro k o ⟨g,hK,O,r⟩;refine Q<|E (AX Z Z)<|Ah<|Ag<|BA Z (fun o=>?_) fun o=>?_
 ·have ka:k<l.length:=G;obtain⟨o,o,rfl,p⟩:=g.el ka;refine As<|Ag<|An<|Q<|M Z<|V Z<|Q<|M Z<|M Z<|M Z<|E (BJ BM (by assumption) Z Z Z Ai Ai)<|E (Cc AF Z o) ?_;refine ve (DV Z hf Z (t _ _ hK)) ?_;rintro _ o ⟨p,rfl⟩;refine Ah<|BA Z (fun o=>?_) fun o=>?_
  ·refine Q<|M Z<|V Z ?_;refine Af Z Z ?_;exact⟨(hK.up p),_,Z,by rw[Aa8.2 ⟨_,mv ka,o⟩];simp⟩
  refine As<|cg<|E (Bc Z Z Ai Ai)<|M Z<|Ah ?_;exact⟨k+1,AL,⟨(g.up p),(hK.up p),ka,Ha r ka o⟩,G⟩
 refine Az Z<|Q<|V Z<|Af Z Z ?_;exact⟨hK,-1,Z,by rw[TS r G];decide⟩
theorem qq{g:Array Value}{q:Int→Bool}(j:Rd Cg w a l)(hf:Aj QP S=true)(p:∀(w':World) (x:Int),AZ w w'→Calls QP S (#[I x]++g) w' (Bt fun a w''=>AZ w' w''∧a= .bool (q x))):
 Calls QP 168 #[a, .func (.func S) #[] g] w (Bt fun v' w'=>AZ w w'∧v'= .bool (l.any q)):=by
 have hK:FY w w:=Bf w;refine AY 9 #[.tmp 4] func168 Z<|Q<|V Z<|Q<|M Z<|M Z<|ve (Ab sG Z (qp j hf p)) ?_;rintro r w1 ⟨o,i,rfl,hi⟩;refine E (Dh Z Z)<|V Z<|Af Z Z ?_;exact⟨(hK.up o),by rw[←hi]⟩
theorem ei{r c:Nat}(f:Gt w k [I r,I c,va] 266):Calls QP 257 #[I p, .pointer (some ⟨k,0,none⟩)] w (Bt fun v w'=>AZ w w'∧v= .bool (decide (p<0)||decide ((r:Int)≤p))):=by
 have hK:FY w w:=Bf w;refine AY 12 #[.tmp 3] func257 Z<|Q<|V Z<|Q<|M Z<|E (AX Z Z)<|M Z ?_;apply AW false 4 _ CK
 ·intro g;refine wo<|M Z<|wo<|E (Aa HX Z)<|wo<|E (Al AF Z f Z)<|wo<|E (Dh Z Z) ?_;exact EQ 4
 refine V Z<|Af Z Z ?_;exact⟨hK,by simp⟩
theorem bC{m:Mx}(h:m.ok){L:List Nat}(f:∀i∈L,i<m.r):(L.flatMap m.row).length=L.length*m.c:=by
 induction L with
 |nil=>simp
 |cons a L g=>
  rw[Aaa,ft,g fun i hi=>f i (Aaw _ hi),Hp h (f a Bb),SG,Aad,Aa2,Adi]
theorem Rs{m:Mx}{L:List Nat}(a8:CJ w 0 5 1 va (m.r*m.c) (AS m.l))(b6:m.ok)(a1:1≤m.r)(a6:m.r≤16)(C:1≤m.c)(J:m.c≤16)(b1:Rd Cg w a (L.map fun(k:Nat)=>(k:Int)))(c4:1≤L.length)(c5:L.length≤16)(a7:∀i∈L,i<m.r):
 Calls QP 207 #[.agg #[I m.r,I m.c,va],a] w (Bt fun v w'=>AZ w w'∧∃t,v= .tuple #[.agg #[I L.length,I m.c,t],I 0]∧CJ w' w.heap.size 5 1 t (L.length*m.c) (AS (IY m L).l)):=by
 obtain⟨f,hO,j⟩:=Ay w;have p:AJ f w 0 5 1 va (m.r*m.c) (AS m.l):=⟨a8,fun k _=>j k⟩;have hl:Bu Cg f w [0] a (L.map fun(k:Nat)=>(k:Int)):=Rd.Du b1 (fun k O=>by simp[j,AU]);have j:m.r*m.c≤256:=WO a6 J;have j:1≤m.r*m.c:=WO a1 C;have j:=p.AA;have j:=p.AD;obtain⟨g,cp,rfl,c0,c3⟩:=p.CT G;have j:m.l.length=m.r*m.c:=b6;have j:(L.map fun(k:Nat)=>(k:Int)).length=L.length:=kr ..;have U:(decide ((1:Int)≤(L.length:Int))&&decide ((L.length:Int)≤16))=true:=by simp;omega
 have b0:((L.map fun(k:Nat)=>(k:Int)).any fun x=>decide (x<0)||decide ((m.r:Int)≤x))=false:=by
  rw[Ab9];intro x hx;obtain⟨k,O,rfl⟩:=Aag.1 hx;have:=a7 k O;simp;omega
 refine AY 46 #[.cell 4 266, .tmp 5] func207 Z<|Q<|Fa f 102 fun w1 b2 c1 f l=>?_;refine EK c1 104 ET fun w2 b4 c2 f Bd=>V Z<|Q<|E (Dn Z)<|V Z<|Ag<|Q<|E (Ba BP Z l.D.AE Z)<|ve (Ac c2 1 (Ab sK Z (bu ⟨a1,a6⟩ ⟨C,J⟩ Z))) ?_;rintro f f ⟨f,R,R,rfl⟩;refine E (BL Z)<|M Z ?_;apply BU f false 4 _ CK
 ·intro R R;refine wo<|M Z<|wo<|E (BN BM) ?_;refine wo<|ve (Ac f 1 (Ab fV Z (Rn _))) ?_;rintro f f ⟨f,f,f,rfl⟩;refine wo<|E (BL Z) ?_;exact BV 4 R.D
 intro f f R;refine M Z ?_;apply BU f false 3 _ CK
 ·intro R R;refine wo<|M Z<|wo<|M Z<|wo<|ve (Ac f 1 (Ab st Z (qq hl.D.AB yl (fun w' x f↦ei (r:=m.r) (c:=m.c) ((f.block _ l.D.AE.lt).trans l.D.AE))))) ?_;rintro f f ⟨f,f,f,rfl⟩;exact BV 3 R.D
 intro f R f;refine Ah<|Cz Z (fun f=>?_) fun f=>?_
 ·exact absurd f (by simp[U,b0])
 refine As<|Q<|M Z<|E (Ez BM hl.D.AB Z) ?_;rw[j];refine E (Aa HY Z)<|E (Al AF Z l.D.AE Z)<|E (By (cells:=#[I L.length,I m.c, .slice none 0 0]) Z Ao) ?_;refine EK R 107 ET fun f b7 f f f=>Av (Am BP Z Z f Z Z Bg) ?_;rintro _ R ⟨f,R⟩;refine Ah<|Ag<|Q<|M Z<|E (Ez BM hl.D.AB Z) ?_;rw[j];refine M Z<|Ah<|An<|AG (σ:=Nat) (fun i=>[(2, .pointer (some ⟨b2,0,none⟩)),(4, .pointer (some ⟨b4,0,none⟩)),(7, .pointer (some ⟨b7,0,none⟩)),(31,a),(32,I L.length),(33,I i)]) (fun i w'=>i≤L.length∧∃c' t,CD w c' w'∧AJ c' w' 0 5 1 (.slice (some ⟨g,0,none⟩) (m.r*m.c) cp) (m.r*m.c) (AS m.l)∧Bu Cg c' w' [0] a (L.map fun(k:Nat)=>(k:Int))∧AJ c' w' 9 5 1 t (i*m.c) (AS ((L.take i).flatMap m.row))∧AI c' w' 102 b2 [I m.r,I m.c, .slice (some ⟨g,0,none⟩) (m.r*m.c) cp] 266∧AI c' w' 104 b4 [I 0,I 0, .slice none 0 0] 266∧AI c' w' 107 b7 [I L.length,I m.c,t] 266) (fun i=>L.length-i) 0 AL ⟨G,_,_,hO.D,p.D,hl.D,by simpa[AS] using Br _ _ _ _ _,l.D,Bd.D,f⟩ ?_;rintro i j ⟨hi,U,t,hO,p,hl,hv,l,Bd,f⟩;refine Q<|E (AX Z Z)<|Ah<|Ag<|BA Z (fun j=>?_) fun j=>?_
 ·have b0:i<L.length:=G;have j:=(Co hl (k:=i) G AO).1;have R:(L.map fun(k:Nat)=>(k:Int))[i]=(L[i]:Int):=Ac0 ..;rw[R] at j;have b3:=a7 _ (mv b0);have R:(L[i]+1)*m.c≤m.r*m.c:=WN _ b3;have b5:L[i]*m.c+m.c≤m.r*m.c:=by rw[Aad,Aa2] at R;exact R
  have b3:i*m.c≤16*16:=WO G J;have b8:=hv.AA;have b9:=hv.AD;refine As<|Ag<|An<|Q<|E (Cv BM) ?_;refine E (Cc AF Z j.DF)<|V Z<|AM U [9] [0,1,1,0,2,2,0,3] [0,1,2,3,4,5,6,7] fun j b3 j=>?_;refine AN Z (Aa Lh Z)<|vc Z j.kp (f.D.kb Pq Z Z)<|vc Z j.kp (l.D.kn BP Z Z)<|Bm Z Z<|Db Z (Ac U 1 (Ab Lj Z (GL (k:=L[i]) C R c0 c3 G G))) ?_;rintro R R ⟨R,R,U,rfl⟩;refine j.Bl R fun j=>?_;refine Db Z (Ax EE Z Z hv.D (Aw underlying74 (by have:=((p.D b3).D R).bz (o:=L[i]*m.c) (m:=m.c) b5;rw[JI] at this;exact this) (by simp[AS];omega) (PU _)) Fh Fg) ?_;rintro R R ⟨R,R,hv⟩;refine j.Bl R fun j=>?_;have R:=hv.AA;have R:=hv.AD;refine AN Z (Aa Lh Z)<|LG Z (Ap Pq Z Z ra ra f.D Z) ?_;rintro _ R ⟨f,R⟩;try replace j:=j.tr R Z
  refine AP ?_;refine cg<|E (Bc Z Z Ai Ai)<|M Z<|Ah ?_;have j:AS ((L.take (i+1)).flatMap m.row)=AS ((L.take i).flatMap m.row)++AS ((m.l.drop (L[i]*m.c)).take m.c):=by
   rw[pk b0,Aan,Aaa,Afx,Aaz,AS,Aaf];rfl
  exact⟨i+1,AL,⟨G,_,_,hO.D,p.D,hl.D,by rw[j,Aad,Aa2];exact(hv.D R),l.D,Bd.D,f⟩,G⟩
 have e:i=L.length:=G;subst e;have b8:=hv.AA;have b9:=hv.AD;refine Az Z<|Q<|E (Ba BP Z f.AE Z)<|Av (Am BP Z Z Bd Z Z Bg) ?_;rintro _ f ⟨Bd,f⟩;refine V Z<|DI Z (DZ BP Z Bd.AE Z) (FD.tmp Z) ?_;replace hv:=hv.D f;rw[vq (kM _)] at hv;exact⟨hO.D.below,_,Z,hv.Mw hO.D AO⟩
def gF(m:Mx)(l:List (List UInt8))(i:Nat):List UInt8:=Ga (fun k=>l.getD k []) (m.row i) 0 (replicate (l.getD 0 []).length 0)
theorem iL(m:Mx)(l:List (List UInt8)):JB m l=(List.range m.r).map (gF m l):=rfl
theorem XB{vl:Value}{m:Mx}{Ls:List (List UInt8)}(b0:CJ w 0 5 1 va (m.r*m.c) (AS m.l))(b7:m.ok)(c3:1≤m.r)(c4:m.r≤16)(c5:1≤m.c)(c6:m.c≤16)(c8:Rd DQ w vl Ls)(e1:Ls.length=m.c)(c7:∀s∈Ls,s.length=n)(J:1≤n)(e2:n≤200):
 Calls QP 174 #[.agg #[I m.r,I m.c,va],vl] w (Bt fun v w'=>AZ w w'∧CJ w' w.heap.size 9 1 v m.r ((JB m Ls).map St)):=by
 obtain⟨r,hO,t⟩:=Ay w;have f:AJ r w 0 5 1 va (m.r*m.c) (AS m.l):=⟨b0,fun k _=>t k⟩;have hl:Bu DQ r w [0] vl Ls:=Rd.Du c8 (fun k O=>by simp[t,AU]);have t:m.r*m.c≤256:=WO c4 c6;have t:1≤m.r*m.c:=WO c3 c5;have t:=f.AA;have U:=f.AD;have C:=hl.AB.AD;have C:=hl.AB.AA;obtain⟨g,cp,rfl,a8,C⟩:=f.CT G;have R:∀k,k<m.c→(Ls.getD k []).length=n:=fun k O=>by
  rw[hk,dd G];exact c7 _ (mv G)
 have b6:∀k (O:k<Ls.length),Ls[k]=Ls.getD k []:=fun k O=>by rw[hk,dd O];rfl
 refine AY 41 #[.tmp 4] func174 Z<|Q<|Fa r 102 fun w1 b2 c1 r a6=>?_;refine Mn c1 103 fun w2 b3 c2 C AR=>?_;refine V Z<|Q<|EK c2 105 dK fun r b5 r c9 Bv=>?_;refine Ah<|Ag<|Q<|E (Ba BP Z a6.D.AE Z)<|ve (Ac r 126 (Ab fT Z (Ro U t))) ?_;rintro r b4 ⟨r,e0,a7,⟨b1,rfl,t,U⟩⟩;have a1:AI _ _ 126 b1 _ 266:=⟨U,a7 _ t⟩;have hv:AJ _ _ 9 9 1 (.slice none 0 0) 0 []:=Br r b4 _ _ _;refine Ah<|An<|EJ (α:=Nat) (encs:=my g cp m.c) (κ:=[127]) (F:=[126]) (L:=List.range m.r)
  (fun pre d A=>CD w d A∧AJ d A 0 5 1 (.slice (some ⟨g,0,none⟩) (m.r*m.c) cp) (m.r*m.c) (AS m.l)∧Bu DQ d A [0] vl Ls∧AI d A 103 b3 [vl] 37∧∃r,AJ d A 9 9 1 r pre.length (((List.range pre.length).map (gF m Ls)).map St)∧AI d A 105 b5 [r] 37) [] (fun _ _ _=>False) [9,10,105] Z Z fW (OR a1 G (kM _) a8 G G G) Z (fun _=>rfl) Bb Z
  (fun s d A c0 B ⟨t,a7,a8,b4,r,b8,b9⟩ m=>⟨t.D m,a7.D m,a8.D m,b4.D m,r,b8.D m,b9.D m⟩) (fun p hp=>by simp at hp) (fun s d A c0 B h _=>h.elim)
  ⟨hO.D,f.D,hl.D,AR.D,_,hv,Bv.D⟩ ?_ ?_ ?_ ?_
 ·clear hO f hl hv AR Bv a1 U;rintro l pre i d A1 ⟨hO,f,hl,AR,r,hv,Bv⟩ a8;have t:=Acc.refl d A1 [9,10,105];refine cg<|V Z<|⟨_,t,?_⟩;replace a6:=((a6.D C).D c9).D e0;intro A2 C;have t:=Acc.refl d A2 [9,10,105];obtain⟨a7,a6⟩:=OS a8;subst a7;have a7:=Hp b7 a6
  have a7:(pre.length+1)*m.c≤m.r*m.c:=WN _ a6
  have a7:=(Co (hl.D C) (k:=0) G AO).1;rw[b6 0 G] at a7;have b4:=R 0 G;replace hv:=hv.D C;have c0:=hv.AD;have c9:=hv.AA;refine An<|Q<|E (Al Eh Z AR.D.AE Z)<|E (Cv Ch) ?_;refine E (Cc CQ Z a7.DF)<|E (Ey underlying9 Z)<|ve (GD d 10 EE Z Z Ai Ai Ai) ?_;rintro C C ⟨C,C,C⟩;rw[TJ,SM,b4] at C;obtain⟨a8,a7,rfl,b8,b8⟩:=C.CT J;refine V Z<|Ag<|Q<|M Z<|E (BN EE) ?_;refine M Z<|Ah<|An<|AG (σ:=Nat) (fun k=>[(3, .pointer (some ⟨b3,0,none⟩)),(5, .pointer (some ⟨b5,0,none⟩)),(8, .slice (some ⟨a8,0,none⟩) n a7),(20, .slice (some ⟨g,pre.length*m.c,none⟩) m.c (cp-pre.length*m.c)),(21,I m.c),(22,I k)]) (fun k w'=>k≤m.c∧∃c',CD w c' w'∧AJ c' w' 0 5 1 (.slice (some ⟨g,0,none⟩) (m.r*m.c) cp) (m.r*m.c) (AS m.l)∧Bu DQ c' w' [0] vl Ls∧AJ c' w' 9 9 1 r pre.length (((List.range pre.length).map (gF m Ls)).map St)∧AI c' w' 103 b3 [vl] 37∧AI c' w' 105 b5 [r] 37∧AJ c' w' 10 5 1 (.slice (some ⟨a8,0,none⟩) n a7) n (AS (Ga (fun k=>Ls.getD k []) ((m.row pre.length).take k) 0 (replicate n 0)))∧Acc d A2 [9,10,105] c' w') (fun k=>m.c-k) 0 AL ⟨G,_,hO.D,f.D,hl.D,hv.D,AR.D,Bv.D,C,t.D⟩ ?_;rintro k C ⟨O,a8,hO,f,hl,hv,AR,Bv,C,t⟩;refine Q<|E (AX Z Z)<|Ah<|Ag<|BA Z (fun a7=>?_) fun a7=>?_
  ·have a7:k<m.c:=G;have b8:=f.Zp (j:=pre.length*m.c+k) (u:= .int .u8 ((m.row pre.length).getD k 0).toNat) (by rw[AS,Aah,←qk b7 a6 a7];rfl);have a6:=(Co hl (k:=k) G AO).1;rw[b6 k G] at a6;have b6:=R k a7;refine As<|Ag<|An<|Q<|M Z<|E (HB EE Z Z G)<|E (Cc Ty Z b8.DF)<|za Z ?_;refine V Z<|cg<|M Z<|E (Al Eh Z AR.AE Z)<|M Z<|E (Cv Ch) ?_;refine E (Cc CQ Z a6.DF)<|M Z<|ve (Je C (Ab fU Z (Zq (o:=0) (m:=n) (s:=Ls.getD k []) C.own G G G G))) ?_;rintro a6 a6 ⟨a6,a6,b6,C⟩;refine Ah<|cg<|E (Bc Z Z Ai Ai)<|M Z<|Ah ?_;have a7:(Ga (fun k=>Ls.getD k []) ((m.row pre.length).take k) 0 (replicate n 0)).length=n:=JH _ _ _ Bb fun j _ J=>by
    rw[kL] at J;rw[R j G];exact kM _
   have a6:(m.row pre.length)[k]?=some ((m.row pre.length).getD k 0):=by rw[ID G];exact dd G
   have b9:(m.row pre.length).take (k+1)=(m.row pre.length).take k++[(m.row pre.length).getD k 0]:=by
    rw[List.take_add_one,a6];rfl
   have b8:((m.row pre.length).take k).length=k:=by rw[kL];omega
   have a6:=bw [] (Ga (fun k=>Ls.getD k []) ((m.row pre.length).take k) 0 (replicate n 0)) [] (Ls.getD k []) ((m.row pre.length).getD k 0) (n:=0) Z a7;rw[Abu,Aaz,Abu,Aaz] at a6;rw[a6] at C;exact⟨k+1,AL,⟨G,_,hO.D,f.D,hl.D,hv.D,AR.D,Bv.D,by rw[b9,Ol,b8,Abs];exact⟨C,b6⟩,t.D⟩,G⟩
  have e:k=m.c:=G;rw[vq G] at C;refine Az Z<|cg<|E (Al Eh Z Bv.AE Z)<|M Z<|E (br underlying74 underlying9 underlying5 Z C G) ?_;refine ve (AH a8 138 Ch Z Z Z Z Z) ?_;rintro _ C ⟨C,C,rfl,C,C⟩;refine ve (Ax Ch Z Z hv.D (Aw underlying37 C.AE.AT Z Bg) Fh Fg) ?_;rintro a6 a6 ⟨a6,a6,hv⟩;have c0:=hv.AD;have c9:=hv.AA;refine Av (Ap Eh Z Z ra ra Bv.D Z) ?_;rintro _ C ⟨Bv,C⟩;refine Ah ?_;have a6:(Ga (fun k=>Ls.getD k []) (m.row pre.length) 0 (replicate n 0)).length=n:=JH _ _ _ Bb fun j _ J=>by
   rw[R j G];exact kM _
  replace hv:=hv.D C;rw[Adl,vq G] at hv;refine⟨_,t.D,hO.D,f.D,hl.D,AR.D,_,?_,Bv⟩;rw[ft,Abt,Abf,Aaf,Aaf,Adb,Adb,gF,b4];exact hv
 ·clear hO f hl hv AR Bv a1 U;rintro t d B ⟨hO,f,hl,AR,r,hv,Bv⟩ f;refine Q<|E (Al Eh Z Bv.AE Z)<|V Z ?_;obtain⟨t,r⟩:=f.take;refine GF Z Z t (FD.tmp Z) ?_;replace hv:=hv.D r;rw[Aap] at hv;rw[iL];exact⟨hO.D.below,hv.Mw hO.D AO⟩
 ·intro p hp;simp at hp
 exact fun _ _ _ _ h=>h.elim
abbrev DB(s:CO):List Value:=[I s.k,I s.m,I s.size]
theorem KP(h:z.ok):Calls QP 71 #[.agg (DB z).toArray] w (Bt fun v w'=>AZ w w'∧v= .bool true):=by
 obtain⟨i,j,l,o,p⟩:=h;obtain⟨c,hO,g⟩:=Ay w;refine AY 31 #[.tmp 2] func71 Z<|Q<|Fa c 101 fun w1 b1 c1 r f=>?_;refine V Z<|Q<|E (Aa CN Z)<|E (Al AF Z f.AE Z)<|E (Dh Z Z)<|M Z ?_;apply AW true 3 _ CK
 ·intro R;refine wo<|E (Aa CN Z)<|wo<|E (Al AF Z f.AE Z)<|wo<|E (Gw Z Z) ?_;exact EQ 3
 refine M Z ?_;apply AW true 3 _ CK
 ·intro t;refine wo<|E (Aa Hk Z)<|wo<|E (Al AF Z f.AE Z)<|wo<|E (Dh Z Z) ?_;exact EQ 3
 refine M Z ?_;apply AW true 3 _ CK
 ·intro C;refine wo<|E (Aa Hk Z)<|wo<|E (Al AF Z f.AE Z)<|wo<|E (Gw Z Z) ?_;exact EQ 3
 refine M Z ?_;apply AW true 3 _ CK
 ·intro I;refine wo<|E (Aa DO Z)<|wo<|E (Al AF Z f.AE Z)<|wo<|E (Dh Z Z) ?_;exact EQ 3
 refine M Z ?_;apply AW true 3 _ CK
 ·intro J;refine wo<|E (Aa DO Z)<|wo<|E (Al AF Z f.AE Z)<|wo<|E (Gw Z Z) ?_;exact EQ 3
 refine V Z<|Af Z Z ?_;exact⟨hO.D.below,by simp;omega⟩
theorem XC(J:n≤1000):Calls QP 245 #[I n] w (Bt fun v w'=>AZ w w'∧CJ w' w.heap.size 3 1 v n ((List.range n).map fun(k:Nat)=>I (k:Int))):=by
 obtain⟨c,hO,o⟩:=Ay w;have hv:AJ c w 9 3 1 (.slice none 0 0) 0 []:=Br _ _ _ _ _;refine AY 14 #[.tmp 2] func245 Z<|Q<|V Z<|Ag<|Q<|M Z<|M Z<|Ah<|An<|AG (σ:=Nat×Value) (fun f=>[(2,f.2),(4,I n),(5,I f.1)]) (fun f w'=>f.1≤n∧∃c',CD w c' w'∧AJ c' w' 9 3 1 f.2 f.1 ((List.range f.1).map fun(k:Nat)=>I (k:Int))) (fun f=>n-f.1) (0, .slice none 0 0) AL ⟨Nat.zero_le _,_,hO,hv⟩ ?_;rintro⟨i,R⟩ U ⟨hi,j,hO,hv⟩;dsimp only at hi hv⊢;refine Q<|E (AX Z Z)<|Ah<|Ag<|BA Z (fun l=>?_) fun l=>?_
 ·have p:i<n:=G;refine As<|Ag<|An<|Q<|M Z<|V Z<|cg<|M Z<|M Z<|ve (AH j 110 BM Z Z Z Z Z) ?_;rintro _ w1 ⟨r,c1,rfl,t,g⟩;refine ve (Ax BM Z Z hv.D (Aw underlying23 g.AE.AT Z Bg) Fh Fg) ?_;rintro v11 w2 ⟨c2,C,hv⟩;refine V Z<|cg<|E (Bc Z Z Ai Ai)<|M Z<|Ah ?_;exact⟨(i+1,_),AL,⟨p,_,hO.D,by rw[List.range_succ,List.map_append];exact hv⟩,by dsimp only;omega⟩
 have e:i=n:=G;subst e;refine Az Z<|Q<|M Z<|V Z<|Af Z Z ?_;exact⟨hO.below,hv.Mw hO AO⟩
def Rt(k m:Nat):Mx:=⟨k+m,k,Il k (k+m)⟩
theorem Ni(k:Nat):∀i,(Il k i).length=i*k
 |0=>by simp[Il]
 |i+1=>by rw[Il,ft,Ni k i,kr,Aap,Aad,Aa2]
theorem Sk(k m:Nat):(Rt k m).ok:=Ni k (k+m)
theorem gG(k m:Nat):Sq k (IY (Rt k m) (List.range k)):=by
 refine⟨Aap,Z,?_⟩;have:=bC (Sk k m) (L:=List.range k) (fun i hi=>by rw[Aax] at hi;show i<k+m;omega);rw[Aap] at this;exact this
def te(k m:Nat):Prop:=(EF k 0 0 (IY (Rt k m) (List.range k),TC k)).1=k
theorem Zt{p:Mx}(hp:Sq k p)(h:(EF k 0 0 (p,TC k)).1=k):Sq k (HG p):=by
 rw[HG,hp.1,hp.2.1,ss G];exact(Vi k 0 0 (p,TC k) G (kM _) hp (mD k)).2
theorem qs(k m:Nat):Hr k m=Me (Rt k m) (HG (IY (Rt k m) (List.range k))):=rfl
theorem mF(k R i j:Nat)(hi:i<R)(g:j<k)(f:Nat→UInt8):
 (Il k i++((List.range j).map f++replicate (k-j) 0)++replicate ((R-(i+1))*k) 0).set (i*k+j) (f j)=Il k i++((List.range (j+1)).map f++replicate (k-(j+1)) 0)++replicate ((R-(i+1))*k) 0:=by
 have hl:=Ni k i;have e:replicate (k-j) (0:UInt8)=0::replicate (k-(j+1)) 0:=by rw[show k-j=(k-(j+1))+1 by omega];rfl
 rw[oo,Adm _ _ G,hl,Ab3,Age _ _ (by simp;omega),Adm _ _ Bb,kr,Aap,Acl,e,List.set_cons_zero,Abf,Aaf,Adb,oo,oo,oo];simp
theorem tf(l:List Nat):(l.map fun(k:Nat)=>(k:Int)).flatMap (fun x=>[I x])=l.map fun(k:Nat)=>I (k:Int):=by
 induction l with
 |nil=>rfl
 |cons a l f=>rw[Aci,Aaa,f];rfl
theorem Zu(h:AJ c w i d 1 a n ((List.range n).map fun(k:Nat)=>I (k:Int)))(g:n≤1000):Bu Cg c w [i] a ((List.range n).map fun(k:Nat)=>(k:Int)):=by
 have f:AJ c w i d 1 a ((List.range n).map fun(k:Nat)=>(k:Int)).length (((List.range n).map fun(k:Nat)=>(k:Int)).flatMap fun x=>[I x]):=by
  rw[tf,kr,Aap];exact h
 refine f.Gl (by rw[kr,Aap];omega) fun x hx=>?_;obtain⟨k,O,rfl⟩:=Aag.1 hx;rw[Aax] at O;constructor<;>omega
theorem mG{s:CO}(h:s.ok)(hg:te s.k s.m):Calls QP 175 #[.agg (DB s).toArray] w (Bt fun v w'=>AZ w w'∧∃vl,v= .agg #[I ((s.k+s.m:Nat):Int),I s.k,vl]∧CJ w' w.heap.size 5 1 vl ((s.k+s.m)*s.k) (AS (Hr s.k s.m).l)):=by
 obtain⟨t,c7,l0,l1,l2⟩:=h;obtain⟨c,hO,j5⟩:=Ay w;clear j5;obtain⟨R,c4⟩:∃R,R=s.k+s.m:=⟨_,Z⟩;have j2:(s.k:Int)+(s.m:Int)=(R:Nat):=by rw[c4];simp
 have j1:R≤14:=G;have o0:R*s.k≤14*8:=WO j1 c7;have o1:1≤R*s.k:=WO (show 1≤R by omega) t;refine AY 68 #[.cell 2 266] func175 Z<|Q<|Fa c 101 fun w1 b1 c1 n2 o=>?_;refine EK c1 102 ET fun w2 b2 c2 n4 l=>Ah<|Q<|E (Aa CN Z)<|E (Al AF Z o.D.AE Z)<|E (Aa Hk Z)<|E (Al AF Z o.D.AE Z)<|E (Bc Z Z Ai Ai) ?_;rw[j2];refine E (Aa CN Z)<|E (Al AF Z o.D.AE Z)<|ve (Ac c2 128 (Ab lG Z (Sj R s.k G G))) ?_;rintro p5 r9 ⟨e4,n7,k7,⟨vl,rfl,hv⟩⟩;replace hv:=hv.Du k7;have o7:=hv.AA;have o8:=hv.AD;obtain⟨g,cp,rfl,p3,p4⟩:=hv.CT G;refine EK e4 103 ET fun s0 b3 l8 h7 AR=>Av (Am BP Z Z AR Z Z Bg) ?_;rintro _ s3 ⟨AR,h8⟩;refine Ah<|Ag<|Q<|E (Aa HX Z)<|E (Al AF Z AR.AE Z)<|M Z<|Ah<|An<|AG (σ:=Nat) (fun i=>[(1, .pointer (some ⟨b1,0,none⟩)),(2, .pointer (some ⟨b2,0,none⟩)),(3, .pointer (some ⟨b3,0,none⟩)),(21,I R),(22,I i)]) (fun i w'=>i≤R∧∃c',CD w c' w'∧AJ c' w' 128 5 1 (.slice (some ⟨g,0,none⟩) (R*s.k) cp) (R*s.k) (AS (Il s.k i++replicate ((R-i)*s.k) 0))∧AI c' w' 101 b1 (DB s) 29∧AI c' w' 102 b2 [I 0,I 0, .slice none 0 0] 266∧AI c' w' 103 b3 [I R,I s.k, .slice (some ⟨g,0,none⟩) (R*s.k) cp] 266) (fun i=>R-i) 0 AL ⟨G,_,hO.D,by simpa[Il,Za] using((hv.D h7).D h8),o.D,l.D,AR⟩ ?_;clear hO hv o l AR;rintro i k9 ⟨hi,J,hO,hv,o,l,AR⟩;refine Q<|E (AX Z Z)<|Ah<|Ag<|BA Z (fun j3=>?_) fun j3=>?_
 ·have a7:i<R:=G;have o2:i*s.k+s.k≤R*s.k:=by
   have:(i+1)*s.k≤R*s.k:=WN _ a7
   rw[Aad,Aa2] at this;exact this
  rw[PT s.k i R a7] at hv;have o4:=Ni s.k i;refine As<|Ag<|An<|Q<|M Z<|V Z<|Q<|E (Aa HY Z)<|E (Al AF Z AR.AE Z)<|M Z<|Ah<|An<|AG (σ:=Nat) (fun j=>[(1, .pointer (some ⟨b1,0,none⟩)),(2, .pointer (some ⟨b2,0,none⟩)),(3, .pointer (some ⟨b3,0,none⟩)),(4,I i),(21,I R),(22,I i),(26,I s.k),(27,I j)]) (fun j w'=>j≤s.k∧∃c',CD w c' w'∧AJ c' w' 128 5 1 (.slice (some ⟨g,0,none⟩) (R*s.k) cp) (R*s.k) (AS (Il s.k i++((List.range j).map (fun j=>UI (UI 2 i) j)++replicate (s.k-j) 0)++replicate ((R-(i+1))*s.k) 0))∧AI c' w' 101 b1 (DB s) 29∧AI c' w' 102 b2 [I 0,I 0, .slice none 0 0] 266∧AI c' w' 103 b3 [I R,I s.k, .slice (some ⟨g,0,none⟩) (R*s.k) cp] 266) (fun j=>s.k-j) 0 AL ⟨G,_,hO,by simpa using hv,o,l,AR⟩ ?_;clear hO hv o l AR;rintro j k9 ⟨o3,J,hO,hv,o,l,AR⟩;refine Q<|E (AX Z Z)<|Ah<|Ag<|BA Z (fun j4=>?_) fun j4=>?_
  ·have j8:j<s.k:=G;have b0:(i:Int)*(s.k:Int)=((i*s.k:Nat):Int):=by simp
   have j7:((i*s.k:Nat):Int)+(j:Int)=((i*s.k+j:Nat):Int):=by simp
   refine As<|Ag<|An<|Q<|M Z<|V Z<|Q<|M Z<|ve (Ac J 1 (Ab ye Z (qi (i:Int) G G))) ?_;rintro p6 s4 ⟨b7,n8,o5,rfl⟩;rw[TJ];refine M Z<|E (Aq Z Z)<|E (Aq Z Z)<|za Z<|V Z<|AM b7 [128] [0,1,0,0,1,0,0,0,0,0,2,0,0,0,0,3] [0,1,2,3,4,5,6,7,8,9,10,11,12,13,14,15] fun s5 n9 f=>?_;refine AN Z (Aa Lh Z)<|vc Z f.kp (AR.D.kb Pq Z Z)<|Bm Z Z<|AN Z (Aa HY Z)<|vc Z f.kp (AR.D.kb AF Z Z)<|AN Z (HK Z Z (by rw[b0];omega) (by rw[b0];omega)) ?_;rw[b0];refine Bm Z Z<|AN Z (Bc Z Z G G) ?_;rw[j7];refine Bm Z Z<|Bm Z Z<|Db Z (Ac b7 1 (Ab sH Z (gz _ (j:Int) G G))) ?_;rintro p7 s6 ⟨l9,h9,o6,rfl⟩;refine f.Bl h9 fun f=>?_;rw[TJ];refine Bm Z Z<|AN Z (Aq Z Z)<|AN Z (Aq Z Z)<|AN Z (HB EE Z Z G) ?_;refine LG Z (JY Ty hv.D Ai Z Z ra ra) ?_;rintro _ s7 ⟨n0,j0,hv⟩;try replace f:=f.tr j0 Z
   refine AP ?_;clear f;refine cg<|E (Bc Z Z Ai Ai)<|M Z<|Ah ?_;have j9:=mF s.k R i j a7 j8 (fun j=>UI (UI 2 i) j);rw[LX,Abs,j9] at hv;exact⟨j+1,AL,⟨G,_,hO.D,hv,o.D,l.D,AR.D⟩,G⟩
  have e:j=s.k:=G;refine Az Z<|cg<|E (Bc Z Z Ai Ai)<|M Z<|Ah ?_;rw[e,Acl,Aej,Aaz] at hv;exact⟨i+1,AL,⟨G,_,hO,hv,o,l,AR⟩,G⟩
 have e:i=R:=G;rw[e,Acl,Ac4,Aej,Aaz] at hv;subst c4;have c5:=gG s.k s.m;have a8:∀i∈List.range s.k,i<(Rt s.k s.m).r:=fun i hi=>by rw[Aax] at hi;show i<s.k+s.m;omega
 refine Az Z<|Ag<|WC.mono (N:=(fun e w'=>∃(c':Nat→Nat) (b8:Nat) (C:Value),Sub [(4000000, .tuple #[]),(1, .pointer (some ⟨b1,0,none⟩)),(2, .pointer (some ⟨b2,0,none⟩)),(3, .pointer (some ⟨b3,0,none⟩)),(8, .pointer (some ⟨b8,0,none⟩))] e∧CD w c' w'∧AJ c' w' 128 5 1 (.slice (some ⟨g,0,none⟩) ((s.k+s.m)*s.k) cp) ((s.k+s.m)*s.k) (AS (Il s.k (s.k+s.m)))∧AI c' w' 102 b2 [I 0,I 0, .slice none 0 0] 266∧AI c' w' 103 b3 [I ((s.k+s.m:Nat):Int),I s.k, .slice (some ⟨g,0,none⟩) ((s.k+s.m)*s.k) cp] 266∧AJ c' w' 11 5 1 C (s.k*s.k) (AS (IY (Rt s.k s.m) (List.range s.k)).l)∧AI c' w' 108 b8 [I s.k,I s.k,C] 266)) ?_ ?_
 ·refine EB J [] [1,0,1,2,2,0,0,0,2,3,0] (.Au 0 (.Au 1 (.Au 2 (.two 3 (.two 4 (.Au 5 (.Au 6 (.Au 7 (.one 8 (.one 9 (.Au 10 .nil)))))) 8 (.one 4 (.Au 5 (.Au 6 (.Au 7 (.one 9 (.Au 10 .nil))))))) 8 (.one 3 (.one 4 (.Au 5 (.Au 6 (.Au 7 (.one 9 (.Au 10 .nil))))))))))) fun q2 n3 f=>?_;refine Cj Z Z Z f.kp (AR.D.kn BP Z Z) Z<|Cd Z (Aa CN Z)<|Cj Z Z Z f.kp (o.D.kb AF Z Z) Z<|Ck ?_ ?_
  ·refine EM Z (Ac J 7 (Ab sI Z (XC G))) ?_;rintro k8 q3 ⟨b6,e6,k0,hf⟩;refine f.Bl e6 fun f=>?_;replace hf:=hf.Du k0;refine Ck ?_ ?_
   ·refine EM Z (Ac b6 11 (Ab fR Z (Rs (m:=Rt s.k s.m) (L:=List.range s.k) (hv.D.own.Eu (Wm _)) (Sk _ _) (show 1≤s.k+s.m by omega) (show s.k+s.m≤16 by omega) t (show s.k≤16 by omega) (Zu hf G).AB (by simp;omega) (by simp;omega) a8))) ?_;rintro c6 q4 ⟨c8,e7,k1,⟨C,rfl,hx⟩⟩;refine f.Bl e7 fun f=>?_;replace hx:=hx.Du k1;have b4:=hx.AD;have b5:=hx.AA;refine Cd Z (Cf Z)<|Cd Z (Aq Z Z)<|Cd Z (Aq Z Z)<|EZ Z (CB c8 108 ET) ?_;rintro _ q5 ⟨b8,l4,rfl,b9,p⟩;refine f.Bl b9 fun f=>AV<|Bj Z Z Z (Am BP Z Z p Z Z Bg) ?_;rintro _ q6 ⟨p,e8⟩;refine Cd Z (CG Z)<|Bs ?_;exact⟨_,_,_,AL,hO.D,hv.D,l.D,AR.D,by have:=((hx.D b9).D e8);rw[Aap] at this;exact this,by have:=p;rw[Aap] at this;exact this⟩
   refine EM Z (CB b6 108 ET) ?_;rintro _ q7 ⟨b8,c9,rfl,e9,p⟩;refine f.Bl e9 fun f=>AV ?_;refine EM Z (Ac c9 11 (Ab fR Z (Rs (m:=Rt s.k s.m) (L:=List.range s.k) (hv.D.own.Eu (Wm _)) (Sk _ _) (show 1≤s.k+s.m by omega) (show s.k+s.m≤16 by omega) t (show s.k≤16 by omega) (Zu hf.D G).AB (by simp;omega) (by simp;omega) a8))) ?_;rintro c6 q8 ⟨l5,h0,k2,⟨C,rfl,hx⟩⟩;refine f.Bl h0 fun f=>?_;replace hx:=hx.Du k2;have b4:=hx.AD;have b5:=hx.AA;refine Cd Z (Cf Z)<|Cd Z (Aq Z Z)<|Cd Z (Aq Z Z)<|AV<|Bj Z Z Z (Am BP Z Z p.D Z Z Bg) ?_;rintro _ q9 ⟨p,h1⟩;refine Cd Z (CG Z)<|Bs ?_;exact⟨_,_,_,AL,hO.D,hv.D,l.D,AR.D,by have:=(hx.D h1);rw[Aap] at this;exact this,by have:=p;rw[Aap] at this;exact this⟩
  refine EM Z (CB J 108 ET) ?_;rintro _ r0 ⟨b8,e0,rfl,h2,p⟩;refine f.Bl h2 fun f=>EZ Z (Ac e0 7 (Ab sI Z (XC G))) ?_;rintro k8 r1 ⟨e1,h3,k3,hf⟩;refine f.Bl h3 fun f=>?_;replace hf:=hf.Du k3;refine AV ?_;refine EM Z (Ac e1 11 (Ab fR Z (Rs (m:=Rt s.k s.m) (L:=List.range s.k) (hv.D.own.Eu (Wm _)) (Sk _ _) (show 1≤s.k+s.m by omega) (show s.k+s.m≤16 by omega) t (show s.k≤16 by omega) (Zu hf G).AB (by simp;omega) (by simp;omega) a8))) ?_;rintro c6 r2 ⟨l6,h4,k4,⟨C,rfl,hx⟩⟩;refine f.Bl h4 fun f=>?_;replace hx:=hx.Du k4;have b4:=hx.AD;have b5:=hx.AA;refine Cd Z (Cf Z)<|Cd Z (Aq Z Z)<|Cd Z (Aq Z Z)<|AV<|Bj Z Z Z (Am BP Z Z p.D Z Z Bg) ?_;rintro _ r3 ⟨p,h5⟩;refine Cd Z (CG Z)<|Bs ?_;exact⟨_,_,_,AL,hO.D,hv.D,l.D,AR.D,by have:=(hx.D h5);rw[Aap] at this;exact this,by have:=p;rw[Aap] at this;exact this⟩
 clear hO hv o l AR;rintro n1 s8 ⟨e5,b8,C,j6,hO,hv,l,AR,hx,p⟩;refine DN j6 ?_;have b4:=hx.AD;have b5:=hx.AA;refine Q<|E (Ba BP Z p.AE Z)<|ve (Ac e5 12 (Ab sE Z (Vj (m:=IY (Rt s.k s.m) (List.range s.k)) (n:=s.k) (va:=C) (hx.own.Eu (Wm _)) c5 t G hg))) ?_;rintro p8 r4 ⟨e2,h6,k5,⟨q0,rfl,U⟩⟩;replace U:=U.Du k5;have r:=Zt c5 hg;have o9:=U.AD;have p0:=U.AA;refine M Z<|E (Aq Z Z)<|E (Aq Z Z)<|EK e2 110 ET fun r5 l3 e3 c0 a6=>?_;refine Av (Am BP Z Z a6 Z Z Bg) ?_;rintro _ r6 ⟨a6,c3⟩;refine V Z<|Q<|E (Ba BP Z AR.D.AE Z)<|E (Ba BP Z a6.AE Z) ?_;refine ve (Ac e3 13 (Ab sF Z (by have ht:=Xx (a:=Rt s.k s.m) (b:=HG (IY (Rt s.k s.m) (List.range s.k))) ((((hv.D h6).D c0).D c3).own.Eu (Wm _)) (by have:=((U.D c0).D c3).own.Eu (Wm 0);rw[r.1,r.2.1];exact this) (Sk _ _) r.ok (by rw[r.1];rfl) (show 1≤s.k+s.m by omega) (show s.k+s.m≤16 by omega) t (show s.k≤16 by omega) (by rw[r.2.1];exact t) (by rw[r.2.1];omega);rw[r.1,r.2.1] at ht;exact ht))) ?_;rintro p9 r7 ⟨l7,n5,k6,⟨q1,rfl,a1⟩⟩;replace a1:=a1.Du k6;have p1:=a1.AD;have p2:=a1.AA;refine Av (Am BP Z Z l.D Z Z Bg) ?_;rintro _ r8 ⟨l,n6⟩;refine Ah<|FH Z (DZ BP Z l.AE Z) ?_;exact⟨hO.D.below,_,Z,a1.D.Mw hO.D AO⟩
def Tb:Nat→List Nat→List (List Nat)
 |0,_=>[[]]
 |_+1,[]=>[]
 |k+1,a::r=>(Tb k r).map (a:: ·)++Tb (k+1) r
theorem My:∀(bs:List Bool) (k i:Nat),(Dl k i bs).length≤k
 |[],_,_=>Wm _
 |b::r,k,i=>by
  rw[Dl];split
  ·rename_i h;have:=My r (k-1) (i+1);rw[SG];omega
  ·exact My r k (i+1)
theorem Ru:∀(bs:List Bool) (k i:Nat),(Dl k i bs).length=k→Dl k i bs∈Tb k (List.range' i bs.length)
 |[],k,i,h=>by
  have:k=0:=by simpa[Dl] using h.symm
  subst this;simp[Dl,Tb]
 |b::r,0,i,h=>by
  rw[rY h];simp[Tb]
 |b::r,k+1,i,h=>by
  rw[SG,List.range'_succ,Tb,Aac];rw[Dl] at h⊢;split
  ·rename_i f;rw[zm f,SG] at h;left;exact Aag.2 ⟨_,Ru r k (i+1) (by simpa using h),Z⟩
  ·rename_i f;rw[ss f] at h;right;exact Ru r (k+1) (i+1) h
def Small(s:CO):Prop:=1≤s.k∧s.k≤3∧s.m≤2∧1≤s.size∧s.size≤120
theorem Small.ok(h:Small z):z.ok:=by obtain⟨a,b,c,d,e⟩:=h;exact⟨a,G,G,d,e⟩
def gH(k m:Nat):Bool:=Nat.beq (EF k 0 0 (IY (Rt k m) (List.range k),TC k)).1 k&&(Tb k (List.range' 0 (k+m))).all fun L=>Nat.beq (EF k 0 0 (IY (Hr k m) L,TC k)).1 k
theorem iM:((List.range 3).all fun k=>(List.range 3).all fun m=>gH (k+1) m)=true:=Ao
theorem bD(h:Small z):gH z.k z.m=true:=by
 obtain⟨a,b,c,_⟩:=h;have f:=Aae.1 iM (z.k-1) (Aax.2 G);have g:=Aae.1 f z.m (Aax.2 G);rwa [show z.k-1+1=z.k by omega] at g
theorem Zv(h:Small z):te z.k z.m:=by
 have:=bD h;simp only[gH,kg] at this;exact Aai this.1
theorem XD(h:Small z)(g:x.length=z.k+z.m)(O:(Dl z.k 0 x).length=z.k):(EF z.k 0 0 (IY (Hr z.k z.m) (Dl z.k 0 x),TC z.k)).1=z.k:=by
 have:=bD h;simp only[gH,kg] at this;have f:=Aae.1 this.2 (Dl z.k 0 x) (by rw[←g];exact Ru x z.k 0 O);exact Aai f
theorem qt{l:List (List UInt8)}{j:Array Value}{q:List UInt8→Bool}(g:Rd DQ w a l)(hf:Aj QP S=true)(t:∀(w':World) (x:List UInt8),AZ w w'→Calls QP S (#[St x]++j) w' (Bt fun a w''=>AZ w' w''∧a= .bool (q x))):
 Calls QP 210 #[a, .func (.func S) #[] j] w (Bt fun v' w'=>AZ w w'∧∃i:Int,v'=I i∧decide (0≤i)=l.any q):=by
 have o:=g.small;have hK:FY w w:=Bf w;refine AY 19 #[.tmp 4] func210 Z<|Q<|V Z<|Ag<|Q<|M Z ?_
 first|refine E (Ez Ch (by assumption) Z) ?_|refine E (Fo underlying37 Z) ?_
 refine M Z<|Ah<|An<|AG (σ:=Nat) (fun k=>[(0,a),(1, .func (.func S) #[] j),(7,I l.length),(8,I k)]) (fun k w'=>Rd DQ w' a l∧FY w w'∧k≤l.length∧∀x∈l.take k,q x=false) (fun k=>l.length-k) 0 AL ⟨g,hK,G,by simp⟩ ?_;rintro k o ⟨g,hK,O,r⟩;refine Q<|E (AX Z Z)<|Ah<|Ag<|BA Z (fun o=>?_) fun o=>?_
 ·have ka:k<l.length:=G;obtain⟨o,o,rfl,p⟩:=g.el ka;refine As<|Ag<|An<|Q<|M Z<|V Z<|Q<|M Z<|M Z<|M Z<|E (BJ Ch (by assumption) Z Z Z Ai Ai)<|E (Cc CQ Z o) ?_;refine ve (DV Z hf Z (t _ _ hK)) ?_;rintro _ o ⟨p,rfl⟩;refine Ah<|BA Z (fun o=>?_) fun o=>?_
  ·refine Q<|M Z<|V Z ?_;refine Af Z Z ?_;exact⟨(hK.up p),_,Z,by rw[Aa8.2 ⟨_,mv ka,o⟩];simp⟩
  refine As<|cg<|E (Bc Z Z Ai Ai)<|M Z<|Ah ?_;exact⟨k+1,AL,⟨(g.up p),(hK.up p),ka,Ha r ka o⟩,G⟩
 refine Az Z<|Q<|V Z<|Af Z Z ?_;exact⟨hK,-1,Z,by rw[TS r G];decide⟩
theorem Zw{l:List (List UInt8)}{g:Array Value}{q:List UInt8→Bool}(j:Rd DQ w a l)(hf:Aj QP S=true)(p:∀(w':World) (x:List UInt8),AZ w w'→Calls QP S (#[St x]++g) w' (Bt fun a w''=>AZ w' w''∧a= .bool (q x))):
 Calls QP 137 #[a, .func (.func S) #[] g] w (Bt fun v' w'=>AZ w w'∧v'= .bool (l.any q)):=by
 have hK:FY w w:=Bf w;refine AY 9 #[.tmp 4] func137 Z<|Q<|V Z<|Q<|M Z<|M Z<|ve (Ab xV Z (qt j hf p)) ?_;rintro r w1 ⟨o,i,rfl,hi⟩;refine E (Dh Z Z)<|V Z<|Af Z Z ?_;exact⟨(hK.up o),by rw[←hi]⟩
theorem iN{x:List UInt8}(f:Gt w k (DB z) 29):Calls QP 239 #[St x, .pointer (some ⟨k,0,none⟩)] w (Bt fun v w'=>AZ w w'∧v= .bool (!decide (x.length=z.size))):=by
 have hK:FY w w:=Bf w;refine AY 9 #[.tmp 3] func239 Z<|Q<|V Z<|Q<|M Z<|E (Ey underlying9 Z)<|E (Aa DO Z)<|E (Al AF Z f Z)<|E (BK Z Z)<|V Z<|Af Z Z ?_;have e:(((x.length:Nat):Int)=((z.size:Nat):Int))↔x.length=z.size:=G;exact⟨hK,by simp[e]⟩
theorem iO{L:List (List UInt8)}(h:z.ok)(hl:Rd DQ w a L)(j:L.length=n)(hs:∀x∈L,x.length=z.size):Calls QP 173 #[.agg (DB z).toArray,a,I n] w (Bt fun v w'=>AZ w w'∧v= .bool true):=by
 obtain⟨c,hO,f⟩:=Ay w;have g:Bu DQ c w [0] a L:=Rd.Du hl (fun k O=>by simp[f,AU]);have f:(L.any fun x=> !decide (x.length=z.size))=false:=by
  rw[Ab9];intro x hx;simp[hs x hx]
 refine AY 21 #[.tmp 6] func173 Z<|Q<|Fa c 103 fun w1 b3 c1 i AR=>?_;refine V Z<|Q<|E (Ba CP Z AR.AE Z)<|ve (Ac c1 1 (Ab YM Z (KP h))) ?_;rintro i w2 ⟨c2,i,i,rfl⟩;refine M Z ?_;apply AW true 4 _ CK
 ·intro i;refine wo<|M Z<|wo<|E (BN Ch) ?_;refine wo<|M Z<|wo<|E (BO Z Z) ?_;exact EQ 4
 refine M Z ?_;apply BU c2 true 4 _ CK
 ·intro i i;refine wo<|M Z<|wo<|E (Dn Z)<|wo<|ve (Ac c2 1 (Ab lz Z (Zw g.D.AB yd (fun w' x g↦iN ((g.block _ AR.D.AE.lt).trans AR.D.AE))))) ?_;rintro g g ⟨g,g,g,rfl⟩;refine wo<|E (BL Z) ?_;exact BV 4 i.D
 intro g g g;refine V Z<|Af Z Z ?_;exact⟨hO.D.below,by simp[j,f]⟩
theorem Sl(h:Small z):(Hr z.k z.m).r=z.k+z.m∧(Hr z.k z.m).c=z.k∧(Hr z.k z.m).ok:=by
 have f:=Zt (gG z.k z.m) (Zv h);rw[qs];refine⟨Z,f.2.1,?_⟩;rw[Mx.ok];show(GY _ _ (z.k+z.m)).length=(z.k+z.m)*_
 exact JZ f.ok (by rw[f.1];exact kM _) (Sk _ _) _ (kM _)
theorem qu{L:List (List UInt8)}(h:Small z)(hl:Rd DQ w a L)(R:L.length=z.k)(hs:∀x∈L,x.length=z.size):Calls QP 104 #[.agg (DB z).toArray,a] w (Bt fun v w'=>AZ w w'∧∃p,v= .tuple #[p,I 0]∧CJ w' w.heap.size 9 1 p (z.k+z.m) ((Mg z L).map St)):=by
 have i:=h.ok;obtain⟨f,f,f,r,f⟩:=id h;obtain⟨c,hO,f⟩:=Ay w;have j:Bu DQ c w [0] a L:=Rd.Du hl (fun k O=>by simp[f,AU]);refine AY 16 #[.tmp 4, .tmp 5] func104 Z<|Q<|Fa c 102 fun w1 b2 c1 t f=>?_;refine za Z<|V Z<|Ag<|Q<|E (Ba CP Z f.AE Z)<|M Z<|E (Aa CN Z)<|E (Al AF Z f.AE Z)<|ve (Ac c1 1 (Ab xA Z (iO i j.D.AB R hs))) ?_;rintro v10 w2 ⟨c2,C,g,rfl⟩;refine E (BL Z)<|Ah<|Cz Z (fun g=>?_) fun g=>?_
 ·exact absurd g Bb
 refine As<|Q<|E (Ba CP Z f.D.AE Z)<|ve (Ac c2 11 (Ab sv Z (mG i (Zv h)))) ?_;rintro f f ⟨o,J,f,⟨U,rfl,hg⟩⟩;replace hg:=hg.Du f;obtain⟨f,l⟩:∃f,f=Hr z.k z.m:=⟨_,Z⟩;obtain⟨g,g2,i⟩:=Sl h;rw[←l] at hg g g2 i;have a1:=hg.AD;have a1:=hg.AA;refine M Z ?_;refine ve (Ac o 12 (Ab su Z (by have o:=XB (m:=f) (n:=z.size) (va:=U) (by rw[g,g2];exact hg.own.Eu (Wm _)) i G G G G (((j.D t).D C).D J).AB G hs r G;rw[g,g2] at o;exact o))) ?_;rintro f f ⟨f,f,g,f⟩;replace f:=f.Du g;refine za Z<|V Z<|BR Z Z Z ?_;rw[Mg,←l];exact⟨hO.D.below,_,Z,f.Mw hO.D AO⟩
theorem Sm(b:Bool):∀(bs:List Bool) (k j:Nat),Dl k j (bs++[b])=Dl k j bs++(if b=true∧(Dl k j bs).length<k then[j+bs.length] else[])
 |[],k,j=>by
  simp only[List.nil_append,Dl,List.length_nil,Nat.add_zero];by_cases h:b=true∧0<k
  ·simp[h.1,h.2]
  ·simp only[h,if_false]
 |a::r,k,j=>by
  rw[List.cons_append,Dl,Dl];by_cases h:a=true∧0<k
  ·rw[if_pos h,if_pos h,Sm b r (k-1) (j+1),List.length_cons,List.length_cons,List.cons_append];congr 2;rw[show j+1+r.length=j+(r.length+1) by omega];have i:=h.2;by_cases f:b=true∧(Dl (k-1) (j+1) r).length<k-1
   ·rw[if_pos f,if_pos ⟨f.1,G⟩]
   ·rw[if_neg f,if_neg fun g=>f ⟨g.1,G⟩]
  ·rw[if_neg h,if_neg h,Sm b r k (j+1),List.length_cons];rw[show j+1+r.length=j+(r.length+1) by omega]
theorem Rv:∀(bs:List Bool) (k j:Nat),∀i∈Dl k j bs,j≤i∧i<j+bs.length
 |[],_,_,i,h=>by simp[Dl] at h
 |b::r,k,j,i,h=>by
  rw[Dl] at h;rw[SG];split at h
  ·rcases Aak.1 h with rfl|h
   ·omega
   ·have:=Rv r _ _ i h;omega
  ·have:=Rv r _ _ i h;omega
theorem Sn:∀(bs:List Bool) (k j:Nat),∀i∈Dl k j bs,bs[i-j]?=some true
 |[],_,_,i,h=>by simp[Dl] at h
 |b::r,k,j,i,h=>by
  have key:∀f,i∈Dl f (j+1) r→(b::r)[i-j]?=some true:=fun f g=>by
   have p:=Rv r f (j+1) i g;have l:=Sn r f (j+1) i g;rw[show i-j=(i-(j+1))+1 by omega,Aeq];exact l
  rw[Dl] at h;split at h
  ·rename_i o;rcases Aak.1 h with rfl|h
   ·rw[Acl,o.1];rfl
   ·exact key _ h
  ·exact key _ h
theorem bE{a b:Mx}(f:Sq k b)(g:a.ok)(hc:a.c=k):(Me a b).r=a.r∧(Me a b).c=k∧(Me a b).ok:=by
 refine⟨Z,f.2.1,?_⟩;rw[Mx.ok];show(GY _ _ a.r).length=a.r*_
 exact JZ f.ok (by rw[f.1,hc];exact kM _) g _ (kM _)
theorem mH(h:Small z)(j:∀i∈e,i<z.k+z.m)(O:e.length=z.k):Sq z.k (IY (Hr z.k z.m) e):=by
 obtain⟨f,g2,g⟩:=Sl h;refine⟨O,g2,?_⟩;have:=bC g (L:=e) (fun i hi=>by rw[f];exact j i hi);rw[O,g2] at this;exact this
theorem mJ{H:List Nat}(h:AJ c w i d 1 a H.length (H.map fun(k:Nat)=>I (k:Int)))(j:H.length≤1000)(g:∀k∈H,k≤1000):Bu Cg c w [i] a (H.map fun(k:Nat)=>(k:Int)):=by
 have f:AJ c w i d 1 a (H.map fun(k:Nat)=>(k:Int)).length ((H.map fun(k:Nat)=>(k:Int)).flatMap fun x=>[I x]):=by
  rw[tf,kr];exact h
 refine f.Gl (by rw[kr];omega) fun x hx=>?_;obtain⟨k,O,rfl⟩:=Aag.1 hx;have:=g k O;constructor<;>omega
theorem tg(l:List (List UInt8)):l.flatMap (fun x=>[St x])=l.map St:=by
 induction l with
 |nil=>rfl
 |cons a l f=>rw[Aci,Aaa,f];rfl
theorem mK{H:List Nat}{f:Nat→List UInt8}(h:AJ c w i d 1 a H.length (H.map fun k=>St (f k)))(l:H.length≤1000)(j:∀k∈H,(f k).length≤1000):Bu DQ c w [i] a (H.map f):=by
 have g:AJ c w i d 1 a (H.map f).length ((H.map f).flatMap fun x=>[St x]):=by
  rw[tg,kr,Acu];exact h
 refine g.Gl (by rw[kr];omega) fun x hx=>?_;obtain⟨k,O,rfl⟩:=Aag.1 hx;have:=j k O;omega
def aaB(s:CO)(w0 w:World)(o:Option (List (List UInt8)))(v:Value):Prop:=match o with
 |none=>v= .tuple #[.slice none 0 0,I 8]
 |some g=>∃f,v= .tuple #[f,I 0]∧CJ w w0.heap.size 9 1 f (s.k+s.m) (g.map St)
theorem qv{vl vb:Value}{L:List (List UInt8)}(h:Small z)(hl:Rd DQ w vl L)(t:Rd DW w vb x)(c9:L.length=z.k+z.m)(c5:x.length=z.k+z.m)(hs:∀(i:Nat) (l:i<x.length) (o:i<L.length),x[i]=true→L[i].length=z.size):
 Calls QP 135 #[.agg (DB z).toArray,vl,vb] w (Bt fun v w'=>AZ w w'∧aaB z w w' (Sf z L x) v):=by
 have b2:=h.ok;obtain⟨b8,f,f,c7,f⟩:=id h;obtain⟨c,hO,f⟩:=Ay w;have l:Bu DQ c w [0] vl L:=Rd.Du hl (fun k O=>by simp[f,AU]);have o:Bu DW c w [0] vb x:=Rd.Du t (fun k O=>by simp[f,AU]);refine AY 98 #[.tmp 6, .tmp 7] func135 Z<|Q<|Fa c 103 fun w1 b3 c1 f AR=>?_;refine za Z<|V Z<|Ag<|Q<|E (Ba CP Z AR.AE Z)<|ve (Ac c1 1 (Ab YM Z (KP b2))) ?_;rintro f w2 ⟨c2,f,f,rfl⟩;refine E (BL Z)<|M Z ?_;apply AW false 8 _ CK
 ·intro f;refine wo<|M Z<|wo<|E (BN Ch) ?_;refine wo<|E (Aa CN Z)<|wo<|E (Al AF Z AR.D.AE Z)<|wo<|E (Aa Hk Z)<|wo<|E (Al AF Z AR.D.AE Z)<|wo<|E (Bc Z Z Ai Ai)<|wo<|E (BK Z Z) ?_;exact EQ 8
 refine M Z ?_;apply AW false 5 _ CK
 ·intro f;refine wo<|M Z<|wo<|E (BN Fi) ?_;refine wo<|M Z<|wo<|E (BN Ch) ?_;refine wo<|E (BK Z Z) ?_;exact EQ 5
 refine Ah<|Cz Z (fun f=>?_) fun f=>?_
 ·exact absurd f (by simp[c9,c5])
 refine As<|Q<|V Z<|Q<|V Z<|Ag<|Q<|M Z<|E (BN Fi) ?_;refine M Z<|Ah<|An<|AG (σ:=Nat×Value×Value) (fun f=>[(1,vl),(3, .pointer (some ⟨b3,0,none⟩)),(8,f.2.1),(9,f.2.2),(37,vb),(38,I x.length),(39,I f.1)]) (fun f w'=>f.1≤x.length∧∃c',CD w c' w'∧Bu DQ c' w' [0] vl L∧Bu DW c' w' [0] vb x∧AI c' w' 103 b3 (DB z) 29∧AJ c' w' 8 3 1 f.2.1 (Dl z.k 0 (x.take f.1)).length ((Dl z.k 0 (x.take f.1)).map fun(k:Nat)=>I (k:Int))∧AJ c' w' 9 9 1 f.2.2 (Dl z.k 0 (x.take f.1)).length ((Dl z.k 0 (x.take f.1)).map fun i=>St (L.getD i []))) (fun f=>x.length-f.1) (0, .slice none 0 0, .slice none 0 0) AL ⟨Nat.zero_le _,_,hO.D,l.D,o.D,AR.D,Br _ _ _ _ _,Br _ _ _ _ _⟩ ?_;rintro⟨i,f,e1⟩ f ⟨hi,J,hO,l,o,AR,g,j⟩;dsimp only at hi hO l o AR g j;refine Q<|E (AX Z Z)<|Ah<|Ag<|BA Z (fun f=>?_) fun f=>?_
 ·have C:i<x.length:=G;have a1:i<L.length:=G;have f:=(Co o (k:=i) G AO).1;have U:=(Co l (k:=i) G AO).1;have Ze:=My (x.take i) z.k 0;have p:=Sm x[i] (x.take i) z.k 0;rw[←pk C,kL,Abl G,Abs] at p;have b4:=g.AA;have b5:=g.AD;have b6:=j.AA;have b7:=j.AD;refine As<|Ag<|An<|Q<|M Z<|E (Cv Fi) ?_;refine E (Cc IW Z f.DF)<|za Z<|V Z<|Ag<|Ag<|AM J [] [0,0,0,0,0,1,0,0,1,0,0] [0,1,2,3,4,5,6,7,8,9,10] fun f R f=>?_;have r:=AR;refine Bm Z Z<|Bm Z Z ?_;apply JV true 8 _ f.kp Mq
  ·intro a6;refine Bm Z Z<|Bm Z Z<|AN Z (Cv Ch) ?_;refine vc Z f.kp (U.D.ke CQ Z)<|AN Z (Ey underlying9 Z)<|AN Z (Aa DO Z)<|vc Z f.kp (r.D.kb AF Z Z)<|AN Z (BK Z Z) ?_;exact po 8
  refine AP ?_;refine Cz Z (fun r=>?_) fun r=>?_
  ·
   exact absurd r (by simp;exact fun t↦by rw[hs i C a1 t])
  refine As<|Q<|M Z<|M Z ?_;apply AW true 5 _ CK
  ·intro r;refine wo<|M Z<|wo<|E (BN BM) ?_;refine wo<|E (Aa CN Z)<|wo<|E (Al AF Z AR.D.AE Z)<|wo<|E (AX Z Z) ?_;exact EQ 5
  refine Ah<|BA Z (fun U=>?_) fun U=>?_
  ·have r:=(Co (l.D R) (k:=i) G AO).1;have C:x[i]=true∧(Dl z.k 0 (x.take i)).length<z.k:=by simpa using U
   rw[zm C] at p;have a1:L.getD i []=L[i]:=by rw[hk,dd G];rfl
   refine WC.mono (N:=(fun e w'=>∃(c':Nat→Nat) (a6 a7:Value),Sub [(4000000, .tuple #[]),(1,vl),(3, .pointer (some ⟨b3,0,none⟩)),(8,a6),(9,a7),(37,vb),(38,I x.length),(39,I i)] e∧CD w c' w'∧Bu DQ c' w' [0] vl L∧Bu DW c' w' [0] vb x∧AI c' w' 103 b3 (DB z) 29∧AJ c' w' 8 3 1 a6 (Dl z.k 0 (x.take (i+1))).length ((Dl z.k 0 (x.take (i+1))).map fun(k:Nat)=>I (k:Int))∧AJ c' w' 9 9 1 a7 (Dl z.k 0 (x.take (i+1))).length ((Dl z.k 0 (x.take (i+1))).map fun i=>St (L.getD i [])))) ?_ ?_
   ·refine EB J [8,9] [0,0,2,2,0,0,0,0,1,2,2,0,0] (.Au 0 (.Au 1 (.Au 4 (.Au 5 (.Au 6 (.Au 7 (.Au 8 (.two 2 (.two 3 (.one 9 (.one 10 (.Au 11 (.Au 12 .nil)))) 9 (.one 3 (.one 10 (.Au 11 (.Au 12 .nil))))) 9 (.one 2 (.one 3 (.one 10 (.Au 11 (.Au 12 .nil))))))))))))) fun C C f=>?_;refine Cd Z (Cf Z)<|Cd Z (Cf Z)<|Cd Z (Cf Z)<|Cd Z (Cf Z)<|Cd Z (Cf Z)<|Cd Z (Cv Ch) ?_;refine Cj Z Z Z f.kp (r.D.ke CQ Z) Z<|Ck ?_ ?_
    ·refine EM Z (AH J 165 BM Z Z Z Z Z) ?_;rintro _ r ⟨c3,c4,rfl,r,C⟩;refine f.Bl r fun f=>Ck ?_ ?_
     ·refine EM Z (Ax BM Z Z g.D (Aw underlying23 C.AE.AT Z Bg) Fh Fg) ?_;rintro b9 r ⟨r,a8,g⟩;refine f.Bl a8 fun f=>?_;refine EZ Z (AH r 172 Ch Z Z Z Z Z) ?_;rintro _ r ⟨a8,r,rfl,b0,r⟩;refine f.Bl b0 fun f=>EZ Z (Ax Ch Z Z j.D (Aw underlying37 r.AE.AT Z Bg) Fh Fg) ?_;rintro c0 b1 ⟨b1,b1,j⟩;refine f.Bl b1 fun f=>?_;refine Cd Z (CG Z)<|Cd Z (CG Z)<|Bs ?_;exact⟨_,_,_,AL,hO.D,l.D,o.D,AR.D,by rw[p,ft,Aaf];exact((g.D b0).D b1),by rw[p,ft,Aaf,Adb,a1];exact j⟩
     refine EM Z (AH c4 172 Ch Z Z Z Z Z) ?_;rintro _ b0 ⟨a8,b0,rfl,b0,r⟩;refine f.Bl b0 fun f=>EZ Z (Ax BM Z Z g.D (Aw underlying23 C.D.AE.AT Z Bg) Fh Fg) ?_;rintro b9 b0 ⟨b0,b0,g⟩;refine f.Bl b0 fun f=>?_;refine EZ Z (Ax Ch Z Z j.D (Aw underlying37 r.D.AE.AT Z Bg) Fh Fg) ?_;rintro c0 b0 ⟨b0,b0,j⟩;refine f.Bl b0 fun f=>?_;refine Cd Z (CG Z)<|Cd Z (CG Z)<|Bs ?_;exact⟨_,_,_,AL,hO.D,l.D,o.D,AR.D,by rw[p,ft,Aaf];exact(g.D b0),by rw[p,ft,Aaf,Adb,a1];exact j⟩
    refine EM Z (AH J 172 Ch Z Z Z Z Z) ?_;rintro _ b0 ⟨a8,a8,rfl,b0,r⟩;refine f.Bl b0 fun f=>EZ Z (AH a8 165 BM Z Z Z Z Z) ?_;rintro _ a8 ⟨c3,a8,rfl,a8,C⟩;refine f.Bl a8 fun f=>EZ Z (Ax BM Z Z g.D (Aw underlying23 C.AE.AT Z Bg) Fh Fg) ?_;rintro b9 a8 ⟨a8,a8,g⟩;refine f.Bl a8 fun f=>?_;refine EZ Z (Ax Ch Z Z j.D (Aw underlying37 r.D.AE.AT Z Bg) Fh Fg) ?_;rintro c0 C ⟨C,C,j⟩;refine f.Bl C fun f=>?_;refine Cd Z (CG Z)<|Cd Z (CG Z)<|Bs ?_;exact⟨_,_,_,AL,hO.D,l.D,o.D,AR.D,by rw[p,ft,Aaf];exact(g.D C),by rw[p,ft,Aaf,Adb,a1];exact j⟩
   clear hO l o AR g j b4 b5 b6 b7;rintro f f ⟨f,a6,a7,f,hO,l,o,AR,g,j⟩;refine DN f<|cg<|E (Bc Z Z Ai Ai)<|M Z<|Ah ?_;exact⟨(i+1,_,_),AL,⟨G,_,hO,l,o,AR,g,j⟩,by show x.length-(i+1)<x.length-i;omega⟩
  rw[ss (by simpa using U),Aaz] at p;replace g:=g.D R;replace j:=j.D R;rw[←p] at g j;refine As<|cg<|E (Bc Z Z Ai Ai)<|M Z<|Ah ?_;exact⟨(i+1,_,_),AL,⟨G,_,hO.D,l.D,o.D,AR.D,g,j⟩,by show x.length-(i+1)<x.length-i;omega⟩
 have e:i=x.length:=G;subst e;rw[vq (kM _)] at g j;obtain⟨H,b9⟩:∃H,H=Dl z.k 0 x:=⟨_,Z⟩;have C:=Rv x z.k 0;have f:=My x z.k 0;have r:=XD h c5;rw[Sf];rw[←b9] at g j C f r⊢;have b4:=g.AA;have b5:=g.AD;have b6:=j.AA;have b7:=j.AD;refine Az Z<|Ag<|Q<|M Z<|E (BN BM) ?_;refine E (Aa CN Z)<|E (Al AF Z AR.AE Z)<|E (AX Z Z)<|Ah<|BA Z (fun f=>?_) fun f=>?_
 ·rw[zm G];refine Q<|za Z<|V Z<|BR Z Z Z ?_;exact⟨hO.below,Z⟩
 have U:H.length=z.k:=G;have r:=r U;rw[ss G];refine As<|Q<|E (Ba CP Z AR.AE Z)<|ve (Ac J 14 (Ab sv Z (mG b2 (Zv h)))) ?_;rintro f f ⟨J,c3,f,⟨c6,rfl,hg⟩⟩;replace hg:=hg.Du f;obtain⟨f,a7⟩:∃f,f=Hr z.k z.m:=⟨_,Z⟩;obtain⟨p,g2,R⟩:=Sl h;rw[←a7] at hg p g2 R r⊢;have a1:=hg.AD;have a1:=hg.AA;refine EK J 112 ET fun J J J a1 b0=>Av (Am BP Z Z b0 Z Z Bg) ?_;rintro _ a6 ⟨b0,a6⟩;refine Ah<|Q<|E (Ba BP Z b0.AE Z)<|M Z ?_;refine ve (Ac J 15 (Ab fR Z (by have J:=Rs (m:=f) (L:=H) (va:=c6) (by rw[p,g2];exact((hg.D a1).D a6).own.Eu (Wm _)) R G G G G (mJ (((g.D c3).D a1).D a6) G (fun k O↦by have:=C k O;omega)).AB G G (fun i hi↦by have:=C i hi;omega);rw[p,g2,U] at J;exact J))) ?_;rintro g g ⟨b1,c4,g,⟨b5,rfl,hx⟩⟩;replace hx:=hx.Du g;have g:=hx.AD;have g:=hx.AA;have a8:Sq z.k (IY f H):=by rw[a7];exact mH h (fun i hi↦by have:=C i hi;omega) U
 have g:=Zt a8 r;refine M Z<|E (Aq Z Z)<|E (Aq Z Z)<|EK b1 113 ET fun a7 a7 b4 b1 a7=>?_;refine Av (Am BP Z Z a7 Z Z Bg) ?_;rintro _ b2 ⟨a7,b2⟩;refine V Z<|Q<|E (Ba BP Z a7.AE Z)<|ve (Ac b4 16 (Ab sE Z (Vj (m:=IY f H) (n:=z.k) (va:=b5) (hx.D.own.Eu (Wm _)) a8 b8 G r))) ?_;rintro r r ⟨a8,b4,a7,⟨e2,rfl,r⟩⟩;replace r:=r.Du a7;have a7:=r.AD;have a7:=r.AA;have a7:=bE g R g2;obtain⟨Mjq,c0⟩:∃Mjq,Mjq=Me f (HG (IY f H)):=⟨_,Z⟩;rw[←c0] at a7⊢;obtain⟨b6,b7,e0⟩:=a7;rw[p] at b6;refine M Z<|E (Aq Z Z)<|E (Aq Z Z)<|EK a8 115 ET fun a7 a7 c8 a7 b5=>?_;refine Av (Am BP Z Z b5 Z Z Bg) ?_;rintro _ a8 ⟨b5,a8⟩;refine V Z<|Q<|E (Ba BP Z b0.D.AE Z)<|E (Ba BP Z b5.AE Z) ?_;refine ve (Ac c8 17 (Ab sF Z (by have ht:=Xx (a:=f) (b:=HG (IY f H)) (va:=c6) (vb:=e2) (by rw[p,g2];exact((((((((hg.D a1).D a6).D c4).D b1).D b2).D b4).D a7).D a8).own.Eu (Wm _)) (by rw[g.1,g.2.1];exact((r.D a7).D a8).own.Eu (Wm _)) R g.ok (by rw[g.1,g2]) G G G G (by rw[g.2.1];exact b8) (by rw[g.2.1];omega);rw[g.1,g.2.1,p,g2,←c0] at ht;exact ht))) ?_;rintro f f ⟨r,p,g,⟨b0,rfl,f⟩⟩;replace f:=f.Du g;have g:=f.AD;have g:=f.AA;have g:∀k∈H,(L.getD k []).length=z.size:=fun k O↦by
  have R:=C k O;have t:=Sn x z.k 0 k (by rw[←b9];exact O);rw[Ag2] at t;obtain⟨C,R⟩:=kJ.1 t;have hc:=hs k C G R;rw[hk,dd G];exact hc
 refine M Z ?_;replace hx:=(((((hx.D b1).D b2).D b4).D a7).D a8).D p;refine ve (Ac r 18 (Ab su Z (by have J:=XB (m:=Mjq) (n:=z.size) (va:=b0) (vl:=e1) (Ls:=H.map fun i↦L.getD i []) (by rw[b6,b7];exact f.own.Eu (Wm _)) e0 G G G G (mK ((((((((((j.D c3).D a1).D a6).D c4).D b1).D b2).D b4).D a7).D a8).D p) G (fun k O↦by rw[g k O];omega)).AB (by rw[kr,U,b7]) (fun bs hx↦by obtain⟨k,O,rfl⟩:=Aag.1 hx;exact g k O) c7 G;rw[b6,b7] at J;exact J))) ?_;rintro f f ⟨f,f,g,f⟩;replace f:=f.Du g;refine za Z<|V Z<|BR Z Z Z ?_;exact⟨hO.D.below,_,Z,f.Mw hO.D AO⟩
theorem Zx{s:CO}(h:s.ok)(U:n≤100000):Calls QP 40 #[.agg (DB s).toArray,I n] w (Bt fun v w'=>AZ w w'∧v=I (BI s n:Nat)):=by
 obtain⟨i,p,r,j,t⟩:=h;obtain⟨P,f⟩:∃P,P=s.k*s.size:=⟨_,Z⟩;have J:1≤P:=by rw[f];exact WO i j
 have R:P≤8*200:=by rw[f];exact WO G G
 have l:(s.k:Int)*(s.size:Int)=(P:Nat):=by rw[f];simp
 obtain⟨c,hO,o⟩:=Ay w;refine AY 19 #[.tmp 4] func40 Z<|Q<|Fa c 102 fun w1 b2 c1 C g=>?_;refine V Z<|Q<|M Z<|E (Aa CN Z)<|E (Al AF Z g.AE Z)<|E (Aa DO Z)<|E (Al AF Z g.AE Z)<|E (HK Z Z Ai Ai)<|E (Bc Z Z Ai Ai)<|E (Gu Z Z Ai Ai)<|E (Aa CN Z)<|E (Al AF Z g.AE Z)<|E (Aa DO Z)<|E (Al AF Z g.AE Z)<|E (HK Z Z Ai Ai)<|E (dD Z Z Ai Ai Ai) ?_;refine V Z<|Af Z Z<|⟨hO.D.below,?_⟩;rw[BI,←f,l,show(n:Int)+(P:Nat)-1=((n+P-1:Nat):Int) by omega];rfl
structure HQ where
 s:CO
 n:Nat
 A:CS
 J:Jl
 b:Bk
 at_:Int×Int
 failed:Bool
abbrev P1(p:Nat):Value:= .pointer (some ⟨p,0,none⟩)
def Ig(pa:Nat)(f vl:Value)(j:Jl):List Value:=[P1 pa,I j.life,I j.Ew,I j.used,I j.long,St j.tail,f,vl, .bool j.failed]
end Go.Eng
