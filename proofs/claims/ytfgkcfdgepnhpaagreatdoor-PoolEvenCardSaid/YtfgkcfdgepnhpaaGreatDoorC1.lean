/- The program, walked: part 1. No condition. -/
import Derived.RangeFuncSeq
import Derived.Test.YtfgkcfdgepnhpaaGreatDoorChecked
import Derived.ProofKit
import Derived.Lib.AppendZerosOnto
import Derived.Lib.Overlaps
import Derived.Laws.Cover3
import Derived.Shelf.Strings.OnBuilder
import Derived.Shelf.Strings.Trim
import Derived.Shelf.Small.Bits
import Derived.Shelf.Small.Wraps
import Derived.Shelf.Sort.Plain
import Derived.Shelf.Unicode.Decode
import Derived.Shelf.Strings.Runes
import Derived.Shelf.Strings.AsciiSet
import Derived.Shelf.Strings.Repeat
import Derived.Shelf.Unicode.DecodeLast
import Derived.Shelf.Strings.BuilderCap
import Derived.Shelf.Slices.Turned
import Derived.Shelf.Slices.Clone
import Derived.Shelf.Slices.Cells
import Derived.Shelf.Slices.In.SortNone
import Derived.Shelf.Slices.Empties
import Derived.Shelf.Slices.Empties2
import Derived.Lib.SlKeysI
set_option linter.unusedSimpArgs false
set_option linter.unusedVariables false
set_option maxRecDepth 100000
set_option maxHeartbeats 4000000
open Go.Proofs.Tryz renaming prog → QP
variable {c : Nat → Nat} {w : Go.World}
theorem Z.{u}{α:Sort u}{a:α}:a=a:=rfl
theorem G{p:Prop}(h:p:=by omega):p:=h
theorem Ao{p:Prop}(h:p:=by kernel_rfl):p:=h
theorem AO{p:Prop}(h:p:=by decide):p:=h
theorem Bb{p:Prop}(h:p:=by simp):p:=h
abbrev AZ(w w':Go.World):Prop:=Go.RowKit.Below w.heap.size w w'
abbrev dd:=@List.getElem?_eq_getElem
abbrev ft:=@List.length_append
abbrev hk:=@List.getD_eq_getElem?_getD
abbrev kg:=@Bool.and_eq_true
abbrev kr:=@List.length_map
abbrev kJ:=@List.getElem?_eq_some_iff
abbrev kK:=@List.length_drop
abbrev kL:=@List.length_take
abbrev kM:=@Nat.le_refl
abbrev mv:=@List.getElem_mem
abbrev oo:=@List.append_assoc
abbrev pk:=@List.take_succ_eq_append_getElem
abbrev pn:=@decide_eq_true_eq
abbrev pv:=@List.mem_singleton
abbrev rX:=@Nat.le_trans
abbrev rY:=@List.eq_nil_of_length_eq_zero
abbrev ss:=@if_neg
abbrev vq:=@List.take_of_length_le
abbrev zm:=@if_pos
abbrev Iz:=@List.length_replicate
abbrev Lx:=@List.mem_of_getElem?
abbrev SG:=@List.length_cons
abbrev TJ:=@Int.toNat_natCast
abbrev Wm:=@Nat.zero_le
abbrev WM:=@List.findIdx?_eq_some_iff_getElem
abbrev WN:=@Nat.mul_le_mul_right
abbrev WO:=@Nat.mul_le_mul
abbrev Yy:=@List.length_set
abbrev Aaa:=@List.flatMap_cons
abbrev Aab:=@Nat.lt_or_ge
abbrev Aac:=@List.mem_append
abbrev Aad:=@Nat.add_mul
abbrev Aae:=@List.all_eq_true
abbrev Aaf:=@List.map_append
abbrev Aag:=@List.mem_map
abbrev Aah:=@List.getElem?_map
abbrev Aai:=@Nat.eq_of_beq_eq_true
abbrev Aaj:=@Go.run_underlying
abbrev Aak:=@List.mem_cons
abbrev Aal:=@List.pairwise_iff_getElem
abbrev Aam:=@List.getElem?_eq_none
abbrev Aan:=@List.flatMap_append
abbrev Aao:=@congrArg
abbrev Aap:=@List.length_range
abbrev Aaq:=@Nat.lt_of_lt_of_le
abbrev Aar:=@Go.RowKit.Below.refl
abbrev Aas:=@List.take_append_drop
abbrev Aat:=@Nat.le_of_ble_eq_true
abbrev Aau:=@List.mem_cons_self
abbrev Aav:=@List.drop_eq_getElem_cons
abbrev Aaw:=@List.mem_cons_of_mem
abbrev Aax:=@List.mem_range
abbrev Aay:=@decide_eq_false_iff_not
abbrev Aaz:=@List.append_nil
abbrev Aa0:=@List.length_filter_le
abbrev Aa1:=@Bool.or_eq_false_iff
abbrev Aa2:=@Nat.one_mul
abbrev Aa3:=@Bool.or_eq_true
abbrev Aa4:=@List.mem_or_eq_of_mem_set
abbrev Aa5:=@Option.bind_some
abbrev Aa6:=@Nat.eq_zero_or_pos
abbrev Aa7:=@Option.map_some
abbrev Aa8:=@List.any_eq_true
abbrev Aa9:=@Bool.not_eq_true'
abbrev Aba:=@List.getElem?_of_mem
abbrev Abb:=@List.getElem?_append_right
abbrev Abc:=@List.flatten_cons
abbrev Abd:=@Go.Result.andThen_ok
abbrev Abe:=@Option.some.injEq
abbrev Abf:=@List.range_succ
abbrev Abg:=@List.pairwise_cons
abbrev Abh:=@List.getElem?_append_left
abbrev Abi:=@List.take_length
abbrev Abj:=@List.mem_append_left
abbrev Abk:=@Go.Sem.run_bind
abbrev Abl:=@Nat.min_eq_left
abbrev Abm:=@Option.map_eq_some_iff
abbrev Abn:=@List.drop_of_length_le
abbrev Abo:=@List.replicate_succ
abbrev Abp:=@List.pairwise_append
abbrev Abq:=@List.findIdx?_eq_none_iff
abbrev Abr:=@List.mem_append_right
abbrev Abs:=@Nat.zero_add
abbrev Abt:=@List.length_singleton
abbrev Abu:=@List.nil_append
abbrev Abv:=@Int.eq_ofNat_of_zero_le
abbrev Abw:=@List.map_congr_left
abbrev Abx:=@Go.World.putObj_heap_other
abbrev Aby:=@decide_eq_true
abbrev Abz:=@List.size_toArray
abbrev Ab0:=@List.map_set
abbrev Ab1:=@Prod.mk.injEq
abbrev Ab2:=@List.getElem?_take
abbrev Ab3:=@Nat.add_sub_cancel_left
abbrev Ab4:=@List.nodup_iff_pairwise_ne
abbrev Ab5:=@List.mem_flatMap
abbrev Ab6:=@List.ext_getElem
abbrev Ab7:=@List.drop_drop
abbrev Ab8:=@Go.run_firstCells_some
abbrev Ab9:=@List.any_eq_false
abbrev Aca:=@List.mem_of_mem_take
abbrev Acb:=@List.getElem?_drop
abbrev Acd:=@Go.MapKept.run_getObj_map
abbrev Ace:=@List.length_nil
abbrev Acf:=@Int.natCast_mul
abbrev Acg:=@List.set_eq_take_append_cons_drop
abbrev Ach:=@Option.isSome_iff_exists
abbrev Aci:=@List.map_cons
abbrev Acj:=@List.flatMap_def
abbrev Ack:=@List.eq_of_mem_replicate
abbrev Acl:=@Nat.sub_self
abbrev Acm:=@Nat.pow_le_pow_right
abbrev Acn:=@Nat.mul_one
abbrev Aco:=@List.take_left
abbrev Acp:=@List.filter_append
abbrev Acq:=@Array.getElem?_eq_some_iff
abbrev Acr:=@List.mem_filter
abbrev Acs:=@Int.natCast_add
abbrev Acu:=@List.map_map
abbrev Acv:=@List.getElem?_set_self
abbrev Acw:=@Go.Sem.run_pure
abbrev Acx:=@List.not_mem_nil
abbrev Acy:=@List.mem_of_mem_drop
abbrev Acz:=@List.mem_iff_getElem
abbrev Ac0:=@List.getElem_map
abbrev Ac1:=@List.getElem?_set_ne
abbrev Ac2:=@List.filter_cons_of_pos
abbrev Ac3:=@List.any_cons
abbrev Ac4:=@Nat.zero_mul
abbrev Ac5:=@List.nodup_append
abbrev Ac6:=@List.flatten_append
abbrev Ac7:=@Array.length_toList
abbrev Ac8:=@List.cons.injEq
abbrev Ac9:=@Bool.and_eq_false_iff
abbrev Ada:=@Option.getD_some
abbrev Adb:=@List.map_singleton
abbrev Adc:=@List.getElem_set
abbrev Ade:=@List.take_append_of_le_length
abbrev Adf:=@of_decide_eq_true
abbrev Adg:=@List.pairwise_map
abbrev Adh:=@List.takeWhile_cons
abbrev Adi:=@Nat.add_comm
abbrev Adj:=@List.length_ofFn
abbrev Adk:=@List.getElem_range
abbrev Adl:=@List.drop_zero
abbrev Adm:=@List.set_append_right
abbrev Adn:=@Bool.eq_iff_iff
abbrev Ado:=@Nat.le_of_eq
abbrev Adp:=@List.replicate_succ'
abbrev Adq:=@List.foldl_append
abbrev Adr:=@List.ext_getElem?
abbrev Ads:=@Go.World.alloc_heap_new
abbrev Adt:=@List.length_pos_iff
abbrev Adu:=@List.getElem?_range
abbrev Adv:=@List.filter_sublist
abbrev Adw:=@Nat.mod_eq_of_lt
abbrev Adx:=@Nat.div_eq_of_lt
abbrev Ady:=@List.getElem?_replicate
abbrev Adz:=@List.cons_append
abbrev Ad0:=@Int.mul_le_mul_of_nonneg_right
abbrev Ad1:=@beq_iff_eq
abbrev Ad2:=@Nat.xor_lt_two_pow
abbrev Ad3:=@Int.natCast_nonneg
abbrev Ad4:=@Bool.not_eq_false'
abbrev Ad5:=@Bool.false_eq_true
abbrev Ad6:=@Array.getElem?_eq_none
abbrev Ad7:=@List.take_left'
abbrev Ad8:=@Go.MapKept.run_setObj_map
abbrev Ad9:=@Bool.or_false
abbrev Aea:=@List.filter_congr
abbrev Aeb:=@Array.toList_push
abbrev Aec:=@Nat.add_le_add_right
abbrev Aed:=@List.take_take
abbrev Aee:=@List.getElem?_modify
abbrev Aef:=@Int.mul_nonneg
abbrev Aeg:=@Nat.add_zero
abbrev Aeh:=@Go.World.cell?_of_block
abbrev Aei:=@List.mem_take_iff_getElem
abbrev Aej:=@List.replicate_zero
abbrev Aek:=@List.any_append
abbrev Ael:=@Int.emod_nonneg
abbrev Aem:=@UInt8.toNat_ofNat'
abbrev Aen:=@Int.emod_lt_of_pos
abbrev Aeo:=@Option.bind_eq_some_iff
abbrev Aep:=@List.map_id
abbrev Aeq:=@List.getElem?_cons_succ
abbrev Aer:=@Go.wpIn_mono
abbrev Aes:=@Nat.ne_of_beq_eq_false
abbrev Aet:=@Nat.lt_trichotomy
abbrev Aeu:=@List.take_zero
abbrev Aev:=@List.take_sublist
abbrev Aew:=@Array.getElem?_setIfInBounds_ne
abbrev Aex:=@Go.heap_alloc_new
abbrev Aey:=@Go.World.putObj_heap_same
abbrev Aez:=@Go.Maps.keyOf_int_mk
abbrev Ae0:=@Classical.choose_spec
abbrev Ae1:=@Bool.not_eq_true
abbrev Ae2:=@BitVec.toNat_and
abbrev Ae3:=@or_false
abbrev Ae4:=@and_true
abbrev Ae5:=@Nat.mul_pos
abbrev Ae6:=@Nat.le_succ
abbrev Ae7:=@List.drop_append_of_le_length
abbrev Ae8:=@Go.RowKit.Below.trans
abbrev Ae9:=@decide_eq_false
abbrev Afa:=@Nat.testBit_xor
abbrev Afb:=@Nat.div_le_self
abbrev Afc:=@List.nodup_cons
abbrev Afd:=@List.foldl_cons
abbrev Afe:=@List.drop_left'
abbrev Aff:=@Go.wpIn_ret
abbrev Afg:=@Go.Region.noSelect_spec
abbrev Afh:=@List.take_succ_cons
abbrev Afi:=@List.mem_map_of_mem
abbrev Afj:=@Go.run_firstCells_none
abbrev Afk:=@decide_eq_true_iff
abbrev Afl:=@Array.toList_setIfInBounds
abbrev Afm:=@List.getElem_append_right
abbrev Afn:=@Classical.byContradiction
abbrev Afo:=@if_true
abbrev Afp:=@List.getElem?_set
abbrev Afq:=@List.map_take
abbrev Afr:=@List.getElem?_take_of_lt
abbrev Afs:=@Go.wpOpIn_mono
abbrev Aft:=@Nat.min_eq_right
abbrev Afu:=@List.mem_reverse
abbrev Afv:=@List.mem_flatten
abbrev Afw:=@List.getElem?_cons_zero
abbrev Afx:=@List.flatMap_nil
abbrev Afy:=@List.filter_cons
abbrev Afz:=@Nat.blt_eq
abbrev Af0:=@List.any_nil
abbrev Af1:=@and_congr_right
abbrev Af2:=@UInt8.toNat_xor
abbrev Af3:=@UInt8.toNat_inj
abbrev Af4:=@UInt8.toNat.inj
abbrev Af5:=@Go.Region.free_spec
abbrev Af6:=@List.singleton_append
abbrev Af7:=@List.contains_iff_mem
abbrev Af8:=@Array.getElem?_modify
abbrev Af9:=@Go.run_convert_bytes_back
abbrev Aga:=@Go.RoundIn.mono
abbrev Agb:=@Go.DataW.weights_mem_each
abbrev Agc:=@Go.CallsIn.mono
abbrev Agd:=@Nat.eq_of_testBit_eq
abbrev Age:=@List.set_append_left
abbrev Agf:=@List.range_add
abbrev Agg:=@List.getElem?_mapIdx
abbrev Agh:=@List.getElem?_append
abbrev Agi:=@List.contains_append
abbrev Agj:=@Int.emod_emod_of_dvd
abbrev Agk:=@Go.run_equal_pointer_nil
abbrev Agl:=@beq_eq_false_iff_ne
abbrev Agm:=@List.drop_succ_cons
abbrev Agn:=@Array.toList_modify
abbrev Ago:=@Array.toList_append
abbrev Agp:=@Go.size_zeroCells
abbrev Agq:=@Go.setRow_heap
abbrev Agr:=@Go.growslice_fits
abbrev Ags:=@Go.grownCap_ge
abbrev Agt:=@Go.RowsIn.mono
abbrev Agu:=@Nat.add_assoc
abbrev Agv:=@Bool.true_and
abbrev Agw:=@Nat.eq_or_lt_of_le
abbrev Agx:=@Nat.and_one_is_mod
abbrev Agy:=@List.filter_filter
abbrev Agz:=@Go.RowKit.Below.heap_alloc
abbrev Ag0:=@Array.foldl_toList
abbrev Ag1:=@Array.ext'
abbrev Ag2:=@Nat.sub_zero
abbrev Ag3:=@List.getElem_ofFn
abbrev Ag4:=@Array.size_append
abbrev Ag5:=@Go.grownCap_le_maxLen
abbrev Ag6:=@Nat.min_le_right
abbrev Ag7:=@List.take_append
abbrev Ag8:=@List.drop_length
abbrev Ag9:=@List.countP_cons
abbrev Aha:=@BitVec.toNat_xor
abbrev Ahb:=@Go.setRow_other
abbrev Ahc:=@Go.callsIn_wide
abbrev Ahd:=@Int.add_mul
abbrev Ahe:=@Exists.elim
abbrev Ahf:=@Option.map_none
abbrev Ahg:=@Nat.not_lt_zero
abbrev Ahh:=@Go.World.size_alloc
abbrev Ahk:=@Go.run_endLoop
abbrev Ahl:=@cond_false
abbrev Ahm:=@Go.cell_of_row
abbrev Ahn:=@List.drop_left
abbrev Aho:=@Bool.and_assoc
abbrev Ahr:=@List.getElem_append_left
namespace Go.Eng
open Go.RowKit Go.Proofs Go.Proofs.Tryz
variable {α:Type}{k m n i life:Nat}{s:List UInt8}{css:List (List Value)}{l:List Int}{w' h N:World}{cs news b:List Value}{c' j:Nat→Nat}{va a y:Value}{d A:TypeId}{e:List Nat}{f K:Operand}{g:Option (Nat×Bool)}{o:Array Edge}{p:Int}{q:List (List Int)}{r:Value→World→Prop}{u:List (Int×Int)}{v:String}{x:List Bool}{B:Bool}{H:Program}{R:IntKind}{S:FuncId}{T:Option Nat}{X:World→Prop}{encs:α→List Value}{Qjq:List α→α→(Nat→Nat)→World→Prop}{Fin:List α→Prop}{t:List α}
open List (replicate)
abbrev Env:=List (Nat×Value)
def look:Env→Nat→Option Value
 |[],_=>none
 |(k,v)::r,n=>bif Nat.beq k n then(bif Nat.beq k 4000000 then none else some v) else look r n
def Ef:Env→Option Value
 |[]=>none
 |(k,v)::r=>bif Nat.beq k 4000000 then some v else Ef r
def marksOf:Value→List Deferred
 | .tuple vs=>vs.toList.filterMap fun| .int _ Djq=>some {target:= .collected Djq.toNat,args:=#[]}|_=>none
 |_=>[]
theorem RV:∀(e:Env),look e 4000000=none
 |[]=>rfl
 |(k,v)::r=>by
  unfold look;cases f:Nat.beq k 4000000 with
  |true=>rfl
  |false=>simpa using RV r
theorem Ka{r:Env}(h:Nat.beq k 4000000=false):look ((k,a)::r) k=some a:=by
 unfold look;simp[h]
def BY(env:Env):Operand→Option Value
 | .tmp t=>look env t
 | .const v=>some v
 | .global g=>some (.pointer (some ⟨g,0,none⟩))
 | .func f=>some (.func (.func f) #[] #[])
def fu(env:Env):List Operand→Option (List Value)
 |[]=>some []
 |x::r=>match BY env x with
  |some v=>match fu env r with
   |some vs=>some (v::vs)
   |none=>none
  |none=>none
structure Ex (n:Nat) (env:Env) (a:Act):Prop where
 Qp:n≤4000000
 defers:∀v,Ef env=some v→a.defers=marksOf v
 size:a.tmps.size=n
 II:∀k v,look env k=some v→a.tmps[k]?=some v
theorem Ex.eval{env:Env}{v:Act}(h:Ex n env v){x:Operand}(hx:BY env x=some a):v.eval x=a:=by
 rcases x with t|u|g|f
 ·have:=h.II t a hx;simp[Act.eval,Array.getD_eq_getD_getElem?,this]
 all_goals simpa[BY,Act.eval] using hx
theorem Ex.SH{env:Env}{a:Act}(h:Ex n env a):∀{xs:List Operand} {vs:List Value},fu env xs=some vs→xs.map a.eval=vs
 |[],vs,hx=>by simp[fu] at hx;simp[hx]
 |x::r,vs,hx=>by
  unfold fu at hx;split at hx
  ·rename_i v hv;split at hx
   ·rename_i f hu;simp at hx;subst hx;simp[h.eval hv,h.SH hu]
   ·cases hx
  ·cases hx
theorem dB(g:n≤4000000)(hd:Nat.blt k n=true):Nat.beq k 4000000=false:=by
 have:k<n:=by simpa[Afz] using hd
 cases f:Nat.beq k 4000000 with
 |false=>rfl
 |true=>have:=Aai f;omega
theorem Ex.put{env:Env}{a:Act}(h:Ex n env a)(hd:Nat.blt k n=true)(v:Value):Ex n ((k,v)::env) (a.put (some k) v):=by
 have g:=dB h.Qp hd;refine⟨h.Qp,fun u hu=>h.defers u ?_,by simpa[Act.put] using h.size,fun d u O=>?_⟩
 ·unfold Ef at hu;rw[g] at hu;exact hu
 have i:k<a.tmps.size:=by rw[h.size];simpa[Afz] using hd
 unfold look at O;cases f:Nat.beq k d with
 |true=>
  rw[f] at O;have e:k=d:=Aai f;subst e;rw[g] at O;simp at O;subst O;simp[Act.put,i]
 |false=>
  rw[f] at O;have j:k≠d:=Aes f;simp at O;simpa[Act.put,Aew j] using h.II d u O
structure Sub (e' e:Env):Prop where
 II:∀k v,look e' k=some v→look e k=some v
 marks:∀v,Ef e'=some v→Ef e=some v
theorem Sub.refl(e:Env):Sub e e:=⟨fun _ _ h=>h,fun _ h=>h⟩
theorem Sub.nil(e:Env):Sub [] e:=⟨fun _ _ h=>by simp[look] at h,fun _ h=>by simp[Ef] at h⟩
theorem Sub.cons{i e:Env}{k:Nat}{v:Value}(h:look e k=some v)(hs:Sub i e):Sub ((k,v)::i) e:=by
 have l:Nat.beq k 4000000=false:=by
  cases g:Nat.beq k 4000000 with
  |false=>rfl
  |true=>
   have e:k=4000000:=Aai g;subst e;rw[RV] at h;cases h
 refine⟨fun j u f=>?_,fun u hu=>hs.marks u ?_⟩
 ·unfold look at f;cases g:Nat.beq k j with
  |true=>
   rw[g] at f;have e:k=j:=Aai g;subst e;rw[l] at f;simp at f;rw[←f];exact h
  |false=>rw[g] at f;exact hs.II j u (by simpa using f)
 unfold Ef at hu;rw[l] at hu;exact hu
theorem WQ{g e:Env}(h:Ef e=some a)(hs:Sub g e):Sub ((4000000,a)::g) e:=by
 refine⟨fun j u f=>?_,fun u hu=>?_⟩
 ·unfold look at f;cases i:Nat.beq 4000000 j with
  |true=>rw[i] at f;simp at f
  |false=>rw[i] at f;exact hs.II j u (by simpa using f)
 have:a=u:=by simpa[Ef] using hu
 rw[←this];exact h
theorem Ex.sub{env f:Env}{a:Act}(h:Ex n env a)(hs:Sub f env):Ex n f a:=⟨h.Qp,fun v hv=>h.defers v (hs.marks v hv),h.size,fun k v O=>h.II k v (hs.II k v O)⟩
def MP(e:Env):Nat→Env→Bool
 |0,_=>true
 |m+1,(k,_)::r=>(match look e k with|none=>true|some _=>false)&& !(Nat.beq k 4000000)&&MP e m r
 |_+1,[]=>true
theorem Sub.drop(e:Env):∀(m:Nat) (g:Env),g.drop m=e→MP e m g=true→Sub e g
 |0,g,f,_=>by simp at f;subst f;exact Sub.refl _
 |m+1,[],f,_=>by simp at f;subst f;exact Sub.nil _
 |m+1,(k,u)::r,f,hf=>by
  simp only[MP,kg,Aa9] at hf;obtain⟨⟨i,I⟩,C⟩:=hf;have o:=Sub.drop e m r (by simpa using f) C;refine⟨fun j v l=>?_,fun v hv=>?_⟩
  ·unfold look;cases t:Nat.beq k j with
   |true=>
    have p:k=j:=Aai t;subst p;rw[l] at i;simp at i
   |false=>simpa using o.II j v l
  unfold Ef;rw[I];exact o.marks v hv
abbrev EI:=Env→World→Prop
structure Cx where
 P:Program
 n:Nat
 Wp:Array ResultVar
 S:Value→World→Prop
 Yz:Option Nat
def FW(ro:Option Nat):Fence:={Fence.wide with round:=ro}
def LB:List (Nat×EI)→Nat→Option EI
 |[],_=>none
 |(k,v)::r,n=>bif Nat.beq k n then some v else LB r n
def hL(P:Program)(Wp:Array ResultVar)(a:Act)(w:World)(v:Value):Prop:=
 ∀fn:Func,fn.results=Wp→(results fn a.tmps).run P w= .ok v w
def Mk:List Deferred→World→World→Prop
 |[],w,w'=>w'=w
 |d::ds,w,w'=>∃r,d.target= .collected r∧w.heap[r]?=some (.deferred (some []))∧Mk ds (w.putObj r (.deferred none)) w'
def QQ(c:Cx)(B:List (Nat×EI))(N:EI):Exit→Act→World→Prop
 | .normal,a,w=>∃env,Ex c.n env a∧N env w
 | .exit id,a,w=>∃K env,LB B id=some K∧Ex c.n env a∧K env w
 | .ret,a,w=>∃w',(Mk a.defers w w'∧(c.Yz=none∨a.defers=[]))∧∃v,hL c.P c.Wp a w' v∧c.S v w'
 |_,_,_=>False
def WC(c:Cx)(B:List (Nat×EI))(x:Code)(env:Env)(w:World)(N:EI):Prop:=∀a,Ex c.n env a→x.wpIn (FW c.Yz) 0 c.P (QQ c B N) a w
def WR(c:Cx)(B:List (Nat×EI))(ops:Array Oper)(l:List Oper)(env:Env)(w:World)(N:EI):Prop:=
 ∀a,Ex c.n env a→wpListIn (FW c.Yz) 0 c.P ops (QQ c B N) l a w
def Bt(S:Value→World→Prop):Ending→World→Prop:=fun e w'=>∃v,e= .returned v∧S v w'
theorem Bt.mono{P:Program}{f:FuncId}{args:Array Value}{S S':Value→World→Prop}(h:Calls P f args w (Bt S))(i:∀v w',S v w'→S' v w'):Calls P f args w (Bt S'):=
 Calls.mono h fun _ _ ⟨v,g,hs⟩=>⟨v,g,i _ _ hs⟩
def MQ(i:Nat):List Value→Env
 |[]=>[]
 |v::r=>(i,v)::MQ (i+1) r
theorem Qq:∀(l:List Value) (i k:Nat) (v:Value),look (MQ i l) k=some v→i≤k∧l[k-i]?=some v
 |[],i,k,v,h=>by simp[MQ,look] at h
 |u::r,i,k,v,h=>by
  unfold MQ look at h;cases f:Nat.beq i k with
  |true=>
   rw[f] at h;have e:i=k:=Aai f;subst e;cases g:Nat.beq i 4000000 with
   |true=>rw[g] at h;simp at h
   |false=>rw[g] at h;simpa using h
  |false=>
   rw[f] at h;have p:i≠k:=Aes f;obtain⟨o,j⟩:=Qq r (i+1) k v (by simpa using h);refine⟨G,?_⟩;have:k-i=(k-(i+1))+1:=G;rw[this];simpa using j
theorem Kr{P:Program}{fn:Func}{tmps:Array Value}{S:Value→World→Prop}{v:Value}:∀(ds:List Deferred) (w w':World),Mk ds w w'→(results fn tmps).run P w'= .ok v w'→S v w'→LeavesInM (FW none) 0 P fn tmps (Bt S) ds .returning w
 |[],w,w',ht,g,f=>by
  have:w'=w:=ht;subst this;exact⟨v,g,v,Z,f⟩
 |d::ds,w,w',ht,g,f=>by
  obtain⟨r,i,j,l⟩:=ht;refine⟨by simp, .inl ⟨r,_,i,run_takeDeferred j,Kr ds _ _ l g f⟩⟩
theorem enter{fn:Func}{x:Code}{f:Value→World→Prop}{Wp:Array ResultVar}
 (hf:H.funcs[S]?=some fn)(i:fn.body=some x)(r:fn.ntmps=n)(C:fn.results=Wp)(hl:(Nat.ble b.length n&&Nat.ble n 4000000)=true)
 (h:WC ⟨H,n,Wp,f,none⟩ [] x ((4000000, .tuple #[])::MQ 0 b) w (fun e w=>∃m w',Ef e=some m∧Mk (marksOf m) w w'∧Wp=#[]∧f (.tuple #[]) w')):Calls H S b.toArray w (Bt f):=by
 subst r C;simp only[kg,Nat.ble_eq] at hl;obtain⟨g,g⟩:=hl;refine(Ahc (n:=0)).1 (callsIn_of_wp_marks (F:=FW none) hf i trivial (Aer (h _ ⟨g,?_,?_,?_⟩) ?_) Z)
 ·intro v hv;have:Value.tuple #[]=v:=by simpa[Ef] using hv
  subst this;rfl
 ·simp;omega
 ·intro k v O;have j:look (MQ 0 b) k=some v:=by
   unfold look at O;cases i:Nat.beq 4000000 k with
   |true=>rw[i] at O;simp at O
   |false=>rw[i] at O;simpa using O
  obtain⟨_,g⟩:=Qq b 0 k v j;simp at g;have j:k<b.length:=by
   rcases Aab k b.length with h|h
   ·exact h
   rw[Aam h] at g;cases g
  rw[Array.getElem?_append_left (by simpa using j)];simpa using g
 intro e a w' g;cases e with
 |normal=>
  obtain⟨env,t,m,w2,p,ht,o,j⟩:=g;exact Kr _ _ _ (by rw[t.defers m p];exact ht) (results_none o _ _ _) j
 |ret=>
  obtain⟨w2,⟨ht,_⟩,v,hv,j⟩:=g;exact Kr _ _ _ ht (hv fn Z) j
 |exit id=>obtain⟨K,env,hK,_⟩:=g;simp[LB] at hK
 |goto l=>exact g
 |panic j=>exact g.elim
 |outgrown=>exact g.elim
theorem AY{fn:Func}{x:Code}{w:World}{f:Value→World→Prop}(n:Nat)(Wp:Array ResultVar)(hf:H.funcs[S]?=some fn)(g:fn.body=some x)(h:WC ⟨H,n,Wp,f,none⟩ [] x ((4000000, .tuple #[])::MQ 0 b) w (fun e w=>∃m w',Ef e=some m∧Mk (marksOf m) w w'∧Wp=#[]∧f (.tuple #[]) w'))(i:fn.ntmps=n:=by rfl)(j:fn.results=Wp:=by rfl)(hl:(Nat.ble b.length n&&Nat.ble n 4000000)=true:=by rfl):Calls H S b.toArray w (Bt f):=enter hf g i j hl h
section
variable {c:Cx} {B:List (Nat×EI)} {env:Env} {w:World} {N:EI}
theorem QQ.mono{N g:EI}(h:∀e w,N e w→g e w):∀e a w,QQ c B N e a w→QQ c B g e a w:=by
 intro e a w f;cases e with
 |normal=>obtain⟨env,j,i⟩:=f;exact⟨env,j,h _ _ i⟩
 |exit id=>exact f
 |ret=>exact f
 |goto l=>exact f
 |panic o=>exact f
 |outgrown=>exact f
theorem WC.mono{x:Code}{f:EI}(h:WC c B x env w N)(g:∀e w,N e w→f e w):WC c B x env w f:=fun a i=>Aer (h a i) (QQ.mono g)
theorem pt{x y:Code}(h:WC c B x env w (fun e w=>WC c B y e w N)):WC c B (.seq x y) env w N:=fun a g=>
 wpIn_seq (Aer (h a g) fun e a w f=>by
  cases e with
  |normal=>obtain⟨env,g,i⟩:=f;exact i a g
  |exit id=>exact f
  |ret=>exact f
  |goto l=>exact f
  |panic j=>exact f
  |outgrown=>exact f)
theorem kS(h:N env w):WC c B .skip env w N:=fun _ f=>wpIn_skip ⟨env,f,h⟩
theorem WU(h:N env w):WC c B (.label k) env w N:=fun _ f=>wpIn_label ⟨env,f,h⟩
theorem GO{x y:Code}{t:Bool}(o:BY env f=some (.bool t))(ht:t=true→WC c B x env w N)(hf:t=false→WC c B y env w N):WC c B (.cond f x y) env w N:=
 fun a h=>wpIn_cond_split (h.eval o) (fun e=>ht e a h) (fun e=>hf e a h)
theorem JN{x y:Code}(o:BY env f=some (.bool true))(ht:WC c B x env w N):WC c B (.cond f x y) env w N:=
 fun a h=>wpIn_cond_true (h.eval o) (ht a h)
theorem Fw{x y:Code}(o:BY env f=some (.bool false))(ht:WC c B y env w N):WC c B (.cond f x y) env w N:=
 fun a h=>wpIn_cond_false (h.eval o) (ht a h)
theorem hM{x:Code}(h:WC c ((k,N)::B) x env w N):WC c B (.block k x) env w N:=fun a r=>
 wpIn_block (Aer (h a r) fun e a w f=>by
  cases e with
  |normal=>exact f
  |exit i=>
   obtain⟨K,env,hK,o,j⟩:=f;unfold LB at hK;cases g:Nat.beq k i with
   |true=>
    rw[g] at hK;have e:k=i:=Aai g;subst e;simp at hK;subst hK;simp only[Exit.inBlock,Afo];exact⟨env,o,j⟩
   |false=>
    rw[g] at hK;have p:k≠i:=Aes g;simp only[Exit.inBlock,ss (Ne.symm p)];exact⟨K,env,by simpa using hK,o,j⟩
  |ret=>exact f
  |goto l=>exact f
  |panic t=>exact f
  |outgrown=>exact f)
theorem Az{K:EI}(hK:LB B k=some K)(h:K env w):WC c B (.exit k) env w N:=fun _ f=>wpIn_exit ⟨K,env,hK,f,h⟩
theorem DN{x:Code}{f:Env}(hs:Sub f env)(h:WC c B x f w N):WC c B x env w N:=fun a g=>h a (g.sub hs)
theorem AG{σ:Type}{x:Code}(g:σ→Env)(I:σ→World→Prop)(j:σ→Nat)(i:σ)(U:Sub (g i) env)(p:I i w)
 (round:∀s w,I s w→WC c B x ((4000000,a)::g s) w (fun o w'=>∃s',Sub ((4000000,a)::g s') o∧I s' w'∧j s'<j s))(J:Ef env=some a:=by rfl):WC c B (.loop x) env w N:=by
 intro m f;refine wpIn_loop_ghost (fun k m w=>∃s,Ex c.n ((4000000,a)::g s) m∧I s w∧j s=k) (j i) ⟨i,f.sub (WQ J U),p,Z⟩ ?_;rintro k m w ⟨s,hs,f,rfl⟩;refine Aer (round s w f m hs) ?_;intro e f w' f;cases e with
 |normal=>
  obtain⟨o,R,s',r,t,C⟩:=f;exact⟨_,C,s',R.sub r,t,Z⟩
 |exit id=>exact f
 |ret=>exact f
 |goto l=>exact f
 |panic r=>exact f
 |outgrown=>exact f
theorem IL{env:Env}{v:Act}(h:Ex n env v)(hv:look env k=some a):v.tmps.getD k undef=a:=h.eval (x:= .tmp k) hv
theorem Io{env:Env}{a:Act}{w:World}(h:Ex n env a)(f:Ef env=some (.tuple #[])):Mk a.defers w w∧(T=none∨a.defers=[]):=by
 have e:a.defers=[]:=h.defers _ f;rw[e];exact⟨Z, .inr Z⟩
theorem Af(l:c.Wp=#[.tmp k])(hv:look env k=some a)(g:c.S a w)(j:Ef env=some (.tuple #[]):=by rfl):WC c B .ret env w N:=fun v f=>
 Aff ⟨w,Io f j,a,fun fn i=>by rw[results_tmp (i.trans l),IL f hv],g⟩
theorem FK(l:c.Wp=#[])(f:c.S (.tuple #[]) w)(i:Ef env=some (.tuple #[]):=by rfl):WC c B .ret env w N:=fun a j=>
 Aff ⟨w,Io j i,_,fun fn g=>by rw[results_none (g.trans l)],f⟩
theorem BR(l:c.Wp=#[.tmp k, .tmp m])(hv:look env k=some a)(hx:look env m=some y)(g:c.S (.tuple #[a,y]) w)(j:Ef env=some (.tuple #[]):=by rfl):WC c B .ret env w N:=fun v f=>
 Aff ⟨w,Io f j,_,fun fn i=>by rw[results_tmp2 (i.trans l),IL f hv,IL f hx],g⟩
theorem Uh{x:Value}(l:c.Wp=#[.tmp k, .tmp m, .tmp n])(hv:look env k=some a)(hx:look env m=some x)(hy:look env n=some y)(g:c.S (.tuple #[a,x,y]) w)(j:Ef env=some (.tuple #[]):=by rfl):WC c B .ret env w N:=fun v f=>
 Aff ⟨w,Io f j,_,fun fn i=>by
  rw[results_tmp3 (i.trans l),IL f hv,IL f hx,IL f hy],g⟩
theorem dC{l:List Oper}(h:WR c B l.toArray l env w N):WC c B (.region k l.toArray false) env w N:=fun a f=>wpIn_region_lit (h a f)
variable {ops:Array Oper} {rest:List Oper}
theorem Et(h:N env w):WR c B ops [] env w N:=fun a f=>wpListIn_nil ⟨env,f,h⟩
theorem hN{F:Fence}{o:Oper}{a:Act}{w:World}{Qjq I:Exit→Act→World→Prop}{K C:Act→World→Prop}(i:∀e a w,Qjq e a w→I e a w)(O:∀a w,K a w→C a w)(h:o.wpIn F 0 H a w K Qjq):o.wpIn F 0 H a w C I:=by
 unfold Oper.wpIn at*;refine⟨h.1,?_⟩;have hh:=h.2;generalize(o.semAt F.round a.eval).run H w=r at*;cases r with
 |ok x w'=>
  cases x<;>simp only[Oper.uponIn] at hh⊢
  case value v=>exact O _ _ hh
  case skip=>exact O _ _ hh
  case defer d=>exact O _ _ hh
  case enter f args=>exact⟨hh.1,Agc hh.2 (fun e w'' g=>by
   cases e with
   |returned v=>exact O _ _ g
   |panicked J=>exact i _ _ _ g
   |outgrown=>obtain⟨j,w0,p⟩:=g;exact⟨j,w0,i _ _ _ p⟩)⟩
  case row row args=>exact⟨hh.1,Agt hh.2 (fun _ _ g=>O _ _ g)⟩
  case round l f t R b1=>exact⟨hh.1,Aga hh.2 (fun e w'' g=>by
   cases e with
   |returned v=>exact O _ _ g
   |panicked J=>exact i _ _ _ g
   |outgrown=>obtain⟨j,w0,p⟩:=g;exact⟨j,w0,i _ _ _ p⟩)⟩
  all_goals exact hh
 |halt x w'=>cases x<;>simp only[Oper.uponIn] at hh⊢<;>first|exact hh|exact i _ _ _ hh
theorem KI{F:Fence}{P:Program}{Qjq i:Exit→Act→World→Prop}(f:∀e a w,Qjq e a w→i e a w):∀(l:List Oper) (a:Act) (w:World),wpListIn F 0 P ops Qjq l a w→wpListIn F 0 P ops i l a w
 |[],a,w,h=>f _ _ _ h
 |o::r,a,w,h=>by
  unfold wpListIn at h⊢;split
  ·rename_i g;rw[zm g] at h;exact hN f (KI f r) h
  ·rename_i g;rw[ss g] at h;exact⟨h.1,KI f r _ _ h.2⟩
theorem WR.mono{l:List Oper}{f:EI}(h:WR c B ops l env w N)(g:∀e w,N e w→f e w):WR c B ops l env w f:=fun a i=>KI (QQ.mono g) _ _ _ (h a i)
def DP(P:Program)(env:Env)(w:World)(op:Op)(ty:TypeId)(v:Value):Prop:=
 ∀n a,Ex n env a→∀d pos f g,(execOp a.eval ⟨d,op,ty,pos,f,g⟩).run P w= .ok (.value v) w
def Hh(P:Program)(env:Env)(w:World)(op:Op)(ty:TypeId)(S:Value→World→Prop):Prop:=
 ∀n a,Ex n env a→∀(ro:Option Nat) d pos f g (K:Act→World→Prop) (Qjq:Exit→Act→World→Prop),(∀v w',S v w'→K (a.put d v) w')→Oper.wpIn (FW ro) 0 P ⟨d,op,ty,pos,f,g⟩ a w K Qjq
theorem semAt_eq{ρ:Operand→Value}{o:Oper}{w:World}{x:Next}(h:(execOp ρ o).run H w= .ok x w')(hx:∀d,x≠ .defer d):o.semAt T ρ=execOp ρ o:=by
 refine Oper.semAt_eq T ρ o fun c hc=>?_;obtain⟨dst,op,ty,pos,f,g⟩:=o;simp only at hc;subst hc;simp only[execOp,Abk] at h;generalize(resolve ρ c ty).run H w=r at h;cases r with
 |ok d w2=>
  simp[Result.andThen] at h;exact hx d h.1.symm
 |halt y w2=>simp[Result.andThen] at h
theorem JO{o:Oper}{v:Act}{w:World}{K:Act→World→Prop}{Qjq:Exit→Act→World→Prop}(h:(execOp v.eval o).run H w= .ok (.value a) w')(hK:K (v.put o.dst a) w'):o.wpIn (FW T) 0 H v w K Qjq:=
 ⟨fun _ _=>trivial,by rw[show(FW T).round=T from Z,semAt_eq h (fun d=>by simp),h];exact hK⟩
theorem YA{o:Oper}{a:Act}{w:World}{K:Act→World→Prop}{Qjq:Exit→Act→World→Prop}(h:(execOp a.eval o).run H w= .ok .skip w')(hK:K (a.put o.dst undef) w'):o.wpIn (FW T) 0 H a w K Qjq:=
 ⟨fun _ _=>trivial,by rw[show(FW T).round=T from Z,semAt_eq h (fun d=>by simp),h];exact hK⟩
theorem Pl{o:Oper}{a:Act}{w:World}{args:Array Value}{K:Act→World→Prop}{Qjq:Exit→Act→World→Prop}{f:Value→World→Prop}(h:(execOp a.eval o).run H w= .ok (.enter S args) w')
 (hc:Calls H S args w' (Bt f))(hK:∀v w2,f v w2→K (a.put o.dst v) w2):o.wpIn (FW T) 0 H a w K Qjq:=
 ⟨fun _ _=>trivial,by
  rw[show(FW T).round=T from Z,semAt_eq h (fun d=>by simp),h];have g:CallsIn (FW T) (0-1) H S args w' (Bt f):=(Ahc (n:=0)).2 hc;exact⟨fun h=>by simp[FW,Fence.wide] at h,g.mono fun e w2 ⟨v,i,hs⟩=>by subst i;exact hK v w2 hs⟩⟩
theorem Cr{op:Op}
 (h:∀n a,Ex n env a→∀ty pos f g,∃v w',(execOp a.eval ⟨ty,op,d,pos,f,g⟩).run H w= .ok (.value v) w'∧r v w'):Hh H env w op d r:=by
 intro n a j ro ty pos f g K Qjq hK;obtain⟨v,w',l,i⟩:=h n a j ty pos f g;exact JO l (hK _ _ i)
theorem FL{op:Op}
 (h:∀n a,Ex n env a→∀ty pos f g,∃w',(execOp a.eval ⟨ty,op,d,pos,f,g⟩).run H w= .ok .skip w'∧r undef w'):Hh H env w op d r:=by
 intro n a j ro ty pos f g K Qjq hK;obtain⟨w',l,i⟩:=h n a j ty pos f g;exact YA l (hK _ _ i)
theorem Hh.mono{P:Program}{op:Op}{ty:TypeId}{S S':Value→World→Prop}(h:Hh P env w op ty S)(i:∀v w',S v w'→S' v w'):Hh P env w op ty S':=
 fun n a j ro d pos f g K Qjq hK=>h n a j ro d pos f g K Qjq fun v w' hs=>hK v w' (i _ _ hs)
theorem JP{F:Fence}{Qjq:Exit→Act→World→Prop}{o:Oper}{a:Act}(f:Region.wanted o (yielded ops a.tmps)=true)(h:o.wpIn F 0 H a w (wpListIn F 0 H ops Qjq rest) Qjq):wpListIn F 0 H ops Qjq (o::rest) a w:=by
 unfold wpListIn;rw[zm f];exact h
theorem Pm{Qjq:Exit→Act→World→Prop}{o:Oper}{a:Act}(f:Region.wanted o (yielded ops a.tmps)=false)(h:wpListIn (FW T) 0 H ops Qjq rest (a.put o.dst undef) w):wpListIn (FW T) 0 H ops Qjq (o::rest) a w:=by
 unfold wpListIn;rw[ss (by rw[f];simp)];exact⟨fun _ _=>trivial,h⟩
theorem YB{op:Op}{ty:Nat}{pos:String}(h:DP c.P env w op d a)(hd:Nat.blt ty c.n=true)
 (next:WR c B ops rest ((ty,a)::env) w N):WR c B ops (⟨some ty,op,d,pos,o,none⟩::rest) env w N:=fun v f=>
 JP Z (JO (h c.n v f _ _ _ _) (next _ (f.put hd a)))
theorem TK{op:Op}{ty:Nat}(h:Hh c.P env w op d r)(hd:Nat.blt ty c.n=true)
 (next:∀pos w',r pos w'→WR c B ops rest ((ty,pos)::env) w' N):WR c B ops (⟨some ty,op,d,v,o,none⟩::rest) env w N:=fun a f=>
 JP Z (h c.n a f _ _ _ _ _ _ _ fun pos w' hs=>next pos w' hs _ (f.put hd pos))
theorem Av{op:Op}(h:Hh c.P env w op d r)
 (next:∀pos w',r pos w'→WR c B ops rest env w' N):WR c B ops (⟨none,op,d,v,o,none⟩::rest) env w N:=fun a f=>
 JP Z (h c.n a f _ _ _ _ _ _ _ fun pos w' hs=>next pos w' hs _ f)
theorem Qr{a:Act}(i:Ex n env a){b want:Bool}(g:(ops[k]?).bind (·.dst)=some m)(hs:look env m=some (.bool b))
 {ty:Option Tmp}{op:Op}:
 Region.wanted ⟨ty,op,d,v,o,some (k,want)⟩ (yielded ops a.tmps)=(b==want):=by
 simp[Region.wanted,yielded,g,i.II m _ hs]
theorem kT{op:Op}{ty:Option Nat}{want:Bool}(i:(ops[k]?).bind (·.dst)=some m)(hs:look env m=some (.bool want))
 (h:WR c B ops (⟨ty,op,d,v,o,none⟩::rest) env w N):WR c B ops (⟨ty,op,d,v,o,some (k,want)⟩::rest) env w N:=by
 intro a g;have:=h a g;unfold wpListIn at this⊢;rw[zm (by rw[Qr g i hs];simp)];rw[zm (by simp[Region.wanted])] at this;exact this
theorem NF{op:Op}{ty:Option Nat}{want b:Bool}(i:(ops[k]?).bind (·.dst)=some m)(hs:look env m=some (.bool b))(g:b=want)
 (h:WR c B ops (⟨ty,op,d,v,o,none⟩::rest) env w N):WR c B ops (⟨ty,op,d,v,o,some (k,want)⟩::rest) env w N:=kT i (g▸hs) h
theorem pu{op:Op}{ty:Nat}{want b:Bool}(i:(ops[k]?).bind (·.dst)=some m)(hs:look env m=some (.bool b))(l:(b==want)=false)
 (hd:Nat.blt ty c.n=true)(h:WR c B ops rest ((ty,undef)::env) w N):WR c B ops (⟨some ty,op,d,v,o,some (k,want)⟩::rest) env w N:=fun a f=>
 Pm (by rw[Qr f i hs,l]) (h _ (f.put hd _))
def Ui(ops:Array Oper)(n:Nat):List Oper→Env→Option Env
 |[],env=>some env
 |o::r,env=>match o.dst,o.guard with
  |some d,some (j,want)=>match(ops[j]?).bind (·.dst) with
   |some s=>match look env s with
    |some (.bool b)=>bif b==want then none else bif Nat.blt d n then Ui ops n r ((d,undef)::env) else none
    |some (.tuple _)=>bif Nat.blt d n then Ui ops n r ((d,undef)::env) else none
    |_=>none
   |none=>none
  |_,_=>none
theorem ah{l:List Oper}{g:Env}(h:Ui ops c.n (l.take k) env=some g)(next:WR c B ops (l.drop k) g w N):WR c B ops l env w N:=by
 have key:∀(k:Nat) (l:List Oper) (env:Env),Eng.Ui ops c.n (l.take k) env=some g→WR c B ops (l.drop k) g w N→WR c B ops l env w N:=by
  intro k;induction k with
  |zero=>intro l env h next;simp[Eng.Ui] at h;subst h;simpa using next
  |succ k C=>
   intro l env h next
   cases l with
   |nil=>simp[Eng.Ui] at h;subst h;simpa using next
   |cons o r=>
    obtain⟨dst,op,ty,pos,I,guard⟩:=o;simp only[Afh,Eng.Ui] at h;split at h
    ·rename_i _ _ d j want;split at h
     ·rename_i s hs;split at h
      ·rename_i _ b i;cases p:(b==want) with
       |true=>rw[p] at h;simp at h
       |false=>
        rw[p] at h;cases f:Nat.blt d c.n with
        |false=>rw[f] at h;simp at h
        |true=>
         rw[f] at h;exact pu hs i p f (C r _ (by simpa using h) (by simpa using next))
      ·rename_i _ vs i;cases f:Nat.blt d c.n with
       |false=>rw[f] at h;simp at h
       |true=>
        rw[f] at h;intro a t;exact Pm (by simp[Region.wanted,yielded,hs,t.II s _ i]) (C r _ (by simpa using h) (by simpa using next) _ (t.put f _))
      ·cases h
     ·cases h
    ·cases h
 exact key k l env h next
theorem Fm{C:List Oper}{Qjq:Exit→Act→World→Prop}{F:Fence}:∀(p:List Oper) (a:Act) (w:World),wpListIn F 0 c.P ops (Exit.then (fun a w=>wpListIn F 0 c.P ops Qjq C a w) Qjq) p a w→wpListIn F 0 c.P ops Qjq (p++C) a w
 |[],a,w,h=>h
 |o::r,a,w,h=>by
  simp only[Adz];unfold wpListIn at h⊢;split
  ·rename_i j;rw[zm j] at h;have hh:=h;unfold Oper.wpIn at*;refine⟨h.1,?_⟩;have g:=h.2;generalize(o.semAt F.round a.eval).run c.P w=R at*;cases R with
   |ok J w'=>
    cases J<;>simp only[Oper.uponIn] at g⊢
    case value v=>exact Fm r _ _ g
    case skip=>exact Fm r _ _ g
    case defer d=>exact Fm r _ _ g
    case enter f args=>exact⟨g.1,Agc g.2 (fun e w'' i=>by
     cases e with
     |returned v=>exact Fm r _ _ i
     |panicked I=>exact i
     |outgrown=>exact i)⟩
    case row row args=>exact⟨g.1,Agt g.2 (fun _ _ i=>Fm r _ _ i)⟩
    case round l f t U b1=>exact⟨g.1,Aga g.2 (fun e w'' i=>by
     cases e with
     |returned v=>exact Fm r _ _ i
     |panicked I=>exact i
     |outgrown=>exact i)⟩
    all_goals exact g
   |halt x w'=>cases x<;>simp only[Oper.uponIn] at g⊢<;>exact g
  rename_i j;rw[ss j] at h;exact⟨h.1,Fm r _ _ h.2⟩
theorem fw{l:List Oper}(k:Nat)(Mjq:EI)(h:WR c B ops (l.take k) env w Mjq)(g:∀e w,Mjq e w→WR c B ops (l.drop k) e w N):WR c B ops l env w N:=by
 intro a o;rw[←Aas k l];refine Fm _ _ _ (KI ?_ _ _ _ (h.mono g a o));intro e a w f;cases e with
 |normal=>obtain⟨e,i,j⟩:=f;exact j a i
 |exit id=>exact f
 |ret=>exact f
 |goto l=>exact f
 |panic p=>exact f
 |outgrown=>exact f
theorem OF(n:Nat):∀(l:List Oper) (env e:Env),Ui ops n l env=some e→e.drop l.length=env
 |[],env,e,h=>by simp[Ui] at h;simp[h]
 |o::r,env,e,h=>by
  unfold Ui at h;split at h
  ·split at h
   ·split at h
    ·rename_i d _ _ _ _ _ b _;cases g:(b==_) with
     |true=>rw[g] at h;simp at h
     |false=>
      rw[g] at h;cases f:Nat.blt _ n with
      |false=>rw[f] at h;simp at h
      |true=>
       rw[f] at h;have:=OF n r _ e (by simpa using h);rw[SG,←Ab7,this];rfl
    ·cases f:Nat.blt _ n with
     |false=>rw[f] at h;simp at h
     |true=>
      rw[f] at h;have:=OF n r _ e (by simpa using h);rw[SG,←Ab7,this];rfl
    ·cases h
   ·cases h
  ·cases h
def ai(ops:Array Oper)(n:Nat)(l:List Oper)(s:Nat)(v:Bool)(env:Env):Bool:=
 match Ui ops n l ((s, .bool v)::env) with
 |some e=>MP ((s, .bool v)::env) l.length e
 |none=>false
def CF(ops:Array Oper)(env:Env):Option (Nat×Bool)→Bool
 |none=>true
 |some (j,want)=>match(ops[j]?).bind (·.dst) with
  |some s=>match look env s with
   |some (.bool b)=>b==want
   |_=>false
  |none=>false
theorem KS{a:Act}(g:Ex n env a){o:Oper}(h:CF ops env o.guard=true):Region.wanted o (yielded ops a.tmps)=true:=by
 unfold CF at h;unfold Region.wanted;split at h
 ·rename_i hg;simp[hg]
 ·rename_i j want hg;split at h
  ·rename_i s hs;split at h
   ·rename_i b f;simpa[hg,yielded,hs,g.II s _ f] using h
   ·cases h
  ·cases h
theorem aj(P:Program)(w:World)(ρ:Operand→Value){y:Operand}{b:Bool}(h:ρ f= .bool b):
 (execOp ρ ⟨T, .pick f K y,A,v,o,g⟩).run P w= .ok (.value (if b then ρ K else ρ y)) w:=by
 simp[execOp,h,asBool]
theorem La{y:Operand}{pos:String}{j:Array Edge}{b:Bool}{v:Value}(hg:CF ops env g=true)(hd:Nat.blt k c.n=true)
 (hc:BY env f=some (.bool b))(hv:BY env (if b then K else y)=some v)(next:WR c B ops rest ((k,v)::env) w N):WR c B ops (⟨some k, .pick f K y,A,pos,j,g⟩::rest) env w N:=by
 intro a i;refine JP (KS (o:=⟨some k, .pick f K y,A,pos,j,g⟩) i hg) (JO (aj _ _ _ (i.eval hc)) ?_);have:(if b then a.eval K else a.eval y)=v:=by
  rw[←i.eval hv];cases b<;>rfl
 rw[this];exact next _ (i.put hd v)
theorem KJ{e:Env}(h:look e k=some a):Nat.beq k 4000000=false:=by
 cases f:Nat.beq k 4000000 with
 |false=>rfl
 |true=>
  have e:k=4000000:=Aai f;subst e;rw[RV] at h;cases h
theorem NG{e:Env}{v:Value}(h:look env k=some v)(hs:Sub ((k,v)::env) e):Sub env e:=by
 have f:=KJ h;refine⟨fun s u O=>hs.II s u ?_,fun u hu=>hs.marks u (by unfold Ef;rw[f];exact hu)⟩;unfold look;cases i:Nat.beq k s with
 |true=>
  have g:k=s:=Aai i;subst g;rw[h] at O;rw[f];simpa using O
 |false=>simpa using O
theorem ak{g e:Env}(h:Sub g e):Sub ((k,a)::g) ((k,a)::e):=by
 refine⟨fun d u O=>?_,fun u hu=>?_⟩
 ·unfold look at O⊢;cases f:Nat.beq k d with
  |true=>rw[f] at O;exact O
  |false=>rw[f] at O;exact h.II d u O
 unfold Ef at hu⊢;cases f:Nat.beq k 4000000 with
 |true=>rw[f] at hu;exact hu
 |false=>rw[f] at hu;exact h.marks u hu
theorem Gv{e:Env}(h:Sub env e)(hg:CF ops env g=true):CF ops e g=true:=by
 unfold CF at hg⊢;split at hg
 ·rfl
 ·rename_i j want;split at hg
  ·rename_i s' l;split at hg
   ·rename_i i f;simpa[h.II _ _ f] using hg
   ·cases hg
  ·cases hg
theorem YC{l tl:List Oper}(q:Bool)(s:Nat)(x:Bool)(R:World→Prop){b:Bool}{pos:String}{v:Operand}
 (hs:look env k=some (.bool b))(hl:l.drop s=⟨some n, .pick (.tmp k) f v,A,pos,o,g⟩::tl)(hg:CF ops env g=true)
 (hu:(if q then f else v)= .tmp m)(hv:(if q then v else f)= .const (.bool (!q)))
 (Hs:ai ops c.n (l.take s) k (!q) env=true)(hd:Nat.blt n c.n=true)
 (hT:b=q→WR c B ops (l.take s) ((k, .bool q)::env) w (fun e w'=>look e m=some (.bool x)∧Sub ((k, .bool q)::env) e∧R w'))
 (hF:b= !q→R w)
 (next:∀w',R w'→WR c B ops tl ((n, .bool (bif q then b&&x else b||x))::env) w' N):WR c B ops l env w N:=by
 have u:l.take s++⟨some n, .pick (.tmp k) f v,A,pos,o,g⟩::tl=l:=by rw[←hl];exact Aas s l
 by_cases C:b=q
 ·refine fw s (fun e w'=>(look e m=some (.bool x)∧Sub ((k, .bool q)::env) e∧R w')) ?_ ?_
  ·intro a u;exact hT C a (u.sub (Sub.cons (by rw[hs,C]) (Sub.refl _)))
  rintro e w' ⟨p,i,I⟩;rw[hl];have j:Sub env e:=NG (v:= .bool q) (by rw[hs,C]) i;have r:look e k=some (.bool q):=i.II k _ (Ka (KJ hs));refine La (v:= .bool x) (Gv j hg) hd (b:=q) (by simpa[BY] using r) ?_ ?_
  ·rw[hu];exact p
  have p:(bif q then b&&x else b||x)=x:=by subst C;cases b<;>simp
  have:=next w' I
  rw[p] at this;exact fun a u=>this a (u.sub (ak j))
 have C:b= !q:=by cases b<;>cases q<;>simp_all
 unfold ai at Hs;split at Hs
 ·rename_i e I;have J:=OF _ _ _ _ I;have i:Sub ((k, .bool (!q))::env) e:=Sub.drop _ _ _ J Hs;have j:Sub env e:=NG (v:= .bool (!q)) (by rw[hs,C]) i;have r:look e k=some (.bool (!q)):=i.II k _ (Ka (KJ hs));have i:WR c B ops l ((k, .bool (!q))::env) w N:=by
   refine ah I ?_;rw[hl];refine La (v:= .bool (!q)) (Gv j hg) hd (b:= !q) (by simpa[BY] using r) ?_ ?_
   ·have:(if(!q)=true then f else v)=(if q then v else f):=by cases q<;>rfl
    rw[this,hv];rfl
   have p:(bif q then b&&x else b||x)= !q:=by subst C;cases q<;>simp
   have:=next w (hF C)
   rw[p] at this;exact fun a u=>this a (u.sub (ak j))
  exact fun a u=>i a (u.sub (Sub.cons (by rw[hs,C]) (Sub.refl _)))
 cases Hs
end
abbrev I(n:Int):Value:= .int .i64 n
abbrev St(l:List UInt8):Value:= .string ⟨l.toArray⟩
def JQ(P:Program)(t:TypeId):Option (TypeId×Nat×Nat×List Value):=
 match P.underlying t with
 |some (.slice e)=>match P.info? e with
  |some i=>match i.zero with
   |some z=>bif Nat.beq z.cells.size i.size then some (e,i.size,i.bytes,z.cells.toList) else none
   |none=>none
  |none=>none
 |_=>none
def IM(P:Program)(t:TypeId):Option Nat:=
 match P.underlying t with
 |some (.struct _)|some (.array _ _)=>(P.info? t).map (·.size)
 |_=>none
def FB(P:Program)(t:TypeId):Bool:=
 match P.underlying t with
 |some (.struct _)|some (.array _ _)=>false
 |some _=>match P.info? t with
  |some i=>Nat.beq i.size 1
  |none=>false
 |none=>false
def CW(P:Program)(t:TypeId)(i:Nat):Option Nat:=
 match P.underlying t with
 |some (.struct g)=>match g[i]? with
  |some f=>match P.info? f.type with
   |some j=>bif Nat.beq j.size 0 then none else some f.offset
   |none=>none
  |none=>none
 |_=>none
def Fx(P:Program)(t:TypeId):Option (List Value):=
 match P.info? t with
 |some i=>match i.zero with
  |some z=>bif Nat.beq z.cells.size i.size then some z.cells.toList else none
  |none=>none
 |none=>none
def Aj(P:Program)(f:FuncId):Bool:=
 match P.funcs[f]? with
 |some fn=>fn.name != "runtime.NumGoroutine"&&fn.body.isSome
 |none=>false
section
variable {P:Program} {env:Env} {w:World} {ty:TypeId}
theorem DU(h:JQ P d=some (A,k,m,b)):
 P.underlying d=some (.slice A)∧∃i f,P.info? A=some i∧i.size=k∧i.bytes=m∧i.zero=some f∧f.cells=b.toArray∧b.length=k:=by
 unfold JQ at h;split at h
 ·rename_i l hu;split at h
  ·rename_i i hi;split at h
   ·rename_i f j;cases g:Nat.beq f.cells.size i.size with
    |false=>rw[g] at h;simp at h
    |true=>
     rw[g] at h;have:=Aai g;simp at h;obtain⟨rfl,rfl,rfl,rfl⟩:=h;exact⟨hu,i,f,hi,Z,Z,j,by simp,by simpa using this⟩
   ·cases h
  ·cases h
 ·cases h
theorem Pn(h:FB P d=true):(isAgg d).run P w= .ok false w:=by
 unfold FB at h;split at h
 ·cases h
 ·cases h
 ·rename_i t hd g f;simp only[isAgg,underlying,program,Abk,Sem.run,f,Abd];cases t<;>simp_all [Acw,Sem.run]
 ·cases h
theorem Uj(h:FB P d=true):∃i,P.info? d=some i∧i.size=1:=by
 unfold FB at h;split at h
 ·cases h
 ·cases h
 ·split at h
  ·rename_i i hi;exact⟨i,hi,Aai h⟩
  ·cases h
 ·cases h
theorem HU(h:IM P k=some n):(isAgg k).run P w= .ok true w∧∃i,P.info? k=some i∧i.size=n:=by
 unfold IM at h;split at h
 all_goals first
  |(rename_i d hd
    cases hi:P.info? k with
    |none=>rw[hi] at h;cases h
    |some i=>
     rw[hi] at h;simp at h;exact⟨by simp[isAgg,underlying,program,Sem.run,hd],i,Z,h⟩)
  |(rename_i d e hd
    cases hi:P.info? k with
    |none=>rw[hi] at h;cases h
    |some i=>
     rw[hi] at h;simp at h;exact⟨by simp[isAgg,underlying,program,Sem.run,hd],i,Z,h⟩)
  |cases h
theorem Cf(hx:BY env f=some a):DP P env w (.move f) ty a:=fun n v x d pos i g=>by simp[execOp,x.eval hx]
theorem CG(hx:BY env f=some a):DP P env w (.assign f) ty a:=fun n v x d pos i g=>by simp[execOp,x.eval hx]
theorem Ak{p:Addr}(hx:BY env f=some (.pointer (some p))):DP P env w (.nilCheck f) ty (.pointer (some p)):=fun n a x d pos i g=>by
 simp[execOp,x.eval hx]
theorem SI{p:Addr}(hf:CW P d i=some k):(Instr.fieldAt d (.pointer (some p)) i).run P w= .ok (.pointer (some (p.add k))) w:=by
 unfold CW at hf;split at hf
 ·rename_i I hu;split at hf
  ·rename_i f l;split at hf
   ·rename_i j r;cases g:Nat.beq j.size 0 with
    |true=>rw[g] at hf;simp at hf
    |false=>
     rw[g] at hf;have C:j.size≠0:=Aes g;simp at hf;subst hf;simp[Instr.fieldAt,Aaj hu,l,Instr.sureAddr,fieldPlace,sizeOf,typeInfo,r,C]
   ·cases hf
  ·cases hf
 ·cases hf
theorem add_lit(b o n:Nat):(⟨b,o,none⟩:Addr).add n=⟨b,o+n,none⟩:=by unfold Addr.add;split<;>simp_all
theorem Aa(hf:CW P d i=some k)(hx:BY env f=some (.pointer (some ⟨m,n,none⟩))):
 DP P env w (.fieldAddr d f i) ty (.pointer (some ⟨m,n+k,none⟩)):=fun off a x t pos j g=>by
 simp[execOp,x.eval hx,SI hf,add_lit]
theorem Bn{p:Addr}(hf:CW P d i=some k)(hx:BY env f=some (.pointer (some p))):
 DP P env w (.fieldAddr d f i) ty (.pointer (some (p.add k))):=fun n a x t pos j g=>by
 simp[execOp,x.eval hx,SI hf]
theorem kU{p:Addr}(ht:FB P d=true)(hx:BY env f=some (.pointer (some p)))(hc:w.cell? p=some a):DP P env w (.load d f) ty a:=fun n v x t pos i g=>by
 simp[execOp,x.eval hx,Instr.loadAt,Instr.sureAddr,loadVar,Pn ht,hc]
def AT(w:World)(p:Addr)(cs:List Value):Prop:=∀j v,cs[j]?=some v→w.cell? (p.add j)=some v
theorem kV{p:Addr}(ht:IM P k=some n)(hx:BY env f=some (.pointer (some p)))(hc:AT w p cs)(hl:cs.length=n):
 DP P env w (.load k f) ty (.agg cs.toArray):=fun r a l d pos o g=>by
 obtain⟨x,i,hi,hs⟩:=HU (w:=w) ht;have j:=run_loadCells_list (P:=P) (w:=w) p cs hc;simp[execOp,l.eval hx,Instr.loadAt,Instr.sureAddr,loadVar,x,sizeOf,typeInfo,hi,hs,←hl,j]
def Gt(w:World)(b:Nat)(cs:List Value)(t:TypeId):Prop:=w.heap[b]?=some (.cells cs.toArray t (0,0))
theorem Gt.cell(h:Gt w k cs d)(i:Nat):w.cell? ⟨k,i,none⟩=cs[i]?:=by
 have:=Ahm w k i cs.toArray d (0,0) h;simpa using this
theorem Gt.AT{b:Nat}{cs:List Value}{t:TypeId}(h:Gt w b cs t):AT w ⟨b,0,none⟩ cs:=fun j v hv=>by rw[add_lit,h.cell];simpa using hv
theorem Gt.lt(h:Gt w k cs d):k<w.heap.size:=by
 rcases Aab k w.heap.size with f|f
 ·exact f
 ·unfold Gt at h;rw[Ad6 f] at h;cases h
theorem Gt.keep(h:Gt w k cs d)(O:Below m w w')(f:k<m):Gt w' k cs d:=(O.block k f).trans h
theorem Gt.kept(h:Gt w k cs d)(O:AZ w w'):Gt w' k cs d:=h.keep O h.lt
theorem Al(ht:FB P d=true)(hx:BY env f=some (.pointer (some ⟨k,i,none⟩)))(x:Gt w k cs A)(hv:cs[i]?=some a):DP P env w (.load d f) ty a:=
 kU ht hx (by rw[x.cell,hv])
theorem Ba(ht:IM P k=some n)(hx:BY env f=some (.pointer (some ⟨m,0,none⟩)))(x:Gt w m cs d)(hl:cs.length=n):DP P env w (.load k f) ty (.agg cs.toArray):=
 kV ht hx x.AT hl
section
variable {t ty2:TypeId} {x y:Operand} {k:IntKind} {m n:Int} (hx:BY env x=some (.int k m)) (hy:BY env y=some (.int k n))
include hx hy
theorem AX:DP P env w (.binOp .lss t x y ty2) ty (.bool (decide (m<n))):=fun _ a f d pos i g=>by simp[execOp,f.eval hx,f.eval hy,eqGuard,binOp,Op.intCmp]
theorem Gw:DP P env w (.binOp .leq t x y ty2) ty (.bool (decide (m≤n))):=fun _ a f d pos i g=>by simp[execOp,f.eval hx,f.eval hy,eqGuard,binOp,Op.intCmp]
theorem CM:DP P env w (.binOp .gtr t x y ty2) ty (.bool (decide (n<m))):=fun _ a f d pos i g=>by simp[execOp,f.eval hx,f.eval hy,eqGuard,binOp,Op.intCmp]
theorem Dh:DP P env w (.binOp .geq t x y ty2) ty (.bool (decide (n≤m))):=fun _ a f d pos i g=>by simp[execOp,f.eval hx,f.eval hy,eqGuard,binOp,Op.intCmp]
theorem BO:DP P env w (.binOp .eql t x y ty2) ty (.bool (decide (m=n))):=fun _ a f d pos i g=>by
 simp[execOp,f.eval hx,f.eval hy,eqGuard,binOp,Op.intCmp];rfl
theorem BK:DP P env w (.binOp .neq t x y ty2) ty (.bool (!decide (m=n))):=fun _ a f d pos i g=>by
 simp[execOp,f.eval hx,f.eval hy,eqGuard,binOp,Op.intCmp];rfl
theorem vP:DP P env w (.binOp .add t x y ty2) ty (.int k (k.wrap (m+n))):=fun _ a f d pos i g=>by simp[execOp,f.eval hx,f.eval hy,eqGuard,binOp,Op.intArith]
theorem vQ:DP P env w (.binOp .sub t x y ty2) ty (.int k (k.wrap (m-n))):=fun _ a f d pos i g=>by simp[execOp,f.eval hx,f.eval hy,eqGuard,binOp,Op.intArith]
theorem vR:DP P env w (.binOp .mul t x y ty2) ty (.int k (k.wrap (m*n))):=fun _ a f d pos i g=>by simp[execOp,f.eval hx,f.eval hy,eqGuard,binOp,Op.intArith]
theorem vU(i:n≠0):DP P env w (.binOp .quo t x y ty2) ty (.int k (k.wrap (m.tdiv n))):=fun _ a f d pos j g=>by simp[execOp,f.eval hx,f.eval hy,eqGuard,binOp,Op.intDiv,i]
theorem vV(i:n≠0):DP P env w (.binOp .rem t x y ty2) ty (.int k (m.tmod n)):=fun _ a f d pos j g=>by simp[execOp,f.eval hx,f.eval hy,eqGuard,binOp,Op.intDiv,i]
end
theorem Eg(f:-9223372036854775808≤p)(g:p≤9223372036854775807):IntKind.i64.wrap p=p:=by rw[IntKind.wrap_i64];omega
section
variable {t ty2:TypeId} {x y:Operand} {m n:Int} (hx:BY env x=some (I m)) (hy:BY env y=some (I n))
include hx hy
theorem Bc(f:-9223372036854775808≤m+n)(g:m+n≤9223372036854775807):DP P env w (.binOp .add t x y ty2) ty (I (m+n)):=by have:=vP (P:=P) (w:=w) (ty:=ty) (t:=t) (ty2:=ty2) hx hy;rwa [Eg f g] at this
theorem Gu(f:-9223372036854775808≤m-n)(g:m-n≤9223372036854775807):DP P env w (.binOp .sub t x y ty2) ty (I (m-n)):=by have:=vQ (P:=P) (w:=w) (ty:=ty) (t:=t) (ty2:=ty2) hx hy;rwa [Eg f g] at this
theorem HK(f:-9223372036854775808≤m*n)(g:m*n≤9223372036854775807):DP P env w (.binOp .mul t x y ty2) ty (I (m*n)):=by have:=vR (P:=P) (w:=w) (ty:=ty) (t:=t) (ty2:=ty2) hx hy;rwa [Eg f g] at this
theorem dD(f:0≤m)(g:0<n)(i:m≤9223372036854775807):DP P env w (.binOp .quo t x y ty2) ty (I (m/n)):=by
 have:=vU (P:=P) (w:=w) (ty:=ty) (t:=t) (ty2:=ty2) hx hy G;have j:m/n≤m:=Int.ediv_le_self _ f;have l:0≤m/n:=Int.ediv_nonneg f G;rw[Int.tdiv_eq_ediv_of_nonneg f] at this;generalize m/n=q at*;rwa [Eg G G] at this
end
theorem BL(hx:BY env f=some (.bool B)):DP P env w (.unOp .not d f) ty (.bool (!B)):=fun _ a x t pos i g=>by simp[execOp,x.eval hx,Op.unary]
theorem tI{y:Operand}(hc:BY env f=some (.bool B))(hv:BY env (if B then K else y)=some a):DP P env w (.pick f K y) ty a:=fun _ v i d pos j g=>by
 rw[aj _ _ _ (i.eval hc),←i.eval hv];cases B<;>rfl
theorem size_mk(l:List UInt8):(⟨l.toArray⟩:ByteArray).size=l.length:=by simp[ByteArray.size]
theorem toList_mk(l:List UInt8):(⟨l.toArray⟩:ByteArray).toList=l:=by rw[ByteArray.toList_eq]
section
variable {t ty2:TypeId} {x y:Operand} {l r:List UInt8} (hx:BY env x=some (St l)) (hy:BY env y=some (St r))
include hx hy
theorem YD:DP P env w (.binOp .eql t x y ty2) ty (.bool (l==r)):=fun _ a f d pos i g=>by simp[execOp,f.eval hx,f.eval hy,eqGuard,binOp,Op.stringOp,toList_mk]
theorem tJ:DP P env w (.binOp .neq t x y ty2) ty (.bool (!(l==r))):=fun _ a f d pos i g=>by simp[execOp,f.eval hx,f.eval hy,eqGuard,binOp,Op.stringOp,toList_mk]
theorem dE(h:l.length+r.length≤9223372036854775807):DP P env w (.binOp .add t x y ty2) ty (St (l++r)):=fun _ a f d pos j g=>by
 have i:¬(((l.length+r.length:Nat):Int)>IntKind.i64.max):=by simp[IntKind.max,IntKind.bits,IntKind.signed];omega
 have e:(⟨l.toArray⟩:ByteArray)++⟨r.toArray⟩=⟨(l++r).toArray⟩:=by
  apply ByteArray.ext;simp[ByteArray.data_append]
 simp only[execOp,f.eval hx,f.eval hy,eqGuard,binOp,Op.stringOp,size_mk];rw[ss i];simp[e]
end
theorem Ey(ht:P.underlying d=some .string)(hx:BY env f=some (St s)):DP P env w (.call ⟨.builtin .len,#[f],#[d]⟩) ty (I s.length):=fun _ a x t pos i g=>by
 simp[execOp,resolve,invoke,builtin,Builtin.len_,x.eval hx,Aaj ht,size_mk,goInt]
theorem Fo{e:Option Addr}{c:Nat}(ht:P.underlying d=some (.slice A))(hx:BY env f=some (.slice e n c)):DP P env w (.call ⟨.builtin .len,#[f],#[d]⟩) ty (I n):=fun _ a x t pos i g=>by
 simp[execOp,resolve,invoke,builtin,Builtin.len_,x.eval hx,Aaj ht,goInt]
theorem Ks{b:UInt8}(ht:P.underlying d=some .string)(hx:BY env f=some (St s))(hy:BY env K=some (.int R p))
 (i:0≤p)(x:s[p.toNat]?=some b):DP P env w (.index d f K) ty (.int .u8 b.toNat):=fun _ a o t pos C g=>by
 have j:p.toNat<s.length:=by
  rcases Aab p.toNat s.length with h|h
  ·exact h
  ·rw[Aam h] at x;cases x
 have r:(⟨s.toArray⟩:ByteArray)[p.toNat]?=some b:=by
  rw[ByteArray.getElem?_lt' _ _ (by rw[size_mk];exact j)];rw[dd j] at x;exact x
 simp[execOp,Instr.index,o.eval hx,o.eval hy,Aaj ht,asIntOf,i,r]
theorem extract_mk(l:List UInt8)(a b:Nat):(ByteArray.mk l.toArray).extract a b=ByteArray.mk ((l.drop a).take (b-a)).toArray:=ByteArray.extract_mk l a b
section
variable {t:TypeId} {x:Operand} {l:List UInt8} (ht:P.underlying t=some .string) (hx:BY env x=some (St l))
include ht hx
theorem Ip{I:IntKind}{j:Int}(hy:BY env f=some (.int R p))(C:BY env K=some (.int I j))(o:0≤p)(k:p≤j)(U:j≤l.length):
 DP P env w (.slice t x (some f) (some K) none) ty (St ((l.drop p.toNat).take (j.toNat-p.toNat))):=fun _ a y d pos J g=>by
 obtain⟨m,rfl⟩:=Abv (show 0≤j by omega);obtain⟨q,rfl⟩:=Abv o;have i:q≤m:=G;have r:m≤l.length:=G;simp[execOp,Instr.sliceAt,Instr.slice,Instr.sliceBounds,Instr.sliceBound,y.eval hx,y.eval hy,y.eval C,Aaj ht,asIntOf,size_mk,i,r,extract_mk]
theorem GB(hy:BY env f=some (.int R p))(j:0≤p)(o:p≤l.length):
 DP P env w (.slice t x (some f) none none) ty (St (l.drop p.toNat)):=fun _ a y d pos i g=>by
 have e:(l.drop p.toNat).take (l.length-p.toNat)=l.drop p.toNat:=vq Bb;simp[execOp,Instr.sliceAt,Instr.slice,Instr.sliceBounds,Instr.sliceBound,y.eval hx,y.eval hy,Aaj ht,asIntOf,size_mk,j,o,extract_mk,e]
theorem IN(j:BY env f=some (.int R p))(i:0≤p)(o:p≤l.length):
 DP P env w (.slice t x none (some f) none) ty (St (l.take p.toNat)):=fun _ a z d pos r g=>by
 simp[execOp,Instr.sliceAt,Instr.slice,Instr.sliceBounds,Instr.sliceBound,z.eval hx,z.eval j,Aaj ht,asIntOf,size_mk,i,o,extract_mk]
end
theorem JR{x:IntKind}{ds:TypeDesc}(hs:P.underlying d=some ds)(hd:P.underlying A=some (.int x))(hx:BY env f=some (.int R p)):
 DP P env w (.convert d A f) ty (.int x (x.wrap p)):=fun _ a i src pos j g=>by
 simp only[execOp,convert,i.eval hx];simp only[Abk,Aaj hs,Aaj hd,Abd];cases ds<;>simp[Conv.intToInt]
theorem Aq(hx:BY env f=some (.tuple b.toArray))(hv:b[i]?=some a):DP P env w (.extract f i) ty a:=fun _ v x d pos j g=>by
 simp[execOp,Instr.extract,x.eval hx,hv]
theorem Dn{f:Fn}{i:Array Operand}(hx:fu env i.toList=some b):DP P env w (.makeFunc f #[] i) ty (.func f #[] b.toArray):=fun _ a j d pos l g=>by
 have:=j.SH hx;have e:i.map a.eval=b.toArray:=by rw[←this];apply Ag1;simp
 simp[execOp,Instr.makeFunc,e]
theorem NH(n:Nat):IntKind.u8.wrap (n:Int)=((UInt8.ofNat n).toNat:Int):=by
 simp[IntKind.wrap,IntKind.signed,IntKind.bits]
theorem LC(f:0≤p)(g:p<18446744073709551616):IntKind.u64.wrap p=p:=by
 simp[IntKind.wrap,IntKind.signed,IntKind.bits];omega
section
variable {x:Operand} {src dst:TypeId} {ds:TypeDesc}
theorem dF{b:UInt8}(hs:P.underlying src=some ds)(hd:P.underlying dst=some (.int .i64))(hx:BY env x=some (.int .u8 b.toNat)):DP P env w (.convert src dst x) ty (I b.toNat):=by
 have:=JR (P:=P) (env:=env) (w:=w) (ty:=ty) hs hd hx;have f:=b.toNat_lt;rwa [Eg G G] at this
theorem OG{b:UInt8}(hs:P.underlying src=some ds)(hd:P.underlying dst=some (.int .u64))(hx:BY env x=some (.int .u8 b.toNat)):DP P env w (.convert src dst x) ty (.int .u64 b.toNat):=by
 have:=JR (P:=P) (env:=env) (w:=w) (ty:=ty) hs hd hx;have f:=b.toNat_lt;rwa [LC G G] at this
theorem kW(hs:P.underlying src=some ds)(hd:P.underlying dst=some (.int .u8))(hx:BY env x=some (.int R (n:Int))):DP P env w (.convert src dst x) ty (.int .u8 (UInt8.ofNat n).toNat):=by
 have:=JR (P:=P) (env:=env) (w:=w) (ty:=ty) hs hd hx;rwa [NH] at this
theorem EY(hs:P.underlying src=some ds)(hd:P.underlying dst=some (.int .i64))(hx:BY env x=some (.int R p))(f:-9223372036854775808≤p)(g:p≤9223372036854775807):DP P env w (.convert src dst x) ty (I p):=by
 have:=JR (P:=P) (env:=env) (w:=w) (ty:=ty) hs hd hx;rwa [Eg f g] at this
theorem ED(hs:P.underlying src=some ds)(hd:P.underlying dst=some (.int .u64))(hx:BY env x=some (.int R p))(f:0≤p)(g:p<18446744073709551616):DP P env w (.convert src dst x) ty (.int .u64 p):=by
 have:=JR (P:=P) (env:=env) (w:=w) (ty:=ty) hs hd hx;rwa [LC f g] at this
theorem hP(hs:P.underlying src=some ds)(hd:P.underlying dst=some (.int .u32))(hx:BY env x=some (.int R p)):DP P env w (.convert src dst x) ty (.int .u32 (p%4294967296)):=by
 have:=JR (P:=P) (env:=env) (w:=w) (ty:=ty) hs hd hx;rwa [show IntKind.u32.wrap p=p%4294967296 by simp[IntKind.wrap,IntKind.signed,IntKind.bits]] at this
end
def MO(m:Int):UInt8:=UInt8.ofNat (m%256).toNat
theorem kX(m:Int):IntKind.u8.wrap m=((MO m).toNat:Int):=by
 have f:0≤m%256:=Ael _ AO;have g:m%256<256:=Aen _ AO;simp[IntKind.wrap,IntKind.signed,IntKind.bits,MO];omega
theorem KT{ds:TypeDesc}(hs:P.underlying d=some ds)(hd:P.underlying A=some (.int .u8))(hx:BY env f=some (.int R p)):DP P env w (.convert d A f) ty (.int .u8 (MO p).toNat):=by
 have:=JR (P:=P) (env:=env) (w:=w) (ty:=ty) hs hd hx;rwa [kX] at this
section
variable {t ty2:TypeId} {x y:Operand}
theorem al{l:IntKind}{s:Int}(hx:BY env x=some (.int R p))(hy:BY env y=some (.int l s))(m:0≤s)(hs:s.toNat≤R.bits):DP P env w (.binOp .shr t x y ty2) ty (.int R (p/2^s.toNat)):=fun _ a f d pos o g=>by
 have i:¬s<0:=G;have j:min s.toNat R.bits=s.toNat:=G;simp[execOp,f.eval hx,f.eval hy,eqGuard,binOp,Op.shift,i,j];rw[Int.fdiv_eq_ediv_of_nonneg _ (by exact_mod_cast Wm _)]
theorem rZ{l:IntKind}{s:Int}(hx:BY env x=some (.int R p))(hy:BY env y=some (.int l s))(m:0≤s)(hs:s.toNat≤R.bits):DP P env w (.binOp .shl t x y ty2) ty (.int R (R.wrap (p*2^s.toNat))):=fun _ a f d pos o g=>by
 have i:¬s<0:=G;have j:min s.toNat R.bits=s.toNat:=G;simp[execOp,f.eval hx,f.eval hy,eqGuard,binOp,Op.shift,i,j]
theorem SK{op:BinOp}{k:IntKind}{n:Int}{r:BitVec k.bits}(hx:BY env x=some (.int k p))(hy:BY env y=some (.int k n))
 (i:(op= .or∧r=BitVec.ofInt k.bits p|||BitVec.ofInt k.bits n)∨(op= .and∧r=BitVec.ofInt k.bits p&&& BitVec.ofInt k.bits n)∨(op= .xor∧r=BitVec.ofInt k.bits p^^^BitVec.ofInt k.bits n)):
 DP P env w (.binOp op t x y ty2) ty (.int k (k.wrap (r.toNat:Int))):=fun _ a f d pos j g=>by
 rcases i with⟨rfl,rfl⟩|⟨rfl,rfl⟩|⟨rfl,rfl⟩<;>simp[execOp,f.eval hx,f.eval hy,eqGuard,binOp,Op.intBits]
theorem Fu(b m:Nat)(h:m<2^b):(BitVec.ofInt b (m:Int)).toNat=m:=by rw[BitVec.ofInt_natCast,BitVec.toNat_ofNat];exact Adw h
theorem orU(hx:BY env x=some (.int R (m:Int)))(hy:BY env y=some (.int R (n:Int)))(f:m<2^R.bits)(g:n<2^R.bits)(i:R.wrap ((m|||n:Nat):Int)=((m|||n:Nat):Int)):DP P env w (.binOp .or t x y ty2) ty (.int R ((m|||n:Nat):Int)):=by
 have:=SK (P:=P) (w:=w) (ty:=ty) (t:=t) (ty2:=ty2) (op:= .or) hx hy (.inl ⟨Z,Z⟩);rw[BitVec.toNat_or,Fu _ _ f,Fu _ _ g,i] at this;exact this
theorem kY(m n:Nat)(f:n<256):(m*256)|||n=m*256+n:=by
 have:=Nat.shiftLeft_add_eq_or_of_lt (i:=8) f m;have h:m<<<8=m*256:=by simp[Nat.shiftLeft_eq]
 rw[h] at this;exact this.symm
theorem RW(hx:BY env x=some (.int .u64 ((m*256:Nat):Int)))(hy:BY env y=some (.int .u64 (n:Int)))(g:m<72057594037927936)(f:n<256):DP P env w (.binOp .or t x y ty2) ty (.int .u64 ((m*256+n:Nat):Int)):=by
 have:=orU (P:=P) (w:=w) (ty:=ty) (t:=t) (ty2:=ty2) hx hy (by simp[IntKind.bits];omega) (by simp[IntKind.bits];omega) (by rw[kY m n f];exact LC G G);rwa [kY m n f] at this
theorem Uk(hx:BY env x=some (.int .u64 (m:Int)))(hy:BY env y=some (.int R 8))(g:m<72057594037927936):DP P env w (.binOp .shl t x y ty2) ty (.int .u64 ((m*256:Nat):Int)):=by
 have:=rZ (P:=P) (w:=w) (ty:=ty) (t:=t) (ty2:=ty2) hx hy AO AO;have e:IntKind.u64.wrap ((m:Int)*2^(8:Int).toNat)=((m*256:Nat):Int):=by
  have:((m:Int)*2^(8:Int).toNat)=((m*256:Nat):Int):=by simp
  rw[this];exact LC G G
 rwa [e] at this
end
theorem IP(hf:Aj P S=true)(args:Array Value):(callFunc S args).run P w= .ok (.enter S args) w:=by
 unfold Aj at hf;split at hf
 ·rename_i fn l;simp at hf;obtain⟨j,g⟩:=hf;cases i:fn.body with
  |none=>rw[i] at g;cases g
  |some x=>simp[callFunc,program,Sem.run,l,j,i]
 ·cases hf
theorem Ab{args:Array Operand}{at_:Array TypeId}{f:Value→World→Prop}(hf:Aj P S=true)(hx:fu env args.toList=some b)
 (hc:Calls P S b.toArray w (Bt f)):Hh P env w (.call ⟨.value (.func S),args,at_⟩) ty f:=by
 intro n a j ro d pos i g K Qjq hK;have:=j.SH hx;have e:args.map a.eval=b.toArray:=by rw[←this];apply Ag1;simp
 have l:(execOp a.eval ⟨d, .call ⟨.value (.func S),args,at_⟩,ty,pos,i,g⟩).run P w= .ok (.enter S b.toArray) w:=by
  simp[execOp,resolve,Deferred.ofValue,Act.eval,invoke,e,IP hf]
 exact Pl l hc hK
theorem DV{x:FuncId}{i:Array Value}{args:Array Operand}{at_:Array TypeId}(hv:BY env f=some (.func (.func x) #[] i))(hf:Aj P x=true)
 (hx:fu env args.toList=some b)(hc:Calls P x (b.toArray++i) w (Bt r)):Hh P env w (.call ⟨.value f,args,at_⟩) ty r:=by
 intro n a j ro d pos l g K Qjq hK;have:=j.SH hx;have e:args.map a.eval=b.toArray:=by rw[←this];apply Ag1;simp
 have o:(execOp a.eval ⟨d, .call ⟨.value f,args,at_⟩,ty,pos,l,g⟩).run P w= .ok (.enter x (b.toArray++i)) w:=by
  simp[execOp,resolve,Deferred.ofValue,j.eval hv,invoke,e,IP hf]
 exact Pl o hc hK
structure Ts (w w':World) (b:Nat) (cs:List Value) (t:TypeId):Prop where
 at_:b=w.heap.size
 size:w'.heap.size=w.heap.size+1
 AE:Gt w' b cs t
 below:AZ w w'
theorem Ts.mk'(w:World)(cs:List Value)(t:TypeId):Ts w (w.alloc (.cells cs.toArray t)) w.heap.size cs t:=
 ⟨Z,by show(w.heap.push _).size=_;simp,Aex w _,(Aar _ _).alloc (kM _) _⟩
def kZ(w:World)(cs:List Value)(t:TypeId)(v:Value)(w':World):Prop:=∃b,v= .pointer (some ⟨b,0,none⟩)∧Ts w w' b cs t
theorem IQ(hx:BY env f=some (.agg cs.toArray)):Hh P env w (.box d f) ty (kZ w cs d):=
 Cr fun _ a x t pos i g=>⟨_,_,by simp[execOp,Instr.box,x.eval hx,newVar,newRow,Value.cells,newObj,Sem.run],w.heap.size,Z,Ts.mk' w cs d⟩
theorem hQ(hx:BY env f=some a)(hv:a.cells=#[a]):Hh P env w (.box d f) ty (kZ w [a] d):=
 Cr fun _ v x t pos i g=>⟨_,_,by simp[execOp,Instr.box,x.eval hx,newVar,newRow,hv,newObj,Sem.run],w.heap.size,Z,Ts.mk' w [a] d⟩
theorem dG(h:Fx P d=some b):∃i f,P.info? d=some i∧i.zero=some f∧f.cells=b.toArray∧i.size=b.length:=by
 unfold Fx at h;split at h
 ·rename_i i hi;split at h
  ·rename_i f j;cases g:Nat.beq f.cells.size i.size with
   |false=>rw[g] at h;simp at h
   |true=>
    rw[g] at h;have:=Aai g;simp at h;subst h;exact⟨i,f,hi,j,by simp,by simpa using this.symm⟩
  ·cases h
 ·cases h
theorem hR(h:Fx P d=some b):∃f,(zeroValue d).run P w= .ok f w∧f.cells=b.toArray:=by
 obtain⟨i,f,hi,g,hc,_⟩:=dG h;exact⟨f,by simp[zeroValue,typeInfo,hi,g],hc⟩
theorem Js(j:Fx P d=some b):Hh P env w (.alloc d) ty (kZ w b d):=
 Cr fun _ a o t pos l g=>by
  obtain⟨p,f,i⟩:=hR (w:=w) j;exact⟨_,_,by simp[execOp,Instr.alloc,f,newVar,newRow,i,newObj,Sem.run],w.heap.size,Z,Ts.mk' w b d⟩
end
structure Shape (α:Type) where
 size:Nat
 rd:Nat→World→List Value→α→Prop
 len:∀{B:Nat} {w:World} {cs:List Value} {x:α},rd B w cs x→cs.length=size
 keep:∀{B:Nat} {w w':World} {cs:List Value} {x:α},(∀k,k<B→w'.heap[k]?=w.heap[k]?)→rd B w cs x→rd B w' cs x
 mono:∀{B B':Nat} {w:World} {cs:List Value} {x:α},B≤B'→rd B w cs x→rd B' w cs x
 one:∀{B:Nat} {w:World} {cs:List Value} {x:α},rd B w cs x→∀u∈cs,u.oneCell'=true
def Shape.flat{α:Type}(n:Nat)(enc:α→List Value)(ok:α→Prop)(h:∀x,(enc x).length=n)(g:∀x,∀u∈enc x,u.oneCell'=true):Shape α where
 size:=n
 rd:=fun _ _ cs x=>cs=enc x∧ok x
 len:=fun f=>by rw[f.1];exact h _
 keep:=fun _ f=>f
 mono:=fun _ f=>f
 one:=fun f=>by rw[f.1];exact g _
def Int64(n:Int):Prop:=-9223372036854775808≤n∧n≤9223372036854775807
def Cg:Shape Int:=Shape.flat 1 (fun n=>[I n]) Int64 (fun _=>rfl) (fun _ u hu=>by simp at hu;subst hu;rfl)
def DQ:Shape (List UInt8):=Shape.flat 1 (fun l=>[St l]) (fun l=>l.length≤140737488355328) (fun _=>rfl) (fun _ u hu=>by simp at hu;subst hu;rfl)
def DW:Shape Bool:=Shape.flat 1 (fun b=>[.bool b]) (fun _=>True) (fun _=>rfl) (fun _ u hu=>by simp at hu;subst hu;rfl)
theorem add_add(a:Addr)(i j:Nat):(a.add i).add j=a.add (i+j):=by
 unfold Addr.add;by_cases hi:i=0<;>by_cases f:j=0<;>simp[hi,f,Agu]
theorem Gk(a:Addr)(n:Nat):(a.add n).block=a.block:=by unfold Addr.add;split<;>rfl
theorem add_zero(a:Addr):a.add 0=a:=by simp[Addr.add]
def Bz:Value→Nat→Nat→Addr
 | .slice (some a) _ _,size,i=>a.add (i*size)
 |_,_,_=>default
theorem AT.keep{w:World}{p:Addr}(h:AT w p cs)(O:w'.heap[p.block]?=w.heap[p.block]?):AT w' p cs:=fun j v hv=>by
 rw[←h j v hv];exact Aeh (by rw[Gk];exact O)
theorem AT.block{p:Addr}(h:AT w p cs)(f:0<cs.length):p.block<w.heap.size:=by
 have:=World.block_lt_of_cell? w _ (h 0 cs[0] (dd f));rwa [Gk] at this
structure FC {α:Type} (s:Shape α) (B:Nat) (w:World) (v:Value) (l:List α):Prop where
 form:∃A c,v= .slice A l.length c∧l.length≤c∧c≤maxLen∧(∀a,A=some a→0<l.length→a.block<B)
 elem:∀i x,l[i]?=some x→∃cs,AT w (Bz v s.size i) cs∧s.rd B w cs x
 addr:0<l.length→∃a c,v= .slice (some a) l.length c
 small:l.length≤140737488355328
section
variable {α:Type} {s:Shape α} {B B':Nat} {w w':World} {v:Value} {l:List α}
theorem FC.zF(h:FC s B w v l):l.length≤maxLen:=by obtain⟨A,c,_,f,g,_⟩:=h.form;omega
theorem FC.vW(h:FC s B w v l):l.length≤9223372036854775807:=by have:=h.zF;simpa[maxLen] using this
theorem FC.RX(h:FC s B w v l)(hi:i<l.length):(Bz v s.size i).block<B:=by
 obtain⟨a,c,rfl⟩:=h.addr G;obtain⟨A,c',f,_,_,g⟩:=h.form;injection f with f;subst f;simp only[Bz,Gk];exact g a Z G
theorem FC.at(h:FC s B w v l){x:α}(hi:l[i]?=some x):∃cs,AT w (Bz v s.size i) cs∧s.rd B w cs x:=h.elem i x hi
theorem FC.keep(h:FC s B w v l)(O:∀k,k<B→w'.heap[k]?=w.heap[k]?):FC s B w' v l:=
 ⟨h.form,fun i x hi=>by
  obtain⟨cs,g,j⟩:=h.elem i x hi;have o:i<l.length:=by
   rcases Aab i l.length with f|f
   ·exact f
   ·rw[Aam f] at hi;cases hi
  exact⟨cs,g.keep (O _ (h.RX o)),s.keep O j⟩,h.addr,h.small⟩
theorem FC.below(h:FC s B w v l)(O:Below B w w'):FC s B w' v l:=h.keep O.block
theorem FC.mono(h:FC s B w v l)(j:B≤B'):FC s B' w v l:=
 ⟨by obtain⟨A,c,f,g,p,r⟩:=h.form;exact⟨A,c,f,g,p,fun a t o=>Aaq (r a t o) j⟩,
  fun i x hi=>by obtain⟨cs,f,g⟩:=h.elem i x hi;exact⟨cs,f,s.mono j g⟩,h.addr,h.small⟩
theorem FC.AD(h:FC s B w v l):v.oneCell'=true:=by obtain⟨A,c,rfl,_⟩:=h.form;rfl
theorem FC.AA(h:FC s B w v l):v.cells=#[v]:=by obtain⟨A,c,rfl,_⟩:=h.form;rfl
theorem FC.nil(s:Shape α)(B:Nat)(w:World):FC s B w (.slice none 0 0) []:=
 ⟨⟨none,0,Z,by simp,by simp,fun a f=>by cases f⟩,fun i x hi=>by simp at hi,fun h=>by simp at h,by simp⟩
end
section
variable {P:Program} {env:Env} {w:World} {ty:TypeId} {α:Type} {s:Shape α} {B:Nat} {v:Value} {l:List α}
theorem Ez(ht:JQ P d=some (A,k,m,b))(x:FC s B h v l)(hx:BY env f=some v):DP P env w (.call ⟨.builtin .len,#[f],#[d]⟩) ty (I l.length):=by
 obtain⟨e,c,rfl,_⟩:=x.form;exact Fo (DU ht).1 hx
theorem LD(ht:JQ P d=some (A,k,m,b)){a:Addr}{c:Nat}{sz:IntKind}(f:0≤p)(j:p<n):
 (Instr.indexAt d (.slice (some a) n c) (.int sz p)).run P w= .ok (.pointer (some (a.add (p.toNat*k)))) w:=by
 obtain⟨hu,i,r,hi,hs,l,o,hc,hl⟩:=DU ht;obtain⟨by_,rfl⟩:=Abv f;have g:by_<n:=G;simp[Instr.indexAt,asIntOf,Aaj hu,sizeOf,typeInfo,hi,hs,g]
theorem BJ{sz:IntKind}(ht:JQ P d=some (A,k,m,b))(i:FC s B h v l)(hs:s.size=k)(hx:BY env f=some v)(hy:BY env K=some (.int sz p))
 (j:0≤p)(o:p<l.length):DP P env w (.indexAddr d f K) ty (.pointer (some (Bz v s.size p.toNat))):=fun _ a x t pos C g=>by
 obtain⟨r,c,rfl⟩:=i.addr G;subst hs;simp[execOp,x.eval hx,x.eval hy,LD ht j o,Bz]
end
def _root_.Go.Value.rowOf:Value→Option Nat
 | .slice (some a) _ c=>bif Nat.beq c 0 then none else some a.block
 |_=>none
theorem Bh{a:Addr}{c:Nat}(h:0<c):(Value.slice (some a) n c).rowOf=some a.block:=by
 have f:Nat.beq c 0=false:=by
  cases f:Nat.beq c 0 with
  |false=>rfl
  |true=>have:=Aai f;omega
 simp only[Value.rowOf,f,Ahl]
theorem Iq{A:Option Addr}:(Value.slice A n 0).rowOf=none:=by cases A<;>rfl
def CJ(w:World)(base:Nat)(e:TypeId)(size:Nat)(v:Value)(n:Nat)(xs:List Value):Prop:=
 xs.length=n*size∧
 ((n=0∧∃A,v= .slice A 0 0)∨
  ∃g cap f i,v= .slice (some ⟨g,0,none⟩) n cap∧base≤g∧w.heap[g]?=some (.cells f e i)∧(i.1<i.2→f.size≤i.1)∧n≤cap∧cap≤maxLen∧f.size=cap*size∧f.toList.take (n*size)=xs∧0<cap)
theorem Qs(h:∃g cap f i,a= .slice (some ⟨g,0,none⟩) n cap∧k≤g∧w.heap[g]?=some (.cells f d i)∧(i.1<i.2→f.size≤i.1)∧n≤cap∧cap≤maxLen∧f.size=cap*m∧f.toList.take (n*m)=b):
 (n=0∧∃A,a= .slice A 0 0)∨
 ∃g cap f i,a= .slice (some ⟨g,0,none⟩) n cap∧k≤g∧w.heap[g]?=some (.cells f d i)∧(i.1<i.2→f.size≤i.1)∧n≤cap∧cap≤maxLen∧f.size=cap*m∧f.toList.take (n*m)=b∧0<cap:=by
 obtain⟨g,cap,f,i,rfl,l,o,p,r,t,C,I⟩:=h;rcases Aa6 cap with j|j
 ·subst j;have:n=0:=G;subst this;exact .inl ⟨Z,_,Z⟩
 ·exact .inr ⟨g,cap,f,i,Z,l,o,p,r,t,C,I,j⟩
section
variable {w w':World} {base:Nat} {e:TypeId} {size:Nat} {v:Value} {n:Nat} {xs:List Value}
theorem CJ.nil(w:World)(base:Nat)(e:TypeId)(size:Nat):CJ w base e size (.slice none 0 0) 0 []:=⟨by simp, .inl ⟨Z,_,Z⟩⟩
theorem CJ.zero(w:World)(base:Nat)(e:TypeId)(size:Nat)(A:Option Addr):CJ w base e size (.slice A 0 0) 0 []:=⟨by simp, .inl ⟨Z,_,Z⟩⟩
theorem CJ.lt(h:CJ w base e size v n xs):∀k,v.rowOf=some k→base≤k∧k<w.heap.size:=by
 intro k O;rcases h.2 with⟨_,A,rfl⟩|⟨g,cap,j,l,rfl,i,hg,_,_,_,_,_,f⟩
 ·rw[Iq] at O;cases O
 ·rw[Bh f] at O;injection O with O;subst O;exact⟨i,(Acq.1 hg).1⟩
theorem CJ.SL(h:CJ w base e size v n xs)(O:∀k,v.rowOf=some k→w'.heap[k]?=w.heap[k]?):CJ w' base e size v n xs:=by
 refine⟨h.1,?_⟩;rcases h.2 with I|⟨g,cap,i,j,rfl,C,hg,l,o,p,r,t,f⟩
 ·exact .inl I
 exact .inr ⟨g,cap,i,j,Z,C,by rw[O g (Bh f)];exact hg,l,o,p,r,t,f⟩
theorem CJ.kept(h:CJ w base e size v n xs)(O:AZ w w'):CJ w' base e size v n xs:=h.SL fun k hv=>O.block k (h.lt k hv).2
theorem CJ.Eu(h:CJ w base e size v n xs)(l:k≤base):CJ w k e size v n xs:=by
 refine⟨h.1,?_⟩;rcases h.2 with j|⟨g,cap,f,i,rfl,o,r⟩
 ·exact .inl j
 exact .inr ⟨g,cap,f,i,Z,G,r⟩
theorem CJ.len(h:CJ w base e size v n xs):∃A c,v= .slice A n c∧n≤c∧c≤maxLen:=by
 rcases h.2 with⟨rfl,A,rfl⟩|⟨g,cap,j,l,rfl,_,_,_,f,i,_⟩
 ·exact⟨A,0,Z,by simp,by simp⟩
 ·exact⟨_,cap,Z,f,i⟩
theorem CJ.AD(h:CJ w base e size v n xs):v.oneCell'=true:=by obtain⟨A,c,rfl,_⟩:=h.len;rfl
theorem CJ.AA(h:CJ w base e size v n xs):v.cells=#[v]:=by obtain⟨A,c,rfl,_⟩:=h.len;rfl
theorem CJ.cells(h:CJ w base e size v n xs){g:Nat}(hg:v.rowOf=some g):AT w ⟨g,0,none⟩ xs:=by
 intro j u hu;rcases h.2 with⟨_,A,rfl⟩|⟨l,cap,f,i,rfl,_,p,_,_,_,_,r,o⟩
 ·rw[Iq] at hg;cases hg
 ·rw[Bh o] at hg;injection hg with hg;subst hg;rw[add_lit,Ahm w l _ f e i p];rw[←r,Ab2] at hu;split at hu
  ·simpa using hu
  ·cases hu
theorem CJ.rd{s:Shape α}(U:t.length≤140737488355328)(h:CJ w base e s.size v t.length xs)(hx:xs=css.flatten)(hc:css.length=t.length)
 (I:∀(i:Nat) cs x,css[i]?=some cs→t[i]?=some x→s.rd w.heap.size w cs x):FC s w.heap.size w v t:=by
 have J:∀cs∈css,cs.length=s.size:=by
  intro cs f;obtain⟨i,hi,rfl⟩:=Acz.1 f;exact s.len (I i css[i] (t[i]'(by omega)) (dd hi) (dd G))
 refine⟨?_,?_,?_,U⟩
 ·rcases h.2 with⟨o,A,rfl⟩|⟨g,cap,l,C,rfl,R,hg,_,p,r,_⟩
  ·exact⟨A,0,by rw[o],G,by simp,fun a f p=>by omega⟩
  refine⟨_,cap,Z,p,r,fun a f _=>?_⟩;injection f with f;subst f;exact(Acq.1 hg).1
 ·intro i x hi;have f:i<t.length:=by
   rcases Aab i t.length with f|f
   ·exact f
   rw[Aam f] at hi;cases hi
  have r:i<css.length:=G;refine⟨css[i],?_,I i _ x (dd r) hi⟩;rcases h.2 with⟨o,A,rfl⟩|⟨g,cap,l,C,rfl,R,hg,_,_,_,_,_,LF⟩
  ·omega
  have R:=h.cells (g:=g) (Bh LF);intro j u hu;simp only[Bz,add_add];refine R _ u ?_;rw[hx];have R:j<s.size:=by
   rw[←J css[i] (mv r)];rcases Aab j css[i].length with f|f
   ·exact f
   rw[Aam f] at hu;cases hu
  exact flatten_at css s.size J i r j u hu
 intro o;rcases h.2 with⟨p,_⟩|⟨g,cap,l,C,rfl,_⟩
 ·omega
 exact⟨_,_,Z⟩
where
 flatten_at:∀(css:List (List Value)) (n:Nat),(∀cs∈css,cs.length=n)→∀(i:Nat) (hi:i<css.length) (j:Nat) (u:Value),css[i][j]?=some u→css.flatten[i*n+j]?=some u
  |cs::r,n,hl,0,_,j,u,hu=>by
   have hj:j<cs.length:=by
    rcases Aab j cs.length with h'|h'
    ·exact h'
    ·simp[Aam h'] at hu
   simp only[Abc,Ac4,Abs];rw[Abh hj];simpa using hu
  |cs::r,n,hl,i+1,hi,j,u,hu=>by
   have h0:=hl cs Bb;simp only[Abc];rw[Abb (by rw[h0,Aad];omega),h0];have:(i+1)*n+j-n=i*n+j:=by rw[Aad];omega
   rw[this];exact flatten_at r n (fun c hc=>hl c (by simp[hc])) i (by simpa using hi) j u (by simpa using hu)
theorem CJ.Gl{enc:α→List Value}{ok:α→Prop}{g:∀x,(enc x).length=k}{j:∀x,∀u∈enc x,u.oneCell'=true}{l:List α}(p:l.length≤140737488355328)(h:CJ w base e k v l.length (l.flatMap enc))(o:∀x∈l,ok x):
 FC (Shape.flat k enc ok g j) w.heap.size w v l:=by
 refine CJ.rd (s:=Shape.flat k enc ok g j) (css:=l.map enc) p h (by rw[Acj]) Bb ?_;intro i cs x hi hx;rw[Aah,hx] at hi;simp at hi;exact⟨hi.symm,o x (Lx hx)⟩
end
structure Src (P:Program) (w:World) (u:TypeId) (size:Nat) (x:Value) (m:Nat) (news:List Value):Prop where
 Ar:(∃e',P.underlying u=some (.slice e'))∨P.underlying u=some .string
 lenOf:∀W:World,(Builtin.lenOf x).run P W= .ok m W
 cells:∀W:World,W.heap=w.heap→(Builtin.firstCells size m x).run P W= .ok news.toArray W
 len:news.length=m*size
 one:∀y∈news,y.oneCell'=true
section
variable {P:Program} {w:World}
theorem Aw{size:Nat}{a:Addr}{c:Nat}(hu:P.underlying d=some (.slice A))(hc:AT w a news)(hl:news.length=m*size)(g:∀y∈news,y.oneCell'=true):
 Src P w d size (.slice (some a) m c) m news:=
 ⟨.inl ⟨_,hu⟩,fun W=>by simp[Builtin.lenOf],fun W i=>Ab8 (P:=P) W size m a m c news hl (fun j y hy=>by
  have:=hc j y hy;simpa[World.cell?,i] using this),hl,g⟩
theorem vX(hu:P.underlying d=some .string):Src P w d 1 (St s) s.length (s.map fun b=>Value.int .u8 b.toNat):=
 ⟨.inr hu,fun W=>by simp[Builtin.lenOf,size_mk],fun W f=>by
  simp only[Builtin.firstCells];rw[extract_mk];simp[Acw,Sem.run],by simp,fun y hy=>by
   obtain⟨b,_,rfl⟩:=Aag.1 hy;rfl⟩
theorem Src.rd{s:Shape α}(hu:P.underlying d=some (.slice A))(h:FC s k w a t)(hc:css.length=t.length)
 (o:∀(i:Nat) cs,css[i]?=some cs→cs.length=s.size∧(∀y∈cs,y.oneCell'=true)∧Eng.AT w (Bz a s.size i) cs):Src P w d s.size a t.length css.flatten:=by
 have C:∀cs∈css,cs.length=s.size:=fun cs f=>by
  obtain⟨i,hi,rfl⟩:=Acz.1 f;exact(o i _ (dd hi)).1
 have g:∀(css:List (List Value)),(∀cs∈css,cs.length=s.size)→css.flatten.length=css.length*s.size:=by
  intro css;induction css with
  |nil=>simp
  |cons c r p=>intro h;simp[p fun x hx=>h x (by simp[hx]),h c Bb,Aad];omega
 have l:∀y∈css.flatten,y.oneCell'=true:=fun y hy=>by
  obtain⟨cs,f,hy⟩:=Afv.1 hy;obtain⟨i,hi,rfl⟩:=Acz.1 f;exact(o i _ (dd hi)).2.1 y hy
 rcases Aa6 t.length with f|f
 ·obtain⟨I,c,rfl,_⟩:=h.form;have:css=[]:=rY G;subst this;rw[f];exact⟨.inl ⟨_,hu⟩,fun W=>by simp[Builtin.lenOf],fun W J=>by cases I<;>simp[Builtin.firstCells,loadCells,loadCellsFrom],by simp,by simp⟩
 obtain⟨v,c,rfl⟩:=h.addr f;refine Aw hu ?_ (by rw[g css C,hc]) l;have key:∀(css:List (List Value)) (v:Addr),(∀cs∈css,cs.length=s.size)→(∀(i:Nat) cs,css[i]?=some cs→Eng.AT w (v.add (i*s.size)) cs)→Eng.AT w v css.flatten:=by
  intro css;induction css with
  |nil=>intro v _ _ j y hy;simp at hy
  |cons c0 r p=>
   intro v hl l j y hy;simp only[Abc] at hy;rcases Aab j c0.length with f|f
   ·rw[Abh f] at hy;have:=l 0 c0 Z j y hy;simpa[add_zero] using this
   rw[Abb f] at hy;have g:=p (v.add s.size) (fun c hc=>hl c (by simp[hc])) (fun i cs hi=>by
    have:=l (i+1) cs (by simpa using hi);rw[add_add];rwa [Aad,Aa2,Adi] at this) (j-c0.length) y hy
   rw[hl c0 Bb] at g f;rw[add_add] at g;rwa [show s.size+(j-s.size)=j by omega] at g
 exact key css v C fun i cs hi=>by simpa[Bz] using(o i cs hi).2.2
theorem ER(g o:Nat)(t:TypeId)(j:Nat×Nat):∀(vs:List Value) (i:Nat) (f:Array Value) (w:World),w.heap[g]?=some (.cells f t j)→(j.1<j.2→f.size≤j.1)→o+i+vs.length≤f.size→(∀v∈vs,v.oneCell'=true)→
 (storeCells ⟨g,o,none⟩ vs i).run P w= .ok () (w.setRow g (f.toList.take (o+i)++vs++f.toList.drop (o+i+vs.length)).toArray)
 |[],i,f,w,hg,_,_,_=>by
  simp only[storeCells,Aaz,Ace,Aeg,Aas,Array.toArray_toList];rw[setRow_self w g f t j hg];rfl
 |v::rest,i,f,w,hg,hf,hl,l=>by
  have hi:o+i<f.size:=by simp at hl;omega
  have r:w.cell? ⟨g,o+i,none⟩=some f[o+i]:=by simp[World.cell?,hg,hi]
  have C:w.frozen? ⟨g,o+i,none⟩=false:=by
   obtain⟨U,I⟩:=j;simp[World.frozen?,hg];intro l;rcases Aab U I with p|p
   ·have:=hf p;simp at this;omega
   ·omega
  have J:(store ((⟨g,o,none⟩:Addr).add i) v).run P w= .ok () (w.setRow g (f.setIfInBounds (o+i) v)):=by
   rw[add_lit,run_store P w _ v _ (l v Bb),r];simp[C,setCell_eq_setRow w g (o+i) f t j v hg]
  have R:=ER g o t j rest (i+1) (f.setIfInBounds (o+i) v) (w.setRow g (f.setIfInBounds (o+i) v)) (Agq w g f _ t _ hg) (by simpa using hf) (by simp at hl⊢;omega) (fun x hx=>l x (by simp[hx]));simp only[storeCells,Abk,J,Abd,R,setRow_setRow];congr 3;have e:=list_seg_step f.toList (o+i) v rest (by simp at hl⊢;omega);simpa[Afl,Agu] using e
theorem Ul{ty e:TypeId}(ht:JQ P d=some (e,k,i,b)){base:Nat}{xs:List Value}(p:CJ w base e k a n xs)(hs:Src P w A k y m news)
 (a7:n+m≤maxLen)(a8:(n+m)*i≤140737488355328)(b3:base≤w.heap.size):
 ∃v' w',(Builtin.append_ #[d,A] ty #[a,y]).run P w= .ok v' w'∧CJ w' base e k v' (n+m) (xs++news)∧w.grownBy w' a.rowOf∧(v'.rowOf=a.rowOf∨v'.rowOf=some w.heap.size):=by
 obtain⟨hu,f,by_,hi,o,l,r,hc,hl⟩:=DU ht;subst o;subst l;have l:n+m≤9223372036854775807:=by simp only[maxLen] at a7;omega
 have C:(xs++news).length=(n+m)*f.size:=by rw[ft,p.1,hs.len,Aad]
 have o:by_.cells.size=f.size:=by rw[hc];simpa using hl
 have grown:∀(old:Nat),old<n+m→∀(row:Option Nat),
  CJ (w.drew.alloc (.cells (xs.toArray++news.toArray++Builtin.zeroCells by_.cells (grownCap w (n+m) old e-(n+m))) e)) base e f.size
   (.slice (some ⟨w.heap.size,0,none⟩) (n+m) (grownCap w (n+m) old e)) (n+m) (xs++news)∧
  w.grownBy (w.drew.alloc (.cells (xs.toArray++news.toArray++Builtin.zeroCells by_.cells (grownCap w (n+m) old e-(n+m))) e)) row:=by
  intro old l row;have l:=Ags w (n+m) old e;have a1:grownCap w (n+m) old e≤maxLen:=Ag5 w (n+m) old e a7;refine⟨⟨C,Qs ⟨w.heap.size,_,_,(0,0),Z,b3,Aex w.drew _,fun h=>by simp at h,l,a1,?_,?_⟩⟩,⟨Z,Z,Z,by simp,fun size O _=>by rw[Agz w.drew _ size (by simpa using O)];rfl⟩⟩
  ·simp only[Ag4,Abz,Agp,o,p.1,hs.len,←Aad];congr 1;omega
  simp only[Ago,oo];rw[←oo,←C];exact Aco
 have b1:∀W:World,(zeroValue e).run P W= .ok by_ W:=fun W=>by simp[zeroValue,typeInfo,hi,r]
 rcases p.2 with⟨rfl,u,rfl⟩|⟨g,cap,r,a6,rfl,b4,hg,b0,by_,a1,b5,b7,LF⟩
 ·have hx:xs=[]:=rY (by simpa using p.1);subst hx;by_cases I:m=0
  ·subst I;have by_:news=[]:=rY (by simpa using hs.len);subst by_;refine⟨.slice u 0 0,w,?_,CJ.zero w base e f.size u,⟨Z,Z,Z,kM _,fun _ _ _=>rfl⟩, .inl Z⟩;have l:=hs.cells w Z;rcases hs.Ar with⟨J,by_⟩|by_<;>cases u<;>simp[Builtin.append_,Aaj hu,Aaj by_,sizeOf,typeInfo,hi,hs.lenOf,l,storeCells]
  have o:=grown 0 G (Value.rowOf (.slice u 0 0));simp only[Abs,Abu] at o⊢;have b6:=Ags w m 0 e;refine⟨_,_,?_,o.1,o.2, .inr (Bh G)⟩;have l:=hs.cells w.drew Z;have U:¬(9223372036854775807<(m:Int)):=G;have R:¬(281474976710656<Builtin.nextslicecap m 0*f.bytes):=by
   have:=Agr (need:=0+m) (old:=0) G a8
   simp only[Abs] at this;omega
  have b2:(Builtin.firstCells f.size 0 (.slice u 0 0)).run P w.drew= .ok #[] w.drew:=by
   cases u with
   |none=>exact Afj (P:=P) w.drew f.size 0 0 0
   |some v=>simpa using Ab8 (P:=P) w.drew f.size 0 v 0 0 [] Bb (fun j x hy=>by simp at hy)
  rcases hs.Ar with⟨J,by_⟩|by_<;>simp[Builtin.append_,Aaj hu,Aaj by_,sizeOf,typeInfo,hi,hs.lenOf,I,U,R,b1,b2,l,Question.forced,newRow,grownCap]
 by_cases I:n+m≤cap
 ·have b2:n*f.size+news.length≤r.size:=by rw[hs.len,b5,←Aad];exact WN _ I
  refine⟨_,_,?_,⟨C,Qs ⟨g,cap,_,a6,Z,b4,Agq w g r (r.toList.take (n*f.size)++news++r.toList.drop (n*f.size+news.length)).toArray e _ hg,?_,I,a1,?_,?_⟩⟩,
   ⟨Z,Z,Z,by simp,fun size _ O=>Ahb w g size _ (fun e=>O (by rw[Bh LF,e]))⟩, .inl (by rw[Bh LF,Bh LF])⟩
  ·have l:=hs.cells w Z;have a1:=ER (P:=P) g (n*f.size) e a6 news 0 r w hg b0 (by simpa using b2) hs.one;simp only[Aeg] at a1;rcases hs.Ar with⟨J,by_⟩|by_<;>simp[Builtin.append_,Aaj hu,Aaj by_,sizeOf,typeInfo,hi,hs.lenOf,I,l,add_lit,a1]
  ·intro h;have:=b0 h;simp only[Abz,ft,kL,kK,Ac7];omega
  ·simp only[Abz,ft,kL,kK,Ac7];omega
  rw[b7,←C];exact Aco
 have o:=grown cap G (Value.rowOf (.slice (some ⟨g,0,none⟩) n cap));have b6:=Ags w (n+m) cap e;refine⟨_,_,?_,o.1,o.2, .inr (Bh G)⟩;have l:=hs.cells w.drew Z;have o:=Ab8 (P:=P) w.drew f.size n ⟨g,0,none⟩ n cap xs p.1 (p.cells (g:=g) (Bh LF));have U:¬(9223372036854775807<(n:Int)+(m:Int)):=G;have R:¬(281474976710656<Builtin.nextslicecap (n+m) cap*f.bytes):=by
  have:=Agr (need:=n+m) (old:=cap) G a8
  omega
 rcases hs.Ar with⟨J,by_⟩|by_<;>simp[Builtin.append_,Aaj hu,Aaj by_,sizeOf,typeInfo,hi,hs.lenOf,I,U,R,b1,o,l,Question.forced,newRow,grownCap]<;>(rw[←Array.append_assoc];simp)
end
theorem MR(w:World)(r:Option Nat):w.grownBy w r:=⟨Z,Z,Z,kM _,fun _ _ _=>rfl⟩
theorem DY{w:World}(hg:w.grownBy w' T)(f:k≤w.heap.size)(g:∀B,T=some B→k≤B):Below k w w':=(Aar k w).grown hg f g
theorem Lb{w:World}(h:AZ w w')(r:Option Nat):w.grownBy w' r:=⟨h.os,h.tape,h.output,h.size,fun k O _=>h.block k O⟩
theorem Gt.grown{w:World}(h:Gt w k cs d)(hg:w.grownBy w' T)(f:T≠some k):Gt w' k cs d:=(hg.block k h.lt (fun e=>f e.symm)).trans h
theorem CJ.grown{w:World}(h:CJ w k d m a n b)(hg:w.grownBy w' T)(f:∀base,a.rowOf=some base→T≠some base):CJ w' k d m a n b:=
 h.SL fun base O=>hg.block base (h.lt base O).2 (fun d=>f base O d.symm)
structure kN (w w':World) (base:Nat) (e:TypeId) (size:Nat) (v v':Value) (n:Nat) (xs:List Value):Prop where
 own:CJ w' base e size v' n xs
 grown:w.grownBy w' v.rowOf
 at_:v'.rowOf=v.rowOf∨v'.rowOf=some w.heap.size
theorem kN.below{w:World}{g:List Value}(h:kN w w' k d m a y n b)(f:CJ w k d m a i g){B:Nat}(j:B≤k)(hs:B≤w.heap.size):Below B w w':=
 DY h.grown hs fun base O=>by have:=(f.lt base O).1;omega
section
variable {P:Program} {env:Env} {w:World} {ty:TypeId}
theorem Fp{e:TypeId}(ht:JQ P d=some (e,k,i,b)){base:Nat}{by_:Value}{xs:List Value}
 (hs:BY env f=some a)(hx:BY env K=some by_)(J:CJ w base e k a n xs)(R:Src P w A k by_ m news)(r:n+m≤maxLen)(I:(n+m)*i≤140737488355328)(C:base≤w.heap.size):
 Hh P env w (.call ⟨.builtin .append,#[f,K],#[d,A]⟩) ty (fun v' w'=>kN w w' base e k a v' (n+m) (xs++news)):=
 Cr fun _ v s t pos U g=>by
  obtain⟨v',w',j,l,o,p⟩:=Ul (P:=P) (w:=w) (ty:=ty) ht J R r I C;exact⟨v',w',by simp[execOp,resolve,invoke,builtin,s.eval hs,s.eval hx,j],l,o,p⟩
def la(w:World)(cs:List Value)(n:Nat)(t:TypeId)(v:Value)(w':World):Prop:=∃b,v= .slice (some ⟨b,0,none⟩) n n∧Ts w w' b cs t
def MS(j:Nat):List Value→List (Nat×Value)
 |[]=>[]
 |v::r=>(j,v)::MS (j+1) r
theorem Qt(off:Nat):∀(cs:List Value) (k:Nat) (cells:Array Value),off+k+cs.length≤cells.size→
 (cs.zipIdx k).foldl (fun(a:Array Value) (p:Value×Nat)=>a.setIfInBounds (off+p.2) p.1) cells=(cells.toList.take (off+k)++cs++cells.toList.drop (off+k+cs.length)).toArray
 |[],k,cells,h=>by simp
 |c::r,k,cells,h=>by
  simp only[List.zipIdx_cons,Afd];rw[Qt off r (k+1) _ (by simp at h⊢;omega)];have e:=list_seg_step cells.toList (off+k) c r (by simp at h⊢;omega);have f:off+(k+1)=off+k+1:=G;have g:off+k+1+r.length=off+k+(c::r).length:=by simp;omega
  rw[f];simp only[Afl];rw[e];rfl
theorem an(size:Nat):∀(vs:List Value) (j:Nat) (cells:Array Value),cells.size=(j+vs.length)*size→(∀v∈vs,v.cells.size=size)→
 Instr.fill (fun i=>some (i*size,size)) cells (MS j vs)=some (cells.toList.take (j*size)++(vs.map (·.cells.toList)).flatten).toArray
 |[],j,cells,h,_=>by
  simp only[MS,Instr.fill,List.map_nil,List.flatten_nil,Aaz];rw[vq (by simpa using Ado h)]
 |v::r,j,cells,h,hv=>by
  have f:=hv v Bb;have t:j*size+size≤cells.size:=by
   rw[h,SG];have:(j+(r.length+1))*size=j*size+size+r.length*size:=by simp[Aad];omega
   omega
  have o:¬((decide (v.cells.size≠size)||decide (j*size+v.cells.size>cells.size))=true):=by rw[f];simp;omega
  have p:(Array.foldl (fun(cs:Array Value) (x:Value×Nat)=>cs.setIfInBounds (j*size+x.snd) x.fst) cells v.cells.zipIdx)=(cells.toList.take (j*size)++v.cells.toList++cells.toList.drop (j*size+size)).toArray:=by
   rw[←Ag0,Array.toList_zipIdx];have:=Qt (j*size) v.cells.toList 0 cells (by simp[f];omega);simpa[f] using this
  simp only[MS,Instr.fill];have g:(j+1+r.length)*size=(j+(v::r).length)*size:=by
   congr 1;simp;omega
  rw[ss o,p,an size r (j+1) _ (by
   simp only[Abz,ft,kL,kK,Ac7,f];rw[g,←h];omega) (fun x hx=>hv x (by simp[hx]))]
  congr 1;have e:(j+1)*size=(cells.toList.take (j*size)++v.cells.toList).length:=by
   simp only[ft,kL,Ac7,f,Aad];omega
  rw[e];have l:(cells.toList.take (j*size)++v.cells.toList++cells.toList.drop (j*size+size)).toArray.toList.take (cells.toList.take (j*size)++v.cells.toList).length=cells.toList.take (j*size)++v.cells.toList:=by
   show List.take _ (_++_)=_
   exact Aco
  rw[l];simp
theorem Nv{parts:Array (Nat×Operand)}{vs:List Value}(ht:JQ P d=some (A,k,m,b))(hx:fu env (parts.toList.map (·.2))=some vs)
 (a6:(parts.toList.map (·.1)).zip vs=MS 0 vs)(C:vs.length=n)(a1:∀v∈vs,v.cells.size=k)(R:Nat.blt 0 (n*k)=true)(I:Nat.ble (n*k) 16777216=true):
 Hh P env w (.buildSlice d n parts) ty (la w (vs.map (·.cells.toList)).flatten n A):=
 Cr fun _ a o t pos f g=>by
  obtain⟨hu,f,j,hi,hs,J,a7,hc,hl⟩:=DU ht;subst hs;have hv:=o.SH hx;have hp:(parts.map fun(i,x)=>(i,a.eval x)).toList=MS 0 vs:=by
   rw[←a6,←hv];simp only[Array.toList_map,Acu];generalize parts.toList=l;induction l with
   |nil=>rfl
   |cons p r o=>simp only[Aci,List.zip_cons_cons,o];rfl
  have U:n*f.size≠0:=by simp[Afz] at R;omega
  have J:¬16777216<n*f.size:=by simp[Nat.ble_eq] at I;omega
  have o:Instr.fill (fun i=>some (i*f.size,f.size)) ((Array.range (n*f.size)).map (j.cells[·%j.cells.size]!)) (parts.map fun(i,x)=>(i,a.eval x)).toList=some (vs.map (·.cells.toList)).flatten.toArray:=by
   rw[hp,an f.size vs 0 _ (by simp[C]) a1];simp
  refine⟨.slice (some ⟨w.heap.size,0,none⟩) n n,w.alloc (.cells (vs.map (·.cells.toList)).flatten.toArray A),?_,w.heap.size,Z,Ts.mk' w _ A⟩;simp[execOp,Instr.buildSlice,run_underlying hu,sizeOf,typeInfo,hi,zeroValue,a7,J,U,newRow,o,-List.map_toArray,-Array.toList_map]
theorem FM(ht:JQ P d=some (A,k,m,b))(hx:BY env f=some a)(hv:a.cells=cs.toArray)(hl:cs.length=k)
 (g:Nat.blt 0 (1*k)=true)(x:Nat.ble (1*k) 16777216=true):Hh P env w (.buildSlice d 1 #[(0,f)]) ty (la w cs 1 A):=by
 have:=Nv (P:=P) (env:=env) (w:=w) (ty:=ty) (n:=1) (parts:=#[(0,f)]) (vs:=[a]) ht (by simp[fu,hx]) Z Z (by simp[hv,hl]) g x;simpa[hv] using this
theorem Wq(f:Gt w k cs d)(hi:i<cs.length)(hv:a.oneCell'=true):(store ⟨k,i,none⟩ a).run P w= .ok () (w.setCell ⟨k,i,none⟩ a):=by
 rw[run_store P w _ a _ hv,f.cell,dd hi];have:w.frozen? ⟨k,i,none⟩=false:=by unfold Gt at f;simp[World.frozen?,f]
 simp[this]
structure HL (w w':World) (b:Nat) (cs:List Value) (T:TypeId):Prop where
 AE:Gt w' b cs T
 grown:w.grownBy w' (some b)
 size:w'.heap.size=w.heap.size
theorem HL.mk'(v:Value)(f:Gt w k cs d):HL w (w.setCell ⟨k,i,none⟩ v) k (cs.set i v) d:=by
 refine⟨?_,⟨Z,Z,Z,by simp[World.setCell],fun b _ g=>Below.heap_setCell w _ v b (fun e=>g (by rw[e]))⟩,by simp[World.setCell]⟩;unfold Gt at f⊢;simp[World.setCell,Af8,f]
theorem FN(ht:FB P d=true)(hx:BY env f=some (.pointer (some ⟨k,i,none⟩)))(hy:BY env K=some a)(hv:a.cells=#[a])(l:a.oneCell'=true)(x:Gt w k cs A)(hi:Nat.blt i cs.length=true):
 Hh P env w (.store d f K) ty (fun _ w'=>HL w w' k (cs.set i a) A):=
 FL fun _ v j t pos C g=>by
  obtain⟨I,p,r⟩:=Uj ht;have o:i<cs.length:=by simpa[Afz] using hi
  have hs:=Wq (P:=P) x o l;refine⟨_,?_,HL.mk' a x (i:=i)⟩;simp only[execOp,Instr.storeAt,storeVar,j.eval hx,j.eval hy,Instr.sureAddr,Abk,Acw,Abd,sizeOf,typeInfo,program,Sem.run,p,hv,r];simp[storeCells,Addr.add,hs]
theorem NI{cs':List Value}(g:Gt w k cs d)(hl:cs'.length=cs.length)(f:∀v∈cs',v.oneCell'=true):
 (storeCells ⟨k,0,none⟩ cs').run P w= .ok () (w.setRow k cs'.toArray):=by
 have:=ER (P:=P) k 0 d (0,0) cs' 0 cs.toArray w g (fun h=>by simp at h) (by simp[hl]) f;simpa[hl] using this
theorem HL.row{cs':List Value}(f:Gt w k cs d):HL w (w.setRow k cs'.toArray) k cs' d:=
 ⟨Agq w k _ _ d _ f,⟨Z,Z,Z,by simp[World.setRow],fun b _ g=>Ahb w k b _ (fun e=>g (by rw[e]))⟩,by simp[World.setRow]⟩
theorem Ff{cs':List Value}(ht:IM P d=some n)(hx:BY env f=some (.pointer (some ⟨k,0,none⟩)))(hy:BY env K=some (.agg cs'.toArray))(x:Gt w k cs A)(hl:cs.length=n)(i:cs'.length=n)
 (l:∀v∈cs',v.oneCell'=true):Hh P env w (.store d f K) ty (fun _ w'=>HL w w' k cs' A):=
 FL fun _ a j t pos r g=>by
  obtain⟨_,C,o,p⟩:=HU (w:=w) ht;have hs:=NI (P:=P) x (by rw[i,hl]) l;refine⟨_,?_,HL.row x (cs':=cs')⟩;simp only[execOp,Instr.storeAt,storeVar,j.eval hx,j.eval hy,Instr.sureAddr,Abk,Acw,Abd,sizeOf,typeInfo,program,Sem.run,o,Value.cells,Abz,i,p];simp[hs]
theorem Po{v:Value}(ht:FB P d=true)(C:CJ w k A 1 a n b)(hi:i<n)(hx:BY env f=some (.pointer (some (Bz a 1 i))))(hy:BY env K=some v)
 (hv:v.cells=#[v])(I:v.oneCell'=true):Hh P env w (.store d f K) ty (fun _ w'=>CJ w' k A 1 a n (b.set i v)∧w.grownBy w' a.rowOf∧w'.heap.size=w.heap.size):=
 FL fun _ j r t pos x g=>by
  obtain⟨x,b0,b1⟩:=Uj ht;rcases C.2 with⟨x,e,rfl⟩|⟨x,cap,l,o,rfl,a6,hg,hf,J,R,U,a1,LF⟩
  ·omega
  have a8:i<l.size:=G;have a7:w.frozen? ⟨x,i,none⟩=false:=by
   obtain⟨b2,p⟩:=o;simp[World.frozen?,hg];intro b3;rcases Aab b2 p with p|p
   ·have:=hf p;simp at this;omega
   omega
  have hs:(store ⟨x,i,none⟩ v).run P w= .ok () (w.setCell ⟨x,i,none⟩ v):=by
   rw[run_store P w _ v _ I,Ahm w x i l A o hg];simp[a8,a7]
  refine⟨w.setCell ⟨x,i,none⟩ v,?_,⟨by simpa using C.1,Qs ⟨x,cap,l.setIfInBounds i v,o,Z,a6,?_,by simpa using hf,J,R,by simpa using U,?_⟩⟩,?_,by simp[World.setCell]⟩
  ·simp only[execOp,Instr.storeAt,storeVar,r.eval hx,r.eval hy,Instr.sureAddr,Abk,Acw,Abd,sizeOf,typeInfo,program,Sem.run,b0,hv,b1];simp only[storeCells,Bz,Acn,add_lit,Abs,Aeg];simp[storeCells,add_lit,hs]
  ·simp[World.setCell,Af8,hg]
  ·rw[Afl,Acn] at*;rw[←a1,List.take_set]
  exact⟨Z,Z,Z,by simp[World.setCell],fun base _ x=>Below.heap_setCell w _ v base (fun A=>x (by rw[Bh LF,A]))⟩
theorem hS{C:IntKind}(ht:JQ P d=some (A,k,m,b))(hx:BY env f=some (.int R p))(hy:BY env K=some (.int C p))(J:0≤p)(U:p*m≤281474976710656)(I:p≤9223372036854775807):
 Hh P env w (.makeSlice d f K) ty (fun v w'=>v= .slice (some ⟨w.heap.size,0,none⟩) p.toNat p.toNat∧CJ w' w.heap.size A k v p.toNat (replicate p.toNat b).flatten∧AZ w w'∧w'.heap.size=w.heap.size+1):=
 Cr fun _ a i t pos x g=>by
  obtain⟨hu,x,l,hi,hs,o,r,hc,hl⟩:=DU ht;subst hs o;have n:=run_make (P:=P) w d A x l hu hi r R C p p J (Int.le_refl _) (by rw[Int.mul_comm];exact U) I;refine⟨_,_,by simp only[execOp,i.eval hx,i.eval hy,Abk,n,Abd];rfl,Z,⟨?_,Qs ⟨w.heap.size,p.toNat,_,(0,0),Z,kM _,Aex w _,fun h=>by simp at h,kM _,?_,?_,?_⟩⟩,(Aar _ _).alloc (kM _) _,?_⟩
  ·have:∀(size:Nat),(replicate size b).flatten.length=size*x.size:=by
    intro size;induction size with
    |zero=>simp
    |succ size o=>simp[Abo,o,hl,Aad];omega
   exact this _
  ·simp[maxLen];omega
  ·simp[madeCells]
  ·have key:∀(size:Nat),(madeCells l.cells (size*x.size)).toList=(replicate size b).flatten:=by
    intro size;rw[hc];apply Adr;intro j;have r:(replicate size b).flatten.length=size*x.size:=by
     clear n;induction size with
     |zero=>simp
     |succ size o=>simp[Abo,o,hl,Aad];omega
    rcases Aab j (size*x.size) with i|i
    ·have l:(madeCells b.toArray (size*x.size)).toList[j]?=some (b[j%x.size]!):=by
      simp[madeCells,i,hl]
     rw[l]
     symm
     have a1:0<x.size:=by
      rcases Aa6 x.size with h|h
      ·rw[h] at i;simp at i
      exact h
     clear l n r;induction size generalizing j with
     |zero=>simp at i
     |succ size o=>
      simp only[Abo,Abc];rcases Aab j x.size with l|l
      ·rw[Abh G,Adw l];simp[l,hl]
      rw[Abb G,hl];have:=o (j-x.size) (by rw[Aad] at i;omega);rw[this];congr 2;rw[←Nat.mod_eq_sub_mod l]
    rw[Aam (by simpa[madeCells] using i),Aam (by rw[r];exact i)]
   rw[key,vq];have:∀(size:Nat),(replicate size b).flatten.length=size*x.size:=by
    intro size;induction size with
    |zero=>simp
    |succ size o=>simp[Abo,o,hl,Aad];omega
   rw[this];exact kM _
  show(w.heap.push _).size=_;simp
def AS(l:List UInt8):List Value:=l.map fun b=> .int .u8 b.toNat
theorem Ij{e:TypeId}(hs:P.underlying d=some (.slice e))(hd:P.underlying A=some .string)(i:P.underlying e=some (.int .u8))(hx:BY env f=some a)(r:CJ w k e 1 a n (AS s)):
 DP P env w (.convert d A f) ty (St s):=fun _ v p src pos x g=>by
 have x:n=s.length:=by have:=r.1;simp[AS] at this;exact this.symm
 subst x;rcases r.2 with⟨x,dst,rfl⟩|⟨t,cap,o,o,rfl,o,hg,_,_,_,_,_,LF⟩
 ·have:s=[]:=rY x;subst this;cases dst with
  |none=>
   simp only[execOp,p.eval hx,Abk,run_convert_bytes_string w d A e none 0 0 hs i hd];simp[Conv.bytesToString];rfl
  |some o=>
   have x:=Af9 (P:=P) w d A e o 0 [] hs i hd (fun j o=>absurd o Bb);simp only[Ace] at x;simp only[execOp,p.eval hx,Abk,x,Abd];simp
 have hc:=r.cells (g:=t) (Bh LF);have x:=Af9 (P:=P) w d A e ⟨t,0,none⟩ cap s hs i hd (fun j o=>by
  refine hc j _ ?_;simp[AS,o])
 simp only[execOp,p.eval hx,Abk,x,Abd];simp
end
abbrev Rd{α:Type}(s:Shape α)(w:World)(v:Value)(l:List α):Prop:=FC s w.heap.size w v l
def lb(w:World)(p:Addr)(cs:List Value):Prop:=AT w p cs∧p.block<w.heap.size
section
variable {w w' w0:World}
theorem Rd.up{s:Shape α}(h:Rd s w a t)(O:AZ w w'):Rd s w' a t:=(h.below O).mono O.size
theorem FC.up{s:Shape α}(h:FC s w.heap.size w a t)(O:AZ w w'):FC s w'.heap.size w' a t:=(h.below O).mono O.size
theorem Gt.up(h:Gt w k cs d)(O:AZ w w'):Gt w' k cs d:=h.kept O
theorem CJ.up(h:CJ w k d m a n b)(O:AZ w w'):CJ w' k d m a n b:=h.kept O
theorem lb.up{p:Addr}(h:lb w p cs)(O:AZ w w'):lb w' p cs:=⟨h.1.keep (O.block _ h.2),Aaq h.2 O.size⟩
def FY(w0 w:World):Prop:=AZ w0 w
theorem Bf(w:World):FY w w:=Aar _ _
theorem FY.up(h:FY w0 w)(O:AZ w w'):FY w0 w':=Ae8 h (O.mono h.size)
theorem FY.size(h:FY w0 w):w0.heap.size≤w.heap.size:=Below.size h
theorem Rd.el{s:Shape α}(h:Rd s w a t)(hi:i<t.length):∃cs,lb w (Bz a s.size i) cs∧s.rd w.heap.size w cs t[i]:=by
 obtain⟨cs,f,g⟩:=h.at (dd hi);exact⟨cs,⟨f,h.RX hi⟩,g⟩
theorem CX{cs':List Value}(hs:HL w w' k cs' d)(f:m≤k)(g:m≤w.heap.size):Below m w w':=
 DY hs.grown g fun b O=>by cases O;exact f
end
section
variable {P:Program} {env:Env} {w:World} {ty:TypeId}
theorem DT{p:Addr}(ht:IM P k=some n)(hx:BY env f=some (.pointer (some p)))(hc:lb w p cs)(hl:cs.length=n):DP P env w (.load k f) ty (.agg cs.toArray):=kV ht hx hc.1 hl
theorem Cc{p:Addr}(ht:FB P d=true)(hx:BY env f=some (.pointer (some p)))(hc:lb w p [a]):DP P env w (.load d f) ty a:=kU ht hx (by have:=hc.1 0 a rfl;rwa [add_zero] at this)
theorem FF{p:Addr}(ht:FB P d=true)(hx:BY env f=some (.pointer (some (p.add i))))(hc:lb w p cs)(hv:cs[i]?=some a):DP P env w (.load d f) ty a:=kU ht hx (hc.1 i a hv)
end
def Tt(B:Nat)(w:World)(b:Nat)(cs:List Value)(t:TypeId):Prop:=b<B∧Gt w b cs t
def tK(B:Nat)(w:World)(p:Addr)(cs:List Value):Prop:=AT w p cs∧p.block<B
def Tu(B:Nat)(w0 w:World):Prop:=AZ w0 w∧w0.heap.size≤B
section
variable {w w' w0:World} {B:Nat}
theorem _root_.Go.RowKit.Below.DH(h:Below B w0 w)(O:Below B w w'):Below B w0 w':=h.trans O
theorem FC.DH{s:Shape α}(h:FC s B w a t)(O:Below B w w'):FC s B w' a t:=h.below O
theorem Tt.DH(h:Tt B w k cs d)(O:Below B w w'):Tt B w' k cs d:=⟨h.1,h.2.keep O h.1⟩
theorem Tu.DH(h:Tu B w0 w)(O:Below B w w'):Tu B w0 w':=⟨Ae8 h.1 (O.mono h.2),h.2⟩
theorem Gt.fix(h:Gt w k cs d):Tt w.heap.size w k cs d:=⟨h.lt,h⟩
theorem FY.fix(h:FY w0 w):Tu w.heap.size w0 w:=⟨h,h.size⟩
theorem FC.zx{s:Shape α}(h:FC s B w a t)(hi:i<t.length):∃cs,tK B w (Bz a s.size i) cs∧s.rd B w cs t[i]:=by
 obtain⟨cs,f,g⟩:=h.at (dd hi);exact⟨cs,⟨f,h.RX hi⟩,g⟩
theorem tK.fx{p:Addr}(h:tK B w p cs)(f:B≤w.heap.size):lb w p cs:=⟨h.1,Aaq h.2 f⟩
theorem kN.Pz{g:List Value}(h:kN w w' k d m a y n b)(f:CJ w k d m a i g)(hs:k≤w.heap.size):Below k w w':=h.below f (kM _) hs
end
theorem HE:maxLen=9223372036854775807:=by simp[maxLen]
theorem FC.YE{enc:α→List Value}{ok:α→Prop}{f:∀x,(enc x).length=n}{g:∀x,∀u∈enc x,u.oneCell'=true}(h:FC (Shape.flat n enc ok f g) k w a t):∀x∈t,ok x:=by
 intro x hx;obtain⟨i,hi,rfl⟩:=Acz.1 hx;obtain⟨cs,_,j⟩:=h.at (dd hi);exact j.2
theorem CJ.ld(h:CJ w k d 1 a l.length (l.flatMap fun x=>[I x]))(f:∀x∈l,Int64 x)(g:l.length≤140737488355328):FC Cg w.heap.size w a l:=CJ.Gl g h f
def WV(P:Program)(a:Act):ResultVar→Sem Value
 | .tmp t=>pure (a.tmps.getD t undef)
 | .cell x t=>do loadVar t (←asAddr (a.tmps.getD x undef))
def FD(c:Cx)(env:Env)(w:World)(r:ResultVar)(v:Value):Prop:=∀a,Ex c.n env a→(WV c.P a r).run c.P w= .ok v w
section
variable {c:Cx} {env:Env} {w:World} {B:List (Nat×EI)} {N:EI}
theorem FD.tmp(h:look env k=some a):FD c env w (.tmp k) a:=fun v f=>by simp[WV,IL f h]
theorem DZ(ht:IM c.P m=some n)(h:look env k=some (.pointer (some ⟨i,0,none⟩)))(j:Gt w i cs d)(hl:cs.length=n):FD c env w (.cell k m) (.agg cs.toArray):=fun a l=>by
 obtain⟨f,b,hi,hs⟩:=HU (w:=w) ht;have g:=run_loadCells_list (P:=c.P) (w:=w) ⟨i,0,none⟩ cs j.AT;simp only[WV,IL l h,asAddr,Abk,Acw,Abd,loadVar,f,Afo];simp[sizeOf,typeInfo,hi,hs,←hl,g]
theorem IR(ht:FB c.P m=true)(h:look env k=some (.pointer (some ⟨n,i,none⟩)))(f:Gt w n cs d)(hv:cs[i]?=some a):FD c env w (.cell k m) a:=fun v g=>by
 simp only[WV,IL g h,asAddr,Abk,Acw,Abd,loadVar,Pn ht];simp[f.cell,hv]
theorem Jt(P:Program)(fn:Func)(a:Act):results fn a.tmps=(do let vs←fn.results.mapM (WV P a);pure (if h:vs.size=1 then vs[0] else .tuple vs)):=by
 have e:(fun(r:ResultVar)=>(match r with| .tmp t=>pure (a.tmps.getD t undef)| .cell x t=>do loadVar t (←asAddr (a.tmps.getD x undef)):Sem Value))=WV P a:=by funext r;cases r<;>rfl
 unfold results;rw[←e];rfl
theorem FH{r:ResultVar}(l:c.Wp=#[r])(h:FD c env w r a)(g:c.S a w)(j:Ef env=some (.tuple #[]):=by rfl):WC c B .ret env w N:=fun v f=>
 Aff ⟨w,Io f j,a,fun fn i=>by rw[Jt c.P,i,l];simp[h v f],g⟩
theorem DI{j l:ResultVar}(I:c.Wp=#[j,l])(o:FD c env w j a)(p:FD c env w l y)(r:c.S (.tuple #[a,y]) w)(C:Ef env=some (.tuple #[]):=by rfl):WC c B .ret env w N:=fun g f=>
 Aff ⟨w,Io f C, .tuple #[a,y],fun fn t=>by rw[Jt c.P,t,I];simp[o g f,p g f],r⟩
theorem Ml{l o p:ResultVar}{j:Value}(U:c.Wp=#[l,o,p])(r:FD c env w l a)(t:FD c env w o y)(C:FD c env w p j)(I:c.S (.tuple #[a,y,j]) w)(R:Ef env=some (.tuple #[]):=by rfl):WC c B .ret env w N:=fun g f=>
 Aff ⟨w,Io f R, .tuple #[a,y,j],fun fn J=>by rw[Jt c.P,J,U];simp[r g f,t g f,C g f],I⟩
end
theorem lf{env:Env}{e:TypeId}{sz:IntKind}{z c:Nat}(ht:JQ H A=some (e,k,m,b))(hx:BY env f=some (.slice (some ⟨z,0,none⟩) n c))(hy:BY env K=some (.int sz p))
 (j:0≤p)(l:p<n):DP H env w (.indexAddr A f K) d (.pointer (some ⟨z,p.toNat*k,none⟩)):=fun _ a x ty pos o g=>by
 simp[execOp,x.eval hx,x.eval hy,LD ht j l,add_lit]
section
variable {P:Program} {ops:Array Oper} {md:Region.Mode} {C:World→Prop} {Qjq:Exit→Act→World→Prop} {ro:Option Nat}
def RY(ro:Option Nat)(P:Program)(md:Region.Mode)(ops:Array Oper)(C:World→Prop)(wild:Nat→Bool)(Qjq:Exit→Act→World→Prop):Nat→Array Bool→Act→World→Prop
 |0,f,a,w=>Region.ready md ops f=[]∧Qjq .normal a w
 |j+1,f,a,w=>
  (Region.ready md ops f=[]→Qjq .normal a w)∧
  ∀i∈Region.ready md ops f,wpOpIn (FW ro) 0 P ops Qjq i (fun g w'=>(wild i=false→C w→C w')∧RY ro P md ops C wild Qjq j (f.setIfInBounds i true) g w') a w
theorem PA{wild:Nat→Bool}:∀(f:Nat) (g:Array Bool) (a:Act) (w:World),RY ro P md ops C wild Qjq f g a w→wpAnyIn (FW ro) 0 P md ops Qjq f g a w
 |0,_,_,_,h=>h
 |f+1,g,a,w,h=>⟨h.1,fun i hi=>Afs (fun j w' l=>PA f _ j w' l.2) (h.2 i hi)⟩
def FO(P:Program)(ops:Array Oper)(C:World→Prop)(o:Oper)(v:Value)(a:Act):Prop:=
 (Region.wanted o (yielded ops a.tmps)=true∧∀w,C w→(execOp a.eval o).run P w= .ok (.value v) w)∨(Region.wanted o (yielded ops a.tmps)=false∧v=undef)
theorem FO.of_same{o:Oper}{v f:Act}(hy:FO P ops C o a v)(g:execOp f.eval o=execOp v.eval o)(i:Region.wanted o (yielded ops f.tmps)=Region.wanted o (yielded ops v.tmps)):FO P ops C o a f:=by
 unfold FO at*;rw[g,i];exact hy
theorem FO.wpOp{o:Oper}{v:Act}(hi:ops[i]?=some o)(hy:FO P ops C o a v)(hC:C w){K:Act→World→Prop}(h:K (v.put o.dst a) w):wpOpIn (FW ro) 0 P ops Qjq i K v w:=by
 unfold Go.wpOpIn;simp only[hi];rcases hy with⟨f,hv⟩|⟨f,rfl⟩
 ·rw[zm f];exact JO (hv w hC) h
 ·rw[ss (by simp[f])];exact⟨fun _ _=>trivial,h⟩
theorem lg{F:Fence}{o:Oper}{v:Act}{dst:Option Tmp}{K:Act→World→Prop}(hp:∀i v w,¬Qjq (.panic i) v w)(I:∀v w,¬Qjq .outgrown v w)
 (C:∀d,dst=some d→o.dst≠some d){r:Result Next}(h:o.uponIn F 0 P (v.put dst a) K Qjq r):o.uponIn F 0 P v (fun p w'=>(∃u ds,p=({v with defers:=ds}.put o.dst u))∧K (p.put dst a) w') Qjq r:=by
 have comm:∀u,((v.put dst a).put o.dst u)=(v.put o.dst u).put dst a:=fun u=>Act.put_comm v a u C;cases r with
 |ok R w'=>
  cases R<;>simp only[Oper.uponIn] at h⊢
  case value u=>exact⟨⟨u,v.defers,Z⟩,by rw[←comm];exact h⟩
  case skip=>exact⟨⟨undef,v.defers,Z⟩,by rw[←comm];exact h⟩
  case defer d=>
   refine⟨⟨undef,d::v.defers,Z⟩,?_⟩;have:=Act.put_comm {v with defers:=d::v.defers} a undef C;rw[←this];have e:({v with defers:=d::v.defers}:Act).put dst a={v.put dst a with defers:=d::(v.put dst a).defers}:=by cases dst<;>rfl
   rw[e];exact h
  case enter f args=>
   refine⟨h.1,Agc h.2 ?_⟩;intro e w'' g;cases e with
   |returned u=>exact⟨⟨u,v.defers,Z⟩,by rw[←comm];exact g⟩
   |panicked i=>exact(hp _ _ _ g).elim
   |outgrown=>obtain⟨J,w0,j⟩:=g;exact(I _ _ j).elim
  case row row args=>exact⟨h.1,Agt h.2 fun u w'' g=>⟨⟨u,v.defers,Z⟩,by rw[←comm];exact g⟩⟩
  case round l f t U b1=>
   refine⟨h.1,Aga h.2 ?_⟩;intro e w'' g;cases e with
   |returned u=>exact⟨⟨u,v.defers,Z⟩,by rw[←comm];exact g⟩
   |panicked i=>exact(hp _ _ _ g).elim
   |outgrown=>obtain⟨J,w0,j⟩:=g;exact(I _ _ j).elim
  all_goals exact h
 |halt x w'=>cases x<;>simp only[Oper.uponIn] at h⊢<;>first|exact h|exact(hp _ _ _ h).elim
theorem hT(ro:Option Nat)(o:Oper)(hs:∀cs b,o.op≠ .select cs b)(a:Act)(dst:Option Tmp)(v:Value)(h:∀d,dst=some d→d∉o.looksAt ops):o.semAt ro (a.put dst v).eval=o.semAt ro a.eval:=by
 have f:=execOp_put o hs a dst v h;cases ro with
 |none=>exact f
 |some l=>
  obtain⟨p,op,ty,pos,j,g⟩:=o;cases op with
  |defer c=>
   have e:=resolve_congr (ρ:=(a.put dst v).eval) (ρ':=a.eval) c ty (fun x hx=>Act.eval_put fun d hd i=>h d hd (by
    subst i;exact Abj _ (List.mem_filterMap.2 ⟨.tmp d,by simpa[Op.operands] using hx,Z⟩)))
   simp only[Oper.semAt,e]
  |_=>exact f
theorem wpOp_put{f g:Oper}(R:ops[k]?=some g)(J:f.apart ops g=true)(a1:∀cs b,f.op≠ .select cs b)(a6:∀cs b,g.op≠ .select cs b)
 (hp:∀I v w,¬Qjq (.panic I) v w)(U:∀v w,¬Qjq .outgrown v w){K:Act→World→Prop}{v:Act}(hy:FO P ops C f a v)(h:wpOpIn (FW ro) 0 P ops Qjq k K (v.put f.dst a) w):
 wpOpIn (FW ro) 0 P ops Qjq k (fun l w'=>FO P ops C f a l∧K (l.put f.dst a) w') v w:=by
 obtain⟨i,p,o⟩:=Oper.apart_spec J;have keep:∀(v:Act),FO P ops C f a v→∀u,FO P ops C f a (v.put g.dst u):=fun v hy u=>hy.of_same (execOp_put f a1 v g.dst u o) (wanted_put f v g.dst u o);have a7:∀(v:Act) (ds:List Deferred),FO P ops C f a v→FO P ops C f a {v with defers:=ds}:=fun v ds hy=>by
  have e:({v with defers:=ds}:Act).eval=v.eval:=by funext x;cases x<;>rfl
  exact hy.of_same (by rw[e]) Z
 unfold wpOpIn at*;simp only[R] at*;rw[wanted_put g v f.dst a i] at h;split
 ·rename_i o;rw[zm o] at h;refine⟨fun _ _=>trivial,?_⟩;have t:=h.2;rw[hT _ g a6 v f.dst a i] at t;have:=lg hp U p t;generalize(g.semAt (FW ro).round v.eval).run P w=r at this⊢;have mono:∀{K i:Act→World→Prop} (hK:∀l w',K l w'→i l w'),g.uponIn (FW ro) 0 P v K Qjq r→g.uponIn (FW ro) 0 P v i Qjq r:=by
   intro K i hK hh;cases r with
   |ok i w'=>
    cases i<;>simp only[Oper.uponIn] at hh⊢<;>first
     |exact hK _ _ hh
     |exact⟨hh.1,Agc hh.2 (fun e w'' i=>by cases e<;>first|exact hK _ _ i|exact i)⟩
     |exact⟨hh.1,Agt hh.2 (fun _ _ i=>hK _ _ i)⟩
     |exact⟨hh.1,Aga hh.2 (fun e w'' i=>by cases e<;>first|exact hK _ _ i|exact i)⟩
     |exact hh
   |halt x w'=>cases x<;>simp only[Oper.uponIn] at hh⊢<;>exact hh
  refine mono ?_ this;rintro l w' ⟨⟨u,ds,rfl⟩,O⟩;exact⟨keep _ (a7 v ds hy) u,O⟩
 rename_i o;rw[ss o] at h;exact⟨fun _ _=>trivial,keep v hy _,by rw[←Act.put_comm v a undef p];exact h.2⟩
theorem KK{wild:Nat→Bool}{I:Oper}{Ci:World→Prop}(hi:ops[i]?=some I)(a7:∀(j:Nat) (o:Oper) cs b,ops[j]?=some o→o.op≠ .select cs b)
 (hp:∀a8 v w,¬Qjq (.panic a8) v w)(b4:∀v w,¬Qjq .outgrown v w)(b0:Ci=C∨Ci=fun _=>True)(b7:wild i=false):
 ∀(J:Nat) (f:Array Bool) (v:Act) (w:World),
  (∀j t,ops[j]?=some t→j≠i→f.getD j true=false→(∀e∈t.after,Region.binds md e=true→e.on≠i)→I.apart ops t=true∧(Ci=(fun _=>True)∨wild j=false))→
  i∈Region.ready md ops f→FO P ops Ci I a v→Ci w→
  RY ro P md ops C wild Qjq J (f.setIfInBounds i true) (v.put I.dst a) w→RY ro P md ops C wild Qjq (J+1) f v w:=by
 intro J;induction J with
 |zero=>
  intro f v w _ r hy hC H;refine⟨fun h=>(by rw[h] at r;cases r),fun j l=>?_⟩;by_cases g:j=i
  ·subst g;exact hy.wpOp hi hC ⟨fun _ h=>h,H⟩
  have:=ready_mono l g;rw[H.1] at this;cases this
 |succ J b6=>
  intro f v w a1 r hy hC H;refine⟨fun h=>(by rw[h] at r;cases r),fun j l=>?_⟩;by_cases g:j=i
  ·subst g;exact hy.wpOp hi hC ⟨fun _ h=>h,H⟩
  have p:=H.2 j (ready_mono l g);obtain⟨a6,t,R,U⟩:=mem_ready.1 l;have b3:∀e∈t.after,Region.binds md e=true→e.on≠i:=fun e b1 l b2=>by
   have p:=U e b1 l;have U:=(mem_ready.1 r).1;rw[b2] at p;rcases Aab i f.size with l|l
   ·simp[l] at U p;rw[U] at p;cases p
   simp[Ad6 l] at p
  obtain⟨b1,b5⟩:=a1 j t R g a6 b3;have U:=wpOp_put R b1 (fun cs b=>a7 i I cs b hi) (fun cs b=>a7 j t cs b R) hp b4 hy p;have b1:∀k ok,ops[k]?=some ok→k≠i→(f.setIfInBounds j true).getD k true=false→
   (∀e∈ok.after,Region.binds md e=true→e.on≠i)→I.apart ops ok=true∧(Ci=(fun _=>True)∨wild k=false):=fun k ok O p R b2=>by
   refine a1 k ok O p ?_ b2;by_cases p:j=k
   ·subst p;exact a6
   rw[getD_set_ne true p] at R;exact R
  refine Afs (fun R w' p=>⟨p.2.1,b6 (f.setIfInBounds j true) R w' b1 (ready_mono r (Ne.symm g)) p.1 ?_ ?_⟩) U
  ·rcases b0 with h|h
   ·rcases b5 with l|l
    ·rw[l];trivial
    rw[h] at hC⊢;exact p.2.1 l hC
   rw[h];trivial
  rw[Array.setIfInBounds_comm _ _ g];exact p.2.2
def RZ(md:Region.Mode)(ops:Array Oper)(Ar:List Nat):List Nat→Array Bool→Bool
 |[],f=>(Region.ready md ops f).isEmpty
 |i::is,f=>
  (match Ar[i]? with
   |some 0=>(Region.ready md ops f).contains i&&Region.free md ops f i
   |some 1=>(Region.ready md ops f).contains i&&Region.free md ops f i&&
    (match ops[i]? with
     |none=>false
     |some _=>(List.range ops.size).all fun j=>j==i||f.getD j true||match ops[j]? with
      |some g=>g.after.any (fun e=>Region.binds md e&&e.on==i)||Ar[j]? !=some 3
      |none=>true)
   |some 2=>(match Region.ready md ops f with|[j]=>j==i|_=>false)
   |some 3=>(match Region.ready md ops f with|[j]=>j==i|_=>false)
   |_=>false)&&RZ md ops Ar is (f.setIfInBounds i true)
def IT(ro:Option Nat)(P:Program)(ops:Array Oper)(C:World→Prop)(Ar:List Nat)(Qjq:Exit→Act→World→Prop):List Nat→Act→World→Prop
 |[],a,w=>Qjq .normal a w
 |i::is,a,w=>match ops[i]? with
  |none=>False
  |some o=>match Ar[i]? with
   |some 0=>∃v,FO P ops (fun _=>True) o v a∧IT ro P ops C Ar Qjq is (a.put o.dst v) w
   |some 1=>C w∧∃v,FO P ops C o v a∧IT ro P ops C Ar Qjq is (a.put o.dst v) w
   |some 2=>wpOpIn (FW ro) 0 P ops Qjq i (fun f w'=>(C w→C w')∧IT ro P ops C Ar Qjq is f w') a w
   |some 3=>wpOpIn (FW ro) 0 P ops Qjq i (fun f w'=>IT ro P ops C Ar Qjq is f w') a w
   |_=>False
theorem Lc(Ar:List Nat)(r:Region.noSelect ops=true)(hp:∀a6 a w,¬Qjq (.panic a6) a w)(p:∀a w,¬Qjq .outgrown a w):
 ∀(is:List Nat) (t:Array Bool) (a:Act) (w:World),RZ md ops Ar is t=true→IT ro P ops C Ar Qjq is a w→RY ro P md ops C (fun j=>Ar[j]?==some 3) Qjq is.length t a w
 |[],t,a,w,R,h=>⟨by simpa[RZ] using R,h⟩
 |i::is,t,a,w,R,h=>by
  simp only[RZ,kg] at R;obtain⟨f,U⟩:=R;unfold IT at h;cases hi:ops[i]? with
  |none=>rw[hi] at h;exact h.elim
  |some o=>
   rw[hi] at h;simp only at h;split at h
   ·rename_i O;rw[O] at f;simp only[kg] at f;obtain⟨v,hy,hK⟩:=h;refine KK (Ci:=fun _=>True) hi (fun j o cs b g=>Afg r j o cs b g) hp p (.inr Z) (by simp[O]) is.length t a w ?_ (by simpa using f.1) hy trivial (Lc Ar r hp p is _ _ _ U hK);intro j l g I a1 J;exact⟨Af5 hi f.2 j l g I a1 J, .inl Z⟩
   ·rename_i O;rw[O] at f;simp only[kg,hi,Aae,Aax] at f;obtain⟨hC,v,hy,hK⟩:=h;refine KK (Ci:=C) hi (fun j o cs b g=>Afg r j o cs b g) hp p (.inl Z) (by simp[O]) is.length t a w ?_ (by simpa using f.1.1) hy hC (Lc Ar r hp p is _ _ _ U hK);intro j l g I a1 J;refine⟨Af5 hi f.1.2 j l g I a1 J, .inr ?_⟩;have l:=f.2 j (Acq.1 g).1;simp only[g,Aa3,Ad1,I,false_or,a1,Ad5] at l;rcases l with l|l
    ·obtain⟨e,I,g⟩:=Array.any_eq_true'.1 l;simp only[kg,Ad1] at g;exact absurd g.2 (J e I g.1)
    simpa using l
   ·rename_i O;rw[O] at f;simp only at f;split at f
    ·rename_i j I;have:j=i:=by simpa using f
     subst this;refine⟨fun g=>(by rw[I] at g;cases g),fun k l=>?_⟩;rw[I] at l;have:k=j:=by simpa using l
     subst this;exact Afs (fun a1 w' J=>⟨fun _=>J.1,Lc Ar r hp p is _ _ _ U J.2⟩) h
    cases f
   ·rename_i O;rw[O] at f;simp only at f;split at f
    ·rename_i j I;have:j=i:=by simpa using f
     subst this;refine⟨fun g=>(by rw[I] at g;cases g),fun k l=>?_⟩;rw[I] at l;have:k=j:=by simpa using l
     subst this;exact Afs (fun a1 w' J=>⟨fun g=>by simp[O] at g,Lc Ar r hp p is _ _ _ U J⟩) h
    cases f
   exact h.elim
end
section
variable {c:Cx} {B:List (Nat×EI)} {env:Env} {w:World} {N:EI} {ops:Array Oper} {C:World→Prop} {Ar:List Nat} {is:List Nat}
def WD(c:Cx)(B:List (Nat×EI))(ops:Array Oper)(C:World→Prop)(Ar:List Nat)(is:List Nat)(env:Env)(w:World)(N:EI):Prop:=
 ∀a,Ex c.n env a→IT c.Yz c.P ops C Ar (QQ c B N) is a w
theorem Fq(C:World→Prop)(Ar is:List Nat)(i:c.P.follows .mixedOrders=true)(f:(Region.noSelect ops&&Nat.beq is.length ops.size&&RZ .any ops Ar is (Array.replicate ops.size false))=true)
 (h:WD c B ops C Ar is env w.drew N):WC c B (.region k ops true) env w N:=fun a l=>by
 simp only[kg] at f;have g:is.length=ops.size:=Aai f.1.2;refine wpIn_region_any i (PA (C:=C) (wild:=fun j=>Ar[j]?==some 3) _ _ _ _ ?_);rw[←g];exact Lc Ar f.1.1 (fun _ _ _ h=>h) (fun _ _ h=>h) is _ _ _ (by rw[g];exact f.2) (h a l)
theorem AP(h:N env w):WD c B ops C Ar [] env w N:=fun a f=>⟨env,f,h⟩
theorem OH{op:Op}{ty:Option Nat}{f:Array Edge}{a:Act}{K:Act→World→Prop}(hi:ops[i]?=some ⟨ty,op,d,v,f,g⟩)(hg:CF ops env g=true)
 (j:Ex c.n env a)(l:Hh c.P env w op d r)(hK:∀pos w',r pos w'→K (a.put ty pos) w'):wpOpIn (FW c.Yz) 0 c.P ops (QQ c B N) i K a w:=by
 unfold wpOpIn;simp only[hi];rw[zm (KS (o:=⟨ty,op,d,v,f,g⟩) j hg)];exact l c.n a j _ _ _ _ _ _ _ hK
theorem Qu{op:Op}{ty:Nat}{pos:String}{j:Array Edge}(hi:ops[i]?=some ⟨some ty,op,d,pos,j,g⟩)(O:Ar[i]?=some 0)(hg:CF ops env g=true)
 (h:∀W,DP c.P env W op d a)(hd:Nat.blt ty c.n=true)(next:WD c B ops C Ar is ((ty,a)::env) w N):WD c B ops C Ar (i::is) env w N:=fun v f=>by
 unfold IT;simp only[hi,O];exact⟨a, .inl ⟨KS (o:=⟨some ty,op,d,pos,j,g⟩) f hg,fun W _=>h W c.n v f _ _ _ _⟩,next _ (f.put hd a)⟩
theorem ao{op:Op}{ty:Nat}{pos:String}{j:Array Edge}(hi:ops[i]?=some ⟨some ty,op,d,pos,j,g⟩)(O:Ar[i]?=some 1)(hg:CF ops env g=true)(hC:C w)
 (h:∀W,C W→DP c.P env W op d a)(hd:Nat.blt ty c.n=true)(next:WD c B ops C Ar is ((ty,a)::env) w N):WD c B ops C Ar (i::is) env w N:=fun v f=>by
 unfold IT;simp only[hi,O];exact⟨hC,a, .inl ⟨KS (o:=⟨some ty,op,d,pos,j,g⟩) f hg,fun W l=>h W l c.n v f _ _ _ _⟩,next _ (f.put hd a)⟩
theorem px{op:Op}{ty:Nat}(hi:ops[i]?=some ⟨some ty,op,d,v,o,g⟩)(O:Ar[i]?=some 2)(hg:CF ops env g=true)
 (h:Hh c.P env w op d r)(hd:Nat.blt ty c.n=true)(next:∀pos w',r pos w'→(C w→C w')∧WD c B ops C Ar is ((ty,pos)::env) w' N):WD c B ops C Ar (i::is) env w N:=fun a j=>by
 unfold IT;simp only[hi,O];exact OH hi hg j h fun pos w' f=>⟨(next pos w' f).1,(next pos w' f).2 _ (j.put hd pos)⟩
theorem Kb{op:Op}(hi:ops[i]?=some ⟨none,op,d,v,o,g⟩)(O:Ar[i]?=some 2)(hg:CF ops env g=true)
 (h:Hh c.P env w op d r)(next:∀pos w',r pos w'→(C w→C w')∧WD c B ops C Ar is env w' N):WD c B ops C Ar (i::is) env w N:=fun a j=>by
 unfold IT;simp only[hi,O];exact OH hi hg j h fun pos w' f=>⟨(next pos w' f).1,(next pos w' f).2 _ j⟩
theorem lh{op:Op}(hi:ops[i]?=some ⟨none,op,d,v,o,g⟩)(O:Ar[i]?=some 3)(hg:CF ops env g=true)
 (h:Hh c.P env w op d r)(next:∀pos w',r pos w'→WD c B ops C Ar is env w' N):WD c B ops C Ar (i::is) env w N:=fun a f=>by
 unfold IT;simp only[hi,O];exact OH hi hg f h fun pos w' l=>next pos w' l _ f
end
def Iter(w:World)(b:Nat)(l:List UInt8)(pos:Nat):Prop:=w.heap[b]?=some (.stringIter ⟨l.toArray⟩ pos)
def Um(l:List UInt8)(pos:Nat):Value:=if pos<l.length then .tuple #[.bool true,I pos, .int .i32 (l.getD pos 0).toNat] else .tuple #[.bool false]
section
variable {P:Program} {env:Env} {w:World} {ty:TypeId}
theorem Iter.lt(h:Iter w k s m):k<w.heap.size:=by
 rcases Aab k w.heap.size with f|f
 ·exact f
 ·unfold Iter at h;rw[Ad6 f] at h;cases h
theorem Pp(ht:P.underlying d=some .string)(hx:BY env f=some (St s)):
 Hh P env w (.range d f) ty (fun v w'=>AZ w w'∧∃b,v= .pointer (some ⟨b,0,none⟩)∧b=w.heap.size∧Iter w' b s 0):=
 Cr fun _ a x t pos i g=>⟨.pointer (some ⟨w.heap.size,0,none⟩),w.alloc (.stringIter ⟨s.toArray⟩ 0),by
  simp only[execOp,Instr.range,x.eval hx,Abk,Aaj ht,Abd,Acw,newObj,Sem.run];rfl,(Aar _ _).alloc (kM _) _,w.heap.size,Z,Z,Aex w _⟩
theorem Qv(hx:BY env f=some (.pointer (some ⟨k,0,none⟩)))(hi:Iter w k s m)(o:∀c∈s,c.toNat<128):
 Hh P env w (.next f true) ty (fun v w'=>w.grownBy w' (some k)∧v=Um s m∧(m<s.length→Iter w' k s (m+1))):=
 Cr fun _ a j d p C g=>by
  unfold Iter at hi;by_cases hp:m<s.length
  ·have x:m<(⟨s.toArray⟩:ByteArray).size:=by rw[size_mk];exact hp
   have i:(⟨s.toArray⟩:ByteArray)[m]'x=s[m]:=rfl;have hd:=decode_ascii ⟨s.toArray⟩ m x (by rw[i];exact o _ (mv hp));refine⟨_,{w with heap:=w.heap.setIfInBounds k (.stringIter ⟨s.toArray⟩ (m+1))},?_,⟨Z,Z,Z,by simp,fun b _ t=>?_⟩,Z,fun _=>?_⟩
   ·simp[execOp,Instr.next,j.eval hx,hi,x,hd,Um,hp,getObj,setObj,Sem.run,goInt,i]
   ·have:k≠b:=fun e=>t (by rw[e]);simp[Aew this]
   unfold Iter;have r:k<w.heap.size:=(Acq.1 hi).1;simp[r]
  have x:¬m<(⟨s.toArray⟩:ByteArray).size:=by rw[size_mk];exact hp
  refine⟨_,w,?_,MR _ _,Z,fun h=>absurd h hp⟩;simp[execOp,Instr.next,j.eval hx,hi,x,Um,hp,getObj,Sem.run]
theorem li(hx:BY env f=some (Um s k)):DP P env w (.extract f 0) ty (.bool (decide (k<s.length))):=fun _ a x d p i g=>by
 by_cases hp:k<s.length<;>simp[execOp,Instr.extract,x.eval hx,Um,hp]
theorem sa(hx:BY env f=some (Um s k))(hp:k<s.length):DP P env w (.extract f 2) ty (.int .i32 s[k].toNat):=fun _ a x d p i g=>by
 simp[execOp,Instr.extract,x.eval hx,Um,hp]
end
def lj(P:Program)(t:TypeId):Option Nat:=
 match P.underlying t with
 |some (.int _)=>some 0
 |some .bool=>some 1
 |some .string=>some 2
 |_=>none
def Ju(P:Program):Nat→List Field→Option (List Nat)
 |_,[]=>some []
 |i,f::r=>match lj P f.type,Ju P (i+1) r with
  |some k,some ks=>bif f.name != "_"&&Nat.beq f.offset i then some (k::ks) else none
  |_,_=>none
def fy(P:Program)(t:TypeId):Option (List Nat):=
 bif P.stoodInHeld t||P.eqGuardType P.depth t then none else
 match P.underlying t with
 |some (.struct f)=>Ju P 0 f.toList
 |_=>none
def Un:Value→Value→Bool
 | .int _ a, .int _ b=>decide (a=b)
 | .bool a, .bool b=>a==b
 | .string a, .string b=>a.toList==b.toList
 |_,_=>false
def MT:List Value→List Value→Bool
 |x::xs,y::ys=>Un x y&&MT xs ys
 |_,_=>true
def Kt:List Nat→List Value→List Value→Bool
 |[],[],[]=>true
 |0::ks, .int _ _::xs, .int _ _::ys=>Kt ks xs ys
 |1::ks, .bool _::xs, .bool _::ys=>Kt ks xs ys
 |2::ks, .string _::xs, .string _::ys=>Kt ks xs ys
 |_,_,_=>false
section
variable {P:Program} {env:Env} {w:World} {ty:TypeId}
theorem Sa(d:Nat)(t:TypeId)(k:IntKind)(f i:IntKind)(a b:Int)(g:f=k)(h:P.underlying t=some (.int i)):(Op.equalIn (d+1) t (.int f a) (.int k b)).run P w= .ok (decide (a=b)) w:=by
 subst g;simp[Op.equalIn,Aaj h];rfl
def GW:List Value→List Value→Prop
 | .int k _::xs, .int f _::ys=>k=f∧GW xs ys
 |_::xs,_::ys=>GW xs ys
 |_,_=>True
theorem Qw:∀(p:List Field) (i:Nat) (ks:List Nat) (xs ys pre j:List Value),Ju P i p=some ks→Kt ks xs ys=true→GW xs ys→pre.length=i→j.length=i→
 (Op.eqFields 9999 (pre++xs).toArray (j++ys).toArray p).run P w= .ok (MT xs ys) w
 |[],i,ks,xs,ys,pre,j,hf,O,_,_,_=>by
  simp[Ju] at hf;subst hf;cases xs<;>cases ys<;>simp[Kt] at O
  simp[Op.eqFields,MT]
 |f::r,i,ks,xs,ys,pre,j,hf,O,hs,hp,C=>by
  unfold Ju at hf;split at hf
  ·rename_i k l g U;cases o:(f.name != "_"&&Nat.beq f.offset i) with
   |false=>rw[o] at hf;simp at hf
   |true=>
    rw[o] at hf;simp at hf;subst hf;simp only[kg,bne_iff_ne,ne_eq] at o;have Hs:f.offset=i:=Aai o.2;have t:(isAgg f.type).run P w= .ok false w:=by
     unfold lj at g;split at g
     ·rename_i _ hu;simp[isAgg,underlying,program,Sem.run,hu]
     ·rename_i hu;simp[isAgg,underlying,program,Sem.run,hu]
     ·rename_i hu;simp[isAgg,underlying,program,Sem.run,hu]
     ·cases g
    match l,xs,ys,k,g with
    |l,x::xs,y::ys,k,g=>
     have a1:(part f.type (pre++x::xs).toArray f.offset).run P w= .ok x w:=by
      have:(pre++x::xs)[f.offset]?=some x:=by rw[Hs,←hp];simp
      simp[part,t,this]
     have a6:(part f.type (j++y::ys).toArray f.offset).run P w= .ok y w:=by
      have:(j++y::ys)[f.offset]?=some y:=by rw[Hs,←C];simp
      simp[part,t,this]
     have step:Kt l xs ys=true∧GW xs ys∧(Op.equalIn 9999 f.type x y).run P w= .ok (Un x y) w:=by
      unfold lj at g;split at g
      ·rename_i t hu;simp at g;subst g;cases x<;>cases y<;>simp[Kt] at O
       simp only[GW] at hs;exact⟨O,hs.2,Sa 9998 _ _ _ _ _ _ hs.1 hu⟩
      ·rename_i hu;simp at g;subst g;cases x<;>cases y<;>simp[Kt] at O
       simp only[GW] at hs;exact⟨O,hs,run_equalIn_bool' w 9998 _ _ _ hu⟩
      ·rename_i hu;simp at g;subst g;cases x<;>cases y<;>simp[Kt] at O
       simp only[GW] at hs;exact⟨O,hs,run_equalIn_string w 9998 _ _ _ hu⟩
      ·cases g
     obtain⟨I,J,R⟩:=step;have t:=Qw r (i+1) l xs ys (pre++[x]) (j++[y]) U I J (by simp[hp]) (by simp[C]);simp only[oo,Af6] at t;simp only[Op.eqFields];rw[zm o.1];simp only[Abk,a1,a6,R,Abd,MT];cases I:Un x y
     ·simp
     ·simpa using t
    |l,[],ys,k,g=>simp[Kt] at O
    |l,x::xs,[],k,g=>simp[Kt] at O
  ·cases hf
theorem dH(h:fy P d=some e):P.stoodInHeld d=false∧P.eqGuardType P.depth d=false∧P.underlying d=some (.struct (P.fieldsOf d))∧Ju P 0 (P.fieldsOf d).toList=some e:=by
 unfold fy at h;cases f:P.stoodInHeld d
 ·cases g:P.eqGuardType P.depth d
  ·rw[f,g] at h;simp only[Ad9,Ahl] at h;split at h
   ·rename_i i hu;have:P.fieldsOf d=i:=by simp[Program.fieldsOf,hu]
    exact⟨Z,Z,by rw[this];exact hu,by rw[this];exact h⟩
   ·cases h
  ·rw[g] at h;simp at h
 ·rw[f] at h;simp at h
section
variable {t ty2:TypeId} {x y:Operand} {ks:List Nat} {xs ys:List Value} (ht:fy P t=some ks) (hx:BY env x=some (.agg xs.toArray)) (hy:BY env y=some (.agg ys.toArray)) (O:Kt ks xs ys=true) (hs:GW xs ys)
include ht hx hy O hs
theorem vY:DP P env w (.binOp .eql t x y ty2) ty (.bool (MT xs ys)):=fun _ a i d pos C g=>by
 obtain⟨j,l,o,p⟩:=dH ht;have f:=Qw (P:=P) (w:=w) _ 0 ks xs ys [] [] p O hs Z Z;have r:=run_equalIn_struct (P:=P) w 9999 t xs.toArray ys.toArray o j;simp only[Abu] at f;simp only[execOp,i.eval hx,i.eval hy,Abk,run_eqGuard_agg w _ _ _ _ _ _ l,Abd,run_eql_struct,r,f];simp
end
end
section
variable {c:Cx} {B:List (Nat×EI)} {env:Env} {w:World} {N:EI} {ops:Array Oper} {rest:List Oper} {C:World→Prop} {Ar is:List Nat}
theorem Ag{x y:Code}(h:WC c B x env w (fun e w=>WC c B y e w N)):WC c B (.seq x y) env w N:=pt h
theorem cg{l:List Oper}(h:WR c B l.toArray l env w N):WC c B (.region k l.toArray false) env w N:=dC h
theorem An{x:Code}(h:WC c ((k,N)::B) x env w N):WC c B (.block k x) env w N:=hM h
theorem As(h:N env w):WC c B .skip env w N:=kS h
theorem Ah(h:N env w):WR c B ops [] env w N:=Et h
theorem qc{op:Op}{ty:Nat}{pos:String}(hi:ops[i]?=some ⟨some ty,op,d,pos,o,g⟩)(O:Ar[i]?=some 1)(hg:CF ops env g=true)(hC:C w)
 (h:∀W,C W→DP c.P env W op d a)(hd:Nat.blt ty c.n=true)(next:WD c B ops C Ar is ((ty,a)::env) w N):WD c B ops C Ar (i::is) env w N:=ao hi O hg hC h hd next
theorem E{op:Op}{ty:Nat}{pos:String}(h:DP c.P env w op d a)
 (next:WR c B ops rest ((ty,a)::env) w N)(hd:Nat.blt ty c.n=true:=by rfl):WR c B ops (⟨some ty,op,d,pos,o,none⟩::rest) env w N:=YB h hd next
theorem ve{op:Op}{ty:Nat}(h:Hh c.P env w op d r)
 (next:∀pos w',r pos w'→WR c B ops rest ((ty,pos)::env) w' N)(hd:Nat.blt ty c.n=true:=by rfl):WR c B ops (⟨some ty,op,d,v,o,none⟩::rest) env w N:=TK h hd next
theorem vd{op:Op}{ty:Nat}{pos:String}(hi:ops[i]?=some ⟨some ty,op,d,pos,o,g⟩)
 (h:∀W,DP c.P env W op d a)(next:WD c B ops C Ar is ((ty,a)::env) w N)(O:Ar[i]?=some 0:=by rfl)(hg:CF ops env g=true:=by rfl)(hd:Nat.blt ty c.n=true:=by rfl):WD c B ops C Ar (i::is) env w N:=Qu hi O hg h hd next
theorem vc{op:Op}{ty:Nat}{pos:String}(hi:ops[i]?=some ⟨some ty,op,d,pos,o,g⟩)(hC:C w)
 (h:∀W,C W→DP c.P env W op d a)(next:WD c B ops C Ar is ((ty,a)::env) w N)(O:Ar[i]?=some 1:=by rfl)(hg:CF ops env g=true:=by rfl)(hd:Nat.blt ty c.n=true:=by rfl):WD c B ops C Ar (i::is) env w N:=ao hi O hg hC h hd next
theorem M{ty:Nat}{pos:String}{x:Array Edge}(hx:BY env f=some a)
 (next:WR c B ops rest ((ty,a)::env) w N)(hd:Nat.blt ty c.n=true:=by rfl):WR c B ops (⟨some ty, .move f,d,pos,x,none⟩::rest) env w N:=YB (Cf hx) hd next
theorem za{ty:Nat}{pos:String}{x:Array Edge}(hx:BY env f=some a)
 (next:WR c B ops rest ((ty,a)::env) w N)(hd:Nat.blt ty c.n=true:=by rfl):WR c B ops (⟨some ty, .assign f,d,pos,x,none⟩::rest) env w N:=YB (CG hx) hd next
theorem Bm{ty:Nat}{pos:String}{x:Array Edge}(hi:ops[i]?=some ⟨some ty, .move f,d,pos,x,g⟩)
 (hx:BY env f=some a)(next:WD c B ops C Ar is ((ty,a)::env) w N)(O:Ar[i]?=some 0:=by rfl)(hg:CF ops env g=true:=by rfl)(hd:Nat.blt ty c.n=true:=by rfl):WD c B ops C Ar (i::is) env w N:=Qu hi O hg (fun _=>Cf hx) hd next
theorem Ir{ty:Nat}{pos:String}{x:Array Edge}(hi:ops[i]?=some ⟨some ty, .assign f,d,pos,x,g⟩)
 (hx:BY env f=some a)(next:WD c B ops C Ar is ((ty,a)::env) w N)(O:Ar[i]?=some 0:=by rfl)(hg:CF ops env g=true:=by rfl)(hd:Nat.blt ty c.n=true:=by rfl):WD c B ops C Ar (i::is) env w N:=Qu hi O hg (fun _=>CG hx) hd next
theorem Q{l:List Oper}{y:Code}(h:WR c B l.toArray l env w (fun e w=>WC c B y e w N)):WC c B (.seq (.region k l.toArray false) y) env w N:=Ag (cg h)
theorem V{ty:Nat}{pos:String}{x:Array Edge}(hx:BY env f=some a)(next:N ((ty,a)::env) w)(hd:Nat.blt ty c.n=true:=by rfl):WR c B ops [⟨some ty, .assign f,d,pos,x,none⟩] env w N:=za hx (Ah next) hd
theorem AN{op:Op}{ty:Nat}{pos:String}(hi:ops[i]?=some ⟨some ty,op,d,pos,o,g⟩)(h:∀{W},DP c.P env W op d a)(next:WD c B ops C Ar is ((ty,a)::env) w N)(O:Ar[i]?=some 0:=by rfl)(hg:CF ops env g=true:=by rfl)(hd:Nat.blt ty c.n=true:=by rfl):WD c B ops C Ar (i::is) env w N:=Qu hi O hg (fun _=>h) hd next
theorem Db{op:Op}{ty:Nat}(hi:ops[i]?=some ⟨some ty,op,d,v,o,g⟩)(h:Hh c.P env w op d r)(next:∀pos w',r pos w'→(C w→C w')∧WD c B ops C Ar is ((ty,pos)::env) w' N)(O:Ar[i]?=some 2:=by rfl)(hg:CF ops env g=true:=by rfl)(hd:Nat.blt ty c.n=true:=by rfl):WD c B ops C Ar (i::is) env w N:=px hi O hg h hd next
theorem LG{op:Op}(hi:ops[i]?=some ⟨none,op,d,v,o,g⟩)(h:Hh c.P env w op d r)(next:∀pos w',r pos w'→WD c B ops C Ar is env w' N)(O:Ar[i]?=some 3:=by rfl)(hg:CF ops env g=true:=by rfl):WD c B ops C Ar (i::is) env w N:=lh hi O hg h next
end
theorem Ai{p:Prop}(h:p:=by first|omega|assumption|(simp;omega)|(simp;done)):p:=h
theorem Fg{p:Prop}(h:p:=by first|omega|(simp;omega)):p:=h
theorem Fh{p:Prop}(h:p:=by rw[Go.Eng.HE];first|omega|(simp;omega)):p:=h
theorem ra{p:Prop}(h:p:=by first|rfl|assumption):p:=h
theorem Bg{p:Prop}(h:p:=by repeat (first|exact List.forall_mem_nil _|refine List.forall_mem_cons.2 ⟨by first|rfl|assumption,?_⟩)):p:=h
theorem AL{l e:Env}(h:Sub l e:=by repeat (first|exact Go.Eng.Sub.nil _|refine Go.Eng.Sub.cons rfl ?_|refine Go.Eng.WQ rfl ?_)):Sub l e:=h
theorem YF:(∀{α:Type} (x y:α),(bif true then x else y)=x)∧(∀{α:Type} (x y:α),(bif false then x else y)=y)∧(∀(p:Prop) [Decidable p],(decide p=true)=p)∧(∀(p:Prop) [Decidable p],(decide p=false)=¬p)∧
 (∀a b:Bool,((a&&b)=true)=(a=true∧b=true))∧(∀a b:Bool,((a||b)=true)=(a=true∨b=true))∧(∀b:Bool,((!b)=true)=(b=false))∧(∀b:Bool,((!b)=false)=(b=true))∧(∀a b:Bool,((a||b)=false)=(a=false∧b=false)):=by
 refine⟨fun _ _=>rfl,fun _ _=>rfl,fun p _=>by simp,fun p _=>by simp,fun a b=>by simp,fun a b=>by simp,fun b=>by simp,fun b=>by simp,fun a b=>by simp⟩
theorem vD{p q:Prop}(h:p=q:=by first|(simp only[Go.Eng.YF];done)|(simp only[Go.Eng.YF];rfl)|rfl):p=q:=h
section
variable {c:Cx} {B:List (Nat×EI)} {env:Env} {w:World} {N:EI} {ops:Array Oper} {rest:List Oper}
theorem BA{x y:Code}{t:Bool}{p q:Prop}(o:BY env f=some (.bool t))(ht:p→WC c B x env w N)(hf:q→WC c B y env w N)(hp:(t=true)=p:=by exact Go.Eng.vD)(g:(t=false)=q:=by exact Go.Eng.vD):WC c B (.cond f x y) env w N:=GO o (fun h=>ht (hp▸h)) (fun h=>hf (g▸h))
theorem Wr{x y:Code}{t:Bool}{p:Prop}(o:BY env f=some (.bool t))(ht:p→WC c B x env w N)(hf:t=false→WC c B y env w N)(hp:(t=true)=p:=by exact Go.Eng.vD):WC c B (.cond f x y) env w N:=GO o (fun h=>ht (hp▸h)) hf
theorem Cz{x y:Code}{t:Bool}{q:Prop}(o:BY env f=some (.bool t))(ht:t=true→WC c B x env w N)(hf:q→WC c B y env w N)(g:(t=false)=q:=by exact Go.Eng.vD):WC c B (.cond f x y) env w N:=GO o ht (fun h=>hf (g▸h))
structure vZ (c:Cx) (ops:Array Oper) (env:Env) (q:Bool) (k:Nat) (l tl:List Oper) (s t d:Nat) (b:Bool) (p:Prop) (ty:TypeId) (pos:String) (after:Array Edge) (g:Option (Nat×Bool)) (u v:Operand):Prop where
 hl:l.drop k=⟨some d, .pick (.tmp s) u v,ty,pos,after,g⟩::tl
 hs:look env s=some (.bool b)
 hg:CF ops env g=true
 hu:(if q then u else v)= .tmp t
 hv:(if q then v else u)= .const (.bool (!q))
 Hs:ai ops c.n (l.take k) s (!q) env=true
 hd:Nat.blt d c.n=true
 hp:(b=q)=p
theorem CK{c:Cx}{q:Bool}{l tl:List Oper}{b:Bool}{p:Prop}{pos:Operand}(hl:l.drop k=⟨some i, .pick (.tmp m) K pos,A,v,o,g⟩::tl:=by rfl)(hs:look env m=some (.bool b):=by rfl)(hg:CF ops env g=true:=by rfl)
 (hu:(if q then K else pos)= .tmp n:=by rfl)(hv:(if q then pos else K)= .const (.bool (!q)):=by rfl)(Hs:ai ops c.n (l.take k) m (!q) env=true:=by rfl)(hd:Nat.blt i c.n=true:=by rfl)(hp:(b=q)=p:=by exact Go.Eng.vD):vZ c ops env q k l tl m n i b p A v o g K pos:=⟨hl,hs,hg,hu,hv,Hs,hd,hp⟩
theorem AW{l tl:List Oper}(q:Bool)(s:Nat)(x:Bool){b:Bool}{p:Prop}{pos:Operand}(h:vZ c ops env q s l tl k m n b p A v o g K pos)
 (hT:p→WR c B ops (l.take s) ((k, .bool q)::env) w (fun e w'=>look e m=some (.bool x)∧Sub ((k, .bool q)::env) e∧w=w'))
 (next:WR c B ops tl ((n, .bool (bif q then b&&x else b||x))::env) w N):WR c B ops l env w N:=
 YC q s x (fun w'=>w=w') h.hs h.hl h.hg h.hu h.hv h.Hs h.hd (fun e=>hT (h.hp▸e)) (fun _=>rfl) (fun _ e=>e▸next)
theorem GC{l tl:List Oper}(q:Bool)(s:Nat)(x:Bool){b:Bool}{p:Prop}{pos:Operand}(h:vZ c ops env q s l tl k m n b p A v o g K pos)
 (hT:p→WR c B ops (l.take s) ((k, .bool q)::env) w (fun e w'=>look e m=some (.bool x)∧Sub ((k, .bool q)::env) e∧AZ w w'))
 (next:∀w',AZ w w'→WR c B ops tl ((n, .bool (bif q then b&&x else b||x))::env) w' N):WR c B ops l env w N:=
 YC q s x (fun w'=>AZ w w') h.hs h.hl h.hg h.hu h.hv h.Hs h.hd (fun e=>hT (h.hp▸e)) (fun _=>Aar _ _) next
theorem EQ{f:Env}{x:Bool}(m:Nat)(g:look env k=some (.bool x):=by rfl)(hd:env.drop m=f:=by rfl)(hf:MP f m env=true:=by rfl):WR c B ops [] env w (fun e w'=>look e k=some (.bool x)∧Sub f e∧w=w'):=Et ⟨g,Sub.drop _ m _ hd hf,rfl⟩
theorem wo{op:Op}{ty:Option Nat}{want:Bool}
 (h:WR c B ops (⟨ty,op,d,v,o,none⟩::rest) env w N)(g:(ops[k]?).bind (·.dst)=some m:=by rfl)(hs:look env m=some (.bool want):=by rfl):WR c B ops (⟨ty,op,d,v,o,some (k,want)⟩::rest) env w N:=kT g hs h
end
theorem By{P:Program}{env:Env}{parts:Array (Nat×Operand)}{cells:Array Value}(hx:fu env (parts.toList.map (·.2))=some b)
 (f:P.built A ((parts.toList.map (·.1)).zip b)=some cells):DP P env w (.build A parts) d (.agg cells):=fun _ a j ty pos C g=>by
 have hv:=j.SH hx;have hp:(parts.map fun(i,x)=>(i,a.eval x)).toList=(parts.toList.map (·.1)).zip b:=by
  rw[←hv];simp only[Array.toList_map,Acu];generalize parts.toList=l;induction l with
  |nil=>rfl
  |cons p r o=>simp only[Aci,List.zip_cons_cons,o];rfl
 have:=run_build (P:=P) w A (parts.map fun(i,x)=>(i,a.eval x)) cells (by rw[hp];exact f);simp only[execOp,Abk,this,Abd,Acw]
structure Kept (w w':World) (r r':Option Nat):Prop where
 grown:w.grownBy w' r
 at_:r'=r∨∃k,r'=some k∧w.heap.size≤k
theorem Kept.refl(w:World)(r:Option Nat):Kept w w r r:=⟨MR w r, .inl Z⟩
theorem Kc{w :World}{i:Option Nat}(f:w.grownBy h T)(o:i=T∨∃k,i=some k∧w.heap.size≤k)(g:h.grownBy N i):w.grownBy N T:=
 ⟨g.os.trans f.os,g.tape.trans f.tape,g.output.trans f.output,rX f.size g.size,fun k O l=>by
  rw[g.block k (Aaq O f.size) ?_,f.block k O l];rcases o with rfl|⟨j,rfl,p⟩
  ·exact l
  ·intro e;injection e with e;omega⟩
theorem Kept.trans{w w1 w2:World}{r i j:Option Nat}(f:Kept w w1 r i)(g:Kept w1 w2 i j):Kept w w2 r j:=
 ⟨Kc f.grown f.at_ g.grown,by
  rcases g.at_ with rfl|⟨k,rfl,O⟩
  ·exact f.at_
  ·exact .inr ⟨k,Z,rX f.grown.size O⟩⟩
theorem Kept.up{w :World}{g:Option Nat}(f:Kept w h T g)(O:AZ h N):Kept w N T g:=⟨Kc f.grown f.at_ (Lb O _),f.at_⟩
theorem kN.wa{w:World}(h:kN w w' k d m a y n b):Kept w w' a.rowOf y.rowOf:=
 ⟨h.grown,h.at_.imp id fun d=>⟨_,d,kM _⟩⟩
theorem Kept.below{w:World}(h:Kept w w' a.rowOf T)(g:CJ w k d m a n b)(f:i≤k)(B:i≤w.heap.size):Below i w w':=
 DY h.grown B fun base O=>rX f (g.lt base O).1
theorem Ts.own{w:World}{base size:Nat}(h:Ts w w' m cs d)(g:base≤w.heap.size)(hl:cs.length=n*size)(f:n≤9223372036854775807):CJ w' base d size (.slice (some ⟨m,0,none⟩) n n) n cs:=
 ⟨hl,Qs ⟨m,n,cs.toArray,(0,0),Z,by have:=h.at_;omega,h.AE,fun h=>by simp at h,kM _,by rw[HE];exact f,by simp[hl],by simp[←hl]⟩⟩
theorem SM(n:Nat):(replicate n [Value.int .u8 0]).flatten=AS (replicate n 0):=by
 induction n with
 |zero=>rfl
 |succ n f=>rw[Abo,Abc,f,Abo];rfl
inductive Tr
 |nil
 |Au (i:Nat) (t:Tr)
 |one (i:Nat) (t:Tr)
 |two (i:Nat) (t:Tr) (j:Nat) (u:Tr)
 |three (i:Nat) (t:Tr) (j:Nat) (u:Tr) (k:Nat) (v:Tr)
def Tr.depth:Tr→Nat
 | .nil=>0
 | .Au _ t=>t.depth+1
 | .one _ t=>t.depth+1
 | .two _ t _ _=>t.depth+1
 | .three _ t _ _ _ _=>t.depth+1
def WW(Ar:List Nat)(i:Nat):Bool:=match Ar[i]? with|some 2=>true|some 3=>true|_=>false
def Is(md:Region.Mode)(ops:Array Oper)(Ar:List Nat):Tr→Array Bool→Bool
 | .nil,f=>(Region.ready md ops f).isEmpty
 | .Au i t,f=>
   (match Ar[i]? with
    |some 0=>(Region.ready md ops f).contains i&&Region.free md ops f i
    |some 1=>(Region.ready md ops f).contains i&&Region.free md ops f i&&
     (match ops[i]? with
      |none=>false
      |some _=>(List.range ops.size).all fun j=>j==i||f.getD j true||match ops[j]? with
       |some g=>g.after.any (fun e=>Region.binds md e&&e.on==i)||Ar[j]? !=some 3
       |none=>true)
    |_=>false)&&Is md ops Ar t (f.setIfInBounds i true)
 | .one i t,f=>WW Ar i&&(match Region.ready md ops f with|[j]=>j==i|_=>false)&&Is md ops Ar t (f.setIfInBounds i true)
 | .two i t k u,f=>WW Ar i&&WW Ar k&&Nat.beq t.depth u.depth&&(match Region.ready md ops f with|[j,l]=>j==i&&l==k|_=>false)&&
  Is md ops Ar t (f.setIfInBounds i true)&&Is md ops Ar u (f.setIfInBounds k true)
 | .three i t k u m v,f=>WW Ar i&&WW Ar k&&WW Ar m&&Nat.beq t.depth u.depth&&Nat.beq t.depth v.depth&&(match Region.ready md ops f with|[j,l,n]=>j==i&&l==k&&n==m|_=>false)&&
  Is md ops Ar t (f.setIfInBounds i true)&&Is md ops Ar u (f.setIfInBounds k true)&&Is md ops Ar v (f.setIfInBounds m true)
section
variable {P:Program} {ops:Array Oper} {md:Region.Mode} {C:World→Prop} {Qjq:Exit→Act→World→Prop} {ro:Option Nat}
def Ku(ro:Option Nat)(P:Program)(ops:Array Oper)(C:World→Prop)(Ar:List Nat)(Qjq:Exit→Act→World→Prop)(i:Nat)(K:Act→World→Prop)(a:Act)(w:World):Prop:=
 match Ar[i]? with
 |some 2=>wpOpIn (FW ro) 0 P ops Qjq i (fun f w'=>(C w→C w')∧K f w') a w
 |some 3=>wpOpIn (FW ro) 0 P ops Qjq i K a w
 |_=>False
def fz(ro:Option Nat)(P:Program)(ops:Array Oper)(C:World→Prop)(Ar:List Nat)(Qjq:Exit→Act→World→Prop):Tr→Act→World→Prop
 | .nil,a,w=>Qjq .normal a w
 | .Au i t,a,w=>match ops[i]? with
   |none=>False
   |some o=>match Ar[i]? with
    |some 0=>∃v,FO P ops (fun _=>True) o v a∧fz ro P ops C Ar Qjq t (a.put o.dst v) w
    |some 1=>C w∧∃v,FO P ops C o v a∧fz ro P ops C Ar Qjq t (a.put o.dst v) w
    |_=>False
 | .one i t,a,w=>Ku ro P ops C Ar Qjq i (fz ro P ops C Ar Qjq t) a w
 | .two i t k u,a,w=>Ku ro P ops C Ar Qjq i (fz ro P ops C Ar Qjq t) a w∧Ku ro P ops C Ar Qjq k (fz ro P ops C Ar Qjq u) a w
 | .three i t k u m v,a,w=>Ku ro P ops C Ar Qjq i (fz ro P ops C Ar Qjq t) a w∧Ku ro P ops C Ar Qjq k (fz ro P ops C Ar Qjq u) a w∧Ku ro P ops C Ar Qjq m (fz ro P ops C Ar Qjq v) a w
theorem Jv{K j:Act→World→Prop}{a:Act}(hK:∀a w,K a w→j a w)(h:Ku ro P ops C e Qjq i K a w):
 wpOpIn (FW ro) 0 P ops Qjq i (fun g w'=>((e[i]?==some 3)=false→C w→C w')∧j g w') a w:=by
 unfold Ku at h;split at h
 ·exact Afs (fun g w' f=>⟨fun _=>f.1,hK _ _ f.2⟩) h
 ·rename_i O;exact Afs (fun g w' f=>⟨fun l=>by simp[O] at l,hK _ _ f⟩) h
 ·exact h.elim
theorem FP(Ar:List Nat)(I:Region.noSelect ops=true)(hp:∀a8 a w,¬Qjq (.panic a8) a w)(r:∀a w,¬Qjq .outgrown a w):
 ∀(t:Tr) (J:Array Bool) (a:Act) (w:World),Is md ops Ar t J=true→fz ro P ops C Ar Qjq t a w→RY ro P md ops C (fun j=>Ar[j]?==some 3) Qjq t.depth J a w
 | .nil,J,a,w,g,h=>⟨by simpa[Is] using g,h⟩
 | .Au i t,J,a,w,g,h=>by
   simp only[Is,kg] at g;obtain⟨f,U⟩:=g;unfold fz at h;cases hi:ops[i]? with
   |none=>rw[hi] at h;exact h.elim
   |some o=>
    rw[hi] at h;simp only at h;split at h
    ·rename_i O;rw[O] at f;simp only[kg] at f;obtain⟨v,hy,hK⟩:=h;refine KK (Ci:=fun _=>True) hi (fun j o cs b p=>Afg I j o cs b p) hp r (.inr Z) (by simp[O]) t.depth J a w ?_ (by simpa using f.1) hy trivial (FP Ar I hp r t _ _ _ U hK);intro j R p a1 a7 a6;exact⟨Af5 hi f.2 j R p a1 a7 a6, .inl Z⟩
    ·rename_i O;rw[O] at f;simp only[kg,hi,Aae,Aax] at f;obtain⟨hC,v,hy,hK⟩:=h;refine KK (Ci:=C) hi (fun j o cs b p=>Afg I j o cs b p) hp r (.inl Z) (by simp[O]) t.depth J a w ?_ (by simpa using f.1.1) hy hC (FP Ar I hp r t _ _ _ U hK);intro j R p a1 a7 a6;refine⟨Af5 hi f.1.2 j R p a1 a7 a6, .inr ?_⟩;have R:=f.2 j (Acq.1 p).1;simp only[p,Aa3,Ad1,a1,false_or,a7,Ad5] at R;rcases R with R|R
     ·obtain⟨e,a1,p⟩:=Array.any_eq_true'.1 R;simp only[kg,Ad1] at p;exact absurd p.2 (a6 e a1 p.1)
     simpa using R
    exact h.elim
 | .one i t,J,a,w,g,h=>by
   simp only[Is,kg] at g;obtain⟨⟨_,f⟩,U⟩:=g;split at f
   ·rename_i j a1;have:j=i:=by simpa using f
    subst this;refine⟨fun R=>(by rw[a1] at R;cases R),fun k p=>?_⟩;rw[a1] at p;have:k=j:=by simpa using p
    subst this;exact Jv (fun a w p=>FP Ar I hp r t _ _ _ U p) h
   cases f
 | .two i t k u,J,a,w,g,h=>by
   simp only[Is,kg] at g;obtain⟨⟨⟨⟨_,hd⟩,f⟩,U⟩,a6⟩:=g;have hd:=Aai hd;split at f
   ·rename_i j l a1;simp only[kg,Ad1] at f;obtain⟨rfl,rfl⟩:=f;refine⟨fun R=>(by rw[a1] at R;cases R),fun m a7=>?_⟩;rw[a1] at a7;simp only[Aak,Acx,Ae3] at a7;rcases a7 with rfl|rfl
    ·exact Jv (fun a w p=>FP Ar I hp r t _ _ _ U p) h.1
    exact Jv (fun a w p=>by rw[hd];exact FP Ar I hp r u _ _ _ a6 p) h.2
   cases f
 | .three i t k u m v,J,a,w,g,h=>by
   simp only[Is,kg] at g;obtain⟨⟨⟨⟨⟨⟨_,hd⟩,a7⟩,f⟩,U⟩,a6⟩,b0⟩:=g;have hd:=Aai hd;have a7:=Aai a7;split at f
   ·rename_i j l n a1;simp only[kg,Ad1] at f;obtain⟨⟨rfl,rfl⟩,rfl⟩:=f;refine⟨fun R=>(by rw[a1] at R;cases R),fun x R=>?_⟩;rw[a1] at R;simp only[Aak,Acx,Ae3] at R;rcases R with rfl|rfl|rfl
    ·exact Jv (fun a w p=>FP Ar I hp r t _ _ _ U p) h.1
    ·exact Jv (fun a w p=>by rw[hd];exact FP Ar I hp r u _ _ _ a6 p) h.2.1
    exact Jv (fun a w p=>by rw[a7];exact FP Ar I hp r v _ _ _ b0 p) h.2.2
   cases f
end
section
variable {c:Cx} {B:List (Nat×EI)} {env:Env} {w:World} {N:EI} {ops:Array Oper} {C:World→Prop} {Ar:List Nat} {tr u u':Tr}
def WT(c:Cx)(B:List (Nat×EI))(ops:Array Oper)(C:World→Prop)(Ar:List Nat)(t:Tr)(env:Env)(w:World)(N:EI):Prop:=
 ∀a,Ex c.n env a→fz c.Yz c.P ops C Ar (QQ c B N) t a w
theorem SN(C:World→Prop)(Ar:List Nat)(t:Tr)(i:c.P.follows .mixedOrders=true)(f:(Region.noSelect ops&&Nat.beq t.depth ops.size&&Is .any ops Ar t (Array.replicate ops.size false))=true)
 (h:WT c B ops C Ar t env w.drew N):WC c B (.region k ops true) env w N:=fun a l=>by
 simp only[kg] at f;have g:t.depth=ops.size:=Aai f.1.2;refine wpIn_region_any i (PA (C:=C) (wild:=fun j=>Ar[j]?==some 3) _ _ _ _ ?_);rw[←g];exact FP Ar f.1.1 (fun _ _ _ h=>h) (fun _ _ h=>h) t _ _ _ (by rw[g];exact f.2) (h a l)
theorem Bs(h:N env w):WT c B ops C Ar .nil env w N:=fun a f=>⟨env,f,h⟩
theorem py{op:Op}{ty:Nat}{pos:String}{j:Array Edge}(hi:ops[i]?=some ⟨some ty,op,d,pos,j,g⟩)(O:Ar[i]?=some 0)(hg:CF ops env g=true)
 (h:∀W,DP c.P env W op d a)(hd:Nat.blt ty c.n=true)(next:WT c B ops C Ar tr ((ty,a)::env) w N):WT c B ops C Ar (.Au i tr) env w N:=fun v f=>by
 unfold fz;simp only[hi,O];exact⟨a, .inl ⟨KS (o:=⟨some ty,op,d,pos,j,g⟩) f hg,fun W _=>h W c.n v f _ _ _ _⟩,next _ (f.put hd a)⟩
theorem Cj{op:Op}{ty:Nat}{pos:String}{j:Array Edge}(hi:ops[i]?=some ⟨some ty,op,d,pos,j,g⟩)(O:Ar[i]?=some 1)(hg:CF ops env g=true)(hC:C w)
 (h:∀W,C W→DP c.P env W op d a)(hd:Nat.blt ty c.n=true)(next:WT c B ops C Ar tr ((ty,a)::env) w N):WT c B ops C Ar (.Au i tr) env w N:=fun v f=>by
 unfold fz;simp only[hi,O];exact⟨hC,a, .inl ⟨KS (o:=⟨some ty,op,d,pos,j,g⟩) f hg,fun W l=>h W l c.n v f _ _ _ _⟩,next _ (f.put hd a)⟩
def WS(c:Cx)(B:List (Nat×EI))(ops:Array Oper)(C:World→Prop)(Ar:List Nat)(i:Nat)(t:Tr)(env:Env)(w:World)(N:EI):Prop:=
 ∀a,Ex c.n env a→Ku c.Yz c.P ops C Ar (QQ c B N) i (fz c.Yz c.P ops C Ar (QQ c B N) t) a w
theorem AV(h:WS c B ops C Ar i tr env w N):WT c B ops C Ar (.one i tr) env w N:=h
theorem Ck(g:WS c B ops C Ar i tr env w N)(j:WS c B ops C Ar k u env w N):WT c B ops C Ar (.two i tr k u) env w N:=fun a f=>⟨g a f,j a f⟩
theorem WX(g:WS c B ops C Ar i tr env w N)(j:WS c B ops C Ar k u env w N)(l:WS c B ops C Ar m u' env w N):WT c B ops C Ar (.three i tr k u m u') env w N:=fun a f=>⟨g a f,j a f,l a f⟩
theorem fA{op:Op}{ty:Nat}(hi:ops[i]?=some ⟨some ty,op,d,v,o,g⟩)(O:Ar[i]?=some 2)(hg:CF ops env g=true)
 (h:Hh c.P env w op d r)(hd:Nat.blt ty c.n=true)(next:∀pos w',r pos w'→(C w→C w')∧WT c B ops C Ar tr ((ty,pos)::env) w' N):WS c B ops C Ar i tr env w N:=fun a f=>by
 unfold Ku;simp only[O];exact OH hi hg f h fun pos w' hv=>⟨(next pos w' hv).1,(next pos w' hv).2 _ (f.put hd pos)⟩
theorem CY{op:Op}(hi:ops[i]?=some ⟨none,op,d,v,o,g⟩)(O:Ar[i]?=some 2)(hg:CF ops env g=true)
 (h:Hh c.P env w op d r)(next:∀pos w',r pos w'→(C w→C w')∧WT c B ops C Ar tr env w' N):WS c B ops C Ar i tr env w N:=fun a f=>by
 unfold Ku;simp only[O];exact OH hi hg f h fun pos w' hv=>⟨(next pos w' hv).1,(next pos w' hv).2 _ f⟩
theorem Bj{op:Op}(hi:ops[i]?=some ⟨none,op,d,v,o,g⟩)(O:Ar[i]?=some 3)(hg:CF ops env g=true)
 (h:Hh c.P env w op d r)(next:∀pos w',r pos w'→WT c B ops C Ar tr env w' N):WS c B ops C Ar i tr env w N:=fun a f=>by
 unfold Ku;simp only[O];exact OH hi hg f h fun pos w' hv=>next pos w' hv _ f
theorem Cd{op:Op}{ty:Nat}{pos:String}(hi:ops[i]?=some ⟨some ty,op,d,pos,o,g⟩)(h:∀{W},DP c.P env W op d a)(next:WT c B ops C Ar tr ((ty,a)::env) w N)(O:Ar[i]?=some 0:=by rfl)(hg:CF ops env g=true:=by rfl)(hd:Nat.blt ty c.n=true:=by rfl):WT c B ops C Ar (.Au i tr) env w N:=py hi O hg (fun _=>h) hd next
theorem EM{op:Op}{ty:Nat}(hi:ops[i]?=some ⟨some ty,op,d,v,o,g⟩)(h:Hh c.P env w op d r)(next:∀pos w',r pos w'→(C w→C w')∧WT c B ops C Ar tr ((ty,pos)::env) w' N)(O:Ar[i]?=some 2:=by rfl)(hg:CF ops env g=true:=by rfl)(hd:Nat.blt ty c.n=true:=by rfl):WS c B ops C Ar i tr env w N:=fA hi O hg h hd next
theorem EZ{op:Op}{ty:Nat}(hi:ops[i]?=some ⟨some ty,op,d,v,o,g⟩)(h:Hh c.P env w op d r)(next:∀pos w',r pos w'→(C w→C w')∧WT c B ops C Ar tr ((ty,pos)::env) w' N)(O:Ar[i]?=some 2:=by rfl)(hg:CF ops env g=true:=by rfl)(hd:Nat.blt ty c.n=true:=by rfl):WT c B ops C Ar (.one i tr) env w N:=AV (fA hi O hg h hd next)
end
def HM(Φ:World→Prop)(F:Nat→Prop)(w:World):Prop:=∀w':World,w.heap.size≤w'.heap.size→(∀k,F k→k<w.heap.size→w'.heap[k]?=w.heap[k]?)→Φ w'
section
variable {Φ Ψ:World→Prop} {F F':Nat→Prop} {w w':World}
theorem HM.AB(h:HM Φ F w):Φ w:=h w (kM _) (fun _ _ _=>rfl)
theorem HM.mono(h:HM Φ F w)(hF:∀k,k<w.heap.size→F k→F' k):HM Φ F' w:=fun w' hs O=>h w' hs fun k hf hl=>O k (hF k hl hf) hl
theorem HM.imp(h:HM Φ F w)(hi:∀w':World,w.heap.size≤w'.heap.size→Φ w'→Ψ w'):HM Ψ F w:=fun w' hs O=>hi w' hs (h w' hs O)
end
def AU(I:List Nat)(i:Nat):Bool:=I.any (Nat.beq i)
def BB(I J:List Nat):Bool:=I.all fun i=> !AU J i
theorem Fs{J:List Nat}(h:BB e J=true)(hi:AU e i=true):AU J i=false:=by
 simp only[BB,AU,Aae,Aa8] at h hi;obtain⟨x,hx,f⟩:=hi;have:=h x hx;have I:i=x:=Aai f;subst I;simpa[AU] using this
theorem Mm:AU [i] k=true↔k=i:=by simp[AU]
theorem Jw{J:List Nat}(h:e.all (AU J)=true)(hi:AU J i=false):AU e i=false:=by
 cases hc:AU e i with
 |false=>rfl
 |true=>
  simp only[AU,Aa8] at hc;obtain⟨x,hx,f⟩:=hc;have I:i=x:=Aai f;subst I;have:=Aae.1 h _ hx;rw[hi] at this;cases this
structure Mv (c:Nat→Nat) (w:World) (c':Nat→Nat) (w':World) (I:List Nat):Prop where
 os:w'.os=w.os
 tape:w'.tape=w.tape
 output:w'.output=w.output
 size:w.heap.size≤w'.heap.size
 BF:∀k,k<w.heap.size→c' k=c k
 block:∀k,k<w.heap.size→AU I (c k)=false→w'.heap[k]?=w.heap[k]?
def ext(c:Nat→Nat)(n i:Nat):Nat→Nat:=fun k=>if k<n then c k else i
theorem lk(h:k<n):ext c n i k=c k:=by simp[ext,h]
theorem lm(h:n≤k):ext c n i k=i:=by simp[ext];omega
section
variable {c c' c'':Nat→Nat} {w w' w'':World} {I J K:List Nat}
theorem Mv.refl(c:Nat→Nat)(w:World)(I:List Nat):Mv c w c w I:=⟨Z,Z,Z,kM _,fun _ _=>rfl,fun _ _ _=>rfl⟩
theorem Mv.drew(c:Nat→Nat)(w:World)(I:List Nat):Mv c w c w.drew I:=⟨Z,Z,Z,kM _,fun _ _=>rfl,fun _ _ _=>rfl⟩
theorem Mv.tr(h:Mv c w c' w' I)(f:Mv c' w' c'' w'' J)(hi:J.all (AU I)=true):Mv c w c'' w'' I:=
 ⟨f.os.trans h.os,f.tape.trans h.tape,f.output.trans h.output,rX h.size f.size,fun k O=>(f.BF k (Aaq O h.size)).trans (h.BF k O),
  fun k O hc=>(f.block k (Aaq O h.size) (by rw[h.BF k O];exact Jw hi hc)).trans (h.block k O hc)⟩
theorem Mv.more(h:Mv c w c' w' I)(hi:I.all (AU J)=true):Mv c w c' w' J:={h with block:=fun k O hc=>h.block k O (Jw hi hc)}
theorem Mv.pure(c:Nat→Nat)(i:Nat)(h:AZ w w'):∃c',Mv c w c' w' []∧∀k,w.heap.size≤k→c' k=i:=
 ⟨ext c w.heap.size i,⟨h.os,h.tape,h.output,h.size,fun k O=>lk O,fun k O _=>h.block k O⟩,fun k O=>lm O⟩
theorem Mv.grown(c:Nat→Nat)(j:Nat)(h:w.grownBy w' T)(f:∀k,T=some k→c k=i):∃c',Mv c w c' w' [i]∧∀k,w.heap.size≤k→c' k=j:=
 ⟨ext c w.heap.size j,⟨h.os,h.tape,h.output,h.size,fun k O=>lk O,fun k O hc=>h.block k O (fun e=>by
  have:=f k e.symm;rw[this] at hc;simp[AU] at hc)⟩,fun k O=>lm O⟩
structure AI (c:Nat→Nat) (w:World) (i b:Nat) (cs:List Value) (t:TypeId):Prop where
 AE:Gt w b cs t
 BF:c b=i
structure AJ (c:Nat→Nat) (w:World) (i:Nat) (e:TypeId) (size:Nat) (v:Value) (n:Nat) (xs:List Value):Prop where
 own:CJ w 0 e size v n xs
 BF:∀k,v.rowOf=some k→c k=i
def EA(Φ:World→Prop)(c:Nat→Nat)(w:World)(I:List Nat):Prop:=HM Φ (fun k=>AU I (c k)=true) w
abbrev Bu{α:Type}(s:Shape α)(c:Nat→Nat)(w:World)(I:List Nat)(v:Value)(l:List α):Prop:=EA (fun w'=>FC s w'.heap.size w' v l) c w I
structure DG (c:Nat→Nat) (w:World) (I:List Nat) (p:Addr) (cs:List Value):Prop where
 DF:lb w p cs
 BF:AU I (c p.block)=true
structure CD (w0:World) (c:Nat→Nat) (w:World):Prop where
 below:AZ w0 w
 BF:∀k,k<w0.heap.size→c k=0
theorem CD.le(w0:CD h c w):h.heap.size≤w.heap.size:=w0.below.size
theorem AI.D(h:AI c w i k cs d)(m:Mv c w c' w' I:=by exact Go.Eng.KU)(hi:AU I i=false:=by rfl):AI c' w' i k cs d:=
 have f:=h.AE.lt
 ⟨(m.block k f (by rw[h.BF];exact hi)).trans h.AE,(m.BF k f).trans h.BF⟩
theorem AJ.D(h:AJ c w i d k a n b)(m:Mv c w c' w' I:=by exact Go.Eng.KU)(hi:AU I i=false:=by rfl):AJ c' w' i d k a n b:=
 ⟨h.own.SL fun size O=>m.block size (h.own.lt size O).2 (by rw[h.BF size O];exact hi),fun size O=>(m.BF size (h.own.lt size O).2).trans (h.BF size O)⟩
theorem EA.D(h:EA X c w J)(m:Mv c w c' w' I:=by exact Go.Eng.KU)(hi:BB J I=true:=by rfl):EA X c' w' J:=by
 intro w'' hs O;refine h w'' (rX m.size hs) fun k hf hl=>?_;rw[O k (by show AU J (c' k)=true;rw[m.BF k hl];exact hf) (Aaq hl m.size),m.block k hl (Fs hi hf)]
theorem EA.imp{Ψ:World→Prop}(h:EA X c w J)(hi:∀w':World,w.heap.size≤w'.heap.size→X w'→Ψ w'):EA Ψ c w J:=HM.imp h hi
theorem EA.AB(h:EA X c w J):X w:=HM.AB h
theorem EA.more(h:EA X c w J)(hi:J.all (AU K)=true):EA X c w K:=HM.mono h fun k _ O=>by
 cases hc:AU K (c k) with
 |true=>rfl
 |false=>rw[Jw hi hc] at O;cases O
theorem DG.D{p:Addr}(h:DG c w J p cs)(m:Mv c w c' w' I:=by exact Go.Eng.KU)(hi:BB J I=true:=by rfl):DG c' w' J p cs:=
 ⟨⟨h.DF.1.keep (m.block _ h.DF.2 (Fs hi h.BF)),Aaq h.DF.2 m.size⟩,by rw[m.BF _ h.DF.2];exact h.BF⟩
theorem CD.D(w0:CD h c w)(m:Mv c w c' w' I:=by exact Go.Eng.KU)(hi:AU I 0=false:=by rfl):CD h c' w':=
 ⟨⟨m.os.trans w0.below.os,m.tape.trans w0.below.tape,m.output.trans w0.below.output,rX w0.le m.size,fun k O=>(m.block k (Aaq O w0.le) (by rw[w0.BF k O];exact hi)).trans (w0.below.block k O)⟩,
  fun k O=>(m.BF k (Aaq O w0.le)).trans (w0.BF k O)⟩
theorem Ay(w:World):∃c:Nat→Nat,CD w c w∧∀k,c k=0:=⟨fun _=>0,⟨Aar _ _,fun _ _=>rfl⟩,fun _=>rfl⟩
theorem Rd.Du{s:Shape α}(h:Rd s w a t)(hc:∀k,k<w.heap.size→AU I (c k)=true):Bu s c w I a t:=fun w' hs O=>
 (FC.keep h (fun k hl=>O k (hc k hl) hl)).mono hs
theorem tL{s:Shape α}{x:α}(h:s.rd w.heap.size w cs x)(hc:∀k,k<w.heap.size→AU I (c k)=true):EA (fun w'=>s.rd w'.heap.size w' cs x) c w I:=fun w' hs O=>
 s.mono hs (s.keep (fun k hl=>O k (hc k hl) hl) h)
theorem elF{s:Shape α}{F:Nat→Prop}(h:HM (fun w'=>FC s w'.heap.size w' a t) F w)(O:k<t.length)(l:0<s.size):F (Bz a s.size k).block:=by
 apply Afn;intro p;have hp:(Bz a s.size k).block<w.heap.size:=h.AB.RX O;have g:=h {w with heap:=w.heap.setIfInBounds (Bz a s.size k).block (.stringIter ⟨#[]⟩ 0)} Bb (fun j o hl=>by
  have:(Bz a s.size k).block≠j:=fun e=>p (e▸o);simp[Aew this])
 obtain⟨cs,i,r⟩:=g.at (dd O);have hl:=s.len r;have f:=i 0 _ (dd G);rw[add_zero] at f;simp[World.cell?,hp] at f
theorem Bu.el{s:Shape α}(h:Bu s c w J a t)(O:k<t.length)(f:0<s.size):
 ∃cs,DG c w J (Bz a s.size k) cs∧cs.length=s.size∧EA (fun w'=>s.rd w'.heap.size w' cs t[k]) c w J:=by
 have hF:=elF h O f;obtain⟨cs,g,f⟩:=h.AB.at (dd O);have o:=h.AB.RX O;refine⟨cs,⟨⟨g,o⟩,hF⟩,s.len f,fun w' hs p=>?_⟩;obtain⟨r,l,i⟩:=(h w' hs p).at (dd O);have e:r=cs:=by
  have r:=s.len i;have hl:=s.len f;refine Adr fun j=>?_;rcases Aab j s.size with f|f
  ·have f:=l j _ (dd G);have r:=g j _ (dd G);have:w'.cell? ((Bz a s.size k).add j)=w.cell? ((Bz a s.size k).add j):=Aeh (by rw[Gk];exact p _ hF o);rw[this,r] at f;rw[dd G,dd G];exact f.symm
  rw[Aam G,Aam G]
 rw[←e];exact i
theorem Co{enc:α→List Value}{ok:α→Prop}{f:∀x,(enc x).length=n}{g:∀x,∀u∈enc x,u.oneCell'=true}(h:Bu (Shape.flat n enc ok f g) c w J a t)(O:k<t.length)(i:0<n):
 DG c w J (Bz a n k) (enc t[k])∧ok t[k]:=by
 obtain⟨cs,hc,_,hf⟩:=Bu.el h O i;obtain⟨rfl,j⟩:=hf.AB;exact⟨hc,j⟩
theorem _root_.Go.Eng.CJ.Du{w0:World}{i:Nat}{e:TypeId}{size n:Nat}{v:Value}{xs:List Value}(h:CJ w w0.heap.size e size v n xs)(hx:∀k,w0.heap.size≤k→c k=i):AJ c w i e size v n xs:=
 ⟨h.Eu (Wm _),fun k O=>hx k (h.lt k O).1⟩
theorem Br(c:Nat→Nat)(w:World)(i:Nat)(e:TypeId)(size:Nat):AJ c w i e size (.slice none 0 0) 0 []:=⟨CJ.nil _ _ _ _,fun k O=>by simp[Value.rowOf] at O⟩
theorem AJ.AA(h:AJ c w i d k a n b):a.cells=#[a]:=h.own.AA
theorem AJ.AD(h:AJ c w i d k a n b):a.oneCell'=true:=h.own.AD
theorem AJ.tM(h:AJ c w i d k a n b):EA (fun w'=>CJ w' 0 d k a n b) c w [i]:=fun w' hs O=>
 h.own.SL fun size hv=>O size (by show AU [i] (c size)=true;rw[h.BF size hv];simp[AU]) (h.own.lt size hv).2
theorem AJ.rd{s:Shape α}(h:AJ c w i d s.size a t.length css.flatten)(o:t.length≤140737488355328)(hc:css.length=t.length)
 (hi:AU J i=true)(j:∀(k:Nat) cs x,css[k]?=some cs→t[k]?=some x→EA (fun w'=>s.rd w'.heap.size w' cs x) c w J):Bu s c w J a t:=fun w' hs O=>
 CJ.rd o (h.own.SL (w':=w') fun k hv=>O k (by show AU J (c k)=true;rw[h.BF k hv];exact hi) (h.own.lt k hv).2) Z hc fun k cs x f g=>j k cs x f g w' hs O
theorem AJ.Gl{enc:α→List Value}{ok:α→Prop}{g:∀x,(enc x).length=k}{j:∀x,∀u∈enc x,u.oneCell'=true}{l:List α}
 (h:AJ c w i d k a l.length (l.flatMap enc))(p:l.length≤140737488355328)(o:∀x∈l,ok x):Bu (Shape.flat k enc ok g j) c w [i] a l:=fun w' hs O=>
 CJ.Gl p (h.tM w' hs O) o
end
theorem ap{J:List Nat}:AU (e++J) i=(AU e i||AU J i):=Aek
theorem ln(I J:List Nat):I.all (AU (I++J))=true:=Aae.2 fun i hi=>by
 rw[ap,Aa3];left;exact Aa8.2 ⟨i,hi,Nat.beq_refl i⟩
theorem lp(I J:List Nat):J.all (AU (I++J))=true:=Aae.2 fun i hi=>by
 rw[ap,Aa3];right;exact Aa8.2 ⟨i,hi,Nat.beq_refl i⟩
theorem Mv.tN{c :Nat→Nat}{w :World}{J:List Nat}(w'':Mv c w c' w' e)(f:Mv c' w' j h J):Mv c w j h (e++J):=(w''.more (ln e J)).tr f (lp e J)
theorem KU{c:Nat→Nat}{w:World}(h:Mv c w c' w' e:=by first|exact Go.Eng.Mv.refl _ _ []|assumption|exact Go.Eng.Mv.tN (by assumption) Go.Eng.KU):Mv c w c' w' e:=h
section
variable {P:Program} {env:Env} {w:World} {ty:TypeId} {c:Nat→Nat}
theorem Ts.Du(h:Ts w w' k cs d)(c:Nat→Nat)(i:Nat):∃c',Mv c w c' w' []∧AI c' w' i k cs d:=by
 obtain⟨c',f,hx⟩:=Mv.pure c i h.below;exact⟨c',f,h.AE,hx k (Ado h.at_.symm)⟩
theorem WY(c:Nat→Nat)(i:Nat)(hx:BY env f=some (.agg cs.toArray)):Hh P env w (.box d f) ty (fun v w'=>∃b c',v= .pointer (some ⟨b,0,none⟩)∧Mv c w c' w' []∧AI c' w' i b cs d):=
 (IQ hx).mono fun v w' ⟨b,hv,x⟩=>by obtain⟨c',h⟩:=x.Du c i;exact⟨b,c',hv,h⟩
theorem dI(c:Nat→Nat)(i:Nat)(hx:BY env f=some a)(hv:a.cells=#[a]):Hh P env w (.box d f) ty (fun v w'=>∃b c',v= .pointer (some ⟨b,0,none⟩)∧Mv c w c' w' []∧AI c' w' i b [a] d):=
 (hQ hx hv).mono fun v w' ⟨b,hv,x⟩=>by obtain⟨c',h⟩:=x.Du c i;exact⟨b,c',hv,h⟩
theorem CB(c:Nat→Nat)(i:Nat)(g:Fx P d=some b):Hh P env w (.alloc d) ty (fun v w'=>∃z c',v= .pointer (some ⟨z,0,none⟩)∧Mv c w c' w' []∧AI c' w' i z b d):=
 (Js g).mono fun v w' ⟨z,hv,f⟩=>by obtain⟨c',h⟩:=f.Du c i;exact⟨z,c',hv,h⟩
theorem Ht{parts:Array (Nat×Operand)}{vs:List Value}(c:Nat→Nat)(i:Nat)(ht:JQ P d=some (A,k,m,b))(hx:fu env (parts.toList.map (·.2))=some vs)
 (o:(parts.toList.map (·.1)).zip vs=MS 0 vs)(g:vs.length=n)(l:∀v∈vs,v.cells.size=k)(f:Nat.blt 0 (n*k)=true)(j:Nat.ble (n*k) 16777216=true):
 Hh P env w (.buildSlice d n parts) ty (fun v w'=>∃z c',v= .slice (some ⟨z,0,none⟩) n n∧Mv c w c' w' []∧AI c' w' i z (vs.map (·.cells.toList)).flatten A):=
 (Nv ht hx o g l f j).mono fun v w' ⟨z,hv,f⟩=>by obtain⟨c',h⟩:=f.Du c i;exact⟨z,c',hv,h⟩
theorem AH(c:Nat→Nat)(i:Nat)(ht:JQ P d=some (A,k,m,b))(hx:BY env f=some a)(hv:a.cells=cs.toArray)(hl:cs.length=k)
 (x:Nat.blt 0 (1*k)=true)(g:Nat.ble (1*k) 16777216=true):Hh P env w (.buildSlice d 1 #[(0,f)]) ty (fun a w'=>∃z c',a= .slice (some ⟨z,0,none⟩) 1 1∧Mv c w c' w' []∧AI c' w' i z cs A):=
 (FM ht hx hv hl x g).mono fun a w' ⟨z,hv,x⟩=>by obtain⟨c',h⟩:=x.Du c i;exact⟨z,c',hv,h⟩
theorem AI.own{size:Nat}(h:AI c w i m cs d)(hl:cs.length=n*size)(g:n≤9223372036854775807):AJ c w i d size (.slice (some ⟨m,0,none⟩) n n) n cs:=
 ⟨⟨hl,Qs ⟨m,n,cs.toArray,(0,0),Z,Wm _,h.AE,fun h=>by simp at h,kM _,by rw[HE];exact g,by simp[hl],by simp[←hl]⟩⟩,fun k O=>by
   simp only[Value.rowOf] at O;cases f:Nat.beq n 0<;>rw[f] at O<;>simp at O
   rw[←O];exact h.BF⟩
theorem HL.D{cs':List Value}(h:HL w w' k cs' d)(f:AI c w i k cs d):AI c w' i k cs' d∧Mv c w c w' [i]:=
 ⟨⟨h.AE,f.BF⟩,⟨h.grown.os,h.grown.tape,h.grown.output,h.grown.size,fun _ _=>rfl,fun b O hc=>h.grown.block b O (fun e=>by
   injection e with e;subst e;rw[f.BF] at hc;simp[AU] at hc)⟩⟩
theorem Ap(ht:FB P d=true)(hx:BY env f=some (.pointer (some ⟨k,m,none⟩)))(hy:BY env K=some a)(hv:a.cells=#[a])(g:a.oneCell'=true)(x:AI c w i k cs A)(hi:Nat.blt m cs.length=true):
 Hh P env w (.store d f K) ty (fun _ w'=>AI c w' i k (cs.set m a) A∧Mv c w c w' [i]):=(FN ht hx hy hv g x.AE hi).mono fun _ _ h=>h.D x
theorem Am{cs':List Value}(ht:IM P d=some n)(hx:BY env f=some (.pointer (some ⟨k,0,none⟩)))(hy:BY env K=some (.agg cs'.toArray))(x:AI c w i k cs A)(hl:cs.length=n)(j:cs'.length=n)
 (g:∀v∈cs',v.oneCell'=true):Hh P env w (.store d f K) ty (fun _ w'=>AI c w' i k cs' A∧Mv c w c w' [i]):=(Ff ht hx hy x.AE hl j g).mono fun _ _ h=>h.D x
theorem kN.mvC{ys:List Value}(h:kN w w' 0 d k a y m ys)(f:AJ c w i d k a n b):∃c',Mv c w c' w' [i]∧AJ c' w' i d k y m ys:=by
 obtain⟨c',g,hx⟩:=Mv.grown c i h.grown f.BF;refine⟨c',g,h.own,fun size O=>?_⟩;rcases h.at_ with d|d
 ·rw[d] at O;rw[g.BF size (f.own.lt size O).2];exact f.BF size O
 rw[O] at d;injection d with d;exact hx size (Ado d.symm)
theorem Ax{e:TypeId}{by_:Nat}(ht:JQ P d=some (e,k,by_,b)){xs:List Value}
 (hs:BY env f=some a)(hx:BY env K=some y)(s:AJ c w i e k a n xs)(o:Src P w A k y m news)(j:n+m≤maxLen)(l:(n+m)*by_≤140737488355328):
 Hh P env w (.call ⟨.builtin .append,#[f,K],#[d,A]⟩) ty (fun v' w'=>∃c',Mv c w c' w' [i]∧AJ c' w' i e k v' (n+m) (xs++news)):=
 (Fp ht hs hx s.own o j l (Wm _)).mono fun _ _ h=>h.mvC s
theorem MU{v:Value}(ht:FB P d=true)(x:AJ c w i A 1 a n b)(hi:k<n)(hx:BY env f=some (.pointer (some (Bz a 1 k))))(hy:BY env K=some v)
 (hv:v.cells=#[v])(l:v.oneCell'=true):Hh P env w (.store d f K) ty (fun _ w'=>AJ c w' i A 1 a n (b.set k v)∧Mv c w c w' [i]):=
 (Po ht x.own hi hx hy hv l).mono fun _ w' ⟨o,hg,hs⟩=>⟨⟨o,x.BF⟩,⟨hg.os,hg.tape,hg.output,hg.size,fun _ _=>rfl,fun j O hc=>hg.block j O (fun A=>by
  rw[x.BF j A.symm] at hc;simp[AU] at hc)⟩⟩
theorem GD{n:IntKind}(c:Nat→Nat)(i:Nat)(ht:JQ P d=some (A,k,m,b))(hx:BY env f=some (.int R p))(hy:BY env K=some (.int n p))(g:0≤p)(x:p*m≤281474976710656)(j:p≤9223372036854775807):
 Hh P env w (.makeSlice d f K) ty (fun v w'=>∃c',Mv c w c' w' []∧AJ c' w' i A k v p.toNat (replicate p.toNat b).flatten):=
 (hS ht hx hy g x j).mono fun v w' ⟨_,o,x,_⟩=>by
  obtain⟨c',l,hx⟩:=Mv.pure c i x;exact⟨c',l,o.Du hx⟩
theorem Cs{op:Op}(h:DP P env w op ty a):Hh P env w op ty (fun v' w'=>v'=a∧w'=w):=Cr fun n v i d pos f g=>⟨a,w,h n v i d pos f g,Z,Z⟩
theorem Ac{op:Op}(c:Nat→Nat)(i:Nat)(h:Hh P env w op ty (fun v w'=>AZ w w'∧r v w')):
 Hh P env w op ty (fun v w'=>∃c',Mv c w c' w' []∧(∀k,w.heap.size≤k→c' k=i)∧r v w'):=
 h.mono fun _ _ ⟨f,hs⟩=>by
  obtain⟨c',g,hx⟩:=Mv.pure c i f;exact⟨c',g,hx,hs⟩
end
def Kp(c:Nat→Nat)(w0:World)(J:List Nat)(W:World):Prop:=w0.heap.size≤W.heap.size∧∀k,k<w0.heap.size→AU J (c k)=false→W.heap[k]?=w0.heap[k]?
section
variable {c c1 c2:Nat→Nat} {w0 w1 w2 W:World} {I J K:List Nat}
theorem Mv.kp(h:Mv c w0 c1 w1 J):Kp c w0 J w1:=⟨h.size,h.block⟩
theorem Kp.step(h:Kp c w0 J w1)(hc:Mv c w0 c1 w1 J)(m:Mv c1 w1 c2 w2 I)(hi:I.all (AU J)=true):Kp c w0 J w2:=
 ⟨rX h.1 m.size,fun k O f=>(m.block k (Aaq O h.1) (by rw[hc.BF k O];exact Jw hi f)).trans (h.2 k O f)⟩
theorem AI.kp(h:AI c w0 i k cs d)(f:Kp c w0 J W)(hi:AU J i=false):AI c W i k cs d:=
 ⟨(f.2 k h.AE.lt (by rw[h.BF];exact hi)).trans h.AE,h.BF⟩
theorem DG.kp{p:Addr}(h:DG c w0 K p cs)(f:Kp c w0 J W)(hi:BB K J=true):DG c W K p cs:=
 ⟨⟨h.DF.1.keep (f.2 _ h.DF.2 (Fs hi h.BF)),Aaq h.DF.2 f.1⟩,h.BF⟩
theorem AJ.kp(h:AJ c w0 i d k a n b)(f:Kp c w0 J W)(hi:AU J i=false):AJ c W i d k a n b:=
 ⟨h.own.SL fun size O=>f.2 size (h.own.lt size O).2 (by rw[h.BF size O];exact hi),h.BF⟩
end
section
variable {P:Program} {env:Env} {ty t:TypeId} {x:Operand} {c:Nat→Nat} {w0:World} {J K:List Nat}
theorem AI.kb(h:AI c w0 m n cs d)(ht:FB P t=true)(hx:BY env x=some (.pointer (some ⟨n,k,none⟩)))(hv:cs[k]?=some a)(g:AU J m=false:=by rfl):∀W,Kp c w0 J W→DP P env W (.load t x) ty a:=fun _ f=>Al ht hx (h.kp f g).AE hv
theorem AI.kn(h:AI c w0 k m cs d)(ht:IM P t=some n)(hx:BY env x=some (.pointer (some ⟨m,0,none⟩)))(hl:cs.length=n)(g:AU J k=false:=by rfl):∀W,Kp c w0 J W→DP P env W (.load t x) ty (.agg cs.toArray):=fun _ f=>Ba ht hx (h.kp f g).AE hl
theorem DG.ke{p:Addr}(h:DG c w0 K p [a])(ht:FB P t=true)(hx:BY env x=some (.pointer (some p)))(g:BB K J=true:=by rfl):∀W,Kp c w0 J W→DP P env W (.load t x) ty a:=fun _ f=>Cc ht hx (h.kp f g).DF
theorem DG.ka{p:Addr}(h:DG c w0 K p cs)(ht:IM P t=some n)(hx:BY env x=some (.pointer (some p)))(hl:cs.length=n)(g:BB K J=true:=by rfl):∀W,Kp c w0 J W→DP P env W (.load t x) ty (.agg cs.toArray):=fun _ f=>DT ht hx (h.kp f g).DF hl
theorem DG.kf{p:Addr}(h:DG c w0 K p cs)(ht:FB P t=true)(hx:BY env x=some (.pointer (some (p.add i))))(hv:cs[i]?=some a)(g:BB K J=true:=by rfl):∀W,Kp c w0 J W→DP P env W (.load t x) ty a:=fun _ f=>FF ht hx (h.kp f g).DF hv
end
structure Cw (c:Nat→Nat) (w:World) (c':Nat→Nat) (w':World) (J:List Nat):Prop where
 m:Mv c w c' w' J
section
variable {c c1 c2:Nat→Nat} {w0 w1 w2 W:World} {I J K:List Nat}
theorem Cw.kp(h:Cw c w0 c1 w1 J):Kp c w0 J w1:=h.m.kp
theorem Cw.tr(h:Cw c w0 c1 w1 J)(m:Mv c1 w1 c2 w2 I)(hi:I.all (AU J)=true:=by rfl):Cw c w0 c2 w2 J:=⟨h.m.tr m hi⟩
theorem Cw.Bl{Gjq:Prop}(h:Cw c w0 c1 w1 J)(m:Mv c1 w1 c2 w2 I)(k:Cw c w0 c2 w2 J→Gjq)(hi:I.all (AU J)=true:=by rfl):(Kp c w0 J w1→Kp c w0 J w2)∧Gjq:=⟨fun hC=>hC.step h.m m hi,k ⟨h.m.tr m hi⟩⟩
theorem AM{cx:Cx}{B:List (Nat×EI)}{env:Env}{N:EI}{ops:Array Oper}(c:Nat→Nat)(J:List Nat)(Ar is:List Nat)(h:∀w',Mv c w0 c w' []→Cw c w0 c w' J→WD cx B ops (Kp c w0 J) Ar is env w' N)(g:cx.P.follows .mixedOrders=true:=by exact mixed)(f:(Region.noSelect ops&&Nat.beq is.length ops.size&&RZ .any ops Ar is (Array.replicate ops.size false))=true:=by kernel_rfl):WC cx B (.region k ops true) env w0 N:=
 Fq (Kp c w0 J) Ar is g f (h _ (Mv.drew c w0 []) ⟨Mv.drew c w0 J⟩)
theorem EB{cx:Cx}{B:List (Nat×EI)}{env:Env}{N:EI}{ops:Array Oper}(c:Nat→Nat)(J:List Nat)(Ar:List Nat)(t:Tr)(h:∀w',Mv c w0 c w' []→Cw c w0 c w' J→WT cx B ops (Kp c w0 J) Ar t env w' N)(g:cx.P.follows .mixedOrders=true:=by exact mixed)(f:(Region.noSelect ops&&Nat.beq t.depth ops.size&&Is .any ops Ar t (Array.replicate ops.size false))=true:=by kernel_rfl):WC cx B (.region k ops true) env w0 N:=
 SN (Kp c w0 J) Ar t g f (h _ (Mv.drew c w0 []) ⟨Mv.drew c w0 J⟩)
end
section
variable {P:Program} {env:Env} {w wr:World} {ty:TypeId} {c:Nat→Nat}
theorem Tv{x:TypeId}{size:Nat}{xs:List Value}(ht:JQ P d=some (A,k,m,b))(g:AJ c wr i x size a n xs)(hx:BY env f=some a):DP P env w (.call ⟨.builtin .len,#[f],#[d]⟩) ty (I n):=by
 obtain⟨e,cp,rfl,_⟩:=g.own.len;exact Fo (DU ht).1 hx
theorem BS{l:TypeId}{sz:IntKind}{xs:List Value}(ht:JQ P d=some (A,k,m,b))(r:AJ c wr i l k a n xs)(hx:BY env f=some a)(hy:BY env K=some (.int sz p))
 (o:0≤p)(j:p<n):DP P env w (.indexAddr d f K) ty (.pointer (some (Bz a k p.toNat))):=fun _ v x t pos C g=>by
 rcases r.own.2 with⟨R,e,rfl⟩|⟨z,cap,I,J,rfl,_⟩
 ·omega
 ·simp[execOp,x.eval hx,x.eval hy,LD ht o j,Bz]
end
structure Acc (c:Nat→Nat) (w:World) (K:List Nat) (c':Nat→Nat) (w':World):Prop where
 RS:Mv c w c' w' K
theorem Acc.refl(c:Nat→Nat)(w:World)(K:List Nat):Acc c w K c w:=⟨Mv.refl _ _ _⟩
theorem Acc.D{c c1 c2:Nat→Nat}{w :World}{I:List Nat}(w1:Acc c w e c1 h)(m:Mv c1 h c2 N I:=by exact Go.Eng.KU)(hi:I.all (AU e)=true:=by rfl):Acc c w e c2 N:=⟨w1.RS.tr m hi⟩
structure Kv (c:Nat→Nat) (w:World) (Djq:Nat):Prop where
 obj:w.heap[Djq]?=some (.deferred (some []))
 BF:c Djq=901
theorem Cp{o:Obj}(h:w.heap[k]?=some o):k<w.heap.size:=(Acq.1 h).1
theorem Kv.D{c:Nat→Nat}{w:World}(h:Kv c w k)(m:Mv c w c' w' e:=by exact Go.Eng.KU)(hi:AU e 901=false:=by rfl):Kv c' w' k:=
 have f:=Cp h.obj
 ⟨(m.block k f (by rw[h.BF];exact hi)).trans h.obj,(m.BF k f).trans h.BF⟩
theorem GX(o:Obj)(hc:c k=i):Mv c w c (w.putObj k o) [i]:=
 ⟨Z,Z,Z,by simp,fun _ _=>rfl,fun l _ O=>Abx (fun e=>by subst e;rw[hc] at O;simp[AU] at O)⟩
theorem Kv.take(h:Kv c w k):Mk (marksOf (.tuple #[I k])) w (w.putObj k (.deferred none))∧Mv c w c (w.putObj k (.deferred none)) [901]:=
 ⟨⟨k,Z,h.obj,Z⟩,GX _ h.BF⟩
theorem Uo{K:List Nat}(h:AU e k=false)(hK:BB e K=true):BB e (k::K)=true:=by
 simp only[BB,Aae,Aa9] at hK⊢;intro i hi;have f:=hK i hi;have g:Nat.beq i k=false:=by
  cases l:Nat.beq i k with
  |false=>rfl
  |true=>
   have I:=Aai l;subst I;have:=Ab9.1 h i hi;simp at this
 simp only[AU,Ac3] at f⊢;rw[f,g];rfl
def LH(P:Program)(j:FuncId)(o:List Value){α:Type}(encs:α→List Value)(κ F:List Nat)(L:List α)(c:Nat→Nat)(w:World):Prop:=
 ∀(l:Nat) (J g:List α→(Nat→Nat)→World→Prop) (c1:Nat→Nat) (W:World) (K:List Nat),Mv c w c1 W K→BB (κ++F) K=true→
  (∀s d A f B,J s d A→Mv d A f B κ→J s f B)→(∀s d A f B,g s d A→Mv d A f B κ→g s f B)→
  (∀pre x d A,J pre d A→pre++[x]<+:L→∃i,BB (κ++F) i=true∧YieldAt (FW none) 0 P l (encs x).toArray A (fun e B=>∃b f,e= .returned (.bool b)∧Mv d A f B i∧(b=true→J (pre++[x]) f B)∧(b=false→g (pre++[x]) f B)))→
  J [] c1 W→
  Calls P j ([Value.func (.yield l) #[] #[]]++o).toArray W (Bt fun _ B=>∃f,J L f B∨∃pre,g pre f B)
def aq(P:Program)(j:FuncId)(o:List Value){α:Type}(encs:α→List Value)(κ F:List Nat)(Qjq:List α→α→(Nat→Nat)→World→Prop)(Fin:List α→Prop)(c:Nat→Nat)(w:World):Prop:=
 ∀(l:Nat) (J g:List α→(Nat→Nat)→World→Prop) (c1:Nat→Nat) (W:World) (K:List Nat),Mv c w c1 W K→BB (κ++F) K=true→
  (∀s d A f B,J s d A→Mv d A f B κ→J s f B)→(∀s d A f B,g s d A→Mv d A f B κ→g s f B)→
  (∀pre x d A,J pre d A→Qjq pre x d A→∃i,BB (κ++F) i=true∧YieldAt (FW none) 0 P l (encs x).toArray A (fun e B=>∃b f,e= .returned (.bool b)∧Mv d A f B i∧(b=true→J (pre++[x]) f B)∧(b=false→g (pre++[x]) f B)))→
  J [] c1 W→
  Calls P j ([Value.func (.yield l) #[] #[]]++o).toArray W (Bt fun _ B=>∃f,(∃L,Fin L∧J L f B)∨∃pre,g pre f B)
def lq(P:Program)(j:FuncId)(o:List Value){α:Type}(encs:α→List Value)(κ F:List Nat)(Φ:(Nat→Nat)→World→Prop)(Qjq:List α→α→(Nat→Nat)→World→Prop)(Fin:List α→Prop)(c:Nat→Nat)(w:World):Prop:=
 ∀(l:Nat) (J g:List α→(Nat→Nat)→World→Prop) (c1:Nat→Nat) (W:World) (K:List Nat),Mv c w c1 W K→BB (κ++F) K=true→
  (∀s d A f B,J s d A→Mv d A f B κ→J s f B)→(∀s d A f B,g s d A→Mv d A f B κ→g s f B)→(∀s d A,J s d A→Φ d A)→
  (∀pre x d A,J pre d A→Qjq pre x d A→∃i,BB (κ++F) i=true∧YieldAt (FW none) 0 P l (encs x).toArray A (fun e B=>∃b f,e= .returned (.bool b)∧Mv d A f B i∧(b=true→J (pre++[x]) f B)∧(b=false→g (pre++[x]) f B)))→
  J [] c1 W→
  Calls P j ([Value.func (.yield l) #[] #[]]++o).toArray W (Bt fun _ B=>∃f,(∃L,Fin L∧J L f B)∨∃pre,g pre f B)
theorem aq.toR{F:List Nat}(h:aq H S b encs e F Qjq Fin c w):lq H S b encs e F (fun _ _=>True) Qjq Fin c w:=
 fun l J i c1 W K p hK hJ o _ hy j=>h l J i c1 W K p hK hJ o hy j
theorem LH.toQ{F:List Nat}(h:LH H S b encs e F t c w):aq H S b encs e F (fun pre x _ _=>pre++[x]<+:t) (·=t) c w:=
 fun l J i c1 W K r hK hJ p hy o=>(h l J i c1 W K r hK hJ p hy o).mono fun _ _ ⟨v,hv,j,hd⟩=>⟨v,hv,j,hd.imp (fun x=>⟨t,Z,x⟩) id⟩
theorem dJ{env:Env}{args:Array Operand}{at_:Array TypeId}(hv:BY env f=some (.func (.yield k) #[] #[]))(hx:fu env args.toList=some b)
 (hy:YieldAt (FW none) 0 H k b.toArray w (fun e B=>∃v,e= .returned v∧r v B)):Hh H env w (.call ⟨.value f,args,at_⟩) d r:=by
 intro n a x ro ty pos o g K Qjq hK;have I:=x.SH hx;have e:args.map a.eval=b.toArray:=by rw[←I];apply Ag1;simp
 obtain⟨fn,j,assign,body,p,S⟩:=hy;have i:(execOp a.eval ⟨ty, .call ⟨.value f,args,at_⟩,d,pos,o,g⟩).run H w= .ok (.round k fn j assign body) w:=by
  simp[execOp,resolve,Deferred.ofValue,x.eval hv,invoke,e,p]
 refine⟨fun _ _=>trivial,?_⟩;rw[show(FW ro).round=ro from Z,semAt_eq i (fun ty=>by simp),i];have t:RoundIn (FW ro) (0-1) H k fn j assign body w (fun e B=>∃v,e= .returned v∧r v B):=S;exact⟨fun h=>by simp[FW,Fence.wide] at h,t.mono fun e w2 ⟨v,C,hs⟩=>by subst C;exact hK v w2 hs⟩
theorem FQ{env:Env}{args:Array Operand}{at_:Array TypeId}{R:Bool→(Nat→Nat)→World→Prop}(hv:BY env f=some (.func (.yield k) #[] #[]))(hx:fu env args.toList=some b)
 (hy:YieldAt (FW none) 0 H k b.toArray w (fun e B=>∃vs x,e= .returned (.bool vs)∧R vs x B)):Hh H env w (.call ⟨.value f,args,at_⟩) d (fun v B=>∃vs x,v= .bool vs∧R vs x B):=by
 refine dJ hv hx ?_;obtain⟨fn,o,assign,body,g,i⟩:=hy;refine⟨fn,o,assign,body,g,?_⟩;exact i.mono fun e w2 ⟨vs,x,j,hs⟩=>⟨_,j,vs,x,Z,hs⟩
theorem BD{K:List Nat}(h:BB e K=true)(hi:i∈e):AU K i=false:=by
 simp only[BB,Aae,Aa9] at h;exact h i hi
theorem CC{I' K:List Nat}(h:BB e K=true)(hi:∀i∈I',i∈e):BB I' K=true:=by
 simp only[BB,Aae,Aa9] at h⊢;exact fun i f=>h i (hi i f)
structure JC (J:(Nat→Nat)→World→Prop) (κ:List Nat) (c:Nat→Nat) (w:World):Prop where
 AB:J c w
 inv:∀d A d' B,J d A→Mv d A d' B κ→J d' B
theorem JC.D{J:(Nat→Nat)→World→Prop}{I:List Nat}{c:Nat→Nat}{w:World}(h:JC J e c w)(m:Mv c w c' w' I:=by exact Go.Eng.KU)(hi:I.all (AU e)=true:=by rfl):JC J e c' w':=⟨h.inv _ _ _ _ h.AB (m.more hi),h.inv⟩
def NJ:List Nat→List Value→Env→Env
 |p::f,v::vs,e=>NJ f vs ((p,v)::e)
 |_,_,e=>e
theorem YG{n:Nat}:∀(f:List Nat) (vs:List Value) (e:Env) (a:Act),Ex n e a→(∀p∈f,Nat.blt p n=true)→Ex n (NJ f vs e) {tmps:=(f.zip vs).foldl (fun t (x:Nat×Value)=>t.setIfInBounds x.1 x.2) a.tmps,defers:=a.defers}
 |[],vs,e,a,h,_=>by simpa[NJ] using h
 |p::f,[],e,a,h,_=>by simpa[NJ] using h
 |p::f,v::vs,e,a,h,hp=>by
  have g:=h.put (hp p Bb) v;have:=YG f vs _ _ g fun q i=>hp q (by simp[i]);simpa[NJ,Act.put] using this
abbrev hU(α:Type):=List (Nat×(List α→(Nat→Nat)→World→Prop))
def SO{α:Type}(X:hU α)(K:List Nat)(xs:List α)(d:Nat→Nat)(A:World):List (Nat×EI):=X.map fun p=>(p.1,fun _ B=>∃f,Acc d A K f B∧p.2 xs f B)
theorem PB{α:Type}{K:List Nat}{xs:List α}{d:Nat→Nat}{A:World}{id:Nat}{k:EI}:∀{X:hU α},LB (SO X K xs d A) id=some k→∃p∈X,p.1=id∧k=fun _ B=>∃g,Acc d A K g B∧p.2 xs g B
 |[],h=>by simp[SO,LB] at h
 |p::X,h=>by
  simp only[SO,Aci,LB] at h;cases f:Nat.beq p.1 id with
  |true=>
   rw[f] at h;exact⟨p,by simp,Aai f,by simpa using h.symm⟩
  |false=>
   rw[f] at h;obtain⟨q,j,i⟩:=PB (X:=X) (by simpa[SO] using h);exact⟨q,by simp[j],i⟩
abbrev I'(Djq:Nat):Value:=I (Djq:Int)
def LI(fn:FuncId)(tmps:Array Value)(g:Array Tmp)(assign body:Code)(Djq:Nat)(i:LoopState)(f:Option Code):Loop:={state:=i,pending:=f,fn,tmps:=tmps,params:=g,assign,body,defers:=Djq}
section
variable {c:Cx} {B:List (Nat×EI)} {env:Env} {w:World} {N:EI}
theorem Hu{C:Array Tmp}{assign body:Code}{κ F:List Nat}{Φ:(Nat→Nat)→World→Prop}{ms:List Value}
 (I:List α→(Nat→Nat)→World→Prop)(X:hU α)(b0:List α→(Nat→Nat)→World→Prop)(K:List Nat)
 (b9:c.Yz=none)(hg:BY env f=some (.func (.func S) #[] b.toArray))(hf:Aj c.P S=true)(hit:lq c.P S b encs κ F Φ Qjq Fin j w)(c2:AU (κ++F) 901=false)
 (e4:∀x,(encs x).length=C.size)(c5:C.all (fun p=>Nat.blt p c.n)=true)(hK:(BB (κ++F) K&& !AU K 901)=true)
 (b5:∀s d A g B,I s d A→Mv d A g B (901::κ)→I s g B)(b7:∀p∈X,∀s d A g B,p.2 s d A→Mv d A g B (901::κ)→p.2 s g B)(b8:∀s d A g B,b0 s d A→Mv d A g B (901::κ)→b0 s g B)
 (e5:∀s d A,I s d A→Φ d A)(c8:I [] j w)
 (round:∀l pre x d A,I pre d A→Qjq pre x d A→WC ⟨c.P,c.n,#[],fun _ _=>False,some l⟩ [] assign ((4000000, .tuple #[])::NJ C.toList (encs x) env) A (fun b4 A1=>∃d1,Acc d A K d1 A1∧
  ∀A2,Mv d1 A1 d1 A2 [901]→WC ⟨c.P,c.n,#[],fun _ B'=>∃g,Acc d1 A2 K g B'∧b0 (pre++[x]) g B',some l⟩ (SO X K (pre++[x]) d1 A2) body b4 A2 (fun _ B'=>∃g,Acc d1 A2 K g B'∧I (pre++[x]) g B')))
 (done:∀L Djq d B',Fin L→I L d B'→Kv d B' Djq→N ((4000000, .tuple (I' Djq::ms).toArray)::env) B')
 (c7:∀p∈X,∀Djq pre d B',p.2 pre d B'→Kv d B' Djq→∃k,LB B p.1=some k∧k ((4000000, .tuple (I' Djq::ms).toArray)::env) B')
 (e6:∀Djq pre d B',b0 pre d B'→Kv d B' Djq→WC c B .ret ((4000000, .tuple (I' Djq::ms).toArray)::env) B' N)
 (e2:Ef env=some (.tuple ms.toArray):=by rfl):WC c B (.rangeFunc f C assign body) env w N:=by
 intro a U;have e3:∀p∈C.toList,Nat.blt p c.n=true:=by
  rw[Array.all_eq_true'] at c5;intro p hp;exact c5 p (by simpa using hp)
 simp only[kg,Aa9] at hK;have a7:AU κ 901=false:=by
  simp only[AU,Aek,Aa1] at c2;exact c2.1
 refine wpIn_rangeFunc ?_;intro fn r;rw[show(FW c.Yz).round=none from b9];obtain⟨R,r⟩:∃R,(w.alloc (.deferred (some []))).alloc (.loop (LI fn a.tmps C assign body w.heap.size .ready none))=R:=⟨_,Z⟩;have c9:R.heap[w.heap.size+1]?=some (.loop (LI fn a.tmps C assign body w.heap.size .ready none)):=by
  rw[←r];have:=Ads (w.alloc (.deferred (some []))) (.loop (LI fn a.tmps C assign body w.heap.size .ready none));rwa [Ahh] at this
 have c6:R.heap[w.heap.size]?=some (.deferred (some [])):=by
  rw[←r];exact(Agz _ _ _ Bb).trans (Ads w _)
 have a1:Below w.heap.size w R:=by
  rw[←r];exact((Aar _ w).alloc (kM _) _).alloc Bb _
 obtain⟨c1,c4,J⟩:=Mv.pure j 901 a1;have e0:c1 w.heap.size=901:=J _ (kM _);have e1:c1 (w.heap.size+1)=901:=J _ G;have marks:∀(Djq:Nat),Ex c.n ((4000000, .tuple (I' Djq::ms).toArray)::env) {a with defers:={target:= .collected Djq,args:=#[]}::a.defers}:=fun Djq=>
  ⟨U.Qp,fun v hv=>by
   have:Value.tuple (I' Djq::ms).toArray=v:=by simpa[Ef] using hv
   subst this;rw[U.defers _ e2];simp[marksOf,I'],U.size,fun k v O=>U.II k v (by
   unfold look at O;cases a1:Nat.beq 4000000 k with
   |true=>rw[a1] at O;simp at O
   |false=>rw[a1] at O;simpa using O)⟩
 refine⟨w.heap.size+1,[{target:= .collected w.heap.size,args:=#[]}],R,{target:= .fn (.func S) b.toArray,args:=#[.func (.yield (w.heap.size+1)) #[] #[]]},R,S,
  #[.func (.yield (w.heap.size+1)) #[] #[]]++b.toArray,R,?_,?_,fun _ _=>trivial,?_,fun h=>by simp[FW,Fence.wide] at h,?_⟩
 ·rw[←r];exact run_enterLoop_outer _ _ _ _ _
 ·simp only[resolve,U.eval hg];simp[go_sem]
 ·simp[invoke,go_sem,IP hf]
 let r:=LI fn a.tmps C assign body w.heap.size
 have b6:∀{d:Nat→Nat} {A:World} {g:Nat→Nat} {B':World} {k:Nat} {o:Obj},Mv d A g B' κ→d k=901→A.heap[k]?=some o→g k=901∧B'.heap[k]?=some o:=fun m hd O=>by
  have b3:=Cp O;exact⟨(m.BF _ b3).trans hd,(m.block _ b3 (by rw[hd];exact a7)).trans O⟩
 have RT:∀{d:Nat→Nat} {A:World} {g:Nat→Nat} {B':World},Mv d A g B' κ→Mv d A g B' (901::κ):=fun m=>m.more (by
  rw[Aae];intro i hi;simp only[AU,Ac3,Aa3];exact .inr (Aa8.2 ⟨i,hi,by simp⟩))
 have a7:∀{d:Nat→Nat} {A:World} {g:Nat→Nat} {B':World},Mv d A g B' [901]→Mv d A g B' (901::κ):=fun m=>m.more (by simp[AU]);have c3:=hit (w.heap.size+1)
  (fun pre d A=>I pre d A∧(d (w.heap.size+1)=901∧A.heap[w.heap.size+1]?=some (.loop (r .ready none)))∧d w.heap.size=901∧A.heap[w.heap.size]?=some (.deferred (some [])))
  (fun pre d A=>∃c0,((c0= .ret∧b0 pre d A)∨∃p∈X,c0= .exit p.1∧p.2 pre d A)∧(d (w.heap.size+1)=901∧A.heap[w.heap.size+1]?=some (.loop (r .done (some c0))))∧d w.heap.size=901∧A.heap[w.heap.size]?=some (.deferred (some [])))
  c1 R [] c4 (by simp[BB,AU])
  (fun s d A g B' ⟨J,b1,b2⟩ m=>⟨b5 _ _ _ _ _ J (RT m),b6 m b1.1 b1.2,b6 m b2.1 b2.2⟩)
  (fun s d A g B' ⟨c0,J,b1,b2⟩ m=>⟨c0,J.imp (fun h=>⟨h.1,b8 _ _ _ _ _ h.2 (RT m)⟩) (fun⟨p,hp,e,h⟩=>⟨p,hp,e,b7 p hp _ _ _ _ _ h (RT m)⟩),b6 m b1.1 b1.2,b6 m b2.1 b2.2⟩)
  (fun s d A ⟨J,_⟩=>e5 s d A J) ?_ ⟨b5 _ _ _ _ _ c8 (c4.more Z),⟨e1,c9⟩,e0,c6⟩
 ·rw[show([Value.func (.yield (w.heap.size+1)) #[] #[]]++b).toArray=#[.func (.yield (w.heap.size+1)) #[] #[]]++b.toArray by simp] at c3;have J:CallsIn (FW none) (0-1) c.P S (#[.func (.yield (w.heap.size+1)) #[] #[]]++b.toArray) R _:=(Ahc (n:=0)).2 c3;rw[b9];refine J.mono ?_;rintro e R ⟨v,rfl,g,(⟨L,hF,hi,hl,O⟩|⟨pre,c0,b6,hl,O⟩)⟩
  ·have b1:Mv g R g (R.putObj (w.heap.size+1) (.loop {r .ready none with state:= .exhausted})) [901]:=GX _ hl.1;refine⟨none,_,Ahk hl.2 (by simp[r,LI]),_,marks _,done L _ g _ hF (b5 _ _ _ _ _ hi (a7 b1)) ⟨(Abx G).trans O.2,O.1⟩⟩
  have b1:Mv g R g (R.putObj (w.heap.size+1) (.loop {r .done (some c0) with state:= .exhausted})) [901]:=GX _ hl.1;have b2:Kv g (R.putObj (w.heap.size+1) (.loop {r .done (some c0) with state:= .exhausted})) w.heap.size:=⟨(Abx G).trans O.2,O.1⟩;refine⟨some c0,_,Ahk hl.2 (by simp[r,LI]),?_⟩;rcases b6 with⟨rfl,hx⟩|⟨p,hp,rfl,hx⟩
  ·have:=e6 _ pre g _ (b8 _ _ _ _ _ hx (a7 b1)) b2 _ (marks _);rw[b9] at this;exact this
  obtain⟨k,R,b6⟩:=c7 p hp _ pre g _ (b7 p hp _ _ _ _ _ hx (a7 b1)) b2;exact wpIn_exit ⟨k,_,R,marks _,b6⟩
 rintro pre x d A ⟨hi,hl,O⟩ R;refine⟨901::K,Uo c2 hK.1,fn,_,assign,body,run_yield hl.2 (by simp[r,LI,e4 x]),?_⟩;refine roundIn_of_wpIn trivial (Aer (round (w.heap.size+1) pre x d A hi R _ ?_) ?_)
 ·have R:Ex c.n ((4000000, .tuple #[])::env) {tmps:=a.tmps,defers:=[]}:=
   ⟨U.Qp,fun v hv=>by
    have:Value.tuple #[]=v:=by simpa[Ef] using hv
    subst this;rfl,U.size,fun k v O=>U.II k v (by
    unfold look at O;cases a1:Nat.beq 4000000 k with
    |true=>rw[a1] at O;simp at O
    |false=>rw[a1] at O;simpa using O)⟩
  have b4:Ex c.n env {tmps:=a.tmps,defers:=a.defers}:=U;have J:=YG C.toList (encs x) _ _ b4 e3
  have U:((C.zip (encs x).toArray).foldl (fun R (t,a)=>R.setIfInBounds t a) a.tmps)=(C.toList.zip (encs x)).foldl (fun t (x:Nat×Value)=>t.setIfInBounds x.1 x.2) a.tmps:=by
   rw[←Ag0,Array.toList_zip]
  refine⟨J.Qp,fun v hv=>?_,?_,fun k v O=>?_⟩
  ·have:Value.tuple #[]=v:=by simpa[Ef] using hv
   subst this;rfl
  ·have:=J.size;show((C.zip (encs x).toArray).foldl (fun R (t,a)=>R.setIfInBounds t a) a.tmps).size=c.n
   rw[U];exact this
  have b1:look (NJ C.toList (encs x) env) k=some v:=by
   unfold look at O;cases a1:Nat.beq 4000000 k with
   |true=>rw[a1] at O;simp at O
   |false=>rw[a1] at O;simpa using O
  have:=J.II k v b1;show((C.zip (encs x).toArray).foldl (fun R (t,a)=>R.setIfInBounds t a) a.tmps)[k]?=some v
  rw[U];exact this
 intro e b1 A1 J;cases e with
 |normal=>
  obtain⟨b4,c3,d1,U,c4⟩:=J;have b3:=Cp hl.2;have R:=Cp O.2;have a1:d1 (w.heap.size+1)=901∧A1.heap[w.heap.size+1]?=some (.loop (r .ready none)):=⟨(U.RS.BF _ b3).trans hl.1,(U.RS.block _ b3 (by rw[hl.1];exact hK.2)).trans hl.2⟩;have b2:d1 w.heap.size=901∧A1.heap[w.heap.size]?=some (.deferred (some [])):=⟨(U.RS.BF _ R).trans O.1,(U.RS.block _ R (by rw[O.1];exact hK.2)).trans O.2⟩;refine⟨_,run_beginRound a1.2 Z,?_⟩;have c6:Mv d1 A1 d1 (A1.putObj (w.heap.size+1) (.loop {r .ready none with state:= .busy})) [901]:=GX _ a1.1;have b6:(A1.putObj (w.heap.size+1) (.loop {r .ready none with state:= .busy})).heap[w.heap.size+1]?=some (.loop {r .ready none with state:= .busy}):=Aey (Cp a1.2);have b3:(A1.putObj (w.heap.size+1) (.loop {r .ready none with state:= .busy})).heap[w.heap.size]?=some (.deferred (some [])):=(Abx G).trans b2.2;refine Aer (c4 _ c6 b1 c3) ?_;have b1:∀(c0:Option Code) (A3:World) (d3:Nat→Nat),Acc d1 (A1.putObj (w.heap.size+1) (.loop {r .ready none with state:= .busy})) K d3 A3→
   (Instr.endRound (w.heap.size+1) c0).run c.P A3= .ok (.bool c0.isNone) (A3.putObj (w.heap.size+1) (.loop (r (if c0.isNone then .ready else .done) c0)))∧
   Mv d A d3 (A3.putObj (w.heap.size+1) (.loop (r (if c0.isNone then .ready else .done) c0))) (901::K)∧Mv d3 A3 d3 (A3.putObj (w.heap.size+1) (.loop (r (if c0.isNone then .ready else .done) c0))) [901]∧
   (d3 (w.heap.size+1)=901∧(A3.putObj (w.heap.size+1) (.loop (r (if c0.isNone then .ready else .done) c0))).heap[w.heap.size+1]?=some (.loop (r (if c0.isNone then .ready else .done) c0)))∧
   d3 w.heap.size=901∧(A3.putObj (w.heap.size+1) (.loop (r (if c0.isNone then .ready else .done) c0))).heap[w.heap.size]?=some (.deferred (some [])):=fun c0 A3 d3 R=>by
   have c3:d3 (w.heap.size+1)=901:=(R.RS.BF _ (Cp b6)).trans a1.1;have c4:A3.heap[w.heap.size+1]?=some (.loop {r .ready none with state:= .busy}):=(R.RS.block _ (Cp b6) (by rw[a1.1];exact hK.2)).trans b6;have b6:A3.heap[w.heap.size]?=some (.deferred (some [])):=(R.RS.block _ (Cp b3) (by rw[b2.1];exact hK.2)).trans b3;have a1:Mv d3 A3 d3 (A3.putObj (w.heap.size+1) (.loop (r (if c0.isNone then .ready else .done) c0))) [901]:=GX _ c3;have sub:K.all (AU (901::K))=true:=by
    rw[Aae];intro i hi;simp only[AU,Ac3,Aa3];exact .inr (Aa8.2 ⟨i,hi,by simp⟩)
   have one:[901].all (AU (901::K))=true:=by simp[AU]
   refine⟨run_endRound c0 c4,(((U.RS.more sub).tr c6 one).tr R.RS sub).tr a1 one,a1,⟨c3,Aey (Cp c4)⟩,(R.RS.BF _ (Cp b3)).trans b2.1,(Abx G).trans b6⟩
  intro r a1 A3 hp;cases r with
  |normal=>
   obtain⟨_,_,d3,r,R⟩:=hp;obtain⟨f1,f2,f3,f4,f5⟩:=b1 none A3 d3 r;exact⟨_,_,f1,true,d3,Z,f2,fun _=>⟨b5 _ _ _ _ _ R (a7 f3),f4,f5⟩,fun h=>(by cases h)⟩
  |ret=>
   obtain⟨w',⟨ht,R⟩,v,hv,d3,r,U⟩:=hp;have R:a1.defers=[]:=R.resolve_left Bb;rw[R] at ht;have:w'=A3:=ht;subst this;obtain⟨f1,f2,f3,f4,f5⟩:=b1 (some .ret) w' d3 r;exact⟨_,_,f1,false,d3,Z,f2,fun h=>(by cases h),fun _=>⟨_, .inl ⟨Z,b8 _ _ _ _ _ U (a7 f3)⟩,f4,f5⟩⟩
  |exit id=>
   obtain⟨k,R,R,_,b2⟩:=hp;obtain⟨p,a1,rfl,rfl⟩:=PB R;obtain⟨d3,r,U⟩:=b2;obtain⟨f1,f2,f3,f4,f5⟩:=b1 (some (.exit p.1)) A3 d3 r;exact⟨_,_,f1,false,d3,Z,f2,fun h=>(by cases h),fun _=>⟨_, .inr ⟨p,a1,Z,b7 p a1 _ _ _ _ _ U (a7 f3)⟩,f4,f5⟩⟩
  |goto t=>exact hp.elim
  |panic r=>exact hp.elim
  |outgrown=>exact hp.elim
 |exit id=>obtain⟨k,_,R,_⟩:=J;simp[LB] at R
 |ret=>obtain⟨_,_,_,_,h⟩:=J;exact h.elim
 |goto t=>exact J.elim
 |panic r=>exact J.elim
 |outgrown=>exact J.elim
theorem NK{c0:Array Tmp}{assign body:Code}{g:FuncId}{κ F:List Nat}{ms:List Value}
 (I:List α→(Nat→Nat)→World→Prop)(X:hU α)(i:List α→(Nat→Nat)→World→Prop)(K:List Nat)
 (a1:c.Yz=none)(hg:BY env f=some (.func (.func g) #[] b.toArray))(hf:Aj c.P g=true)(hit:aq c.P g b encs κ F Qjq Fin j w)(a6:AU (κ++F) 901=false)
 (U:∀x,(encs x).length=c0.size)(R:c0.all (fun p=>Nat.blt p c.n)=true)(hK:(BB (κ++F) K&& !AU K 901)=true)
 (t:∀s d A g B,I s d A→Mv d A g B (901::κ)→I s g B)(C:∀p∈X,∀s d A g B,p.2 s d A→Mv d A g B (901::κ)→p.2 s g B)(J:∀s d A g B,i s d A→Mv d A g B (901::κ)→i s g B)
 (r:I [] j w)
 (round:∀l pre x d A,I pre d A→Qjq pre x d A→WC ⟨c.P,c.n,#[],fun _ _=>False,some l⟩ [] assign ((4000000, .tuple #[])::NJ c0.toList (encs x) env) A (fun b A1=>∃d1,Acc d A K d1 A1∧
  ∀A2,Mv d1 A1 d1 A2 [901]→WC ⟨c.P,c.n,#[],fun _ B'=>∃g,Acc d1 A2 K g B'∧i (pre++[x]) g B',some l⟩ (SO X K (pre++[x]) d1 A2) body b A2 (fun _ B'=>∃g,Acc d1 A2 K g B'∧I (pre++[x]) g B')))
 (done:∀L Djq d B',Fin L→I L d B'→Kv d B' Djq→N ((4000000, .tuple (I' Djq::ms).toArray)::env) B')
 (g:∀p∈X,∀Djq pre d B',p.2 pre d B'→Kv d B' Djq→∃k,LB B p.1=some k∧k ((4000000, .tuple (I' Djq::ms).toArray)::env) B')
 (a7:∀Djq pre d B',i pre d B'→Kv d B' Djq→WC c B .ret ((4000000, .tuple (I' Djq::ms).toArray)::env) B' N)
 (b:Ef env=some (.tuple ms.toArray):=by rfl):WC c B (.rangeFunc f c0 assign body) env w N:=
 Hu I X i K a1 hg hf hit.toR a6 U R hK t C J (fun _ _ _ _=>trivial) r round done g a7 b
theorem EJ{c0:Array Tmp}{assign body:Code}{κ F:List Nat}{L:List α}{ms:List Value}
 (I:List α→(Nat→Nat)→World→Prop)(X:hU α)(i:List α→(Nat→Nat)→World→Prop)(K:List Nat)
 (b1:c.Yz=none)(hg:BY env f=some (.func (.func S) #[] b.toArray))(hf:Aj c.P S=true)(hit:LH c.P S b encs κ F L j w)(b2:AU (κ++F) 901=false)
 (b0:∀x,(encs x).length=c0.size)(a8:c0.all (fun p=>Nat.blt p c.n)=true)(hK:(BB (κ++F) K&& !AU K 901)=true)
 (U:∀s d A g B,I s d A→Mv d A g B (901::κ)→I s g B)(a1:∀p∈X,∀s d A g B,p.2 s d A→Mv d A g B (901::κ)→p.2 s g B)(a6:∀s d A g B,i s d A→Mv d A g B (901::κ)→i s g B)
 (J:I [] j w)
 (round:∀l pre x d A,I pre d A→pre++[x]<+:L→WC ⟨c.P,c.n,#[],fun _ _=>False,some l⟩ [] assign ((4000000, .tuple #[])::NJ c0.toList (encs x) env) A (fun t A1=>∃d1,Acc d A K d1 A1∧
  ∀A2,Mv d1 A1 d1 A2 [901]→WC ⟨c.P,c.n,#[],fun _ B'=>∃g,Acc d1 A2 K g B'∧i (pre++[x]) g B',some l⟩ (SO X K (pre++[x]) d1 A2) body t A2 (fun _ B'=>∃g,Acc d1 A2 K g B'∧I (pre++[x]) g B')))
 (done:∀Djq d B',I L d B'→Kv d B' Djq→N ((4000000, .tuple (I' Djq::ms).toArray)::env) B')
 (C:∀p∈X,∀Djq pre d B',p.2 pre d B'→Kv d B' Djq→∃k,LB B p.1=some k∧k ((4000000, .tuple (I' Djq::ms).toArray)::env) B')
 (b3:∀Djq pre d B',i pre d B'→Kv d B' Djq→WC c B .ret ((4000000, .tuple (I' Djq::ms).toArray)::env) B' N)
 (a7:Ef env=some (.tuple ms.toArray):=by rfl):WC c B (.rangeFunc f c0 assign body) env w N:=
 NK I X i K b1 hg hf hit.toQ b2 b0 a8 hK U a1 a6 J round (fun R Djq d B' e h R=>by subst e;exact done Djq d B' h R) C b3 a7
theorem GF{r:ResultVar}(o:c.Wp=#[r])(l:c.Yz=none)(hT:Mk (marksOf y) w w')(h:FD c env w' r a)(g:c.S a w')(j:Ef env=some y:=by rfl):WC c B .ret env w N:=fun v f=>
 Aff ⟨w',⟨by rw[f.defers _ j];exact hT, .inl l⟩,a,fun fn i=>by rw[Jt c.P,i,o];simp[h v f],g⟩
theorem Jx{j l:ResultVar}{m:Value}(J:c.Wp=#[j,l])(I:c.Yz=none)(hT:Mk (marksOf m) w w')(o:FD c env w' j a)(p:FD c env w' l y)(r:c.S (.tuple #[a,y]) w')(C:Ef env=some m:=by rfl):WC c B .ret env w N:=fun g f=>
 Aff ⟨w',⟨by rw[f.defers _ C];exact hT, .inl I⟩, .tuple #[a,y],fun fn t=>by rw[Jt c.P,t,J];simp[o g f,p g f],r⟩
theorem Up{f l o:ResultVar}{j m:Value}(I:c.Wp=#[f,l,o])(C:c.Yz=none)(hT:Mk (marksOf m) w w')(p:FD c env w' f a)(r:FD c env w' l y)(l:FD c env w' o j)(o:c.S (.tuple #[a,y,j]) w')(t:Ef env=some m:=by rfl):WC c B .ret env w N:=fun g f=>
 Aff ⟨w',⟨by rw[f.defers _ t];exact hT, .inl C⟩, .tuple #[a,y,j],fun fn a=>by rw[Jt c.P,a,I];simp[p g f,r g f,l g f],o⟩
end
section
variable {cx:Cx} {B:List (Nat×EI)} {env:Env} {w:World} {N:EI} {ops:Array Oper} {C:World→Prop} {Ar is:List Nat}
theorem BU{l tl:List Oper}(κ:Nat→Nat)(q:Bool)(s:Nat)(x:Bool){b:Bool}{p:Prop}{pos:Operand}(h:vZ cx ops env q s l tl k m n b p A v o g K pos)
 (hT:p→Acc κ w [] κ w→WR cx B ops (l.take s) ((k, .bool q)::env) w (fun e w'=>look e m=some (.bool x)∧Sub ((k, .bool q)::env) e∧∃c',Acc κ w [] c' w'))
 (next:∀w' c',Mv κ w c' w' []→WR cx B ops tl ((n, .bool (bif q then b&&x else b||x))::env) w' N):WR cx B ops l env w N:=
 YC q s x (fun w'=>∃c',Acc κ w [] c' w') h.hs h.hl h.hg h.hu h.hv h.Hs h.hd (fun e=>hT (h.hp▸e) (Acc.refl _ _ _)) (fun _=>⟨_,Acc.refl _ _ _⟩) (fun _ ⟨_,h⟩=>next _ _ h.RS)
theorem BV{i:Nat→Nat}{f:Env}{x:Bool}(m:Nat)(a:Acc j h [] i w)(g:look env k=some (.bool x):=by rfl)(hd:env.drop m=f:=by rfl)(hf:MP f m env=true:=by rfl):WR cx B ops [] env w (fun e w'=>look e k=some (.bool x)∧Sub f e∧∃c',Acc j h [] c' w'):=Et ⟨g,Sub.drop _ m _ hd hf,_,a⟩
theorem Fa{t:Nat}{x:Array Edge}{rest:List Oper}(c:Nat→Nat)(i:Nat)(next:∀w' b c',Mv c w c' w' []→AI c' w' i b cs d→WR cx B ops rest ((t, .pointer (some ⟨b,0,none⟩))::env) w' N)
 (hx:BY env f=some (.agg cs.toArray):=by rfl)(hd:Nat.blt t cx.n=true:=by rfl):WR cx B ops (⟨some t, .box d f,A,v,x,none⟩::rest) env w N:=TK (WY c i hx) hd fun pos w' ⟨b,c',e,g,j⟩=>e▸next w' b c' g j
theorem Mn{t:Nat}{x:Array Edge}{rest:List Oper}(c:Nat→Nat)(i:Nat)(next:∀w' b c',Mv c w c' w' []→AI c' w' i b [a] d→WR cx B ops rest ((t, .pointer (some ⟨b,0,none⟩))::env) w' N)
 (hx:BY env f=some a:=by rfl)(hu:a.cells=#[a]:=by first|rfl|assumption)(hd:Nat.blt t cx.n=true:=by rfl):WR cx B ops (⟨some t, .box d f,A,v,x,none⟩::rest) env w N:=TK (dI c i hx hu) hd fun pos w' ⟨b,c',e,g,j⟩=>e▸next w' b c' g j
theorem EK{t:Nat}{rest:List Oper}(c:Nat→Nat)(i:Nat)(l:Fx cx.P d=some b)(next:∀w' z c',Mv c w c' w' []→AI c' w' i z b d→WR cx B ops rest ((t, .pointer (some ⟨z,0,none⟩))::env) w' N)
 (hd:Nat.blt t cx.n=true:=by rfl):WR cx B ops (⟨some t, .alloc d,A,v,o,none⟩::rest) env w N:=TK (CB c i l) hd fun pos w' ⟨z,c',e,g,j⟩=>e▸next w' z c' g j
end
def En(v:Value)(lo hi sz:Nat):Value:=match v with
 | .slice A _ c=> .slice (if c=lo then A else A.map (·.add (lo*sz))) (hi-lo) (c-lo)
 |u=>u
section
variable {P:Program} {env:Env} {w:World} {ty:TypeId} {t e:TypeId} {sz by_:Nat} {z:List Value}
theorem Uq{A:Option Addr}{c:Nat}{lo hi:Option Value}{l h:Nat}(ht:JQ P t=some (e,sz,by_,z))(f:(Instr.sliceBounds true n c lo hi none).run P w= .ok (l,h,c) w):
 (Instr.slice t (.slice A n c) lo hi none).run P w= .ok (En (.slice A n c) l h sz) w:=by
 obtain⟨hu,i,j,g,hs,_⟩:=DU ht;subst hs;simp[Instr.slice,Aaj hu,f,sizeOf,typeInfo,g,En]
theorem DJ{A:Option Addr}{c:Nat}(ht:JQ P t=some (e,sz,by_,z))(hx:BY env f=some (.slice A n c))(hy:BY env K=some (.int R p))(j:0≤p)(r:p≤n):
 DP P env w (.slice t f (some K) none none) ty (En (.slice A n c) p.toNat n sz):=fun _ a x d pos i g=>by
 obtain⟨m,rfl⟩:=Abv j;have o:m≤n:=G;have:=Uq (P:=P) (w:=w) (A:=A) (n:=n) (c:=c) (lo:=some (.int R m)) (hi:=none) (l:=m) (h:=n) ht (by simp[Instr.sliceBounds,Instr.sliceBound,asIntOf,o]);simp only[execOp,Instr.sliceAt,x.eval hx,x.eval hy,Aa7,Ahf,Abk];simp[Aaj (DU ht).1,this]
theorem MV{A:Option Addr}{c:Nat}(ht:JQ P t=some (e,sz,by_,z))(hx:BY env f=some (.slice A n c))(hy:BY env K=some (.int R p))(j:0≤p)(r:p≤c):
 DP P env w (.slice t f none (some K) none) ty (En (.slice A n c) 0 p.toNat sz):=fun _ a x d pos i g=>by
 obtain⟨m,rfl⟩:=Abv j;have o:m≤c:=G;have:=Uq (P:=P) (w:=w) (A:=A) (n:=n) (c:=c) (lo:=none) (hi:=some (.int R m)) (l:=0) (h:=m) ht (by simp[Instr.sliceBounds,Instr.sliceBound,asIntOf,o]);simp only[execOp,Instr.sliceAt,x.eval hx,x.eval hy,Aa7,Ahf,Abk];simp[Aaj (DU ht).1,this]
theorem tO{i:Operand}{A:Option Addr}{c:Nat}{o:IntKind}{j:Int}(ht:JQ P t=some (e,sz,by_,z))(hx:BY env f=some (.slice A n c))(hy:BY env K=some (.int R p))(J:BY env i=some (.int o j))(r:0≤p)(k:p≤j)(U:j≤c):
 DP P env w (.slice t f (some K) (some i) none) ty (En (.slice A n c) p.toNat j.toNat sz):=fun _ a x d pos C g=>by
 obtain⟨m,rfl⟩:=Abv r;obtain⟨q,rfl⟩:=Abv (show 0≤j by omega);have C:m≤q:=G;have I:q≤c:=G;have:=Uq (P:=P) (w:=w) (A:=A) (n:=n) (c:=c) (lo:=some (.int R m)) (hi:=some (.int o q)) (l:=m) (h:=q) ht (by simp[Instr.sliceBounds,Instr.sliceBound,asIntOf,C,I]);simp only[execOp,Instr.sliceAt,x.eval hx,x.eval hy,x.eval J,Aa7,Ahf,Abk];simp[Aaj (DU ht).1,this]
end
section
variable {α:Type} {s:Shape α} {B:Nat} {w:World} {v:Value} {l:List α}
theorem FC.part(h:FC s B w v l){lo hi:Nat}(C:lo≤hi)(I:hi≤l.length):FC s B w (En v lo hi s.size) ((l.drop lo).take (hi-lo)):=by
 obtain⟨A,c,rfl,hc,f,r⟩:=h.form;have g:((l.drop lo).take (hi-lo)).length=hi-lo:=by simp;omega
 refine⟨⟨_,c-lo,by rw[g];rfl,by rw[g];omega,G,fun a f p=>?_⟩,fun i x o=>?_,fun p=>?_,by have:=h.small;omega⟩
 ·rw[g] at p;rw[ss G] at f;cases A with
  |none=>simp at f
  |some j=>
   simp at f;subst f;rw[Gk];exact r j Z G
 ·have r:i<hi-lo:=by
   rcases Aab i (hi-lo) with f|f
   ·exact f
   rw[Aam (by rw[g];exact f)] at o;cases o
  rw[Ab2,zm r,Acb] at o;obtain⟨cs,r,t⟩:=h.elem _ _ o;obtain⟨j,c',f⟩:=h.addr G;injection f with f _ _;subst f;refine⟨cs,?_,t⟩;simp only[En,ss (show¬c=lo by omega),Aa7,Bz,add_add] at r⊢;rw[Aad] at r;exact r
 rw[g] at p;obtain⟨j,c',f⟩:=h.addr G;injection f with f _ _;subst f;exact⟨j.add (lo*s.size),c-lo,by rw[g];simp[En,ss (show¬c=lo by omega)]⟩
theorem FC.from_(h:FC s B w v l){lo:Nat}(f:lo≤l.length):FC s B w (En v lo l.length s.size) (l.drop lo):=by
 have:=h.part (lo:=lo) (hi:=l.length) f (kM _);rwa [vq Bb] at this
theorem FC.to_(h:FC s B w v l){hi:Nat}(f:hi≤l.length):FC s B w (En v 0 hi s.size) (l.take hi):=by
 have:=h.part (lo:=0) (hi:=hi) (Wm _) f;simpa using this
theorem Src.flat{enc:α→List Value}{ok:α→Prop}{f:∀x,(enc x).length=n}{g:∀x,∀d∈enc x,d.oneCell'=true}(hu:H.underlying d=some (.slice A))(h:FC (Shape.flat n enc ok f g) B w v l):Src H w d n v l.length (l.flatMap enc):=by
 rw[Acj];exact Src.rd (s:=Shape.flat n enc ok f g) hu h Bb fun i cs hi=>by
  rw[Aah,Abm] at hi;obtain⟨x,hx,rfl⟩:=hi;obtain⟨cs,o,p,_⟩:=h.elem i x hx;subst p;exact⟨f x,g x,o⟩
end
section
variable {P:Program} {env:Env} {w:World} {ty t ty2:TypeId} {x y:Operand} {l r:List UInt8} (hx:BY env x=some (St l)) (hy:BY env y=some (St r))
include hx hy
theorem zG:DP P env w (.binOp .leq t x y ty2) ty (.bool (Op.bytesLess l r||(l==r))):=fun _ a f d pos i g=>by simp[execOp,f.eval hx,f.eval hy,eqGuard,binOp,Op.stringOp,toList_mk]
theorem zH:DP P env w (.binOp .geq t x y ty2) ty (.bool (!Op.bytesLess l r)):=fun _ a f d pos i g=>by simp[execOp,f.eval hx,f.eval hy,eqGuard,binOp,Op.stringOp,toList_mk]
end
theorem WZ{b:List α}(f:k<t.length)(g:k<b.length)(h:t.take k=b.take k)(i:t[k]=b[k]):t.take (k+1)=b.take (k+1):=by
 rw[pk f,pk g,h,i]
theorem fB{b:List α}(g:k<t.length)(i:k<b.length)(f:t[k]≠b[k]):t≠b:=fun e=>by subst e;exact f Z
theorem ar{b:List α}(h:t.take k=b.take k)(f:t.length≤k)(g:b.length≤k):t=b:=by
 rwa [vq f,vq g] at h
theorem Hi{g:Type}(f:α→List g)(h:k<t.length):(t.take (k+1)).flatMap f=(t.take k).flatMap f++f t[k]:=by
 rw[pk h,Aan];simp
theorem Ur(h:k≤t.length):(t.take k).length=k:=by simp;omega
theorem EN{i:Type}{f:α→List i}(h:∀x,(f x).length=n)(l:List α):(l.flatMap f).length=l.length*n:=by
 induction l with
 |nil=>simp
 |cons x r g=>simp[Aaa,g,h,Aad];omega
def be:Nat→Int→List UInt8
 |0,_=>[]
 |s+1,n=>MO (n/256^s)::be s n
def Bi(l:List UInt8):Nat:=l.foldl (fun n b=>n*256+b.toNat) 0
theorem Be:∀(s:Nat) (n:Int),(be s n).length=s
 |0,_=>rfl
 |s+1,n=>by simp[be,Be s n]
theorem fC:∀(s k:Nat) (n:Int),k≤s→(be s n).drop (s-k)=be k n
 |0,k,n,h=>by have:k=0:=G
              subst this;rfl
 |s+1,k,n,h=>by
  rcases Aab k (s+1) with f|f
  ·have:s+1-k=(s-k)+1:=G;rw[this];simp only[be,Agm];exact fC s k n G
  ·have:k=s+1:=G;subst this;simp
theorem YH(s k:Nat)(n:Int)(h:k+1≤s):(be s n).take (s-k)=(be s n).take (s-(k+1))++[MO (n/256^k)]:=by
 have i:s-k=(s-(k+1))+1:=G;have g:s-(k+1)<(be s n).length:=by rw[Be];omega
 rw[i,pk g];congr 1;have j:=fC s (k+1) n h;have f:((be s n).drop (s-(k+1)))[0]?=some (MO (n/256^k)):=by rw[j];rfl
 rw[Acb,Aeg,dd g] at f;simpa using f
theorem au(s:Nat)(n:Int):(be s n).take s=be s n:=vq (by rw[Be];exact kM _)
theorem zI(j:Nat):(2:Int)^(8*j)=256^j:=by rw[Int.pow_mul];rfl
theorem Jy(l:List UInt8)(b:UInt8):Bi (l++[b])=Bi l*256+b.toNat:=by simp[Bi]
theorem HV(l:List UInt8):Bi l<256^l.length:=by
 have key:∀(l:List UInt8) (a k:Nat),a<256^k→l.foldl (fun n b=>n*256+b.toNat) a<256^(k+l.length):=by
  intro l;induction l with
  |nil=>intro a k h;simpa using h
  |cons b r f=>
   intro a k h;have g:=b.toNat_lt;have:=f (a*256+b.toNat) (k+1) (by rw[Nat.pow_succ];omega);simpa[Agu,Adi 1] using this
 have:=key l 0 0 Bb;simpa[Bi] using this
theorem YI(m:Int):MO m=MO (m%256):=by unfold MO;rw[Agj _ (by exact⟨1,Z⟩)]
theorem SP(p x:Int)(hp:0<p):(x/p)%256=(x%(p*256))/p:=by
 have f:x=p*(x/p)+x%p:=(Int.mul_ediv_add_emod x p).symm;have g:x/p=256*(x/p/256)+(x/p)%256:=(Int.mul_ediv_add_emod _ _).symm;have o:=Ael x (show p≠0 by omega);have C:=Aen x hp;have I:=Ael (x/p) (show(256:Int)≠0 by omega);have J:=Aen (x/p) (show(0:Int)<256 by omega);generalize x/p%256=r at*;generalize x%p=t at*;generalize x/p/256=q at*;have i:x=(p*r+t)+(p*256)*q:=by rw[f,g,Int.mul_add];rw[←Int.mul_assoc];omega
 have j:0≤p*r+t:=by have:=Aef (Int.le_of_lt hp) I;omega
 have l:p*r+t<p*256:=by
  have:p*r≤p*255:=Int.mul_le_mul_of_nonneg_left G G;omega
 rw[i,Int.add_mul_emod_self_left,Int.emod_eq_of_lt j l,Int.add_comm,Int.add_mul_ediv_left _ _ G,Int.ediv_eq_zero_of_lt o C];omega
theorem Qx:∀(s:Nat) (m n:Int),m%256^s=n%256^s→be s m=be s n
 |0,_,_,_=>rfl
 |s+1,m,n,h=>by
  have hp:(0:Int)<256^s:=Int.pow_pos AO;have e:(256:Int)^(s+1)=256^s*256:=Int.pow_succ _ _;have f:∀x:Int,x%256^s=(x%256^(s+1))%256^s:=fun x=>by
   rw[Agj];exact⟨256,e⟩
  simp only[be];rw[YI (m/_),YI (n/_),SP _ m hp,SP _ n hp,←e,h,Qx s m n (by rw[f m,f n,h])]
abbrev W32(n:Int):Value:= .int .u32 n
def zJ(n:Int):Int:=n%4294967296
def zy(m n:Int):Int:=(((BitVec.ofInt 32 m)^^^(BitVec.ofInt 32 n)).toNat:Int)
def o32(m n:Int):Int:=(((BitVec.ofInt 32 m)|||(BitVec.ofInt 32 n)).toNat:Int)
def gW(v:List Int)(i:Nat):Int:=v[i]?.getD 0
def g2(l:List (List Nat))(i j:Nat):Nat:=(l[i]?.getD [])[j]?.getD 0
def pz:List Int:=[1779033703,3144134277,1013904242,2773480762,1359893119,2600822924,528734635,1541459225]
def wb(s:List UInt8)(m:List Int)(i:Nat):List Int:=m.set (i/4) (o32 (gW m (i/4)) (zJ (((s[i]?.getD 0).toNat:Int)*2^(8*(i%4)))))
section
variable {P:Program} {env:Env} {w:World} {ty t e:TypeId} {n sz:Nat}
end
theorem ES{env:Env}{T:TypeId}(ht:IM H A=some n)(hx:BY env f=some (.pointer (some ⟨k,m,none⟩)))(x:Gt w k cs T)(hl:m+n≤cs.length):DP H env w (.load A f) d (.agg ((cs.drop m).take n).toArray):=
 kV ht hx (fun j v hv=>by
  rw[add_lit,x.cell];rw[Ab2] at hv;split at hv
  ·rwa [Acb] at hv
  ·cases hv) (by simp;omega)
theorem Us{P:Program}{env:Env}{cs':List Value}{T:TypeId}(ht:IM P A=some n)(hx:BY env f=some (.pointer (some ⟨k,m,none⟩)))(hy:BY env K=some (.agg cs'.toArray))(x:AI c w i k cs T)
 (j:cs'.length=n)(R:m+n≤cs.length)(p:∀v∈cs',v.oneCell'=true):Hh P env w (.store A f K) d (fun _ w'=>AI c w' i k (cs.take m++cs'++cs.drop (m+n)) T∧Mv c w c w' [i]):=
 FL fun _ a l ty pos J g=>by
  obtain⟨_,U,C,I⟩:=HU (w:=w) ht;have o:=ER (P:=P) k m T (0,0) cs' 0 cs.toArray w x.AE (fun h=>by simp at h) (by simp;omega) p;simp only[Aeg,j] at o;have r:=(HL.row x.AE (cs':=cs.take m++cs'++cs.drop (m+n))).D x;refine⟨_,?_,r⟩;simp only[execOp,Instr.storeAt,storeVar,l.eval hx,l.eval hy,Instr.sureAddr,Abk,Acw,Abd,sizeOf,typeInfo,program,Sem.run,C,Value.cells,Abz,j,I];simp[o]
section
variable {P:Program} {env:Env} {w:World} {ty t ty2:TypeId} {x y:Operand} {c:Nat→Nat}
section
variable {m n:Int} (hx:BY env x=some (W32 m)) (hy:BY env y=some (W32 n))
include hx hy
end
end
theorem sb:IM QP 25=some 7:=Ao
theorem CP:IM QP 29=some 3:=Ao
theorem NM:IM QP 39=some 2:=Ao
theorem Df:IM QP 52=some 6:=Ao
theorem Fy:IM QP 58=some 4:=Ao
theorem Hj:IM QP 61=some 3:=Ao
theorem IU:IM QP 67=some 2:=Ao
theorem fE:IM QP 84=some 3:=Ao
theorem Cn:IM QP 115=some 4:=Ao
theorem Dj:IM QP 125=some 2:=Ao
theorem Mc:IM QP 141=some 4:=Ao
theorem GG:IM QP 156=some 4:=Ao
theorem HN:IM QP 205=some 4:=Ao
theorem BP:IM QP 266=some 3:=Ao
theorem Jz:IM QP 308=some 2:=Ao
theorem fF:fy QP 125=some [0,0]:=Ao
theorem pA:CW QP 25 0=some 0:=Ao
theorem YJ:CW QP 25 1=some 1:=Ao
theorem pB:CW QP 25 2=some 2:=Ao
theorem pC:CW QP 25 3=some 3:=Ao
theorem pD:CW QP 25 4=some 4:=Ao
theorem Qy:CW QP 25 5=some 5:=Ao
theorem pE:CW QP 25 6=some 6:=Ao
theorem CN:CW QP 29 0=some 0:=Ao
theorem Hk:CW QP 29 1=some 1:=Ao
theorem DO:CW QP 29 2=some 2:=Ao
theorem TL:CW QP 39 0=some 0:=Ao
theorem fG:CW QP 39 1=some 1:=Ao
theorem fH:CW QP 43 3=some 3:=Ao
theorem Gg:CW QP 52 0=some 0:=Ao
theorem Hl:CW QP 52 1=some 1:=Ao
theorem MW:CW QP 52 2=some 2:=Ao
theorem JS:CW QP 52 3=some 3:=Ao
theorem DE:CW QP 52 4=some 4:=Ao
theorem Gh:CW QP 52 5=some 5:=Ao
theorem CA:CW QP 58 0=some 0:=Ao
theorem Ev:CW QP 58 1=some 1:=Ao
theorem Qz:CW QP 58 2=some 2:=Ao
theorem Ik:CW QP 58 3=some 3:=Ao
theorem fJ:CW QP 61 0=some 0:=Ao
theorem MX:CW QP 61 1=some 1:=Ao
theorem QA:CW QP 61 2=some 2:=Ao
theorem JT:CW QP 67 0=some 0:=Ao
theorem Cq:CW QP 67 1=some 1:=Ao
theorem TM:CW QP 84 0=some 0:=Ao
theorem fK:CW QP 84 1=some 1:=Ao
theorem TN:CW QP 84 2=some 2:=Ao
theorem GH:CW QP 88 0=some 0:=Ao
theorem QB:CW QP 88 1=some 1:=Ao
theorem fM:CW QP 88 2=some 2:=Ao
theorem TO:CW QP 88 3=some 3:=Ao
theorem YK:CW QP 88 4=some 4:=Ao
theorem NN:CW QP 101 0=some 0:=Ao
theorem FR:CW QP 101 1=some 1:=Ao
theorem lr:CW QP 101 2=some 4:=Ao
theorem Ut:CW QP 101 3=some 5:=Ao
theorem av:CW QP 101 4=some 6:=Ao
theorem DK:CW QP 101 5=some 7:=Ao
theorem QC:CW QP 101 7=some 13:=Ao
theorem Dy:CW QP 115 0=some 0:=Ao
theorem HW:CW QP 115 1=some 1:=Ao
theorem NO:CW QP 115 2=some 2:=Ao
theorem Cl:CW QP 115 3=some 3:=Ao
theorem Ct:CW QP 125 0=some 0:=Ao
theorem GP:CW QP 125 1=some 1:=Ao
theorem Kd:CW QP 141 0=some 0:=Ao
theorem Ld:CW QP 141 1=some 1:=Ao
theorem Hv:CW QP 141 3=some 3:=Ao
theorem IV:CW QP 150 0=some 0:=Ao
theorem aw:CW QP 150 1=some 1:=Ao
theorem QD:CW QP 150 2=some 2:=Ao
theorem NP:CW QP 150 3=some 3:=Ao
theorem QE:CW QP 150 4=some 4:=Ao
theorem QG:CW QP 150 5=some 5:=Ao
theorem Le:CW QP 150 6=some 6:=Ao
theorem QH:CW QP 150 7=some 7:=Ao
theorem NQ:CW QP 150 8=some 8:=Ao
theorem Gm:CW QP 156 0=some 0:=Ao
theorem Lf:CW QP 156 1=some 1:=Ao
theorem Mo:CW QP 156 2=some 2:=Ao
theorem NR:CW QP 156 3=some 3:=Ao
theorem QI:CW QP 205 0=some 0:=Ao
theorem QJ:CW QP 205 1=some 1:=Ao
theorem QK:CW QP 205 2=some 2:=Ao
theorem Lg:CW QP 205 3=some 3:=Ao
theorem HX:CW QP 266 0=some 0:=Ao
theorem HY:CW QP 266 1=some 1:=Ao
theorem Lh:CW QP 266 2=some 2:=Ao
theorem QL:CW QP 308 0=some 0:=Ao
theorem Uu:CW QP 308 1=some 1:=Ao
theorem NS:CW QP 398 0=some 0:=Ao
theorem NT:CW QP 398 1=some 1:=Ao
theorem pf4:Aj QP 4=true:=Ao
theorem hV:Aj QP 5=true:=Ao
theorem pf6:Aj QP 6=true:=Ao
theorem pf7:Aj QP 7=true:=Ao
theorem pf8:Aj QP 8=true:=Ao
theorem pf9:Aj QP 9=true:=Ao
theorem zK:Aj QP 10=true:=Ao
theorem zL:Aj QP 11=true:=Ao
theorem zM:Aj QP 12=true:=Ao
theorem zN:Aj QP 13=true:=Ao
theorem YL:Aj QP 14=true:=Ao
theorem wc:Aj QP 15=true:=Ao
theorem PC:Aj QP 16=true:=Ao
theorem we:Aj QP 17=true:=Ao
theorem pF:Aj QP 18=true:=Ao
theorem pG:Aj QP 19=true:=Ao
theorem tP:Aj QP 20=true:=Ao
theorem zO:Aj QP 21=true:=Ao
theorem zP:Aj QP 22=true:=Ao
theorem tQ:Aj QP 23=true:=Ao
theorem tS:Aj QP 24=true:=Ao
theorem wg:Aj QP 25=true:=Ao
theorem zQ:Aj QP 26=true:=Ao
theorem zR:Aj QP 27=true:=Ao
theorem zS:Aj QP 28=true:=Ao
theorem hW:Aj QP 29=true:=Ao
theorem tT:Aj QP 30=true:=Ao
theorem wh:Aj QP 31=true:=Ao
theorem zU:Aj QP 32=true:=Ao
theorem wi:Aj QP 33=true:=Ao
theorem zV:Aj QP 34=true:=Ao
theorem wj:Aj QP 35=true:=Ao
theorem wm:Aj QP 36=true:=Ao
theorem tU:Aj QP 37=true:=Ao
theorem pH:Aj QP 38=true:=Ao
theorem wq:Aj QP 39=true:=Ao
theorem tV:Aj QP 40=true:=Ao
theorem zW:Aj QP 41=true:=Ao
theorem wu:Aj QP 42=true:=Ao
theorem wv:Aj QP 43=true:=Ao
theorem zX:Aj QP 44=true:=Ao
theorem wx:Aj QP 45=true:=Ao
theorem wy:Aj QP 46=true:=Ao
theorem wz:Aj QP 47=true:=Ao
theorem wA:Aj QP 48=true:=Ao
theorem zY:Aj QP 49=true:=Ao
theorem wB:Aj QP 50=true:=Ao
theorem zZ:Aj QP 51=true:=Ao
theorem aaa:Aj QP 52=true:=Ao
theorem ax:Aj QP 53=true:=Ao
theorem wC:Aj QP 54=true:=Ao
theorem aab:Aj QP 55=true:=Ao
theorem Ws:Aj QP 56=true:=Ao
theorem pI:Aj QP 57=true:=Ao
theorem tW:Aj QP 58=true:=Ao
theorem pJ:Aj QP 59=true:=Ao
theorem ls:Aj QP 60=true:=Ao
theorem tX:Aj QP 61=true:=Ao
theorem aac:Aj QP 62=true:=Ao
theorem aad:Aj QP 63=true:=Ao
theorem aae:Aj QP 64=true:=Ao
theorem aaf:Aj QP 65=true:=Ao
theorem aag:Aj QP 66=true:=Ao
theorem aah:Aj QP 67=true:=Ao
theorem aai:Aj QP 68=true:=Ao
theorem aaj:Aj QP 69=true:=Ao
theorem pK:Aj QP 70=true:=Ao
theorem YM:Aj QP 71=true:=Ao
theorem wD:Aj QP 72=true:=Ao
theorem lu:Aj QP 73=true:=Ao
theorem wE:Aj QP 74=true:=Ao
theorem pL:Aj QP 75=true:=Ao
theorem wF:Aj QP 76=true:=Ao
theorem aak:Aj QP 77=true:=Ao
theorem wG:Aj QP 78=true:=Ao
theorem wH:Aj QP 79=true:=Ao
theorem tY:Aj QP 80=true:=Ao
theorem wI:Aj QP 81=true:=Ao
theorem Tw:Aj QP 82=true:=Ao
theorem wJ:Aj QP 84=true:=Ao
theorem YN:Aj QP 85=true:=Ao
theorem aal:Aj QP 91=true:=Ao
theorem aam:Aj QP 92=true:=Ao
theorem aan:Aj QP 93=true:=Ao
theorem QM:Aj QP 94=true:=Ao
theorem tZ:Aj QP 95=true:=Ao
theorem aao:Aj QP 96=true:=Ao
theorem aap:Aj QP 97=true:=Ao
theorem aaq:Aj QP 98=true:=Ao
theorem wK:Aj QP 99=true:=Ao
theorem wL:Aj QP 100=true:=Ao
theorem wM:Aj QP 101=true:=Ao
theorem wN:Aj QP 102=true:=Ao
theorem wO:Aj QP 103=true:=Ao
theorem wP:Aj QP 104=true:=Ao
theorem wQ:Aj QP 105=true:=Ao
theorem wR:Aj QP 106=true:=Ao
theorem sc:Aj QP 107=true:=Ao
theorem wS:Aj QP 108=true:=Ao
theorem wT:Aj QP 111=true:=Ao
theorem wU:Aj QP 112=true:=Ao
theorem wV:Aj QP 113=true:=Ao
theorem wW:Aj QP 114=true:=Ao
theorem wX:Aj QP 115=true:=Ao
theorem lx:Aj QP 116=true:=Ao
theorem wY:Aj QP 117=true:=Ao
theorem sd:Aj QP 118=true:=Ao
theorem wZ:Aj QP 119=true:=Ao
theorem xa:Aj QP 120=true:=Ao
theorem se:Aj QP 121=true:=Ao
theorem fO:Aj QP 122=true:=Ao
theorem xb:Aj QP 123=true:=Ao
theorem sf:Aj QP 124=true:=Ao
theorem sg:Aj QP 125=true:=Ao
theorem xc:Aj QP 126=true:=Ao
theorem xd:Aj QP 127=true:=Ao
theorem xe:Aj QP 128=true:=Ao
theorem xf:Aj QP 129=true:=Ao
theorem xg:Aj QP 130=true:=Ao
theorem ly:Aj QP 131=true:=Ao
theorem xh:Aj QP 132=true:=Ao
theorem xi:Aj QP 133=true:=Ao
theorem xj:Aj QP 134=true:=Ao
theorem xk:Aj QP 135=true:=Ao
theorem xl:Aj QP 136=true:=Ao
theorem lz:Aj QP 137=true:=Ao
theorem lA:Aj QP 138=true:=Ao
theorem sj:Aj QP 139=true:=Ao
theorem fP:Aj QP 140=true:=Ao
theorem xm:Aj QP 141=true:=Ao
theorem sk:Aj QP 144=true:=Ao
theorem sm:Aj QP 146=true:=Ao
theorem fQ:Aj QP 147=true:=Ao
theorem sn:Aj QP 148=true:=Ao
theorem ay:Aj QP 149=true:=Ao
theorem xn:Aj QP 150=true:=Ao
theorem xo:Aj QP 151=true:=Ao
theorem xp:Aj QP 152=true:=Ao
theorem xq:Aj QP 153=true:=Ao
theorem az:Aj QP 154=true:=Ao
theorem so:Aj QP 155=true:=Ao
theorem lB:Aj QP 156=true:=Ao
theorem lC:Aj QP 157=true:=Ao
theorem xr:Aj QP 158=true:=Ao
theorem xt:Aj QP 159=true:=Ao
theorem xu:Aj QP 161=true:=Ao
theorem xv:Aj QP 163=true:=Ao
theorem xw:Aj QP 166=true:=Ao
theorem sr:Aj QP 167=true:=Ao
theorem st:Aj QP 168=true:=Ao
theorem xx:Aj QP 169=true:=Ao
theorem xy:Aj QP 170=true:=Ao
theorem lD:Aj QP 171=true:=Ao
theorem xz:Aj QP 172=true:=Ao
theorem xA:Aj QP 173=true:=Ao
theorem su:Aj QP 174=true:=Ao
theorem sv:Aj QP 175=true:=Ao
theorem sw:Aj QP 176=true:=Ao
theorem sx:Aj QP 177=true:=Ao
theorem xB:Aj QP 178=true:=Ao
theorem xC:Aj QP 179=true:=Ao
theorem sy:Aj QP 180=true:=Ao
theorem xD:Aj QP 181=true:=Ao
theorem xE:Aj QP 182=true:=Ao
theorem xF:Aj QP 183=true:=Ao
theorem xG:Aj QP 184=true:=Ao
theorem xH:Aj QP 185=true:=Ao
theorem xI:Aj QP 186=true:=Ao
theorem sA:Aj QP 187=true:=Ao
theorem sB:Aj QP 188=true:=Ao
theorem xJ:Aj QP 189=true:=Ao
theorem sC:Aj QP 190=true:=Ao
theorem lE:Aj QP 191=true:=Ao
theorem xK:Aj QP 193=true:=Ao
theorem xL:Aj QP 194=true:=Ao
theorem xM:Aj QP 195=true:=Ao
theorem xN:Aj QP 196=true:=Ao
theorem lF:Aj QP 197=true:=Ao
theorem xO:Aj QP 198=true:=Ao
theorem KE:Aj QP 199=true:=Ao
theorem xP:Aj QP 200=true:=Ao
theorem xQ:Aj QP 201=true:=Ao
theorem xR:Aj QP 202=true:=Ao
theorem xS:Aj QP 203=true:=Ao
theorem sD:Aj QP 204=true:=Ao
theorem xT:Aj QP 205=true:=Ao
theorem xU:Aj QP 206=true:=Ao
theorem fR:Aj QP 207=true:=Ao
theorem sE:Aj QP 208=true:=Ao
theorem sF:Aj QP 209=true:=Ao
theorem xV:Aj QP 210=true:=Ao
theorem xW:Aj QP 211=true:=Ao
theorem xX:Aj QP 212=true:=Ao
theorem xY:Aj QP 223=true:=Ao
theorem Uv:Aj QP 224=true:=Ao
theorem xZ:Aj QP 225=true:=Ao
theorem Li:Aj QP 227=true:=Ao
theorem ya:Aj QP 228=true:=Ao
theorem sG:Aj QP 236=true:=Ao
theorem yb:Aj QP 237=true:=Ao
theorem yc:Aj QP 238=true:=Ao
theorem yd:Aj QP 239=true:=Ao
theorem fT:Aj QP 240=true:=Ao
theorem fU:Aj QP 241=true:=Ao
theorem lG:Aj QP 242=true:=Ao
theorem ye:Aj QP 243=true:=Ao
theorem sH:Aj QP 244=true:=Ao
theorem sI:Aj QP 245=true:=Ao
theorem yf:Aj QP 246=true:=Ao
theorem sJ:Aj QP 247=true:=Ao
theorem yg:Aj QP 250=true:=Ao
theorem yh:Aj QP 251=true:=Ao
theorem yi:Aj QP 252=true:=Ao
theorem yj:Aj QP 253=true:=Ao
theorem yk:Aj QP 254=true:=Ao
theorem yl:Aj QP 257=true:=Ao
theorem sK:Aj QP 258=true:=Ao
theorem fV:Aj QP 259=true:=Ao
theorem Lj:Aj QP 260=true:=Ao
theorem ym:Aj QP 261=true:=Ao
theorem yn:Aj QP 262=true:=Ao
theorem yo:Aj QP 263=true:=Ao
theorem yp:Aj QP 270=true:=Ao
theorem yq:Aj QP 271=true:=Ao
theorem yr:Aj QP 272=true:=Ao
theorem yt:Aj QP 273=true:=Ao
theorem Xa:Aj QP 274=true:=Ao
theorem yu:Aj QP 279=true:=Ao
theorem yv:Aj QP 280=true:=Ao
theorem yw:Aj QP 281=true:=Ao
theorem fW:Aj QP 282=true:=Ao
theorem aA:Aj QP 283=true:=Ao
theorem sL:Aj QP 284=true:=Ao
theorem yx:Aj QP 285=true:=Ao
theorem yy:Aj QP 296=true:=Ao
theorem yz:Aj QP 297=true:=Ao
theorem yA:Aj QP 298=true:=Ao
theorem sM:Aj QP 299=true:=Ao
theorem sN:Aj QP 300=true:=Ao
theorem yB:Aj QP 304=true:=Ao
theorem yC:Aj QP 305=true:=Ao
theorem yD:Aj QP 310=true:=Ao
theorem yE:Aj QP 320=true:=Ao
theorem yF:Aj QP 321=true:=Ao
theorem Uw:Aj QP 325=true:=Ao
theorem lH:Aj QP 326=true:=Ao
theorem AF:FB QP 3=true:=Ao
theorem IW:FB QP 4=true:=Ao
theorem Ty:FB QP 5=true:=Ao
theorem CQ:FB QP 9=true:=Ao
theorem aB:FB QP 22=true:=Ao
theorem BQ:FB QP 23=true:=Ao
theorem LK:FB QP 33=true:=Ao
theorem SQ:FB QP 34=true:=Ao
theorem Eh:FB QP 37=true:=Ao
theorem KF:FB QP 44=true:=Ao
theorem CH:FB QP 50=true:=Ao
theorem Ei:FB QP 54=true:=Ao
theorem HI:FB QP 55=true:=Ao
theorem aC:FB QP 56=true:=Ao
theorem Hw:FB QP 64=true:=Ao
theorem Ea:FB QP 65=true:=Ao
theorem Pq:FB QP 74=true:=Ao
theorem fX:FB QP 82=true:=Ao
theorem Lk:FB QP 86=true:=Ao
theorem Gx:FB QP 90=true:=Ao
theorem Hm:FB QP 94=true:=Ao
theorem lI:FB QP 107=true:=Ao
theorem ua:FB QP 116=true:=Ao
theorem YO:FB QP 151=true:=Ao
theorem Md:FB QP 181=true:=Ao
theorem NU:FB QP 184=true:=Ao
theorem lJ:JQ QP 22=some (43,4,40,[.int .i64 0, .int .i64 0, .int .i64 0, .string ⟨[].toArray⟩]):=Ao
theorem BM:JQ QP 23=some (3,1,8,[.int .i64 0]):=Ao
theorem Ch:JQ QP 37=some (9,1,16,[.string ⟨[].toArray⟩]):=Ao
theorem DL:JQ QP 50=some (125,2,16,[.int .i64 0, .int .i64 0]):=Ao
theorem Di:JQ QP 54=some (115,4,48,[.int .i64 0, .int .i64 0, .int .i64 0, .slice none 0 0]):=Ao
theorem Ge:JQ QP 55=some (141,4,56,[.string ⟨[].toArray⟩, .int .i64 0, .bool false, .slice none 0 0]):=Ao
theorem hX:JQ QP 56=some (171,2,32,[.string ⟨[].toArray⟩, .string ⟨[].toArray⟩]):=Ao
theorem Fi:JQ QP 64=some (4,1,1,[.bool false]):=Ao
theorem FZ:JQ QP 65=some (23,1,24,[.slice none 0 0]):=Ao
theorem EE:JQ QP 74=some (5,1,1,[.int .u8 0]):=Ao
theorem PD:JQ QP 86=some (84,3,40,[.bool false, .slice none 0 0, .map none]):=Ao
theorem GQ:JQ QP 94=some (52,6,96,[.int .i64 0, .int .i64 0, .string ⟨[].toArray⟩, .string ⟨[].toArray⟩, .slice none 0 0, .slice none 0 0]):=Ao
theorem lK:JQ QP 107=some (37,1,24,[.slice none 0 0]):=Ao
theorem Ux:JQ QP 151=some (156,4,56,[.int .i64 0, .int .i64 0, .string ⟨[].toArray⟩, .slice none 0 0]):=Ao
theorem fY:JQ QP 181=some (50,1,24,[.slice none 0 0]):=Ao
theorem lL:JQ QP 372=some (266,3,40,[.int .i64 0, .int .i64 0, .slice none 0 0]):=Ao
theorem QN:Fx QP 3=some [.int .i64 0]:=Ao
theorem ub:Fx QP 23=some [.slice none 0 0]:=Ao
theorem Sb:Fx QP 29=some [.int .i64 0, .int .i64 0, .int .i64 0]:=Ao
theorem dK:Fx QP 37=some [.slice none 0 0]:=Ao
theorem uc:Fx QP 39=some [.slice none 0 0, .slice none 0 0]:=Ao
theorem Uy:Fx QP 44=some [.int .i64 0]:=Ao
theorem Kw:Fx QP 52=some [.int .i64 0, .int .i64 0, .string ⟨[].toArray⟩, .string ⟨[].toArray⟩, .slice none 0 0, .slice none 0 0]:=Ao
theorem Uz:Fx QP 58=some [.slice none 0 0, .slice none 0 0, .slice none 0 0, .int .i64 0]:=Ao
theorem MY:Fx QP 61=some [.int .i64 0, .slice none 0 0, .slice none 0 0]:=Ao
theorem ud:Fx QP 64=some [.slice none 0 0]:=Ao
theorem NV:Fx QP 67=some [.slice none 0 0, .slice none 0 0]:=Ao
theorem ue:Fx QP 84=some [.bool false, .slice none 0 0, .map none]:=Ao
theorem YP:Fx QP 90=some [.pointer none]:=Ao
theorem uf:Fx QP 94=some [.slice none 0 0]:=Ao
theorem pM:Fx QP 107=some [.slice none 0 0]:=Ao
theorem HF:Fx QP 115=some [.int .i64 0, .int .i64 0, .int .i64 0, .slice none 0 0]:=Ao
theorem JU:Fx QP 125=some [.int .i64 0, .int .i64 0]:=Ao
theorem fZ:Fx QP 141=some [.string ⟨[].toArray⟩, .int .i64 0, .bool false, .slice none 0 0]:=Ao
theorem pN:Fx QP 151=some [.slice none 0 0]:=Ao
theorem LM:Fx QP 156=some [.int .i64 0, .int .i64 0, .string ⟨[].toArray⟩, .slice none 0 0]:=Ao
theorem pO:Fx QP 181=some [.slice none 0 0]:=Ao
theorem OI:Fx QP 205=some [.int .i64 0, .int .i64 0, .int .i64 0, .string ⟨[].toArray⟩]:=Ao
theorem ga:Fx QP 229=some [.pointer none, .slice none 0 0]:=Ao
theorem ET:Fx QP 266=some [.int .i64 0, .int .i64 0, .slice none 0 0]:=Ao
theorem YQ:Fx QP 308=some [.int .i64 0, .int .i64 0]:=Ao
theorem mixed:QP.follows .mixedOrders=true:=Ao
structure Rec where
 Ar:Int
 id:Int
 name:List UInt8
 AK:List UInt8
 list:List Int
 Bo:List (Int×Int)
 deriving DecidableEq
variable {J:Option (Rec×List UInt8)}{P:List Rec}{Y:List (List Rec)}
def Bx:Shape (Int×Int):=Shape.flat 2 (fun p=>[I p.1,I p.2]) (fun p=>Go.Eng.Int64 p.1∧Go.Eng.Int64 p.2) (fun _=>rfl) (fun _ u hu=>by simp at hu;rcases hu with rfl|rfl<;>rfl)
def FG:Shape Rec where
 size:=6
 rd:=fun B w cs r=>∃vl vs,cs=[I r.Ar,I r.id,St r.name,St r.AK,vl,vs]∧FC Cg B w vl r.list∧FC Bx B w vs r.Bo∧Go.Eng.Int64 r.Ar∧Go.Eng.Int64 r.id∧r.name.length≤140737488355328∧r.AK.length≤140737488355328
 len:=fun⟨_,_,h,_⟩=>by rw[h];rfl
 keep:=fun O ⟨vl,vs,h,f,g,i⟩=>⟨vl,vs,h,f.keep O,g.keep O,i⟩
 mono:=fun j ⟨vl,vs,h,f,g,i⟩=>⟨vl,vs,h,f.mono j,g.mono j,i⟩
 one:=fun⟨vl,vs,h,f,g,_⟩ u hu=>by
  obtain⟨A,c,rfl,_⟩:=f.form;obtain⟨l,c',rfl,_⟩:=g.form;subst h;simp at hu;rcases hu with rfl|rfl|rfl|rfl|rfl|rfl<;>rfl
def UA(w:World)(cs:List Value)(r:Rec):Prop:=FG.rd w.heap.size w cs r
def within(i n:Int):Int:=(i%18446744073709551616)%n
theorem KV(i n:Int)(h:0<n):0≤within i n:=Ael _ G
theorem KW(i n:Int)(h:0<n):within i n<n:=Aen _ h
def Cb(k:Int):List UInt8:=
 if k=1 then[105,115] else if k=2 then[105,108,115] else if k=3 then[105] else if k=4 then[105,100,108] else if k=5 then[105,100,108]
 else if k=6 then[100] else if k=7 then[110,100] else if k=8 then[110] else[]
def hasB(k:Int)(c:Int):Bool:=(Cb k).any fun b=>decide ((b.toNat:Int)=c)
theorem Pr(k:Int):∀c∈Cb k,c.toNat<128:=by
 intro c hc;unfold Cb at hc
 repeat' split at hc
 all_goals (simp at hc;try rcases hc with rfl|rfl|rfl)<;>first|decide|(rcases hc with rfl|rfl<;>decide)|(subst hc;decide)
theorem gb(h:CJ w k d 2 a u.length (u.flatMap fun x=>[I x.1,I x.2]))(f:∀x∈u,Go.Eng.Int64 x.1∧Go.Eng.Int64 x.2)(g:u.length≤140737488355328):FC Bx w.heap.size w a u:=CJ.Gl g h f
section
variable {H:Type} {enc:TypeId×Value→H} {P:Program} {W:World} {base:Nat} {sp:Nat→Bool} {held:Bool}
def aD(enc:TypeId×Value→H)(P:Program)(W:World)(base:Nat)(sp:Nat→Bool)(held:Bool){α:Type}(s:Shape α)(ok:α→Prop)(e:TypeId):Prop:=
 ∀n cs y,DataW.trod enc P W base sp held n e cs=some y→(∀x∈DataW.weights P e y.1,x≤reachBytes)→∃x,s.rd W.heap.size W cs x∧ok x
theorem NW{P:Program}{e:TypeId}:∀{l:List (DataW H)} {d:DataW H},d∈l→∀n∈d.weights P e,n∈DataW.weightsAll P e l
 |x::r,d,hd,n,f=>by
  simp only[DataW.weightsAll,Aac];rcases Aak.1 hd with rfl|hd
  ·exact .inl f
  ·exact .inr (NW hd n f)
theorem gd{s:Shape α}{ok:α→Prop}{v:Value}{y:DataW H×List MemPlace}(ht:P.underlying d=some (.slice A))(hc:P.cellsOf A=s.size)(a7:0<s.size)(R:1≤P.bytesOf A)(a1:aD enc P W base sp held s ok A)
 (h:DataW.trod enc P W base sp held n d [v]=some y)(I:∀x∈DataW.weights P d y.1,x≤reachBytes):∃l,FC s W.heap.size W v l∧(∀x∈l,ok x)∧l.length*P.bytesOf A≤140737488351232:=by
 rcases DataW.trod_slice ht h with⟨o,_⟩|⟨a,len,cap,g,rest,f,_,o,rfl,_,hl,a6,f,f,_,_⟩
 ·have:v= .slice none 0 0:=by simpa using o
  subst this;exact⟨[],FC.nil _ _ _,by simp,by simp⟩
 have:v= .slice (some a) len cap:=by simpa using o
 subst this;have C:(g.length+rest.length)*P.bytesOf A≤reachBytes∧∀t∈g,∀x∈DataW.weights P A t.1,x≤reachBytes:=by
  constructor
  ·have:=I (((g.map (·.1)).length+(rest.map (·.1)).length)*P.bytesOf A) (by simp only[DataW.weights,ht,Aak];exact Or.inl trivial);simpa using this
  intro t hd x hx;refine I x ?_;simp only[DataW.weights,ht,Aak,Aac];exact .inr (.inl (NW (Aag.2 ⟨t,hd,Z⟩) x hx))
 have p:len≤140737488351232:=by
  have p:=C.1;have J:(g.length+rest.length)*1≤(g.length+rest.length)*P.bytesOf A:=Nat.mul_le_mul_left _ R;simp only[reachBytes] at p;omega
 have key:∀i,i<len→∃(x:α),(∃(cs:List Value),AT W (a.add (i*s.size)) cs∧s.rd W.heap.size W cs x)∧ok x:=by
  intro i hi;have p:=f i hi;rw[dd G] at p;obtain⟨cs,f,r⟩:=Aeo.1 p;obtain⟨_,U,U⟩:=World.cells?_some f;obtain⟨x,hx,f⟩:=a1 _ cs _ r (C.2 _ (mv _));refine⟨x,⟨cs,fun j u r=>?_,hx⟩,f⟩;have f:j<cs.length:=by
   rcases Aab j cs.length with f|f
   ·exact f
   rw[Aam f] at r;cases r
  rw[←hc,U j G];exact r
 refine⟨List.ofFn fun i:Fin len=>(key i i.2).choose,⟨?_,?_,?_,?_⟩,?_,?_⟩
 ·refine⟨some a,cap,by rw[Adj],by rw[Adj];exact hl,a6,fun b r o=>?_⟩;injection r with r;subst r;rw[Adj] at o;obtain⟨x,⟨cs,r,hx⟩,_⟩:=key 0 o;have o:=s.len hx;have:=r.block G;rwa [Gk] at this
 ·intro i x hi;have o:i<len:=by
   rcases Aab i len with f|f
   ·exact f
   rw[Aam (by rw[Adj];exact f)] at hi;cases hi
  rw[dd (by rw[Adj];exact o)] at hi;simp only[Ag3,Abe] at hi;subst hi;exact(key i o).choose_spec.1
 ·intro _;exact⟨a,cap,by rw[Adj]⟩
 ·rw[Adj];omega
 ·intro x hx;rw[List.mem_ofFn] at hx;obtain⟨i,rfl⟩:=hx;exact(key i i.2).choose_spec.2
 rw[Adj];have p:=C.1;have J:len*P.bytesOf A≤(g.length+rest.length)*P.bytesOf A:=WN _ G;simp only[reachBytes] at p;omega
theorem hY(g:P.underlying d=some (.int .i64)):aD enc P W base sp held Cg (fun _=>True) d:=fun n cs y h _=>by
 obtain⟨k,rfl,_,i⟩:=DataW.trod_int g h;have f:-9223372036854775808≤k∧k≤9223372036854775807:=by simpa[Lit.wf,IntKind.min,IntKind.max,IntKind.signed,IntKind.bits] using i
 exact⟨k,⟨Z,f⟩,trivial⟩
theorem Ke{y:DataW H×List MemPlace}(g:P.underlying d=some (.int .i64))(h:DataW.trod enc P W base sp held n d cs=some y):∃k,cs=[I k]∧Int64 k:=by
 obtain⟨k,rfl,_,i⟩:=DataW.trod_int g h;have f:-9223372036854775808≤k∧k≤9223372036854775807:=by simpa[Lit.wf,IntKind.min,IntKind.max,IntKind.signed,IntKind.bits] using i
 exact⟨k,Z,f⟩
theorem lM{y:DataW H×List MemPlace}(f:P.underlying d=some .string)(h:DataW.trod enc P W base sp held n d cs=some y)(g:∀x∈DataW.weights P d y.1,x≤reachBytes):∃l,cs=[St l]∧l.length≤140737488351232:=by
 obtain⟨s,rfl,rfl,_⟩:=DataW.trod_string f h;have:=g s.data.toList.length (by simp[DataW.weights]);exact⟨s.data.toList,Z,by simp only[reachBytes] at this;omega⟩
end
section
open Go.Lib
section
variable {P:Program} {env:Env} {w:World} {ty:TypeId}
theorem sO{e:Option Addr}{c:Nat}(ht:P.underlying d=some (.slice A))(hx:BY env f=some (.slice e n c)):DP P env w (.call ⟨.builtin .cap,#[f],#[d]⟩) ty (I c):=fun _ a x t pos i g=>by
 simp[execOp,resolve,invoke,builtin,Builtin.cap_,x.eval hx,Aaj ht,goInt]
theorem Kx(ht:P.underlying d=some (.slice A))(o:P.underlying A=some (.int .u8))(hx:BY env f=some (.slice (some ⟨k,0,none⟩) n n))(x:AI c w i k cs A)(hl:cs.length=n*1)(p:n≤9223372036854775807):
 Hh P env w (.convert d d f) ty (fun v w'=>∃c',Mv c w c' w' [i]∧v= .slice (some ⟨k,0,none⟩) n n∧AJ c' w' i A 1 v n cs):=
 Cr fun _ a r t pos j g=>by
  have j:w.heap[k]?=some (.cells cs.toArray A (0,0)):=x.AE;have C:w.shape? k=some (A,cs.toArray.size):=by unfold World.shape?;rw[j]
  have l:∀b:Nat,(w.freeze ⟨k,cs.toArray.size,none⟩ 1).heap[b]?=if b=k then some (.cells cs.toArray A (cs.toArray.size,cs.toArray.size+1)) else w.heap[b]?:=fun b=>by
   unfold World.freeze;rw[ss AO];simp only[Af8];by_cases O:k=b
   ·subst O;rw[zm Z,zm Z,j];rfl
   rw[ss O,ss (fun h=>O h.symm)]
  have I:(w.freeze ⟨k,cs.toArray.size,none⟩ 1).heap.size=w.heap.size:=by unfold World.freeze;rw[ss AO];simp
  have j:(w.freeze ⟨k,cs.toArray.size,none⟩ 1).os=w.os∧(w.freeze ⟨k,cs.toArray.size,none⟩ 1).tape=w.tape∧(w.freeze ⟨k,cs.toArray.size,none⟩ 1).output=w.output:=by unfold World.freeze;rw[ss AO];exact⟨Z,Z,Z⟩
  refine⟨_,w.freeze ⟨k,cs.toArray.size,none⟩ 1,by simp[execOp,convert,r.eval hx,Aaj ht,Aaj o,markStringish,C],c,⟨j.1,j.2.1,j.2.2,Ado I.symm,fun _ _=>rfl,fun b O hc=>?_⟩,Z,⟨⟨hl,Qs ⟨k,n,cs.toArray,_,Z,Wm _,by rw[l,zm Z],fun _=>kM _,kM _,by rw[HE];exact p,by simpa using hl,by simp[←hl]⟩⟩,fun b O=>?_⟩⟩
  ·rw[l,ss (fun j=>by subst j;rw[x.BF] at hc;simp[AU] at hc)]
  simp only[Value.rowOf] at O;cases j:Nat.beq n 0<;>rw[j] at O<;>simp at O
  rw[←O];exact x.BF
theorem ug{s:Shape α}{J:TypeId}{l:List α}(ht:JQ P d=some (J,k,m,b))(x:Bu s c h e a l)(hx:BY env f=some a):DP P env w (.call ⟨.builtin .len,#[f],#[d]⟩) ty (I l.length):=
 Ez ht x.AB hx
theorem Ky{s:Shape α}{J:TypeId}{by_:IntKind}{l:List α}(ht:JQ P d=some (J,s.size,k,b))(i:Bu s c h e a l)(hx:BY env f=some a)(hy:BY env K=some (.int by_ p))
 (x:0≤p)(g:p<l.length):DP P env w (.indexAddr d f K) ty (.pointer (some (Bz a s.size p.toNat))):=BJ ht i.AB Z hx hy x g
end
theorem aar{P:Program}{env:Env}{t:TypeId}{q:Bool}(ht:P.underlying t=some .bool)(hx:BY env f=some (.bool B))(hy:BY env K=some (.bool q)):DP P env w (.binOp .neq t f K A) d (.bool (!(B==q))):=fun _ a x ty pos j g=>by
 have i:=run_equal_bool (P:=P) w t B q ht;cases B<;>cases q<;>simp[execOp,x.eval hx,x.eval hy,eqGuard,binOp,i]
theorem BN{env:Env}{e:TypeId}(hs:JQ H A=some (e,k,m,b))
 (h:JQ H A=some (e,k,m,b)→DP H env w (.call ⟨.builtin .len,#[f],#[A]⟩) d a:=by
  intro hs;first|exact Go.Eng.Ez hs (by assumption) Z|exact Go.Eng.Fo (Go.Eng.DU hs).1 Z|exact Go.Eng.Tv hs (by assumption) Z|exact Go.Eng.ug hs (by assumption) Z):
 DP H env w (.call ⟨.builtin .len,#[f],#[A]⟩) d a:=h hs
theorem Cv{env:Env}{e:TypeId}(hs:JQ H A=some (e,k,m,b))
 (h:JQ H A=some (e,k,m,b)→DP H env w (.indexAddr A f K) d a:=by
  intro hs;first|exact Go.Eng.BJ hs (by assumption) Z Z Z Go.Eng.Ai Go.Eng.Ai|exact Go.Eng.Ky hs (by assumption) Z Z Go.Eng.Ai Go.Eng.Ai|exact Go.Eng.BS hs (by assumption) Z Z Go.Eng.Ai Go.Eng.Ai):
 DP H env w (.indexAddr A f K) d a:=h hs
end
theorem YR{F:Fence}{o:Oper}{a:Act}{K l:Act→World→Prop}{Qjq p:Exit→Act→World→Prop}(g:∀e a w,(e= .normal→False)→Qjq e a w→p e a w)(h:∀a w,K a w→l a w)
 (hh:o.wpIn F n H a w K Qjq):o.wpIn F n H a w l p:=by
 unfold Oper.wpIn at*;refine⟨hh.1,?_⟩;have hh:=hh.2;generalize(o.semAt F.round a.eval).run H w=r at*;cases r with
 |ok x w'=>
  cases x<;>simp only[Oper.uponIn] at hh⊢<;>
   first
    |exact h _ _ hh
    |exact g _ _ _ nofun hh
    |exact⟨hh.1,Agc hh.2 (fun e w'' f=>by cases e<;>first|exact h _ _ f|exact g _ _ _ nofun f|exact Ahe f fun a i=>Ahe i fun w j=>⟨a,w,g _ _ _ nofun j⟩)⟩
    |exact⟨hh.1,Agt hh.2 (fun _ _ f=>h _ _ f)⟩
    |exact⟨hh.1,Aga hh.2 (fun e w'' f=>by cases e<;>first|exact h _ _ f|exact g _ _ _ nofun f|exact Ahe f fun a i=>Ahe i fun w j=>⟨a,w,g _ _ _ nofun j⟩)⟩
 |halt x w'=>cases x<;>simp only[Oper.uponIn] at hh⊢<;>first|exact hh|exact g _ _ _ nofun hh
theorem QO{F:Fence}{ops:Array Oper}{a:Act}{K g:Act→World→Prop}{Qjq j:Exit→Act→World→Prop}(p:∀e a w,(e= .normal→False)→Qjq e a w→j e a w)(h:∀a w,K a w→g a w)
 (hh:wpOpIn F n H ops Qjq i K a w):wpOpIn F n H ops j i g a w:=by
 unfold wpOpIn at*;split
 ·exact h _ _ (by simpa[*] using hh)
 ·rename_i o l;simp only[l] at hh;split
  ·rename_i f;simp only[f,Afo] at hh;exact YR p h hh
  ·rename_i f;simp only[f] at hh;exact⟨hh.1,h _ _ hh.2⟩
section
variable {c:Cx} {B:List (Nat×EI)} {env:Env} {w:World} {Mjq N:EI} {ops:Array Oper} {C:World→Prop} {Ar:List Nat} {is is1 is2:List Nat}
theorem Xb{e:Exit}{a:Act}{w:World}(f:e= .normal→False)(h:QQ c B Mjq e a w):QQ c B N e a w:=by
 cases e with
 |normal=>exact(f Z).elim
 |exit id=>exact h
 |ret=>exact h
 |goto l=>exact h
 |panic g=>exact h
 |outgrown=>exact h
theorem Mp(f:∀e w,Mjq e w→WD c B ops C Ar is2 e w N):∀(is1:List Nat) (a:Act) (w:World),IT c.Yz c.P ops C Ar (QQ c B Mjq) is1 a w→IT c.Yz c.P ops C Ar (QQ c B N) (is1++is2) a w
 |[],a,w,h=>by obtain⟨e,l,p⟩:=h;exact f e w p a l
 |i::is,a,w,h=>by
  unfold IT at h;rw[Adz];unfold IT;cases hi:ops[i]? with
  |none=>rw[hi] at h;exact h
  |some o=>
   rw[hi] at h;simp only at h⊢;split at h
   ·obtain⟨v,hy,O⟩:=h;exact⟨v,hy,Mp f is _ _ O⟩
   ·obtain⟨hc,v,hy,O⟩:=h;exact⟨hc,v,hy,Mp f is _ _ O⟩
   ·exact QO (fun _ _ _ g j=>Xb g j) (fun _ _ O=>⟨O.1,Mp f is _ _ O.2⟩) h
   ·exact QO (fun _ _ _ g j=>Xb g j) (fun _ _ O=>Mp f is _ _ O) h
   ·exact h
theorem gf(k:Nat)(Mjq:EI)(h:WD c B ops C Ar (is.take k) env w Mjq)(f:∀e w,Mjq e w→WD c B ops C Ar (is.drop k) e w N):WD c B ops C Ar is env w N:=fun a g=>by
 have:=Mp f _ _ _ (h a g);rwa [Aas] at this
def YU(ops:Array Oper)(n:Nat)(Ar:List Nat):List Nat→Env→Option Env
 |[],env=>some env
 |i::r,env=>match ops[i]? with
  |some o=>match o.dst,o.guard with
   |some d,some (j,want)=>match(ops[j]?).bind (·.dst) with
    |some s=>match look env s,Ar[i]? with
     |some (.bool b),some k=>bif b==want then none else bif Nat.blt d n&&Nat.blt k 3 then YU ops n Ar r ((d,undef)::env) else none
     |some (.tuple _),some k=>bif Nat.blt d n&&Nat.blt k 3 then YU ops n Ar r ((d,undef)::env) else none
     |_,_=>none
    |none=>none
   |_,_=>none
  |none=>none
theorem UB{o:Oper}{a:Act}{Qjq:Exit→Act→World→Prop}(hi:ops[i]?=some o)(hd:o.dst=some m)(O:Ar[i]?=some k)(g:k<3)(f:Region.wanted o (yielded ops a.tmps)=false)(hC:C w)
 (next:IT T H ops C Ar Qjq is (a.put (some m) undef) w):IT T H ops C Ar Qjq (i::is) a w:=by
 unfold IT;simp only[hi,O];have:k=0∨k=1∨k=2:=G;rcases this with rfl|rfl|rfl
 ·exact⟨undef, .inr ⟨f,Z⟩,by rw[hd];exact next⟩
 ·exact⟨hC,undef, .inr ⟨f,Z⟩,by rw[hd];exact next⟩
 ·simp only;unfold wpOpIn;simp only[hi,f,hd];exact⟨fun _ _=>trivial,fun h=>h,next⟩
theorem QR(hC:C w):∀(is1:List Nat) (env p:Env),YU ops c.n Ar is1 env=some p→WD c B ops C Ar is2 p w N→WD c B ops C Ar (is1++is2) env w N
 |[],env,p,h,next=>by simp[YU] at h;subst h;exact next
 |i::r,env,p,h,next=>by
  unfold YU at h;split at h
  ·rename_i o hi;split at h
   ·rename_i d j want R U;split at h
    ·rename_i s hs;split at h
     ·rename_i b k t J;cases I:(b==want) with
      |true=>rw[I] at h;simp at h
      |false=>
       rw[I] at h;cases g:Nat.blt d c.n&&Nat.blt k 3 with
       |false=>rw[g] at h;simp at h
       |true=>
        rw[g] at h;have f:=g;simp only[kg] at f;intro a l;refine UB hi R J (by rw[←Afz];exact f.2) ?_ hC (QR hC r _ _ (by simpa using h) next _ (l.put f.1 undef));simp[Region.wanted,U,yielded,hs,l.II s _ t,I]
     ·rename_i vs k t J;cases g:Nat.blt d c.n&&Nat.blt k 3 with
      |false=>rw[g] at h;simp at h
      |true=>
       rw[g] at h;have f:=g;simp only[kg] at f;intro a l;refine UB hi R J (by rw[←Afz];exact f.2) ?_ hC (QR hC r _ _ (by simpa using h) next _ (l.put f.1 undef));simp[Region.wanted,U,yielded,hs,l.II s _ t]
     cases h
    cases h
   cases h
  cases h
theorem OJ(n:Nat):∀(l:List Nat) (env e:Env),YU ops n Ar l env=some e→e.drop l.length=env
 |[],env,e,h=>by simp[YU] at h;simp[h]
 |i::r,env,e,h=>by
  unfold YU at h;split at h
  ·split at h
   ·split at h
    ·split at h
     ·rename_i b k _ _;cases g:(b==_) with
      |true=>rw[g] at h;simp at h
      |false=>
       rw[g] at h;cases f:Nat.blt _ n&&Nat.blt k 3 with
       |false=>rw[f] at h;simp at h
       |true=>
        rw[f] at h;have:=OJ n r _ e (by simpa using h);rw[SG,←Ab7,this];rfl
     ·rename_i k _ _;cases f:Nat.blt _ n&&Nat.blt k 3 with
      |false=>rw[f] at h;simp at h
      |true=>
       rw[f] at h;have:=OJ n r _ e (by simpa using h);rw[SG,←Ab7,this];rfl
     ·cases h
    ·cases h
   ·cases h
  ·cases h
def UC(ops:Array Oper)(n:Nat)(Ar:List Nat)(l:List Nat)(s:Nat)(v:Bool)(env:Env):Bool:=
 match YU ops n Ar l ((s, .bool v)::env) with
 |some e=>MP ((s, .bool v)::env) l.length e
 |none=>false
theorem MZ{y:Operand}{pos:String}{b:Bool}{v:Value}(hi:ops[i]?=some ⟨some k, .pick f K y,A,pos,o,g⟩)(O:Ar[i]?=some 0)(hg:CF ops env g=true)(hd:Nat.blt k c.n=true)
 (hc:BY env f=some (.bool b))(hv:BY env (if b then K else y)=some v)(next:WD c B ops C Ar is ((k,v)::env) w N):WD c B ops C Ar (i::is) env w N:=
 Qu hi O hg (fun _=>tI hc hv) hd next
theorem dL(q:Bool)(s:Nat)(x:Bool)(R:World→Prop){b:Bool}{pos:String}{v:Operand}
 (hs:look env k=some (.bool b))(hl:is.drop s=i::e)(hi:ops[i]?=some ⟨some n, .pick (.tmp k) f v,A,pos,o,g⟩)(O:Ar[i]?=some 0)(hg:CF ops env g=true)
 (hu:(if q then f else v)= .tmp m)(hv:(if q then v else f)= .const (.bool (!q)))
 (Hs:UC ops c.n Ar (is.take s) k (!q) env=true)(hd:Nat.blt n c.n=true)(hC:C w)
 (hT:b=q→WD c B ops C Ar (is.take s) ((k, .bool q)::env) w (fun tl w'=>look tl m=some (.bool x)∧Sub ((k, .bool q)::env) tl∧R w'))
 (hF:b= !q→R w)
 (next:∀w',R w'→WD c B ops C Ar e ((n, .bool (bif q then b&&x else b||x))::env) w' N):WD c B ops C Ar is env w N:=by
 by_cases J:b=q
 ·refine gf s (fun tl w'=>(look tl m=some (.bool x)∧Sub ((k, .bool q)::env) tl∧R w')) ?_ ?_
  ·intro a u;exact hT J a (u.sub (Sub.cons (by rw[hs,J]) (Sub.refl _)))
  rintro tl w' ⟨p,j,I⟩;rw[hl];have l:Sub env tl:=NG (v:= .bool q) (by rw[hs,J]) j;have r:look tl k=some (.bool q):=j.II k _ (Ka (KJ hs));refine MZ (v:= .bool x) hi O (Gv l hg) hd (b:=q) (by simpa[BY] using r) ?_ ?_
  ·rw[hu];exact p
  have p:(bif q then b&&x else b||x)=x:=by subst J;cases b<;>simp
  have:=next w' I
  rw[p] at this;exact fun a u=>this a (u.sub (ak l))
 have J:b= !q:=by cases b<;>cases q<;>simp_all
 unfold UC at Hs;split at Hs
 ·rename_i tl I;have U:=OJ _ _ _ _ I;have j:Sub ((k, .bool (!q))::env) tl:=Sub.drop _ _ _ U Hs;have l:Sub env tl:=NG (v:= .bool (!q)) (by rw[hs,J]) j;have r:look tl k=some (.bool (!q)):=j.II k _ (Ka (KJ hs));have j:WD c B ops C Ar (is.take s++is.drop s) ((k, .bool (!q))::env) w N:=by
   refine QR hC _ _ _ I ?_;rw[hl];refine MZ (v:= .bool (!q)) hi O (Gv l hg) hd (b:= !q) (by simpa[BY] using r) ?_ ?_
   ·have:(if(!q)=true then f else v)=(if q then v else f):=by cases q<;>rfl
    rw[this,hv];rfl
   have p:(bif q then b&&x else b||x)= !q:=by subst J;cases q<;>simp
   have:=next w (hF J)
   rw[p] at this;exact fun a u=>this a (u.sub (ak l))
  rw[Aas] at j
  exact fun a u=>j a (u.sub (Sub.cons (by rw[hs,J]) (Sub.refl _)))
 cases Hs
structure zz (c:Cx) (ops:Array Oper) (Ar:List Nat) (env:Env) (q:Bool) (k i:Nat) (l tl:List Nat) (s t d:Nat) (b:Bool) (p:Prop) (ty:TypeId) (pos:String) (after:Array Edge) (g:Option (Nat×Bool)) (u v:Operand):Prop where
 hl:l.drop k=i::tl
 hi:ops[i]?=some ⟨some d, .pick (.tmp s) u v,ty,pos,after,g⟩
 hs:look env s=some (.bool b)
 O:Ar[i]?=some 0
 hg:CF ops env g=true
 hu:(if q then u else v)= .tmp t
 hv:(if q then v else u)= .const (.bool (!q))
 Hs:UC ops c.n Ar (l.take k) s (!q) env=true
 hd:Nat.blt d c.n=true
 hp:(b=q)=p
theorem Mq{q:Bool}{tl:List Nat}{ty:Nat}{b:Bool}{p:Prop}{pos:Operand}(hl:e.drop k=i::tl:=by rfl)(hi:ops[i]?=some ⟨some ty, .pick (.tmp m) K pos,d,v,o,g⟩:=by rfl)(hs:look env m=some (.bool b):=by rfl)(O:Ar[i]?=some 0:=by rfl)(hg:CF ops env g=true:=by rfl)
 (hu:(if q then K else pos)= .tmp n:=by rfl)(hv:(if q then pos else K)= .const (.bool (!q)):=by rfl)(Hs:UC ops c.n Ar (e.take k) m (!q) env=true:=by rfl)(hd:Nat.blt ty c.n=true:=by rfl)(hp:(b=q)=p:=by exact Go.Eng.vD):zz c ops Ar env q k i e tl m n ty b p d v o g K pos:=⟨hl,hi,hs,O,hg,hu,hv,Hs,hd,hp⟩
theorem JV(q:Bool)(s:Nat)(x:Bool)(hC:C w){b:Bool}{p:Prop}{pos:Operand}(h:zz c ops Ar env q s i is e k m n b p A v o g K pos)
 (hT:p→WD c B ops C Ar (is.take s) ((k, .bool q)::env) w (fun tl w'=>look tl m=some (.bool x)∧Sub ((k, .bool q)::env) tl∧w=w'))
 (next:WD c B ops C Ar e ((n, .bool (bif q then b&&x else b||x))::env) w N):WD c B ops C Ar is env w N:=
 dL q s x (fun w'=>w=w') h.hs h.hl h.hi h.O h.hg h.hu h.hv h.Hs h.hd hC (fun tl=>hT (h.hp▸tl)) (fun _=>rfl) (fun _ tl=>tl▸next)
theorem po{f:Env}{x:Bool}(m:Nat)(g:look env k=some (.bool x):=by rfl)(hd:env.drop m=f:=by rfl)(hf:MP f m env=true:=by rfl):WD c B ops C Ar [] env w (fun e w'=>look e k=some (.bool x)∧Sub f e∧w=w'):=AP ⟨g,Sub.drop _ m _ hd hf,rfl⟩
theorem Dc(κ:Nat→Nat)(q:Bool)(s:Nat)(x:Bool)(hC:C w){b:Bool}{p:Prop}{pos:Operand}(h:zz c ops Ar env q s i is e k m n b p A v o g K pos)
 (hT:p→Acc κ w [] κ w→WD c B ops C Ar (is.take s) ((k, .bool q)::env) w (fun tl w'=>look tl m=some (.bool x)∧Sub ((k, .bool q)::env) tl∧∃c',Acc κ w [] c' w'))
 (next:∀w' c',Mv κ w c' w' []→WD c B ops C Ar e ((n, .bool (bif q then b&&x else b||x))::env) w' N):WD c B ops C Ar is env w N:=
 dL q s x (fun w'=>∃c',Acc κ w [] c' w') h.hs h.hl h.hi h.O h.hg h.hu h.hv h.Hs h.hd hC (fun tl=>hT (h.hp▸tl) (Acc.refl _ _ _)) (fun _=>⟨_,Acc.refl _ _ _⟩) (fun _ ⟨_,h⟩=>next _ _ h.RS)
theorem Dd{i:Nat→Nat}{f:Env}{x:Bool}(m:Nat)(a:Acc j h [] i w)(g:look env k=some (.bool x):=by rfl)(hd:env.drop m=f:=by rfl)(hf:MP f m env=true:=by rfl):WD c B ops C Ar [] env w (fun e w'=>look e k=some (.bool x)∧Sub f e∧∃c',Acc j h [] c' w'):=AP ⟨g,Sub.drop _ m _ hd hf,_,a⟩
end
theorem Cy{l:List (List UInt8)}(f:Rd DQ w a l)(hl:l.length≤1048576):
 Calls QP 16 #[a] w (Bt fun v' w'=>Below w.heap.size w w'∧CJ w' w.heap.size 9 1 v' l.length (l.flatMap fun x=>[St x])):=by
 obtain⟨B,g⟩:∃B,B=w.heap.size:=⟨_,Z⟩;have BH:B≤w.heap.size:=Nat.le_of_eq g;have hK:Below B w w:=Below.refl _ _;unfold Rd at f;rw[←g] at f⊢;refine AY 19 #[.tmp 2] func16 Z<|Q<|V Z<|Q<|V Z<|Ag<|Q<|V Z<|An<|AG (σ:=Nat×Value) (fun g=>[(0,a),(3,g.2),(4,I g.1)]) (fun g w'=>FC DQ B w' a l∧Below B w w'∧B≤w'.heap.size∧g.1≤l.length∧CJ w' B 9 1 g.2 g.1 ((l.take g.1).flatMap fun x=>[St x])) (fun g=>l.length-g.1) (0, .slice none 0 0) AL ⟨f,hK,BH,by simp,CJ.nil _ _ _ _⟩ ?_;rintro⟨k,g⟩ g ⟨f,hK,BH,O,g⟩;dsimp only at O g⊢;refine Ag<|Q<|M Z<|M Z ?_
 first|refine E (Ez Ch (by assumption) Z) ?_|refine E (Fo underlying37 Z) ?_
 refine E (AX Z Z)<|Ah<|BA Z (fun i=>?_) fun i=>?_
 ·have ka:k<l.length:=G;obtain⟨i,i,rfl,j⟩:=f.zx ka;replace i:=i.fx BH;refine As<|Ag<|An<|cg<|M Z<|M Z<|M Z<|E (BJ Ch (by assumption) Z Z Z Ai Ai)<|E (Cc CQ Z i) ?_;refine ve (FM Ch Z Z Z Z Z) ?_;rintro _ w1 ⟨i,rfl,j⟩;have i:=j.below;replace f:=f.DH (i.mono BH);replace hK:=hK.DH (i.mono BH);replace g:=g.up i;replace BH:=rX BH i.size;refine ve (Fp Ch Z Z g (Aw underlying37 j.AE.AT Z Bg) Fh Fg BH) ?_;intro o w2 j;have i:=j.Pz g BH;replace f:=f.DH i;replace hK:=hK.DH i;replace BH:=rX BH i.size;replace g:=j.own;refine V Z<|cg<|M Z<|E (Bc Z Z Ai Ai)<|V Z ?_;exact⟨(k+1,o),AL,⟨f,hK,BH,ka,by rw[Hi _ ka];exact g⟩,by simp;omega⟩
 refine Az Z<|Q<|M Z<|V Z<|Af Z Z ?_;exact⟨hK,by
  have:k=l.length:=G;subst this;rwa [vq (kM _)] at g⟩
theorem NX(k n:Int):Calls QP 53 #[I k,I n] w (Bt fun v w'=>AZ w w'∧v= .bool (decide (0≤k)&&decide (k≤n))):=by
 refine AY 12 #[.tmp 4] func53 Z<|Q<|V Z<|Q<|M Z<|E (Dh Z Z)<|M Z ?_;apply AW true 3 _ CK
 ·intro f;refine wo<|M Z<|wo<|M Z<|wo<|E (Gw Z Z) ?_;exact EQ 3
 refine V Z<|Af Z Z ?_;exact⟨Aar _ _,Z⟩
theorem zA(n f:Int):Calls QP 53 #[I n,I f] w (Bt fun v w'=>AZ w w'∧v= .bool (decide (0≤n)&&decide (n≤f))):=by
 refine AY 12 #[.tmp 4] func53 Z<|Q<|V Z<|Q<|M Z<|E (Dh Z Z)<|M Z ?_;apply AW true 3 _ CK
 ·intro g;refine wo<|M Z<|wo<|M Z<|wo<|E (Gw Z Z) ?_;exact EQ 3
 refine V Z<|Af Z Z ?_;exact⟨Aar _ _,Z⟩
theorem PE(n low f:Int):Calls QP 131 #[I n,I low,I f] w (Bt fun v w'=>AZ w w'∧v= .bool (decide (low≤n)&&decide (n≤f))):=by
 refine AY 15 #[.tmp 6] func131 Z<|Q<|V Z<|Q<|M Z<|M Z<|E (Dh Z Z)<|M Z ?_;apply AW true 3 _ CK
 ·intro g;refine wo<|M Z<|wo<|M Z<|wo<|E (Gw Z Z) ?_;exact EQ 3
 refine V Z<|Af Z Z ?_;exact⟨Aar _ _,Z⟩
theorem Xc(n:Int):Calls QP 95 #[I n] w (Bt fun v w'=>AZ w w'∧v= .bool (decide (0≤n)&&decide (n≤1073741824))):=by
 refine AY 9 #[.tmp 2] func95 Z<|Q<|V Z<|Q<|M Z<|E (Dh Z Z)<|M Z ?_;apply AW true 2 _ CK
 ·intro f;refine wo<|M Z<|wo<|E (Gw Z Z) ?_;exact EQ 2
 refine V Z<|Af Z Z ?_;exact⟨Aar _ _,Z⟩
theorem It(l:List UInt8)(hl:l.length≤7):
 Calls QP 199 #[St l] w (Bt fun v' w'=>AZ w w'∧v'= .int .u64 (Bi l:Nat)):=by
 refine AY 18 #[.tmp 2] func199 Z<|Q<|V Z<|Ag<|Q<|M Z<|E (Ey underlying9 Z)<|M Z<|Ah<|An<|AG (σ:=Nat) (fun k=>[(0,St l),(5,I l.length),(6,I k),(2, .int .u64 (Bi (l.take k):Nat))]) (fun k w'=>k≤l.length∧w'=w) (fun k=>l.length-k) 0 AL ⟨G,Z⟩ ?_;rintro k p ⟨O,rfl⟩;refine Q<|E (AX Z Z)<|Ah<|Ag<|BA Z (fun j=>?_) fun j=>?_
 ·have f:k<l.length:=G;have o:=HV (l.take k);have g:Bi (l.take k)<72057594037927936:=by
   rw[Ur O] at o;have:256^k≤256^7:=Acm AO G;omega
  refine As<|Ag<|An<|Q<|M Z<|V Z<|cg<|M Z<|E (Uk Z Z g)<|M Z<|M Z<|E (Ks underlying9 Z Z G (dd f))<|E (OG underlying5 underlying278 Z)<|E (RW Z Z g l[k].toNat_lt)<|V Z ?_;refine cg<|E (Bc Z Z Ai Ai)<|M Z<|Ah ?_;have i:Bi (l.take (k+1))=Bi (l.take k)*256+l[k].toNat:=by rw[pk f,Jy]
  refine⟨k+1,?_,⟨f,Z⟩,G⟩;rw[i]
  repeat (first|exact Sub.nil _|refine Sub.cons Z ?_|refine WQ Z ?_)
 refine Az Z<|Q<|M Z<|V Z<|Af Z Z ?_;exact⟨Aar _ _,by rw[vq G]⟩
theorem UD(f:Rd Cg w a l)(hl:l.length≤1048576):
 Calls QP 55 #[a] w (Bt fun v' w'=>Below w.heap.size w w'∧CJ w' w.heap.size 3 1 v' l.length (l.flatMap fun x=>[I x])):=by
 obtain⟨B,g⟩:∃B,B=w.heap.size:=⟨_,Z⟩;have BH:B≤w.heap.size:=Nat.le_of_eq g;have hK:Below B w w:=Below.refl _ _;unfold Rd at f;rw[←g] at f⊢;refine AY 19 #[.tmp 2] func55 Z<|Q<|V Z<|Q<|V Z<|Ag<|Q<|V Z<|An<|AG (σ:=Nat×Value) (fun g=>[(0,a),(3,g.2),(4,I g.1)]) (fun g w'=>FC Cg B w' a l∧Below B w w'∧B≤w'.heap.size∧g.1≤l.length∧CJ w' B 3 1 g.2 g.1 ((l.take g.1).flatMap fun x=>[I x])) (fun g=>l.length-g.1) (0, .slice none 0 0) AL ⟨f,hK,BH,by simp,CJ.nil _ _ _ _⟩ ?_;rintro⟨k,g⟩ g ⟨f,hK,BH,O,g⟩;dsimp only at O g⊢;refine Ag<|Q<|M Z<|M Z ?_
 first|refine E (Ez BM (by assumption) Z) ?_|refine E (Fo underlying23 Z) ?_
 refine E (AX Z Z)<|Ah<|BA Z (fun i=>?_) fun i=>?_
 ·have ka:k<l.length:=G;obtain⟨i,i,rfl,j⟩:=f.zx ka;replace i:=i.fx BH;refine As<|Ag<|An<|cg<|M Z<|M Z<|M Z<|E (BJ BM (by assumption) Z Z Z Ai Ai)<|E (Cc AF Z i) ?_;refine ve (FM BM Z Z Z Z Z) ?_;rintro _ w1 ⟨i,rfl,j⟩;have i:=j.below;replace f:=f.DH (i.mono BH);replace hK:=hK.DH (i.mono BH);replace g:=g.up i;replace BH:=rX BH i.size;refine ve (Fp BM Z Z g (Aw underlying23 j.AE.AT Z Bg) Fh Fg BH) ?_;intro o w2 j;have i:=j.Pz g BH;replace f:=f.DH i;replace hK:=hK.DH i;replace BH:=rX BH i.size;replace g:=j.own;refine V Z<|cg<|M Z<|E (Bc Z Z Ai Ai)<|V Z ?_;exact⟨(k+1,o),AL,⟨f,hK,BH,ka,by rw[Hi _ ka];exact g⟩,by simp;omega⟩
 refine Az Z<|Q<|M Z<|V Z<|Af Z Z ?_;exact⟨hK,by
  have:k=l.length:=G;subst this;rwa [vq (kM _)] at g⟩
theorem YV{o:List Int}(g:Rd Cg w a o)(j:Rd Cg w y l):
 Calls QP 205 #[a,y] w (Bt fun v w'=>AZ w w'∧v= .bool (decide (o=l))):=by
 have hK:FY w w:=Bf w;have f:=g.vW;refine AY 26 #[.tmp 4] func205 Z<|Q<|V Z<|Ag<|Q<|M Z ?_
 first|refine E (Ez BM (by assumption) Z) ?_|refine E (Fo underlying23 Z) ?_
 refine M Z ?_
 first|refine E (Ez BM (by assumption) Z) ?_|refine E (Fo underlying23 Z) ?_
 refine E (BK Z Z)<|Ah<|BA Z (fun f=>?_) fun f=>?_
 ·have:o≠l:=fun e=>by subst e;omega
  refine Q<|V Z<|Af Z Z ?_;exact⟨hK,by simp[this]⟩
 refine As<|Ag<|Q<|V Z<|An<|AG (σ:=Nat) (fun k=>[(0,a),(1,y),(5,I k)]) (fun k w'=>Rd Cg w' a o∧Rd Cg w' y l∧FY w w'∧k≤o.length∧o.take k=l.take k) (fun k=>o.length-k) 0 AL ⟨g,j,hK,G,Z⟩ ?_;rintro k f ⟨g,j,hK,O,r⟩;have i:o.length=l.length:=G;refine Ag<|Q<|M Z<|M Z ?_
 first|refine E (Ez BM (by assumption) Z) ?_|refine E (Fo underlying23 Z) ?_
 refine E (AX Z Z)<|Ah<|BA Z (fun i=>?_) fun i=>?_
 ·have ka:k<o.length:=G;have kb:k<l.length:=G;obtain⟨i,t,rfl,i⟩:=g.el ka;obtain⟨i,C,rfl,i⟩:=j.el kb;refine As<|Ag<|An<|Ag<|Fq (Below f.heap.size f) [0,0,0,1,0,0,0,1,0] [0,1,2,3,4,5,6,7,8] mixed Ao ?_;have i:Below f.heap.size f f.drew:=(Aar _ _).drew;have b:Below f.heap.size f f.drew:=(Aar _ _).drew;generalize f.drew=w1 at i b⊢;refine Bm Z Z<|Bm Z Z<|AN Z (BJ BM (by assumption) Z Z Z Ai Ai)<|qc Z Z Z b (fun W f=>Cc AF Z (t.up f)) Z<|Bm Z Z<|Bm Z Z<|AN Z (BJ BM (by assumption) Z Z Z Ai Ai)<|qc Z Z Z b (fun W f=>Cc AF Z (C.up f)) Z<|AN Z (BK Z Z) ?_;refine AP ?_;refine BA Z (fun f=>?_) fun f=>?_
  ·replace f:o[k]≠l[k]:=by simpa using f
   refine Q<|V Z<|Af Z Z ?_;exact⟨(hK.up i),by simp[fB ka kb f]⟩
  replace f:o[k]=l[k]:=by simpa using f
  refine As<|cg<|M Z<|E (Bc Z Z Ai Ai)<|V Z ?_;exact⟨k+1,AL,⟨(g.up i),(j.up i),(hK.up i),ka,WZ ka kb r f⟩,G⟩
 refine Az Z<|Q<|V Z<|Af Z Z ?_;exact⟨hK,by simp[ar r G G]⟩
def Fb(n:Int):Bool:=decide (0≤n)&&decide (n≤1073741824)
def Gi(p:Int×Int):Bool:=decide (p.1< -1)||decide (12≤p.1)||decide (p.2<0)||decide (64≤p.2)
def sP(r:Rec):Int:=if hasB r.Ar 105 then r.id else 0
def sQ(r:Rec):List UInt8:=if hasB r.Ar 110 then r.name else[]
def sR(r:Rec):List UInt8:=if hasB r.Ar 100 then r.AK else[]
def sS(r:Rec):List Int:=if hasB r.Ar 108 then r.list else[]
def sT(r:Rec):List (Int×Int):=if hasB r.Ar 115 then r.Bo else[]
def want(r:Rec):Rec:=⟨r.Ar,sP r,sQ r,sR r,sS r,sT r⟩
def KL(r:Rec):Bool:=decide (r.Ar<1)||decide (8<r.Ar)
def lN(r:Rec):Bool:=
 !decide (r=want r)|| !Fb r.id||(hasB r.Ar 110&& !(decide (1≤(r.name.length:Int))&&decide ((r.name.length:Int)≤40)))||(hasB r.Ar 100&& !decide ((r.AK.length:Int)=32))||
  decide (2000<(r.list.length:Int))||(decide (r.Ar=2)&& !decide ((r.list.length:Int)=2))||(hasB r.Ar 115&& !(decide (1≤(r.Bo.length:Int))&&decide ((r.Bo.length:Int)≤14)))
def FT(r:Rec):Bool:= !KL r&& !lN r&&r.list.all Fb&&r.Bo.all (fun p=> !Gi p)
def QS(r:Rec):Bool:=(hasB r.Ar 105&& !Fb r.id)||(hasB r.Ar 110&&(decide ((r.name.length:Int)<1)||decide (40<(r.name.length:Int))))||(hasB r.Ar 100&& !decide ((r.AK.length:Int)=32))
def UE(r:Rec):Bool:= !(decide (r.Ar=2)&& !decide ((r.list.length:Int)=2))&&(decide ((r.list.length:Int)≤2000)&& !(r.list.any fun n=> !Fb n))
def OK(l:List (Int×Int)):Bool:=decide (1≤(l.length:Int))&&decide ((l.length:Int)≤14)&& !(l.any Gi)
def QT(r:Rec):Bool:=(hasB r.Ar 108&& !UE r)||(hasB r.Ar 115&& !OK r.Bo)
def gg(r:Rec):Bool:=(hasB r.Ar 105||decide (r.id=0))&&(hasB r.Ar 110||(r.name==[]))&&(hasB r.Ar 100||(r.AK==[]))&&(hasB r.Ar 108||decide ((r.list.length:Int)=0))&&(hasB r.Ar 115||decide ((r.Bo.length:Int)=0))
theorem aas(l:List α):((l.length:Int)=0)↔l=[]:=by cases l<;>simp;omega
theorem NY(r:Rec):r=want r↔(hasB r.Ar 105=true∨r.id=0)∧(hasB r.Ar 110=true∨r.name=[])∧(hasB r.Ar 100=true∨r.AK=[])∧(hasB r.Ar 108=true∨r.list=[])∧(hasB r.Ar 115=true∨r.Bo=[]):=by
 obtain⟨k,i,n,d,l,s⟩:=r;simp only[want,sP,sQ,sR,sS,sT,Rec.mk.injEq,true_and];cases hasB k 105<;>cases hasB k 110<;>cases hasB k 100<;>cases hasB k 108<;>cases hasB k 115<;>simp
theorem yG{k:Int}(h:k=2):hasB k 108=true:=by subst h;decide
theorem hZ(r:Rec):UE r=true↔(r.Ar=2→(r.list.length:Int)=2)∧(r.list.length:Int)≤2000∧∀x∈r.list,Fb x=true:=by
 simp only[UE,kg,Aa9,Ac9,Aay,Ad4,pn,Ab9,Ae1,Bool.not_eq_false];constructor
 ·rintro⟨f,g,i⟩;exact⟨fun e=>f.resolve_left (fun n=>n e),g,i⟩
 ·rintro⟨f,g,i⟩;exact⟨(Decidable.em (r.Ar=2)).symm.imp id f,g,i⟩
theorem aE(l:List (Int×Int)):OK l=true↔(1≤(l.length:Int)∧(l.length:Int)≤14)∧∀x∈l,Gi x=false:=by
 simp only[OK,kg,Aa9,pn,Ab9,Ae1]
theorem HZ(r:Rec):FT r=true↔KL r=false∧r=want r∧Fb r.id=true∧(hasB r.Ar 110=true→1≤(r.name.length:Int)∧(r.name.length:Int)≤40)∧(hasB r.Ar 100=true→(r.AK.length:Int)=32)∧
 (r.list.length:Int)≤2000∧(r.Ar=2→(r.list.length:Int)=2)∧(hasB r.Ar 115=true→1≤(r.Bo.length:Int)∧(r.Bo.length:Int)≤14)∧(∀x∈r.list,Fb x=true)∧(∀x∈r.Bo,Gi x=false):=by
 simp only[FT,lN,kg,Aa9,Aa1,Ac9,Aay,Ad4,pn,Aae,Int.not_lt,and_assoc];refine Af1 fun _=>Af1 fun _=>Af1 fun _=>and_congr ?_ (and_congr ?_ (Af1 fun _=>and_congr ?_ (and_congr ?_ Iff.rfl)))
 ·cases hasB r.Ar 110<;>simp
 ·cases hasB r.Ar 100<;>simp
 ·by_cases h:r.Ar=2<;>simp[h]
 cases hasB r.Ar 115<;>simp
theorem ia:Fb 0=true:=by decide
theorem OL(r:Rec):FT r=(!KL r&& !QS r&& !QT r&&gg r):=by
 rw[Adn,HZ,NY];simp only[QS,QT,gg,kg,Aa9,Aa1,Ac9,Aay,Ad4,pn,Ad1,Aa3,hZ,aE,aas,and_assoc,Int.not_lt];have O:=@yG r.Ar;constructor
 ·rintro⟨C,j,R,J,g,l,t,o,p,i,f,I,U,a1⟩;refine⟨C, .inr t,?_,?_, .inr ⟨f,i,U⟩,?_,j,R,J,g,l⟩
  ·cases e:hasB r.Ar 110
   ·exact .inl Z
   exact .inr (o e)
  ·cases e:hasB r.Ar 100
   ·exact .inl Z
   exact .inr (p e)
  cases e:hasB r.Ar 115
  ·exact .inl Z
  have:=I e;exact .inr ⟨this.1,this.2,a1⟩
 rintro⟨C,t,o,p,i,f,j,R,J,g,l⟩;have I:(r.Ar=2→(r.list.length:Int)=2)∧(r.list.length:Int)≤2000∧∀x∈r.list,Fb x=true:=by
  rcases i with i|i
  ·rcases g with g|g
   ·rw[i] at g;exact absurd g AO
   exact⟨fun e=>by rw[yG e] at i;exact absurd i AO,by simp[g],by simp[g]⟩
  exact i
 refine⟨C,j,R,J,g,l,?_,?_,?_,I.2.1,I.1,?_,I.2.2,?_⟩
 ·rcases t with t|t
  ·rcases j with j|j
   ·rw[t] at j;exact absurd j AO
   rw[j];exact ia
  exact t
 ·intro e;rcases o with o|o
  ·rw[e] at o;exact absurd o AO
  exact o
 ·intro e;rcases p with p|p
  ·rw[e] at p;exact absurd p AO
  exact p
 ·intro e;rcases f with f|f
  ·rw[e] at f;exact absurd f AO
  exact⟨f.1,f.2.1⟩
 rcases f with f|f
 ·rcases l with l|l
  ·rw[f] at l;exact absurd l AO
  simp[l]
 exact f.2.2
theorem Xd(k:Int):Calls QP 167 #[I k] w (Bt fun v w'=>AZ w w'∧v=St (Cb k)):=by
 refine AY 19 #[.tmp 2] func167 Z<|Q<|V Z<|Ag<|Q<|M Z<|Ah<|An<|Q<|E (BO Z Z)<|V Z<|BA Z (fun o=>?_) fun o=>?_
 ·refine Q<|V Z ?_;refine Af Z Z ?_;exact⟨Aar _ _,by subst o;rfl⟩
 refine Q<|E (BO Z Z)<|V Z<|BA Z (fun p=>?_) fun p=>?_
 ·refine Q<|V Z ?_;refine Af Z Z ?_;exact⟨Aar _ _,by subst p;rfl⟩
 refine Q<|E (BO Z Z)<|V Z<|BA Z (fun r=>?_) fun r=>?_
 ·refine Q<|V Z ?_;refine Af Z Z ?_;exact⟨Aar _ _,by subst r;rfl⟩
 refine Ag<|Q<|E (BO Z Z)<|V Z<|BA Z (fun j=>?_) fun j=>?_
 ·refine As ?_;refine BA Z (fun j=>?_) fun j=>?_
  ·refine Q<|V Z ?_;refine Af Z Z ?_;exact⟨Aar _ _,by first|(subst j;rfl)|(subst l;rfl)⟩
  refine Q<|E (BO Z Z)<|V Z<|BA Z (fun f=>?_) fun f=>?_
  ·refine Q<|V Z ?_;refine Af Z Z ?_;exact⟨Aar _ _,by first|(subst f;rfl)|(exfalso;omega)⟩
  refine Q<|E (BO Z Z)<|V Z<|BA Z (fun g=>?_) fun g=>?_
  ·refine Q<|V Z ?_;refine Af Z Z ?_;exact⟨Aar _ _,by first|(subst g;rfl)|(exfalso;omega)⟩
  refine Q<|E (BO Z Z)<|V Z<|BA Z (fun i=>?_) fun i=>?_
  ·refine Q<|V Z ?_;refine Af Z Z ?_;exact⟨Aar _ _,by first|(subst i;rfl)|(exfalso;omega)⟩
  refine As<|Q<|V Z<|Af Z Z ?_;exact⟨Aar _ _,by first|(exfalso;omega)|simp[Cb, *]⟩
 refine cg<|E (BO Z Z)<|V Z<|BA Z (fun l=>?_) fun l=>?_
 ·refine Q<|V Z ?_;refine Af Z Z ?_;exact⟨Aar _ _,by first|(subst j;rfl)|(subst l;rfl)⟩
 refine Q<|E (BO Z Z)<|V Z<|BA Z (fun f=>?_) fun f=>?_
 ·refine Q<|V Z ?_;refine Af Z Z ?_;exact⟨Aar _ _,by first|(subst f;rfl)|(exfalso;omega)⟩
 refine Q<|E (BO Z Z)<|V Z<|BA Z (fun g=>?_) fun g=>?_
 ·refine Q<|V Z ?_;refine Af Z Z ?_;exact⟨Aar _ _,by first|(subst g;rfl)|(exfalso;omega)⟩
 refine Q<|E (BO Z Z)<|V Z<|BA Z (fun i=>?_) fun i=>?_
 ·refine Q<|V Z ?_;refine Af Z Z ?_;exact⟨Aar _ _,by first|(subst i;rfl)|(exfalso;omega)⟩
 refine As<|Q<|V Z<|Af Z Z ?_;exact⟨Aar _ _,by first|(exfalso;omega)|simp[Cb, *]⟩
theorem ib{c:Int}(h:∀x∈(Cb p).take m,(x.toNat:Int)≠c)(f:(Cb p).length≤m):hasB p c=false:=by
 rw[vq f] at h;simp only[hasB,Ab9,pn];exact h
theorem ic{c:Int}(f:m<(Cb p).length)(h:((Cb p)[m].toNat:Int)=c):hasB p c=true:=by
 simp only[hasB,Aa8,pn];exact⟨_,mv f,h⟩
theorem YW{c:Int}(h:∀x∈s.take k,(x.toNat:Int)≠c)(f:k<s.length)(g:(s[k].toNat:Int)≠c):∀x∈s.take (k+1),(x.toNat:Int)≠c:=by
 rw[pk f];intro x hx;rcases Aac.1 hx with hx|hx
 ·exact h x hx
 ·rw[pv.1 hx];exact g
theorem IX(k c:Int):Calls QP 94 #[I k, .int .i32 c] w (Bt fun v w'=>Below w.heap.size w w'∧v= .bool (hasB k c)):=by
 obtain⟨B,f⟩:∃B,B=w.heap.size:=⟨_,Z⟩;have hK:Below B w w:=Aar _ _;have BH:B≤w.heap.size:=Ado f;rw[←f];refine AY 16 #[.tmp 4] func94 Z<|Q<|V Z<|Ag<|Q<|M Z<|ve (Ab sr Z (Xd k)) ?_;rintro f w1 ⟨f,rfl⟩;replace hK:=hK.DH (f.mono BH);replace BH:=rX BH f.size;refine ve (Pp underlying9 Z) ?_;rintro _ w2 ⟨f,b,rfl,g,hit⟩;have i:B≤b:=G;replace hK:=hK.DH (f.mono BH);replace BH:=rX BH f.size;refine Ah<|An<|AG (σ:=Nat) (fun j=>[(0,I k),(1, .int .i32 c),(9, .pointer (some ⟨b,0,none⟩))]) (fun j w'=>Iter w' b (Cb k) j∧Below B w w'∧B≤w'.heap.size∧j≤(Cb k).length∧∀x∈(Cb k).take j,(x.toNat:Int)≠c) (fun j=>(Cb k).length-j) 0 AL ⟨hit,hK,BH,G,by simp⟩ ?_;rintro j p ⟨hit,hK,BH,f,i⟩;refine Ag ?_;skip;refine cg<|ve (Qv Z hit (Pr k)) ?_;rintro _ o ⟨g,rfl,l⟩;have f:Below B p o:=DY g BH (by simp;omega);replace hK:=hK.DH f;replace BH:=rX BH f.size;refine E (li Z)<|Ah<|Ag<|BA Z (fun f=>?_) fun f=>?_
 ·replace hit:=l f;refine As<|An<|Q<|E (sa Z f)<|V Z<|Q<|M Z<|M Z<|E (BO Z Z)<|Ah<|BA Z (fun g=>?_) fun g=>?_
  ·refine Q<|V Z ?_;refine Af Z Z ?_;exact⟨hK,by rw[ic f g]⟩
  refine As ?_;exact⟨j+1,AL,⟨hit,hK,BH,f,YW i f g⟩,G⟩
 refine Az Z<|Q<|V Z<|Af Z Z ?_;exact⟨hK,by rw[ib i G]⟩
theorem lO(n:Int):Calls QP 169 #[I n] w (Bt fun v w'=>AZ w w'∧v= .bool (!(decide (0≤n)&&decide (n≤1073741824)))):=by
 have hK:FY w w:=Bf w;refine AY 6 #[.tmp 2] func169 Z<|Q<|V Z<|Q<|M Z<|ve (Ab tZ Z (Xc n)) ?_;rintro v4 w1 ⟨f,rfl⟩;refine E (BL Z)<|V Z<|Af Z Z ?_;exact⟨(hK.up f),Z⟩
theorem dM(p:Int×Int):Calls QP 170 #[.agg #[I p.1,I p.2]] w (Bt fun v w'=>AZ w w'∧v= .bool (Gi p)):=by
 have hK:FY w w:=Bf w;refine AY 21 #[.tmp 2] func170 Z<|Q<|ve (IQ Z) ?_;rintro _ w1 ⟨b1,rfl,g⟩;have i:=g.below;have f:=g.AE;refine V Z<|Q<|E (Aa Ct Z)<|E (Al AF Z f Z)<|E (AX Z Z)<|M Z ?_;apply AW false 3 _ CK
 ·intro o;refine wo<|E (Aa Ct Z)<|wo<|E (Al AF Z f Z)<|wo<|E (Dh Z Z) ?_;exact EQ 3
 refine M Z ?_;apply AW false 3 _ CK
 ·intro j;refine wo<|E (Aa GP Z)<|wo<|E (Al AF Z f Z)<|wo<|E (AX Z Z) ?_;exact EQ 3
 refine M Z ?_;apply AW false 3 _ CK
 ·intro l;refine wo<|E (Aa GP Z)<|wo<|E (Al AF Z f Z)<|wo<|E (Dh Z Z) ?_;exact EQ 3
 refine V Z<|Af Z Z ?_;exact⟨(hK.up i),Z⟩
theorem aF{q:α→Bool}(h:∀x∈t.take k,q x=false)(f:k<t.length)(g:q t[k]=false):∀x∈t.take (k+1),q x=false:=by
 rw[pk f];intro x hx;rcases Aac.1 hx with hx|hx
 ·exact h x hx
 ·rw[pv.1 hx];exact g
theorem any_none{q:α→Bool}(h:∀x∈t.take k,q x=false)(f:t.length≤k):t.any q=false:=by
 rw[vq f] at h;simp only[Ab9];intro x hx;rw[h x hx];decide
theorem aG{w:World}{q:Int→Bool}(g:Rd Cg w a l)(hf:Aj QP S=true)(r:∀(w:World) (x:Int),Calls QP S #[I x] w (Bt fun a w'=>AZ w w'∧a= .bool (q x))):
 Calls QP 236 #[a, .func (.func S) #[] #[]] w (Bt fun v' w'=>AZ w w'∧∃i:Int,v'=I i∧decide (0≤i)=l.any q):=by
 have j:=g.small;have hK:FY w w:=Bf w;refine AY 19 #[.tmp 4] func236 Z<|Q<|V Z<|Ag<|Q<|M Z ?_
 first|refine E (Ez BM (by assumption) Z) ?_|refine E (Fo underlying23 Z) ?_
 refine M Z<|Ah<|An<|AG (σ:=Nat) (fun k=>[(0,a),(1, .func (.func S) #[] #[]),(7,I l.length),(8,I k)]) (fun k w'=>Rd Cg w' a l∧FY w w'∧k≤l.length∧∀x∈l.take k,q x=false) (fun k=>l.length-k) 0 AL ⟨g,hK,G,by simp⟩ ?_;rintro k j ⟨g,hK,O,p⟩;refine Q<|E (AX Z Z)<|Ah<|Ag<|BA Z (fun j=>?_) fun j=>?_
 ·have ka:k<l.length:=G;obtain⟨j,j,rfl,o⟩:=g.el ka;refine As<|Ag<|An<|Q<|M Z<|V Z<|Q<|M Z<|M Z<|M Z<|E (BJ BM (by assumption) Z Z Z Ai Ai)<|E (Cc AF Z j) ?_;refine ve (DV Z hf Z (r _ _)) ?_;rintro _ j ⟨o,rfl⟩;refine Ah<|BA Z (fun j=>?_) fun j=>?_
  ·refine Q<|M Z<|V Z ?_;refine Af Z Z ?_;exact⟨(hK.up o),_,Z,by rw[Aa8.2 ⟨_,mv ka,j⟩];simp⟩
  refine As<|cg<|E (Bc Z Z Ai Ai)<|M Z<|Ah ?_;exact⟨k+1,AL,⟨(g.up o),(hK.up o),ka,aF p ka j⟩,G⟩
 refine Az Z<|Q<|V Z<|Af Z Z ?_;exact⟨hK,-1,Z,by rw[any_none p G];decide⟩
theorem YX{w:World}{q:Int×Int→Bool}(g:Rd Bx w a u)(hf:Aj QP S=true)(r:∀(w:World) (x:Int×Int),Calls QP S #[.agg #[I x.1,I x.2]] w (Bt fun a w'=>AZ w w'∧a= .bool (q x))):
 Calls QP 191 #[a, .func (.func S) #[] #[]] w (Bt fun v' w'=>AZ w w'∧∃i:Int,v'=I i∧decide (0≤i)=u.any q):=by
 have j:=g.small;have hK:FY w w:=Bf w;refine AY 19 #[.tmp 4] func191 Z<|Q<|V Z<|Ag<|Q<|M Z ?_
 first|refine E (Ez DL (by assumption) Z) ?_|refine E (Fo underlying50 Z) ?_
 refine M Z<|Ah<|An<|AG (σ:=Nat) (fun k=>[(0,a),(1, .func (.func S) #[] #[]),(7,I u.length),(8,I k)]) (fun k w'=>Rd Bx w' a u∧FY w w'∧k≤u.length∧∀x∈u.take k,q x=false) (fun k=>u.length-k) 0 AL ⟨g,hK,G,by simp⟩ ?_;rintro k j ⟨g,hK,O,p⟩;refine Q<|E (AX Z Z)<|Ah<|Ag<|BA Z (fun j=>?_) fun j=>?_
 ·have ka:k<u.length:=G;obtain⟨j,j,rfl,o⟩:=g.el ka;refine As<|Ag<|An<|Q<|M Z<|V Z<|Q<|M Z<|M Z<|M Z<|E (BJ DL (by assumption) Z Z Z Ai Ai)<|E (DT Dj Z j Z) ?_;refine ve (DV Z hf Z (r _ _)) ?_;rintro _ j ⟨o,rfl⟩;refine Ah<|BA Z (fun j=>?_) fun j=>?_
  ·refine Q<|M Z<|V Z ?_;refine Af Z Z ?_;exact⟨(hK.up o),_,Z,by rw[Aa8.2 ⟨_,mv ka,j⟩];simp⟩
  refine As<|cg<|E (Bc Z Z Ai Ai)<|M Z<|Ah ?_;exact⟨k+1,AL,⟨(g.up o),(hK.up o),ka,aF p ka j⟩,G⟩
 refine Az Z<|Q<|V Z<|Af Z Z ?_;exact⟨hK,-1,Z,by rw[any_none p G];decide⟩
theorem UF{w:World}{q:Int→Bool}(g:Rd Cg w a l)(hf:Aj QP S=true)(o:∀(w:World) (x:Int),Calls QP S #[I x] w (Bt fun a w'=>AZ w w'∧a= .bool (q x))):
 Calls QP 168 #[a, .func (.func S) #[] #[]] w (Bt fun v' w'=>AZ w w'∧v'= .bool (l.any q)):=by
 have hK:FY w w:=Bf w;refine AY 9 #[.tmp 4] func168 Z<|Q<|V Z<|Q<|M Z<|M Z<|ve (Ab sG Z (aG g hf o)) ?_;rintro p w1 ⟨j,i,rfl,hi⟩;refine E (Dh Z Z)<|V Z<|Af Z Z ?_;exact⟨(hK.up j),by rw[hi]⟩
theorem Tz{w:World}{q:Int×Int→Bool}(g:Rd Bx w a u)(hf:Aj QP S=true)(o:∀(w:World) (x:Int×Int),Calls QP S #[.agg #[I x.1,I x.2]] w (Bt fun a w'=>AZ w w'∧a= .bool (q x))):
 Calls QP 171 #[a, .func (.func S) #[] #[]] w (Bt fun v' w'=>AZ w w'∧v'= .bool (u.any q)):=by
 have hK:FY w w:=Bf w;refine AY 9 #[.tmp 4] func171 Z<|Q<|V Z<|Q<|M Z<|M Z<|ve (Ab lE Z (YX g hf o)) ?_;rintro p w1 ⟨j,i,rfl,hi⟩;refine E (Dh Z Z)<|V Z<|Af Z Z ?_;exact⟨(hK.up j),by rw[hi]⟩
theorem pP{r:Rec}(h:UA w cs r):Calls QP 96 #[.agg cs.toArray] w (Bt fun v w'=>AZ w w'∧v= .bool (UE r)):=by
 obtain⟨vl,vs,rfl,hl,hs,f⟩:=h;have hK:FY w w:=Bf w;have f:=hl.AD;have f:=hs.AD;refine AY 22 #[.tmp 2] func96 Z<|Q<|ve (IQ Z) ?_;rintro _ w1 ⟨b1,rfl,g⟩;have i:=g.below;have f:=g.AE;refine V Z<|Ag<|Q<|E (Aa Gg Z)<|E (Al AF Z f Z)<|E (BO Z Z)<|M Z ?_;apply AW true 4 _ CK
 ·intro g;refine wo<|E (Aa DE Z)<|wo<|E (Al BQ Z f Z)<|wo ?_
  first|refine E (Ez BM (by assumption) Z) ?_|refine E (Fo underlying23 Z) ?_
  refine wo<|E (BK Z Z) ?_;exact EQ 4
 refine Ah<|BA Z (fun g=>?_) fun g=>?_
 ·refine Q<|V Z ?_;refine Af Z Z ?_;exact⟨(hK.up i),by simp[UE,g]⟩
 refine As<|Q<|E (Aa DE Z)<|E (Al BQ Z f Z) ?_
 first|refine E (Ez BM (by assumption) Z) ?_|refine E (Fo underlying23 Z) ?_
 refine E (Gw Z Z)<|M Z ?_;apply GC true 4 (!(r.list.any fun n=> !Fb n)) CK
 ·intro j;have j:FY w1 w1:=Bf _;refine wo<|E (Aa DE Z)<|wo<|E (Al BQ Z f Z)<|wo<|ve (Ab st Z (UF (hl.up i) xx (fun _ x↦lO x))) ?_;rintro f w2 ⟨f,rfl⟩;refine wo<|E (BL Z) ?_;exact Et ⟨Z,Sub.drop _ 4 _ Z Z,(j.up f)⟩
 intro f f;refine V Z<|Af Z Z ?_;exact⟨((hK.up i).up f),by rw[UE,g];simp only[cond_true,Bool.not_false,Agv]⟩
theorem ie(f:Rd Bx w a u):Calls QP 97 #[a] w (Bt fun v' w'=>AZ w w'∧v'= .bool (OK u)):=by
 have hK:FY w w:=Bf w;refine AY 18 #[.tmp 2] func97 Z<|Q<|V Z<|Q<|V Z<|Q<|M Z ?_
 first|refine E (Ez DL (by assumption) Z) ?_|refine E (Fo underlying50 Z) ?_
 refine E (Dh Z Z)<|M Z ?_;apply AW true 3 _ CK
 ·intro p;refine wo<|M Z<|wo ?_
  first|refine E (Ez DL (by assumption) Z) ?_|refine E (Fo underlying50 Z) ?_
  refine wo<|E (Gw Z Z) ?_;exact EQ 3
 refine M Z ?_;apply GC true 4 (!(u.any Gi)) CK
 ·intro o;have g:FY w w:=Bf _;refine wo<|M Z<|wo<|M Z<|wo<|ve (Ab lD Z (Tz f xy (fun _ x↦dM x))) ?_;rintro r w1 ⟨i,rfl⟩;refine wo<|E (BL Z) ?_;exact Et ⟨Z,Sub.drop _ 4 _ Z Z,(g.up i)⟩
 intro w2 j;refine V Z<|Af Z Z ?_;exact⟨(hK.up j),Z⟩
theorem dN{r:Rec}(h:UA w cs r):Calls QP 37 #[.agg cs.toArray] w (Bt fun v w'=>AZ w w'∧v= .bool (FT r)):=by
 obtain⟨vl,vs,rfl,hl,hs,J⟩:=h;have hK:FY w w:=Bf w;have f:=hl.AD;have f:=hs.AD;refine AY 108 #[.tmp 2] func37 Z<|Q<|ve (IQ Z) ?_;rintro _ w1 ⟨b1,rfl,f⟩;have t:=f.below;have l:=f.AE;refine V Z<|Q<|E (Aa Gg Z)<|E (Al AF Z l Z)<|V Z<|Ag<|Q<|M Z<|E (AX Z Z)<|M Z ?_;apply AW false 2 _ CK
 ·intro f;refine wo<|M Z<|wo<|E (CM Z Z) ?_;exact EQ 2
 refine Ah<|GO Z (fun U=>?_) fun U=>?_
 ·refine Q<|V Z ?_;refine Af Z Z ?_;have e:KL r=true:=U;exact⟨(hK.up t),by rw[OL,e];rfl⟩
 refine As<|Ag<|Q<|M Z<|ve (Ab QM Z (IX r.Ar 105)) ?_;rintro f w2 ⟨f,rfl⟩;refine M Z ?_;apply GC true 4 (!Fb r.id) CK
 ·intro g;have g:FY w2 w2:=Bf _;refine wo<|E (Aa Hl Z)<|wo<|E (Al AF Z (l.up f) Z)<|wo<|ve (Ab tZ Z (Xc r.id)) ?_;rintro i i ⟨i,rfl⟩;refine wo<|E (BL Z) ?_;exact Et ⟨Z,Sub.drop _ 4 _ Z Z,(g.up i)⟩
 intro i g;refine M Z ?_;apply GC false 14 (hasB r.Ar 110&&(decide ((r.name.length:Int)<1)||decide (40<(r.name.length:Int)))) CK
 ·intro b0;have j:FY i i:=Bf _;refine wo<|M Z<|wo<|ve (Ab QM Z (IX r.Ar 110)) ?_;rintro i i ⟨i,rfl⟩;refine wo<|M Z ?_;apply AW true 10 _ CK
  ·intro o;refine wo<|E (Aa MW Z)<|wo<|E (Al CQ Z (((l.up f).up g).up i) Z)<|wo<|E (Ey underlying9 Z)<|wo<|E (AX Z Z)<|wo<|M Z ?_;apply AW false 4 _ CK
   ·intro o;refine wo<|E (Aa MW Z)<|wo<|E (Al CQ Z (((l.up f).up g).up i) Z)<|wo<|E (Ey underlying9 Z)<|wo<|E (CM Z Z) ?_;exact EQ 4
   exact EQ 6
  exact Et ⟨Z,Sub.drop _ 4 _ Z Z,(j.up i)⟩
 intro j i;refine M Z ?_;apply GC false 8 (hasB r.Ar 100&& !decide ((r.AK.length:Int)=32)) CK
 ·intro b2;have o:FY j j:=Bf _;refine wo<|M Z<|wo<|ve (Ab QM Z (IX r.Ar 100)) ?_;rintro j j ⟨j,rfl⟩;refine wo<|M Z ?_;apply AW true 4 _ CK
  ·intro p;refine wo<|E (Aa JS Z)<|wo<|E (Al CQ Z ((((l.up f).up g).up i).up j) Z)<|wo<|E (Ey underlying9 Z)<|wo<|E (BK Z Z) ?_;exact EQ 4
  exact Et ⟨Z,Sub.drop _ 4 _ Z Z,(o.up j)⟩
 intro j j;refine Ah<|GO Z (fun a1=>?_) fun a1=>?_
 ·refine Q<|V Z ?_;refine Af Z Z ?_;have e:QS r=true:=a1;exact⟨(((((hK.up t).up f).up g).up i).up j),by rw[OL,e];simp⟩
 refine As<|Ag<|Q<|M Z<|ve (Ab QM Z (IX r.Ar 108)) ?_;rintro o p ⟨o,rfl⟩;refine M Z ?_;apply GC true 3 (!UE r) CK
 ·intro b3;have C:FY p p:=Bf _;refine wo<|E (Ba Df Z (((((l.up f).up g).up i).up j).up o) Z)<|wo<|ve (Ab aao Z (pP (r:=r) (cs:=[I r.Ar,I r.id,St r.name,St r.AK,vl,vs]) ⟨vl,vs,Z,((((((hl.up t).up f).up g).up i).up j).up o),((((((hs.up t).up f).up g).up i).up j).up o),J⟩)) ?_;rintro p p ⟨p,rfl⟩;refine wo<|E (BL Z) ?_;exact Et ⟨Z,Sub.drop _ 3 _ Z Z,(C.up p)⟩
 intro C p;refine M Z ?_;apply GC false 8 (hasB r.Ar 115&& !OK r.Bo) CK
 ·intro J;have a6:FY C C:=Bf _;refine wo<|M Z<|wo<|ve (Ab QM Z (IX r.Ar 115)) ?_;rintro C J ⟨C,rfl⟩;refine wo<|M Z ?_;apply GC true 4 (!OK r.Bo) CK
  ·intro a8;have R:FY J J:=Bf _;refine wo<|E (Aa Gh Z)<|wo<|E (Al CH Z (((((((l.up f).up g).up i).up j).up o).up p).up C) Z)<|wo<|ve (Ab aap Z (ie ((((((((hs.up t).up f).up g).up i).up j).up o).up p).up C))) ?_;rintro J J ⟨J,rfl⟩;refine wo<|E (BL Z) ?_;exact Et ⟨Z,Sub.drop _ 4 _ Z Z,(R.up J)⟩
  intro J J;exact Et ⟨Z,Sub.drop _ 4 _ Z Z,((a6.up C).up J)⟩
 intro C C;refine Ah<|GO Z (fun a6=>?_) fun a6=>?_
 ·refine Q<|V Z ?_;refine Af Z Z ?_;have e:QT r=true:=a6;exact⟨((((((((hK.up t).up f).up g).up i).up j).up o).up p).up C),by rw[OL,e];simp⟩
 refine As<|Q<|M Z<|ve (Ab QM Z (IX r.Ar 105)) ?_;rintro J a7 ⟨J,rfl⟩;refine M Z ?_;apply AW false 3 _ CK
 ·intro b3;refine wo<|E (Aa Hl Z)<|wo<|E (Al AF Z ((((((((l.up f).up g).up i).up j).up o).up p).up C).up J) Z)<|wo<|E (BO Z Z) ?_;exact EQ 3
 refine M Z ?_;apply GC true 7 (hasB r.Ar 110||(r.name==[])) CK
 ·intro a8;have R:FY a7 a7:=Bf _;refine wo<|M Z<|wo<|ve (Ab QM Z (IX r.Ar 110)) ?_;rintro a7 a7 ⟨a7,rfl⟩;refine wo<|M Z ?_;apply AW false 3 _ CK
  ·intro a8;refine wo<|E (Aa MW Z)<|wo<|E (Al CQ Z (((((((((l.up f).up g).up i).up j).up o).up p).up C).up J).up a7) Z)<|wo<|E (YD Z Z) ?_;exact EQ 3
  exact Et ⟨Z,Sub.drop _ 4 _ Z Z,(R.up a7)⟩
 intro a7 R;refine M Z ?_;apply GC true 7 (hasB r.Ar 100||(r.AK==[])) CK
 ·intro a8;have a8:FY a7 a7:=Bf _;refine wo<|M Z<|wo<|ve (Ab QM Z (IX r.Ar 100)) ?_;rintro a7 a7 ⟨a7,rfl⟩;refine wo<|M Z ?_;apply AW false 3 _ CK
  ·intro b0;refine wo<|E (Aa JS Z)<|wo<|E (Al CQ Z ((((((((((l.up f).up g).up i).up j).up o).up p).up C).up J).up R).up a7) Z)<|wo<|E (YD Z Z) ?_;exact EQ 3
  exact Et ⟨Z,Sub.drop _ 4 _ Z Z,(a8.up a7)⟩
 intro a8 a7;refine M Z ?_;apply GC true 8 (hasB r.Ar 108||decide ((r.list.length:Int)=0)) CK
 ·intro b0;have b0:FY a8 a8:=Bf _;refine wo<|M Z<|wo<|ve (Ab QM Z (IX r.Ar 108)) ?_;rintro a8 a8 ⟨a8,rfl⟩;refine wo<|M Z ?_;apply AW false 4 _ CK
  ·intro b2;refine wo<|E (Aa DE Z)<|wo<|E (Al BQ Z (((((((((((l.up f).up g).up i).up j).up o).up p).up C).up J).up R).up a7).up a8) Z)<|wo ?_
   first|refine E (Ez BM (by assumption) Z) ?_|refine E (Fo underlying23 Z) ?_
   refine wo<|E (BO Z Z) ?_;exact EQ 4
  exact Et ⟨Z,Sub.drop _ 4 _ Z Z,(b0.up a8)⟩
 intro b0 a8;refine M Z ?_;apply GC true 8 (hasB r.Ar 115||decide ((r.Bo.length:Int)=0)) CK
 ·intro b2;have b2:FY b0 b0:=Bf _;refine wo<|M Z<|wo<|ve (Ab QM Z (IX r.Ar 115)) ?_;rintro b0 b0 ⟨b0,rfl⟩;refine wo<|M Z ?_;apply AW false 4 _ CK
  ·intro b3;refine wo<|E (Aa Gh Z)<|wo<|E (Al CH Z ((((((((((((l.up f).up g).up i).up j).up o).up p).up C).up J).up R).up a7).up a8).up b0) Z)<|wo ?_
   first|refine E (Ez DL (by assumption) Z) ?_|refine E (Fo underlying50 Z) ?_
   refine wo<|E (BO Z Z) ?_;exact EQ 4
  exact Et ⟨Z,Sub.drop _ 4 _ Z Z,(b2.up b0)⟩
 intro l b0;refine V Z<|Af Z Z ?_;have l:KL r=false:=U;have U:QS r=false:=a1;have a1:QT r=false:=a6;exact⟨(((((((((((((hK.up t).up f).up g).up i).up j).up o).up p).up C).up J).up R).up a7).up a8).up b0),by rw[OL,l,U,a1];rfl⟩
def bI(r:Rec):List UInt8:=if hasB r.Ar 105 then be 4 r.id else[]
def bN(r:Rec):List UInt8:=if hasB r.Ar 110 then be 1 r.name.length++r.name else[]
def bL(r:Rec):List UInt8:=if hasB r.Ar 108 then be 4 r.list.length++r.list.flatMap (be 4) else[]
def PF(p:Int×Int):List UInt8:=be 4 p.1++be 4 p.2
def bS(r:Rec):List UInt8:=if hasB r.Ar 115 then be 1 r.Bo.length++r.Bo.flatMap PF else[]
def A1(r:Rec):List UInt8:=be 1 r.Ar++bI r
def A2(r:Rec):List UInt8:=A1 r++bN r
def A3(r:Rec):List UInt8:=A2 r++r.AK
def A4(r:Rec):List UInt8:=A3 r++bL r
def bytesOf(r:Rec):List UInt8:=A4 r++bS r
theorem lP(r:Rec):(A1 r).length≤5:=by
 simp only[A1,bI,ft,Be];split
 ·simp[Be]
 ·simp
theorem Mr(l:List Int):(l.flatMap (be 4)).length=4*l.length:=by
 induction l with
 |nil=>rfl
 |cons x r f=>simp only[Aaa,ft,Be,SG,f];omega
theorem UG(l:List (Int×Int)):(l.flatMap PF).length=8*l.length:=by
 induction l with
 |nil=>rfl
 |cons x r f=>simp only[Aaa,ft,PF,Be,SG,f];omega
def ig(x:Nat):Nat:=if x%2=1 then(x/2)^^^14514072000185962306 else x/2
def pQ:Nat→Nat→Nat
 |0,x=>x
 |k+1,x=>ig (pQ k x)
def uh(x:Nat)(b:UInt8):Nat:=pQ 8 (x^^^b.toNat)
def aH(x:Nat)(s:List UInt8):Nat:=s.foldl uh x
def LN(x:Nat):Nat:=18446744073709551615-x
def TA(s:List UInt8):Nat:=LN (aH (LN 0) s)
theorem pR(h:k<18446744073709551616):ig k<18446744073709551616:=by
 unfold ig;split
 ·exact Ad2 (n:=64) G AO
 ·omega
theorem YY:∀(k:Nat) {x:Nat},x<18446744073709551616→pQ k x<18446744073709551616
 |0,_,h=>h
 |k+1,_,h=>pR (YY k h)
theorem SR(b:UInt8)(h:k<18446744073709551616):k^^^b.toNat<18446744073709551616:=Ad2 (n:=64) h (by have:=b.toNat_lt;omega)
theorem pS(b:UInt8)(h:k<18446744073709551616):uh k b<18446744073709551616:=YY 8 (SR b h)
theorem gh:∀(s:List UInt8) {x:Nat},x<18446744073709551616→aH x s<18446744073709551616
 |[],_,h=>h
 |b::s,_,h=>gh s (pS b h)
theorem UH(x:Nat):LN x<18446744073709551616:=by unfold LN;omega
theorem ih{x:Nat}(O:k<s.length):aH x (s.take (k+1))=uh (aH x (s.take k)) s[k]:=by
 rw[pk O,aH,Adq];rfl
abbrev Wt(n:Nat):Value:= .int .u64 (n:Int)
theorem Sc(h:n<18446744073709551616):IntKind.u64.wrap (n:Int)=n:=by
 simp[IntKind.wrap,IntKind.signed,IntKind.bits];omega
section
variable {P:Program} {env:Env} {w:World} {ty ty2 t:TypeId} {x y:Operand} {m n:Nat}
theorem pT(hx:BY env x=some (Wt m))(hy:BY env y=some (.int .u64 1))(f:m<18446744073709551616):DP P env w (.binOp .and t x y ty2) ty (Wt (m%2)):=by
 have:=SK (P:=P) (w:=w) (ty:=ty) (t:=t) (ty2:=ty2) (op:= .and) (k:= .u64) hx hy (.inr (.inl ⟨Z,Z⟩));have e:((BitVec.ofInt IntKind.u64.bits (m:Int)&&& BitVec.ofInt IntKind.u64.bits 1).toNat)=m%2:=by
  rw[Ae2,Fu _ m (by exact f),show(BitVec.ofInt IntKind.u64.bits 1).toNat=1 from by decide,Agx]
 rw[e,Sc G] at this;exact this
theorem lQ(hx:BY env x=some (Wt m))(hy:BY env y=some (Wt n))(f:m<18446744073709551616)(g:n<18446744073709551616):DP P env w (.binOp .xor t x y ty2) ty (Wt (m^^^n)):=by
 have:=SK (P:=P) (w:=w) (ty:=ty) (t:=t) (ty2:=ty2) (op:= .xor) (k:= .u64) hx hy (.inr (.inr ⟨Z,Z⟩));have e:((BitVec.ofInt IntKind.u64.bits (m:Int)^^^BitVec.ofInt IntKind.u64.bits (n:Int)).toNat)=m^^^n:=by
  rw[Aha,Fu _ m (by exact f),Fu _ n (by exact g)]
 rw[e,Sc (Ad2 (n:=64) f g)] at this;exact this
theorem gi(hx:BY env x=some (Wt m))(hy:BY env y=some (.int .u64 1)):DP P env w (.binOp .shr t x y ty2) ty (Wt (m/2)):=by
 have:=al (P:=P) (w:=w) (ty:=ty) (t:=t) (ty2:=ty2) hx hy AO AO;have e:((m:Int)/2^(1:Int).toNat)=((m/2:Nat):Int):=by
  have f:(2:Int)^(1:Int).toNat=2:=by decide
  rw[f];omega
 rw[e] at this;exact this
theorem lR(hx:BY env x=some (Wt m))(l:m<18446744073709551616):DP P env w (.unOp .xor t x) ty (Wt (LN m)):=fun _ a o d pos p g=>by
 have f:(BitVec.ofInt 64 18446744073709551615^^^BitVec.ofInt 64 (m:Int)).toNat=LN m:=by
  have i:BitVec.ofInt 64 18446744073709551615=BitVec.allOnes 64:=by decide
  rw[i,BitVec.allOnes_xor,BitVec.toNat_not,Fu 64 m (by exact l)];rfl
 have h:(Op.intBits .xor .u64 18446744073709551615 (m:Int):Sem Value)=pure (Wt (LN m)):=by
  have e:IntKind.u64.wrap ((BitVec.ofInt IntKind.u64.bits 18446744073709551615^^^BitVec.ofInt IntKind.u64.bits (m:Int)).toNat:Int)=LN m:=by
   have j:((BitVec.ofInt IntKind.u64.bits 18446744073709551615^^^BitVec.ofInt IntKind.u64.bits (m:Int)).toNat)=LN m:=f;rw[j,Sc (UH m)]
  simp only[Op.intBits];rw[e]
 simp only[execOp,o.eval hx,Op.unary];simp[IntKind.signed,IntKind.max,IntKind.bits,h]
end
theorem dO(hx:k<18446744073709551616):Calls QP 304 #[Wt k] w (Bt fun v w'=>AZ w w'∧v=Wt (ig k)):=by
 refine AY 11 #[.tmp 2] func304 Z<|Q<|V Z<|Ag<|Q<|M Z<|E (pT Z Z hx)<|E (BO Z Z)<|Ah<|BA Z (fun g=>?_) fun g=>?_
 ·have f:k%2=1:=G;refine Q<|M Z<|E (gi Z Z)<|E (lQ (n:=14514072000185962306) Z Z G AO)<|V Z ?_;refine Af Z Z ?_;exact⟨Aar _ _,by rw[ig,zm f]⟩
 refine As<|Q<|M Z<|E (gi Z Z)<|V Z<|Af Z Z ?_;exact⟨Aar _ _,by rw[ig,ss G]⟩
theorem lS{x:Nat}(hx:x<18446744073709551616)(hs:s.length≤140737488355328):Calls QP 270 #[Wt x,St s] w (Bt fun v w'=>AZ w w'∧v=Wt (LN (aH (LN x) s))):=by
 have hK:FY w w:=Bf w;refine AY 28 #[.tmp 4] func270 Z<|Q<|V Z<|Q<|M Z<|E (lR Z hx)<|V Z<|Ag<|Q<|M Z<|E (Ey underlying9 Z)<|M Z<|Ah<|An<|AG (σ:=Nat) (fun k=>[(1,St s),(5,Wt (aH (LN x) (s.take k))),(10,I s.length),(11,I k)]) (fun k w'=>FY w w'∧k≤s.length) (fun k=>s.length-k) 0 AL ⟨hK,G⟩ ?_;rintro k J ⟨hK,O⟩;have hl:=gh (s.take k) (UH x);refine Q<|E (AX Z Z)<|Ah<|Ag<|BA Z (fun f=>?_) fun f=>?_
 ·have ka:k<s.length:=G;have ht:=ih (x:=LN x) ka;have r:=SR s[k] hl;refine As<|Ag<|An<|Q<|M Z<|V Z<|Ag ?_;refine cg<|M Z<|M Z<|M Z<|E (Ks underlying9 Z Z G (show s[((k:Nat):Int).toNat]?=some s[k] by rw[TJ];exact dd ka))<|E (OG underlying5 underlying278 Z)<|E (lQ (n:=s[k].toNat) Z Z hl (by have:=s[k].toNat_lt;omega))<|V Z ?_;refine Q<|M Z<|Ah<|An<|AG (σ:=Nat) (fun j=>[(1,St s),(5,Wt (pQ j (aH (LN x) (s.take k)^^^s[k].toNat))),(10,I s.length),(11,I k),(20,I j)]) (fun j w'=>FY w w'∧j≤8) (fun j=>8-j) 0 AL ⟨hK,G⟩ ?_;rintro j R ⟨hK,t⟩;have l:=YY j r;refine Q<|E (AX Z Z)<|Ah<|Ag<|BA Z (fun g=>?_) fun g=>?_
  ·refine As<|Ag<|An<|cg<|M Z ?_;refine ve (Ab yB Z (dO l)) ?_;rintro C w1 ⟨o,rfl⟩;refine V Z<|cg<|E (Bc Z Z Ai Ai)<|M Z<|Ah ?_;exact⟨j+1,AL,⟨(hK.up o),G⟩,G⟩
  have i:j=8:=G;subst i;refine Az Z<|cg<|E (Bc Z Z Ai Ai)<|M Z<|Ah ?_;refine⟨k+1,?_,⟨hK,ka⟩,G⟩;rw[ht];exact AL
 have p:k=s.length:=G;subst p;rw[Abi] at hl⊢;refine Az Z<|Q<|M Z<|E (lR Z hl)<|V Z<|Af Z Z ?_;exact⟨hK,Z⟩
theorem PG(hs:s.length≤140737488355328):Calls QP 224 #[St s] w (Bt fun v w'=>AZ w w'∧v=Wt (TA s)):=by
 have hK:FY w w:=Bf w;refine AY 5 #[.tmp 2] func224 Z<|Q<|V Z<|Q<|M Z<|ve (Ab yp Z (lS (x:=0) AO hs)) ?_;rintro v4 w1 ⟨f,rfl⟩;refine V Z<|Af Z Z ?_;exact⟨(hK.up f),Z⟩
def TB(x:Nat):Nat:=if 256≤2*x then(2*x)^^^285 else 2*x
def mulL:Nat→Nat→Nat→Nat→Nat
 |0,_,_,n=>n
 |f+1,b,x,n=>if b=0 then n else mulL f (b/2) (TB x) (if b%2=1 then n^^^x else n)
def ij(a b:Nat):Nat:=mulL 8 b a 0
def JA(a b:UInt8):UInt8:=UInt8.ofNat (ij a.toNat b.toNat)
theorem TP(h:k<256):TB k<256:=by
 have:=(by decide:∀k:Fin 256,TB k.1<256) ⟨k,h⟩;exact this
theorem TQ(h:k<256)(f:m<256):k^^^m<256:=Ad2 (n:=8) h f
theorem YZ:∀(f b x n:Nat),x<256→n<256→mulL f b x n<256
 |0,_,_,n,_,h=>h
 |f+1,b,x,n,hx,g=>by
  rw[mulL];split
  ·exact g
  refine YZ f _ _ _ (TP hx) ?_;split
  ·exact TQ g hx
  exact g
theorem Xe(f x n:Nat):mulL f 0 x n=n:=by cases f<;>simp[mulL]
def ik:Nat→Nat→UInt8→UInt8→UInt8
 |0,_,_,x=>x
 |f+1,n,a,x=>if n=0 then x else ik f (n/2) (JA a a) (if n%2=1 then JA x a else x)
theorem il(f:Nat)(a x:UInt8):ik f 0 a x=x:=by cases f<;>simp[ik]
def UI(a:UInt8)(n:Nat):UInt8:=ik 8 n a 1
def lT(a:UInt8):UInt8:=UI a 254
def Kf(b s:List UInt8)(c:UInt8):List UInt8:=if c=0 then b else List.zipWith (fun x y=>x^^^JA y c) b s
theorem OM{b:List UInt8}{c:UInt8}(h:b.length≤s.length):(Kf b s c).length=b.length:=by
 unfold Kf;split<;>simp<;>omega
structure Mx where
 r:Nat
 c:Nat
 l:List UInt8
def Mx.row(m:Mx)(i:Nat):List UInt8:=(m.l.drop (i*m.c)).take m.c
def Mx.ok(m:Mx):Prop:=m.l.length=m.r*m.c
def Mx.put(m:Mx)(i:Nat)(x:List UInt8):Mx:={m with l:=m.l.take (i*m.c)++x++m.l.drop (i*m.c+x.length)}
def Za(r c:Nat):Mx:=⟨r,c,replicate (r*c) 0⟩
def Ga(f:Nat→List UInt8):List UInt8→Nat→List UInt8→List UInt8
 |[],_,b=>b
 |c::r,k,b=>Ga f r (k+1) (Kf b (f k) c)
def GY(a b:Mx):Nat→List UInt8
 |0=>[]
 |i+1=>GY a b i++Ga b.row (a.row i) 0 (replicate b.c 0)
def Me(a b:Mx):Mx:=⟨a.r,b.c,GY a b a.r⟩
def IY(m:Mx)(l:List Nat):Mx:=⟨l.length,m.c,l.flatMap m.row⟩
def Wu(n:Nat):Nat→List UInt8
 |0=>[]
 |i+1=>Wu n i++(replicate n 0).set i 1
def TC(n:Nat):Mx:=⟨n,n,Wu n n⟩
def JB(m:Mx)(l:List (List UInt8)):List (List UInt8):=
 (List.range m.r).map fun i=>Ga (fun k=>l.getD k []) (m.row i) 0 (replicate (l.getD 0 []).length 0)
def Kg(m:Mx)(c:Nat):Nat→Nat→Option Nat
 |0,_=>none
 |f+1,i=>if(m.row i).getD c 0=0 then Kg m c f (i+1) else some i
def Hx(m:Mx)(i k:Nat):Mx:=if i=k then m else(m.put i (m.row k)).put k (m.row i)
def Mf(m:Mx)(k:Nat)(o:UInt8):Mx:=m.put k ((m.row k).map fun x=>JA x o)
def elimM(c f:Nat):Nat→Mx×Mx→Mx×Mx
 |0,p=>p
 |k+1,p=>
  let q:=elimM c f k p
  if k≠f∧(q.1.row k).getD c 0≠0 then
   (q.1.put k (Kf (q.1.row k) (q.1.row f) ((q.1.row k).getD c 0)),q.2.put k (Kf (q.2.row k) (q.2.row f) ((q.1.row k).getD c 0)))
  else q
def QU(c f i:Nat)(p:Mx×Mx):Mx×Mx:=
 let q:=(Hx p.1 i f,Hx p.2 i f)
 let o:=lT ((q.1.row f).getD c 0)
 elimM c f p.1.r (Mf q.1 f o,Mf q.2 f o)
def EF:Nat→Nat→Nat→Mx×Mx→Nat×(Mx×Mx)
 |0,_,g,p=>(g,p)
 |f+1,c,g,p=>
  match Kg p.1 c (p.1.r-g) g with
  |none=>EF f (c+1) g p
  |some i=>EF f (c+1) (g+1) (QU c g i p)
def HG(m:Mx):Mx:=if(EF m.c 0 0 (m,TC m.r)).1<m.r then⟨0,0,[]⟩ else(EF m.c 0 0 (m,TC m.r)).2.2
def Il(k:Nat):Nat→List UInt8
 |0=>[]
 |i+1=>Il k i++(List.range k).map fun j=>UI (UI 2 i) j
def Hr(k m:Nat):Mx:=
 let v:Mx:=⟨k+m,k,Il k (k+m)⟩
 Me v (HG (IY v (List.range k)))
abbrev Tx:=List UInt8
variable {W:Tx}
def Eo(n:Nat):Nat→Tx→List Tx
 |0,_=>[]
 |f+1,l=>if l=[] then[] else l.take n::Eo n f (l.drop n)
theorem NZ(n:Nat)(i:0<n):∀(f:Nat) (l:Tx),l.length≤f*n→(Eo n f l).flatten=l
 |0,l,h=>by
  have:l=[]:=rY G;subst this;rfl
 |f+1,l,h=>by
  rw[Eo];split
  ·rename_i g;rw[g];rfl
  ·rw[Abc,NZ n i f _ (by rw[kK,Aad] at*;omega),Aas]
theorem UJ(n:Nat)(o:0<n):∀(f:Nat) (l:Tx),l.length=f*n→(Eo n f l).length=f∧∀x∈Eo n f l,x.length=n
 |0,l,h=>by simp[Eo]
 |f+1,l,h=>by
  have p:(f+1)*n=f*n+n:=by rw[Aad,Aa2]
  have g:l≠[]:=by
   intro e;rw[e] at h;simp at h;omega
  obtain⟨i,j⟩:=UJ n o f (l.drop n) (by rw[kK];omega);rw[Eo,ss g];refine⟨by rw[SG,i],fun x hx=>?_⟩;rcases Aak.1 hx with rfl|hx
  ·rw[kL];omega
  exact j x hx
def Ca(n:Nat):Nat:=(15+n+8+64-1)/64
theorem Sd(n:Nat):n+23≤Ca n*64:=by unfold Ca;omega
theorem PH(n:Nat):0<Ca n:=by unfold Ca;omega
structure Wn where
 Gn:Int
 index:Int
 gen:Int
 text:Tx
def Ps(s:Wn):Tx:=[83,72,82,68]++be 4 s.Gn++be 4 s.gen++[MO s.index]++be 2 (s.text.length:Int)++s.text
theorem Xf(s:Wn):(Ps s).length=15+s.text.length:=by
 simp only[Ps,ft,Be,SG,Ace]
def QV(s:Wn):Tx:=Ps s++be 8 (TA (Ps s):Nat)
theorem Xg(s:Wn):(QV s).length=23+s.text.length:=by
 rw[QV,ft,Xf,Be];omega
def IZ(s:Wn):Tx:=QV s++replicate (Ca s.text.length*64-(QV s).length) 0
theorem Se(s:Wn):(IZ s).length=Ca s.text.length*64:=by
 have:=Sd s.text.length;rw[IZ,ft,Iz,Xg];omega
def Gb(s:Wn):List Tx:=Eo 64 (Ca s.text.length) (IZ s)
theorem SS(s:Wn):(Gb s).flatten=IZ s:=NZ 64 G _ _ (Ado (Se s))
theorem Na(s:Wn):(Gb s).length=Ca s.text.length∧∀x∈Gb s,x.length=64:=UJ 64 G _ _ (Se s)
def Nb(s:Wn):Bool:=(decide (0≤s.Gn)&&decide (s.Gn≤1073741824))&&(decide (0≤s.gen)&&decide (s.gen≤1073741824))&&(decide (0≤s.index)&&decide (s.index<14))&&(decide (1≤s.text.length)&&decide (s.text.length≤120))
def UK(t:Tx)(n:Nat):Wn:=⟨(Bi ((t.drop 4).take 4):Nat),((t.getD 12 0).toNat:Nat),(Bi ((t.drop 8).take 4):Nat),(t.drop 15).take n⟩
def QW(t:Tx):Nat:=Bi ((t.drop 13).take 2)
def Hy(l:List Tx):Option Wn:=
 if l=[]∨Ca 120<l.length∨(l.any fun t=> !decide (t.length=64))=true then none
 else if 120<QW l.flatten∨Ca (QW l.flatten)≠l.length then none
 else if Nb (UK l.flatten (QW l.flatten))=true∧Gb (UK l.flatten (QW l.flatten))=l then some (UK l.flatten (QW l.flatten)) else none
def HJ(t:Tx):Bool:=t.all fun b=>b==0
def Ja(l:List Tx)(Gn gen index:Int):Int:=
 match Hy l with
 |some s=>if s.Gn=Gn∧s.gen=gen∧s.index=index then 2 else if HJ l.flatten then 0 else 1
 |none=>if HJ l.flatten then 0 else 1
structure CO where
 k:Nat
 m:Nat
 size:Nat
variable {z:CO}
def CO.ok(s:CO):Prop:=1≤s.k∧s.k≤8∧s.m≤6∧1≤s.size∧s.size≤120
def BI(s:CO)(n:Nat):Nat:=(n+s.k*s.size-1)/(s.k*s.size)
def EU(s:CO)(t:Tx):List Tx:=Eo (s.k*s.size) t.length t
def DR(s:CO)(t:Tx):List Tx:=(List.range s.k).map fun i=>((t++replicate (s.k*s.size-t.length) 0).drop (i*s.size)).take s.size
def Mg(s:CO)(l:List Tx):List Tx:=JB (Hr s.k s.m) l
def Dl(k:Nat):Nat→List Bool→List Nat
 |_,[]=>[]
 |i,b::r=>if b=true∧0<k then i::Dl (k-1) (i+1) r else Dl k (i+1) r
def Sf(s:CO)(l:List Tx)(f:List Bool):Option (List Tx):=
 if(Dl s.k 0 f).length<s.k then none
 else some (JB (Me (Hr s.k s.m) (HG (IY (Hr s.k s.m) (Dl s.k 0 f)))) ((Dl s.k 0 f).map fun i=>l.getD i []))
def Pt(s:CO)(l:List Tx)(n:Int):Option Tx:=
 if 1≤n∧n≤(s.k*s.size:Nat)∧HJ (l.flatten.drop n.toNat)=true then some (l.flatten.take n.toNat) else none
def CZ(s:List UInt8)(bad:Bool)(n:Int):Bool:=bad||decide ((s.length:Int)<n)
def Mj(s:List UInt8)(bad:Bool)(n:Int):List UInt8:=bif CZ s bad n then s else s.drop n.toNat
def Kq(s:List UInt8)(bad:Bool)(n:Int):List UInt8:=bif CZ s bad n then[] else s.take n.toNat
theorem Zb(s:List UInt8)(bad:Bool)(n:Int):(Kq s bad n).length≤n.toNat:=by
 unfold Kq;cases CZ s bad n<;>simp;omega
theorem KM(s:List UInt8)(bad:Bool)(n:Int):(Mj s bad n).length≤s.length:=by
 unfold Mj;cases CZ s bad n<;>simp
theorem aI(s:List UInt8)(bad:Bool)(n:Int):(Kq s bad n).length≤s.length:=by
 unfold Kq;cases CZ s bad n<;>simp;omega
def Gp(n:Nat)(s:List UInt8):Option (List UInt8×List UInt8):=if n≤s.length then some (s.take n,s.drop n) else none
def Kh(φ:Nat→Int)(s:List UInt8):Option (Int×List UInt8):=(Gp 4 s).map fun x=>(φ (Bi x.1),x.2)
def Jo(φ:Nat→Int):Nat→List UInt8→Option (List Int×List UInt8)
 |0,s=>some ([],s)
 |n+1,s=>(Kh φ s).bind fun x=>(Jo φ n x.2).map fun y=>(x.1::y.1,y.2)
def Gq(φ:Nat→Int)(f:Nat→Int):Nat→List UInt8→Option (List (Int×Int)×List UInt8)
 |0,s=>some ([],s)
 |n+1,s=>(Kh f s).bind fun x=>(Kh φ x.2).bind fun y=>(Gq φ f n y.2).map fun z=>((x.1,y.1)::z.1,z.2)
def minus(n:Nat):Int:=if n=4294967295 then-1 else n
def plain(n:Nat):Int:=n
def BT(φ:Nat→Int)(c:Nat)(x:Rec×List UInt8):Option (Rec×List UInt8):=
 match c with
 |105=>(Kh φ x.2).map fun y=>({x.1 with id:=y.1},y.2)
 |110=>(Gp 1 x.2).bind fun y=>(Gp (Bi y.1) y.2).map fun z=>({x.1 with name:=z.1},z.2)
 |100=>(Gp 32 x.2).map fun y=>({x.1 with AK:=y.1},y.2)
 |108=>(Gp 4 x.2).bind fun y=>(Jo φ (Bi y.1) y.2).map fun z=>({x.1 with list:=x.1.list++z.1},z.2)
 |115=>(Gp 1 x.2).bind fun y=>(Gq φ minus (Bi y.1) y.2).map fun z=>({x.1 with Bo:=x.1.Bo++z.1},z.2)
 |_=>some x
def EV(k:Int):Rec:=⟨k,0,[],[],[],[]⟩
def Dm(φ:Nat→Int)(l:List UInt8)(x:Rec×List UInt8):Option (Rec×List UInt8):=l.foldlM (fun x c=>BT φ c.toNat x) x
def QX(x:Rec×List UInt8):Option Rec:=if x.2=[]∧FT x.1=true then some x.1 else none
def EC(φ:Nat→Int):List UInt8→Option Rec
 |[]=>none
 |k::s=>(Dm φ (Cb k.toNat) (EV k.toNat,s)).bind QX
def mI(n:Int):Int:=if n=4294967295 then-1 else n
def PI(r:Rec):Rec:={r with id:=mI r.id,list:=r.list.map mI,Bo:=r.Bo.map fun p=>(p.1,mI p.2)}
def mX(x:Rec×List UInt8):Rec×List UInt8:=(PI x.1,x.2)
theorem lU(n:Nat):mI (plain n)=minus n:=by unfold mI plain minus;split<;>split<;>omega
theorem UL(s:List UInt8):Kh minus s=(Kh plain s).map fun x=>(mI x.1,x.2):=by
 unfold Kh;cases Gp 4 s<;>simp[lU]
theorem gj:∀(n:Nat) (s:List UInt8),Jo minus n s=(Jo plain n s).map fun x=>(x.1.map mI,x.2)
 |0,s=>rfl
 |n+1,s=>by
  simp only[Jo,UL];cases Kh plain s with
  |none=>rfl
  |some x=>
   simp only[Aa7,Aa5,gj n];cases Jo plain n x.2<;>simp
theorem aJ:∀(n:Nat) (s:List UInt8),Gq minus minus n s=(Gq plain minus n s).map fun x=>(x.1.map fun p=>(p.1,mI p.2),x.2)
 |0,s=>rfl
 |n+1,s=>by
  simp only[Gq];cases Kh minus s with
  |none=>rfl
  |some x=>
   simp only[Aa5,UL x.2];cases Kh plain x.2 with
   |none=>rfl
   |some y=>
    simp only[Aa7,Aa5,aJ n];cases Gq plain minus n y.2<;>simp
theorem lV(c:Nat)(x:Rec×List UInt8):BT minus c (mX x)=(BT plain c x).map mX:=by
 unfold BT;split
 ·simp only[mX,UL];cases Kh plain x.2<;>simp[PI,mX]
 ·simp only[mX];cases Gp 1 x.2 with
  |none=>rfl
  |some y=>simp only[Aa5];cases Gp (Bi y.1) y.2<;>simp[PI,mX]
 ·simp only[mX];cases Gp 32 x.2<;>simp[PI,mX]
 ·simp only[mX];cases Gp 4 x.2 with
  |none=>rfl
  |some y=>simp only[Aa5,gj];cases Jo plain (Bi y.1) y.2<;>simp[PI,mX]
 ·simp only[mX];cases Gp 1 x.2 with
  |none=>rfl
  |some y=>simp only[Aa5,aJ];cases Gq plain minus (Bi y.1) y.2<;>simp[PI,mX]
 ·simp[mX]
theorem Xh:∀(l:List UInt8) (x:Rec×List UInt8),Dm minus l (mX x)=(Dm plain l x).map mX
 |[],x=>rfl
 |c::l,x=>by
  simp only[Dm,List.foldlM_cons,lV];cases h:BT plain c.toNat x with
  |none=>rfl
  |some y=>simpa[Dm] using Xh l y
theorem lW(h:Fb p=true):mI p=p:=by
 simp only[Fb,kg,pn] at h;unfold mI;split<;>omega
theorem lX(h:Fb (mI p)=true):mI p=p:=by
 unfold mI at h⊢;split<;>rename_i e
 ·simp[e,Fb] at h
 ·rfl
theorem pU{p:Int×Int}(h:Gi p=false):mI p.2=p.2:=by
 simp only[Gi,Aa1,Aay] at h;unfold mI;split<;>omega
theorem pV{p:Int×Int}(h:Gi (p.1,mI p.2)=false):mI p.2=p.2:=by
 unfold mI at h⊢;split<;>rename_i e
 ·simp[e,Gi] at h
 ·rfl
end Go.Eng
