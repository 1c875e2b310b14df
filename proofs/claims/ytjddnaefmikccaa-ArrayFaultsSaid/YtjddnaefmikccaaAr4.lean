/- Disks: a change, a write, a flush. No condition. -/
import Derived.Test.YtjddnaefmikccaaAr3
set_option linter.unusedSimpArgs false
set_option linter.unusedVariables false
set_option maxRecDepth 100000
namespace Silo
open Go.Eng
/-- A row with some of a cache's texts. -/
def overK (l C : List Txt) : List Nat → List Txt
  | [] => l
  | j :: r => overK (l.set j (tx C j)) C r
theorem overK_len (C : List Txt) : ∀ (r : List Nat) (l : List Txt), (overK l C r).length = l.length
  | [], l => rfl
  | j :: r, l => by rw [overK, overK_len C r, List.length_set]
theorem overK_snoc (C : List Txt) (j : Nat) : ∀ (r : List Nat) (l : List Txt), overK l C (r ++ [j]) = (overK l C r).set j (tx C j)
  | [], l => rfl
  | i :: r, l => by rw [List.cons_append, overK, overK, overK_snoc C j r]
theorem overK_tx (C : List Txt) (i : Nat) : ∀ (r : List Nat) (l : List Txt), (∀ j ∈ r, j < l.length) → tx (overK l C r) i = if i ∈ r then tx C i else tx l i
  | [], l, _ => by simp [overK]
  | j :: r, l, h => by
    rw [overK, overK_tx C i r _ fun j' hj => by rw [List.length_set]; exact h j' (by simp [hj]), tx_set (h j (by simp))]
    by_cases h1 : i ∈ r
    · simp [h1]
    · by_cases h2 : i = j
      · subst h2; simp [h1]
      · simp [h1, h2]
theorem tx_ext {l l' : List Txt} (h : l.length = l'.length) (he : ∀ k, k < l.length → tx l k = tx l' k) : l = l' := by
  refine List.ext_getElem h fun k h1 h2 => ?_
  have := he k h1
  rwa [tx_get h1, tx_get h2] at this
theorem over_len (l C : List Txt) : (over l C).length = l.length := by simp [over]
theorem over_tx {l C : List Txt} {k : Nat} (hk : k < l.length) : tx (over l C) k = if tx C k = [] then tx l k else tx C k := by
  rw [tx_get (by rw [over_len]; exact hk)]; simp [over]
theorem overK_all {l C : List Txt} {r : List Nat} (hl : C.length ≤ l.length) (h1 : ∀ k ∈ r, tx C k ≠ []) (h2 : ∀ k, tx C k ≠ [] → k ∈ r) : overK l C r = over l C := by
  have hr : ∀ j ∈ r, j < l.length := fun j hj => Nat.lt_of_lt_of_le (tx_lt (h1 j hj)) hl
  refine tx_ext (by rw [overK_len, over_len]) fun k hk => ?_
  rw [overK_len] at hk
  rw [overK_tx C k r l hr, over_tx hk]
  by_cases h : k ∈ r
  · rw [if_pos h, if_neg (h1 k h)]
  · rw [if_neg h, if_pos (Classical.byContradiction fun hn => h (h2 k hn))]
end Silo
namespace Go.Proofs.Ytjddnaefmikccaa
open Go Go.Eng Go.RowKit Silo TryT
section
variable {c : Nat → Nat} {w : World} {p : Nat} {A : Arr} {d : Int}
theorem achanged_ok (h : ArrC c w p A) (h1 : A.changes ≤ 4611686018427387904) (h2 : -1 ≤ A.left) (h3 : A.left ≤ 9223372036854775807) : Calls Try.prog 30 #[.pointer (some ⟨p, 0, none⟩)] w (Ret fun _ w' => ∃ c', Mv c w c' w' colA ∧ ArrC c' w' p (changedA A)) := by
  obtain ⟨v, X, hb0, hD⟩ := h
  have hJ := OldJ.start c w colA
  replace hb0 := hb0.inn (J := colA) rfl
  replace hD := hD.inn
  have q1 := hD.oneC; have q2 := hD.cellsV
  generalize mask c colA = c0 at hJ hb0 hD
  refine enter (n := 29) (res := #[]) Try.func30 rfl rfl rfl rfl ?_
  refine cseq <| cg <| zm rfl <| vq (Val.nilCheck rfl) <| vq (Val.fieldAddr fld58_4 rfl) <| vq (Val.loadB scl3 rfl hb0.blk rfl) <| vq (Val.addI rfl rfl side side) <| vq (Val.nilCheck rfl) <| vq (Val.fieldAddr fld58_4 rfl) ?_
  refine WR.eff_ (Eff.storeC scl3 rfl rfl ra ra hb0 rfl) ?_
  rintro _ w1 ⟨hS, hM1⟩
  replace hJ := hJ.mv hM1; replace hD := hD.mv hM1
  replace hb0 := hS
  refine cnil <| cseq <| cg <| zm rfl <| vq (Val.nilCheck rfl) <| vq (Val.fieldAddr fld58_3 rfl) <| vq (Val.loadB scl3 rfl hb0.blk rfl) <| vq (Val.gtr rfl rfl) <| cnil ?_
  refine WC.cond rfl (fun hc1 => ?_) (fun hc1 => ?_)
  ·try simp only [tstS] at hc1
   refine cseq <| cg <| zm rfl <| vq (Val.nilCheck rfl) <| vq (Val.fieldAddr fld58_3 rfl) <| vq (Val.loadB scl3 rfl hb0.blk rfl) <| vq (Val.subI rfl rfl side side) <| vq (Val.nilCheck rfl) <| vq (Val.fieldAddr fld58_3 rfl) ?_
   refine WR.eff_ (Eff.storeC scl3 rfl rfl ra ra hb0 rfl) ?_
   rintro _ w2 ⟨hS, hM2⟩
   replace hJ := hJ.mv hM2; replace hD := hD.mv hM2
   replace hb0 := hS
   refine cnil <| cg <| zm rfl <| zm rfl <| vq (Val.nilCheck rfl) <| vq (Val.fieldAddr fld58_3 rfl) <| vq (Val.loadB scl3 rfl hb0.blk rfl) <| vq (Val.eql rfl rfl) <| vq (Val.nilCheck rfl) ?_
   refine vq (Val.fieldAddr fld58_2 rfl) ?_
   refine WR.eff_ (Eff.storeC scl4 rfl rfl ra ra hb0 rfl) ?_
   rintro _ w3 ⟨hS, hM3⟩
   replace hJ := hJ.mv hM3; replace hD := hD.mv hM3
   replace hb0 := hS
   refine cnil ?_
   refine ⟨_, _, rfl, rfl, ?_⟩
   refine ⟨rfl, _, hJ.out, v, X, ?_, hD.out hJ⟩
   rw [changedA, if_pos (by omega), if_pos (by omega)]
   exact hb0.out hJ rfl
  ·try simp only [tstS] at hc1
   refine cskip ?_
   refine ⟨_, _, rfl, rfl, ?_⟩
   refine ⟨rfl, _, hJ.out, v, X, ?_, hD.out hJ⟩
   rw [changedA, if_neg (by omega), if_neg (by omega)]
   exact hb0.out hJ rfl

set_option maxHeartbeats 1000000 in
theorem awrite_ok (h : ArrC c w p A) (hW : WfA A) {s : Int} {t : Txt} : Calls Try.prog 12 #[.pointer (some ⟨p, 0, none⟩), I d, I s, St t] w (Ret fun u w' => ∃ c', Mv c w c' w' colA ∧ ArrC c' w' p (writeA A d s t).1 ∧ u = I (writeA A d s t).2) := by
  have hA := h
  obtain ⟨v, X, hb0, hD⟩ := h
  have hJ := OldJ.start c w colA
  replace hb0 := hb0.inn (J := colA) rfl
  replace hD := hD.inn
  replace hA := hA.inn
  obtain ⟨A0, cp, rfl, hl1, hl2⟩ := hD.form
  have hXl := hD.len
  generalize mask c colA = c0 at hJ hb0 hD hA
  refine enter (n := 49) (res := #[.tmp 8]) Try.func12 rfl rfl rfl rfl ?_
  refine cseq <| cg <| za rfl <| cnil <| cseq <| cblock <| cseq <| cg <| zm rfl ?_
  refine zm rfl ?_
  refine ve (Eff.pureC c0 1 (Eff.call pf28 rfl (ais_ok hA))) ?_
  rintro v13 w1 ⟨c1, hM1, hx1, rfl⟩
  replace hJ := hJ.mv hM1; replace hb0 := hb0.mv hM1; replace hD := hD.mv hM1; replace hA := hA.mv hM1
  refine vq (Val.not rfl) <| zm rfl ?_
  apply WR.sc false 2 _ (fun w' => w1 = w')
  case hl | hg | hu | hv | hs | hoff | hd => rfl
  case hF => exact fun _ => rfl
  case hT =>
   intro hq7
   try simp only [tstS] at hq7
   simp only [List.take_succ_cons, List.take_zero]
   refine WR.on rfl rfl ?_
   refine zm rfl ?_
   refine WR.on rfl rfl ?_
   refine vq (Val.lss rfl rfl) ?_
   exact WR.nil ⟨rfl, Sub.drop _ 2 _ rfl rfl, rfl⟩
  rintro _ rfl
  refine zm rfl ?_
  apply WR.sc false 6 _ (fun w' => w1 = w')
  case hl | hg | hu | hv | hs | hoff | hd => rfl
  case hF => exact fun _ => rfl
  case hT =>
   intro hq15
   try simp only [tstS] at hq15
   simp only [List.take_succ_cons, List.take_zero]
   refine WR.on rfl rfl ?_
   refine zm rfl ?_
   refine WR.on rfl rfl ?_
   refine zm rfl ?_
   refine WR.on rfl rfl ?_
   refine vq (Val.nilCheck rfl) ?_
   refine WR.on rfl rfl ?_
   refine vq (Val.fieldAddr fld58_1 rfl) ?_
   refine WR.on rfl rfl ?_
   refine vq (Val.loadB scl3 rfl hb0.blk rfl) ?_
   refine WR.on rfl rfl ?_
   refine vq (Val.geq rfl rfl) ?_
   exact WR.nil ⟨rfl, Sub.drop _ 6 _ rfl rfl, rfl⟩
  rintro _ rfl
  refine za rfl <| cnil ?_
  refine WC.cond rfl (fun hc1 => ?_) (fun hc1 => ?_)
  ·try simp only [tstS] at hc1
   have hin : inA A d s = false := inA_false hc1
   refine cseq <| cg <| za rfl <| cnil ?_
   refine WC.ret1 rfl rfl ?_
   exact ⟨_, hJ.out, by simpa [writeA, hin] using hA.out hJ, by simp [writeA, hin]⟩
  ·try simp only [tstS] at hc1
   have hin : inA A d s = true := inA_true.2 ⟨hc1.1.1, by omega, by omega⟩
   obtain ⟨k, j, rfl, rfl, hk, hj⟩ := inA_nat hin
   have hx := hW.each _ (List.mem_of_getElem? (dskA_at hk))
   obtain ⟨lv, m, hX⟩ := hD.at_ (dskA_at hk)
   refine cseq <| cg <| zm rfl <| vq (Val.slen Try.underlying9 rfl) <| vq (Val.neq rfl rfl) <| za rfl <| cnil ?_
   refine WC.cond rfl (fun hc3 => ?_) (fun hc3 => ?_)
   ·try simp only [tstS] at hc3
    have ht : t.length ≠ 64 := by omega
    refine cseq <| cg <| za rfl <| cnil ?_
    refine WC.ret1 rfl rfl ?_
    exact ⟨_, hJ.out, by simpa [writeA, hin, ht] using hA.out hJ, by simp [writeA, hin, ht]⟩
   ·try simp only [tstS] at hc3
    have ht : t.length = 64 := by omega
    refine cskip <| cseq <| cseq <| cg <| zm rfl <| zm rfl ?_
    refine ve (Eff.pureC c1 1 (Eff.call pf29 rfl (amay_ok hA hk))) ?_
    rintro v33 w2 ⟨c2, hM2, hx2, rfl⟩
    replace hJ := hJ.mv hM2; replace hb0 := hb0.mv hM2; replace hD := hD.mv hM2; replace hA := hA.mv hM2
    refine za rfl <| cnil <| cseq <| cg <| zm rfl <| vq (Val.neq rfl rfl) <| cnil ?_
    refine WC.cond rfl (fun hc6 => ?_) (fun hc6 => ?_)
    ·try simp only [tstS] at hc6
     refine cseq <| cg <| zm rfl <| za rfl <| cnil ?_
     refine WC.ret1 rfl rfl ?_
     exact ⟨_, hJ.out, by simpa [writeA, hin, ht, hc6] using hA.out hJ, by simp [writeA, hin, ht, hc6]⟩
    ·try simp only [tstS] at hc6
     have hc42 := hD.cel hX
     have z1 := hW.sec; have z2 := hx.lc; have z3 := hW.chg; have z4 := hW.left
     refine cskip <| cseq <| cg <| zm rfl <| vq (Val.nilCheck rfl) <| vq (Val.fieldAddr fld58_0 rfl) <| vq (Val.loadB scl56 rfl hb0.blk rfl) <| zm rfl <| vq (Val.indexO sl56 hD.own rfl rfl (by omega) (by omega)) ?_
     refine vq (Val.fieldAddrP fld62_2 rfl) <| vq (Val.loadEf scl60 rfl hc42.cel rfl) <| zm rfl <| zm rfl ?_
     refine WR.eff_ ((Eff.diskPut (j := j) (s := t) mapT hD hX (dskA_at hk) rfl rfl rfl (by omega) (by omega) (by intro e; rw [e] at ht; cases ht))) ?_
     rintro _ w3 ⟨c3, hM3, hD⟩
     replace hJ := hJ.mv hM3; replace hb0 := hb0.mv hM3; replace hc42 := hc42.mv hM3
     have hA2 : ArrC c3 w3 p (setD A k { dskA A k with cache := (dskA A k).cache.set j t }) := ⟨_, X, hb0, hD⟩
     refine cnil <| cseq <| cg <| zm rfl ?_
     refine ve (Eff.call pf30 rfl (achanged_ok hA2 z3 z4.1 z4.2)) ?_
     rintro v48 w4 ⟨c4, hM4, hA2⟩
     replace hJ := hJ.mv hM4
     refine cnil <| cseq <| cg <| za rfl <| cnil ?_
     refine WC.ret1 rfl rfl ?_
     exact ⟨_, hJ.out, by simpa [writeA, hin, ht, hc6] using hA2.out hJ, by simp [writeA, hin, ht, hc6]⟩
end
end Go.Proofs.Ytjddnaefmikccaa
