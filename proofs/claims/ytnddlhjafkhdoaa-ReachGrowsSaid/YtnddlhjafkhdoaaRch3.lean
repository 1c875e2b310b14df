/- Things: finding one by halves; who names one. No condition. -/
import Derived.Test.YtnddlhjafkhdoaaRch2
import Derived.Test.YtnddlhjafkhdoaaDig5
set_option linter.unusedSimpArgs false
set_option linter.unusedVariables false
set_option maxRecDepth 100000
namespace Silo
open Go Go.Eng
/-- How two texts compare. -/
def cmpS (a b : List UInt8) : Int := if Op.bytesLess a b then -1 else if a = b then 0 else 1
theorem cmpS_eq : ∀ a b : List UInt8, Lib.compareBytes a b = cmpS a b
  | [], [] => rfl
  | [], _ :: _ => rfl
  | _ :: _, [] => rfl
  | x :: a, y :: b => by
    unfold Lib.compareBytes
    rw [cmpS_eq a b]
    unfold cmpS
    simp only [Op.bytesLess]
    by_cases h : x < y
    · simp [h]
    · by_cases h2 : y < x
      · have hne : x ≠ y := fun e => by subst e; exact h h2
        simp [h, h2, hne]
      · have he : x = y := by
          rw [UInt8.not_lt] at h h2
          exact UInt8.le_antisymm h2 h
        subst he
        simp [h]
theorem cmpS_neg {a b : List UInt8} : (cmpS a b < 0) = (Op.bytesLess a b = true) := by
  unfold cmpS
  split
  · rename_i h; simp [h]
  · rename_i h
    split <;> simp [h]
theorem cmpS_zero {a b : List UInt8} : (cmpS a b = 0) = (a = b) := by
  unfold cmpS
  split
  · rename_i h
    have : a ≠ b := fun e => by subst e; rw [less_irrefl] at h; cases h
    simp [this]
  · split <;> simp_all
/-- How many come ahead. -/
def lowBy {α : Type} (p : α → Bool) (l : List α) : Nat := (l.takeWhile p).length
theorem lowBy_eq {α : Type} {p : α → Bool} : ∀ {l : List α} {i : Nat}, i ≤ l.length → (∀ k (hk : k < l.length), k < i → p l[k] = true) → (∀ hi : i < l.length, p l[i] = false) → lowBy p l = i
  | [], i, hi, _, _ => by simp at hi; subst hi; rfl
  | a :: r, 0, _, _, h2 => by
    have := h2 (by simp)
    simp only [List.getElem_cons_zero] at this
    simp [lowBy, List.takeWhile_cons, this]
  | a :: r, i + 1, hi, h1, h2 => by
    have h0 := h1 0 (by simp) (by omega)
    simp only [List.getElem_cons_zero] at h0
    have ih := lowBy_eq (p := p) (l := r) (i := i) (by simpa using hi) (fun k hk hki => by
      have := h1 (k + 1) (by simpa using hk) (by omega)
      simpa using this) (fun hi2 => by
      have := h2 (by simpa using hi2)
      simpa using this)
    simp only [lowBy, List.takeWhile_cons, h0, if_true, List.length_cons]
    unfold lowBy at ih
    omega
def lowT (T : List Thg) (d : List UInt8) : Nat := lowBy (fun t => Op.bytesLess t.digest d) T
theorem lowT_find {T : List Thg} (hr : RiseT T) {d : List UInt8} {i : Nat} (h : findT T d = some i) : lowT T d = i := by
  obtain ⟨hi, he⟩ := findT_some h
  refine lowBy_eq (by omega) (fun k hk hki => ?_) (fun _ => ?_)
  · have := hr k i hk hi hki
    rw [he] at this; exact this
  · rw [he]; exact less_irrefl d
/-- What a search by halves ends in. -/
theorem lowT_end {T : List Thg} (hr : RiseT T) {d : List UInt8} {i : Nat} (hi : i ≤ T.length) (h1 : ∀ k (hk : k < T.length), k < i → Op.bytesLess T[k].digest d = true) (h2 : ∀ k (hk : k < T.length), i ≤ k → Op.bytesLess T[k].digest d = false) :
    lowT T d = i ∧ (decide ((i : Int) < (T.length : Int)) && decide (((T[i]?.map Thg.digest).getD []) = d)) = (findT T d).isSome := by
  refine ⟨lowBy_eq hi h1 (fun h => h2 i h (Nat.le_refl _)), ?_⟩
  rcases Nat.lt_or_ge i T.length with h | h
  · rw [decide_eq_true (show (i : Int) < (T.length : Int) by omega), Bool.true_and, List.getElem?_eq_getElem h]
    simp only [Option.map_some, Option.getD_some]
    by_cases he : T[i].digest = d
    · rw [decide_eq_true he, findT_at hr h he]; rfl
    · rw [decide_eq_false he]
      cases hf : findT T d with
      | none => rfl
      | some j =>
        obtain ⟨hj, hd⟩ := findT_some hf
        exfalso
        rcases Nat.lt_trichotomy j i with hji | hji | hji
        · have := h1 j hj hji
          rw [hd, less_irrefl] at this; cases this
        · subst hji; exact he hd
        · have := hr i j h hj hji
          rw [hd] at this
          have h3 := h2 i h (Nat.le_refl _)
          unfold L at this
          rw [h3] at this; cases this
  · rw [decide_eq_false (show ¬ (i : Int) < (T.length : Int) by omega), Bool.false_and]
    cases hf : findT T d with
    | none => rfl
    | some j =>
      obtain ⟨hj, hd⟩ := findT_some hf
      have := h1 j hj (by omega)
      rw [hd, less_irrefl] at this; cases this
def idxS (l : List (List UInt8)) (d : List UInt8) : Int := match l.findIdx? (fun x => d == x) with | some i => (i : Int) | none => -1
theorem idxS_hit {l : List (List UInt8)} {d : List UInt8} {k : Nat} (hk : k < l.length) (h : ∀ i (hi : i < l.length), i < k → d ≠ l[i]) (he : d = l[k]) : idxS l d = k := by
  have : l.findIdx? (fun x => d == x) = some k := by
    rw [List.findIdx?_eq_some_iff_getElem]
    exact ⟨hk, by simpa using he, fun j hj => by simpa using h j (by omega) hj⟩
  rw [idxS, this]
theorem idxS_none {l : List (List UInt8)} {d : List UInt8} (h : ∀ i (hi : i < l.length), i < l.length → d ≠ l[i]) : idxS l d = -1 := by
  have : l.findIdx? (fun x => d == x) = none := by
    rw [List.findIdx?_eq_none_iff]
    intro x hx
    obtain ⟨i, hi, rfl⟩ := List.mem_iff_getElem.1 hx
    simpa using h i hi hi
  rw [idxS, this]
theorem idxS_contains (l : List (List UInt8)) (d : List UInt8) : decide (0 ≤ idxS l d) = l.contains d := by
  unfold idxS
  cases h : l.findIdx? (fun x => d == x) with
  | some i =>
    obtain ⟨hi, h1, _⟩ := List.findIdx?_eq_some_iff_getElem.1 h
    have : l.contains d = true := by rw [List.contains_iff_mem, show d = l[i] by simpa using h1]; exact List.getElem_mem hi
    rw [this]
    simp
  | none =>
    rw [List.findIdx?_eq_none_iff] at h
    cases hc : l.contains d with
    | false => rfl
    | true =>
      rw [List.contains_iff_mem] at hc
      have := h d hc
      simp at this
end Silo
namespace Go.Proofs.Ytnddlhjafkhdoaa
open Go Go.Eng Go.RowKit Silo TryT

theorem compare_ok {w : World} (a b : List UInt8) : Calls Try.prog 122 #[St a, St b] w (Ret fun v w' => Below w.heap.size w w' ∧ v = I (cmpS a b)) :=
  (Try.strings_Compare ⟨a.toArray⟩ ⟨b.toArray⟩ w).mono fun e w' he => by
    obtain ⟨rfl, rfl⟩ := he
    exact ⟨_, rfl, Below.refl _ _, by rw [cmpS_eq]⟩
theorem findCmp_ok {w : World} (t : Thg) (d : List UInt8) : Calls Try.prog 121 #[.agg (encThg t).toArray, St d] w (Ret fun v w' => Below w.heap.size w w' ∧ v = I (cmpS t.digest d)) := by
  have hK : Old w w := Old.refl w
  refine enter (n := 9) (res := #[.tmp 4]) Try.func121 rfl rfl rfl rfl ?_
  refine cseq <| cregion ?_
  refine WR.eff (Eff.box rfl) rfl ?_
  rintro _ w1 ⟨b2, rfl, hn2⟩
  have hk1 := hn2.below
  replace hK := hK.up hk1
  have hb2 := hn2.blk
  refine qq (Val.assign rfl) rfl <| cnil <| cseq <| cregion ?_
  first | refine WR.val (Val.fieldAddr fld62_0 rfl) rfl ?_ | refine WR.val (Val.fieldAddrP fld62_0 rfl) rfl ?_
  refine qq (Val.loadB scl9 rfl hb2 rfl) rfl <| qq (Val.move rfl) rfl ?_
  refine WR.eff (Eff.call pf122 rfl (compare_ok t.digest d)) rfl ?_
  rintro v8 w2 ⟨hk2, rfl⟩
  replace hK := hK.up hk2; replace hb2 := hb2.up hk2
  refine qq (Val.assign rfl) rfl <| cnil ?_
  refine WC.ret1 rfl rfl ?_
  exact ⟨hK, rfl⟩

set_option maxHeartbeats 1000000 in
theorem bsThg_ok {w : World} {v : Value} {T : List Thg} {d : List UInt8} (h1 : Rd thgS w v T) (hr : RiseT T) :
    Calls Try.prog 120 #[v, St d, .func (.func 121) #[] #[]] w (Ret fun v' w' => Below w.heap.size w w' ∧ v' = .tuple #[I (lowT T d : Nat), .bool (findT T d).isSome]) := by
  have hK : Old w w := Old.refl w
  have hsm := h1.small
  refine enter (n := 49) (res := #[.tmp 6, .tmp 7]) Try.func120 rfl rfl rfl rfl ?_
  refine cseq <| cregion <| qq (Val.assign rfl) rfl <| qq (Val.assign rfl) rfl <| cnil <| cseq <| cregion <| qq (Val.move rfl) rfl ?_
  first | refine WR.val (Val.rdlen sl52 (by assumption) rfl) rfl ?_ | refine WR.val (Val.sllen Try.underlying52 rfl) rfl ?_
  refine qq (Val.assign rfl) rfl <| cnil <| cseq <| cregion <| qq (Val.move rfl) rfl <| qq (Val.assign rfl) rfl <| qq (Val.assign rfl) rfl <| cnil <| cseq ?_
  refine cblock ?_
  refine WC.loop (σ := Nat × Nat) (fun st => [(0, v), (1, St d), (2, .func (.func 121) #[] #[]), (8, I T.length), (9, I st.1), (10, I st.2)]) (fun st w' => Rd thgS w' v T ∧ Old w w' ∧ st.1 ≤ st.2 ∧ st.2 ≤ T.length ∧ (∀ k (hk : k < T.length), k < st.1 → Op.bytesLess T[k].digest d = true) ∧ ∀ k (hk : k < T.length), st.2 ≤ k → Op.bytesLess T[k].digest d = false) (fun st => st.2 - st.1) (0, T.length) (by repeat (first | exact Sub.nil _ | refine Sub.cons rfl ?_ | refine Sub.consM rfl ?_)) ⟨h1, hK, by simp, by simp, fun k _ h => absurd h (Nat.not_lt_zero _), fun k hk h => by dsimp only at h; omega⟩ ?_
  clear h1 hK
  rintro ⟨i, j⟩ wl ⟨h1, hK, hij, hj, ha, hb⟩
  dsimp only at hij hj ha hb ⊢
  refine cseq <| cseq <| cregion <| qq (Val.move rfl) rfl <| qq (Val.move rfl) rfl <| qq (Val.lss rfl rfl) rfl <| cnil ?_
  refine WC.cond rfl (fun hc3 => ?_) (fun hc3 => ?_)
  ·try simp only [tstS] at hc3
   have kij : i < j := by omega
   refine cskip <| cblock <| cseq <| cregion <| qq (Val.move rfl) rfl <| qq (Val.move rfl) rfl <| qq (Val.addI rfl rfl (by first | omega | assumption | (simp; omega) | (simp; done)) (by first | omega | assumption | (simp; omega) | (simp; done))) rfl <| qq (Val.convToU64 Try.underlying3 Try.underlying109 rfl (by first | omega | assumption | (simp; omega) | (simp; done)) (by first | omega | assumption | (simp; omega) | (simp; done))) rfl <| qq (Val.shr rfl rfl (by first | omega | assumption | (simp; omega) | (simp; done)) (by simp [IntKind.bits] <;> omega)) rfl ?_
   refine qq (Val.convTo64 Try.underlying109 Try.underlying3 rfl (by first | omega | assumption | (simp; omega) | (simp; done)) (by first | omega | assumption | (simp; omega) | (simp; done))) rfl <| qq (Val.assign rfl) rfl <| cnil ?_
   have e4 : ((i : Int) + (j : Int)) / 2 ^ (1 : Int).toNat = ((i + j) / 2 : Nat) := by
     rw [show (2 : Int) ^ (1 : Int).toNat = 2 from rfl]; omega
   rw [e4]
   have hm : (i + j) / 2 < T.length := by omega
   have hmi : i ≤ (i + j) / 2 := by omega
   have hmj : (i + j) / 2 < j := by omega
   generalize (i + j) / 2 = h at hm hmi hmj ⊢
   obtain ⟨cs1, hc27, rfl, ok1⟩ := h1.el hm
   refine cseq <| cregion <| qq (Val.move rfl) rfl <| qq (Val.move rfl) rfl <| qq (Val.move rfl) rfl <| qq (Val.indexAddr sl52 (by assumption) rfl rfl rfl (by first | omega | assumption | (simp; omega) | (simp; done)) (by first | omega | assumption | (simp; omega) | (simp; done))) rfl <| qq (Val.loadE agg62 rfl hc27 rfl) rfl <| qq (Val.move rfl) rfl ?_
   refine WR.eff (Eff.callV rfl pf121 rfl (findCmp_ok T[h] d)) rfl ?_
   rintro v30 w1 ⟨hk1, rfl⟩
   replace h1 := h1.up hk1; replace hK := hK.up hk1; replace hc27 := hc27.up hk1
   refine qq (Val.lss rfl rfl) rfl <| cnil ?_
   refine WC.cond rfl (fun hc5 => ?_) (fun hc5 => ?_)
   ·try simp only [tstS] at hc5
    rw [cmpS_neg] at hc5
    have ha2 : ∀ k (hk : k < T.length), k < h + 1 → Op.bytesLess T[k].digest d = true := fun k hk hkh => by
      rcases Nat.lt_or_ge k h with h3 | h3
      · exact less_trans _ _ _ (hr k h hk hm h3) hc5
      · have : k = h := by omega
        subst this; exact hc5
    refine cregion <| qq (Val.move rfl) rfl <| qq (Val.addI rfl rfl (by first | omega | assumption | (simp; omega) | (simp; done)) (by first | omega | assumption | (simp; omega) | (simp; done))) rfl <| qq (Val.assign rfl) rfl <| cnil ?_
    first
    | exact ⟨(h + 1, j), (by repeat (first | exact Sub.nil _ | refine Sub.cons rfl ?_ | refine Sub.consM rfl ?_)), ⟨h1, hK, by dsimp only; omega, hj, ha2, hb⟩, by dsimp only; omega⟩
    | exact ⟨(i, h), (by repeat (first | exact Sub.nil _ | refine Sub.cons rfl ?_ | refine Sub.consM rfl ?_)), ⟨h1, hK, hmi, by dsimp only; omega, ha, hb2⟩, by dsimp only; omega⟩
   ·try simp only [tstS] at hc5
    rw [cmpS_neg, Bool.not_eq_true] at hc5
    have hb2 : ∀ k (hk : k < T.length), h ≤ k → Op.bytesLess T[k].digest d = false := fun k hk hkh => by
      rcases Nat.eq_or_lt_of_le hkh with h3 | h3
      · subst h3; exact hc5
      · cases hx : Op.bytesLess T[k].digest d with
        | false => rfl
        | true => rw [less_trans _ _ _ (hr h k hm hk h3) hx] at hc5; cases hc5
    refine cregion <| qq (Val.move rfl) rfl <| qq (Val.assign rfl) rfl <| cnil ?_
    first
    | exact ⟨(h + 1, j), (by repeat (first | exact Sub.nil _ | refine Sub.cons rfl ?_ | refine Sub.consM rfl ?_)), ⟨h1, hK, by dsimp only; omega, hj, ha2, hb⟩, by dsimp only; omega⟩
    | exact ⟨(i, h), (by repeat (first | exact Sub.nil _ | refine Sub.cons rfl ?_ | refine Sub.consM rfl ?_)), ⟨h1, hK, hmi, by dsimp only; omega, ha, hb2⟩, by dsimp only; omega⟩
  ·try simp only [tstS] at hc3
   have : i = j := by omega
   subst this
   obtain ⟨hl1, hl2⟩ := lowT_end hr hj ha hb
   refine WC.exit rfl ?_
   refine cseq <| cregion <| qq (Val.move rfl) rfl <| qq (Val.move rfl) rfl <| qq (Val.move rfl) rfl <| qq (Val.lss rfl rfl) rfl <| qq (Val.move rfl) rfl ?_
   apply WR.sc true 8 (decide (((T[i]?.map Thg.digest).getD []) = d)) (fun w' => Below wl.heap.size wl w')
   case hl => rfl
   case hg => rfl
   case hu => rfl
   case hv => rfl
   case hs => rfl
   case hoff => rfl
   case hd => rfl
   case hF => exact fun _ => Below.refl _ _
   case hT =>
    intro hq13
    try simp only [tstS] at hq13
    simp only [List.take_succ_cons, List.take_zero]
    have hi : i < T.length := by omega
    obtain ⟨cs1, hc43, rfl, ok1⟩ := h1.el hi
    have hget : ((T[i]?.map Thg.digest).getD []) = T[i].digest := by rw [List.getElem?_eq_getElem hi]; rfl
    have hKsc13 : Old wl wl := Old.refl _
    refine WR.on rfl rfl ?_
    refine qq (Val.move rfl) rfl ?_
    refine WR.on rfl rfl ?_
    refine qq (Val.move rfl) rfl ?_
    refine WR.on rfl rfl ?_
    refine qq (Val.move rfl) rfl ?_
    refine WR.on rfl rfl ?_
    refine qq (Val.indexAddr sl52 (by assumption) rfl rfl rfl (by first | omega | assumption | (simp; omega) | (simp; done)) (by first | omega | assumption | (simp; omega) | (simp; done))) rfl ?_
    refine WR.on rfl rfl ?_
    refine qq (Val.loadE agg62 rfl hc43 rfl) rfl ?_
    refine WR.on rfl rfl ?_
    refine qq (Val.move rfl) rfl ?_
    refine WR.on rfl rfl ?_
    refine WR.eff (Eff.callV rfl pf121 rfl (findCmp_ok T[i] d)) rfl ?_
    rintro v46 w2 ⟨hk2, rfl⟩
    replace h1 := h1.up hk2; replace hK := hK.up hk2; replace hc43 := hc43.up hk2; replace hKsc13 := hKsc13.up hk2
    refine WR.on rfl rfl ?_
    refine qq (Val.eql rfl rfl) rfl ?_
    exact WR.nil ⟨(by rw [hget]; simp only [look, cmpS_zero]; rfl), Sub.drop _ 8 _ rfl rfl, hKsc13⟩
   intro w3 hk3
   replace h1 := h1.up hk3; replace hK := hK.up hk3
   refine qq (Val.assign rfl) rfl <| qq (Val.assign rfl) rfl <| cnil ?_
   refine WC.ret2 rfl rfl rfl ?_
   exact ⟨hK, by rw [hl1, hl2]; rfl⟩

theorem rfind_ok {w : World} {v : Value} {T : List Thg} {d : List UInt8} (h1 : Rd thgS w v T) (hr : RiseT T) : Calls Try.prog 84 #[v, St d] w (Ret fun v' w' => Below w.heap.size w w' ∧ v' = .tuple #[I (lowT T d : Nat), .bool (findT T d).isSome]) := by
  have hK : Old w w := Old.refl w
  refine enter (n := 11) (res := #[.tmp 4, .tmp 5]) Try.func84 rfl rfl rfl rfl ?_
  refine cseq <| cregion <| qq (Val.assign rfl) rfl <| qq (Val.assign rfl) rfl <| cnil <| cseq <| cregion <| qq (Val.move rfl) rfl <| qq (Val.move rfl) rfl ?_
  refine WR.eff (Eff.call pf120 rfl (bsThg_ok h1 hr)) rfl ?_
  rintro v8 w1 ⟨hk1, rfl⟩
  replace h1 := h1.up hk1; replace hK := hK.up hk1
  refine qq (Val.extract rfl rfl) rfl <| qq (Val.extract rfl rfl) rfl <| qq (Val.assign rfl) rfl <| qq (Val.assign rfl) rfl <| cnil ?_
  refine WC.ret2 rfl rfl rfl ?_
  exact ⟨hK, rfl⟩

theorem index_ok {w : World} {v : Value} {l : List (List UInt8)} {d : List UInt8} (h1 : Rd strS w v l) : Calls Try.prog 140 #[v, St d] w (Ret fun v' w' => Below w.heap.size w w' ∧ v' = I (idxS l d)) := by
  have hK : Old w w := Old.refl w
  have hsm := h1.small
  refine enter (n := 19) (res := #[.tmp 4]) Try.func140 rfl rfl rfl rfl ?_
  refine cseq <| cregion <| qq (Val.assign rfl) rfl <| cnil <| cseq <| cseq <| cregion <| qq (Val.move rfl) rfl ?_
  first | refine WR.val (Val.rdlen sl23 (by assumption) rfl) rfl ?_ | refine WR.val (Val.sllen Try.underlying23 rfl) rfl ?_
  refine qq (Val.move rfl) rfl <| cnil <| cblock ?_
  refine WC.loop (σ := Nat) (fun k => [(0, v), (1, St d), (7, I l.length), (8, I k)]) (fun k w' => Rd strS w' v l ∧ Old w w' ∧ k ≤ l.length ∧ ∀ i (hi : i < l.length), i < k → d ≠ l[i]) (fun k => l.length - k) 0 (by repeat (first | exact Sub.nil _ | refine Sub.cons rfl ?_ | refine Sub.consM rfl ?_)) ⟨h1, hK, by omega, fun i hi h => absurd h (Nat.not_lt_zero _)⟩ ?_
  clear h1 hK
  rintro k wl ⟨h1, hK, hk, hd⟩
  refine cseq <| cregion <| qq (Val.lss rfl rfl) rfl <| cnil <| cseq ?_
  refine WC.cond rfl (fun hc2 => ?_) (fun hc2 => ?_)
  ·try simp only [tstS] at hc2
   have ka : k < l.length := by omega
   obtain ⟨cs1, hc14, rfl, ok1⟩ := h1.el ka
   refine cskip <| cseq <| cblock <| cseq <| cregion <| qq (Val.move rfl) rfl <| qq (Val.assign rfl) rfl <| cnil <| cseq ?_
   refine cregion <| qq (Val.move rfl) rfl <| qq (Val.move rfl) rfl <| qq (Val.move rfl) rfl <| qq (Val.indexAddr sl23 (by assumption) rfl rfl rfl (by first | omega | assumption | (simp; omega) | (simp; done)) (by first | omega | assumption | (simp; omega) | (simp; done))) rfl <| qq (Val.loadE1 scl9 rfl hc14) rfl <| qq (Val.seq_ rfl rfl) rfl <| cnil ?_
   refine WC.cond rfl (fun hc4 => ?_) (fun hc4 => ?_)
   ·try simp only [tstS] at hc4
    have he : d = l[k] := by simpa using hc4
    refine cseq <| cregion <| qq (Val.move rfl) rfl <| qq (Val.assign rfl) rfl <| cnil ?_
    refine WC.ret1 rfl rfl ?_
    exact ⟨hK, by rw [idxS_hit ka hd he]⟩
   ·try simp only [tstS] at hc4
    have he : d ≠ l[k] := by simpa using hc4
    refine cskip <| cregion <| qq (Val.addI rfl rfl (by first | omega | assumption | (simp; omega) | (simp; done)) (by first | omega | assumption | (simp; omega) | (simp; done))) rfl <| qq (Val.move rfl) rfl <| cnil ?_
    exact ⟨k + 1, (by repeat (first | exact Sub.nil _ | refine Sub.cons rfl ?_ | refine Sub.consM rfl ?_)), ⟨h1, hK, ka, fun i hi h => by
      rcases Nat.lt_or_ge i k with h2 | h2
      · exact hd i hi h2
      · have : i = k := by omega
        subst this; exact he⟩, by omega⟩
  ·try simp only [tstS] at hc2
   have : k = l.length := by omega
   subst this
   refine WC.exit rfl ?_
   refine cseq <| cregion <| qq (Val.assign rfl) rfl <| cnil ?_
   refine WC.ret1 rfl rfl ?_
   exact ⟨hK, by rw [idxS_none hd]⟩
theorem contains_ok {w : World} {v : Value} {l : List (List UInt8)} {d : List UInt8} (h1 : Rd strS w v l) : Calls Try.prog 123 #[v, St d] w (Ret fun v' w' => Below w.heap.size w w' ∧ v' = .bool (l.contains d)) := by
  have hK : Old w w := Old.refl w
  refine enter (n := 9) (res := #[.tmp 4]) Try.func123 rfl rfl rfl rfl ?_
  refine cseq <| cregion <| qq (Val.assign rfl) rfl <| cnil <| cseq <| cregion <| qq (Val.move rfl) rfl <| qq (Val.move rfl) rfl ?_
  refine WR.eff (Eff.call pf140 rfl (index_ok h1)) rfl ?_
  rintro v7 w1 ⟨hk1, rfl⟩
  replace h1 := h1.up hk1; replace hK := hK.up hk1
  refine qq (Val.geq rfl rfl) rfl <| qq (Val.assign rfl) rfl <| cnil ?_
  refine WC.ret1 rfl rfl ?_
  exact ⟨hK, by rw [← idxS_contains]⟩

theorem using_ok {w : World} {v : Value} {T : List Thg} {d : List UInt8} (h0 : Rd thgS w v T) (hb : ∀ t ∈ T, t.text.length ≤ 1048576) (hl : T.length ≤ 1048576) :
    Calls Try.prog 85 #[v, St d] w (Ret fun v' w' => Below w.heap.size w w' ∧ Own w' w.heap.size 9 1 v' (usersT T d).length ((usersT T d).flatMap fun x => [St x])) := by
  obtain ⟨c, hO, hc⟩ := OldC.start w
  have h1 : RdC thgS c w [0] v T := Rd.toC h0 (fun k hk => by simp [hc, hasC])
  clear hc h0
  refine enter (n := 25) (res := #[.tmp 4]) Try.func85 rfl rfl rfl rfl ?_
  refine cseq <| cregion <| qq (Val.assign rfl) rfl <| cnil <| cseq <| cregion <| qq (Val.assign rfl) rfl <| cnil <| cseq ?_
  refine cseq <| cregion <| qq (Val.move rfl) rfl ?_
  first | refine WR.val (Val.rdlen sl52 (by assumption) rfl) rfl ?_ | refine WR.val (Val.sllen Try.underlying52 rfl) rfl ?_ | refine WR.val (Val.olen sl52 (by assumption) rfl) rfl ?_ | refine WR.val (Val.rdlenC sl52 (by assumption) rfl) rfl ?_
  refine qq (Val.move rfl) rfl <| cnil <| cblock ?_
  refine WC.loop (σ := Nat × Value) (fun st => [(1, St d), (8, v), (9, I T.length), (5, st.2), (10, I st.1)]) (fun st w' => ∃ c', OldC w c' w' ∧ RdC thgS c' w' [0] v T ∧ OwnC c' w' 5 9 1 st.2 (usersT (T.take st.1) d).length ((usersT (T.take st.1) d).flatMap fun x => [St x]) ∧ st.1 ≤ T.length) (fun st => T.length - st.1) (0, .slice none 0 0) (by repeat (first | exact Sub.nil _ | refine Sub.cons rfl ?_ | refine Sub.consM rfl ?_)) ⟨_, hO, h1, OwnC.nil _ _ _ _ _, by simp⟩ ?_
  clear hO h1
  rintro ⟨k, vm⟩ wl ⟨cl, hO, h1, ho, hk⟩
  dsimp only at hO h1 ho hk ⊢
  have hpl := usersT_len (T.take k) d
  rw [List.length_take] at hpl
  refine cseq <| cregion <| qq (Val.lss rfl rfl) rfl <| cnil <| cseq ?_
  refine WC.cond rfl (fun hc3 => ?_) (fun hc3 => ?_)
  ·try simp only [tstS] at hc3
   have ka : k < T.length := by omega
   obtain ⟨hc12, ok1⟩ := RdC.elFlat h1 ka (by decide)
   have hps := usersT_succ (d := d) ka
   have hnl := namesT_len T[k]
   refine cskip <| cseq <| cblock <| cseq <| cregion ?_
   first | refine WR.val (Val.indexAddr sl52 (by assumption) rfl rfl rfl (by first | omega | assumption | (simp; omega) | (simp; done)) (by first | omega | assumption | (simp; omega) | (simp; done))) rfl ?_ | refine WR.val (Val.indexC sl52 (by assumption) rfl rfl (by first | omega | assumption | (simp; omega) | (simp; done)) (by first | omega | assumption | (simp; omega) | (simp; done))) rfl ?_ | refine WR.val (Val.indexO sl52 (by assumption) rfl rfl (by first | omega | assumption | (simp; omega) | (simp; done)) (by first | omega | assumption | (simp; omega) | (simp; done))) rfl ?_
   refine qq (Val.loadE agg62 rfl hc12.cel rfl) rfl ?_
   refine WR.eff (Eff.allocC cl 107 zero62) rfl ?_
   rintro _ w1 ⟨b7, c1, rfl, hM1, hb7⟩
   replace hO := hO.mv hM1 rfl; replace h1 := h1.mv hM1 rfl; replace ho := ho.mv hM1 rfl; replace hc12 := hc12.mv hM1 rfl
   refine WR.eff_ (Eff.storeNC agg62 rfl rfl hb7 rfl rfl (by repeat (first | exact List.forall_mem_nil _ | refine List.forall_mem_cons.2 ⟨by first | rfl | assumption, ?_⟩))) ?_
   rintro _ w2 ⟨hS, hM2⟩
   replace hO := hO.mv hM2 rfl; replace h1 := h1.mv hM2 rfl; replace ho := ho.mv hM2 rfl; replace hc12 := hc12.mv hM2 rfl
   replace hb7 := hS
   refine cnil <| cseq <| cregion <| qq (Val.loadBN agg62 rfl hb7.blk rfl) rfl ?_
   refine WR.eff (Eff.pureC c1 8 (Eff.call pf83 rfl (rnames_ok T[k] (hb _ (List.getElem_mem ka))))) rfl ?_
   rintro v15 w3 ⟨c3, hM3, hx3, hn⟩
   replace hO := hO.mv hM3 rfl; replace h1 := h1.mv hM3 rfl; replace ho := ho.mv hM3 rfl; replace hc12 := hc12.mv hM3 rfl; replace hb7 := hb7.mv hM3 rfl
   replace hn := hn.toC hx3
   refine qq (Val.move rfl) rfl ?_
   refine WR.eff (Eff.pureC c3 1 (Eff.call pf123 rfl (contains_ok (hn.own.rdStrs namesT_texts (by omega))))) rfl ?_
   rintro v17 w4 ⟨c4, hM4, hx4, rfl⟩
   replace hO := hO.mv hM4 rfl; replace h1 := h1.mv hM4 rfl; replace ho := ho.mv hM4 rfl; replace hc12 := hc12.mv hM4 rfl; replace hb7 := hb7.mv hM4 rfl; replace hn := hn.mv hM4 rfl
   refine cnil ?_
   refine WC.cond rfl (fun hc5 => ?_) (fun hc5 => ?_)
   ·try simp only [tstS] at hc5
    rw [if_pos hc5] at hps
    refine cregion <| qq (Val.move rfl) rfl ?_
    first | refine WR.val (Val.fieldAddr fld62_0 rfl) rfl ?_ | refine WR.val (Val.fieldAddrP fld62_0 rfl) rfl ?_
    refine qq (Val.loadB scl9 rfl hb7.blk rfl) rfl ?_
    refine WR.eff (Eff.build1C c4 121 sl23 rfl rfl rfl rfl rfl) rfl ?_
    rintro _ w5 ⟨b21, c5, rfl, hM5, hb21⟩
    replace hO := hO.mv hM5 rfl; replace h1 := h1.mv hM5 rfl; replace ho := ho.mv hM5 rfl; replace hc12 := hc12.mv hM5 rfl; replace hb7 := hb7.mv hM5 rfl; replace hn := hn.mv hM5 rfl
    refine WR.eff (Eff.appendC sl23 rfl rfl ho (Src.cellsAt Try.underlying23 hb21.blk.cellsAt rfl (by repeat (first | exact List.forall_mem_nil _ | refine List.forall_mem_cons.2 ⟨by first | rfl | assumption, ?_⟩))) (by rw [maxLen_eq]; first | omega | (simp; omega)) (by first | omega | (simp; omega))) rfl ?_
    rintro v22 w6 ⟨c6, hM6, hOq⟩
    clear hb21
    replace hO := hO.mv hM6 rfl; replace h1 := h1.mv hM6 rfl; replace hc12 := hc12.mv hM6 rfl; replace hb7 := hb7.mv hM6 rfl; replace hn := hn.mv hM6 rfl
    replace ho := hOq
    refine qq (Val.assign rfl) rfl <| cnil <| cregion <| qq (Val.addI rfl rfl (by first | omega | assumption | (simp; omega) | (simp; done)) (by first | omega | assumption | (simp; omega) | (simp; done))) rfl <| qq (Val.move rfl) rfl <| cnil ?_
    first
    | exact ⟨(k + 1, vm), (by repeat (first | exact Sub.nil _ | refine Sub.cons rfl ?_ | refine Sub.consM rfl ?_)), ⟨_, hO, h1, by rw [hps]; exact ho, ka⟩, by dsimp only; omega⟩
    | exact ⟨(k + 1, v22), (by repeat (first | exact Sub.nil _ | refine Sub.cons rfl ?_ | refine Sub.consM rfl ?_)), ⟨_, hO, h1, by rw [hps, List.flatMap_append, List.length_append]; exact ho, ka⟩, by dsimp only; omega⟩
   ·try simp only [tstS] at hc5
    rw [if_neg (by rw [hc5]; decide)] at hps
    refine cskip <| cregion <| qq (Val.addI rfl rfl (by first | omega | assumption | (simp; omega) | (simp; done)) (by first | omega | assumption | (simp; omega) | (simp; done))) rfl <| qq (Val.move rfl) rfl <| cnil ?_
    first
    | exact ⟨(k + 1, vm), (by repeat (first | exact Sub.nil _ | refine Sub.cons rfl ?_ | refine Sub.consM rfl ?_)), ⟨_, hO, h1, by rw [hps]; exact ho, ka⟩, by dsimp only; omega⟩
    | exact ⟨(k + 1, v22), (by repeat (first | exact Sub.nil _ | refine Sub.cons rfl ?_ | refine Sub.consM rfl ?_)), ⟨_, hO, h1, by rw [hps, List.flatMap_append, List.length_append]; exact ho, ka⟩, by dsimp only; omega⟩
  ·try simp only [tstS] at hc3
   have : k = T.length := by omega
   subst this
   rw [List.take_length] at ho
   refine WC.exit rfl ?_
   refine cseq <| cregion <| qq (Val.move rfl) rfl <| qq (Val.assign rfl) rfl <| cnil ?_
   refine WC.ret1 rfl rfl ?_
   exact ⟨hO.below, ho.fromOld hO (by decide)⟩
theorem rusers_ok {w : World} {v : Value} {T : List Thg} {d : List UInt8} (h1 : Rd thgS w v T) :
    Calls Try.prog 45 #[v, St d] w (Ret fun v' w' => Below w.heap.size w w' ∧ ∃ u, v' = .tuple #[u, I (if thgsMay T then 0 else 1)] ∧ Own w' w.heap.size 9 1 u (if thgsMay T then usersT T d else []).length ((if thgsMay T then usersT T d else []).flatMap fun x => [St x])) := by
  have hB : Below w.heap.size w w := Below.refl _ _
  obtain ⟨c, hO, hc⟩ := OldC.start w
  replace h1 : RdC thgS c w [0] v T := Rd.toC h1 (fun k hk => by simp [hc, hasC])
  clear hc
  refine enter (n := 12) (res := #[.tmp 4, .tmp 5]) Try.func45 rfl rfl rfl rfl ?_
  refine cseq <| cregion <| qq (Val.assign rfl) rfl <| qq (Val.assign rfl) rfl <| cnil <| cseq <| cseq <| cregion <| qq (Val.move rfl) rfl ?_
  refine WR.eff (Eff.pureC c 1 (Eff.call pf80 rfl (rmay_ok h1.now))) rfl ?_
  rintro v7 w1 ⟨c1, hM1, hx1, rfl⟩
  replace hO := hO.mv hM1 rfl; replace h1 := h1.mv hM1 rfl
  refine qq (Val.not rfl) rfl <| cnil ?_
  refine WC.cond rfl (fun hc1 => ?_) (fun hc1 => ?_)
  ·try simp only [tstS] at hc1
   refine cseq <| cregion <| qq (Val.assign rfl) rfl <| qq (Val.assign rfl) rfl <| cnil ?_
   refine WC.ret2 rfl rfl rfl ?_
   exact ⟨hO.below, _, by rw [hc1]; rfl, by rw [hc1]; exact Own.nil _ _ _ _⟩
  ·try simp only [tstS] at hc1
   have hb : ∀ t ∈ T, t.text.length ≤ 1048576 := fun t ht => by
     obtain ⟨i, hi, rfl⟩ := List.mem_iff_getElem.1 ht
     have := (thgsMay_at hc1 hi).2.1; omega
   have hl := thgsMay_len hc1
   refine cskip <| cseq <| cregion <| qq (Val.move rfl) rfl <| qq (Val.move rfl) rfl ?_
   refine WR.eff (Eff.pureC c1 7 (Eff.call pf85 rfl (using_ok h1.now hb (by omega)))) rfl ?_
   rintro v11 w2 ⟨c2, hM2, hx2, ho⟩
   replace hO := hO.mv hM2 rfl; replace h1 := h1.mv hM2 rfl
   replace ho := ho.toC hx2
   refine qq (Val.assign rfl) rfl <| qq (Val.assign rfl) rfl <| cnil ?_
   refine WC.ret2 rfl rfl rfl ?_
   exact ⟨hO.below, _, by rw [hc1]; rfl, by rw [hc1]; exact ho.fromOld hO (by decide)⟩

theorem pusers_ok {w : World} {v : Value} {T : List Thg} {d : List UInt8} (h0 : Rd thgS w v T) (hb : ∀ t ∈ T, t.text.length ≤ 1048576) (hl : T.length ≤ 1048576) :
    Calls Try.prog 51 #[v, St d] w (Ret fun v' w' => Below w.heap.size w w' ∧ Own w' w.heap.size 9 1 v' (usersT T d).length ((usersT T d).flatMap fun x => [St x])) := by
  obtain ⟨c, hO, hc⟩ := OldC.start w
  have h1 : RdC thgS c w [0] v T := Rd.toC h0 (fun k hk => by simp [hc, hasC])
  clear hc h0
  refine enter (n := 29) (res := #[.tmp 4]) Try.func51 rfl rfl rfl rfl ?_
  refine cseq <| cregion <| qq (Val.assign rfl) rfl <| cnil <| cseq <| cregion <| qq (Val.assign rfl) rfl <| cnil <| cseq ?_
  refine cseq <| cregion <| qq (Val.assign rfl) rfl <| cnil <| cblock ?_
  refine WC.loop (σ := Nat × Value) (fun st => [(0, v), (1, St d), (5, st.2), (6, I st.1)]) (fun st w' => ∃ c', OldC w c' w' ∧ RdC thgS c' w' [0] v T ∧ OwnC c' w' 5 9 1 st.2 (usersT (T.take st.1) d).length ((usersT (T.take st.1) d).flatMap fun x => [St x]) ∧ st.1 ≤ T.length) (fun st => T.length - st.1) (0, .slice none 0 0) (by repeat (first | exact Sub.nil _ | refine Sub.cons rfl ?_ | refine Sub.consM rfl ?_)) ⟨_, hO, h1, OwnC.nil _ _ _ _ _, by simp⟩ ?_
  clear hO h1
  rintro ⟨k, vm⟩ wl ⟨cl, hO, h1, ho, hk⟩
  dsimp only at hO h1 ho hk ⊢
  have hpl := usersT_len (T.take k) d
  rw [List.length_take] at hpl
  refine cseq <| cseq <| cregion <| qq (Val.move rfl) rfl <| qq (Val.move rfl) rfl ?_
  first | refine WR.val (Val.rdlen sl52 (by assumption) rfl) rfl ?_ | refine WR.val (Val.sllen Try.underlying52 rfl) rfl ?_ | refine WR.val (Val.olen sl52 (by assumption) rfl) rfl ?_ | refine WR.val (Val.rdlenC sl52 (by assumption) rfl) rfl ?_
  refine qq (Val.lss rfl rfl) rfl <| cnil ?_
  refine WC.cond rfl (fun hc3 => ?_) (fun hc3 => ?_)
  ·try simp only [tstS] at hc3
   have ka : k < T.length := by omega
   obtain ⟨hc15, ok1⟩ := RdC.elFlat h1 ka (by decide)
   have hps := usersT_succ (d := d) ka
   have hnl := namesT_len T[k]
   have hc23 := hc15
   refine cskip <| cseq <| cblock <| cseq <| cregion <| qq (Val.move rfl) rfl <| qq (Val.move rfl) rfl ?_
   first | refine WR.val (Val.indexAddr sl52 (by assumption) rfl rfl rfl (by first | omega | assumption | (simp; omega) | (simp; done)) (by first | omega | assumption | (simp; omega) | (simp; done))) rfl ?_ | refine WR.val (Val.indexC sl52 (by assumption) rfl rfl (by first | omega | assumption | (simp; omega) | (simp; done)) (by first | omega | assumption | (simp; omega) | (simp; done))) rfl ?_ | refine WR.val (Val.indexO sl52 (by assumption) rfl rfl (by first | omega | assumption | (simp; omega) | (simp; done)) (by first | omega | assumption | (simp; omega) | (simp; done))) rfl ?_
   refine qq (Val.loadE agg62 rfl hc15.cel rfl) rfl ?_
   refine WR.eff (Eff.pureC cl 8 (Eff.call pf40 rfl (named_ok T[k] (hb _ (List.getElem_mem ka))))) rfl ?_
   rintro v17 w1 ⟨c1, hM1, hx1, hn⟩
   replace hO := hO.mv hM1 rfl; replace h1 := h1.mv hM1 rfl; replace ho := ho.mv hM1 rfl; replace hc15 := hc15.mv hM1 rfl; replace hc23 := hc23.mv hM1 rfl
   replace hn := hn.toC hx1
   refine qq (Val.move rfl) rfl ?_
   refine WR.eff (Eff.pureC c1 1 (Eff.call pf39 rfl (zhas_ok (hn.own.rdStrs namesT_texts (by omega))))) rfl ?_
   rintro v19 w2 ⟨c2, hM2, hx2, rfl⟩
   replace hO := hO.mv hM2 rfl; replace h1 := h1.mv hM2 rfl; replace ho := ho.mv hM2 rfl; replace hc15 := hc15.mv hM2 rfl; replace hc23 := hc23.mv hM2 rfl; replace hn := hn.mv hM2 rfl
   refine cnil ?_
   refine WC.cond rfl (fun hc5 => ?_) (fun hc5 => ?_)
   ·try simp only [tstS] at hc5
    rw [if_pos hc5] at hps
    refine cregion <| qq (Val.move rfl) rfl <| qq (Val.move rfl) rfl <| qq (Val.move rfl) rfl ?_
    first | refine WR.val (Val.indexAddr sl52 (by assumption) rfl rfl rfl (by first | omega | assumption | (simp; omega) | (simp; done)) (by first | omega | assumption | (simp; omega) | (simp; done))) rfl ?_ | refine WR.val (Val.indexC sl52 (by assumption) rfl rfl (by first | omega | assumption | (simp; omega) | (simp; done)) (by first | omega | assumption | (simp; omega) | (simp; done))) rfl ?_ | refine WR.val (Val.indexO sl52 (by assumption) rfl rfl (by first | omega | assumption | (simp; omega) | (simp; done)) (by first | omega | assumption | (simp; omega) | (simp; done))) rfl ?_
    first | refine WR.val (Val.fieldAddr fld62_0 rfl) rfl ?_ | refine WR.val (Val.fieldAddrP fld62_0 rfl) rfl ?_
    refine qq (Val.loadEf scl9 rfl hc23.cel rfl) rfl ?_
    refine WR.eff (Eff.build1C c2 126 sl23 rfl rfl rfl rfl rfl) rfl ?_
    rintro _ w3 ⟨b26, c3, rfl, hM3, hb26⟩
    replace hO := hO.mv hM3 rfl; replace h1 := h1.mv hM3 rfl; replace ho := ho.mv hM3 rfl; replace hc15 := hc15.mv hM3 rfl; replace hc23 := hc23.mv hM3 rfl; replace hn := hn.mv hM3 rfl
    refine WR.eff (Eff.appendC sl23 rfl rfl ho (Src.cellsAt Try.underlying23 hb26.blk.cellsAt rfl (by repeat (first | exact List.forall_mem_nil _ | refine List.forall_mem_cons.2 ⟨by first | rfl | assumption, ?_⟩))) (by rw [maxLen_eq]; first | omega | (simp; omega)) (by first | omega | (simp; omega))) rfl ?_
    rintro v27 w4 ⟨c4, hM4, hOq⟩
    clear hb26
    replace hO := hO.mv hM4 rfl; replace h1 := h1.mv hM4 rfl; replace hc15 := hc15.mv hM4 rfl; replace hc23 := hc23.mv hM4 rfl; replace hn := hn.mv hM4 rfl
    replace ho := hOq
    refine qq (Val.assign rfl) rfl <| cnil <| cregion <| qq (Val.move rfl) rfl <| qq (Val.addI rfl rfl (by first | omega | assumption | (simp; omega) | (simp; done)) (by first | omega | assumption | (simp; omega) | (simp; done))) rfl <| qq (Val.assign rfl) rfl <| cnil ?_
    first
    | exact ⟨(k + 1, vm), (by repeat (first | exact Sub.nil _ | refine Sub.cons rfl ?_ | refine Sub.consM rfl ?_)), ⟨_, hO, h1, by rw [hps]; exact ho, ka⟩, by dsimp only; omega⟩
    | exact ⟨(k + 1, v27), (by repeat (first | exact Sub.nil _ | refine Sub.cons rfl ?_ | refine Sub.consM rfl ?_)), ⟨_, hO, h1, by rw [hps, List.flatMap_append, List.length_append]; exact ho, ka⟩, by dsimp only; omega⟩
   ·try simp only [tstS] at hc5
    rw [if_neg (by rw [hc5]; decide)] at hps
    refine cskip <| cregion <| qq (Val.move rfl) rfl <| qq (Val.addI rfl rfl (by first | omega | assumption | (simp; omega) | (simp; done)) (by first | omega | assumption | (simp; omega) | (simp; done))) rfl <| qq (Val.assign rfl) rfl <| cnil ?_
    first
    | exact ⟨(k + 1, vm), (by repeat (first | exact Sub.nil _ | refine Sub.cons rfl ?_ | refine Sub.consM rfl ?_)), ⟨_, hO, h1, by rw [hps]; exact ho, ka⟩, by dsimp only; omega⟩
    | exact ⟨(k + 1, v27), (by repeat (first | exact Sub.nil _ | refine Sub.cons rfl ?_ | refine Sub.consM rfl ?_)), ⟨_, hO, h1, by rw [hps, List.flatMap_append, List.length_append]; exact ho, ka⟩, by dsimp only; omega⟩
  ·try simp only [tstS] at hc3
   have : k = T.length := by omega
   subst this
   rw [List.take_length] at ho
   refine WC.exit rfl ?_
   refine cseq <| cregion <| qq (Val.move rfl) rfl <| qq (Val.assign rfl) rfl <| cnil ?_
   refine WC.ret1 rfl rfl ?_
   exact ⟨hO.below, ho.fromOld hO (by decide)⟩
end Go.Proofs.Ytnddlhjafkhdoaa
