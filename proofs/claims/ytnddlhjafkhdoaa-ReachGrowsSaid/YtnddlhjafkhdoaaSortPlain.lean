/- Sorted texts, each once, in plain Lean. No condition. -/
import Derived.Test.YtnddlhjafkhdoaaOrd
import Derived.Lib.SlicesCompact
set_option linter.unusedSimpArgs false
set_option linter.unusedVariables false
namespace Silo
open Go Go.Eng
abbrev L (a b : List UInt8) : Prop := Op.bytesLess a b = true
theorem L_lt : ∀ a b : List UInt8, L a b ↔ a < b
  | [], [] => by simp [L, Op.bytesLess]
  | [], _ :: _ => by simp [L, Op.bytesLess]
  | _ :: _, [] => by simp [L, Op.bytesLess]
  | x :: a, y :: b => by
    simp only [L, Op.bytesLess, Bool.or_eq_true, decide_eq_true_eq, Bool.and_eq_true, beq_iff_eq, List.cons_lt_cons_iff]
    rw [show (Op.bytesLess a b = true ↔ a < b) from L_lt a b]
theorem L_le (a b : List UInt8) : decide (a ≤ b) = !Op.bytesLess b a := by
  rw [Bool.eq_iff_iff]
  simp only [decide_eq_true_eq, Bool.not_eq_true', ← Bool.not_eq_true]
  rw [show (Op.bytesLess b a = true ↔ b < a) from L_lt b a]
  exact List.not_lt.symm
theorem L_irrefl (a : List UInt8) : ¬ L a a := by unfold L; rw [less_irrefl]; decide
theorem L_asymm {a b : List UInt8} (h : L a b) : ¬ L b a := by unfold L; rw [less_asymm a b h]; decide
theorem L_trans {a b c : List UInt8} (h : L a b) (h' : L b c) : L a c := less_trans a b c h h'
theorem L_total {a b : List UInt8} (h : ¬ L a b) (hne : a ≠ b) : L b a := less_total a b (by simpa using h) hne
/-- Neither is above the other: they are one. -/
theorem L_anti {a b : List UInt8} (h : ¬ L a b) (h' : ¬ L b a) : a = b := Classical.byContradiction fun hne => h' (L_total h hne)
theorem nL_trans {a b c : List UInt8} (h : ¬ L b a) (h' : ¬ L c b) : ¬ L c a := fun hc => by
  by_cases e : a = b
  · subst e; exact h' hc
  · have h1 : L a b := L_total h (Ne.symm e)
    exact h' (L_trans hc h1)
/-- One order, one set: one list. -/
theorem sorted_unique : ∀ (x y : List (List UInt8)), x.Pairwise L → y.Pairwise L → (∀ a, a ∈ x ↔ a ∈ y) → x = y
  | [], [], _, _, _ => rfl
  | [], b :: y, _, _, h => by have := (h b).2 (by simp); cases this
  | a :: x, [], _, _, h => by have := (h a).1 (by simp); cases this
  | a :: x, b :: y, hx, hy, h => by
    rw [List.pairwise_cons] at hx hy
    have hab : a = b := by
      apply Classical.byContradiction
      intro hne
      have h1 : a ∈ y := by
        rcases List.mem_cons.1 ((h a).1 (by simp)) with e | e
        · exact (hne e).elim
        · exact e
      have h2 : b ∈ x := by
        rcases List.mem_cons.1 ((h b).2 (by simp)) with e | e
        · exact (hne e.symm).elim
        · exact e
      exact L_asymm (hx.1 b h2) (hy.1 a h1)
    subst hab
    congr 1
    refine sorted_unique x y hx.2 hy.2 fun c => ⟨fun hc => ?_, fun hc => ?_⟩
    · rcases List.mem_cons.1 ((h c).1 (by simp [hc])) with e | e
      · subst e; exact (L_irrefl _ (hx.1 c hc)).elim
      · exact e
    · rcases List.mem_cons.1 ((h c).2 (by simp [hc])) with e | e
      · subst e; exact (L_irrefl _ (hy.1 c hc)).elim
      · exact e
/-- Sorted, each once. -/
def riseS (l : List (List UInt8)) : List (List UInt8) := Lib.compact (l.mergeSort fun x y => decide (x ≤ y))
theorem compactUpTo_spec (d : Array (List UInt8)) (hd : ∀ j k, j ≤ k → k < d.size → ¬ L d[k]! d[j]!) : ∀ m, m ≤ d.size →
    (Lib.compactUpTo d m).Pairwise L ∧ (∀ a, a ∈ Lib.compactUpTo d m ↔ ∃ j, j < m ∧ a = d[j]!)
  | 0, _ => ⟨by simp [Lib.compactUpTo], fun a => by simp [Lib.compactUpTo]⟩
  | m + 1, hm => by
    obtain ⟨h1, h2⟩ := compactUpTo_spec d hd m (by omega)
    rw [Lib.compactUpTo_succ]
    by_cases hk : Lib.keeps d m = true
    · rw [if_pos hk]
      refine ⟨List.pairwise_append.2 ⟨h1, by simp, fun a ha b hb => ?_⟩, fun a => ?_⟩
      · simp at hb
        subst hb
        obtain ⟨j, hj, rfl⟩ := (h2 a).1 ha
        apply Classical.byContradiction
        intro hn
        have e : d[j]! = d[m]! := L_anti hn (hd j m (by omega) (by omega))
        have hm1 : d[m]! ≠ d[m - 1]! := by
          simp only [Lib.keeps, decide_eq_true_eq] at hk
          rcases hk with hk | hk
          · omega
          · exact hk
        have h3 := hd j (m - 1) (by omega) (by omega)
        have h4 := hd (m - 1) m (by omega) (by omega)
        rw [e] at h3
        exact hm1 (L_anti h4 h3)
      · rw [List.mem_append, h2]
        constructor
        · rintro (⟨j, hj, rfl⟩ | h)
          · exact ⟨j, by omega, rfl⟩
          · simp at h; exact ⟨m, by omega, h⟩
        · rintro ⟨j, hj, rfl⟩
          rcases Nat.lt_or_ge j m with h | h
          · exact .inl ⟨j, h, rfl⟩
          · have : j = m := by omega
            subst this; exact .inr (by simp)
    · rw [if_neg hk, List.append_nil]
      refine ⟨h1, fun a => ?_⟩
      rw [h2]
      constructor
      · rintro ⟨j, hj, rfl⟩; exact ⟨j, by omega, rfl⟩
      · rintro ⟨j, hj, rfl⟩
        rcases Nat.lt_or_ge j m with h | h
        · exact ⟨j, h, rfl⟩
        · have : j = m := by omega
          subst this
          have hm1 : j ≠ 0 ∧ d[j]! = d[j - 1]! := by
            simp only [Lib.keeps, decide_eq_true_eq] at hk
            exact ⟨fun h => hk (.inl h), Classical.byContradiction fun h => hk (.inr h)⟩
          exact ⟨j - 1, by omega, hm1.2⟩
theorem riseS_spec (l : List (List UInt8)) : (riseS l).Pairwise L ∧ ∀ a, a ∈ riseS l ↔ a ∈ l := by
  have hs : (l.mergeSort fun x y => decide (x ≤ y)).Pairwise fun a b => decide (a ≤ b) = true := List.pairwise_mergeSort (fun a b c h h' => by
      rw [L_le] at h h' ⊢
      simp only [Bool.not_eq_true', ← Bool.not_eq_true] at h h' ⊢
      exact nL_trans h h') (fun a b => by
      rw [L_le, L_le]
      by_cases h : L a b
      · have := L_asymm h
        simp only [L] at h this
        simp [h, this]
      · simp only [L] at h
        simp [h]) l
  have hm : ∀ a, a ∈ (l.mergeSort fun x y => decide (x ≤ y)) ↔ a ∈ l := fun a => (List.mergeSort_perm l _).mem_iff
  unfold riseS Lib.compact
  generalize l.mergeSort (fun x y => decide (x ≤ y)) = s at hs hm ⊢
  have hd : ∀ j k, j ≤ k → k < s.toArray.size → ¬ L (s.toArray[k]!) (s.toArray[j]!) := fun j k hj hk => by
    have hk' : k < s.length := by simpa using hk
    rw [getElem!_pos s.toArray k hk, getElem!_pos s.toArray j (by omega)]
    simp only [List.getElem_toArray]
    rcases Nat.eq_or_lt_of_le hj with rfl | hj
    · exact L_irrefl _
    · have := List.pairwise_iff_getElem.1 hs j k (by omega) hk' hj
      rw [L_le] at this
      simpa [L] using this
  obtain ⟨h1, h2⟩ := compactUpTo_spec s.toArray hd s.length (by simp)
  refine ⟨h1, fun a => ?_⟩
  rw [h2, ← hm, List.mem_iff_getElem]
  constructor
  · rintro ⟨j, hj, rfl⟩
    exact ⟨j, hj, by rw [getElem!_pos s.toArray j (by simpa using hj)]; simp⟩
  · rintro ⟨j, hj, rfl⟩
    exact ⟨j, hj, by rw [getElem!_pos s.toArray j (by simpa using hj)]; simp⟩
theorem riseS_eq {l x : List (List UInt8)} (h1 : x.Pairwise L) (h2 : ∀ a, a ∈ x ↔ a ∈ l) : x = riseS l :=
  sorted_unique _ _ h1 (riseS_spec l).1 fun a => (h2 a).trans ((riseS_spec l).2 a).symm
theorem riseS_riseS (l : List (List UInt8)) : riseS (riseS l) = riseS l := (riseS_eq (riseS_spec l).1 fun _ => Iff.rfl).symm
theorem risingB_riseS (l : List (List UInt8)) : risingB (riseS l) = l.all fun x => decide (x.length = 32) := by
  obtain ⟨h1, h2⟩ := riseS_spec l
  rw [Bool.eq_iff_iff, risingB_iff]
  simp only [List.all_eq_true, decide_eq_true_eq]
  constructor
  · intro h x hx
    obtain ⟨i, hi, rfl⟩ := List.mem_iff_getElem.1 ((h2 x).2 hx)
    have := h i hi
    simp only [digAt, Bool.and_eq_true, decide_eq_true_eq, getD_lt hi] at this
    exact this.1
  · intro h i hi
    simp only [digAt, Bool.and_eq_true, decide_eq_true_eq, getD_lt hi, Bool.or_eq_true]
    refine ⟨h _ ((h2 _).1 (List.getElem_mem hi)), ?_⟩
    rcases Nat.eq_zero_or_pos i with h0 | h0
    · exact .inl h0
    · right
      rw [getD_lt (show i - 1 < (riseS l).length by omega)]
      exact List.pairwise_iff_getElem.1 h1 (i - 1) i (by omega) hi (by omega)
theorem riseS_len (l : List (List UInt8)) : (riseS l).length ≤ l.length := by
  unfold riseS Lib.compact Lib.compactUpTo
  rw [List.length_map]
  refine Nat.le_trans (List.length_filter_le _ _) ?_
  simp [List.length_mergeSort]
/-- A text laid in at its place. -/
theorem rise_insert {x : List (List UInt8)} {t : List UInt8} {k : Nat} (hx : x.Pairwise L) (hk : k ≤ x.length) (h1 : ∀ j (hj : j < x.length), j < k → L x[j] t) (h2 : ∀ hk' : k < x.length, L t x[k]) : (x.take k ++ [t] ++ x.drop k).Pairwise L := by
  have hd : ∀ b ∈ x.drop k, L t b := fun b hb => by
    obtain ⟨j, hj, rfl⟩ := List.mem_iff_getElem.1 hb
    rw [List.length_drop] at hj
    rw [List.getElem_drop]
    rcases Nat.eq_zero_or_pos j with h0 | h0
    · subst h0; exact h2 (by omega)
    · exact L_trans (h2 (by omega)) (List.pairwise_iff_getElem.1 hx k (k + j) (by omega) (by omega) (by omega))
  have ht : ∀ a ∈ x.take k, L a t := fun a ha => by
    obtain ⟨j, hj, rfl⟩ := List.mem_iff_getElem.1 ha
    rw [List.length_take] at hj
    rw [List.getElem_take]
    exact h1 j (by omega) (by omega)
  have hp : (x.take k ++ x.drop k).Pairwise L := by rw [List.take_append_drop]; exact hx
  rw [List.pairwise_append] at hp
  rw [List.append_assoc, List.pairwise_append]
  refine ⟨hp.1, List.pairwise_append.2 ⟨by simp, hp.2.1, fun a ha b hb => ?_⟩, fun a ha b hb => ?_⟩
  · simp at ha; subst ha; exact hd b hb
  · rcases List.mem_append.1 hb with hb | hb
    · simp at hb; subst hb; exact ht a ha
    · exact hp.2.2 a ha b hb
end Silo
