/- What leads where, in plain Lean: what is reached, users, orders. No condition. -/
import Derived.Test.YtnddlhjafkhdoaaReachPlain
import Derived.Test.YtnddlhjafkhdoaaSortPlain
set_option linter.unusedSimpArgs false
set_option linter.unusedVariables false
namespace Silo
open Go Go.Eng

abbrev Str := List UInt8
def dgOf (T : List Thg) (i : Nat) : Str := (T[i]?.map Thg.digest).getD []
def nmOf (T : List Thg) (i : Nat) : List Str := (T[i]?.map namesT).getD []
theorem dgOf_lt {T : List Thg} {i : Nat} (h : i < T.length) : dgOf T i = T[i].digest := by simp [dgOf, h]
theorem nmOf_lt {T : List Thg} {i : Nat} (h : i < T.length) : nmOf T i = namesT T[i] := by simp [nmOf, h]
theorem nmOf_ge {T : List Thg} {i : Nat} (h : T.length ≤ i) : nmOf T i = [] := by simp [nmOf, List.getElem?_eq_none h]

/-! ### Things that may be -/
theorem thgsMay_at {T : List Thg} (h : thgsMay T = true) {i : Nat} (hi : i < T.length) :
    T[i].digest.length = 32 ∧ T[i].text.length ≤ 2000 ∧ (T[i].manifest = true → (manTake T[i].text).isSome = true) ∧ (i = 0 ∨ L (dgOf T (i - 1)) T[i].digest) := by
  have h1 := (thgsMay_iff.1 h).2 i hi
  unfold thgAt at h1
  rw [List.getElem?_eq_getElem hi] at h1
  simp only [Bool.and_eq_true, Bool.or_eq_true, decide_eq_true_eq, Bool.not_eq_true'] at h1
  obtain ⟨⟨⟨h2, h3⟩, h4⟩, h5⟩ := h1
  refine ⟨h2, h3, fun hm => ?_, ?_⟩
  · rcases h5 with h5 | h5
    · rw [h5] at hm; cases hm
    · exact h5
  · rcases h4 with h4 | h4
    · exact .inl h4
    · exact .inr h4
theorem thgsMay_len {T : List Thg} (h : thgsMay T = true) : T.length ≤ 60 := (thgsMay_iff.1 h).1
/-- Rising digests. -/
def RiseT (T : List Thg) : Prop := ∀ i j (hi : i < T.length) (hj : j < T.length), i < j → L T[i].digest T[j].digest
theorem riseT_of_next {T : List Thg} (h : ∀ i (hi : i + 1 < T.length), L T[i].digest T[i + 1].digest) : RiseT T := by
  intro i j hi hj hij
  obtain ⟨k, rfl⟩ : ∃ k, j = i + 1 + k := ⟨j - (i + 1), by omega⟩
  clear hij
  induction k with
  | zero => exact h i hj
  | succ k ih => exact L_trans (ih (by omega)) (h (i + 1 + k) hj)
theorem thgsMay_rise {T : List Thg} (h : thgsMay T = true) : RiseT T := riseT_of_next fun i hi => by
  have := (thgsMay_at h hi).2.2.2
  rcases this with h1 | h1
  · omega
  · simpa [dgOf_lt (show i < T.length by omega)] using h1
theorem RiseT.inj {T : List Thg} (h : RiseT T) {i j : Nat} (hi : i < T.length) (hj : j < T.length) (e : T[i].digest = T[j].digest) : i = j := by
  rcases Nat.lt_trichotomy i j with h1 | h1 | h1
  · have := h i j hi hj h1; rw [e] at this; exact absurd this (L_irrefl _)
  · exact h1
  · have := h j i hj hi h1; rw [e] at this; exact absurd this (L_irrefl _)
theorem findT_some {T : List Thg} {d : Str} {i : Nat} (h : findT T d = some i) : ∃ hi : i < T.length, T[i].digest = d := by
  unfold findT at h
  rw [List.findIdx?_eq_some_iff_getElem] at h
  obtain ⟨hi, h1, _⟩ := h
  exact ⟨hi, by simpa using h1⟩
theorem findT_at {T : List Thg} (hr : RiseT T) {d : Str} {i : Nat} (hi : i < T.length) (h : T[i].digest = d) : findT T d = some i := by
  unfold findT
  rw [List.findIdx?_eq_some_iff_getElem]
  refine ⟨hi, by simpa using h, fun j hj => ?_⟩
  have := hr j i (by omega) hi hj
  simp only [beq_iff_eq]
  intro e
  rw [e, ← h] at this
  exact L_irrefl _ this
theorem findT_none {T : List Thg} {d : Str} (h : findT T d = none) : ∀ i (hi : i < T.length), T[i].digest ≠ d := by
  unfold findT at h
  rw [List.findIdx?_eq_none_iff] at h
  intro i hi e
  have := h _ (List.getElem_mem hi)
  simp [e] at this
theorem namesT_len (t : Thg) : (namesT t).length ≤ 20 := by
  unfold namesT
  split
  · cases hm : manTake t.text with
    | none => simp
    | some m =>
      have h1 : manMay m = true := by
        unfold manTake at hm
        split at hm
        · split at hm
          · injection hm with e; subst e; assumption
          · cases hm
        · cases hm
      simp only [manMay, Bool.and_eq_true, decide_eq_true_eq] at h1
      rw [List.length_append]; exact h1.1.1.2
  · simp
theorem nmOf_len (T : List Thg) (i : Nat) : (nmOf T i).length ≤ 20 := by
  rcases Nat.lt_or_ge i T.length with h | h
  · rw [nmOf_lt h]; exact namesT_len _
  · rw [nmOf_ge h]; simp

/-! ### What is reached -/
inductive Reach (T : List Thg) (R : List Str) : Nat → Prop
  | root {d : Str} {i : Nat} : d ∈ R → findT T d = some i → Reach T R i
  | step {i : Nat} {d : Str} {j : Nat} : Reach T R i → d ∈ nmOf T i → findT T d = some j → Reach T R j
theorem Reach.lt {T : List Thg} {R : List Str} {i : Nat} (h : Reach T R i) : i < T.length := by
  cases h with
  | root _ h => exact (findT_some h).1
  | step _ _ h => exact (findT_some h).1
open Classical in
noncomputable def reachB (T : List Thg) (R : List Str) (i : Nat) : Bool := decide (Reach T R i)
theorem reachB_iff {T : List Thg} {R : List Str} {i : Nat} : reachB T R i = true ↔ Reach T R i := by simp [reachB]
/-- The digests that roots lead to, up to the k-th thing. -/
noncomputable def fromUpTo (T : List Thg) (R : List Str) (k : Nat) : List Str := ((List.range k).filter (reachB T R)).map (dgOf T)
noncomputable def fromT (T : List Thg) (R : List Str) : List Str := fromUpTo T R T.length
theorem fromUpTo_succ (T : List Thg) (R : List Str) (k : Nat) : fromUpTo T R (k + 1) = if reachB T R k = true then fromUpTo T R k ++ [dgOf T k] else fromUpTo T R k := by
  simp only [fromUpTo, List.range_succ, List.filter_append, List.map_append]
  split
  · rename_i h; simp [h]
  · rename_i h; simp [h]
theorem mem_fromT {T : List Thg} {R : List Str} {d : Str} : d ∈ fromT T R ↔ ∃ i, Reach T R i ∧ dgOf T i = d := by
  simp only [fromT, fromUpTo, List.mem_map, List.mem_filter, List.mem_range, reachB_iff]
  exact ⟨fun ⟨i, ⟨_, h⟩, e⟩ => ⟨i, h, e⟩, fun ⟨i, h, e⟩ => ⟨i, ⟨h.lt, h⟩, e⟩⟩
theorem fromUpTo_len (T : List Thg) (R : List Str) (k : Nat) : (fromUpTo T R k).length ≤ k := by
  rw [fromUpTo, List.length_map]
  exact Nat.le_trans (List.length_filter_le _ _) (by simp)
theorem fromT_sorted {T : List Thg} (hr : RiseT T) (R : List Str) : (fromT T R).Pairwise L := by
  unfold fromT fromUpTo
  rw [List.pairwise_map]
  refine List.Pairwise.filter _ ?_
  refine List.Pairwise.imp_of_mem ?_ List.pairwise_lt_range
  intro i j hi hj hij
  have hi' := List.mem_range.1 hi
  have hj' := List.mem_range.1 hj
  rw [dgOf_lt hi', dgOf_lt hj']
  exact hr i j hi' hj' hij

/-! ### The way that things are come to -/
structure BInv (T : List Thg) (R : List Str) (seen : List Bool) (todo : List Str) : Prop where
  len : seen.length = T.length
  sound : ∀ i, seen[i]? = some true → Reach T R i
  todoOk : ∀ d ∈ todo, ∀ j, findT T d = some j → Reach T R j
  roots : ∀ d ∈ R, ∀ j, findT T d = some j → seen[j]? = some true ∨ d ∈ todo
  closed : ∀ i, seen[i]? = some true → ∀ d ∈ nmOf T i, ∀ j, findT T d = some j → seen[j]? = some true ∨ d ∈ todo
theorem BInv.start (T : List Thg) (R : List Str) : BInv T R (List.replicate T.length false) R :=
  ⟨by simp, fun i h => by simp [List.getElem?_replicate] at h, fun d hd j hj => .root hd hj, fun d hd j hj => .inr hd, fun i h => by simp [List.getElem?_replicate] at h⟩
theorem BInv.skip {T : List Thg} {R : List Str} {seen : List Bool} {d : Str} {t : List Str} (h : BInv T R seen (d :: t)) (hd : ∀ j, findT T d = some j → seen[j]? = some true) : BInv T R seen t := by
  refine ⟨h.len, h.sound, fun e he => h.todoOk e (by simp [he]), fun e he j hj => ?_, fun i hi e he j hj => ?_⟩
  · rcases h.roots e he j hj with h1 | h1
    · exact .inl h1
    · rcases List.mem_cons.1 h1 with rfl | h1
      · exact .inl (hd j hj)
      · exact .inr h1
  · rcases h.closed i hi e he j hj with h1 | h1
    · exact .inl h1
    · rcases List.mem_cons.1 h1 with rfl | h1
      · exact .inl (hd j hj)
      · exact .inr h1
theorem BInv.visit {T : List Thg} {R : List Str} {seen : List Bool} {d : Str} {t : List Str} {i : Nat} (h : BInv T R seen (d :: t)) (hd : findT T d = some i) : BInv T R (seen.set i true) (t ++ nmOf T i) := by
  have hil : i < seen.length := by rw [h.len]; exact (findT_some hd).1
  have hmono : ∀ j, seen[j]? = some true → (seen.set i true)[j]? = some true := fun j hj => by
    rw [List.getElem?_set]; split
    · simp [hil]
    · exact hj
  have hself : (seen.set i true)[i]? = some true := by simp [hil]
  refine ⟨by simpa using h.len, fun j hj => ?_, fun e he j hj => ?_, fun e he j hj => ?_, fun k hk e he j hj => ?_⟩
  · rw [List.getElem?_set] at hj
    split at hj
    · rename_i e; subst e; exact h.todoOk d (by simp) _ hd
    · exact h.sound j hj
  · rcases List.mem_append.1 he with he | he
    · exact h.todoOk e (by simp [he]) j hj
    · exact .step (h.todoOk d (by simp) i hd) he hj
  · rcases h.roots e he j hj with h1 | h1
    · exact .inl (hmono j h1)
    · rcases List.mem_cons.1 h1 with rfl | h1
      · rw [hd] at hj; injection hj with e; subst e; exact .inl hself
      · exact .inr (by simp [h1])
  · by_cases hik : i = k
    · subst hik; exact .inr (by simp [he])
    · rw [List.getElem?_set_ne hik] at hk
      rcases h.closed k hk e he j hj with h1 | h1
      · exact .inl (hmono j h1)
      · rcases List.mem_cons.1 h1 with rfl | h1
        · rw [hd] at hj; injection hj with e; subst e; exact .inl hself
        · exact .inr (by simp [h1])
theorem BInv.done {T : List Thg} {R : List Str} {seen : List Bool} (h : BInv T R seen []) (i : Nat) : seen[i]? = some true ↔ Reach T R i := by
  refine ⟨h.sound i, fun hr => ?_⟩
  induction hr with
  | root hd hf => exact (h.roots _ hd _ hf).resolve_right (by simp)
  | step _ hd hf ih => exact (h.closed _ ih _ hd _ hf).resolve_right (by simp)
theorem BInv.done_get {T : List Thg} {R : List Str} {seen : List Bool} (h : BInv T R seen []) {i : Nat} (hi : i < seen.length) : seen[i] = reachB T R i := by
  have := h.done i
  rw [List.getElem?_eq_getElem hi, Option.some.injEq] at this
  cases hb : seen[i] with
  | true => rw [hb] at this; exact (reachB_iff.2 (this.1 rfl)).symm
  | false =>
    cases hc : reachB T R i with
    | false => rfl
    | true => rw [hb] at this; have := this.2 (reachB_iff.1 hc); cases this
/-- What is still to be done. -/
def bLeft (seen : List Bool) (todo : List Str) : Nat := todo.length + 21 * (seen.count false)
theorem count_set_false {seen : List Bool} {i : Nat} (hi : i < seen.length) (h : seen[i] = false) : (seen.set i true).count false + 1 = seen.count false := by
  rw [List.count_set]
  · have : 0 < seen.count false := List.count_pos_iff.2 (h ▸ List.getElem_mem hi)
    simp [h]; omega
  · exact hi
theorem bLeft_visit {T : List Thg} {seen : List Bool} {d : Str} {t : List Str} {i : Nat} (hi : i < seen.length) (h : seen[i] = false) : bLeft (seen.set i true) (t ++ nmOf T i) < bLeft seen (d :: t) := by
  have h1 := count_set_false hi h
  have h2 := nmOf_len T i
  simp only [bLeft, List.length_append, List.length_cons]
  omega
/-- Behind the way: what was come to, in some order. -/
structure BOrd (seen : List Bool) (ord : List Nat) : Prop where
  nodup : ord.Nodup
  mem : ∀ i, i ∈ ord ↔ seen[i]? = some true
theorem BOrd.start (n : Nat) : BOrd (List.replicate n false) [] := ⟨List.nodup_nil, fun i => by simp [List.getElem?_replicate]⟩
theorem BOrd.visit {seen : List Bool} {ord : List Nat} (h : BOrd seen ord) {i : Nat} (hi : i < seen.length) (hs : seen[i] = false) : BOrd (seen.set i true) (ord ++ [i]) := by
  refine ⟨?_, fun j => ?_⟩
  · rw [List.nodup_append]
    refine ⟨h.nodup, by simp, fun a ha b hb => ?_⟩
    simp only [List.mem_singleton] at hb
    subst hb
    intro e
    subst e
    rw [h.mem, List.getElem?_eq_getElem hi, hs] at ha
    cases ha
  · rw [List.mem_append, h.mem, List.getElem?_set]
    by_cases e : i = j
    · subst e; simp [hi]
    · simp [e]; intro e'; exact absurd e'.symm e
theorem nodup_map_dg {T : List Thg} (hr : RiseT T) : ∀ (ord : List Nat), ord.Nodup → (∀ i ∈ ord, i < T.length) → (ord.map (dgOf T)).Nodup
  | [], _, _ => List.nodup_nil
  | i :: r, hn, hl => by
    rw [List.nodup_cons] at hn
    rw [List.map_cons, List.nodup_cons]
    refine ⟨fun hm => ?_, nodup_map_dg hr r hn.2 fun j hj => hl j (by simp [hj])⟩
    obtain ⟨j, hj, e⟩ := List.mem_map.1 hm
    have hi' := hl i (by simp)
    have hj' := hl j (by simp [hj])
    rw [dgOf_lt hi', dgOf_lt hj'] at e
    have := hr.inj hj' hi' e
    subst this
    exact hn.1 hj
theorem pairwise_le_ne {l : List Str} (h1 : l.Pairwise fun x y => decide (x ≤ y) = true) (h2 : l.Nodup) : l.Pairwise L := by
  have := h1.and h2
  refine this.imp ?_
  rintro a b ⟨ha, hne⟩
  rw [L_le] at ha
  exact Classical.byContradiction fun hn => hne (L_anti hn (by unfold L; simpa using ha))
/-- What was come to, sorted. -/
theorem sorted_from {T : List Thg} (hr : RiseT T) {R : List Str} {seen : List Bool} {ord : List Nat} (hI : BInv T R seen []) (hO : BOrd seen ord) : (ord.map (dgOf T)).mergeSort (fun x y => decide (x ≤ y)) = fromT T R := by
  have hlt : ∀ i ∈ ord, i < T.length := fun i hi => ((hI.done i).1 ((hO.mem i).1 hi)).lt
  refine sorted_unique _ _ (pairwise_le_ne ?_ ?_) (fromT_sorted hr R) fun a => ?_
  · refine List.pairwise_mergeSort ?_ ?_ _
    · intro a b c h1 h2
      rw [L_le] at h1 h2 ⊢
      have := nL_trans (a := a) (b := b) (c := c) (by unfold L; simpa using h1) (by unfold L; simpa using h2)
      unfold L at this; simpa using this
    · intro a b
      rw [L_le, L_le]
      cases h : Op.bytesLess b a with
      | false => rfl
      | true => rw [less_asymm _ _ h]; rfl
  · exact (List.mergeSort_perm _ _).nodup_iff.2 (nodup_map_dg hr ord hO.nodup hlt)
  · rw [(List.mergeSort_perm _ _).mem_iff, List.mem_map, mem_fromT]
    exact ⟨fun ⟨i, hi, e⟩ => ⟨i, (hI.done i).1 ((hO.mem i).1 hi), e⟩, fun ⟨i, hi, e⟩ => ⟨i, (hO.mem i).2 ((hI.done i).2 hi), e⟩⟩

/-! ### The order in which things are come to -/
def bfsGo (T : List Thg) : Nat → List Bool → List Str → List Nat
  | 0, _, _ => []
  | _ + 1, _, [] => []
  | k + 1, seen, d :: t => match findT T d with
    | none => bfsGo T k seen t
    | some i => if seen[i]?.getD true = true then bfsGo T k seen t else i :: bfsGo T k (seen.set i true) (t ++ nmOf T i)
theorem seen_false {seen : List Bool} {i : Nat} (h : ¬ seen[i]?.getD true = true) : ∃ hi : i < seen.length, seen[i] = false := by
  rcases Nat.lt_or_ge i seen.length with h1 | h1
  · refine ⟨h1, ?_⟩
    rw [List.getElem?_eq_getElem h1] at h
    simpa using h
  · rw [List.getElem?_eq_none h1] at h
    exact absurd rfl h
theorem bfsGo_enough (T : List Thg) : ∀ (k m : Nat) (seen : List Bool) (todo : List Str), bLeft seen todo < k → bLeft seen todo < m → bfsGo T k seen todo = bfsGo T m seen todo
  | k + 1, m + 1, _, [], _, _ => rfl
  | k + 1, m + 1, seen, d :: t, hk, hm => by
    have e : bLeft seen (d :: t) = bLeft seen t + 1 := by simp [bLeft]; omega
    unfold bfsGo
    cases hf : findT T d with
    | none => exact bfsGo_enough T k m seen t (by omega) (by omega)
    | some i =>
      by_cases hs : seen[i]?.getD true = true
      · simp only [hs, if_true]
        exact bfsGo_enough T k m seen t (by omega) (by omega)
      · simp only [hs, Bool.false_eq_true, if_false]
        obtain ⟨hi, h0⟩ := seen_false hs
        have := bLeft_visit (T := T) (d := d) (t := t) hi h0
        rw [bfsGo_enough T k m _ _ (by omega) (by omega)]
def bfsL (T : List Thg) (seen : List Bool) (todo : List Str) : List Nat := bfsGo T (bLeft seen todo + 1) seen todo
theorem bfsL_nil (T : List Thg) (seen : List Bool) : bfsL T seen [] = [] := rfl
theorem bfsL_skip {T : List Thg} {seen : List Bool} {d : Str} {t : List Str} (h : ∀ i, findT T d = some i → seen[i]?.getD true = true) : bfsL T seen (d :: t) = bfsL T seen t := by
  have e : bLeft seen (d :: t) = bLeft seen t + 1 := by simp [bLeft]; omega
  unfold bfsL
  rw [bfsGo, e]
  cases hf : findT T d with
  | none => rfl
  | some i => simp only [h i hf, if_true]
theorem bfsL_visit {T : List Thg} {seen : List Bool} {d : Str} {t : List Str} {i : Nat} (hf : findT T d = some i) (hi : i < seen.length) (h0 : seen[i] = false) : bfsL T seen (d :: t) = i :: bfsL T (seen.set i true) (t ++ nmOf T i) := by
  have hs : ¬ seen[i]?.getD true = true := by rw [List.getElem?_eq_getElem hi]; simp [h0]
  have h1 := bLeft_visit (T := T) (d := d) (t := t) hi h0
  unfold bfsL
  rw [bfsGo, hf]
  simp only [hs, Bool.false_eq_true, if_false]
  rw [bfsGo_enough T (bLeft seen (d :: t)) (bLeft (seen.set i true) (t ++ nmOf T i) + 1) (seen.set i true) (t ++ nmOf T i) (by omega) (by omega)]
theorem bfsGo_end (T : List Thg) (R : List Str) : ∀ (k : Nat) (seen : List Bool) (todo : List Str) (pre : List Nat), bLeft seen todo < k → BInv T R seen todo → BOrd seen pre → ∃ seen', BInv T R seen' [] ∧ BOrd seen' (pre ++ bfsGo T k seen todo) ∧ (bfsGo T k seen todo).length ≤ bLeft seen todo
  | k + 1, seen, [], pre, _, hI, hO => ⟨seen, hI, by simpa [bfsGo] using hO, by simp [bfsGo]⟩
  | k + 1, seen, d :: t, pre, hk, hI, hO => by
    have e : bLeft seen (d :: t) = bLeft seen t + 1 := by simp [bLeft]; omega
    unfold bfsGo
    cases hf : findT T d with
    | none =>
      obtain ⟨s', h1, h2, h3⟩ := bfsGo_end T R k seen t pre (by omega) (hI.skip fun j hj => by rw [hf] at hj; cases hj) hO
      exact ⟨s', h1, h2, by show (bfsGo T k seen t).length ≤ _; omega⟩
    | some i =>
      by_cases hs : seen[i]?.getD true = true
      · simp only [hs, if_true]
        have hil : i < seen.length := by rw [hI.len]; exact (findT_some hf).1
        obtain ⟨s', h1, h2, h3⟩ := bfsGo_end T R k seen t pre (by omega) (hI.skip fun j hj => by
          rw [hf] at hj; injection hj with hj; subst hj
          rw [List.getElem?_eq_getElem hil] at hs ⊢
          simpa using hs) hO
        exact ⟨s', h1, h2, by omega⟩
      · simp only [hs, Bool.false_eq_true, if_false]
        obtain ⟨hi, h0⟩ := seen_false hs
        have h1 := bLeft_visit (T := T) (d := d) (t := t) hi h0
        obtain ⟨s', h2, h3, h4⟩ := bfsGo_end T R k (seen.set i true) (t ++ nmOf T i) (pre ++ [i]) (by omega) (hI.visit hf) (hO.visit hi h0)
        exact ⟨s', h2, by simpa using h3, by rw [List.length_cons]; omega⟩
/-- All that roots lead to, in the order in which they are come to. -/
def ordR (T : List Thg) (R : List Str) : List Nat := bfsL T (List.replicate T.length false) R
theorem ordR_spec {T : List Thg} (R : List Str) : ∃ seen, BInv T R seen [] ∧ BOrd seen (ordR T R) ∧ (ordR T R).length ≤ R.length + 21 * T.length := by
  obtain ⟨s', h1, h2, h3⟩ := bfsGo_end T R _ _ R [] (Nat.lt_succ_self _) (BInv.start T R) (BOrd.start T.length)
  refine ⟨s', h1, by simpa [ordR, bfsL] using h2, Nat.le_trans h3 ?_⟩
  simp [bLeft, List.count_replicate_self]
theorem ordR_lt {T : List Thg} {R : List Str} : ∀ i ∈ ordR T R, i < T.length := fun i hi => by
  obtain ⟨s, h1, h2, _⟩ := ordR_spec (T := T) R
  exact ((h1.done i).1 ((h2.mem i).1 hi)).lt
theorem ordR_sorted {T : List Thg} (hr : RiseT T) (R : List Str) : ((ordR T R).map (dgOf T)).mergeSort (fun x y => decide (x ≤ y)) = fromT T R := by
  obtain ⟨s, h1, h2, _⟩ := ordR_spec (T := T) R
  exact sorted_from hr h1 h2

/-! ### Users -/
def usersT (T : List Thg) (d : Str) : List Str := (T.filter fun t => (namesT t).contains d).map Thg.digest
theorem usersT_succ {T : List Thg} {d : Str} {k : Nat} (hk : k < T.length) : usersT (T.take (k + 1)) d = if (namesT T[k]).contains d = true then usersT (T.take k) d ++ [T[k].digest] else usersT (T.take k) d := by
  simp only [usersT, List.take_succ_eq_append_getElem hk, List.filter_append, List.map_append]
  split
  · rename_i h
    have h' : d ∈ namesT T[k] := by simpa using h
    simp [List.filter_cons, h']
  · rename_i h
    have h' : d ∉ namesT T[k] := by simpa using h
    simp [List.filter_cons, h']
theorem usersT_len (T : List Thg) (d : Str) : (usersT T d).length ≤ T.length := by rw [usersT, List.length_map]; exact List.length_filter_le _ _

/-! ### Orders -/
/-- Is all told that the i-th thing names? -/
def readyT (T : List Thg) (told : List Nat) (i : Nat) : Bool := (nmOf T i).all fun d => match findT T d with | none => true | some k => decide (k ∈ told)
/-- Which one is next? -/
def nextT (T : List Thg) (told : List Nat) : Option Nat := (List.range T.length).find? fun i => !decide (i ∈ told) && readyT T told i
theorem nextT_some {T : List Thg} {told : List Nat} {i : Nat} (h : nextT T told = some i) : i < T.length ∧ i ∉ told ∧ readyT T told i = true := by
  unfold nextT at h
  have h1 := List.find?_some h
  have h2 := List.mem_of_find?_eq_some h
  simp only [Bool.and_eq_true, Bool.not_eq_true', decide_eq_false_iff_not] at h1
  exact ⟨List.mem_range.1 h2, h1.1, h1.2⟩
/-- The first that may be told, where none ahead may. -/
theorem nextT_at {T : List Thg} {told : List Nat} {i : Nat} (hi : i < T.length) (h1 : i ∉ told) (h2 : readyT T told i = true) (h3 : ∀ j, j < i → j ∈ told ∨ readyT T told j = false) : nextT T told = some i := by
  unfold nextT
  rw [List.find?_range_eq_some]
  refine ⟨by simp [h1, h2], by simpa using hi, fun j hj => ?_⟩
  rcases h3 j hj with h | h <;> simp [h]
theorem nextT_none {T : List Thg} {told : List Nat} (h3 : ∀ j, j < T.length → j ∈ told ∨ readyT T told j = false) : nextT T told = none := by
  unfold nextT
  rw [List.find?_range_eq_none]
  intro j hj
  rcases h3 j hj with h | h <;> simp [h]
def orderGo (T : List Thg) : Nat → List Nat → Option (List Nat)
  | 0, told => some told
  | k + 1, told => match nextT T told with
    | none => none
    | some i => orderGo T k (told ++ [i])
def orderT (T : List Thg) : Option (List Str) := (orderGo T T.length []).map fun o => o.map (dgOf T)
end Silo
