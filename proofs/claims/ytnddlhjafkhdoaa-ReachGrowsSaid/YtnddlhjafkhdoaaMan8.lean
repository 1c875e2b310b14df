/- Manifests: sorting, compacting. No condition. -/
import Derived.Test.YtnddlhjafkhdoaaMan7
import Derived.Test.YtnddlhjafkhdoaaSortPlain
import Derived.Sort.OwnSorted
set_option linter.unusedSimpArgs false
set_option linter.unusedVariables false
set_option maxRecDepth 100000
namespace Go.Eng
open Go Go.RowKit Go.Sort Go.Proofs Silo
theorem Eff.grownO {P : Program} {env : Env} {w : World} {ty : TypeId} {op : Op} {c : Nat → Nat} {i n size : Nat} {e : TypeId} {u : Value} {xs : List Value} {R : Value → World → Prop} (ho : OwnC c w i e size u n xs) (h : Eff P env w op ty (fun v w' => w.grownBy w' u.rowOf ∧ R v w')) :
    Eff P env w op ty (fun v w' => ∃ c', Mv c w c' w' [i] ∧ (∀ k, u.rowOf = some k → c' k = i) ∧ R v w') := h.mono fun v w' ⟨hg, hr⟩ => by
  obtain ⟨c', hm, _⟩ := Mv.grown c i hg ho.col
  exact ⟨c', hm, fun k hk => (hm.col k (ho.own.lt k hk).2).trans (ho.col k hk), hr⟩
theorem flatEnc (l : List (List UInt8)) : l.flatMap (fun x => [St x]) = l.map encStr := by rw [← flatSt]; rfl
theorem Own.holds {w : World} {base : Nat} {e : TypeId} {v : Value} {ss : List (List UInt8)} (h : Own w base e 1 v ss.length (ss.flatMap fun x => [St x])) :
    (ss = [] ∧ ∃ A cap, v = .slice A 0 cap ∧ (cap = 0 ∨ ∃ g, A = some ⟨g, 0, none⟩)) ∨ (∃ g cap cur fz, v = .slice (some ⟨g, 0, none⟩) ss.length cap ∧ base ≤ g ∧ w.heap[g]? = some (.cells cur e fz) ∧ (fz.1 < fz.2 → cur.size ≤ fz.1) ∧ ss.length ≤ cap ∧ cap ≤ maxLen ∧ cur.size = cap ∧ 0 < cap ∧ Holds encStr w g 0 ss.toArray ∧ 0 < ss.length) := by
  rcases Nat.eq_zero_or_pos ss.length with h0 | h0
  · have : ss = [] := List.eq_nil_of_length_eq_zero h0
    subst this
    left
    rcases h.2 with ⟨_, A, rfl⟩ | ⟨g, cap, cur, fz, rfl, _⟩
    · exact ⟨rfl, A, 0, rfl, .inl rfl⟩
    · exact ⟨rfl, _, cap, rfl, .inr ⟨g, rfl⟩⟩
  · right
    rcases h.2 with ⟨h1, _⟩ | ⟨g, cap, cur, fz, rfl, hb, h2, h3, h4, h5, h6, h7, h8⟩
    · omega
    · refine ⟨g, cap, cur, fz, rfl, hb, h2, h3, h4, h5, by omega, h8, fun j hj => ?_, h0⟩
      have hj' : j < ss.length := by simpa using hj
      constructor
      · rw [flatEnc, Nat.mul_one] at h7
        have h9 : (cur.toList.take ss.length)[j]? = (ss.map encStr)[j]? := by rw [h7]
        rw [List.getElem?_take_of_lt hj'] at h9
        simp only [World.cell?, h2, Nat.zero_add]
        simp only [Option.isSome_none, Bool.false_eq_true, if_false]
        rw [← Array.getElem?_toList, h9]
        simp [hj']
      · obtain ⟨lo, hi⟩ := fz
        simp [World.frozen?, h2]
        intro hlo
        rcases Nat.lt_or_ge lo hi with h9 | h9
        · have := h3 h9; simp at this; omega
        · omega
theorem putCells_size (cur : Array Value) (d : Array (List UInt8)) : (putCells encStr 0 d cur).size = cur.size := by simp [putCells]
end Go.Eng
namespace Go.Proofs.Ytnddlhjafkhdoaa
open Go Go.Eng Go.RowKit Go.Sort Silo TryT

theorem sortStrs_ok {w : World} {base : Nat} {v : Value} {ss : List (List UInt8)} (h : Own w base 9 1 v ss.length (ss.flatMap fun x => [St x])) (hsm : ss.length < 4611686018427387904) :
    Calls Try.prog 117 #[v] w (Ret fun _ w' => w.grownBy w' v.rowOf ∧ Own w' base 9 1 v (ss.mergeSort fun x y => decide (x ≤ y)).length ((ss.mergeSort fun x y => decide (x ≤ y)).flatMap fun x => [St x])) := by
  rcases h.holds with ⟨rfl, A, cap, rfl, _⟩ | ⟨g, cap, cur, fz, rfl, hb, h2, h3, h4, h5, h6, h8, hH, h0⟩
  · refine (Try.slices_Sort_string_none A cap w).mono fun e w' he => ?_
    obtain ⟨rfl, rfl⟩ := he
    exact ⟨_, rfl, ⟨rfl, rfl, rfl, Nat.le_refl _, fun _ _ _ => rfl⟩, by simpa using h⟩
  · refine (Try.slices_Sort_string g 0 cap ss w hH (Array.getElem?_eq_some_iff.1 h2).1 hsm).mono fun e w' he => ?_
    obtain ⟨rfl, n, os, rfl⟩ := he
    have hl : (ss.mergeSort fun x y => decide (x ≤ y)).length = ss.length := List.length_mergeSort _
    refine ⟨_, rfl, by rw [rowOf_slice h8]; exact grownBy_sorted _, ?_⟩
    rw [hl]
    refine ⟨by rw [flatEnc]; simp [hl], .inr ⟨g, cap, _, fz, rfl, hb, heap_sorted _ h2, ?_, h4, h5, ?_, ?_, h8⟩⟩
    · rw [putCells_size]; exact h3
    · rw [putCells_size]; omega
    · rw [flatEnc, Nat.mul_one, ← hl]; exact take_putCells cur _ (by omega)
theorem compactStrs_ok {w : World} {base : Nat} {v : Value} {ss : List (List UInt8)} (h : Own w base 9 1 v ss.length (ss.flatMap fun x => [St x])) (hsm : ss.length < 4611686018427387904) :
    Calls Try.prog 118 #[v] w (Ret fun v' w' => w.grownBy w' v.rowOf ∧ v'.rowOf = v.rowOf ∧ Own w' base 9 1 v' (Lib.compact ss).length ((Lib.compact ss).flatMap fun x => [St x])) := by
  rcases h.holds with ⟨rfl, A, cap, rfl, _⟩ | ⟨g, cap, cur, fz, rfl, hb, h2, h3, h4, h5, h6, h8, hH, h0⟩
  · refine (Try.slices_Compact_string_empty A cap w).mono fun e w' he => ?_
    obtain ⟨rfl, rfl⟩ := he
    exact ⟨_, rfl, ⟨rfl, rfl, rfl, Nat.le_refl _, fun _ _ _ => rfl⟩, rfl, by simpa [Lib.compact, Lib.compactUpTo] using h⟩
  · refine (Try.slices_Compact_string g 0 cap ss w hH (by omega) h4).mono fun e w' he => ?_
    obtain ⟨rfl, q, rfl⟩ := he
    have hl := Lib.compact_length_le ss
    have hg := @grownBy_sorted w g q #[] (Lib.compact ss ++ List.replicate (ss.length - (Lib.compact ss).length) []).toArray
    have hh := @heap_sorted w g q #[] cur 9 fz (Lib.compact ss ++ List.replicate (ss.length - (Lib.compact ss).length) []).toArray h2
    rw [grow_empty] at hg hh
    have hll : (Lib.compact ss ++ List.replicate (ss.length - (Lib.compact ss).length) []).length = ss.length := by rw [List.length_append, List.length_replicate]; omega
    refine ⟨_, rfl, by rw [rowOf_slice h8]; exact hg, by rw [rowOf_slice h8, rowOf_slice h8], ⟨by rw [flatEnc]; simp, .inr ⟨g, cap, _, fz, rfl, hb, hh, ?_, by omega, h5, ?_, ?_, h8⟩⟩⟩
    · rw [putCells_size]; exact h3
    · rw [putCells_size]; omega
    · have h9 := take_putCells cur (Lib.compact ss ++ List.replicate (ss.length - (Lib.compact ss).length) []) (by omega)
      rw [flatEnc, Nat.mul_one]
      have h10 := congrArg (List.take (Lib.compact ss).length) h9
      rw [List.take_take, hll, Nat.min_eq_left hl, List.map_append, List.take_left' (by simp)] at h10
      exact h10
end Go.Proofs.Ytnddlhjafkhdoaa
