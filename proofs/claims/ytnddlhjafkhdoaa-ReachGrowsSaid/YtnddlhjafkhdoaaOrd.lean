/- The order of texts; digests in a list. No condition. -/
import Derived.Test.YtnddlhjafkhdoaaSl
import Derived.Test.YtnddlhjafkhdoaaRecSpec
set_option linter.unusedSimpArgs false
set_option linter.unusedVariables false
namespace Silo
open Go Go.Eng

theorem less_irrefl : ∀ l : List UInt8, Op.bytesLess l l = false
  | [] => rfl
  | a :: r => by simp [Op.bytesLess, less_irrefl r]
theorem less_asymm : ∀ a b : List UInt8, Op.bytesLess a b = true → Op.bytesLess b a = false
  | [], [], h => by simp [Op.bytesLess] at h
  | [], _ :: _, _ => rfl
  | _ :: _, [], h => by simp [Op.bytesLess] at h
  | x :: a, y :: b, h => by
    simp only [Op.bytesLess, Bool.or_eq_true, decide_eq_true_eq, Bool.and_eq_true, beq_iff_eq] at h
    simp only [Op.bytesLess, Bool.or_eq_false_iff, decide_eq_false_iff_not, Bool.and_eq_false_iff, beq_eq_false_iff_ne]
    rcases h with h | ⟨rfl, h⟩
    · exact ⟨by rw [UInt8.not_lt]; exact UInt8.le_of_lt h, .inl (fun e => by subst e; exact absurd h (UInt8.lt_irrefl _))⟩
    · exact ⟨UInt8.lt_irrefl _, .inr (less_asymm a b h)⟩
theorem less_total : ∀ a b : List UInt8, Op.bytesLess a b = false → a ≠ b → Op.bytesLess b a = true
  | [], [], _, h => absurd rfl h
  | [], _ :: _, h, _ => by simp [Op.bytesLess] at h
  | _ :: _, [], _, _ => rfl
  | x :: a, y :: b, h, hne => by
    simp only [Op.bytesLess, Bool.or_eq_false_iff, decide_eq_false_iff_not, Bool.and_eq_false_iff, beq_eq_false_iff_ne] at h
    simp only [Op.bytesLess, Bool.or_eq_true, decide_eq_true_eq, Bool.and_eq_true, beq_iff_eq]
    obtain ⟨h1, h2⟩ := h
    by_cases e : x = y
    · subst e
      exact .inr ⟨rfl, less_total a b (h2.resolve_left (fun h => h rfl)) (fun e => hne (by rw [e]))⟩
    · left
      rw [UInt8.not_lt] at h1
      exact UInt8.lt_of_le_of_ne h1 (Ne.symm e)
theorem less_trans : ∀ a b c : List UInt8, Op.bytesLess a b = true → Op.bytesLess b c = true → Op.bytesLess a c = true
  | _, _, [], _, h => by simp [Op.bytesLess] at h
  | _, [], _ :: _, h, _ => by simp [Op.bytesLess] at h
  | [], _ :: _, _ :: _, _, _ => rfl
  | x :: a, y :: b, z :: c, h, h' => by
    simp only [Op.bytesLess, Bool.or_eq_true, decide_eq_true_eq, Bool.and_eq_true, beq_iff_eq] at h h' ⊢
    rcases h with h | ⟨rfl, h⟩
    · rcases h' with h' | ⟨rfl, h'⟩
      · exact .inl (UInt8.lt_trans h h')
      · exact .inl h
    · rcases h' with h' | ⟨rfl, h'⟩
      · exact .inl h'
      · exact .inr ⟨rfl, less_trans a b c h h'⟩
/-- b is above a just where it is neither below a nor a. -/
theorem less_not (a b : List UInt8) : Op.bytesLess a b = !(Op.bytesLess b a || (b == a)) := by
  cases h : Op.bytesLess a b with
  | true =>
    have h1 := less_asymm a b h
    have h2 : (b == a) = false := by
      rw [beq_eq_false_iff_ne]; intro e; subst e; rw [less_irrefl] at h; cases h
    rw [h1, h2]; rfl
  | false =>
    by_cases e : a = b
    · subst e; simp
    · rw [less_total a b h e]; rfl

/-- May the i-th one stand there? -/
def digAt (l : List (List UInt8)) (i : Nat) : Bool := decide ((l[i]?.getD []).length = 32) && (decide (i = 0) || Op.bytesLess (l[i - 1]?.getD []) (l[i]?.getD []))
def risingB (l : List (List UInt8)) : Bool := (List.range l.length).all (digAt l)
theorem risingB_iff {l : List (List UInt8)} : risingB l = true ↔ ∀ i, i < l.length → digAt l i = true := by simp [risingB]
theorem risingB_none {l : List (List UInt8)} {k : Nat} (h : ∀ i, i < k → digAt l i = true) (hk : l.length ≤ k) : risingB l = true := risingB_iff.2 fun i hi => h i (by omega)
theorem risingB_bad {l : List (List UInt8)} {i : Nat} (hi : i < l.length) (h : digAt l i = false) : risingB l = false := by
  cases hc : risingB l with
  | false => rfl
  | true => rw [risingB_iff.1 hc i hi] at h; cases h
theorem getD_lt {α : Type} {l : List α} {i : Nat} {d : α} (h : i < l.length) : l[i]?.getD d = l[i] := by rw [List.getElem?_eq_getElem h]; rfl
end Silo
