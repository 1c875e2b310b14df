/- Which records may be: the page's and the program's forms are one. No condition. -/
import Derived.Test.YthlfolpcmcejkaaRecSh
set_option linter.unusedSimpArgs false
set_option linter.unusedVariables false
namespace Silo
open Go Go.Eng
def numB (n : Int) : Bool := decide (0 ≤ n) && decide (n ≤ 1073741824)
/-- Which slot may not be. -/
def slotBad (p : Int × Int) : Bool := decide (p.1 < -1) || decide (12 ≤ p.1) || decide (p.2 < 0) || decide (64 ≤ p.2)

def wantI (r : Rec) : Int := if hasB r.kind 105 then r.id else 0
def wantN (r : Rec) : List UInt8 := if hasB r.kind 110 then r.name else []
def wantD (r : Rec) : List UInt8 := if hasB r.kind 100 then r.digest else []
def wantL (r : Rec) : List Int := if hasB r.kind 108 then r.list else []
def wantS (r : Rec) : List (Int × Int) := if hasB r.kind 115 then r.slots else []
def want (r : Rec) : Rec := ⟨r.kind, wantI r, wantN r, wantD r, wantL r, wantS r⟩

def kindBad (r : Rec) : Bool := decide (r.kind < 1) || decide (8 < r.kind)
/-- The page's four tests between. -/
def refBad (r : Rec) : Bool :=
  !decide (r = want r) || !numB r.id || (hasB r.kind 110 && !(decide (1 ≤ (r.name.length : Int)) && decide ((r.name.length : Int) ≤ 40))) || (hasB r.kind 100 && !decide ((r.digest.length : Int) = 32)) ||
    decide (2000 < (r.list.length : Int)) || (decide (r.kind = 2) && !decide ((r.list.length : Int) = 2)) || (hasB r.kind 115 && !(decide (1 ≤ (r.slots.length : Int)) && decide ((r.slots.length : Int) ≤ 14)))
/-- Whether a record may be. -/
def mayB (r : Rec) : Bool := !kindBad r && !refBad r && r.list.all numB && r.slots.all (fun p => !slotBad p)

/-- The program's tests. -/
def progBad1 (r : Rec) : Bool := (hasB r.kind 105 && !numB r.id) || (hasB r.kind 110 && (decide ((r.name.length : Int) < 1) || decide (40 < (r.name.length : Int)))) || (hasB r.kind 100 && !decide ((r.digest.length : Int) = 32))
def listP (r : Rec) : Bool := !(decide (r.kind = 2) && !decide ((r.list.length : Int) = 2)) && (decide ((r.list.length : Int) ≤ 2000) && !(r.list.any fun n => !numB n))
def placesP (l : List (Int × Int)) : Bool := decide (1 ≤ (l.length : Int)) && decide ((l.length : Int) ≤ 14) && !(l.any slotBad)
def progBad2 (r : Rec) : Bool := (hasB r.kind 108 && !listP r) || (hasB r.kind 115 && !placesP r.slots)
def progEnd (r : Rec) : Bool := (hasB r.kind 105 || decide (r.id = 0)) && (hasB r.kind 110 || (r.name == [])) && (hasB r.kind 100 || (r.digest == [])) && (hasB r.kind 108 || decide ((r.list.length : Int) = 0)) && (hasB r.kind 115 || decide ((r.slots.length : Int) = 0))

theorem len0 {α : Type} (l : List α) : ((l.length : Int) = 0) ↔ l = [] := by cases l <;> simp; omega
theorem want_iff (r : Rec) : r = want r ↔ (hasB r.kind 105 = true ∨ r.id = 0) ∧ (hasB r.kind 110 = true ∨ r.name = []) ∧ (hasB r.kind 100 = true ∨ r.digest = []) ∧ (hasB r.kind 108 = true ∨ r.list = []) ∧ (hasB r.kind 115 = true ∨ r.slots = []) := by
  obtain ⟨k, i, n, d, l, s⟩ := r
  simp only [want, wantI, wantN, wantD, wantL, wantS, Rec.mk.injEq, true_and]
  cases hasB k 105 <;> cases hasB k 110 <;> cases hasB k 100 <;> cases hasB k 108 <;> cases hasB k 115 <;> simp
theorem has2 {k : Int} (h : k = 2) : hasB k 108 = true := by subst h; decide
theorem listP_iff (r : Rec) : listP r = true ↔ (r.kind = 2 → (r.list.length : Int) = 2) ∧ (r.list.length : Int) ≤ 2000 ∧ ∀ x ∈ r.list, numB x = true := by
  simp only [listP, Bool.and_eq_true, Bool.not_eq_true', Bool.and_eq_false_iff, decide_eq_false_iff_not, Bool.not_eq_false', decide_eq_true_eq, List.any_eq_false, Bool.not_eq_true, Bool.not_eq_false]
  constructor
  · rintro ⟨h1, h2, h3⟩; exact ⟨fun e => h1.resolve_left (fun n => n e), h2, h3⟩
  · rintro ⟨h1, h2, h3⟩; exact ⟨(Decidable.em (r.kind = 2)).symm.imp id h1, h2, h3⟩
theorem placesP_iff (l : List (Int × Int)) : placesP l = true ↔ (1 ≤ (l.length : Int) ∧ (l.length : Int) ≤ 14) ∧ ∀ x ∈ l, slotBad x = false := by
  simp only [placesP, Bool.and_eq_true, Bool.not_eq_true', decide_eq_true_eq, List.any_eq_false, Bool.not_eq_true]
theorem mayB_iff (r : Rec) : mayB r = true ↔ kindBad r = false ∧ r = want r ∧ numB r.id = true ∧ (hasB r.kind 110 = true → 1 ≤ (r.name.length : Int) ∧ (r.name.length : Int) ≤ 40) ∧ (hasB r.kind 100 = true → (r.digest.length : Int) = 32) ∧
    (r.list.length : Int) ≤ 2000 ∧ (r.kind = 2 → (r.list.length : Int) = 2) ∧ (hasB r.kind 115 = true → 1 ≤ (r.slots.length : Int) ∧ (r.slots.length : Int) ≤ 14) ∧ (∀ x ∈ r.list, numB x = true) ∧ (∀ x ∈ r.slots, slotBad x = false) := by
  simp only [mayB, refBad, Bool.and_eq_true, Bool.not_eq_true', Bool.or_eq_false_iff, Bool.and_eq_false_iff, decide_eq_false_iff_not, Bool.not_eq_false', decide_eq_true_eq, List.all_eq_true, Int.not_lt, and_assoc]
  refine and_congr_right fun _ => and_congr_right fun _ => and_congr_right fun _ => and_congr ?_ (and_congr ?_ (and_congr_right fun _ => and_congr ?_ (and_congr ?_ Iff.rfl)))
  · cases hasB r.kind 110 <;> simp
  · cases hasB r.kind 100 <;> simp
  · by_cases h : r.kind = 2 <;> simp [h]
  · cases hasB r.kind 115 <;> simp
theorem numB_zero : numB 0 = true := by decide
theorem mayB_prog (r : Rec) : mayB r = (!kindBad r && !progBad1 r && !progBad2 r && progEnd r) := by
  rw [Bool.eq_iff_iff, mayB_iff, want_iff]
  simp only [progBad1, progBad2, progEnd, Bool.and_eq_true, Bool.not_eq_true', Bool.or_eq_false_iff, Bool.and_eq_false_iff, decide_eq_false_iff_not, Bool.not_eq_false', decide_eq_true_eq, beq_iff_eq, Bool.or_eq_true, listP_iff, placesP_iff, len0, and_assoc, Int.not_lt]
  have hk := @has2 r.kind
  constructor
  · rintro ⟨h0, hI, hN, hD, hL, hS, h1, h2, h3, h4, h5, h6, h7, h8⟩
    refine ⟨h0, .inr h1, ?_, ?_, .inr ⟨h5, h4, h7⟩, ?_, hI, hN, hD, hL, hS⟩
    · cases e : hasB r.kind 110
      · exact .inl rfl
      · exact .inr (h2 e)
    · cases e : hasB r.kind 100
      · exact .inl rfl
      · exact .inr (h3 e)
    · cases e : hasB r.kind 115
      · exact .inl rfl
      · have := h6 e; exact .inr ⟨this.1, this.2, h8⟩
  · rintro ⟨h0, h1, h2, h3, h4, h5, hI, hN, hD, hL, hS⟩
    have h4' : (r.kind = 2 → (r.list.length : Int) = 2) ∧ (r.list.length : Int) ≤ 2000 ∧ ∀ x ∈ r.list, numB x = true := by
      rcases h4 with h4 | h4
      · rcases hL with hL | hL
        · rw [h4] at hL; exact absurd hL (by decide)
        · exact ⟨fun e => by rw [has2 e] at h4; exact absurd h4 (by decide), by simp [hL], by simp [hL]⟩
      · exact h4
    refine ⟨h0, hI, hN, hD, hL, hS, ?_, ?_, ?_, h4'.2.1, h4'.1, ?_, h4'.2.2, ?_⟩
    · rcases h1 with h1 | h1
      · rcases hI with hI | hI
        · rw [h1] at hI; exact absurd hI (by decide)
        · rw [hI]; exact numB_zero
      · exact h1
    · intro e; rcases h2 with h2 | h2
      · rw [e] at h2; exact absurd h2 (by decide)
      · exact h2
    · intro e; rcases h3 with h3 | h3
      · rw [e] at h3; exact absurd h3 (by decide)
      · exact h3
    · intro e; rcases h5 with h5 | h5
      · rw [e] at h5; exact absurd h5 (by decide)
      · exact ⟨h5.1, h5.2.1⟩
    · rcases h5 with h5 | h5
      · rcases hS with hS | hS
        · rw [h5] at hS; exact absurd hS (by decide)
        · simp [hS]
      · exact h5.2.2
end Silo
