/- Manifests, in plain Lean: which may be, their bytes, which one bytes are. No condition. -/
import Derived.Test.YtnddlhjafkhdoaaOrd
set_option linter.unusedSimpArgs false
set_option linter.unusedVariables false
namespace Silo
open Go Go.Eng

structure Man where
  kind : Int
  blobs : List (List UInt8)
  subs : List (List UInt8)
  deriving DecidableEq

def manS : Shape Man where
  size := 3
  rd := fun B w cs m => ∃ vb vs, cs = [I m.kind, vb, vs] ∧ RdS strS B w vb m.blobs ∧ RdS strS B w vs m.subs ∧ Go.Eng.Int64 m.kind
  len := fun ⟨_, _, h, _⟩ => by rw [h]; rfl
  keep := fun hk ⟨vb, vs, h, h1, h2, h3⟩ => ⟨vb, vs, h, h1.keep hk, h2.keep hk, h3⟩
  mono := fun hB ⟨vb, vs, h, h1, h2, h3⟩ => ⟨vb, vs, h, h1.mono hB, h2.mono hB, h3⟩
  one := fun ⟨vb, vs, h, h1, h2, _⟩ u hu => by
    obtain ⟨A, c, rfl, _⟩ := h1.form
    obtain ⟨A', c', rfl, _⟩ := h2.form
    subst h
    simp at hu
    rcases hu with rfl | rfl | rfl <;> rfl
def RdMan (w : World) (cs : List Value) (m : Man) : Prop := manS.rd w.heap.size w cs m
theorem RdMan.up {w w' : World} {cs : List Value} {m : Man} (h : RdMan w cs m) (hk : RowKit.Below w.heap.size w w') : RdMan w' cs m := manS.mono hk.size (manS.keep hk.block h)

def manMay (m : Man) : Bool := (decide (0 ≤ m.kind) && decide (m.kind ≤ 255)) && decide (m.blobs.length + m.subs.length ≤ 20) && risingB m.blobs && risingB m.subs
def manBytes (m : Man) : List UInt8 := [77, 65, 78, 70] ++ [u8I m.kind, u8I m.blobs.length, u8I m.subs.length] ++ m.blobs.flatten ++ m.subs.flatten
def chunks : Nat → List UInt8 → List (List UInt8)
  | 0, _ => []
  | k + 1, s => s.take 32 :: chunks k (s.drop 32)
theorem chunks_length : ∀ (k : Nat) (s : List UInt8), (chunks k s).length = k
  | 0, _ => rfl
  | k + 1, s => by simp [chunks, chunks_length k]
theorem chunks_get : ∀ (k : Nat) (s : List UInt8) (i : Nat), i < k → (chunks k s)[i]? = some ((s.drop (32 * i)).take 32)
  | k + 1, s, 0, _ => by simp [chunks]
  | k + 1, s, i + 1, h => by
    simp only [chunks, List.getElem?_cons_succ]
    rw [chunks_get k _ i (by omega), List.drop_drop]
    congr 3
    omega
theorem chunks_snoc (k : Nat) (s : List UInt8) : chunks (k + 1) s = chunks k s ++ [(s.drop (32 * k)).take 32] := by
  apply List.ext_getElem?
  intro i
  rcases Nat.lt_or_ge i k with h | h
  · rw [List.getElem?_append_left (by rw [chunks_length]; exact h), chunks_get _ _ _ h, chunks_get _ _ _ (by omega)]
  · rcases Nat.eq_or_lt_of_le h with h | h
    · subst h
      rw [chunks_get _ _ _ (by omega), List.getElem?_append_right (by rw [chunks_length]; exact Nat.le_refl _), chunks_length]
      simp
    · rw [List.getElem?_eq_none (by rw [chunks_length]; omega), List.getElem?_eq_none (by rw [List.length_append, chunks_length]; simp; omega)]
/-- A byte of a text, as a number. -/
def at_ (s : List UInt8) (i : Nat) : Nat := (s[i]?.getD 0).toNat
def manOf (s : List UInt8) : Man := ⟨at_ s 4, chunks (at_ s 5) (s.drop 7), chunks (at_ s 6) ((s.drop 7).drop (32 * at_ s 5))⟩
def manTake (s : List UInt8) : Option Man :=
  if 7 ≤ s.length ∧ s.take 4 = [77, 65, 78, 70] ∧ s.length = 7 + 32 * (at_ s 5 + at_ s 6) then (if manMay (manOf s) then some (manOf s) else none) else none
/-- The record where there is none. -/
def man0 : Man := ⟨0, [], []⟩
end Silo
