/- Frames behind each other, in plain Lean. No condition. -/
import Derived.Test.YthlfolpcmcejkaaFr1
set_option linter.unusedSimpArgs false
set_option linter.unusedVariables false
set_option maxRecDepth 100000
namespace Silo
open Go Go.Eng
theorem beNat_be : ∀ (s n : Nat), beNat (be s (n : Int)) = n % 256 ^ s
  | 0, n => by simp [be, beNat, Nat.mod_one]
  | s + 1, n => by
    have e : ((n : Int) / 256) = ((n / 256 : Nat) : Int) := by omega
    have hu : (u8I (n : Int)).toNat = n % 256 := by
      unfold u8I
      have h1 : ((n : Int) % 256).toNat = n % 256 := by omega
      rw [h1, UInt8.toNat_ofNat']
      omega
    rw [be_snoc, beNat_snoc, e, beNat_be s (n / 256), hu, Nat.pow_succ, Nat.mul_comm (256 ^ s) 256, Nat.mod_mul]
    omega
theorem crc_lt (s : List UInt8) : crc s < 18446744073709551616 := inv64_lt _
/-- The frame that a text begins with: its record, number, size. -/
def takeF (s : List UInt8) : Option (Rec × Nat × Nat) :=
  if s.length < 15 then none
  else if s.length < 15 + beNat (s.take 3) then none
  else if beNat ((s.drop (7 + beNat (s.take 3))).take 8) = crc (s.take (7 + beNat (s.take 3))) then
    match takeSpec plain ((s.drop 7).take (beNat (s.take 3))) with
    | none => none
    | some r => if beNat ((s.drop 3).take 4) ≤ 1073741824 then some (r, beNat ((s.drop 3).take 4), 15 + beNat (s.take 3)) else none
  else none
/-- The page asks for the frame itself; that is asking for the sum. -/
theorem frame_sum {s : List UInt8} {r : Rec} (hl : 15 + beNat (s.take 3) ≤ s.length) (ht : takeSpec plain ((s.drop 7).take (beNat (s.take 3))) = some r) :
    frameS r (beNat ((s.drop 3).take 4) : Nat) = s.take (15 + beNat (s.take 3)) ↔ beNat ((s.drop (7 + beNat (s.take 3))).take 8) = crc (s.take (7 + beNat (s.take 3))) := by
  obtain ⟨n, hn⟩ : ∃ n, n = beNat (s.take 3) := ⟨_, rfl⟩
  obtain ⟨hb, _⟩ := take_bytes ht
  rw [← hn] at hl ht hb ⊢
  have hbl : (bytesOf r).length = n := by rw [hb, List.length_take, List.length_drop]; omega
  have e3 : be 3 (n : Int) = s.take 3 := by
    have := be_beNat (s.take 3)
    rw [← hn, List.length_take, Nat.min_eq_left (by omega)] at this
    exact this
  have e4 : be 4 ((beNat ((s.drop 3).take 4) : Nat) : Int) = (s.drop 3).take 4 := by
    have := be_beNat ((s.drop 3).take 4)
    rw [show ((s.drop 3).take 4).length = 4 by rw [List.length_take, List.length_drop]; omega] at this
    exact this
  have eH : frameH r (beNat ((s.drop 3).take 4) : Nat) = s.take (7 + n) := by
    rw [frameH, hbl, e3, e4, hb]
    have e7 : s.take (3 + 4 + n) = s.take 3 ++ (s.drop 3).take 4 ++ (s.drop (3 + 4)).take n := by rw [List.take_add, List.take_add]
    exact e7.symm
  have eT : s.take (15 + n) = s.take (7 + n) ++ (s.drop (7 + n)).take 8 := by
    rw [show 15 + n = (7 + n) + 8 by omega, List.take_add]
  rw [frameS, eH, eT, List.append_cancel_left_eq]
  have hc := crc_lt (s.take (7 + n))
  have ht8 : ((s.drop (7 + n)).take 8).length = 8 := by rw [List.length_take, List.length_drop]; omega
  constructor
  · intro h
    rw [← h, beNat_be, Nat.mod_eq_of_lt (by simpa using hc)]
  · intro h
    rw [← h]
    have := be_beNat ((s.drop (7 + n)).take 8)
    rw [ht8] at this
    exact this
theorem takeF_size {s : List UInt8} {r : Rec} {k z : Nat} (h : takeF s = some (r, k, z)) : 15 ≤ z ∧ z ≤ s.length ∧ mayB r = true ∧ k ≤ 1073741824 := by
  unfold takeF at h
  split at h
  · cases h
  · split at h
    · cases h
    · split at h
      · cases ht : takeSpec plain ((s.drop 7).take (beNat (s.take 3))) with
        | none => rw [ht] at h; cases h
        | some r' =>
          rw [ht] at h
          dsimp only at h
          split at h
          · simp only [Option.some.injEq, Prod.mk.injEq] at h
            obtain ⟨rfl, rfl, rfl⟩ := h
            exact ⟨by omega, by omega, (take_bytes ht).2, by assumption⟩
          · cases h
      · cases h
/-- The frames that a text begins with. -/
def framesG : Nat → List UInt8 → List Rec → Nat → Nat → List Rec × Nat × Nat
  | 0, _, l, first, bytes => (l, first, bytes)
  | f + 1, s, l, first, bytes => match takeF s with
    | none => (l, first, bytes)
    | some (r, k, z) =>
      if k = (if l = [] then k else first) + l.length then framesG f (s.drop z) (l ++ [r]) (if l = [] then k else first) (bytes + z)
      else (l, first, bytes)
def framesS (s : List UInt8) : List Rec × Nat × Nat := framesG (s.length + 1) s [] 0 0
theorem framesG_fuel : ∀ (f g : Nat) (s : List UInt8) (l : List Rec) (first bytes : Nat), s.length < f → s.length < g → framesG f s l first bytes = framesG g s l first bytes
  | 0, _, _, _, _, _, h, _ => absurd h (Nat.not_lt_zero _)
  | _, 0, _, _, _, _, _, h => absurd h (Nat.not_lt_zero _)
  | f + 1, g + 1, s, l, first, bytes, hf, hg => by
    unfold framesG
    cases ht : takeF s with
    | none => rfl
    | some x =>
      obtain ⟨r, k, z⟩ := x
      have := takeF_size ht
      have hrec := framesG_fuel f g (s.drop z) (l ++ [r]) (if l = [] then k else first) (bytes + z) (by rw [List.length_drop]; omega) (by rw [List.length_drop]; omega)
      dsimp only
      rw [hrec]
end Silo
