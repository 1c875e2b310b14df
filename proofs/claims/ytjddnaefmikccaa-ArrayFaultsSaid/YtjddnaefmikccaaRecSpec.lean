/- What records are, in plain Lean: numbers' bytes, which records may be, their bytes. No condition. -/
import Derived.Test.YtjddnaefmikccaaOps
import Derived.Test.YtjddnaefmikccaaPlain
set_option linter.unusedSimpArgs false
set_option linter.unusedVariables false
namespace Silo
open Go Go.Eng

/-- So many bytes of a number, the highest first. -/
def be : Nat → Int → List UInt8
  | 0, _ => []
  | s + 1, n => u8I (n / 256 ^ s) :: be s n
/-- The number that bytes are. -/
def beNat (l : List UInt8) : Nat := l.foldl (fun n b => n * 256 + b.toNat) 0

theorem be_length : ∀ (s : Nat) (n : Int), (be s n).length = s
  | 0, _ => rfl
  | s + 1, n => by simp [be, be_length s n]
theorem be_drop : ∀ (s k : Nat) (n : Int), k ≤ s → (be s n).drop (s - k) = be k n
  | 0, k, n, h => by have : k = 0 := by omega
                     subst this; rfl
  | s + 1, k, n, h => by
    rcases Nat.lt_or_ge k (s + 1) with h1 | h1
    · have : s + 1 - k = (s - k) + 1 := by omega
      rw [this]; simp only [be, List.drop_succ_cons]; exact be_drop s k n (by omega)
    · have : k = s + 1 := by omega
      subst this; simp
theorem be_take_step (s k : Nat) (n : Int) (h : k + 1 ≤ s) : (be s n).take (s - k) = (be s n).take (s - (k + 1)) ++ [u8I (n / 256 ^ k)] := by
  have h1 : s - k = (s - (k + 1)) + 1 := by omega
  have hlt : s - (k + 1) < (be s n).length := by rw [be_length]; omega
  rw [h1, List.take_succ_eq_append_getElem hlt]
  congr 1
  have h2 := be_drop s (k + 1) n h
  have h3 : ((be s n).drop (s - (k + 1)))[0]? = some (u8I (n / 256 ^ k)) := by rw [h2]; rfl
  rw [List.getElem?_drop, Nat.add_zero, List.getElem?_eq_getElem hlt] at h3
  simpa using h3
theorem be_take_all (s : Nat) (n : Int) : (be s n).take s = be s n := List.take_of_length_le (by rw [be_length]; exact Nat.le_refl _)
theorem pow8 (j : Nat) : (2 : Int) ^ (8 * j) = 256 ^ j := by rw [Int.pow_mul]; rfl

theorem beNat_snoc (l : List UInt8) (b : UInt8) : beNat (l ++ [b]) = beNat l * 256 + b.toNat := by simp [beNat]
theorem beNat_lt (l : List UInt8) : beNat l < 256 ^ l.length := by
  have key : ∀ (l : List UInt8) (a k : Nat), a < 256 ^ k → l.foldl (fun n b => n * 256 + b.toNat) a < 256 ^ (k + l.length) := by
    intro l
    induction l with
    | nil => intro a k h; simpa using h
    | cons b r ih =>
      intro a k h
      have hb := b.toNat_lt
      have := ih (a * 256 + b.toNat) (k + 1) (by rw [Nat.pow_succ]; omega)
      simpa [Nat.add_assoc, Nat.add_comm 1] using this
  have := key l 0 0 (by simp)
  simpa [beNat] using this

theorem u8I_mod (m : Int) : u8I m = u8I (m % 256) := by unfold u8I; rw [Int.emod_emod_of_dvd _ (by exact ⟨1, rfl⟩)]
theorem div_mod_256 (p x : Int) (hp : 0 < p) : (x / p) % 256 = (x % (p * 256)) / p := by
  have h1 : x = p * (x / p) + x % p := (Int.mul_ediv_add_emod x p).symm
  have h2 : x / p = 256 * (x / p / 256) + (x / p) % 256 := (Int.mul_ediv_add_emod _ _).symm
  have hr0 := Int.emod_nonneg x (show p ≠ 0 by omega)
  have hr1 := Int.emod_lt_of_pos x hp
  have hs0 := Int.emod_nonneg (x / p) (show (256 : Int) ≠ 0 by omega)
  have hs1 := Int.emod_lt_of_pos (x / p) (show (0 : Int) < 256 by omega)
  generalize x / p % 256 = r at *
  generalize x % p = t at *
  generalize x / p / 256 = q at *
  have h3 : x = (p * r + t) + (p * 256) * q := by rw [h1, h2, Int.mul_add]; rw [← Int.mul_assoc]; omega
  have h4 : 0 ≤ p * r + t := by have := Int.mul_nonneg (Int.le_of_lt hp) hs0; omega
  have h5 : p * r + t < p * 256 := by
    have : p * r ≤ p * 255 := Int.mul_le_mul_of_nonneg_left (by omega) (by omega)
    omega
  rw [h3, Int.add_mul_emod_self_left, Int.emod_eq_of_lt h4 h5, Int.add_comm, Int.add_mul_ediv_left _ _ (by omega), Int.ediv_eq_zero_of_lt hr0 hr1]
  omega
/-- Numbers alike modulo 256^s have the same s bytes. -/
theorem be_congr : ∀ (s : Nat) (m n : Int), m % 256 ^ s = n % 256 ^ s → be s m = be s n
  | 0, _, _, _ => rfl
  | s + 1, m, n, h => by
    have hp : (0 : Int) < 256 ^ s := Int.pow_pos (by decide)
    have e : (256 : Int) ^ (s + 1) = 256 ^ s * 256 := Int.pow_succ _ _
    have hm : ∀ x : Int, x % 256 ^ s = (x % 256 ^ (s + 1)) % 256 ^ s := fun x => by
      rw [Int.emod_emod_of_dvd]; exact ⟨256, e⟩
    simp only [be]
    rw [u8I_mod (m / _), u8I_mod (n / _), div_mod_256 _ m hp, div_mod_256 _ n hp, ← e, h, be_congr s m n (by rw [hm m, hm n, h])]
end Silo
