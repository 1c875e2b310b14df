/- Digests, in plain Lean. No condition. -/
import Derived.Test.YtjddnaefmikccaaSl
import Derived.Test.YtjddnaefmikccaaRecSpec
set_option linter.unusedSimpArgs false
set_option linter.unusedVariables false
namespace Silo
open Go Go.Eng Go.RowKit

/-- A word, as a value. -/
abbrev W32 (n : Int) : Value := .int .u32 n
def w32 (n : Int) : Int := n % 4294967296
def x32 (m n : Int) : Int := (((BitVec.ofInt 32 m) ^^^ (BitVec.ofInt 32 n)).toNat : Int)
def o32 (m n : Int) : Int := (((BitVec.ofInt 32 m) ||| (BitVec.ofInt 32 n)).toNat : Int)
theorem wrap_u32 (n : Int) : IntKind.u32.wrap n = w32 n := by simp [IntKind.wrap, IntKind.signed, IntKind.bits, w32]
theorem wrap_bv (r : BitVec 32) : IntKind.u32.wrap (r.toNat : Int) = (r.toNat : Int) := by
  have := r.isLt
  rw [wrap_u32]; unfold w32; omega
theorem w32_add (a b x : Int) : w32 (w32 (a + b) + x) = w32 (a + w32 (b + x)) := by unfold w32; omega
theorem o32_comm (m n : Int) : o32 m n = o32 n m := by unfold o32; rw [BitVec.or_comm]
theorem ofInt_toNat (r : BitVec 32) : BitVec.ofInt 32 (r.toNat : Int) = r := by rw [BitVec.ofInt_natCast]; simp
theorem x32_assoc (a b c : Int) : x32 (x32 a b) c = x32 a (x32 b c) := by unfold x32; rw [ofInt_toNat, ofInt_toNat, BitVec.xor_assoc]
def rotr (x : Int) (n : Nat) : Int := o32 (x / 2 ^ n) (w32 (x * 2 ^ (32 - n)))
def not32 (x : Int) : Int := ((~~~ (BitVec.ofInt 32 x)).toNat : Int)
/-- The i-th of a list of words. -/
def gW (v : List Int) (i : Nat) : Int := v[i]?.getD 0
def mixS (v : List Int) (a b c d : Nat) (x y : Int) : List Int :=
  let v := v.set a (w32 (w32 (gW v a + gW v b) + x))
  let v := v.set d (rotr (x32 (gW v d) (gW v a)) 16)
  let v := v.set c (w32 (gW v c + gW v d))
  let v := v.set b (rotr (x32 (gW v b) (gW v c)) 12)
  let v := v.set a (w32 (w32 (gW v a + gW v b) + y))
  let v := v.set d (rotr (x32 (gW v d) (gW v a)) 8)
  let v := v.set c (w32 (gW v c + gW v d))
  v.set b (rotr (x32 (gW v b) (gW v c)) 7)
theorem mixS_length (v : List Int) (a b c d : Nat) (x y : Int) : (mixS v a b c d x y).length = v.length := by simp [mixS]
def rowsL : List (List Nat) := [[0, 1, 2, 3, 4, 5, 6, 7, 8, 9, 10, 11, 12, 13, 14, 15], [14, 10, 4, 8, 9, 15, 13, 6, 1, 12, 0, 2, 11, 7, 5, 3], [11, 8, 12, 0, 5, 2, 15, 13, 10, 14, 3, 6, 7, 1, 9, 4],
  [7, 9, 3, 1, 13, 12, 11, 14, 2, 6, 5, 10, 4, 0, 15, 8], [9, 0, 5, 7, 2, 4, 10, 15, 14, 1, 11, 12, 6, 8, 3, 13], [2, 12, 6, 10, 0, 11, 8, 3, 4, 13, 7, 5, 15, 14, 1, 9],
  [12, 5, 1, 15, 14, 13, 4, 10, 0, 7, 6, 3, 9, 2, 8, 11], [13, 11, 7, 14, 12, 1, 3, 9, 5, 0, 15, 4, 8, 6, 2, 10], [6, 15, 14, 9, 11, 3, 0, 8, 12, 2, 13, 7, 1, 4, 10, 5], [10, 2, 8, 4, 7, 6, 1, 5, 15, 11, 9, 14, 3, 12, 13, 0]]
def quartL : List (List Nat) := [[0, 4, 8, 12], [1, 5, 9, 13], [2, 6, 10, 14], [3, 7, 11, 15], [0, 5, 10, 15], [1, 6, 11, 12], [2, 7, 8, 13], [3, 4, 9, 14]]
def g2 (l : List (List Nat)) (i j : Nat) : Nat := (l[i]?.getD [])[j]?.getD 0
def beginsL : List Int := [1779033703, 3144134277, 1013904242, 2773480762, 1359893119, 2600822924, 528734635, 1541459225]
def roundS (m : List Int) (r : Nat) (v : List Int) (i : Nat) : List Int := mixS v (g2 quartL i 0) (g2 quartL i 1) (g2 quartL i 2) (g2 quartL i 3) (gW m (g2 rowsL r (2 * i))) (gW m (g2 rowsL r (2 * i + 1)))
def roundsS (m : List Int) (v : List Int) (r : Nat) : List Int := (List.range 8).foldl (roundS m r) v
def wordS (s : List UInt8) (m : List Int) (i : Nat) : List Int := m.set (i / 4) (o32 (gW m (i / 4)) (w32 (((s[i]?.getD 0).toNat : Int) * 2 ^ (8 * (i % 4)))))
def wordsS (s : List UInt8) : List Int := (List.range s.length).foldl (wordS s) (List.replicate 16 0)
def startV (h : List Int) (n : Int) (last : Bool) : List Int :=
  let v := h ++ beginsL
  let v := v.set 12 (x32 (gW v 12) (w32 n))
  let v := v.set 13 (x32 (gW v 13) (w32 (n / 4294967296)))
  if last then v.set 14 (not32 (gW v 14)) else v
def mixedS (h : List Int) (s : List UInt8) (n : Int) (last : Bool) : List Int := (List.range 10).foldl (roundsS (wordsS s)) (startV h n last)
def blockS (h : List Int) (s : List UInt8) (n : Int) (last : Bool) : List Int := (List.range 8).map fun i => x32 (x32 (gW h i) (gW (mixedS h s n last) i)) (gW (mixedS h s n last) (i + 8))
/-- All blocks: so many bytes have gone. -/
def absorb (h : List Int) (s : List UInt8) (n : Nat) : List Int :=
  if hl : 64 < s.length then absorb (blockS h (s.take 64) ((n + 64 : Nat) : Int) false) (s.drop 64) (n + 64) else blockS h s ((n + s.length : Nat) : Int) true
termination_by s.length
decreasing_by simp; omega
def outS (h : List Int) : List UInt8 := (List.range 32).map fun i => u8I (gW h (i / 4) / 2 ^ (8 * (i % 4)))
def digestS (s : List UInt8) : List UInt8 := outS (absorb (beginsL.set 0 (x32 (gW beginsL 0) 16842784)) s 0)
theorem digestS_length (s : List UInt8) : (digestS s).length = 32 := by simp [digestS, outS]
end Silo
