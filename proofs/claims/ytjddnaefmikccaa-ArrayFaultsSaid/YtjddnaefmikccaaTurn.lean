/- Calls that turn some colours, and no others. No condition. -/
import Derived.Test.YtjddnaefmikccaaTail
set_option linter.unusedSimpArgs false
set_option linter.unusedVariables false
namespace Go.Eng
open Go Go.RowKit
/-- The colours J as they are; all others are 0. -/
def mask (c : Nat → Nat) (J : List Nat) : Nat → Nat := fun k => if hasC J (c k) then c k else 0
theorem mask_in {c : Nat → Nat} {J : List Nat} {k : Nat} (h : hasC J (c k) = true) : mask c J k = c k := by simp [mask, h]
theorem mask_out {c : Nat → Nat} {J : List Nat} {k : Nat} (h : hasC J (c k) = false) : mask c J k = 0 := by simp [mask, h]
/-- What was there at the start, but for the colours J. -/
structure OldJ (c0 : Nat → Nat) (w0 : World) (J : List Nat) (c : Nat → Nat) (w : World) : Prop where
  os : w.os = w0.os
  tape : w.tape = w0.tape
  output : w.output = w0.output
  size : w0.heap.size ≤ w.heap.size
  col : ∀ k, k < w0.heap.size → c k = mask c0 J k
  block : ∀ k, k < w0.heap.size → hasC J (c0 k) = false → w.heap[k]? = w0.heap[k]?
section
variable {c0 c c' : Nat → Nat} {w0 w w' : World} {I J K : List Nat}
theorem OldJ.start (c0 : Nat → Nat) (w0 : World) (J : List Nat) : OldJ c0 w0 J (mask c0 J) w0 := ⟨rfl, rfl, rfl, Nat.le_refl _, fun _ _ => rfl, fun _ _ _ => rfl⟩
theorem OldJ.mv (h : OldJ c0 w0 J c w) (m : Mv c w c' w' I) (hi : hasC I 0 = false := by rfl) : OldJ c0 w0 J c' w' :=
  ⟨m.os.trans h.os, m.tape.trans h.tape, m.output.trans h.output, Nat.le_trans h.size m.size, fun k hk => (m.col k (Nat.lt_of_lt_of_le hk h.size)).trans (h.col k hk),
   fun k hk hj => (m.block k (Nat.lt_of_lt_of_le hk h.size) (by rw [h.col k hk, mask_out hj]; exact hi)).trans (h.block k hk hj)⟩
theorem OldJ.kp (h : OldJ c0 w0 J c w) {W : World} (hW : Kp c w I W) (hi : hasC I 0 = false) (ho : W.os = w.os) (ht : W.tape = w.tape) (hp : W.output = w.output) : OldJ c0 w0 J c W :=
  ⟨ho.trans h.os, ht.trans h.tape, hp.trans h.output, Nat.le_trans h.size hW.1, h.col,
   fun k hk hj => (hW.2 k (Nat.lt_of_lt_of_le hk h.size) (by rw [h.col k hk, mask_out hj]; exact hi)).trans (h.block k hk hj)⟩
/-- The colours told outside. -/
def back (c0 : Nat → Nat) (w0 : World) (c : Nat → Nat) : Nat → Nat := fun k => if k < w0.heap.size then c0 k else c k
theorem back_col (h : OldJ c0 w0 J c w) {k i : Nat} (hi : hasC J i = true) (h0 : i ≠ 0) (hk : c k = i) : back c0 w0 c k = i := by
  unfold back
  split
  · rename_i hlt
    rw [h.col k hlt] at hk
    unfold mask at hk
    split at hk
    · exact hk
    · exact absurd hk.symm h0
  · exact hk
theorem OldJ.out (h : OldJ c0 w0 J c w) : Mv c0 w0 (back c0 w0 c) w J := ⟨h.os, h.tape, h.output, h.size, fun k hk => by simp [back, hk], h.block⟩
theorem BlkC.out {i b : Nat} {cs : List Value} {t : TypeId} (hb : BlkC c w i b cs t) (h : OldJ c0 w0 J c w) (hi : (Nat.blt 0 i && hasC J i) = true) : BlkC (back c0 w0 c) w i b cs t := by
  rw [Bool.and_eq_true] at hi
  exact ⟨hb.blk, back_col h hi.2 (by have := Nat.le_of_ble_eq_true hi.1; omega) hb.col⟩
theorem OwnC.out {i : Nat} {e : TypeId} {size n : Nat} {v : Value} {xs : List Value} (ho : OwnC c w i e size v n xs) (h : OldJ c0 w0 J c w) (hi : (Nat.blt 0 i && hasC J i) = true) : OwnC (back c0 w0 c) w i e size v n xs := by
  rw [Bool.and_eq_true] at hi
  exact ⟨ho.own, fun k hk => back_col h hi.2 (by have := Nat.le_of_ble_eq_true hi.1; omega) (ho.col k hk)⟩
/-- The colours told outside, where a new row takes an old one's colour. -/
theorem OldJ.outN (h : OldJ c0 w0 J c w) {i j : Nat} (hj : (Nat.blt 0 j && !hasC J j) = true) : ∃ c'', Mv c0 w0 c'' w J ∧ ∀ {e : TypeId} {size n : Nat} {v : Value} {xs : List Value}, OwnC c w j e size v n xs → OwnC c'' w i e size v n xs := by
  rw [Bool.and_eq_true, Bool.not_eq_true'] at hj
  have hj0 : 0 < j := Nat.le_of_ble_eq_true hj.1
  refine ⟨fun k => if k < w0.heap.size then c0 k else if c k = j then i else c k, ⟨h.os, h.tape, h.output, h.size, fun k hk => by simp [hk], h.block⟩, fun {e size n v xs} ho => ⟨ho.own, fun k hk => ?_⟩⟩
  have hck := ho.col k hk
  have hge : ¬ k < w0.heap.size := fun hlt => by
    rw [h.col k hlt] at hck
    unfold mask at hck
    split at hck
    · rename_i hh
      rw [hck, hj.2] at hh; cases hh
    · omega
  show (if k < w0.heap.size then c0 k else if c k = j then i else c k) = i
  rw [if_neg hge, if_pos hck]
theorem BlkC.inn0 {i b : Nat} {cs : List Value} {t : TypeId} (hb : BlkC c w i b cs t) (hi : hasC J i = false) : BlkC (mask c J) w 0 b cs t :=
  ⟨hb.blk, by rw [mask_out (by rw [hb.col]; exact hi)]⟩
theorem BlkC.inn {i b : Nat} {cs : List Value} {t : TypeId} (hb : BlkC c w i b cs t) (hi : hasC J i = true) : BlkC (mask c J) w i b cs t :=
  ⟨hb.blk, by rw [mask_in (by rw [hb.col]; exact hi)]; exact hb.col⟩
theorem OwnC.inn {i : Nat} {e : TypeId} {size n : Nat} {v : Value} {xs : List Value} (ho : OwnC c w i e size v n xs) (hi : hasC J i = true) : OwnC (mask c J) w i e size v n xs :=
  ⟨ho.own, fun k hk => by rw [mask_in (by rw [ho.col k hk]; exact hi)]; exact ho.col k hk⟩
theorem apart_out {K J : List Nat} (h : apartC K J = true) {i : Nat} (hk : hasC K i = true) : hasC J i = false := hasC_of_apart h hk
theorem FtC.inn {Φ : World → Prop} (h : FtC Φ c w K) (ha : apartC K J = true) : FtC Φ (mask c J) w [0] := Foot.mono h fun k _ hk => by
  show hasC [0] (mask c J k) = true
  rw [mask_out (apart_out ha hk)]; rfl
theorem CelC.inn {p : Addr} {cs : List Value} (h : CelC c w K p cs) (ha : apartC K J = true) : CelC (mask c J) w [0] p cs :=
  ⟨h.cel, by rw [mask_out (apart_out ha h.col)]; rfl⟩
end
end Go.Eng
