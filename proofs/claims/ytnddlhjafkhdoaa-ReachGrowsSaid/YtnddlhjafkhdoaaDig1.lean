/- Digests: the mixing of words, in the program and in the page's own. No condition. -/
import Derived.Test.YtnddlhjafkhdoaaTypes
import Derived.Test.YtnddlhjafkhdoaaRange
set_option linter.unusedSimpArgs false
set_option linter.unusedVariables false
set_option maxRecDepth 100000
namespace Go.Eng
open Go Go.RowKit
/-- All but one block is as it was. -/
def oneC (b : Nat) : Nat → Nat := fun k => if k = b then 2 else 0
theorem oneC_at (b : Nat) : oneC b b = 2 := by simp [oneC]
theorem Acc.grownOne {w w' : World} {b : Nat} {c' : Nat → Nat} {K : List Nat} (h : Acc (oneC b) w K c' w') (hK : hasC K 0 = false := by rfl) : w.grownBy w' (some b) :=
  ⟨h.mvs.os, h.mvs.tape, h.mvs.output, h.mvs.size, fun k hk hne => h.mvs.block k hk (by
    have : k ≠ b := fun e => hne (by rw [e])
    simp only [oneC, if_neg this]; exact hK)⟩
/-- A call that turned one block: its step. -/
theorem BlkC.turned {w w' : World} {c : Nat → Nat} {i b : Nat} {cs cs' : List Value} {t : TypeId} (h : BlkC c w i b cs t) (hg : w.grownBy w' (some b)) (hb : Blk w' b cs' t) : ∃ c', Mv c w c' w' [i] ∧ BlkC c' w' i b cs' t := by
  obtain ⟨c', hm, hx⟩ := Mv.grown (i := i) c i hg (fun k hk => by injection hk with hk; rw [← hk]; exact h.col)
  exact ⟨c', hm, hb, (hm.col b h.blk.lt).trans h.col⟩

theorem Eff.turnC {P : Program} {env : Env} {w : World} {op : Op} {ty : TypeId} {c : Nat → Nat} {i b : Nat} {cs cs' : List Value} {t : TypeId} (hb : BlkC c w i b cs t) (h : Eff P env w op ty (fun _ w' => w.grownBy w' (some b) ∧ Blk w' b cs' t)) :
    Eff P env w op ty (fun _ w' => ∃ c', Mv c w c' w' [i] ∧ BlkC c' w' i b cs' t) := h.mono fun _ _ ⟨hg, hB⟩ => hb.turned hg hB
theorem BlkC.words {c : Nat → Nat} {w : World} {i b : Nat} {l : List Int} {t : TypeId} (h : BlkC c w i b (l.map Silo.W32) t) : BlkC c w i b (l.map Silo.W32 ++ []) t := by rw [List.append_nil]; exact h
theorem Val.andU64 {P : Program} {env : Env} {w : World} {ty t ty2 : TypeId} {x y : Operand} {m n r : Int} (hx : evO env x = some (.int .u64 m)) (hy : evO env y = some (.int .u64 n)) (hr : IntKind.u64.wrap ((BitVec.ofInt 64 m &&& BitVec.ofInt 64 n).toNat : Int) = r) : Val P env w (.binOp .and t x y ty2) ty (.int .u64 r) := by
  have := Val.bitop (P := P) (w := w) (ty := ty) (t := t) (ty2 := ty2) (op := .and) hx hy (.inr (.inl ⟨rfl, rfl⟩))
  rw [← hr]; exact this
end Go.Eng
namespace Go.Proofs.Ytnddlhjafkhdoaa
open Go Go.Eng Go.RowKit Silo TryT

abbrev dV : TypeId := 156
theorem rot_ok {w : World} (x : Int) (n : Nat) (hn : n = 16 ∨ n = 12 ∨ n = 8 ∨ n = 7) : Calls Try.prog 174 #[W32 x, I (-(n : Int))] w (Ret fun v w' => Below w.heap.size w w' ∧ v = W32 (rotr x n)) := by
  have e1 : IntKind.u64.wrap ((BitVec.ofInt 64 (IntKind.u64.wrap (-(n : Int))) &&& BitVec.ofInt 64 31).toNat : Int) = ((32 - n : Nat) : Int) := by rcases hn with rfl | rfl | rfl | rfl <;> decide
  have e2 : IntKind.u64.wrap (32 - ((32 - n : Nat) : Int)) = (n : Int) := by rcases hn with rfl | rfl | rfl | rfl <;> decide
  have h1 : n ≤ 16 := by omega
  refine enter (n := 17) (res := #[.tmp 4]) Try.func174 rfl rfl rfl rfl ?_
  refine cseq <| cregion <| qq (Val.assign rfl) rfl <| cnil <| cseq <| cregion <| qq (Val.move rfl) rfl <| qq (Val.convInt Try.underlying3 Try.underlying109 rfl) rfl <| qq (Val.andU64 rfl rfl e1) rfl ?_
  refine qq (Val.assign rfl) rfl <| cnil <| cseq <| cregion <| qq (Val.move rfl) rfl <| qq (Val.move rfl) rfl <| qq (Val.shl_u32 rfl rfl (by first | omega | assumption | (simp; omega) | (simp; done)) (by first | omega | assumption | (simp; omega) | (simp; done))) rfl <| qq (Val.move rfl) rfl <| qq (Val.move rfl) rfl ?_
  refine qq (Val.sub rfl rfl) rfl ?_
  rw [e2]
  refine qq (Val.shr rfl rfl (by first | omega | assumption | (simp; omega) | (simp; done)) (by simp [IntKind.bits] <;> omega)) rfl <| qq (Val.or_u32 rfl rfl) rfl <| qq (Val.assign rfl) rfl <| cnil ?_
  refine WC.ret1 rfl rfl ?_
  refine ⟨Below.refl _ _, ?_⟩
  simp only [rotr, Int.toNat_natCast]
  rw [o32_comm]

theorem rturned_ok {w : World} (x : Int) (n : Nat) (hn : n = 16 ∨ n = 12 ∨ n = 8 ∨ n = 7) : Calls Try.prog 154 #[W32 x, I (n : Int)] w (Ret fun v w' => Below w.heap.size w w' ∧ v = W32 (rotr x n)) := by
  have h1 : n ≤ 16 := by omega
  have e1 : (32 - (n : Int)).toNat = 32 - n := by omega
  have hK : Old w w := Old.refl w
  refine enter (n := 13) (res := #[.tmp 4]) Try.func154 rfl rfl rfl rfl ?_
  refine cseq <| cregion <| qq (Val.assign rfl) rfl <| cnil <| cseq ?_
  refine WC.regionD (Below w.heap.size w) [0, 0, 0, 0, 0, 0, 0, 0, 0] [0, 1, 2, 3, 4, 5, 6, 7, 8] mixed (by kernel_rfl) ?_
  have hk1 : Below w.heap.size w w.drew := (Below.refl _ _).drew
  have hCw : Below w.heap.size w w.drew := (Below.refl _ _).drew
  generalize w.drew = w1 at hk1 hCw ⊢
  replace hK := hK.up hk1
  refine qd rfl rfl rfl (fun _ => Val.move rfl) rfl <| qd rfl rfl rfl (fun _ => Val.move rfl) rfl <| qd rfl rfl rfl (fun _ => Val.shr rfl rfl (by first | omega | assumption | (simp; omega) | (simp; done)) (by simp [IntKind.bits] <;> omega)) rfl <| qd rfl rfl rfl (fun _ => Val.move rfl) rfl <| qd rfl rfl rfl (fun _ => Val.move rfl) rfl <| qd rfl rfl rfl (fun _ => Val.subI rfl rfl (by first | omega | assumption | (simp; omega) | (simp; done)) (by first | omega | assumption | (simp; omega) | (simp; done))) rfl <| qd rfl rfl rfl (fun _ => Val.shl_u32 rfl rfl (by first | omega | assumption | (simp; omega) | (simp; done)) (by first | omega | assumption | (simp; omega) | (simp; done))) rfl <| qd rfl rfl rfl (fun _ => Val.or_u32 rfl rfl) rfl <| qd rfl rfl rfl (fun _ => Val.assign rfl) rfl ?_
  refine WD.nil ?_
  clear hCw
  refine WC.ret1 rfl rfl ?_
  refine ⟨hK, ?_⟩
  simp only [rotr, Int.toNat_natCast, e1]

theorem mix_ok {w : World} {b : Nat} {l : List Int} (hb : Blk w b (l.map W32 ++ []) dV) (hl : l.length = 16) (i j k m : Nat) (hi : i < 16) (hj : j < 16) (hk : k < 16) (hm : m < 16) (x y : Int) :
    Calls Try.prog 152 #[.pointer (some ⟨b, 0, none⟩), .agg #[I (i : Int), I (j : Int), I (k : Int), I (m : Int)], W32 x, W32 y] w (Ret fun v w' => w.grownBy w' (some b) ∧ Blk w' b ((mixS l i j k m x y).map W32 ++ []) dV) := by
  obtain ⟨c, hc⟩ : ∃ c : Nat → Nat, c = oneC b := ⟨_, rfl⟩
  have hbv : BlkC c w 2 b (l.map W32 ++ []) dV := ⟨hb, by rw [hc, oneC_at]⟩
  have hA : Acc c w [2] c w := Acc.refl _ _ _
  clear hb
  refine enter (n := 140) (res := #[]) Try.func152 rfl rfl rfl rfl ?_
  refine cseq <| cregion ?_
  refine WR.eff (Eff.boxC c 105 rfl) rfl ?_
  rintro _ w1 ⟨b5, c1, rfl, hM1, hb5⟩
  replace hbv := hbv.mv hM1 rfl; replace hA := hA.mv hM1 rfl
  refine cnil <| cseq ?_
  refine WC.regionD (Kp c1 w1 []) [0, 1, 0, 1, 0, 1, 0, 1, 0, 0, 0, 0] [0, 1, 2, 3, 4, 5, 6, 7, 8, 9, 10, 11] mixed (by kernel_rfl) ?_
  have hM2 := Mv.drew c1 w1 []
  have hCw := Mv.drew c1 w1 []
  generalize w1.drew = w2 at hM2 hCw ⊢
  have hbv0 := hbv
  have hb50 := hb5
  replace hbv := hbv.mv hM2 rfl; replace hA := hA.mv hM2 rfl; replace hb5 := hb5.mv hM2 rfl
  refine qd rfl rfl rfl (fun _ => Val.indexArr arr176 rfl rfl (by first | omega | assumption | (simp; omega) | (simp; done)) (by first | omega | assumption | (simp; omega) | (simp; done))) rfl <| qc rfl rfl rfl hCw.kp (fun W hW => Val.loadB scl3 rfl (hb50.kp hW rfl).blk rfl) rfl <| qd rfl rfl rfl (fun _ => Val.indexArr arr176 rfl rfl (by first | omega | assumption | (simp; omega) | (simp; done)) (by first | omega | assumption | (simp; omega) | (simp; done))) rfl <| qc rfl rfl rfl hCw.kp (fun W hW => Val.loadB scl3 rfl (hb50.kp hW rfl).blk rfl) rfl <| qd rfl rfl rfl (fun _ => Val.indexArr arr176 rfl rfl (by first | omega | assumption | (simp; omega) | (simp; done)) (by first | omega | assumption | (simp; omega) | (simp; done))) rfl <| qc rfl rfl rfl hCw.kp (fun W hW => Val.loadB scl3 rfl (hb50.kp hW rfl).blk rfl) rfl <| qd rfl rfl rfl (fun _ => Val.indexArr arr176 rfl rfl (by first | omega | assumption | (simp; omega) | (simp; done)) (by first | omega | assumption | (simp; omega) | (simp; done))) rfl <| qc rfl rfl rfl hCw.kp (fun W hW => Val.loadB scl3 rfl (hb50.kp hW rfl).blk rfl) rfl <| qd rfl rfl rfl (fun _ => Val.assign rfl) rfl ?_
  refine qd rfl rfl rfl (fun _ => Val.assign rfl) rfl <| qd rfl rfl rfl (fun _ => Val.assign rfl) rfl <| qd rfl rfl rfl (fun _ => Val.assign rfl) rfl ?_
  refine WD.nil ?_
  clear hbv0 hb50
  clear hCw
  refine cseq ?_
  refine WC.regionD (Kp c1 w2 []) [0, 0, 0, 0, 1, 0, 0, 0, 0, 1, 0, 0, 0, 0, 0, 3] [0, 1, 2, 3, 4, 5, 6, 7, 8, 9, 10, 11, 12, 13, 14, 15] mixed (by kernel_rfl) ?_
  have hM3 := Mv.drew c1 w2 []
  have hCw := Mv.drew c1 w2 []
  generalize w2.drew = w3 at hM3 hCw ⊢
  have hbv0 := hbv
  have hb50 := hb5
  replace hbv := hbv.mv hM3 rfl; replace hA := hA.mv hM3 rfl; replace hb5 := hb5.mv hM3 rfl
  refine qd rfl rfl rfl (fun _ => Val.move rfl) rfl <| qd rfl rfl rfl (fun _ => Val.move rfl) rfl <| qd rfl rfl rfl (fun _ => Val.nilCheck rfl) rfl <| qd rfl rfl rfl (fun _ => Val.indexArr arr156 rfl rfl (by first | omega | assumption | (simp; omega) | (simp; done)) (by first | omega | assumption | (simp; omega) | (simp; done))) rfl <| qc rfl rfl rfl hCw.kp (fun W hW => Val.loadW scl136 rfl (hbv0.kp hW rfl).blk (by first | omega | assumption | (simp; omega) | (simp; done))) rfl <| qd rfl rfl rfl (fun _ => Val.move rfl) rfl <| qd rfl rfl rfl (fun _ => Val.move rfl) rfl <| qd rfl rfl rfl (fun _ => Val.nilCheck rfl) rfl <| qd rfl rfl rfl (fun _ => Val.indexArr arr156 rfl rfl (by first | omega | assumption | (simp; omega) | (simp; done)) (by first | omega | assumption | (simp; omega) | (simp; done))) rfl ?_
  refine qc rfl rfl rfl hCw.kp (fun W hW => Val.loadW scl136 rfl (hbv0.kp hW rfl).blk (by first | omega | assumption | (simp; omega) | (simp; done))) rfl <| qd rfl rfl rfl (fun _ => Val.move rfl) rfl <| qd rfl rfl rfl (fun _ => Val.add_u32 rfl rfl) rfl <| qd rfl rfl rfl (fun _ => Val.add_u32 rfl rfl) rfl <| qd rfl rfl rfl (fun _ => Val.nilCheck rfl) rfl <| qd rfl rfl rfl (fun _ => Val.indexArr arr156 rfl rfl (by first | omega | assumption | (simp; omega) | (simp; done)) (by first | omega | assumption | (simp; omega) | (simp; done))) rfl ?_
  refine WD.wild rfl rfl rfl (Eff.storeW scl136 rfl rfl hbv (by first | omega | assumption | (simp; omega) | (simp; done))) ?_
  rintro _ w4 ⟨hS, hM4⟩
  replace hA := hA.mv hM4 rfl; replace hb5 := hb5.mv hM4 rfl
  replace hbv := hS
  refine WD.nil ?_
  clear hbv0 hb50
  clear hCw
  refine cseq ?_
  refine WC.regionD (Kp c1 w4 []) [0, 0, 0, 0, 0, 0, 1, 0, 0, 0, 0, 1, 0, 2, 0, 0, 3] [0, 1, 2, 3, 4, 5, 6, 7, 8, 9, 10, 11, 12, 14, 13, 15, 16] mixed (by kernel_rfl) ?_
  have hM5 := Mv.drew c1 w4 []
  have hCw := Mv.drew c1 w4 []
  generalize w4.drew = w5 at hM5 hCw ⊢
  have hbv0 := hbv
  have hb50 := hb5
  replace hbv := hbv.mv hM5 rfl; replace hA := hA.mv hM5 rfl; replace hb5 := hb5.mv hM5 rfl
  refine qd rfl rfl rfl (fun _ => Val.move rfl) rfl <| qd rfl rfl rfl (fun _ => Val.move rfl) rfl <| qd rfl rfl rfl (fun _ => Val.move rfl) rfl <| qd rfl rfl rfl (fun _ => Val.move rfl) rfl <| qd rfl rfl rfl (fun _ => Val.nilCheck rfl) rfl <| qd rfl rfl rfl (fun _ => Val.indexArr arr156 rfl rfl (by first | omega | assumption | (simp; omega) | (simp; done)) (by first | omega | assumption | (simp; omega) | (simp; done))) rfl <| qc rfl rfl rfl hCw.kp (fun W hW => Val.loadW scl136 rfl (hbv0.kp hW rfl).blk (by first | omega | assumption | (simp; omega) | (simp; done))) rfl <| qd rfl rfl rfl (fun _ => Val.move rfl) rfl <| qd rfl rfl rfl (fun _ => Val.move rfl) rfl ?_
  refine qd rfl rfl rfl (fun _ => Val.nilCheck rfl) rfl <| qd rfl rfl rfl (fun _ => Val.indexArr arr156 rfl rfl (by first | omega | assumption | (simp; omega) | (simp; done)) (by first | omega | assumption | (simp; omega) | (simp; done))) rfl <| qc rfl rfl rfl hCw.kp (fun W hW => Val.loadW scl136 rfl (hbv0.kp hW rfl).blk (by first | omega | assumption | (simp; omega) | (simp; done))) rfl <| qd rfl rfl rfl (fun _ => Val.xor_u32 rfl rfl) rfl <| qd rfl rfl rfl (fun _ => Val.nilCheck rfl) rfl ?_
  refine WD.eff rfl rfl rfl (Eff.pureC c1 1 (Eff.call pf174 rfl (rot_ok _ 16 (by simp)))) rfl ?_
  rintro v48 w6 ⟨c6, hM6, hx6, rfl⟩
  refine ⟨fun hC => hC.step hCw hM6 rfl, ?_⟩
  replace hCw := hCw.tr hM6 rfl
  replace hbv := hbv.mv hM6 rfl; replace hA := hA.mv hM6 rfl; replace hb5 := hb5.mv hM6 rfl
  refine qd rfl rfl rfl (fun _ => Val.indexArr arr156 rfl rfl (by first | omega | assumption | (simp; omega) | (simp; done)) (by first | omega | assumption | (simp; omega) | (simp; done))) rfl ?_
  refine WD.wild rfl rfl rfl (Eff.storeW scl136 rfl rfl hbv (by first | omega | assumption | (simp; omega) | (simp; done))) ?_
  rintro _ w7 ⟨hS, hM7⟩
  replace hA := hA.mv hM7 rfl; replace hb5 := hb5.mv hM7 rfl
  replace hbv := hS
  refine WD.nil ?_
  clear hbv0 hb50
  clear hCw
  refine cseq ?_
  refine WC.regionD (Kp c6 w7 []) [0, 0, 0, 0, 1, 0, 0, 0, 0, 1, 0, 0, 0, 3] [0, 1, 2, 3, 4, 5, 6, 7, 8, 9, 10, 11, 12, 13] mixed (by kernel_rfl) ?_
  have hM8 := Mv.drew c6 w7 []
  have hCw := Mv.drew c6 w7 []
  generalize w7.drew = w8 at hM8 hCw ⊢
  have hbv0 := hbv
  have hb50 := hb5
  replace hbv := hbv.mv hM8 rfl; replace hA := hA.mv hM8 rfl; replace hb5 := hb5.mv hM8 rfl
  refine qd rfl rfl rfl (fun _ => Val.move rfl) rfl <| qd rfl rfl rfl (fun _ => Val.move rfl) rfl <| qd rfl rfl rfl (fun _ => Val.nilCheck rfl) rfl <| qd rfl rfl rfl (fun _ => Val.indexArr arr156 rfl rfl (by first | omega | assumption | (simp; omega) | (simp; done)) (by first | omega | assumption | (simp; omega) | (simp; done))) rfl <| qc rfl rfl rfl hCw.kp (fun W hW => Val.loadW scl136 rfl (hbv0.kp hW rfl).blk (by first | omega | assumption | (simp; omega) | (simp; done))) rfl <| qd rfl rfl rfl (fun _ => Val.move rfl) rfl <| qd rfl rfl rfl (fun _ => Val.move rfl) rfl <| qd rfl rfl rfl (fun _ => Val.nilCheck rfl) rfl <| qd rfl rfl rfl (fun _ => Val.indexArr arr156 rfl rfl (by first | omega | assumption | (simp; omega) | (simp; done)) (by first | omega | assumption | (simp; omega) | (simp; done))) rfl ?_
  refine qc rfl rfl rfl hCw.kp (fun W hW => Val.loadW scl136 rfl (hbv0.kp hW rfl).blk (by first | omega | assumption | (simp; omega) | (simp; done))) rfl <| qd rfl rfl rfl (fun _ => Val.add_u32 rfl rfl) rfl <| qd rfl rfl rfl (fun _ => Val.nilCheck rfl) rfl <| qd rfl rfl rfl (fun _ => Val.indexArr arr156 rfl rfl (by first | omega | assumption | (simp; omega) | (simp; done)) (by first | omega | assumption | (simp; omega) | (simp; done))) rfl ?_
  refine WD.wild rfl rfl rfl (Eff.storeW scl136 rfl rfl hbv (by first | omega | assumption | (simp; omega) | (simp; done))) ?_
  rintro _ w9 ⟨hS, hM9⟩
  replace hA := hA.mv hM9 rfl; replace hb5 := hb5.mv hM9 rfl
  replace hbv := hS
  refine WD.nil ?_
  clear hbv0 hb50
  clear hCw
  refine cseq ?_
  refine WC.regionD (Kp c6 w9 []) [0, 0, 0, 0, 0, 0, 1, 0, 0, 0, 0, 1, 0, 2, 0, 0, 3] [0, 1, 2, 3, 4, 5, 6, 7, 8, 9, 10, 11, 12, 14, 13, 15, 16] mixed (by kernel_rfl) ?_
  have hM10 := Mv.drew c6 w9 []
  have hCw := Mv.drew c6 w9 []
  generalize w9.drew = w10 at hM10 hCw ⊢
  have hbv0 := hbv
  have hb50 := hb5
  replace hbv := hbv.mv hM10 rfl; replace hA := hA.mv hM10 rfl; replace hb5 := hb5.mv hM10 rfl
  refine qd rfl rfl rfl (fun _ => Val.move rfl) rfl <| qd rfl rfl rfl (fun _ => Val.move rfl) rfl <| qd rfl rfl rfl (fun _ => Val.move rfl) rfl <| qd rfl rfl rfl (fun _ => Val.move rfl) rfl <| qd rfl rfl rfl (fun _ => Val.nilCheck rfl) rfl <| qd rfl rfl rfl (fun _ => Val.indexArr arr156 rfl rfl (by first | omega | assumption | (simp; omega) | (simp; done)) (by first | omega | assumption | (simp; omega) | (simp; done))) rfl <| qc rfl rfl rfl hCw.kp (fun W hW => Val.loadW scl136 rfl (hbv0.kp hW rfl).blk (by first | omega | assumption | (simp; omega) | (simp; done))) rfl <| qd rfl rfl rfl (fun _ => Val.move rfl) rfl <| qd rfl rfl rfl (fun _ => Val.move rfl) rfl ?_
  refine qd rfl rfl rfl (fun _ => Val.nilCheck rfl) rfl <| qd rfl rfl rfl (fun _ => Val.indexArr arr156 rfl rfl (by first | omega | assumption | (simp; omega) | (simp; done)) (by first | omega | assumption | (simp; omega) | (simp; done))) rfl <| qc rfl rfl rfl hCw.kp (fun W hW => Val.loadW scl136 rfl (hbv0.kp hW rfl).blk (by first | omega | assumption | (simp; omega) | (simp; done))) rfl <| qd rfl rfl rfl (fun _ => Val.xor_u32 rfl rfl) rfl <| qd rfl rfl rfl (fun _ => Val.nilCheck rfl) rfl ?_
  refine WD.eff rfl rfl rfl (Eff.pureC c6 1 (Eff.call pf174 rfl (rot_ok _ 12 (by simp)))) rfl ?_
  rintro v77 w11 ⟨c11, hM11, hx11, rfl⟩
  refine ⟨fun hC => hC.step hCw hM11 rfl, ?_⟩
  replace hCw := hCw.tr hM11 rfl
  replace hbv := hbv.mv hM11 rfl; replace hA := hA.mv hM11 rfl; replace hb5 := hb5.mv hM11 rfl
  refine qd rfl rfl rfl (fun _ => Val.indexArr arr156 rfl rfl (by first | omega | assumption | (simp; omega) | (simp; done)) (by first | omega | assumption | (simp; omega) | (simp; done))) rfl ?_
  refine WD.wild rfl rfl rfl (Eff.storeW scl136 rfl rfl hbv (by first | omega | assumption | (simp; omega) | (simp; done))) ?_
  rintro _ w12 ⟨hS, hM12⟩
  replace hA := hA.mv hM12 rfl; replace hb5 := hb5.mv hM12 rfl
  replace hbv := hS
  refine WD.nil ?_
  clear hbv0 hb50
  clear hCw
  refine cseq ?_
  refine WC.regionD (Kp c11 w12 []) [0, 0, 0, 0, 1, 0, 0, 0, 0, 1, 0, 0, 0, 0, 0, 3] [0, 1, 2, 3, 4, 5, 6, 7, 8, 9, 10, 11, 12, 13, 14, 15] mixed (by kernel_rfl) ?_
  have hM13 := Mv.drew c11 w12 []
  have hCw := Mv.drew c11 w12 []
  generalize w12.drew = w13 at hM13 hCw ⊢
  have hbv0 := hbv
  have hb50 := hb5
  replace hbv := hbv.mv hM13 rfl; replace hA := hA.mv hM13 rfl; replace hb5 := hb5.mv hM13 rfl
  refine qd rfl rfl rfl (fun _ => Val.move rfl) rfl <| qd rfl rfl rfl (fun _ => Val.move rfl) rfl <| qd rfl rfl rfl (fun _ => Val.nilCheck rfl) rfl <| qd rfl rfl rfl (fun _ => Val.indexArr arr156 rfl rfl (by first | omega | assumption | (simp; omega) | (simp; done)) (by first | omega | assumption | (simp; omega) | (simp; done))) rfl <| qc rfl rfl rfl hCw.kp (fun W hW => Val.loadW scl136 rfl (hbv0.kp hW rfl).blk (by first | omega | assumption | (simp; omega) | (simp; done))) rfl <| qd rfl rfl rfl (fun _ => Val.move rfl) rfl <| qd rfl rfl rfl (fun _ => Val.move rfl) rfl <| qd rfl rfl rfl (fun _ => Val.nilCheck rfl) rfl <| qd rfl rfl rfl (fun _ => Val.indexArr arr156 rfl rfl (by first | omega | assumption | (simp; omega) | (simp; done)) (by first | omega | assumption | (simp; omega) | (simp; done))) rfl ?_
  refine qc rfl rfl rfl hCw.kp (fun W hW => Val.loadW scl136 rfl (hbv0.kp hW rfl).blk (by first | omega | assumption | (simp; omega) | (simp; done))) rfl <| qd rfl rfl rfl (fun _ => Val.move rfl) rfl <| qd rfl rfl rfl (fun _ => Val.add_u32 rfl rfl) rfl <| qd rfl rfl rfl (fun _ => Val.add_u32 rfl rfl) rfl <| qd rfl rfl rfl (fun _ => Val.nilCheck rfl) rfl <| qd rfl rfl rfl (fun _ => Val.indexArr arr156 rfl rfl (by first | omega | assumption | (simp; omega) | (simp; done)) (by first | omega | assumption | (simp; omega) | (simp; done))) rfl ?_
  refine WD.wild rfl rfl rfl (Eff.storeW scl136 rfl rfl hbv (by first | omega | assumption | (simp; omega) | (simp; done))) ?_
  rintro _ w14 ⟨hS, hM14⟩
  replace hA := hA.mv hM14 rfl; replace hb5 := hb5.mv hM14 rfl
  replace hbv := hS
  refine WD.nil ?_
  clear hbv0 hb50
  clear hCw
  refine cseq ?_
  refine WC.regionD (Kp c11 w14 []) [0, 0, 0, 0, 0, 0, 1, 0, 0, 0, 0, 1, 0, 2, 0, 0, 3] [0, 1, 2, 3, 4, 5, 6, 7, 8, 9, 10, 11, 12, 14, 13, 15, 16] mixed (by kernel_rfl) ?_
  have hM15 := Mv.drew c11 w14 []
  have hCw := Mv.drew c11 w14 []
  generalize w14.drew = w15 at hM15 hCw ⊢
  have hbv0 := hbv
  have hb50 := hb5
  replace hbv := hbv.mv hM15 rfl; replace hA := hA.mv hM15 rfl; replace hb5 := hb5.mv hM15 rfl
  refine qd rfl rfl rfl (fun _ => Val.move rfl) rfl <| qd rfl rfl rfl (fun _ => Val.move rfl) rfl <| qd rfl rfl rfl (fun _ => Val.move rfl) rfl <| qd rfl rfl rfl (fun _ => Val.move rfl) rfl <| qd rfl rfl rfl (fun _ => Val.nilCheck rfl) rfl <| qd rfl rfl rfl (fun _ => Val.indexArr arr156 rfl rfl (by first | omega | assumption | (simp; omega) | (simp; done)) (by first | omega | assumption | (simp; omega) | (simp; done))) rfl <| qc rfl rfl rfl hCw.kp (fun W hW => Val.loadW scl136 rfl (hbv0.kp hW rfl).blk (by first | omega | assumption | (simp; omega) | (simp; done))) rfl <| qd rfl rfl rfl (fun _ => Val.move rfl) rfl <| qd rfl rfl rfl (fun _ => Val.move rfl) rfl ?_
  refine qd rfl rfl rfl (fun _ => Val.nilCheck rfl) rfl <| qd rfl rfl rfl (fun _ => Val.indexArr arr156 rfl rfl (by first | omega | assumption | (simp; omega) | (simp; done)) (by first | omega | assumption | (simp; omega) | (simp; done))) rfl <| qc rfl rfl rfl hCw.kp (fun W hW => Val.loadW scl136 rfl (hbv0.kp hW rfl).blk (by first | omega | assumption | (simp; omega) | (simp; done))) rfl <| qd rfl rfl rfl (fun _ => Val.xor_u32 rfl rfl) rfl <| qd rfl rfl rfl (fun _ => Val.nilCheck rfl) rfl ?_
  refine WD.eff rfl rfl rfl (Eff.pureC c11 1 (Eff.call pf174 rfl (rot_ok _ 8 (by simp)))) rfl ?_
  rintro v108 w16 ⟨c16, hM16, hx16, rfl⟩
  refine ⟨fun hC => hC.step hCw hM16 rfl, ?_⟩
  replace hCw := hCw.tr hM16 rfl
  replace hbv := hbv.mv hM16 rfl; replace hA := hA.mv hM16 rfl; replace hb5 := hb5.mv hM16 rfl
  refine qd rfl rfl rfl (fun _ => Val.indexArr arr156 rfl rfl (by first | omega | assumption | (simp; omega) | (simp; done)) (by first | omega | assumption | (simp; omega) | (simp; done))) rfl ?_
  refine WD.wild rfl rfl rfl (Eff.storeW scl136 rfl rfl hbv (by first | omega | assumption | (simp; omega) | (simp; done))) ?_
  rintro _ w17 ⟨hS, hM17⟩
  replace hA := hA.mv hM17 rfl; replace hb5 := hb5.mv hM17 rfl
  replace hbv := hS
  refine WD.nil ?_
  clear hbv0 hb50
  clear hCw
  refine cseq ?_
  refine WC.regionD (Kp c16 w17 []) [0, 0, 0, 0, 1, 0, 0, 0, 0, 1, 0, 0, 0, 3] [0, 1, 2, 3, 4, 5, 6, 7, 8, 9, 10, 11, 12, 13] mixed (by kernel_rfl) ?_
  have hM18 := Mv.drew c16 w17 []
  have hCw := Mv.drew c16 w17 []
  generalize w17.drew = w18 at hM18 hCw ⊢
  have hbv0 := hbv
  have hb50 := hb5
  replace hbv := hbv.mv hM18 rfl; replace hA := hA.mv hM18 rfl; replace hb5 := hb5.mv hM18 rfl
  refine qd rfl rfl rfl (fun _ => Val.move rfl) rfl <| qd rfl rfl rfl (fun _ => Val.move rfl) rfl <| qd rfl rfl rfl (fun _ => Val.nilCheck rfl) rfl <| qd rfl rfl rfl (fun _ => Val.indexArr arr156 rfl rfl (by first | omega | assumption | (simp; omega) | (simp; done)) (by first | omega | assumption | (simp; omega) | (simp; done))) rfl <| qc rfl rfl rfl hCw.kp (fun W hW => Val.loadW scl136 rfl (hbv0.kp hW rfl).blk (by first | omega | assumption | (simp; omega) | (simp; done))) rfl <| qd rfl rfl rfl (fun _ => Val.move rfl) rfl <| qd rfl rfl rfl (fun _ => Val.move rfl) rfl <| qd rfl rfl rfl (fun _ => Val.nilCheck rfl) rfl <| qd rfl rfl rfl (fun _ => Val.indexArr arr156 rfl rfl (by first | omega | assumption | (simp; omega) | (simp; done)) (by first | omega | assumption | (simp; omega) | (simp; done))) rfl ?_
  refine qc rfl rfl rfl hCw.kp (fun W hW => Val.loadW scl136 rfl (hbv0.kp hW rfl).blk (by first | omega | assumption | (simp; omega) | (simp; done))) rfl <| qd rfl rfl rfl (fun _ => Val.add_u32 rfl rfl) rfl <| qd rfl rfl rfl (fun _ => Val.nilCheck rfl) rfl <| qd rfl rfl rfl (fun _ => Val.indexArr arr156 rfl rfl (by first | omega | assumption | (simp; omega) | (simp; done)) (by first | omega | assumption | (simp; omega) | (simp; done))) rfl ?_
  refine WD.wild rfl rfl rfl (Eff.storeW scl136 rfl rfl hbv (by first | omega | assumption | (simp; omega) | (simp; done))) ?_
  rintro _ w19 ⟨hS, hM19⟩
  replace hA := hA.mv hM19 rfl; replace hb5 := hb5.mv hM19 rfl
  replace hbv := hS
  refine WD.nil ?_
  clear hbv0 hb50
  clear hCw
  refine WC.regionD (Kp c16 w19 []) [0, 0, 0, 0, 0, 0, 1, 0, 0, 0, 0, 1, 0, 2, 0, 0, 3] [0, 1, 2, 3, 4, 5, 6, 7, 8, 9, 10, 11, 12, 14, 13, 15, 16] mixed (by kernel_rfl) ?_
  have hM20 := Mv.drew c16 w19 []
  have hCw := Mv.drew c16 w19 []
  generalize w19.drew = w20 at hM20 hCw ⊢
  have hbv0 := hbv
  have hb50 := hb5
  replace hbv := hbv.mv hM20 rfl; replace hA := hA.mv hM20 rfl; replace hb5 := hb5.mv hM20 rfl
  refine qd rfl rfl rfl (fun _ => Val.move rfl) rfl <| qd rfl rfl rfl (fun _ => Val.move rfl) rfl <| qd rfl rfl rfl (fun _ => Val.move rfl) rfl <| qd rfl rfl rfl (fun _ => Val.move rfl) rfl <| qd rfl rfl rfl (fun _ => Val.nilCheck rfl) rfl <| qd rfl rfl rfl (fun _ => Val.indexArr arr156 rfl rfl (by first | omega | assumption | (simp; omega) | (simp; done)) (by first | omega | assumption | (simp; omega) | (simp; done))) rfl <| qc rfl rfl rfl hCw.kp (fun W hW => Val.loadW scl136 rfl (hbv0.kp hW rfl).blk (by first | omega | assumption | (simp; omega) | (simp; done))) rfl <| qd rfl rfl rfl (fun _ => Val.move rfl) rfl <| qd rfl rfl rfl (fun _ => Val.move rfl) rfl ?_
  refine qd rfl rfl rfl (fun _ => Val.nilCheck rfl) rfl <| qd rfl rfl rfl (fun _ => Val.indexArr arr156 rfl rfl (by first | omega | assumption | (simp; omega) | (simp; done)) (by first | omega | assumption | (simp; omega) | (simp; done))) rfl <| qc rfl rfl rfl hCw.kp (fun W hW => Val.loadW scl136 rfl (hbv0.kp hW rfl).blk (by first | omega | assumption | (simp; omega) | (simp; done))) rfl <| qd rfl rfl rfl (fun _ => Val.xor_u32 rfl rfl) rfl <| qd rfl rfl rfl (fun _ => Val.nilCheck rfl) rfl ?_
  refine WD.eff rfl rfl rfl (Eff.pureC c16 1 (Eff.call pf174 rfl (rot_ok _ 7 (by simp)))) rfl ?_
  rintro v137 w21 ⟨c21, hM21, hx21, rfl⟩
  refine ⟨fun hC => hC.step hCw hM21 rfl, ?_⟩
  replace hCw := hCw.tr hM21 rfl
  replace hbv := hbv.mv hM21 rfl; replace hA := hA.mv hM21 rfl; replace hb5 := hb5.mv hM21 rfl
  refine qd rfl rfl rfl (fun _ => Val.indexArr arr156 rfl rfl (by first | omega | assumption | (simp; omega) | (simp; done)) (by first | omega | assumption | (simp; omega) | (simp; done))) rfl ?_
  refine WD.wild rfl rfl rfl (Eff.storeW scl136 rfl rfl hbv (by first | omega | assumption | (simp; omega) | (simp; done))) ?_
  rintro _ w22 ⟨hS, hM22⟩
  replace hA := hA.mv hM22 rfl; replace hb5 := hb5.mv hM22 rfl
  replace hbv := hS
  refine WD.nil ?_
  clear hbv0 hb50
  clear hCw
  refine ⟨_, _, rfl, rfl, ?_⟩
  subst hc
  refine ⟨rfl, hA.grownOne, ?_⟩
  have e := hbv.blk
  simp only [Int.toNat_natCast] at e
  simpa only [mixS, w32_add] using e
end Go.Proofs.Ytnddlhjafkhdoaa
