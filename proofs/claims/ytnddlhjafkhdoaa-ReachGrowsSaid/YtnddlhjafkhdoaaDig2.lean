/- Digests: tables, the page's own mixing. No condition. -/
import Derived.Test.YtnddlhjafkhdoaaDig1
set_option linter.unusedSimpArgs false
set_option linter.unusedVariables false
set_option maxRecDepth 100000
namespace Go.Proofs.Ytnddlhjafkhdoaa
open Go Go.Eng Go.RowKit Silo TryT

theorem rmix_ok {w : World} {b : Nat} {l : List Int} (hb : Blk w b (l.map W32 ++ []) dV) (hl : l.length = 16) (i j k m : Nat) (hi : i < 16) (hj : j < 16) (hk : k < 16) (hm : m < 16) (x y : Int) :
    Calls Try.prog 135 #[.pointer (some ⟨b, 0, none⟩), I (i : Int), I (j : Int), I (k : Int), I (m : Int), W32 x, W32 y] w (Ret fun v w' => w.grownBy w' (some b) ∧ Blk w' b ((mixS l i j k m x y).map W32 ++ []) dV) := by
  obtain ⟨c, hc⟩ : ∃ c : Nat → Nat, c = oneC b := ⟨_, rfl⟩
  have hbv : BlkC c w 2 b (l.map W32 ++ []) dV := ⟨hb, by rw [hc, oneC_at]⟩
  have hA : Acc c w [2] c w := Acc.refl _ _ _
  clear hb
  refine enter (n := 142) (res := #[]) Try.func135 rfl rfl rfl rfl ?_
  refine cseq ?_
  refine WC.regionD (Kp c w []) [0, 0, 0, 0, 0, 0, 1, 0, 0, 0, 0, 1, 0, 0, 0, 0, 0, 3] [0, 1, 2, 3, 4, 5, 6, 7, 8, 9, 10, 11, 12, 13, 14, 15, 16, 17] mixed (by kernel_rfl) ?_
  have hM1 := Mv.drew c w []
  have hCw := Mv.drew c w []
  generalize w.drew = w1 at hM1 hCw ⊢
  have hbv0 := hbv
  replace hbv := hbv.mv hM1 rfl; replace hA := hA.mv hM1 rfl
  refine qd rfl rfl rfl (fun _ => Val.move rfl) rfl <| qd rfl rfl rfl (fun _ => Val.move rfl) rfl <| qd rfl rfl rfl (fun _ => Val.move rfl) rfl <| qd rfl rfl rfl (fun _ => Val.move rfl) rfl <| qd rfl rfl rfl (fun _ => Val.nilCheck rfl) rfl <| qd rfl rfl rfl (fun _ => Val.indexArr arr156 rfl rfl (by first | omega | assumption | (simp; omega) | (simp; done)) (by first | omega | assumption | (simp; omega) | (simp; done))) rfl <| qc rfl rfl rfl hCw.kp (fun W hW => Val.loadW scl136 rfl (hbv0.kp hW rfl).blk (by first | omega | assumption | (simp; omega) | (simp; done))) rfl <| qd rfl rfl rfl (fun _ => Val.move rfl) rfl <| qd rfl rfl rfl (fun _ => Val.move rfl) rfl ?_
  refine qd rfl rfl rfl (fun _ => Val.nilCheck rfl) rfl <| qd rfl rfl rfl (fun _ => Val.indexArr arr156 rfl rfl (by first | omega | assumption | (simp; omega) | (simp; done)) (by first | omega | assumption | (simp; omega) | (simp; done))) rfl <| qc rfl rfl rfl hCw.kp (fun W hW => Val.loadW scl136 rfl (hbv0.kp hW rfl).blk (by first | omega | assumption | (simp; omega) | (simp; done))) rfl <| qd rfl rfl rfl (fun _ => Val.add_u32 rfl rfl) rfl <| qd rfl rfl rfl (fun _ => Val.move rfl) rfl <| qd rfl rfl rfl (fun _ => Val.add_u32 rfl rfl) rfl <| qd rfl rfl rfl (fun _ => Val.nilCheck rfl) rfl <| qd rfl rfl rfl (fun _ => Val.indexArr arr156 rfl rfl (by first | omega | assumption | (simp; omega) | (simp; done)) (by first | omega | assumption | (simp; omega) | (simp; done))) rfl ?_
  refine WD.wild rfl rfl rfl (Eff.storeW scl136 rfl rfl hbv (by first | omega | assumption | (simp; omega) | (simp; done))) ?_
  rintro _ w2 ⟨hS, hM2⟩
  replace hA := hA.mv hM2 rfl
  replace hbv := hS
  refine WD.nil ?_
  clear hbv0
  clear hCw
  refine cseq ?_
  refine WC.regionD (Kp c w2 []) [0, 0, 0, 0, 0, 0, 1, 0, 0, 0, 0, 1, 0, 2, 0, 0, 3] [0, 1, 2, 3, 4, 5, 6, 7, 8, 9, 10, 11, 12, 14, 13, 15, 16] mixed (by kernel_rfl) ?_
  have hM3 := Mv.drew c w2 []
  have hCw := Mv.drew c w2 []
  generalize w2.drew = w3 at hM3 hCw ⊢
  have hbv0 := hbv
  replace hbv := hbv.mv hM3 rfl; replace hA := hA.mv hM3 rfl
  refine qd rfl rfl rfl (fun _ => Val.move rfl) rfl <| qd rfl rfl rfl (fun _ => Val.move rfl) rfl <| qd rfl rfl rfl (fun _ => Val.move rfl) rfl <| qd rfl rfl rfl (fun _ => Val.move rfl) rfl <| qd rfl rfl rfl (fun _ => Val.nilCheck rfl) rfl <| qd rfl rfl rfl (fun _ => Val.indexArr arr156 rfl rfl (by first | omega | assumption | (simp; omega) | (simp; done)) (by first | omega | assumption | (simp; omega) | (simp; done))) rfl <| qc rfl rfl rfl hCw.kp (fun W hW => Val.loadW scl136 rfl (hbv0.kp hW rfl).blk (by first | omega | assumption | (simp; omega) | (simp; done))) rfl <| qd rfl rfl rfl (fun _ => Val.move rfl) rfl <| qd rfl rfl rfl (fun _ => Val.move rfl) rfl ?_
  refine qd rfl rfl rfl (fun _ => Val.nilCheck rfl) rfl <| qd rfl rfl rfl (fun _ => Val.indexArr arr156 rfl rfl (by first | omega | assumption | (simp; omega) | (simp; done)) (by first | omega | assumption | (simp; omega) | (simp; done))) rfl <| qc rfl rfl rfl hCw.kp (fun W hW => Val.loadW scl136 rfl (hbv0.kp hW rfl).blk (by first | omega | assumption | (simp; omega) | (simp; done))) rfl <| qd rfl rfl rfl (fun _ => Val.xor_u32 rfl rfl) rfl <| qd rfl rfl rfl (fun _ => Val.nilCheck rfl) rfl ?_
  refine WD.eff rfl rfl rfl (Eff.pureC c 1 (Eff.call pf154 rfl (rturned_ok _ 16 (by simp)))) rfl ?_
  rintro v44 w4 ⟨c4, hM4, hx4, rfl⟩
  refine ⟨fun hC => hC.step hCw hM4 rfl, ?_⟩
  replace hCw := hCw.tr hM4 rfl
  replace hbv := hbv.mv hM4 rfl; replace hA := hA.mv hM4 rfl
  refine qd rfl rfl rfl (fun _ => Val.indexArr arr156 rfl rfl (by first | omega | assumption | (simp; omega) | (simp; done)) (by first | omega | assumption | (simp; omega) | (simp; done))) rfl ?_
  refine WD.wild rfl rfl rfl (Eff.storeW scl136 rfl rfl hbv (by first | omega | assumption | (simp; omega) | (simp; done))) ?_
  rintro _ w5 ⟨hS, hM5⟩
  replace hA := hA.mv hM5 rfl
  replace hbv := hS
  refine WD.nil ?_
  clear hbv0
  clear hCw
  refine cseq ?_
  refine WC.regionD (Kp c4 w5 []) [0, 0, 0, 0, 0, 0, 1, 0, 0, 0, 0, 1, 0, 0, 0, 3] [0, 1, 2, 3, 4, 5, 6, 7, 8, 9, 10, 11, 12, 13, 14, 15] mixed (by kernel_rfl) ?_
  have hM6 := Mv.drew c4 w5 []
  have hCw := Mv.drew c4 w5 []
  generalize w5.drew = w6 at hM6 hCw ⊢
  have hbv0 := hbv
  replace hbv := hbv.mv hM6 rfl; replace hA := hA.mv hM6 rfl
  refine qd rfl rfl rfl (fun _ => Val.move rfl) rfl <| qd rfl rfl rfl (fun _ => Val.move rfl) rfl <| qd rfl rfl rfl (fun _ => Val.move rfl) rfl <| qd rfl rfl rfl (fun _ => Val.move rfl) rfl <| qd rfl rfl rfl (fun _ => Val.nilCheck rfl) rfl <| qd rfl rfl rfl (fun _ => Val.indexArr arr156 rfl rfl (by first | omega | assumption | (simp; omega) | (simp; done)) (by first | omega | assumption | (simp; omega) | (simp; done))) rfl <| qc rfl rfl rfl hCw.kp (fun W hW => Val.loadW scl136 rfl (hbv0.kp hW rfl).blk (by first | omega | assumption | (simp; omega) | (simp; done))) rfl <| qd rfl rfl rfl (fun _ => Val.move rfl) rfl <| qd rfl rfl rfl (fun _ => Val.move rfl) rfl ?_
  refine qd rfl rfl rfl (fun _ => Val.nilCheck rfl) rfl <| qd rfl rfl rfl (fun _ => Val.indexArr arr156 rfl rfl (by first | omega | assumption | (simp; omega) | (simp; done)) (by first | omega | assumption | (simp; omega) | (simp; done))) rfl <| qc rfl rfl rfl hCw.kp (fun W hW => Val.loadW scl136 rfl (hbv0.kp hW rfl).blk (by first | omega | assumption | (simp; omega) | (simp; done))) rfl <| qd rfl rfl rfl (fun _ => Val.add_u32 rfl rfl) rfl <| qd rfl rfl rfl (fun _ => Val.nilCheck rfl) rfl <| qd rfl rfl rfl (fun _ => Val.indexArr arr156 rfl rfl (by first | omega | assumption | (simp; omega) | (simp; done)) (by first | omega | assumption | (simp; omega) | (simp; done))) rfl ?_
  refine WD.wild rfl rfl rfl (Eff.storeW scl136 rfl rfl hbv (by first | omega | assumption | (simp; omega) | (simp; done))) ?_
  rintro _ w7 ⟨hS, hM7⟩
  replace hA := hA.mv hM7 rfl
  replace hbv := hS
  refine WD.nil ?_
  clear hbv0
  clear hCw
  refine cseq ?_
  refine WC.regionD (Kp c4 w7 []) [0, 0, 0, 0, 0, 0, 1, 0, 0, 0, 0, 1, 0, 2, 0, 0, 3] [0, 1, 2, 3, 4, 5, 6, 7, 8, 9, 10, 11, 12, 14, 13, 15, 16] mixed (by kernel_rfl) ?_
  have hM8 := Mv.drew c4 w7 []
  have hCw := Mv.drew c4 w7 []
  generalize w7.drew = w8 at hM8 hCw ⊢
  have hbv0 := hbv
  replace hbv := hbv.mv hM8 rfl; replace hA := hA.mv hM8 rfl
  refine qd rfl rfl rfl (fun _ => Val.move rfl) rfl <| qd rfl rfl rfl (fun _ => Val.move rfl) rfl <| qd rfl rfl rfl (fun _ => Val.move rfl) rfl <| qd rfl rfl rfl (fun _ => Val.move rfl) rfl <| qd rfl rfl rfl (fun _ => Val.nilCheck rfl) rfl <| qd rfl rfl rfl (fun _ => Val.indexArr arr156 rfl rfl (by first | omega | assumption | (simp; omega) | (simp; done)) (by first | omega | assumption | (simp; omega) | (simp; done))) rfl <| qc rfl rfl rfl hCw.kp (fun W hW => Val.loadW scl136 rfl (hbv0.kp hW rfl).blk (by first | omega | assumption | (simp; omega) | (simp; done))) rfl <| qd rfl rfl rfl (fun _ => Val.move rfl) rfl <| qd rfl rfl rfl (fun _ => Val.move rfl) rfl ?_
  refine qd rfl rfl rfl (fun _ => Val.nilCheck rfl) rfl <| qd rfl rfl rfl (fun _ => Val.indexArr arr156 rfl rfl (by first | omega | assumption | (simp; omega) | (simp; done)) (by first | omega | assumption | (simp; omega) | (simp; done))) rfl <| qc rfl rfl rfl hCw.kp (fun W hW => Val.loadW scl136 rfl (hbv0.kp hW rfl).blk (by first | omega | assumption | (simp; omega) | (simp; done))) rfl <| qd rfl rfl rfl (fun _ => Val.xor_u32 rfl rfl) rfl <| qd rfl rfl rfl (fun _ => Val.nilCheck rfl) rfl ?_
  refine WD.eff rfl rfl rfl (Eff.pureC c4 1 (Eff.call pf154 rfl (rturned_ok _ 12 (by simp)))) rfl ?_
  rintro v75 w9 ⟨c9, hM9, hx9, rfl⟩
  refine ⟨fun hC => hC.step hCw hM9 rfl, ?_⟩
  replace hCw := hCw.tr hM9 rfl
  replace hbv := hbv.mv hM9 rfl; replace hA := hA.mv hM9 rfl
  refine qd rfl rfl rfl (fun _ => Val.indexArr arr156 rfl rfl (by first | omega | assumption | (simp; omega) | (simp; done)) (by first | omega | assumption | (simp; omega) | (simp; done))) rfl ?_
  refine WD.wild rfl rfl rfl (Eff.storeW scl136 rfl rfl hbv (by first | omega | assumption | (simp; omega) | (simp; done))) ?_
  rintro _ w10 ⟨hS, hM10⟩
  replace hA := hA.mv hM10 rfl
  replace hbv := hS
  refine WD.nil ?_
  clear hbv0
  clear hCw
  refine cseq ?_
  refine WC.regionD (Kp c9 w10 []) [0, 0, 0, 0, 0, 0, 1, 0, 0, 0, 0, 1, 0, 0, 0, 0, 0, 3] [0, 1, 2, 3, 4, 5, 6, 7, 8, 9, 10, 11, 12, 13, 14, 15, 16, 17] mixed (by kernel_rfl) ?_
  have hM11 := Mv.drew c9 w10 []
  have hCw := Mv.drew c9 w10 []
  generalize w10.drew = w11 at hM11 hCw ⊢
  have hbv0 := hbv
  replace hbv := hbv.mv hM11 rfl; replace hA := hA.mv hM11 rfl
  refine qd rfl rfl rfl (fun _ => Val.move rfl) rfl <| qd rfl rfl rfl (fun _ => Val.move rfl) rfl <| qd rfl rfl rfl (fun _ => Val.move rfl) rfl <| qd rfl rfl rfl (fun _ => Val.move rfl) rfl <| qd rfl rfl rfl (fun _ => Val.nilCheck rfl) rfl <| qd rfl rfl rfl (fun _ => Val.indexArr arr156 rfl rfl (by first | omega | assumption | (simp; omega) | (simp; done)) (by first | omega | assumption | (simp; omega) | (simp; done))) rfl <| qc rfl rfl rfl hCw.kp (fun W hW => Val.loadW scl136 rfl (hbv0.kp hW rfl).blk (by first | omega | assumption | (simp; omega) | (simp; done))) rfl <| qd rfl rfl rfl (fun _ => Val.move rfl) rfl <| qd rfl rfl rfl (fun _ => Val.move rfl) rfl ?_
  refine qd rfl rfl rfl (fun _ => Val.nilCheck rfl) rfl <| qd rfl rfl rfl (fun _ => Val.indexArr arr156 rfl rfl (by first | omega | assumption | (simp; omega) | (simp; done)) (by first | omega | assumption | (simp; omega) | (simp; done))) rfl <| qc rfl rfl rfl hCw.kp (fun W hW => Val.loadW scl136 rfl (hbv0.kp hW rfl).blk (by first | omega | assumption | (simp; omega) | (simp; done))) rfl <| qd rfl rfl rfl (fun _ => Val.add_u32 rfl rfl) rfl <| qd rfl rfl rfl (fun _ => Val.move rfl) rfl <| qd rfl rfl rfl (fun _ => Val.add_u32 rfl rfl) rfl <| qd rfl rfl rfl (fun _ => Val.nilCheck rfl) rfl <| qd rfl rfl rfl (fun _ => Val.indexArr arr156 rfl rfl (by first | omega | assumption | (simp; omega) | (simp; done)) (by first | omega | assumption | (simp; omega) | (simp; done))) rfl ?_
  refine WD.wild rfl rfl rfl (Eff.storeW scl136 rfl rfl hbv (by first | omega | assumption | (simp; omega) | (simp; done))) ?_
  rintro _ w12 ⟨hS, hM12⟩
  replace hA := hA.mv hM12 rfl
  replace hbv := hS
  refine WD.nil ?_
  clear hbv0
  clear hCw
  refine cseq ?_
  refine WC.regionD (Kp c9 w12 []) [0, 0, 0, 0, 0, 0, 1, 0, 0, 0, 0, 1, 0, 2, 0, 0, 3] [0, 1, 2, 3, 4, 5, 6, 7, 8, 9, 10, 11, 12, 14, 13, 15, 16] mixed (by kernel_rfl) ?_
  have hM13 := Mv.drew c9 w12 []
  have hCw := Mv.drew c9 w12 []
  generalize w12.drew = w13 at hM13 hCw ⊢
  have hbv0 := hbv
  replace hbv := hbv.mv hM13 rfl; replace hA := hA.mv hM13 rfl
  refine qd rfl rfl rfl (fun _ => Val.move rfl) rfl <| qd rfl rfl rfl (fun _ => Val.move rfl) rfl <| qd rfl rfl rfl (fun _ => Val.move rfl) rfl <| qd rfl rfl rfl (fun _ => Val.move rfl) rfl <| qd rfl rfl rfl (fun _ => Val.nilCheck rfl) rfl <| qd rfl rfl rfl (fun _ => Val.indexArr arr156 rfl rfl (by first | omega | assumption | (simp; omega) | (simp; done)) (by first | omega | assumption | (simp; omega) | (simp; done))) rfl <| qc rfl rfl rfl hCw.kp (fun W hW => Val.loadW scl136 rfl (hbv0.kp hW rfl).blk (by first | omega | assumption | (simp; omega) | (simp; done))) rfl <| qd rfl rfl rfl (fun _ => Val.move rfl) rfl <| qd rfl rfl rfl (fun _ => Val.move rfl) rfl ?_
  refine qd rfl rfl rfl (fun _ => Val.nilCheck rfl) rfl <| qd rfl rfl rfl (fun _ => Val.indexArr arr156 rfl rfl (by first | omega | assumption | (simp; omega) | (simp; done)) (by first | omega | assumption | (simp; omega) | (simp; done))) rfl <| qc rfl rfl rfl hCw.kp (fun W hW => Val.loadW scl136 rfl (hbv0.kp hW rfl).blk (by first | omega | assumption | (simp; omega) | (simp; done))) rfl <| qd rfl rfl rfl (fun _ => Val.xor_u32 rfl rfl) rfl <| qd rfl rfl rfl (fun _ => Val.nilCheck rfl) rfl ?_
  refine WD.eff rfl rfl rfl (Eff.pureC c9 1 (Eff.call pf154 rfl (rturned_ok _ 8 (by simp)))) rfl ?_
  rintro v108 w14 ⟨c14, hM14, hx14, rfl⟩
  refine ⟨fun hC => hC.step hCw hM14 rfl, ?_⟩
  replace hCw := hCw.tr hM14 rfl
  replace hbv := hbv.mv hM14 rfl; replace hA := hA.mv hM14 rfl
  refine qd rfl rfl rfl (fun _ => Val.indexArr arr156 rfl rfl (by first | omega | assumption | (simp; omega) | (simp; done)) (by first | omega | assumption | (simp; omega) | (simp; done))) rfl ?_
  refine WD.wild rfl rfl rfl (Eff.storeW scl136 rfl rfl hbv (by first | omega | assumption | (simp; omega) | (simp; done))) ?_
  rintro _ w15 ⟨hS, hM15⟩
  replace hA := hA.mv hM15 rfl
  replace hbv := hS
  refine WD.nil ?_
  clear hbv0
  clear hCw
  refine cseq ?_
  refine WC.regionD (Kp c14 w15 []) [0, 0, 0, 0, 0, 0, 1, 0, 0, 0, 0, 1, 0, 0, 0, 3] [0, 1, 2, 3, 4, 5, 6, 7, 8, 9, 10, 11, 12, 13, 14, 15] mixed (by kernel_rfl) ?_
  have hM16 := Mv.drew c14 w15 []
  have hCw := Mv.drew c14 w15 []
  generalize w15.drew = w16 at hM16 hCw ⊢
  have hbv0 := hbv
  replace hbv := hbv.mv hM16 rfl; replace hA := hA.mv hM16 rfl
  refine qd rfl rfl rfl (fun _ => Val.move rfl) rfl <| qd rfl rfl rfl (fun _ => Val.move rfl) rfl <| qd rfl rfl rfl (fun _ => Val.move rfl) rfl <| qd rfl rfl rfl (fun _ => Val.move rfl) rfl <| qd rfl rfl rfl (fun _ => Val.nilCheck rfl) rfl <| qd rfl rfl rfl (fun _ => Val.indexArr arr156 rfl rfl (by first | omega | assumption | (simp; omega) | (simp; done)) (by first | omega | assumption | (simp; omega) | (simp; done))) rfl <| qc rfl rfl rfl hCw.kp (fun W hW => Val.loadW scl136 rfl (hbv0.kp hW rfl).blk (by first | omega | assumption | (simp; omega) | (simp; done))) rfl <| qd rfl rfl rfl (fun _ => Val.move rfl) rfl <| qd rfl rfl rfl (fun _ => Val.move rfl) rfl ?_
  refine qd rfl rfl rfl (fun _ => Val.nilCheck rfl) rfl <| qd rfl rfl rfl (fun _ => Val.indexArr arr156 rfl rfl (by first | omega | assumption | (simp; omega) | (simp; done)) (by first | omega | assumption | (simp; omega) | (simp; done))) rfl <| qc rfl rfl rfl hCw.kp (fun W hW => Val.loadW scl136 rfl (hbv0.kp hW rfl).blk (by first | omega | assumption | (simp; omega) | (simp; done))) rfl <| qd rfl rfl rfl (fun _ => Val.add_u32 rfl rfl) rfl <| qd rfl rfl rfl (fun _ => Val.nilCheck rfl) rfl <| qd rfl rfl rfl (fun _ => Val.indexArr arr156 rfl rfl (by first | omega | assumption | (simp; omega) | (simp; done)) (by first | omega | assumption | (simp; omega) | (simp; done))) rfl ?_
  refine WD.wild rfl rfl rfl (Eff.storeW scl136 rfl rfl hbv (by first | omega | assumption | (simp; omega) | (simp; done))) ?_
  rintro _ w17 ⟨hS, hM17⟩
  replace hA := hA.mv hM17 rfl
  replace hbv := hS
  refine WD.nil ?_
  clear hbv0
  clear hCw
  refine WC.regionD (Kp c14 w17 []) [0, 0, 0, 0, 0, 0, 1, 0, 0, 0, 0, 1, 0, 2, 0, 0, 3] [0, 1, 2, 3, 4, 5, 6, 7, 8, 9, 10, 11, 12, 14, 13, 15, 16] mixed (by kernel_rfl) ?_
  have hM18 := Mv.drew c14 w17 []
  have hCw := Mv.drew c14 w17 []
  generalize w17.drew = w18 at hM18 hCw ⊢
  have hbv0 := hbv
  replace hbv := hbv.mv hM18 rfl; replace hA := hA.mv hM18 rfl
  refine qd rfl rfl rfl (fun _ => Val.move rfl) rfl <| qd rfl rfl rfl (fun _ => Val.move rfl) rfl <| qd rfl rfl rfl (fun _ => Val.move rfl) rfl <| qd rfl rfl rfl (fun _ => Val.move rfl) rfl <| qd rfl rfl rfl (fun _ => Val.nilCheck rfl) rfl <| qd rfl rfl rfl (fun _ => Val.indexArr arr156 rfl rfl (by first | omega | assumption | (simp; omega) | (simp; done)) (by first | omega | assumption | (simp; omega) | (simp; done))) rfl <| qc rfl rfl rfl hCw.kp (fun W hW => Val.loadW scl136 rfl (hbv0.kp hW rfl).blk (by first | omega | assumption | (simp; omega) | (simp; done))) rfl <| qd rfl rfl rfl (fun _ => Val.move rfl) rfl <| qd rfl rfl rfl (fun _ => Val.move rfl) rfl ?_
  refine qd rfl rfl rfl (fun _ => Val.nilCheck rfl) rfl <| qd rfl rfl rfl (fun _ => Val.indexArr arr156 rfl rfl (by first | omega | assumption | (simp; omega) | (simp; done)) (by first | omega | assumption | (simp; omega) | (simp; done))) rfl <| qc rfl rfl rfl hCw.kp (fun W hW => Val.loadW scl136 rfl (hbv0.kp hW rfl).blk (by first | omega | assumption | (simp; omega) | (simp; done))) rfl <| qd rfl rfl rfl (fun _ => Val.xor_u32 rfl rfl) rfl <| qd rfl rfl rfl (fun _ => Val.nilCheck rfl) rfl ?_
  refine WD.eff rfl rfl rfl (Eff.pureC c14 1 (Eff.call pf154 rfl (rturned_ok _ 7 (by simp)))) rfl ?_
  rintro v139 w19 ⟨c19, hM19, hx19, rfl⟩
  refine ⟨fun hC => hC.step hCw hM19 rfl, ?_⟩
  replace hCw := hCw.tr hM19 rfl
  replace hbv := hbv.mv hM19 rfl; replace hA := hA.mv hM19 rfl
  refine qd rfl rfl rfl (fun _ => Val.indexArr arr156 rfl rfl (by first | omega | assumption | (simp; omega) | (simp; done)) (by first | omega | assumption | (simp; omega) | (simp; done))) rfl ?_
  refine WD.wild rfl rfl rfl (Eff.storeW scl136 rfl rfl hbv (by first | omega | assumption | (simp; omega) | (simp; done))) ?_
  rintro _ w20 ⟨hS, hM20⟩
  replace hA := hA.mv hM20 rfl
  replace hbv := hS
  refine WD.nil ?_
  clear hbv0
  clear hCw
  refine ⟨_, _, rfl, rfl, ?_⟩
  subst hc
  refine ⟨rfl, hA.grownOne, ?_⟩
  have e := hbv.blk
  simp only [Int.toNat_natCast] at e
  simpa only [mixS] using e

abbrev rowsV : List Value := rowsL.flatMap fun l => l.map fun n => I ((n : Nat) : Int)
abbrev quartV : List Value := quartL.flatMap fun l => l.map fun n => I ((n : Nat) : Int)
theorem rbegins_ok {w : World} : Calls Try.prog 115 #[] w (Ret fun v w' => Below w.heap.size w w' ∧ v = .agg (beginsL.map W32).toArray) := by
  obtain ⟨c, hO, hc⟩ := OldC.start w
  refine enter (n := 2) (res := #[.cell 0 137]) Try.func115 rfl rfl rfl rfl ?_
  refine cseq <| cregion ?_
  refine WR.eff (Eff.allocC c 100 zero137) rfl ?_
  rintro _ w1 ⟨b0, c1, rfl, hM1, hb0⟩
  replace hO := hO.mv hM1 rfl
  refine cnil <| cseq <| cregion <| qq (Val.build (cells := #[.int .u32 1779033703, .int .u32 3144134277, .int .u32 1013904242, .int .u32 2773480762, .int .u32 1359893119, .int .u32 2600822924, .int .u32 528734635, .int .u32 1541459225]) rfl (by kernel_rfl)) rfl ?_
  refine WR.eff_ (Eff.storeNC agg137 rfl rfl hb0 rfl rfl (by repeat (first | exact List.forall_mem_nil _ | refine List.forall_mem_cons.2 ⟨by first | rfl | assumption, ?_⟩))) ?_
  rintro _ w2 ⟨hS, hM2⟩
  replace hO := hO.mv hM2 rfl
  replace hb0 := hS
  refine cnil ?_
  refine WC.retR1 rfl (RVal.cellN agg137 rfl hb0.blk rfl) ?_
  exact ⟨hO.below, rfl⟩
theorem begins_ok {w : World} : Calls Try.prog 131 #[] w (Ret fun v w' => Below w.heap.size w w' ∧ v = .agg (beginsL.map W32).toArray) := by
  obtain ⟨c, hO, hc⟩ := OldC.start w
  refine enter (n := 2) (res := #[.cell 0 137]) Try.func131 rfl rfl rfl rfl ?_
  refine cseq <| cregion ?_
  refine WR.eff (Eff.allocC c 100 zero137) rfl ?_
  rintro _ w1 ⟨b0, c1, rfl, hM1, hb0⟩
  replace hO := hO.mv hM1 rfl
  refine cnil <| cseq <| cregion <| qq (Val.build (cells := #[.int .u32 1779033703, .int .u32 3144134277, .int .u32 1013904242, .int .u32 2773480762, .int .u32 1359893119, .int .u32 2600822924, .int .u32 528734635, .int .u32 1541459225]) rfl (by kernel_rfl)) rfl ?_
  refine WR.eff_ (Eff.storeNC agg137 rfl rfl hb0 rfl rfl (by repeat (first | exact List.forall_mem_nil _ | refine List.forall_mem_cons.2 ⟨by first | rfl | assumption, ?_⟩))) ?_
  rintro _ w2 ⟨hS, hM2⟩
  replace hO := hO.mv hM2 rfl
  replace hb0 := hS
  refine cnil ?_
  refine WC.retR1 rfl (RVal.cellN agg137 rfl hb0.blk rfl) ?_
  exact ⟨hO.below, rfl⟩
theorem rows_ok {w : World} : Calls Try.prog 134 #[] w (Ret fun v w' => Below w.heap.size w w' ∧ v = .agg rowsV.toArray) := by
  obtain ⟨c, hO, hc⟩ := OldC.start w
  refine enter (n := 12) (res := #[.cell 0 158]) Try.func134 rfl rfl rfl rfl ?_
  refine cseq <| cregion ?_
  refine WR.eff (Eff.allocC c 100 zero158) rfl ?_
  rintro _ w1 ⟨b0, c1, rfl, hM1, hb0⟩
  replace hO := hO.mv hM1 rfl
  refine cnil <| cseq <| cregion <| qq (Val.build (cells := #[.int .i64 0, .int .i64 1, .int .i64 2, .int .i64 3, .int .i64 4, .int .i64 5, .int .i64 6, .int .i64 7, .int .i64 8, .int .i64 9, .int .i64 10, .int .i64 11, .int .i64 12, .int .i64 13, .int .i64 14, .int .i64 15]) rfl (by kernel_rfl)) rfl <| qq (Val.build (cells := #[.int .i64 14, .int .i64 10, .int .i64 4, .int .i64 8, .int .i64 9, .int .i64 15, .int .i64 13, .int .i64 6, .int .i64 1, .int .i64 12, .int .i64 0, .int .i64 2, .int .i64 11, .int .i64 7, .int .i64 5, .int .i64 3]) rfl (by kernel_rfl)) rfl <| qq (Val.build (cells := #[.int .i64 11, .int .i64 8, .int .i64 12, .int .i64 0, .int .i64 5, .int .i64 2, .int .i64 15, .int .i64 13, .int .i64 10, .int .i64 14, .int .i64 3, .int .i64 6, .int .i64 7, .int .i64 1, .int .i64 9, .int .i64 4]) rfl (by kernel_rfl)) rfl <| qq (Val.build (cells := #[.int .i64 7, .int .i64 9, .int .i64 3, .int .i64 1, .int .i64 13, .int .i64 12, .int .i64 11, .int .i64 14, .int .i64 2, .int .i64 6, .int .i64 5, .int .i64 10, .int .i64 4, .int .i64 0, .int .i64 15, .int .i64 8]) rfl (by kernel_rfl)) rfl <| qq (Val.build (cells := #[.int .i64 9, .int .i64 0, .int .i64 5, .int .i64 7, .int .i64 2, .int .i64 4, .int .i64 10, .int .i64 15, .int .i64 14, .int .i64 1, .int .i64 11, .int .i64 12, .int .i64 6, .int .i64 8, .int .i64 3, .int .i64 13]) rfl (by kernel_rfl)) rfl <| qq (Val.build (cells := #[.int .i64 2, .int .i64 12, .int .i64 6, .int .i64 10, .int .i64 0, .int .i64 11, .int .i64 8, .int .i64 3, .int .i64 4, .int .i64 13, .int .i64 7, .int .i64 5, .int .i64 15, .int .i64 14, .int .i64 1, .int .i64 9]) rfl (by kernel_rfl)) rfl ?_
  refine qq (Val.build (cells := #[.int .i64 12, .int .i64 5, .int .i64 1, .int .i64 15, .int .i64 14, .int .i64 13, .int .i64 4, .int .i64 10, .int .i64 0, .int .i64 7, .int .i64 6, .int .i64 3, .int .i64 9, .int .i64 2, .int .i64 8, .int .i64 11]) rfl (by kernel_rfl)) rfl <| qq (Val.build (cells := #[.int .i64 13, .int .i64 11, .int .i64 7, .int .i64 14, .int .i64 12, .int .i64 1, .int .i64 3, .int .i64 9, .int .i64 5, .int .i64 0, .int .i64 15, .int .i64 4, .int .i64 8, .int .i64 6, .int .i64 2, .int .i64 10]) rfl (by kernel_rfl)) rfl <| qq (Val.build (cells := #[.int .i64 6, .int .i64 15, .int .i64 14, .int .i64 9, .int .i64 11, .int .i64 3, .int .i64 0, .int .i64 8, .int .i64 12, .int .i64 2, .int .i64 13, .int .i64 7, .int .i64 1, .int .i64 4, .int .i64 10, .int .i64 5]) rfl (by kernel_rfl)) rfl <| qq (Val.build (cells := #[.int .i64 10, .int .i64 2, .int .i64 8, .int .i64 4, .int .i64 7, .int .i64 6, .int .i64 1, .int .i64 5, .int .i64 15, .int .i64 11, .int .i64 9, .int .i64 14, .int .i64 3, .int .i64 12, .int .i64 13, .int .i64 0]) rfl (by kernel_rfl)) rfl <| qq (Val.build (cells := #[.int .i64 0, .int .i64 1, .int .i64 2, .int .i64 3, .int .i64 4, .int .i64 5, .int .i64 6, .int .i64 7, .int .i64 8, .int .i64 9, .int .i64 10, .int .i64 11, .int .i64 12, .int .i64 13, .int .i64 14, .int .i64 15, .int .i64 14, .int .i64 10, .int .i64 4, .int .i64 8, .int .i64 9, .int .i64 15, .int .i64 13, .int .i64 6, .int .i64 1, .int .i64 12, .int .i64 0, .int .i64 2, .int .i64 11, .int .i64 7, .int .i64 5, .int .i64 3, .int .i64 11, .int .i64 8, .int .i64 12, .int .i64 0, .int .i64 5, .int .i64 2, .int .i64 15, .int .i64 13, .int .i64 10, .int .i64 14, .int .i64 3, .int .i64 6, .int .i64 7, .int .i64 1, .int .i64 9, .int .i64 4, .int .i64 7, .int .i64 9, .int .i64 3, .int .i64 1, .int .i64 13, .int .i64 12, .int .i64 11, .int .i64 14, .int .i64 2, .int .i64 6, .int .i64 5, .int .i64 10, .int .i64 4, .int .i64 0, .int .i64 15, .int .i64 8, .int .i64 9, .int .i64 0, .int .i64 5, .int .i64 7, .int .i64 2, .int .i64 4, .int .i64 10, .int .i64 15, .int .i64 14, .int .i64 1, .int .i64 11, .int .i64 12, .int .i64 6, .int .i64 8, .int .i64 3, .int .i64 13, .int .i64 2, .int .i64 12, .int .i64 6, .int .i64 10, .int .i64 0, .int .i64 11, .int .i64 8, .int .i64 3, .int .i64 4, .int .i64 13, .int .i64 7, .int .i64 5, .int .i64 15, .int .i64 14, .int .i64 1, .int .i64 9, .int .i64 12, .int .i64 5, .int .i64 1, .int .i64 15, .int .i64 14, .int .i64 13, .int .i64 4, .int .i64 10, .int .i64 0, .int .i64 7, .int .i64 6, .int .i64 3, .int .i64 9, .int .i64 2, .int .i64 8, .int .i64 11, .int .i64 13, .int .i64 11, .int .i64 7, .int .i64 14, .int .i64 12, .int .i64 1, .int .i64 3, .int .i64 9, .int .i64 5, .int .i64 0, .int .i64 15, .int .i64 4, .int .i64 8, .int .i64 6, .int .i64 2, .int .i64 10, .int .i64 6, .int .i64 15, .int .i64 14, .int .i64 9, .int .i64 11, .int .i64 3, .int .i64 0, .int .i64 8, .int .i64 12, .int .i64 2, .int .i64 13, .int .i64 7, .int .i64 1, .int .i64 4, .int .i64 10, .int .i64 5, .int .i64 10, .int .i64 2, .int .i64 8, .int .i64 4, .int .i64 7, .int .i64 6, .int .i64 1, .int .i64 5, .int .i64 15, .int .i64 11, .int .i64 9, .int .i64 14, .int .i64 3, .int .i64 12, .int .i64 13, .int .i64 0]) rfl (by kernel_rfl)) rfl ?_
  refine WR.eff_ (Eff.storeNC agg158 rfl rfl hb0 rfl rfl (by repeat (first | exact List.forall_mem_nil _ | refine List.forall_mem_cons.2 ⟨by first | rfl | assumption, ?_⟩))) ?_
  rintro _ w2 ⟨hS, hM2⟩
  replace hO := hO.mv hM2 rfl
  replace hb0 := hS
  refine cnil ?_
  refine WC.retR1 rfl (RVal.cellN agg158 rfl hb0.blk rfl) ?_
  exact ⟨hO.below, rfl⟩
theorem orders_ok {w : World} : Calls Try.prog 150 #[] w (Ret fun v w' => Below w.heap.size w w' ∧ v = .agg rowsV.toArray) := by
  obtain ⟨c, hO, hc⟩ := OldC.start w
  refine enter (n := 12) (res := #[.cell 0 158]) Try.func150 rfl rfl rfl rfl ?_
  refine cseq <| cregion ?_
  refine WR.eff (Eff.allocC c 100 zero158) rfl ?_
  rintro _ w1 ⟨b0, c1, rfl, hM1, hb0⟩
  replace hO := hO.mv hM1 rfl
  refine cnil <| cseq <| cregion <| qq (Val.build (cells := #[.int .i64 0, .int .i64 1, .int .i64 2, .int .i64 3, .int .i64 4, .int .i64 5, .int .i64 6, .int .i64 7, .int .i64 8, .int .i64 9, .int .i64 10, .int .i64 11, .int .i64 12, .int .i64 13, .int .i64 14, .int .i64 15]) rfl (by kernel_rfl)) rfl <| qq (Val.build (cells := #[.int .i64 14, .int .i64 10, .int .i64 4, .int .i64 8, .int .i64 9, .int .i64 15, .int .i64 13, .int .i64 6, .int .i64 1, .int .i64 12, .int .i64 0, .int .i64 2, .int .i64 11, .int .i64 7, .int .i64 5, .int .i64 3]) rfl (by kernel_rfl)) rfl <| qq (Val.build (cells := #[.int .i64 11, .int .i64 8, .int .i64 12, .int .i64 0, .int .i64 5, .int .i64 2, .int .i64 15, .int .i64 13, .int .i64 10, .int .i64 14, .int .i64 3, .int .i64 6, .int .i64 7, .int .i64 1, .int .i64 9, .int .i64 4]) rfl (by kernel_rfl)) rfl <| qq (Val.build (cells := #[.int .i64 7, .int .i64 9, .int .i64 3, .int .i64 1, .int .i64 13, .int .i64 12, .int .i64 11, .int .i64 14, .int .i64 2, .int .i64 6, .int .i64 5, .int .i64 10, .int .i64 4, .int .i64 0, .int .i64 15, .int .i64 8]) rfl (by kernel_rfl)) rfl <| qq (Val.build (cells := #[.int .i64 9, .int .i64 0, .int .i64 5, .int .i64 7, .int .i64 2, .int .i64 4, .int .i64 10, .int .i64 15, .int .i64 14, .int .i64 1, .int .i64 11, .int .i64 12, .int .i64 6, .int .i64 8, .int .i64 3, .int .i64 13]) rfl (by kernel_rfl)) rfl <| qq (Val.build (cells := #[.int .i64 2, .int .i64 12, .int .i64 6, .int .i64 10, .int .i64 0, .int .i64 11, .int .i64 8, .int .i64 3, .int .i64 4, .int .i64 13, .int .i64 7, .int .i64 5, .int .i64 15, .int .i64 14, .int .i64 1, .int .i64 9]) rfl (by kernel_rfl)) rfl ?_
  refine qq (Val.build (cells := #[.int .i64 12, .int .i64 5, .int .i64 1, .int .i64 15, .int .i64 14, .int .i64 13, .int .i64 4, .int .i64 10, .int .i64 0, .int .i64 7, .int .i64 6, .int .i64 3, .int .i64 9, .int .i64 2, .int .i64 8, .int .i64 11]) rfl (by kernel_rfl)) rfl <| qq (Val.build (cells := #[.int .i64 13, .int .i64 11, .int .i64 7, .int .i64 14, .int .i64 12, .int .i64 1, .int .i64 3, .int .i64 9, .int .i64 5, .int .i64 0, .int .i64 15, .int .i64 4, .int .i64 8, .int .i64 6, .int .i64 2, .int .i64 10]) rfl (by kernel_rfl)) rfl <| qq (Val.build (cells := #[.int .i64 6, .int .i64 15, .int .i64 14, .int .i64 9, .int .i64 11, .int .i64 3, .int .i64 0, .int .i64 8, .int .i64 12, .int .i64 2, .int .i64 13, .int .i64 7, .int .i64 1, .int .i64 4, .int .i64 10, .int .i64 5]) rfl (by kernel_rfl)) rfl <| qq (Val.build (cells := #[.int .i64 10, .int .i64 2, .int .i64 8, .int .i64 4, .int .i64 7, .int .i64 6, .int .i64 1, .int .i64 5, .int .i64 15, .int .i64 11, .int .i64 9, .int .i64 14, .int .i64 3, .int .i64 12, .int .i64 13, .int .i64 0]) rfl (by kernel_rfl)) rfl <| qq (Val.build (cells := #[.int .i64 0, .int .i64 1, .int .i64 2, .int .i64 3, .int .i64 4, .int .i64 5, .int .i64 6, .int .i64 7, .int .i64 8, .int .i64 9, .int .i64 10, .int .i64 11, .int .i64 12, .int .i64 13, .int .i64 14, .int .i64 15, .int .i64 14, .int .i64 10, .int .i64 4, .int .i64 8, .int .i64 9, .int .i64 15, .int .i64 13, .int .i64 6, .int .i64 1, .int .i64 12, .int .i64 0, .int .i64 2, .int .i64 11, .int .i64 7, .int .i64 5, .int .i64 3, .int .i64 11, .int .i64 8, .int .i64 12, .int .i64 0, .int .i64 5, .int .i64 2, .int .i64 15, .int .i64 13, .int .i64 10, .int .i64 14, .int .i64 3, .int .i64 6, .int .i64 7, .int .i64 1, .int .i64 9, .int .i64 4, .int .i64 7, .int .i64 9, .int .i64 3, .int .i64 1, .int .i64 13, .int .i64 12, .int .i64 11, .int .i64 14, .int .i64 2, .int .i64 6, .int .i64 5, .int .i64 10, .int .i64 4, .int .i64 0, .int .i64 15, .int .i64 8, .int .i64 9, .int .i64 0, .int .i64 5, .int .i64 7, .int .i64 2, .int .i64 4, .int .i64 10, .int .i64 15, .int .i64 14, .int .i64 1, .int .i64 11, .int .i64 12, .int .i64 6, .int .i64 8, .int .i64 3, .int .i64 13, .int .i64 2, .int .i64 12, .int .i64 6, .int .i64 10, .int .i64 0, .int .i64 11, .int .i64 8, .int .i64 3, .int .i64 4, .int .i64 13, .int .i64 7, .int .i64 5, .int .i64 15, .int .i64 14, .int .i64 1, .int .i64 9, .int .i64 12, .int .i64 5, .int .i64 1, .int .i64 15, .int .i64 14, .int .i64 13, .int .i64 4, .int .i64 10, .int .i64 0, .int .i64 7, .int .i64 6, .int .i64 3, .int .i64 9, .int .i64 2, .int .i64 8, .int .i64 11, .int .i64 13, .int .i64 11, .int .i64 7, .int .i64 14, .int .i64 12, .int .i64 1, .int .i64 3, .int .i64 9, .int .i64 5, .int .i64 0, .int .i64 15, .int .i64 4, .int .i64 8, .int .i64 6, .int .i64 2, .int .i64 10, .int .i64 6, .int .i64 15, .int .i64 14, .int .i64 9, .int .i64 11, .int .i64 3, .int .i64 0, .int .i64 8, .int .i64 12, .int .i64 2, .int .i64 13, .int .i64 7, .int .i64 1, .int .i64 4, .int .i64 10, .int .i64 5, .int .i64 10, .int .i64 2, .int .i64 8, .int .i64 4, .int .i64 7, .int .i64 6, .int .i64 1, .int .i64 5, .int .i64 15, .int .i64 11, .int .i64 9, .int .i64 14, .int .i64 3, .int .i64 12, .int .i64 13, .int .i64 0]) rfl (by kernel_rfl)) rfl ?_
  refine WR.eff_ (Eff.storeNC agg158 rfl rfl hb0 rfl rfl (by repeat (first | exact List.forall_mem_nil _ | refine List.forall_mem_cons.2 ⟨by first | rfl | assumption, ?_⟩))) ?_
  rintro _ w2 ⟨hS, hM2⟩
  replace hO := hO.mv hM2 rfl
  replace hb0 := hS
  refine cnil ?_
  refine WC.retR1 rfl (RVal.cellN agg158 rfl hb0.blk rfl) ?_
  exact ⟨hO.below, rfl⟩
theorem quarters_ok {w : World} : Calls Try.prog 151 #[] w (Ret fun v w' => Below w.heap.size w w' ∧ v = .agg quartV.toArray) := by
  obtain ⟨c, hO, hc⟩ := OldC.start w
  refine enter (n := 10) (res := #[.cell 0 177]) Try.func151 rfl rfl rfl rfl ?_
  refine cseq <| cregion ?_
  refine WR.eff (Eff.allocC c 100 zero177) rfl ?_
  rintro _ w1 ⟨b0, c1, rfl, hM1, hb0⟩
  replace hO := hO.mv hM1 rfl
  refine cnil <| cseq <| cregion <| qq (Val.build (cells := #[.int .i64 0, .int .i64 4, .int .i64 8, .int .i64 12]) rfl (by kernel_rfl)) rfl <| qq (Val.build (cells := #[.int .i64 1, .int .i64 5, .int .i64 9, .int .i64 13]) rfl (by kernel_rfl)) rfl <| qq (Val.build (cells := #[.int .i64 2, .int .i64 6, .int .i64 10, .int .i64 14]) rfl (by kernel_rfl)) rfl <| qq (Val.build (cells := #[.int .i64 3, .int .i64 7, .int .i64 11, .int .i64 15]) rfl (by kernel_rfl)) rfl <| qq (Val.build (cells := #[.int .i64 0, .int .i64 5, .int .i64 10, .int .i64 15]) rfl (by kernel_rfl)) rfl <| qq (Val.build (cells := #[.int .i64 1, .int .i64 6, .int .i64 11, .int .i64 12]) rfl (by kernel_rfl)) rfl ?_
  refine qq (Val.build (cells := #[.int .i64 2, .int .i64 7, .int .i64 8, .int .i64 13]) rfl (by kernel_rfl)) rfl <| qq (Val.build (cells := #[.int .i64 3, .int .i64 4, .int .i64 9, .int .i64 14]) rfl (by kernel_rfl)) rfl <| qq (Val.build (cells := #[.int .i64 0, .int .i64 4, .int .i64 8, .int .i64 12, .int .i64 1, .int .i64 5, .int .i64 9, .int .i64 13, .int .i64 2, .int .i64 6, .int .i64 10, .int .i64 14, .int .i64 3, .int .i64 7, .int .i64 11, .int .i64 15, .int .i64 0, .int .i64 5, .int .i64 10, .int .i64 15, .int .i64 1, .int .i64 6, .int .i64 11, .int .i64 12, .int .i64 2, .int .i64 7, .int .i64 8, .int .i64 13, .int .i64 3, .int .i64 4, .int .i64 9, .int .i64 14]) rfl (by kernel_rfl)) rfl ?_
  refine WR.eff_ (Eff.storeNC agg177 rfl rfl hb0 rfl rfl (by repeat (first | exact List.forall_mem_nil _ | refine List.forall_mem_cons.2 ⟨by first | rfl | assumption, ?_⟩))) ?_
  rintro _ w2 ⟨hS, hM2⟩
  replace hO := hO.mv hM2 rfl
  replace hb0 := hS
  refine cnil ?_
  refine WC.retR1 rfl (RVal.cellN agg177 rfl hb0.blk rfl) ?_
  exact ⟨hO.below, rfl⟩
end Go.Proofs.Ytnddlhjafkhdoaa
