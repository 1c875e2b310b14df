/- Arguments of the laws on manifests, opened. No condition. -/
import Derived.Test.YtnddlhjafkhdoaaLiftP
set_option linter.unusedSimpArgs false
set_option linter.unusedVariables false
set_option maxRecDepth 100000
namespace Go.Proofs.Ytnddlhjafkhdoaa
open Go Go.Eng Go.ChangeShapes Go.WideShapes Go.ChangeAt Go.RowKit
theorem cells_man : Try.prog.cellsOf 29 = 3 := by kernel_rfl
theorem cells_mask : Try.prog.cellsOf 25 = 2 := by kernel_rfl
theorem cells_lM : Try.prog.cellsOf 22 = 1 := by kernel_rfl
theorem bytes_man : 1 ≤ Try.prog.bytesOf 29 := of_decide_eq_true (by kernel_rfl)
theorem mask_open {H : Type} {enc : TypeId × Value → H} {W : World} {base : Nat} {sp : Nat → Bool} {held : Bool} {v : Value} {d : DataW H} {ps : List MemPlace}
    (hval : Value.okWide Try.prog W .any base 25 v) (h : DataW.Trod enc Try.prog W base sp held 25 v d ps) (hw : ∀ x ∈ DataW.weights Try.prog 25 d, x ≤ reachBytes) :
    ∃ vM vT L T, v = .agg #[vM, vT] ∧ Rd Silo.manS W vM L ∧ Rd strS W vT T ∧ True := by
  obtain ⟨vM, vT, L, T, h1, h2, h3, _⟩ := open_two (sA := Silo.manS) (sB := strS) Try.underlying25 rfl (by rw [cells_lM, cells_lS]) cells_mask Try.underlying22 Try.underlying23
    (opens_man Try.underlying29 rfl Try.underlying3 Try.underlying23 Try.underlying23 (by rw [cells_int, cells_lS]) cells_man (opens_str Try.underlying9) cells_str bytes_str)
    (opens_str Try.underlying9) cells_man cells_str (by decide) (by decide) bytes_man bytes_str hval h hw
  exact ⟨vM, vT, L, T, h1, h2, h3, trivial⟩
end Go.Proofs.Ytnddlhjafkhdoaa
