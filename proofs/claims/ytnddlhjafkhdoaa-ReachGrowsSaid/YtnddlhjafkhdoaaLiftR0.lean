/- Arguments of the laws on what leads where, opened. No condition. -/
import Derived.Test.YtnddlhjafkhdoaaLiftP
import Derived.Test.YtnddlhjafkhdoaaOpenR
set_option linter.unusedSimpArgs false
set_option linter.unusedVariables false
set_option maxRecDepth 100000
namespace Go.Proofs.Ytnddlhjafkhdoaa
open Go Go.Eng Go.ChangeShapes Go.WideShapes Go.ChangeAt Go.RowKit
theorem cells_thg : Try.prog.cellsOf 62 = 3 := by kernel_rfl
theorem cells_rask : Try.prog.cellsOf 50 = 2 := by kernel_rfl
theorem cells_lT : Try.prog.cellsOf 52 = 1 := by kernel_rfl
theorem cells_lT2 : Try.prog.cellsOf 48 = 1 := by kernel_rfl
theorem cells_bool : Try.prog.cellsOf 4 = 1 := by kernel_rfl
theorem bytes_thg : 1 ≤ Try.prog.bytesOf 62 := of_decide_eq_true (by kernel_rfl)
theorem bytes_lT : 1 ≤ Try.prog.bytesOf 52 := of_decide_eq_true (by kernel_rfl)
theorem rask_open {H : Type} {enc : TypeId × Value → H} {W : World} {base : Nat} {sp : Nat → Bool} {held : Bool} {v : Value} {d : DataW H} {ps : List MemPlace}
    (hval : Value.okWide Try.prog W .any base 50 v) (h : DataW.Trod enc Try.prog W base sp held 50 v d ps) (hw : ∀ x ∈ DataW.weights Try.prog 50 d, x ≤ reachBytes) :
    ∃ vM vT L T, v = .agg #[vM, vT] ∧ Rd Silo.thgS.slice W vM L ∧ Rd strS W vT T ∧ True := by
  obtain ⟨vM, vT, L, T, h1, h2, h3, _⟩ := open_two (sA := Silo.thgS.slice) (sB := strS) Try.underlying50 rfl (by rw [cells_lT2, cells_lS]) cells_rask Try.underlying48 Try.underlying23
    (opens_slice Try.underlying52 cells_thg (by decide) bytes_thg (opens_thg Try.underlying62 rfl Try.underlying9 Try.underlying9 Try.underlying4 (by rw [cells_str, cells_bool]) cells_thg))
    (opens_str Try.underlying9) cells_lT cells_str (by decide) (by decide) bytes_lT bytes_str hval h hw
  exact ⟨vM, vT, L, T, h1, h2, h3, trivial⟩
end Go.Proofs.Ytnddlhjafkhdoaa
