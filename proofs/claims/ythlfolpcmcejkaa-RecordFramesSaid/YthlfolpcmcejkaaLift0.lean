/- Arguments of the laws on records, opened. No condition. -/
import Derived.Test.YthlfolpcmcejkaaRows
import Derived.Test.YthlfolpcmcejkaaTypes
import Derived.Test.YthlfolpcmcejkaaOpen
import Derived.ProofKit
import Derived.SizedLaws
import Derived.Below
set_option linter.unusedSimpArgs false
set_option linter.unusedVariables false
set_option maxRecDepth 100000
namespace Go.Proofs.Ythlfolpcmcejkaa
open Go Go.Eng Go.ChangeShapes Go.WideShapes Go.ChangeAt Go.RowKit

section
variable {H : Type} {enc : TypeId × Value → H} {P : Program}
theorem post_of_below {f : Func} {s : ChangeSpec} {apart fresh handsOn again : Bool} {W W' : World} {args : Array Value} {v : Value} {ds gs : List (DataW H)} {before pa pv : List MemPlace}
    (hW : DataW.Whole enc P f.params.toList s.vars apart W args.toList ds gs before)
    (hres : ∀ (b : Nat) (sp : Nat → Bool) (hd : Bool), DataW.TrodAll enc P W' b sp hd f.resultTypes.toList (v.resultList f.resultTypes.size) (s.fn H (ds ++ gs)).results [])
    (hargs : ∀ sp : Nat → Bool, (∀ p ∈ before, sp p.block = true) → DataW.TrodAll enc P W' 0 sp true f.params.toList args.toList (s.fn H (ds ++ gs)).args pa)
    (hvars : ∀ sp : Nat → Bool, (∀ p ∈ before, sp p.block = true) → DataW.TrodVars enc P W' sp s.vars (s.fn H (ds ++ gs)).vars pv)
    (hps : before = pa ++ pv) (hb : Below W.heap.size W W')
    (hok : ∀ (j : Nat) (t : TypeId) (r : Value), f.resultTypes[j]? = some t → (v.resultList f.resultTypes.size)[j]? = some r → Value.okWide P W' .any 0 t r) :
    s.post enc P f apart fresh handsOn again W args v W' := by
  have hlt : ∀ p ∈ before, p.block < W.heap.size := fun p hp => hW.lt p hp
  have hold : ∀ p ∈ before, (fun b => decide (b < W.heap.size)) p.block = true := fun p hp => by simpa using hlt p hp
  refine ⟨ds, gs, before, [], pa, pv, hW, hres _ _ _, hargs _ hold, hvars _ hold, World.keptBut_mono (fun p hp => ⟨hp, ?_⟩) (hb.frame (· ∈ before)), fun _ => ?_⟩
  · rw [hps, List.mem_append] at hp
    exact Or.inr hp
  · obtain ⟨_, _, _, _, _, hz, hn⟩ := hW
    refine ⟨hok, _, _, ([] ++ pa) ++ pv, ⟨[] ++ pa, pv, trodAll_append (hargs _ (fun _ _ => rfl)) (hres _ _ _), hvars _ (fun _ _ => rfl), rfl, ?_, ?_⟩, ?_⟩
    · intro b off hp
      have hin : MemPlace.cell b off ∈ before := by rw [hps]; simpa using hp
      rw [hb.frozen (hlt _ hin)]
      exact hz b off hin
    · intro ha
      have := hn ha
      rw [hps] at this
      simpa using this
    · intro p hp _
      rw [hps]
      simpa using hp
end

theorem own : ownKnob Try.prog.godebug = none := by kernel_rfl
theorem laidOut : laidOutB Try.prog = true := by kernel_rfl
theorem cells_int : Try.prog.cellsOf 3 = 1 := by kernel_rfl
theorem cells_str : Try.prog.cellsOf 9 = 1 := by kernel_rfl
theorem cells_slot : Try.prog.cellsOf 66 = 2 := by kernel_rfl
theorem cells_rec : Try.prog.cellsOf 31 = 6 := by kernel_rfl
theorem cells_ask : Try.prog.cellsOf 26 = 3 := by kernel_rfl
theorem cells_lR : Try.prog.cellsOf 22 = 1 := by kernel_rfl
theorem cells_lS : Try.prog.cellsOf 23 = 1 := by kernel_rfl
theorem cells_lN : Try.prog.cellsOf 24 = 1 := by kernel_rfl
theorem cells_lP : Try.prog.cellsOf 29 = 1 := by kernel_rfl
theorem bytes_int : 1 ≤ Try.prog.bytesOf 3 := of_decide_eq_true (by kernel_rfl)
theorem bytes_str : 1 ≤ Try.prog.bytesOf 9 := of_decide_eq_true (by kernel_rfl)
theorem bytes_slot : 1 ≤ Try.prog.bytesOf 66 := of_decide_eq_true (by kernel_rfl)
theorem bytes_rec : 1 ≤ Try.prog.bytesOf 31 := of_decide_eq_true (by kernel_rfl)

theorem ask_open {H : Type} {enc : TypeId × Value → H} {W : World} {base : Nat} {sp : Nat → Bool} {held : Bool} {v : Value} {d : DataW H} {ps : List MemPlace}
    (hval : Value.okWide Try.prog W .any base 26 v) (h : DataW.Trod enc Try.prog W base sp held 26 v d ps) (hw : ∀ x ∈ DataW.weights Try.prog 26 d, x ≤ reachBytes) :
    ∃ vR vS vN R S N, v = .agg #[vR, vS, vN] ∧ Rd Silo.recS W vR R ∧ Rd strS W vS S ∧ Rd intS W vN N ∧ (∀ r ∈ R, r.name.length ≤ 140737488351232) ∧ R.length * 96 ≤ 140737488351232 := by
  have := open_ask Try.underlying26 rfl (by rw [cells_lR, cells_lS, cells_lN]) cells_ask Try.underlying22 Try.underlying23 Try.underlying24
    (opens_rec Try.underlying31 rfl Try.underlying3 Try.underlying3 Try.underlying9 Try.underlying9 Try.underlying24 Try.underlying29 (by rw [cells_int, cells_str, cells_lN, cells_lP]) cells_rec
      (opens_int Try.underlying3) (opens_slot Try.underlying66 rfl rfl Try.underlying3 Try.underlying3 cells_int cells_int cells_slot) cells_int cells_slot bytes_int bytes_slot)
    (opens_str Try.underlying9) (opens_int Try.underlying3) cells_rec cells_str cells_int bytes_rec bytes_str bytes_int hval h hw
  rwa [show Try.prog.bytesOf 31 = 96 by kernel_rfl] at this
end Go.Proofs.Ythlfolpcmcejkaa
