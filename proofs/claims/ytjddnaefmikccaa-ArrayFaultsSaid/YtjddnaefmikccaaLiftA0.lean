/- Arguments of the disks' laws, opened; shutting. No condition. -/
import Derived.Test.YtjddnaefmikccaaRows
import Derived.Test.YtjddnaefmikccaaTypes
import Derived.Test.YtjddnaefmikccaaOpenA
import Derived.ProofKit
import Derived.SizedLaws
import Derived.Below
set_option linter.unusedSimpArgs false
set_option linter.unusedVariables false
set_option maxRecDepth 100000
namespace Go.Proofs.Ytjddnaefmikccaa
open Go Go.Eng Go.ChangeShapes Go.WideShapes Go.ChangeAt Go.RowKit

section
variable {H : Type} {enc : TypeId × Value → H} {P : Program}
theorem post_of_below {f : Func} {s : ChangeSpec} {apart fresh handsOn again : Bool} {W W' : World} {args : Array Value} {v : Value} {ds gs : List (DataW H)} {before pa pv : List MemPlace}
    (hW : DataW.Whole enc P f.params.toList s.vars apart W args.toList ds gs before)
    (hres : ∀ (b : Nat) (sp : Nat → Bool) (hd : Bool), DataW.TrodAll enc P W' b sp hd f.resultTypes.toList (v.resultList f.resultTypes.size) (s.fn H (ds ++ gs)).results [])
    (hargs : ∀ sp : Nat → Bool, (∀ p ∈ before, sp p.block = true) → DataW.TrodAll enc P W' 0 sp true f.params.toList args.toList (s.fn H (ds ++ gs)).args pa)
    (hvars : ∀ sp : Nat → Bool, (∀ p ∈ before, sp p.block = true) → DataW.TrodVars enc P W' sp s.vars (s.fn H (ds ++ gs)).vars pv)
    (hps : before = pa ++ pv) (hb : Below W.heap.size W W')
    (hok : ∀ (j : Nat) (t : TypeId) (r : Value), f.resultTypes[j]? = some t → (v.resultList f.resultTypes.size)[j]? = some r → Value.okWide P W' .any 0 t r) :
    s.post enc P f apart fresh handsOn again W args v W' := by
  have hlt : ∀ p ∈ before, p.block < W.heap.size := fun p hp => hW.lt p hp
  have hold : ∀ p ∈ before, (fun b => decide (b < W.heap.size)) p.block = true := fun p hp => by simpa using hlt p hp
  refine ⟨ds, gs, before, [], pa, pv, hW, hres _ _ _, hargs _ hold, hvars _ hold, World.keptBut_mono (fun p hp => ⟨hp, ?_⟩) (hb.frame (· ∈ before)), fun _ => ?_⟩
  · rw [hps, List.mem_append] at hp
    exact Or.inr hp
  · obtain ⟨_, _, _, _, _, hz, hn⟩ := hW
    refine ⟨hok, _, _, ([] ++ pa) ++ pv, ⟨[] ++ pa, pv, trodAll_append (hargs _ (fun _ _ => rfl)) (hres _ _ _), hvars _ (fun _ _ => rfl), rfl, ?_, ?_⟩, ?_⟩
    · intro b off hp
      have hin : MemPlace.cell b off ∈ before := by rw [hps]; simpa using hp
      rw [hb.frozen (hlt _ hin)]
      exact hz b off hin
    · intro ha
      have := hn ha
      rw [hps] at this
      simpa using this
    · intro p hp _
      rw [hps]
      simpa using hp
end

theorem own : ownKnob Try.prog.godebug = none := by kernel_rfl
theorem laidOut : laidOutB Try.prog = true := by kernel_rfl
theorem cells_int : Try.prog.cellsOf 3 = 1 := by kernel_rfl
theorem cells_str : Try.prog.cellsOf 9 = 1 := by kernel_rfl
theorem bytes_int : 1 ≤ Try.prog.bytesOf 3 := of_decide_eq_true (by kernel_rfl)
theorem cells_lN : Try.prog.cellsOf 32 = 1 := by kernel_rfl
theorem cells_act : Try.prog.cellsOf 34 = 6 := by kernel_rfl
theorem cells_lA : Try.prog.cellsOf 22 = 1 := by kernel_rfl
theorem cells_scr10 : Try.prog.cellsOf 24 = 3 := by kernel_rfl
theorem bytes_act : Try.prog.bytesOf 34 = 72 := by kernel_rfl
theorem scr10_open {H : Type} {enc : TypeId × Value → H} {W : World} {base : Nat} {sp : Nat → Bool} {held : Bool} {v : Value} {d : DataW H} {ps : List MemPlace}
    (hval : Value.okWide Try.prog W .any base 24 v) (h : DataW.Trod enc Try.prog W base sp held 24 v d ps) (hw : ∀ x ∈ DataW.weights Try.prog 24 d, x ≤ reachBytes) :
    ∃ a b vL L, v = .agg #[I a, I b, vL] ∧ Int64 a ∧ Int64 b ∧ Rd Silo.actS W vL L ∧ L.length * 72 ≤ 140737488355328 := by
  obtain ⟨a, b, vL, L, e, h1, h2, h3, h4⟩ := open_acts Try.underlying24 rfl (by rw [cells_int, cells_lA]) cells_scr10 Try.underlying3 Try.underlying3 Try.underlying22
    (opens_act Try.underlying34 rfl Try.underlying3 Try.underlying3 Try.underlying3 Try.underlying3 Try.underlying9 Try.underlying32 (by rw [cells_int, cells_str, cells_lN]) cells_act
      (opens_int Try.underlying3) cells_int bytes_int) cells_act (by rw [bytes_act]; decide) hval h hw
  rw [bytes_act] at h4
  exact ⟨a, b, vL, L, e, h1, h2, h3, by omega⟩
end Go.Proofs.Ytjddnaefmikccaa
