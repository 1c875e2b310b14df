/- The laws on records' bytes, of one kind, as its row says it. No condition. -/
import Derived.Test.YthlfolpcmcejkaaLift0
import Derived.Test.YthlfolpcmcejkaaRec15
import Derived.Test.YthlfolpcmcejkaaKind
set_option linter.unusedSimpArgs false
set_option linter.unusedVariables false
set_option maxRecDepth 100000
namespace Go.Proofs.Ythlfolpcmcejkaa
open Go Go.Eng Silo TryT Go.ChangeShapes Go.WideShapes Go.ChangeAt Go.RowKit

theorem recordUntags_ok {w : World} {vR vS vN : Value} {R : List Rec} {S : List (List UInt8)} {N : List Int} (h1 : Rd recS w vR R) (h2 : Rd strS w vS S) (h3 : Rd intS w vN N) (hz : R.length * 96 ≤ 140737488355328) (hn : ∀ r ∈ R, r.name.length + 1 ≤ 140737488355328) :
    Calls Try.prog 11 #[.agg #[vR, vS, vN]] w (Ret fun v w' => Below w.heap.size w w' ∧ v = .bool true) := by
  have hK : Old w w := Old.refl w
  refine enter (n := 6) (res := #[.tmp 2]) Try.func11 rfl rfl rfl rfl ?_
  refine cseq <| cregion ?_
  refine WR.eff (Eff.box rfl) rfl ?_
  rintro _ w1 ⟨b1, rfl, hn1⟩
  have hk1 := hn1.below
  replace h1 := h1.up hk1; replace h2 := h2.up hk1; replace h3 := h3.up hk1; replace hK := hK.up hk1
  have hb1 := hn1.blk
  refine qq (Val.assign rfl) rfl <| cnil <| cseq <| cregion <| qq (Val.loadBN agg26 rfl hb1 rfl) rfl ?_
  refine WR.eff (Eff.call pf26 rfl (kind_ok h1 h2 h3 hz hn 8 ⟨by decide, by decide⟩)) rfl ?_
  rintro v4 w2 ⟨hk2, vq, Q, rfl, hq⟩
  replace h1 := h1.up hk2; replace h2 := h2.up hk2; replace h3 := h3.up hk2; replace hK := hK.up hk2; replace hb1 := hb1.up hk2
  refine WR.eff (Eff.call pf3 rfl (recordBytes_ok hq h2 h3)) rfl ?_
  rintro v5 w3 ⟨hk3, rfl⟩
  replace h1 := h1.up hk3; replace h2 := h2.up hk3; replace h3 := h3.up hk3; replace hK := hK.up hk3; replace hb1 := hb1.up hk3; replace hq := hq.up hk3
  refine qq (Val.assign rfl) rfl <| cnil ?_
  refine WC.ret1 rfl rfl ?_
  exact ⟨hK, rfl⟩
theorem recordUntags_lifted (os : Os) (started : os.Started) (H : Type) (enc : TypeId × Value → H) :
    ReturnsInHanded {} Try.checked os 11 .any (Rows.recordUntagsSpec.pre6 enc Try.prog Try.f11 Rows.recordUntagsRow.domain false) (Rows.recordUntagsSpec.post enc Try.prog Try.f11 false true false false) := by
  refine returnsInHanded_of_change_sized (C := Try.checked) own started (by kernel_rfl) Try.func11
    (ChangeSpec.witness6 (enc := enc) (C := Try.checked) false ⟨#[], #[.agg #[.slice none 0 0, .slice none 0 0, .slice none 0 0]], []⟩ 8 (by kernel_rfl) (by kernel_rfl) (by kernel_rfl) (by kernel_rfl)) ?_
  intro W base args ds gs before hval0 hW hcnd hsz0 _
  have hval : ∀ (j : Nat) t v, Try.f11.params[j]? = some t → args[j]? = some v → Value.okWide Try.prog W .any base t v := hval0
  have hsz : (DataW.weightsEach Try.prog (Try.f11.params.toList ++ Rows.recordUntagsSpec.plain.varTypes Try.prog) (ds ++ gs)).all (· ≤ reachBytes) = true := hsz0
  have hW' := hW
  obtain ⟨p, q, hA0, hV, rfl, hfz, hnd⟩ := hW
  have hA : DataW.TrodAll enc Try.prog W 0 (fun _ => true) true Try.f11.params.toList args.toList ds p := hA0
  rw [Try.params11] at hA hval hsz
  obtain ⟨v0, d0, rfl, rfl, h0⟩ := trodAll_one hA
  obtain ⟨rfl, rfl⟩ := trodVars_none hV
  clear hA0 hval0 hsz0
  simp only [List.append_nil] at hW'
  have hw : ∀ x ∈ DataW.weights Try.prog 26 d0, x ≤ reachBytes := fun x hx => by
    have := List.all_eq_true.1 hsz x (DataW.weights_mem_each (j := 0) rfl rfl x hx)
    simpa using this
  have hlt : ∀ x ∈ p, x.block < W.heap.size := fun x hx => hW'.lt x hx
  obtain ⟨vR, vS, vN, R, S, N, rfl, r0, r1, r2, hnm, hsz⟩ := ask_open (base := 0) (hval 0 26 v0 rfl rfl) h0 hw
  refine (recordUntags_ok r0 r1 r2 (by omega) (fun r hr => by have := hnm r hr; omega)).mono fun e W' he => ?_
  obtain ⟨v, rfl, hb, rfl⟩ := he
  exact ⟨_, rfl, post_of_below (pa := p) (pv := []) hW' (fun _ _ _ => trodAll_mk1 (shut_bool Try.underlying4 true)) (fun sp hs => trodAll_mk1 (WideElems.Trod_stays laidOut (by kernel_rfl) (of_decide_eq_true (by kernel_rfl)) h0 (fun x hx => hb.same (hlt x hx)) (fun x hx => hs x hx)))
    (fun _ _ => rfl) (by simp) hb (ok_one (by kernel_rfl) rfl (okWide_bool_mk Try.underlying4 true))⟩

theorem recordUntags_holds : Rows.RecordUntagsSaid :=
  OpenClaim.holds_of_wide 11 Try.f11 rfl rfl rfl rfl rfl rfl rfl ⟨rfl, rfl, rfl, rfl, rfl⟩ rfl rfl rfl rfl rfl (by kernel_rfl) Try.func11 (by kernel_rfl)
    (of_decide_eq_true (by kernel_rfl)) (by unfold Func.isWrapper; first | (rw [if_pos (by decide +kernel)]; kernel_rfl) | (rw [if_neg (by decide +kernel)]; exact ⟨rfl, rfl⟩))
    (fun os started H enc _ => recordUntags_lifted os started H enc)

#print axioms recordUntags_holds
end Go.Proofs.Ythlfolpcmcejkaa
