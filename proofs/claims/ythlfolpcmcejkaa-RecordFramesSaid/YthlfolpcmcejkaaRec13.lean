/- The sample that wakes the machine. No condition. -/
import Derived.Test.YthlfolpcmcejkaaRec12
set_option linter.unusedSimpArgs false
set_option linter.unusedVariables false
set_option maxRecDepth 100000
namespace Go.Proofs.Ythlfolpcmcejkaa
open Go Go.Eng Go.RowKit Silo TryT

def recA : Rec := ⟨8, 0, [97], [], [], []⟩
theorem recA_may : mayB recA = true := by decide
theorem recA_bytes : bytesOf recA = [8, 1, 97] := by decide
theorem recA_take : takeSpec minus [8, 1, 97] = some recA := by decide

theorem wakes_ok {w : World} : Calls Try.prog 25 #[] w (Ret fun v w' => Below w.heap.size w w' ∧ v = .bool true) := by
  have hK : Old w w := Old.refl w
  have hA : RdRec w [I 8, I 0, St [97], St [], .slice none 0 0, .slice none 0 0] recA := ⟨_, _, rfl, RdS.nil _ _ _, RdS.nil _ _ _, ⟨by simp [recA], by simp [recA]⟩, ⟨by simp [recA], by simp [recA]⟩, by simp [recA], by simp [recA]⟩
  refine enter (n := 32) (res := #[.tmp 0]) Try.func25 rfl rfl rfl rfl ?_
  refine cseq <| cg <| za rfl <| cnil <| cseq <| cg <| vq (Val.build (cells := #[I 8, I 0, St [97], St [], .slice none 0 0, .slice none 0 0]) rfl (by kernel_rfl)) ?_
  refine ve (Eff.call pf18 rfl (rbytes_ok hA)) ?_
  rintro v7 w1 ⟨hk1, rfl⟩
  replace hK := hK.up hk1
  rw [recA_may, recA_bytes]
  refine zm rfl <| vq (Val.extract rfl rfl) <| vq (Val.extract rfl rfl) <| za rfl <| za rfl <| cnil <| cseq <| cg <| zm rfl ?_
  refine ve (Eff.call pf23 rfl (take_ok [8, 1, 97] (by decide))) ?_
  rintro v12 w2 ⟨hk2, ⟨cs, rfl, hrd⟩⟩
  replace hK := hK.up hk2
  rw [recA_take] at hrd ⊢; obtain ⟨vl, vs, rfl, hl, hs, _⟩ := hrd; have o1 := hl.oneC; have o2 := hs.oneC; have hsz := hK.size
  refine zm rfl <| vq (Val.extract rfl rfl) <| vq (Val.extract rfl rfl) ?_
  refine ve (Eff.alloc zero31) ?_
  rintro _ w3 ⟨b3, rfl, hn3⟩
  have hk3 := hn3.below
  replace hK := hK.up hk3
  have hb3 := hn3.blk
  refine WR.eff_ (Eff.storeBN agg31 rfl rfl hb3 rfl rfl ones) ?_
  intro _ w4 hS4
  replace hb3 := hS4.blk
  replace hK : Old w _ := Below.trans hK (Blk.store_below hS4 (by have := hn3.at_; omega) hK.size)
  refine za rfl <| cnil <| cseq <| cg <| zm rfl ?_
  refine ve (Eff.call pf20 rfl (errnum_ok _)) ?_
  rintro v16 w5 ⟨hk5, rfl⟩
  replace hK := hK.up hk5; replace hb3 := hb3.up hk5
  refine vq (Val.eql rfl rfl) <| zm rfl ?_
  apply WR.sc true 3 true (fun w' => Below w5.heap.size w5 w')
  case hl | hg | hu | hv | hs | hoff | hd => rfl
  case hF => exact fun _ => Below.refl _ _
  case hT =>
   intro hq7
   try simp only [tstS] at hq7
   simp only [List.take_succ_cons, List.take_zero]
   have hKsc7 : Old w5 w5 := Old.refl _
   refine WR.on rfl rfl ?_
   refine zm rfl ?_
   refine WR.on rfl rfl ?_
   refine ve (Eff.call pf20 rfl (errnum_ok _)) ?_
   rintro v20 w6 ⟨hk6, rfl⟩
   replace hK := hK.up hk6; replace hb3 := hb3.up hk6; replace hKsc7 := hKsc7.up hk6
   refine WR.on rfl rfl ?_
   refine vq (Val.eql rfl rfl) ?_
   exact WR.nil ⟨rfl, Sub.drop _ 3 _ rfl rfl, hKsc7⟩
  intro w7 hk7
  replace hK := hK.up hk7; replace hb3 := hb3.up hk7
  refine zm rfl ?_
  apply WR.sc true 3 _ (fun w' => w7 = w')
  case hl | hg | hu | hv | hs | hoff | hd => rfl
  case hF => exact fun _ => rfl
  case hT =>
   intro hq12
   try simp only [tstS] at hq12
   simp only [List.take_succ_cons, List.take_zero]
   refine WR.on rfl rfl ?_
   refine vq (Val.fieldAddr fld31_2 rfl) ?_
   refine WR.on rfl rfl ?_
   refine vq (Val.loadB scl9 rfl hb3 rfl) ?_
   refine WR.on rfl rfl ?_
   refine vq (Val.seq_ rfl rfl) ?_
   exact WR.nil ⟨rfl, Sub.drop _ 3 _ rfl rfl, rfl⟩
  rintro _ rfl
  refine zm rfl ?_
  apply WR.sc true 2 _ (fun w' => w7 = w')
  case hl | hg | hu | hv | hs | hoff | hd => rfl
  case hF => exact fun _ => rfl
  case hT =>
   intro hq16
   try simp only [tstS] at hq16
   simp only [List.take_succ_cons, List.take_zero]
   refine WR.on rfl rfl ?_
   refine zm rfl ?_
   refine WR.on rfl rfl ?_
   refine vq (Val.seq_ rfl rfl) ?_
   exact WR.nil ⟨rfl, Sub.drop _ 2 _ rfl rfl, rfl⟩
  rintro _ rfl
  refine za rfl <| cnil ?_
  refine WC.ret1 rfl rfl ?_
  exact ⟨hK, rfl⟩
end Go.Proofs.Ythlfolpcmcejkaa
