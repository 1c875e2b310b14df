/- Bytes and Check of a record. No condition. -/
import Derived.Test.YthlfolpcmcejkaaRec6
set_option linter.unusedSimpArgs false
set_option linter.unusedVariables false
set_option maxRecDepth 100000
namespace Silo
open Go Go.Eng
theorem may_small {r : Rec} (h : mayB r = true) : 1 ≤ r.kind ∧ r.kind ≤ 8 ∧ r.name.length ≤ 40 ∧ r.digest.length ≤ 32 ∧ r.list.length ≤ 2000 ∧ r.slots.length ≤ 14 ∧ (hasB r.kind 108 = false → r.list = []) ∧ (hasB r.kind 115 = false → r.slots = []) := by
  obtain ⟨hk, hw, _, hN, hD, hL, _, hS, _⟩ := (mayB_iff r).1 h
  obtain ⟨_, wN, wD, wL, wS⟩ := (want_iff r).1 hw
  simp only [kindBad, Bool.or_eq_false_iff, decide_eq_false_iff_not] at hk
  refine ⟨by omega, by omega, ?_, ?_, by omega, ?_, fun e => wL.resolve_left (by simp [e]), fun e => wS.resolve_left (by simp [e])⟩
  · rcases wN with e | e
    · have := hN e; omega
    · simp [e]
  · rcases wD with e | e
    · have := hD e; omega
    · simp [e]
  · rcases wS with e | e
    · have := hS e; omega
    · simp [e]
end Silo
namespace Go.Proofs.Ythlfolpcmcejkaa
open Go Go.Eng Go.RowKit Silo TryT

theorem check_ok {w : World} {cs : List Value} {r : Rec} (h : RdRec w cs r) : Calls Try.prog 21 #[.agg cs.toArray] w (Ret fun v w' => Below w.heap.size w w' ∧ v = I (bif mayB r then 0 else 1)) := by
  have h0 := h
  obtain ⟨vl, vs, rfl, hl, hs, hq⟩ := h
  have hK : Old w w := Old.refl w
  have o1 := hl.oneC
  have o2 := hs.oneC
  refine enter (n := 6) (res := #[.tmp 2]) Try.func21 rfl rfl rfl rfl ?_
  refine cseq <| cg ?_
  refine ve (Eff.box rfl) ?_
  rintro _ w1 ⟨b1, rfl, hn1⟩
  have hk1 := hn1.below
  replace hl := hl.up hk1; replace hs := hs.up hk1; replace hK := hK.up hk1
  have hb1 := hn1.blk
  refine za rfl <| cnil <| cseq <| cseq <| cg <| vq (Val.loadBN agg31 rfl hb1 rfl) ?_
  refine ve (Eff.call pf44 rfl (may_ok (r := r) (cs := [I r.kind, I r.id, St r.name, St r.digest, vl, vs]) ⟨vl, vs, rfl, hl, hs, hq⟩)) ?_
  rintro v4 w2 ⟨hk2, rfl⟩
  replace hl := hl.up hk2; replace hs := hs.up hk2; replace hK := hK.up hk2; replace hb1 := hb1.up hk2
  refine vq (Val.not rfl) <| cnil ?_
  refine WC.cond rfl (fun hc1 => ?_) (fun hc1 => ?_)
  ·try simp only [tstS] at hc1
   refine cseq <| cg <| za rfl <| cnil ?_
   refine WC.ret1 rfl rfl ?_
   exact ⟨hK, by rw [hc1]; rfl⟩
  ·try simp only [tstS] at hc1
   refine cskip <| cseq <| cg <| za rfl <| cnil ?_
   refine WC.ret1 rfl rfl ?_
   exact ⟨hK, by rw [hc1]; rfl⟩

theorem rbytes_ok {w : World} {cs : List Value} {r : Rec} (h : RdRec w cs r) : Calls Try.prog 18 #[.agg cs.toArray] w (Ret fun v w' => Below w.heap.size w w' ∧ v = .tuple #[St (bif mayB r then bytesOf r else []), I (bif mayB r then 0 else 1)]) := by
  have h0 := h
  obtain ⟨vl, vs, rfl, hl, hs, hq⟩ := h
  have hK : Old w w := Old.refl w
  have o1 := hl.oneC
  have o2 := hs.oneC
  refine enter (n := 9) (res := #[.tmp 2, .tmp 3]) Try.func18 rfl rfl rfl rfl ?_
  refine cseq <| cg ?_
  refine ve (Eff.box rfl) ?_
  rintro _ w1 ⟨b1, rfl, hn1⟩
  have hk1 := hn1.below
  replace hl := hl.up hk1; replace hs := hs.up hk1; replace hK := hK.up hk1
  have hb1 := hn1.blk
  refine za rfl <| za rfl <| cnil <| cseq <| cseq <| cg <| vq (Val.loadBN agg31 rfl hb1 rfl) ?_
  refine ve (Eff.call pf44 rfl (may_ok (r := r) (cs := [I r.kind, I r.id, St r.name, St r.digest, vl, vs]) ⟨vl, vs, rfl, hl, hs, hq⟩)) ?_
  rintro v5 w2 ⟨hk2, rfl⟩
  replace hl := hl.up hk2; replace hs := hs.up hk2; replace hK := hK.up hk2; replace hb1 := hb1.up hk2
  refine vq (Val.not rfl) <| cnil ?_
  refine WC.cond rfl (fun hc1 => ?_) (fun hc1 => ?_)
  ·try simp only [tstS] at hc1
   refine cseq <| cg <| za rfl <| za rfl <| cnil ?_
   refine WC.ret2 rfl rfl rfl ?_
   exact ⟨hK, by rw [hc1]; rfl⟩
  ·try simp only [tstS] at hc1
   refine cskip <| cseq ?_
   obtain ⟨_, _, s1, s2, s3, s4, s5, s6⟩ := may_small hc1
   refine cg <| vq (Val.loadBN agg31 rfl hb1 rfl) ?_
   refine ve (Eff.call pf45 rfl (spelt_ok (r := r) (cs := [I r.kind, I r.id, St r.name, St r.digest, vl, vs]) ⟨vl, vs, rfl, hl, hs, hq⟩ (by omega) (by omega) (by omega) (by omega) s5 s6)) ?_
   rintro v8 w3 ⟨hk3, rfl⟩
   replace hl := hl.up hk3; replace hs := hs.up hk3; replace hK := hK.up hk3; replace hb1 := hb1.up hk3
   refine za rfl <| za rfl <| cnil ?_
   refine WC.ret2 rfl rfl rfl ?_
   exact ⟨hK, by rw [hc1]; rfl⟩
end Go.Proofs.Ythlfolpcmcejkaa
