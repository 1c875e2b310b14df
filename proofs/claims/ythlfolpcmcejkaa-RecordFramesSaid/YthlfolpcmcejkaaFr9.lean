/- The law's own frames behind each other. No condition. -/
import Derived.Test.YthlfolpcmcejkaaFr8
set_option linter.unusedSimpArgs false
set_option linter.unusedVariables false
set_option maxRecDepth 100000
namespace Silo
open Go Go.Eng
/-- Frames of the records that may be, numbered. -/
def framesOf : List Rec → Int → List UInt8
  | [], _ => []
  | r :: l, n => if mayB r = true then frameS r n ++ framesOf l (n + 1) else framesOf l n
theorem frameS_small {r : Rec} (h : mayB r = true) (n : Int) : 15 ≤ (frameS r n).length ∧ (frameS r n).length ≤ 9015 := by
  have := bytes_len h
  rw [frameS_len]; omega
end Silo
namespace Go.Proofs.Ythlfolpcmcejkaa
open Go Go.Eng Go.RowKit Silo TryT

set_option maxHeartbeats 1000000 in
theorem lframes_ok {w : World} {vR vS vN : Value} {R : List Rec} {S : List (List UInt8)} {N : List Int} {f0 : Int} (h0 : Rd recS w vR R) (h2 : Rd strS w vS S) (h3 : Rd intS w vN N) (hf : 0 ≤ f0) (hf2 : f0 ≤ 1073741824) :
    Calls Try.prog 28 #[.agg #[vR, vS, vN], I f0] w (Ret fun v w' => Below w.heap.size w w' ∧ v = St (framesOf (R.take 8) f0) ∧ (framesOf (R.take 8) f0).length ≤ 72120) := by
  have o1 := h0.oneC
  have o2 := h2.oneC
  have o3 := h3.oneC
  have hsm := h0.small
  obtain ⟨c, hO, hc⟩ := OldC.start w
  have h1 : RdC recS c w [0] vR R := Rd.toC h0 (fun k hk => by simp [hc, hasC])
  clear hc h0
  refine enter (n := 38) (res := #[.tmp 4]) Try.func28 rfl rfl rfl rfl ?_
  refine cseq <| cg ?_
  refine ve (Eff.boxC c 102 rfl) ?_
  rintro _ w1 ⟨b2, c1, rfl, hM1, hb2⟩
  replace hO := hO.mv hM1; replace h1 := h1.mv hM1
  refine za rfl <| cnil <| cseq <| cg <| za rfl <| cnil <| cseq <| cg <| zm rfl ?_
  refine za rfl <| cnil <| cseq <| cseq <| cg <| za rfl <| cnil <| cblock ?_
  refine WC.loop (σ := Nat × Int × List UInt8) (fun st => [(2, .pointer (some ⟨b2, 0, none⟩)), (5, St st.2.2), (6, I st.2.1), (7, I st.1)]) (fun st w' => ∃ c', OldC w c' w' ∧ RdC recS c' w' [0] vR R ∧ BlkC c' w' 102 b2 [vR, vS, vN] 26 ∧ st.1 ≤ (R.take 8).length ∧ f0 ≤ st.2.1 ∧ st.2.1 ≤ f0 + (st.1 : Nat) ∧ st.2.2.length ≤ 9015 * st.1 ∧ framesOf (R.take 8) f0 = st.2.2 ++ framesOf ((R.take 8).drop st.1) st.2.1) (fun st => (R.take 8).length - st.1) (0, f0, []) subs ⟨_, hO, h1, hb2, by simp, by simp, by simp, by simp, by simp⟩ ?_
  clear hO h1 hb2
  rintro ⟨k, m, s⟩ wl ⟨cl, hO, h1, hb2, hk, hm, hm2, hsl, hfr⟩
  dsimp only at hk hm hm2 hsl hfr ⊢
  have hl8 : (R.take 8).length = min 8 R.length := List.length_take
  refine cseq <| cseq <| cg <| zm rfl <| vq (Val.fieldAddr fld26_0 rfl) <| vq (Val.loadB scl22 rfl hb2.blk rfl) ?_
  first | refine vq (Val.rdlen sl22 (by assumption) rfl) ?_ | refine vq (Val.sllen Try.underlying22 rfl) ?_ | refine vq (Val.olen sl22 (by assumption) rfl) ?_ | refine vq (Val.rdlenC sl22 (by assumption) rfl) ?_
  refine vq (Val.lss rfl rfl) <| zm rfl ?_
  apply WR.sc true 2 _ (fun w' => wl = w')
  case hl | hg | hu | hv | hs | hoff | hd => rfl
  case hF => exact fun _ => rfl
  case hT =>
   intro hq8
   try simp only [tstS] at hq8
   simp only [List.take_succ_cons, List.take_zero]
   refine WR.on rfl rfl ?_
   refine zm rfl ?_
   refine WR.on rfl rfl ?_
   refine vq (Val.lss rfl rfl) ?_
   exact WR.nil ⟨rfl, Sub.drop _ 2 _ rfl rfl, rfl⟩
  rintro _ rfl
  refine cnil ?_
  refine WC.cond rfl (fun hc4 => ?_) (fun hc4 => ?_)
  ·try simp only [tstS] at hc4
   obtain ⟨hc0a, hc0b⟩ := hc4
   have ka : k < R.length := by omega
   have ka8 : k < (R.take 8).length := by omega
   obtain ⟨cs1, hc23, _, hrd⟩ := RdC.el h1 ka (by decide)
   obtain ⟨vl1, vs1, rfl, _⟩ := id hrd.now
   have hc30 := hc23
   refine cskip <| cseq <| cblock <| cseq <| cg <| vq (Val.fieldAddr fld26_0 rfl) <| vq (Val.loadB scl22 rfl hb2.blk rfl) <| zm rfl ?_
   first | refine vq (Val.indexAddr sl22 (by assumption) rfl rfl rfl side side) ?_ | refine vq (Val.indexC sl22 (by assumption) rfl rfl side side) ?_ | refine vq (Val.indexO sl22 (by assumption) rfl rfl side side) ?_
   refine vq (Val.loadE agg31 rfl hc23.cel rfl) ?_
   refine ve (Eff.pureC cl 1 (Eff.call pf17 rfl (record_ok hrd.now))) ?_
   rintro v25 w2 ⟨c2, hM2, hx2, rfl⟩
   replace hO := hO.mv hM2; replace h1 := h1.mv hM2; replace hb2 := hb2.mv hM2; replace hc23 := hc23.mv hM2; replace hc30 := hc30.mv hM2; replace hrd := hrd.mv hM2
   refine cnil ?_
   refine WC.cond rfl (fun hc6 => ?_) (fun hc6 => ?_)
   ·try simp only [tstS] at hc6
    refine cseq <| cg <| zm rfl <| vq (Val.fieldAddr fld26_0 rfl) <| vq (Val.loadB scl22 rfl hb2.blk rfl) <| zm rfl ?_
    first | refine vq (Val.indexAddr sl22 (by assumption) rfl rfl rfl side side) ?_ | refine vq (Val.indexC sl22 (by assumption) rfl rfl side side) ?_ | refine vq (Val.indexO sl22 (by assumption) rfl rfl side side) ?_
    refine vq (Val.loadE agg31 rfl hc30.cel rfl) <| zm rfl ?_
    refine ve (Eff.pureC c2 1 (Eff.call pf31 rfl (qframe_ok (n := m) hrd.now hc6))) ?_
    rintro v33 w3 ⟨c3, hM3, hx3, rfl⟩
    replace hO := hO.mv hM3; replace h1 := h1.mv hM3; replace hb2 := hb2.mv hM3; replace hc23 := hc23.mv hM3; replace hc30 := hc30.mv hM3; replace hrd := hrd.mv hM3
    have hsz := frameS_small hc6 (m)
    refine vq (Val.sadd rfl rfl side) <| za rfl <| cnil <| cg <| zm rfl <| vq (Val.addI rfl rfl side side) <| za rfl <| cnil <| cg ?_
    refine zm rfl <| vq (Val.addI rfl rfl side side) <| za rfl <| cnil ?_
    first
    | (rw [List.drop_eq_getElem_cons ka8, List.getElem_take, framesOf, if_pos hc6, ← List.append_assoc] at hfr); exact ⟨(k + 1, m + 1, s ++ frameS R[k] m), subs, ⟨_, hO, h1, hb2, by dsimp only; omega, by dsimp only; omega, by dsimp only; omega, by dsimp only; rw [List.length_append]; omega, hfr⟩, by dsimp only; omega⟩
    | (rw [List.drop_eq_getElem_cons ka8, List.getElem_take, framesOf, if_neg (by simpa using hc6)] at hfr); exact ⟨(k + 1, m, s), subs, ⟨_, hO, h1, hb2, by dsimp only; omega, by dsimp only; omega, by dsimp only; omega, by dsimp only; omega, hfr⟩, by dsimp only; omega⟩
   ·try simp only [tstS] at hc6
    refine cskip <| cg <| zm rfl <| vq (Val.addI rfl rfl side side) <| za rfl <| cnil ?_
    first
    | (rw [List.drop_eq_getElem_cons ka8, List.getElem_take, framesOf, if_pos hc6, ← List.append_assoc] at hfr); exact ⟨(k + 1, m + 1, s ++ frameS R[k] m), subs, ⟨_, hO, h1, hb2, by dsimp only; omega, by dsimp only; omega, by dsimp only; omega, by dsimp only; rw [List.length_append]; omega, hfr⟩, by dsimp only; omega⟩
    | (rw [List.drop_eq_getElem_cons ka8, List.getElem_take, framesOf, if_neg (by simpa using hc6)] at hfr); exact ⟨(k + 1, m, s), subs, ⟨_, hO, h1, hb2, by dsimp only; omega, by dsimp only; omega, by dsimp only; omega, by dsimp only; omega, hfr⟩, by dsimp only; omega⟩
  ·try simp only [tstS] at hc4
   refine WC.exit rfl ?_
   refine cseq <| cg <| zm rfl <| za rfl <| cnil ?_
   refine WC.ret1 rfl rfl ?_
   have hk8 : k = (R.take 8).length := by
     simp at hc4
     omega
   rw [hk8, List.drop_length, framesOf, List.append_nil] at hfr
   rw [hfr]
   exact ⟨hO.below, rfl, by omega⟩
end Go.Proofs.Ythlfolpcmcejkaa
