/- Manifests: the law of sorted ones, walked. No condition. -/
import Derived.Test.YtnddlhjafkhdoaaManBack
set_option linter.unusedSimpArgs false
set_option linter.unusedVariables false
set_option maxRecDepth 100000
namespace Go.Eng
open Go Go.RowKit
theorem Mv.pureF {w w' : World} (c : Nat → Nat) (h : Below w.heap.size w w') (f : Nat → Nat) : ∃ c', Mv c w c' w' [] ∧ ∀ k, w.heap.size ≤ k → c' k = f k :=
  ⟨fun k => if k < w.heap.size then c k else f k, ⟨h.os, h.tape, h.output, h.size, fun k hk => if_pos hk, fun k hk _ => h.block k hk⟩, fun k hk => if_neg (Nat.not_lt.2 hk)⟩
end Go.Eng
namespace Go.Proofs.Ytnddlhjafkhdoaa
open Go Go.Eng Go.RowKit Silo TryT

theorem spoil2_ok {w : World} {v : Value} {l : List (List UInt8)} (hown : Own w 0 9 1 v l.length (l.flatMap fun x => [St x])) (hl : l.length ≤ 1048576) : Calls Try.prog 31 #[v] w (Ret fun _ w' => w.grownBy w' v.rowOf ∧ True) :=
  (spoil_ok hown hl).mono fun _ _ ⟨v, h, hg⟩ => ⟨v, h, hg, trivial⟩
/-- What stands while one manifest is looked at: the input, its copy, what Sorted made. -/
def SSt (w : World) (vM vT va vc vl vs u1 u2 : Value) (L : List Man) (m m' : Man) (i b1 b4 b5 : Nat) (c : Nat → Nat) (W : World) : Prop :=
  OldC w c W ∧ RdC manS c W [0] vM L ∧ BlkC c W 101 b1 [vM, vT] 25 ∧ CelC c W [0] (elemA vM manS.size i) [I m.kind, va, vc] ∧ FtC (fun w' => manS.rd w'.heap.size w' [I m.kind, va, vc] m) c W [0] ∧
  RdC strS c W [0] va m.blobs ∧ RdC strS c W [0] vc m.subs ∧ OwnC c W 7 9 1 vl m.blobs.length (m.blobs.flatMap fun x => [St x]) ∧ OwnC c W 7 9 1 vs m.subs.length (m.subs.flatMap fun x => [St x]) ∧ BlkC c W 104 b4 [I m.kind, vl, vs] 29 ∧
  OwnC c W 8 9 1 u1 m'.blobs.length (m'.blobs.flatMap fun x => [St x]) ∧ OwnC c W 14 9 1 u2 m'.subs.length (m'.subs.flatMap fun x => [St x]) ∧ BlkC c W 105 b5 [I m'.kind, u1, u2] 29

set_option maxHeartbeats 4000000 in
theorem manifestSorted_ok {w : World} {vM vT : Value} {L : List Man} {T : List (List UInt8)} (h1 : Rd manS w vM L) (h2 : Rd strS w vT T) :
    Calls Try.prog 4 #[.agg #[vM, vT]] w (Ret fun v w' => Below w.heap.size w w' ∧ v = .bool true) := by
  have o1 := h1.oneC
  have o2 := h2.oneC
  obtain ⟨c, hO, hc⟩ := OldC.start w
  replace h1 : RdC manS c w [0] vM L := Rd.toC h1 (fun k hk => by simp [hc, hasC])
  replace h2 : RdC strS c w [0] vT T := Rd.toC h2 (fun k hk => by simp [hc, hasC])
  clear hc
  refine enter (n := 180) (res := #[.tmp 2]) Try.func4 rfl rfl rfl rfl ?_
  refine cseq <| cregion ?_
  refine WR.eff (Eff.boxC c 101 rfl) rfl ?_
  rintro _ w1 ⟨b1, c1, rfl, hM1, hb1⟩
  replace hO := hO.mv hM1 rfl; replace h1 := h1.mv hM1 rfl; replace h2 := h2.mv hM1 rfl
  refine qq (Val.assign rfl) rfl <| cnil <| cseq <| cseq <| cregion <| qq (Val.loadBN agg25 rfl hb1.blk rfl) rfl ?_
  refine WR.eff (Eff.pureC c1 1 (Eff.call pf14 rfl (mheavy_ok h1.now h2.now))) rfl ?_
  rintro v18 w2 ⟨c2, hM2, hx2, rfl⟩
  replace hO := hO.mv hM2 rfl; replace h1 := h1.mv hM2 rfl; replace h2 := h2.mv hM2 rfl; replace hb1 := hb1.mv hM2 rfl
  refine cnil ?_
  refine WC.cond rfl (fun hc1 => ?_) (fun hc1 => ?_)
  ·try simp only [tstS] at hc1
   refine cseq <| cregion <| qq (Val.assign rfl) rfl <| cnil ?_
   refine WC.ret1 rfl rfl ?_
   exact ⟨hO.below, rfl⟩
  ·try simp only [tstS] at hc1
   obtain ⟨_, hlm⟩ := papers_light (L := L) (T := T) (by omega)
   refine cskip <| cseq <| cseq <| cregion <| qq (Val.assign rfl) rfl <| cnil <| cblock ?_
   refine WC.loop (σ := Nat) (fun i => [(1, .pointer (some ⟨b1, 0, none⟩)), (3, I i)]) (fun i w' => ∃ c', OldC w c' w' ∧ RdC manS c' w' [0] vM L ∧ BlkC c' w' 101 b1 [vM, vT] 25 ∧ i ≤ L.length ∧ i ≤ 6) (fun i => L.length - i) 0 (by repeat (first | exact Sub.nil _ | refine Sub.cons rfl ?_ | refine Sub.consM rfl ?_)) ⟨_, hO, h1, hb1, by simp, by simp⟩ ?_
   clear hO h1 h2 hb1
   rintro i wl ⟨cl, hO, h1, hb1, hi, hi6⟩
   have hsm := h1.now.small
   refine cseq <| cseq <| cregion <| qq (Val.move rfl) rfl ?_
   first | refine WR.val (Val.fieldAddr fld25_0 rfl) rfl ?_ | refine WR.val (Val.fieldAddrP fld25_0 rfl) rfl ?_
   refine qq (Val.loadB scl22 rfl hb1.blk rfl) rfl ?_
   first | refine WR.val (Val.rdlen sl22 (by assumption) rfl) rfl ?_ | refine WR.val (Val.sllen Try.underlying22 rfl) rfl ?_ | refine WR.val (Val.olen sl22 (by assumption) rfl) rfl ?_ | refine WR.val (Val.rdlenC sl22 (by assumption) rfl) rfl ?_
   refine qq (Val.lss rfl rfl) rfl <| qq (Val.move rfl) rfl ?_
   apply WR.sc true 2 _ (fun w' => wl = w')
   case hl => rfl
   case hg => rfl
   case hu => rfl
   case hv => rfl
   case hs => rfl
   case hoff => rfl
   case hd => rfl
   case hF => exact fun _ => rfl
   case hT =>
    intro hq8
    try simp only [tstS] at hq8
    simp only [List.take_succ_cons, List.take_zero]
    refine WR.on rfl rfl ?_
    refine qq (Val.move rfl) rfl ?_
    refine WR.on rfl rfl ?_
    refine qq (Val.lss rfl rfl) rfl ?_
    exact WR.nil ⟨rfl, Sub.drop _ 2 _ rfl rfl, rfl⟩
   rintro _ rfl
   refine cnil ?_
   refine WC.cond rfl (fun hc4 => ?_) (fun hc4 => ?_)
   ·try simp only [tstS] at hc4
    obtain ⟨hc4, hc4'⟩ := hc4
    have ka : i < L.length := by omega
    obtain ⟨cs1, hc110, hl1, hf1⟩ := h1.el ka (by decide)
    obtain ⟨hlb, hls⟩ := hlm _ (List.getElem_mem ka)
    obtain ⟨va, vc, rfl, ha0, hs0, hq⟩ := hf1.now
    have ha : RdC strS cl wl [0] va L[i].blobs := fun W hs hk => by
      obtain ⟨a, b, e, g1, _⟩ := hf1 W hs hk
      simp only [List.cons.injEq] at e
      obtain ⟨_, rfl, _⟩ := e; exact g1
    have hv : RdC strS cl wl [0] vc L[i].subs := fun W hs hk => by
      obtain ⟨a, b, e, _, g1, _⟩ := hf1 W hs hk
      simp only [List.cons.injEq] at e
      obtain ⟨_, _, rfl, _⟩ := e; exact g1
    have oka := ha0.okFlat; have okv := hs0.okFlat
    have za := ha0.small; have zv := hs0.small
    clear ha0 hs0
    refine cskip <| cseq <| cblock <| cseq <| cregion ?_
    first | refine WR.val (Val.fieldAddr fld25_0 rfl) rfl ?_ | refine WR.val (Val.fieldAddrP fld25_0 rfl) rfl ?_
    refine qq (Val.loadB scl22 rfl hb1.blk rfl) rfl <| qq (Val.move rfl) rfl ?_
    first | refine WR.val (Val.indexAddr sl22 (by assumption) rfl rfl rfl (by first | omega | assumption | (simp; omega) | (simp; done)) (by first | omega | assumption | (simp; omega) | (simp; done))) rfl ?_ | refine WR.val (Val.indexC sl22 (by assumption) rfl rfl (by first | omega | assumption | (simp; omega) | (simp; done)) (by first | omega | assumption | (simp; omega) | (simp; done))) rfl ?_ | refine WR.val (Val.indexO sl22 (by assumption) rfl rfl (by first | omega | assumption | (simp; omega) | (simp; done)) (by first | omega | assumption | (simp; omega) | (simp; done))) rfl ?_
    refine qq (Val.loadE agg29 rfl hc110.cel hl1) rfl ?_
    refine WR.eff (Eff.pureC cl 7 (Eff.call pf16 rfl (copyManifest_ok hf1.now (by omega) (by omega)))) rfl ?_
    rintro v35 w3 ⟨c3, hM3, hx3, ⟨vl, vs, rfl, hol, hos⟩⟩
    replace hO := hO.mv hM3 rfl; replace h1 := h1.mv hM3 rfl; replace hb1 := hb1.mv hM3 rfl; replace hc110 := hc110.mv hM3 rfl; replace hf1 := hf1.mv hM3 rfl; replace ha := ha.mv hM3 rfl; replace hv := hv.mv hM3 rfl
    replace hol := hol.toC hx3
    replace hos := hos.toC hx3
    have cl' := hol.cellsV; have ol' := hol.oneC; have cs' := hos.cellsV; have os' := hos.oneC
    have hpl : PlainV vl := by obtain ⟨A, q, e, _, hA⟩ := hol.own.formA; exact ⟨A, _, q, e, hA⟩
    have hps : PlainV vs := by obtain ⟨A, q, e, _, hA⟩ := hos.own.formA; exact ⟨A, _, q, e, hA⟩
    refine WR.eff (Eff.allocC c3 104 zero29) rfl ?_
    rintro _ w4 ⟨b4, c4, rfl, hM4, hb4⟩
    replace hO := hO.mv hM4 rfl; replace h1 := h1.mv hM4 rfl; replace hb1 := hb1.mv hM4 rfl; replace hc110 := hc110.mv hM4 rfl; replace hf1 := hf1.mv hM4 rfl; replace ha := ha.mv hM4 rfl; replace hv := hv.mv hM4 rfl; replace hol := hol.mv hM4 rfl; replace hos := hos.mv hM4 rfl
    refine WR.eff_ (Eff.storeNC agg29 rfl rfl hb4 rfl rfl (by repeat (first | exact List.forall_mem_nil _ | refine List.forall_mem_cons.2 ⟨by first | rfl | assumption, ?_⟩))) ?_
    rintro _ w5 ⟨hS, hM5⟩
    replace hO := hO.mv hM5 rfl; replace h1 := h1.mv hM5 rfl; replace hb1 := hb1.mv hM5 rfl; replace hc110 := hc110.mv hM5 rfl; replace hf1 := hf1.mv hM5 rfl; replace ha := ha.mv hM5 rfl; replace hv := hv.mv hM5 rfl; replace hol := hol.mv hM5 rfl; replace hos := hos.mv hM5 rfl
    replace hb4 := hS
    refine cnil <| cseq <| cregion <| qq (Val.loadBN agg29 rfl hb4.blk rfl) rfl ?_
    refine WR.eff (Eff.call pf28 rfl (mSorted_ok (m := L[i]) (hol.own.rdStrs oka za) (hos.own.rdStrs okv zv) hpl hps (by omega) (by omega))) rfl ?_
    rintro _ wS ⟨hbS, u1, u2, rfl, hu1, hu2, hne⟩
    obtain ⟨cS, hMS, hxS⟩ := Mv.pureF _ hbS (fun k => if u2.rowOf = some k then 14 else 8)
    replace hO := hO.mv hMS rfl; replace h1 := h1.mv hMS rfl; replace hb1 := hb1.mv hMS rfl; replace hc110 := hc110.mv hMS rfl; replace hf1 := hf1.mv hMS rfl; replace ha := ha.mv hMS rfl; replace hv := hv.mv hMS rfl; replace hol := hol.mv hMS rfl; replace hos := hos.mv hMS rfl; replace hb4 := hb4.mv hMS rfl
    have hx1 : OwnC cS wS 8 9 1 u1 (manSort L[i]).1.blobs.length ((manSort L[i]).1.blobs.flatMap fun x => [St x]) := ⟨hu1.base_le (Nat.zero_le _), fun k hk => by rw [hxS k (hu1.lt k hk).1, if_neg (hne k hk)]⟩
    have hx2 : OwnC cS wS 14 9 1 u2 (manSort L[i]).1.subs.length ((manSort L[i]).1.subs.flatMap fun x => [St x]) := ⟨hu2.base_le (Nat.zero_le _), fun k hk => by rw [hxS k (hu2.lt k hk).1, if_pos hk]⟩
    clear hu1 hu2
    have hu1 := hx1; have hu2 := hx2
    clear hx1 hx2
    have cu1 := hu1.cellsV; have ou1 := hu1.oneC; have cu2 := hu2.cellsV; have ou2 := hu2.oneC
    refine qq (Val.move rfl) rfl <| qq (Val.extract rfl rfl) rfl <| qq (Val.extract rfl rfl) rfl ?_
    refine WR.eff (Eff.allocC cS 105 zero29) rfl ?_
    rintro _ w6 ⟨b5, c6, rfl, hM6, hb5⟩
    replace hO := hO.mv hM6 rfl; replace h1 := h1.mv hM6 rfl; replace hb1 := hb1.mv hM6 rfl; replace hc110 := hc110.mv hM6 rfl; replace hf1 := hf1.mv hM6 rfl; replace ha := ha.mv hM6 rfl; replace hv := hv.mv hM6 rfl; replace hol := hol.mv hM6 rfl; replace hos := hos.mv hM6 rfl; replace hb4 := hb4.mv hM6 rfl; replace hu1 := hu1.mv hM6 rfl; replace hu2 := hu2.mv hM6 rfl
    refine WR.eff_ (Eff.storeNC agg29 rfl rfl hb5 rfl rfl (by repeat (first | exact List.forall_mem_nil _ | refine List.forall_mem_cons.2 ⟨by first | rfl | assumption, ?_⟩))) ?_
    rintro _ w7 ⟨hS, hM7⟩
    replace hO := hO.mv hM7 rfl; replace h1 := h1.mv hM7 rfl; replace hb1 := hb1.mv hM7 rfl; replace hc110 := hc110.mv hM7 rfl; replace hf1 := hf1.mv hM7 rfl; replace ha := ha.mv hM7 rfl; replace hv := hv.mv hM7 rfl; replace hol := hol.mv hM7 rfl; replace hos := hos.mv hM7 rfl; replace hb4 := hb4.mv hM7 rfl; replace hu1 := hu1.mv hM7 rfl; replace hu2 := hu2.mv hM7 rfl
    replace hb5 := hS
    refine qq (Val.assign rfl) rfl <| cnil <| cseq <| cregion <| qq (Val.assign rfl) rfl <| cnil <| cseq <| cseq <| cregion ?_
    first | refine WR.val (Val.fieldAddr fld25_0 rfl) rfl ?_ | refine WR.val (Val.fieldAddrP fld25_0 rfl) rfl ?_
    refine qq (Val.loadB scl22 rfl hb1.blk rfl) rfl <| qq (Val.move rfl) rfl ?_
    first | refine WR.val (Val.indexAddr sl22 (by assumption) rfl rfl rfl (by first | omega | assumption | (simp; omega) | (simp; done)) (by first | omega | assumption | (simp; omega) | (simp; done))) rfl ?_ | refine WR.val (Val.indexC sl22 (by assumption) rfl rfl (by first | omega | assumption | (simp; omega) | (simp; done)) (by first | omega | assumption | (simp; omega) | (simp; done))) rfl ?_ | refine WR.val (Val.indexO sl22 (by assumption) rfl rfl (by first | omega | assumption | (simp; omega) | (simp; done)) (by first | omega | assumption | (simp; omega) | (simp; done))) rfl ?_
    first | refine WR.val (Val.fieldAddr fld29_0 rfl) rfl ?_ | refine WR.val (Val.fieldAddrP fld29_0 rfl) rfl ?_
    refine qq (Val.loadEf scl3 rfl hc110.cel rfl) rfl ?_
    refine WR.eff (Eff.pureC c6 1 (Eff.call pf29 rfl (num_ok L[i].kind 255))) rfl ?_
    rintro v47 w8 ⟨c8, hM8, hx8, rfl⟩
    replace hO := hO.mv hM8 rfl; replace h1 := h1.mv hM8 rfl; replace hb1 := hb1.mv hM8 rfl; replace hc110 := hc110.mv hM8 rfl; replace hf1 := hf1.mv hM8 rfl; replace ha := ha.mv hM8 rfl; replace hv := hv.mv hM8 rfl; replace hol := hol.mv hM8 rfl; replace hos := hos.mv hM8 rfl; replace hb4 := hb4.mv hM8 rfl; replace hu1 := hu1.mv hM8 rfl; replace hu2 := hu2.mv hM8 rfl; replace hb5 := hb5.mv hM8 rfl
    refine qq (Val.not rfl) rfl <| cnil ?_
    refine WC.mono (N := fun e w' => ∃ c', Sub [(4000000, .tuple #[]), (1, .pointer (some ⟨b1, 0, none⟩)), (3, I i), (4, .pointer (some ⟨b4, 0, none⟩)), (5, .pointer (some ⟨b5, 0, none⟩)), (6, I (manSort L[i]).2), (7, I (if (decide (0 ≤ L[i].kind) && decide (L[i].kind ≤ 255)) = true then 0 else 1))] e ∧ SSt w vM vT va vc vl vs u1 u2 L L[i] (manSort L[i]).1 i b1 b4 b5 c' w') ?_ ?_
    ·refine WC.cond rfl (fun hc9 => ?_) (fun hc9 => ?_)
     ·try simp only [tstS] at hc9
      refine cregion <| qq (Val.assign rfl) rfl <| cnil ?_
      rw [hc9]
      exact ⟨_, (by repeat (first | exact Sub.nil _ | refine Sub.cons rfl ?_ | refine Sub.consM rfl ?_)), hO, h1, hb1, hc110, hf1, ha, hv, hol, hos, hb4, hu1, hu2, hb5⟩
     ·try simp only [tstS] at hc9
      refine cskip ?_
      rw [decide_eq_true hc9.1, decide_eq_true hc9.2]
      exact ⟨_, (by repeat (first | exact Sub.nil _ | refine Sub.cons rfl ?_ | refine Sub.consM rfl ?_)), hO, h1, hb1, hc110, hf1, ha, hv, hol, hos, hb4, hu1, hu2, hb5⟩
    ·skip
     rintro e8 w8' ⟨c8', hsub, hO, h1, hb1, hc110, hf1, ha, hv, hol, hos, hb4, hu1, hu2, hb5⟩
     refine WC.sub hsub ?_
     clear hsub e8
     refine cseq ?_
     refine WC.regionD (Kp c8' w8' [9]) [0, 1, 0, 0, 0, 1, 2, 0, 1, 0, 0, 0, 1, 2, 0] [0, 1, 2, 3, 4, 5, 7, 8, 9, 10, 11, 12, 6, 13, 14] mixed (by kernel_rfl) ?_
     have hM9 := Mv.drew c8' w8' []
     have hCw := Mv.drew c8' w8' [9]
     generalize w8'.drew = w9 at hM9 hCw ⊢
     have hb10 := hb1
     have hb40 := hb4
     have hb50 := hb5
     have hc1100 := hc110
     replace hO := hO.mv hM9 rfl; replace h1 := h1.mv hM9 rfl; replace hb1 := hb1.mv hM9 rfl; replace hc110 := hc110.mv hM9 rfl; replace hf1 := hf1.mv hM9 rfl; replace ha := ha.mv hM9 rfl; replace hv := hv.mv hM9 rfl; replace hol := hol.mv hM9 rfl; replace hos := hos.mv hM9 rfl; replace hb4 := hb4.mv hM9 rfl; replace hu1 := hu1.mv hM9 rfl; replace hu2 := hu2.mv hM9 rfl; replace hb5 := hb5.mv hM9 rfl
     first | refine WD.val rfl rfl rfl (fun _ => Val.fieldAddr fld25_0 rfl) rfl ?_ | refine WD.val rfl rfl rfl (fun _ => Val.fieldAddrP fld25_0 rfl) rfl ?_
     refine qc rfl rfl rfl hCw.kp (fun W hW => Val.loadB scl22 rfl (hb10.kp hW rfl).blk rfl) rfl <| qd rfl rfl rfl (fun _ => Val.move rfl) rfl ?_
     first | refine WD.val rfl rfl rfl (fun _ => Val.indexAddr sl22 (by assumption) rfl rfl rfl (by first | omega | assumption | (simp; omega) | (simp; done)) (by first | omega | assumption | (simp; omega) | (simp; done))) rfl ?_ | refine WD.val rfl rfl rfl (fun _ => Val.indexC sl22 (by assumption) rfl rfl (by first | omega | assumption | (simp; omega) | (simp; done)) (by first | omega | assumption | (simp; omega) | (simp; done))) rfl ?_ | refine WD.val rfl rfl rfl (fun _ => Val.indexO sl22 (by assumption) rfl rfl (by first | omega | assumption | (simp; omega) | (simp; done)) (by first | omega | assumption | (simp; omega) | (simp; done))) rfl ?_
     first | refine WD.val rfl rfl rfl (fun _ => Val.fieldAddr fld29_1 rfl) rfl ?_ | refine WD.val rfl rfl rfl (fun _ => Val.fieldAddrP fld29_1 rfl) rfl ?_
     refine qc rfl rfl rfl hCw.kp (fun W hW => Val.loadEf scl23 rfl (hc1100.kp hW rfl).cel rfl) rfl ?_
     first | refine WD.val rfl rfl rfl (fun _ => Val.fieldAddr fld25_0 rfl) rfl ?_ | refine WD.val rfl rfl rfl (fun _ => Val.fieldAddrP fld25_0 rfl) rfl ?_
     refine qc rfl rfl rfl hCw.kp (fun W hW => Val.loadB scl22 rfl (hb10.kp hW rfl).blk rfl) rfl <| qd rfl rfl rfl (fun _ => Val.move rfl) rfl ?_
     first | refine WD.val rfl rfl rfl (fun _ => Val.indexAddr sl22 (by assumption) rfl rfl rfl (by first | omega | assumption | (simp; omega) | (simp; done)) (by first | omega | assumption | (simp; omega) | (simp; done))) rfl ?_ | refine WD.val rfl rfl rfl (fun _ => Val.indexC sl22 (by assumption) rfl rfl (by first | omega | assumption | (simp; omega) | (simp; done)) (by first | omega | assumption | (simp; omega) | (simp; done))) rfl ?_ | refine WD.val rfl rfl rfl (fun _ => Val.indexO sl22 (by assumption) rfl rfl (by first | omega | assumption | (simp; omega) | (simp; done)) (by first | omega | assumption | (simp; omega) | (simp; done))) rfl ?_
     first | refine WD.val rfl rfl rfl (fun _ => Val.fieldAddr fld29_2 rfl) rfl ?_ | refine WD.val rfl rfl rfl (fun _ => Val.fieldAddrP fld29_2 rfl) rfl ?_
     refine qc rfl rfl rfl hCw.kp (fun W hW => Val.loadEf scl23 rfl (hc1100.kp hW rfl).cel rfl) rfl ?_
     refine WD.eff rfl rfl rfl (Eff.pureC c8' 9 (Eff.call pf15 rfl (copyStrings_ok ha.now (by omega)))) rfl ?_
     rintro v55 w10 ⟨c10, hM10, hx10, ho55⟩
     refine ⟨fun hC => hC.step hCw hM10 rfl, ?_⟩
     replace hCw := hCw.tr hM10 rfl
     replace hO := hO.mv hM10 rfl; replace h1 := h1.mv hM10 rfl; replace hb1 := hb1.mv hM10 rfl; replace hc110 := hc110.mv hM10 rfl; replace hf1 := hf1.mv hM10 rfl; replace ha := ha.mv hM10 rfl; replace hv := hv.mv hM10 rfl; replace hol := hol.mv hM10 rfl; replace hos := hos.mv hM10 rfl; replace hb4 := hb4.mv hM10 rfl; replace hu1 := hu1.mv hM10 rfl; replace hu2 := hu2.mv hM10 rfl; replace hb5 := hb5.mv hM10 rfl
     replace ho55 := ho55.toC hx10
     refine WD.eff rfl rfl rfl (Eff.appendC sl23 rfl rfl ho55 (Src.flat Try.underlying23 hv.now) (by rw [maxLen_eq]; first | omega | (simp; omega)) (by first | omega | (simp; omega))) rfl ?_
     rintro v62 w11 ⟨c11, hM11, hOq⟩
     refine ⟨fun hC => hC.step hCw hM11 rfl, ?_⟩
     replace hCw := hCw.tr hM11 rfl
     replace hO := hO.mv hM11 rfl; replace h1 := h1.mv hM11 rfl; replace hb1 := hb1.mv hM11 rfl; replace hc110 := hc110.mv hM11 rfl; replace hf1 := hf1.mv hM11 rfl; replace ha := ha.mv hM11 rfl; replace hv := hv.mv hM11 rfl; replace hol := hol.mv hM11 rfl; replace hos := hos.mv hM11 rfl; replace hb4 := hb4.mv hM11 rfl; replace hu1 := hu1.mv hM11 rfl; replace hu2 := hu2.mv hM11 rfl; replace hb5 := hb5.mv hM11 rfl
     replace ho55 := hOq
     refine qd rfl rfl rfl (fun _ => Val.assign rfl) rfl ?_
     refine WD.nil ?_
     clear hb10 hb40 hb50 hc1100
     clear hCw
     refine cseq <| cseq ?_
     have hd1 : ∀ x ∈ L[i].blobs ++ L[i].subs, x.length ≤ 140737488355328 := fun x hx => (List.mem_append.1 hx).elim (oka x) (okv x)
     rw [← List.flatMap_append, ← List.length_append] at ho55
     have hdl : (L[i].blobs ++ L[i].subs).length ≤ 12000 := by rw [List.length_append]; omega
     have hbad := manSort_bad L[i]
     generalize L[i].blobs ++ L[i].subs = D at ho55 hd1 hdl hbad
     have hD : RdC strS _ _ [9] v62 D := ho55.rdFlat (by omega) hd1
     refine cregion <| qq (Val.assign rfl) rfl <| cnil <| cblock ?_
     refine WC.loop (σ := Nat) (fun j => [(1, .pointer (some ⟨b1, 0, none⟩)), (3, I i), (4, .pointer (some ⟨b4, 0, none⟩)), (5, .pointer (some ⟨b5, 0, none⟩)), (6, I (manSort L[i]).2), (7, I (if ((decide (0 ≤ L[i].kind) && decide (L[i].kind ≤ 255)) && all32 (D.take j)) = true then 0 else 1)), (8, v62), (9, I j)]) (fun j w' => ∃ c', SSt w vM vT va vc vl vs u1 u2 L L[i] (manSort L[i]).1 i b1 b4 b5 c' w' ∧ RdC strS c' w' [9] v62 D ∧ j ≤ D.length) (fun j => D.length - j) 0 (by simp only [List.take_zero, show all32 [] = true from rfl, Bool.and_true]; repeat (first | exact Sub.nil _ | refine Sub.cons rfl ?_ | refine Sub.consM rfl ?_)) ⟨_, ⟨hO, h1, hb1, hc110, hf1, ha, hv, hol, hos, hb4, hu1, hu2, hb5⟩, hD, by omega⟩ ?_
     clear hO h1 hb1 hc110 hf1 ha hv hol hos hb4 hu1 hu2 hb5 ho55 hD
     rintro j wj ⟨cj, ⟨hO, h1, hb1, hc110, hf1, ha, hv, hol, hos, hb4, hu1, hu2, hb5⟩, hD, hj⟩
     refine cseq <| cseq <| cregion <| qq (Val.move rfl) rfl <| qq (Val.move rfl) rfl <| qq (Val.rdlenC sl23 hD rfl) rfl <| qq (Val.lss rfl rfl) rfl <| cnil ?_
     refine WC.cond rfl (fun hc13 => ?_) (fun hc13 => ?_)
     ·try simp only [tstS] at hc13
      have kj : j < D.length := by omega
      obtain ⟨hc71, _⟩ := RdC.elFlat hD kj (by decide)
      refine cskip <| cseq <| cblock <| cseq <| cregion <| qq (Val.move rfl) rfl <| qq (Val.move rfl) rfl <| qq (Val.indexAddr sl23 hD.now rfl rfl rfl (by omega) (by omega)) rfl <| qq (Val.loadE1 scl9 rfl hc71.cel) rfl ?_
      refine qq (Val.slen Try.underlying9 rfl) rfl <| qq (Val.neq rfl rfl) rfl <| cnil ?_
      refine WC.cond rfl (fun hc15 => ?_) (fun hc15 => ?_)
      ·try simp only [tstS] at hc15
       refine cregion <| qq (Val.assign rfl) rfl <| cnil <| cregion <| qq (Val.move rfl) rfl <| qq (Val.addI rfl rfl (by first | omega | assumption | (simp; omega) | (simp; done)) (by first | omega | assumption | (simp; omega) | (simp; done))) rfl <| qq (Val.assign rfl) rfl <| cnil ?_
       first
       | (have e1 : ((decide (0 ≤ L[i].kind) && decide (L[i].kind ≤ 255)) && all32 (D.take (j + 1))) = false := by
            rw [all32_take kj, decide_eq_false (show ¬ D[j].length = 32 by omega), Bool.and_false, Bool.and_false]
          exact ⟨j + 1, (by rw [e1]; repeat (first | exact Sub.nil _ | refine Sub.cons rfl ?_ | refine Sub.consM rfl ?_)), ⟨_, ⟨hO, h1, hb1, hc110, hf1, ha, hv, hol, hos, hb4, hu1, hu2, hb5⟩, hD, kj⟩, by omega⟩)
       | (have e1 : ((decide (0 ≤ L[i].kind) && decide (L[i].kind ≤ 255)) && all32 (D.take (j + 1))) = ((decide (0 ≤ L[i].kind) && decide (L[i].kind ≤ 255)) && all32 (D.take j)) := by
            rw [all32_take kj, decide_eq_true (show D[j].length = 32 by omega), Bool.and_true]
          exact ⟨j + 1, (by rw [e1]; repeat (first | exact Sub.nil _ | refine Sub.cons rfl ?_ | refine Sub.consM rfl ?_)), ⟨_, ⟨hO, h1, hb1, hc110, hf1, ha, hv, hol, hos, hb4, hu1, hu2, hb5⟩, hD, kj⟩, by omega⟩)
      ·try simp only [tstS] at hc15
       refine cskip <| cregion <| qq (Val.move rfl) rfl <| qq (Val.addI rfl rfl (by first | omega | assumption | (simp; omega) | (simp; done)) (by first | omega | assumption | (simp; omega) | (simp; done))) rfl <| qq (Val.assign rfl) rfl <| cnil ?_
       first
       | (have e1 : ((decide (0 ≤ L[i].kind) && decide (L[i].kind ≤ 255)) && all32 (D.take (j + 1))) = false := by
            rw [all32_take kj, decide_eq_false (show ¬ D[j].length = 32 by omega), Bool.and_false, Bool.and_false]
          exact ⟨j + 1, (by rw [e1]; repeat (first | exact Sub.nil _ | refine Sub.cons rfl ?_ | refine Sub.consM rfl ?_)), ⟨_, ⟨hO, h1, hb1, hc110, hf1, ha, hv, hol, hos, hb4, hu1, hu2, hb5⟩, hD, kj⟩, by omega⟩)
       | (have e1 : ((decide (0 ≤ L[i].kind) && decide (L[i].kind ≤ 255)) && all32 (D.take (j + 1))) = ((decide (0 ≤ L[i].kind) && decide (L[i].kind ≤ 255)) && all32 (D.take j)) := by
            rw [all32_take kj, decide_eq_true (show D[j].length = 32 by omega), Bool.and_true]
          exact ⟨j + 1, (by rw [e1]; repeat (first | exact Sub.nil _ | refine Sub.cons rfl ?_ | refine Sub.consM rfl ?_)), ⟨_, ⟨hO, h1, hb1, hc110, hf1, ha, hv, hol, hos, hb4, hu1, hu2, hb5⟩, hD, kj⟩, by omega⟩)
     ·try simp only [tstS] at hc13
      have : j = D.length := by omega
      subst this
      rw [List.take_length]
      refine WC.exit rfl ?_
      refine cseq <| cregion ?_
      refine WR.eff (Eff.allocC cj 110 zero29) rfl ?_
      rintro _ w12 ⟨b10, c12, rfl, hM12, hb10⟩
      replace hO := hO.mv hM12 rfl; replace h1 := h1.mv hM12 rfl; replace hb1 := hb1.mv hM12 rfl; replace hc110 := hc110.mv hM12 rfl; replace hf1 := hf1.mv hM12 rfl; replace ha := ha.mv hM12 rfl; replace hv := hv.mv hM12 rfl; replace hol := hol.mv hM12 rfl; replace hos := hos.mv hM12 rfl; replace hb4 := hb4.mv hM12 rfl; replace hu1 := hu1.mv hM12 rfl; replace hu2 := hu2.mv hM12 rfl; replace hb5 := hb5.mv hM12 rfl
      refine cnil <| cseq <| cseq ?_
      generalize ((decide (0 ≤ L[i].kind) && decide (L[i].kind ≤ 255)) && all32 D) = X at hbad ⊢
      refine cregion <| qq (Val.move rfl) rfl <| qq (Val.eql rfl rfl) rfl <| cnil ?_
      refine WC.mono (N := fun e w' => ∃ c' y1 y2, Sub [(4000000, .tuple #[]), (1, .pointer (some ⟨b1, 0, none⟩)), (3, I i), (4, .pointer (some ⟨b4, 0, none⟩)), (5, .pointer (some ⟨b5, 0, none⟩)), (6, I (manSort L[i]).2), (7, I (manSort L[i]).2), (10, .pointer (some ⟨b10, 0, none⟩))] e ∧ SSt w vM vT va vc vl vs u1 u2 L L[i] (manSort L[i]).1 i b1 b4 b5 c' w' ∧ OwnC c' w' 12 9 1 y1 (manSort L[i]).1.blobs.length ((manSort L[i]).1.blobs.flatMap fun x => [St x]) ∧ OwnC c' w' 12 9 1 y2 (manSort L[i]).1.subs.length ((manSort L[i]).1.subs.flatMap fun x => [St x]) ∧ BlkC c' w' 110 b10 [I (manSort L[i]).1.kind, y1, y2] 29) ?_ ?_
      ·refine WC.cond rfl (fun hc18 => ?_) (fun hc18 => ?_)
       ·try simp only [tstS] at hc18
        have hkk : X = true := by
          cases X with
          | true => rfl
          | false => simp at hc18
        subst hkk
        rw [if_pos rfl] at hbad
        rw [if_pos rfl]
        refine cseq ?_
        refine WC.regionD (Kp c12 w12 []) [0, 1, 0, 0, 0, 1, 0, 1, 0, 0, 0, 1, 2, 0, 1, 0, 0, 0, 1, 2, 0, 3] [0, 1, 2, 3, 4, 5, 6, 7, 8, 9, 10, 11, 13, 14, 15, 16, 17, 18, 12, 19, 20, 21] mixed (by kernel_rfl) ?_
        have hM13 := Mv.drew c12 w12 []
        have hCw := Mv.drew c12 w12 []
        generalize w12.drew = w13 at hM13 hCw ⊢
        have hb1z := hb1
        have hb40 := hb4
        have hb50 := hb5
        have hb100 := hb10
        have hc1100 := hc110
        replace hO := hO.mv hM13 rfl; replace h1 := h1.mv hM13 rfl; replace hb1 := hb1.mv hM13 rfl; replace hc110 := hc110.mv hM13 rfl; replace hf1 := hf1.mv hM13 rfl; replace ha := ha.mv hM13 rfl; replace hv := hv.mv hM13 rfl; replace hol := hol.mv hM13 rfl; replace hos := hos.mv hM13 rfl; replace hb4 := hb4.mv hM13 rfl; replace hu1 := hu1.mv hM13 rfl; replace hu2 := hu2.mv hM13 rfl; replace hb5 := hb5.mv hM13 rfl; replace hb10 := hb10.mv hM13 rfl
        first | refine WD.val rfl rfl rfl (fun _ => Val.fieldAddr fld25_0 rfl) rfl ?_ | refine WD.val rfl rfl rfl (fun _ => Val.fieldAddrP fld25_0 rfl) rfl ?_
        refine qc rfl rfl rfl hCw.kp (fun W hW => Val.loadB scl22 rfl (hb1z.kp hW rfl).blk rfl) rfl <| qd rfl rfl rfl (fun _ => Val.move rfl) rfl ?_
        first | refine WD.val rfl rfl rfl (fun _ => Val.indexAddr sl22 (by assumption) rfl rfl rfl (by first | omega | assumption | (simp; omega) | (simp; done)) (by first | omega | assumption | (simp; omega) | (simp; done))) rfl ?_ | refine WD.val rfl rfl rfl (fun _ => Val.indexC sl22 (by assumption) rfl rfl (by first | omega | assumption | (simp; omega) | (simp; done)) (by first | omega | assumption | (simp; omega) | (simp; done))) rfl ?_ | refine WD.val rfl rfl rfl (fun _ => Val.indexO sl22 (by assumption) rfl rfl (by first | omega | assumption | (simp; omega) | (simp; done)) (by first | omega | assumption | (simp; omega) | (simp; done))) rfl ?_
        first | refine WD.val rfl rfl rfl (fun _ => Val.fieldAddr fld29_0 rfl) rfl ?_ | refine WD.val rfl rfl rfl (fun _ => Val.fieldAddrP fld29_0 rfl) rfl ?_
        refine qc rfl rfl rfl hCw.kp (fun W hW => Val.loadEf scl3 rfl (hc1100.kp hW rfl).cel rfl) rfl ?_
        first | refine WD.val rfl rfl rfl (fun _ => Val.fieldAddr fld25_0 rfl) rfl ?_ | refine WD.val rfl rfl rfl (fun _ => Val.fieldAddrP fld25_0 rfl) rfl ?_
        refine qc rfl rfl rfl hCw.kp (fun W hW => Val.loadB scl22 rfl (hb1z.kp hW rfl).blk rfl) rfl <| qd rfl rfl rfl (fun _ => Val.move rfl) rfl ?_
        first | refine WD.val rfl rfl rfl (fun _ => Val.indexAddr sl22 (by assumption) rfl rfl rfl (by first | omega | assumption | (simp; omega) | (simp; done)) (by first | omega | assumption | (simp; omega) | (simp; done))) rfl ?_ | refine WD.val rfl rfl rfl (fun _ => Val.indexC sl22 (by assumption) rfl rfl (by first | omega | assumption | (simp; omega) | (simp; done)) (by first | omega | assumption | (simp; omega) | (simp; done))) rfl ?_ | refine WD.val rfl rfl rfl (fun _ => Val.indexO sl22 (by assumption) rfl rfl (by first | omega | assumption | (simp; omega) | (simp; done)) (by first | omega | assumption | (simp; omega) | (simp; done))) rfl ?_
        first | refine WD.val rfl rfl rfl (fun _ => Val.fieldAddr fld29_1 rfl) rfl ?_ | refine WD.val rfl rfl rfl (fun _ => Val.fieldAddrP fld29_1 rfl) rfl ?_
        refine qc rfl rfl rfl hCw.kp (fun W hW => Val.loadEf scl23 rfl (hc1100.kp hW rfl).cel rfl) rfl ?_
        first | refine WD.val rfl rfl rfl (fun _ => Val.fieldAddr fld25_0 rfl) rfl ?_ | refine WD.val rfl rfl rfl (fun _ => Val.fieldAddrP fld25_0 rfl) rfl ?_
        refine qc rfl rfl rfl hCw.kp (fun W hW => Val.loadB scl22 rfl (hb1z.kp hW rfl).blk rfl) rfl <| qd rfl rfl rfl (fun _ => Val.move rfl) rfl ?_
        first | refine WD.val rfl rfl rfl (fun _ => Val.indexAddr sl22 (by assumption) rfl rfl rfl (by first | omega | assumption | (simp; omega) | (simp; done)) (by first | omega | assumption | (simp; omega) | (simp; done))) rfl ?_ | refine WD.val rfl rfl rfl (fun _ => Val.indexC sl22 (by assumption) rfl rfl (by first | omega | assumption | (simp; omega) | (simp; done)) (by first | omega | assumption | (simp; omega) | (simp; done))) rfl ?_ | refine WD.val rfl rfl rfl (fun _ => Val.indexO sl22 (by assumption) rfl rfl (by first | omega | assumption | (simp; omega) | (simp; done)) (by first | omega | assumption | (simp; omega) | (simp; done))) rfl ?_
        first | refine WD.val rfl rfl rfl (fun _ => Val.fieldAddr fld29_2 rfl) rfl ?_ | refine WD.val rfl rfl rfl (fun _ => Val.fieldAddrP fld29_2 rfl) rfl ?_
        refine qc rfl rfl rfl hCw.kp (fun W hW => Val.loadEf scl23 rfl (hc1100.kp hW rfl).cel rfl) rfl ?_
        refine WD.eff rfl rfl rfl (Eff.pureC c12 12 (Eff.call pf30 rfl (pRising_ok ha.now (by omega)))) rfl ?_
        rintro v89 w14 ⟨c14, hM14, hx14, hy1⟩
        refine ⟨fun hC => hC.step hCw hM14 rfl, ?_⟩
        replace hCw := hCw.tr hM14 rfl
        replace hO := hO.mv hM14 rfl; replace h1 := h1.mv hM14 rfl; replace hb1 := hb1.mv hM14 rfl; replace hc110 := hc110.mv hM14 rfl; replace hf1 := hf1.mv hM14 rfl; replace ha := ha.mv hM14 rfl; replace hv := hv.mv hM14 rfl; replace hol := hol.mv hM14 rfl; replace hos := hos.mv hM14 rfl; replace hb4 := hb4.mv hM14 rfl; replace hu1 := hu1.mv hM14 rfl; replace hu2 := hu2.mv hM14 rfl; replace hb5 := hb5.mv hM14 rfl; replace hb10 := hb10.mv hM14 rfl
        replace hy1 := hy1.toC hx14
        refine WD.eff rfl rfl rfl (Eff.pureC c14 12 (Eff.call pf30 rfl (pRising_ok hv.now (by omega)))) rfl ?_
        rintro v96 w15 ⟨c15, hM15, hx15, hy2⟩
        refine ⟨fun hC => hC.step hCw hM15 rfl, ?_⟩
        replace hCw := hCw.tr hM15 rfl
        replace hO := hO.mv hM15 rfl; replace h1 := h1.mv hM15 rfl; replace hb1 := hb1.mv hM15 rfl; replace hc110 := hc110.mv hM15 rfl; replace hf1 := hf1.mv hM15 rfl; replace ha := ha.mv hM15 rfl; replace hv := hv.mv hM15 rfl; replace hol := hol.mv hM15 rfl; replace hos := hos.mv hM15 rfl; replace hb4 := hb4.mv hM15 rfl; replace hu1 := hu1.mv hM15 rfl; replace hu2 := hu2.mv hM15 rfl; replace hb5 := hb5.mv hM15 rfl; replace hb10 := hb10.mv hM15 rfl; replace hy1 := hy1.mv hM15 rfl
        replace hy2 := hy2.toC hx15
        obtain ⟨Y1, z1, rfl, _, _⟩ := hy1.own.formA
        obtain ⟨Y2, z2, rfl, _, _⟩ := hy2.own.formA
        have hn1 := riseS_len L[i].blobs; have hn2 := riseS_len L[i].subs
        refine qd rfl rfl rfl (fun _ => Val.build (cells := #[I L[i].kind, .slice Y1 (riseS L[i].blobs).length z1, .slice Y2 (riseS L[i].subs).length z2]) rfl (by kernel_rfl)) rfl ?_
        refine WD.wild rfl rfl rfl (Eff.storeNC agg29 rfl rfl hb10 rfl rfl (by repeat (first | exact List.forall_mem_nil _ | refine List.forall_mem_cons.2 ⟨by first | rfl | assumption, ?_⟩))) ?_
        rintro _ w16 ⟨hS, hM16⟩
        replace hO := hO.mv hM16 rfl; replace h1 := h1.mv hM16 rfl; replace hb1 := hb1.mv hM16 rfl; replace hc110 := hc110.mv hM16 rfl; replace hf1 := hf1.mv hM16 rfl; replace ha := ha.mv hM16 rfl; replace hv := hv.mv hM16 rfl; replace hol := hol.mv hM16 rfl; replace hos := hos.mv hM16 rfl; replace hb4 := hb4.mv hM16 rfl; replace hu1 := hu1.mv hM16 rfl; replace hu2 := hu2.mv hM16 rfl; replace hb5 := hb5.mv hM16 rfl; replace hy1 := hy1.mv hM16 rfl; replace hy2 := hy2.mv hM16 rfl
        replace hb10 := hS
        refine WD.nil ?_
        clear hb1z hb40 hb50 hb100 hc1100
        clear hCw
        refine cseq <| cregion ?_
        first | refine WR.val (Val.fieldAddr fld29_1 rfl) rfl ?_ | refine WR.val (Val.fieldAddrP fld29_1 rfl) rfl ?_
        refine qq (Val.loadB scl23 rfl hb10.blk rfl) rfl ?_
        first | refine WR.val (Val.rdlen sl23 (by assumption) rfl) rfl ?_ | refine WR.val (Val.sllen Try.underlying23 rfl) rfl ?_ | refine WR.val (Val.olen sl23 (by assumption) rfl) rfl ?_ | refine WR.val (Val.rdlenC sl23 (by assumption) rfl) rfl ?_
        first | refine WR.val (Val.fieldAddr fld29_2 rfl) rfl ?_ | refine WR.val (Val.fieldAddrP fld29_2 rfl) rfl ?_
        refine qq (Val.loadB scl23 rfl hb10.blk rfl) rfl ?_
        first | refine WR.val (Val.rdlen sl23 (by assumption) rfl) rfl ?_ | refine WR.val (Val.sllen Try.underlying23 rfl) rfl ?_ | refine WR.val (Val.olen sl23 (by assumption) rfl) rfl ?_ | refine WR.val (Val.rdlenC sl23 (by assumption) rfl) rfl ?_
        refine qq (Val.addI rfl rfl (by first | omega | assumption | (simp; omega) | (simp; done)) (by first | omega | assumption | (simp; omega) | (simp; done))) rfl <| qq (Val.gtr rfl rfl) rfl <| cnil ?_
        refine WC.cond rfl (fun hc20 => ?_) (fun hc20 => ?_)
        ·try simp only [tstS] at hc20
         have hms : manSort L[i] = (man0, 2) := by rw [hbad, if_neg (by omega)]
         refine cregion <| qq (Val.build (cells := #[I 0, .slice none 0 0, .slice none 0 0]) rfl (by kernel_rfl)) rfl <| qq (Val.assign rfl) rfl ?_
         refine WR.eff_ (Eff.storeNC agg29 rfl rfl hb10 rfl rfl (by repeat (first | exact List.forall_mem_nil _ | refine List.forall_mem_cons.2 ⟨by first | rfl | assumption, ?_⟩))) ?_
         rintro _ w17 ⟨hS, hM17⟩
         replace hO := hO.mv hM17 rfl; replace h1 := h1.mv hM17 rfl; replace hb1 := hb1.mv hM17 rfl; replace hc110 := hc110.mv hM17 rfl; replace hf1 := hf1.mv hM17 rfl; replace ha := ha.mv hM17 rfl; replace hv := hv.mv hM17 rfl; replace hol := hol.mv hM17 rfl; replace hos := hos.mv hM17 rfl; replace hb4 := hb4.mv hM17 rfl; replace hu1 := hu1.mv hM17 rfl; replace hu2 := hu2.mv hM17 rfl; replace hb5 := hb5.mv hM17 rfl; replace hy1 := hy1.mv hM17 rfl; replace hy2 := hy2.mv hM17 rfl
         replace hb10 := hS
         refine cnil ?_
         rw [hms]
         rw [hms] at hu1 hu2 hb5
         first
         | exact ⟨_, _, _, (by repeat (first | exact Sub.nil _ | refine Sub.cons rfl ?_ | refine Sub.consM rfl ?_)), ⟨hO, h1, hb1, hc110, hf1, ha, hv, hol, hos, hb4, hu1, hu2, hb5⟩, OwnC.nil _ _ _ _ _, OwnC.nil _ _ _ _ _, hb10⟩
         | exact ⟨_, _, _, (by repeat (first | exact Sub.nil _ | refine Sub.cons rfl ?_ | refine Sub.consM rfl ?_)), ⟨hO, h1, hb1, hc110, hf1, ha, hv, hol, hos, hb4, hu1, hu2, hb5⟩, hy1, hy2, hb10⟩
        ·try simp only [tstS] at hc20
         have hms : manSort L[i] = (⟨L[i].kind, riseS L[i].blobs, riseS L[i].subs⟩, 0) := by rw [hbad, if_pos (by omega)]
         refine cskip ?_
         rw [hms]
         rw [hms] at hu1 hu2 hb5
         first
         | exact ⟨_, _, _, (by repeat (first | exact Sub.nil _ | refine Sub.cons rfl ?_ | refine Sub.consM rfl ?_)), ⟨hO, h1, hb1, hc110, hf1, ha, hv, hol, hos, hb4, hu1, hu2, hb5⟩, OwnC.nil _ _ _ _ _, OwnC.nil _ _ _ _ _, hb10⟩
         | exact ⟨_, _, _, (by repeat (first | exact Sub.nil _ | refine Sub.cons rfl ?_ | refine Sub.consM rfl ?_)), ⟨hO, h1, hb1, hc110, hf1, ha, hv, hol, hos, hb4, hu1, hu2, hb5⟩, hy1, hy2, hb10⟩
       ·try simp only [tstS] at hc18
        refine cskip ?_
        have hX : X = false := by
          cases X with
          | true => simp at hc18
          | false => rfl
        subst hX
        rw [if_neg (by decide)] at hbad
        rw [hbad]
        rw [hbad] at hu1 hu2 hb5
        exact ⟨_, _, _, (by repeat (first | exact Sub.nil _ | refine Sub.cons rfl ?_ | refine Sub.consM rfl ?_)), ⟨hO, h1, hb1, hc110, hf1, ha, hv, hol, hos, hb4, hu1, hu2, hb5⟩, OwnC.nil _ _ _ _ _, OwnC.nil _ _ _ _ _, hb10⟩
      ·skip
       rintro e9 w9' ⟨c9', y1, y2, hsub, ⟨hO, h1, hb1, hc110, hf1, ha, hv, hol, hos, hb4, hu1, hu2, hb5⟩, hy1, hy2, hb10⟩
       refine WC.sub hsub ?_
       clear hsub e9
       obtain ⟨t1, t2, t3, t4, t5⟩ := manSort_texts (m := L[i]) oka okv hq
       have hrm4 : ∀ (cc : Nat → Nat) (W : World), OwnC cc W 7 9 1 vl L[i].blobs.length (L[i].blobs.flatMap fun x => [St x]) → OwnC cc W 7 9 1 vs L[i].subs.length (L[i].subs.flatMap fun x => [St x]) → RdMan W [I L[i].kind, vl, vs] L[i] := fun _ _ h3 h4 => ⟨vl, vs, rfl, h3.own.rdStrs oka za, h4.own.rdStrs okv zv, hq⟩
       have hrm5 : ∀ (cc : Nat → Nat) (W : World) (a b : Nat) (y1 y2 : Value), OwnC cc W a 9 1 y1 (manSort L[i]).1.blobs.length ((manSort L[i]).1.blobs.flatMap fun x => [St x]) → OwnC cc W b 9 1 y2 (manSort L[i]).1.subs.length ((manSort L[i]).1.subs.flatMap fun x => [St x]) → RdMan W [I (manSort L[i]).1.kind, y1, y2] (manSort L[i]).1 := fun _ _ _ _ y1 y2 h3 h4 => ⟨y1, y2, rfl, h3.own.rdStrs t1 (by omega), h4.own.rdStrs t2 (by omega), t5⟩
       refine cseq <| cseq ?_
       refine WC.regionD (Kp c9' w9' []) [0, 2, 0, 0, 0, 1, 1, 2, 0, 0, 0, 1, 0, 1, 0, 0, 1, 2, 0, 0] [0, 2, 1, 3, 4, 5, 6, 7, 8, 9, 10, 11, 12, 13, 14, 15, 16, 17, 18, 19] mixed (by kernel_rfl) ?_
       have hM18 := Mv.drew c9' w9' []
       have hCw := Mv.drew c9' w9' []
       generalize w9'.drew = w18 at hM18 hCw ⊢
       have hb1z := hb1
       have hb40 := hb4
       have hb50 := hb5
       have hb100 := hb10
       have hc1100 := hc110
       replace hO := hO.mv hM18 rfl; replace h1 := h1.mv hM18 rfl; replace hb1 := hb1.mv hM18 rfl; replace hc110 := hc110.mv hM18 rfl; replace hf1 := hf1.mv hM18 rfl; replace ha := ha.mv hM18 rfl; replace hv := hv.mv hM18 rfl; replace hol := hol.mv hM18 rfl; replace hos := hos.mv hM18 rfl; replace hb4 := hb4.mv hM18 rfl; replace hu1 := hu1.mv hM18 rfl; replace hu2 := hu2.mv hM18 rfl; replace hb5 := hb5.mv hM18 rfl; replace hy1 := hy1.mv hM18 rfl; replace hy2 := hy2.mv hM18 rfl; replace hb10 := hb10.mv hM18 rfl
       refine qd rfl rfl rfl (fun _ => Val.move rfl) rfl <| qd rfl rfl rfl (fun _ => Val.move rfl) rfl ?_
       refine WD.eff rfl rfl rfl (Eff.pureC c9' 1 (Eff.call pf22 rfl (mnum_ok _))) rfl ?_
       rintro v108 w19 ⟨c19, hM19, hx19, rfl⟩
       refine ⟨fun hC => hC.step hCw hM19 rfl, ?_⟩
       replace hCw := hCw.tr hM19 rfl
       replace hO := hO.mv hM19 rfl; replace h1 := h1.mv hM19 rfl; replace hb1 := hb1.mv hM19 rfl; replace hc110 := hc110.mv hM19 rfl; replace hf1 := hf1.mv hM19 rfl; replace ha := ha.mv hM19 rfl; replace hv := hv.mv hM19 rfl; replace hol := hol.mv hM19 rfl; replace hos := hos.mv hM19 rfl; replace hb4 := hb4.mv hM19 rfl; replace hu1 := hu1.mv hM19 rfl; replace hu2 := hu2.mv hM19 rfl; replace hb5 := hb5.mv hM19 rfl; replace hy1 := hy1.mv hM19 rfl; replace hy2 := hy2.mv hM19 rfl; replace hb10 := hb10.mv hM19 rfl
       refine qd rfl rfl rfl (fun _ => Val.neq rfl rfl) rfl ?_
       rw [decide_eq_true rfl]
       refine qd rfl rfl rfl (fun _ => Val.move rfl) rfl <| qc rfl rfl rfl hCw.kp (fun W hW => Val.loadBN agg29 rfl (hb50.kp hW rfl).blk rfl) rfl <| qc rfl rfl rfl hCw.kp (fun W hW => Val.loadBN agg29 rfl (hb100.kp hW rfl).blk rfl) rfl ?_
       refine WD.eff rfl rfl rfl (Eff.pureC c19 1 (Eff.call pf24 rfl (eqManifest_ok (hrm5 _ _ _ _ _ _ hu1 hu2) (hrm5 _ _ _ _ _ _ hy1 hy2)))) rfl ?_
       rintro v114 w20 ⟨c20, hM20, hx20, rfl⟩
       refine ⟨fun hC => hC.step hCw hM20 rfl, ?_⟩
       replace hCw := hCw.tr hM20 rfl
       replace hO := hO.mv hM20 rfl; replace h1 := h1.mv hM20 rfl; replace hb1 := hb1.mv hM20 rfl; replace hc110 := hc110.mv hM20 rfl; replace hf1 := hf1.mv hM20 rfl; replace ha := ha.mv hM20 rfl; replace hv := hv.mv hM20 rfl; replace hol := hol.mv hM20 rfl; replace hos := hos.mv hM20 rfl; replace hb4 := hb4.mv hM20 rfl; replace hu1 := hu1.mv hM20 rfl; replace hu2 := hu2.mv hM20 rfl; replace hb5 := hb5.mv hM20 rfl; replace hy1 := hy1.mv hM20 rfl; replace hy2 := hy2.mv hM20 rfl; replace hb10 := hb10.mv hM20 rfl
       rw [decide_eq_true rfl]
       refine qd rfl rfl rfl (fun _ => Val.not rfl) rfl <| qd rfl rfl rfl (fun _ => Val.pick rfl rfl) rfl <| qd rfl rfl rfl (fun _ => Val.move rfl) rfl <| qc rfl rfl rfl hCw.kp (fun W hW => Val.loadBN agg29 rfl (hb40.kp hW rfl).blk rfl) rfl ?_
       first | refine WD.val rfl rfl rfl (fun _ => Val.fieldAddr fld25_0 rfl) rfl ?_ | refine WD.val rfl rfl rfl (fun _ => Val.fieldAddrP fld25_0 rfl) rfl ?_
       refine qc rfl rfl rfl hCw.kp (fun W hW => Val.loadB scl22 rfl (hb1z.kp hW rfl).blk rfl) rfl <| qd rfl rfl rfl (fun _ => Val.move rfl) rfl <| qd rfl rfl rfl (fun _ => Val.indexAddr sl22 h1.now rfl rfl rfl (by omega) (by omega)) rfl <| qc rfl rfl rfl hCw.kp (fun W hW => Val.loadE agg29 rfl (hc1100.kp hW rfl).cel hl1) rfl ?_
       refine WD.eff rfl rfl rfl (Eff.pureC c20 1 (Eff.call pf24 rfl (eqManifest_ok (hrm4 _ _ hol hos) hf1.now))) rfl ?_
       rintro v124 w21 ⟨c21, hM21, hx21, rfl⟩
       refine ⟨fun hC => hC.step hCw hM21 rfl, ?_⟩
       replace hCw := hCw.tr hM21 rfl
       replace hO := hO.mv hM21 rfl; replace h1 := h1.mv hM21 rfl; replace hb1 := hb1.mv hM21 rfl; replace hc110 := hc110.mv hM21 rfl; replace hf1 := hf1.mv hM21 rfl; replace ha := ha.mv hM21 rfl; replace hv := hv.mv hM21 rfl; replace hol := hol.mv hM21 rfl; replace hos := hos.mv hM21 rfl; replace hb4 := hb4.mv hM21 rfl; replace hu1 := hu1.mv hM21 rfl; replace hu2 := hu2.mv hM21 rfl; replace hb5 := hb5.mv hM21 rfl; replace hy1 := hy1.mv hM21 rfl; replace hy2 := hy2.mv hM21 rfl; replace hb10 := hb10.mv hM21 rfl
       rw [decide_eq_true rfl]
       refine qd rfl rfl rfl (fun _ => Val.not rfl) rfl <| qd rfl rfl rfl (fun _ => Val.pick rfl rfl) rfl ?_
       refine WD.nil ?_
       clear hb1z hb40 hb50 hb100 hc1100
       clear hCw
       refine WC.cond_false rfl ?_
       refine cskip <| cseq <| cseq <| cregion <| qq (Val.move rfl) rfl <| qq (Val.neq rfl rfl) rfl <| cnil ?_
       refine WC.cond rfl (fun hc24 => ?_) (fun hc24 => ?_)
       ·try simp only [tstS] at hc24
        refine WC.exit rfl ?_
        refine cregion <| qq (Val.move rfl) rfl <| qq (Val.addI rfl rfl (by first | omega | assumption | (simp; omega) | (simp; done)) (by first | omega | assumption | (simp; omega) | (simp; done))) rfl <| qq (Val.assign rfl) rfl <| cnil ?_
        exact ⟨i + 1, (by repeat (first | exact Sub.nil _ | refine Sub.cons rfl ?_ | refine Sub.consM rfl ?_)), ⟨_, hO, h1, hb1, ka, by omega⟩, by omega⟩
       ·try simp only [tstS] at hc24
        obtain ⟨hmay, hss, _⟩ := manSort_zero (m := L[i]) (by omega)
        have hmt := manTake_bytes hmay
        have hml := manBytes_len hmay
        have hm20 := ((manMay_iff _).1 hmay).2.1
        have hp1 : PlainV u1 := by obtain ⟨A, q, e, _, hA⟩ := hu1.own.formA; exact ⟨A, _, q, e, hA⟩
        have hp2 : PlainV u2 := by obtain ⟨A, q, e, _, hA⟩ := hu2.own.formA; exact ⟨A, _, q, e, hA⟩
        have hn5 : (manSort L[i]).1.blobs.length ≤ 140737488355328 := by omega
        have hn6 : (manSort L[i]).1.subs.length ≤ 140737488355328 := by omega
        have hrl1 := fun (W : World) (cc : Nat → Nat) (h : OwnC cc W 8 9 1 u1 (manSort L[i]).1.blobs.length ((manSort L[i]).1.blobs.flatMap fun x => [St x])) => h.own.rdStrs t1 hn5
        refine cskip <| cseq <| cregion <| qq (Val.loadBN agg29 rfl hb5.blk rfl) rfl ?_
        refine WR.eff (Eff.pureC c21 13 (Eff.call pf28 rfl (mSorted_ok (m := (manSort L[i]).1) (hu1.own.rdStrs t1 hn5) (hu2.own.rdStrs t2 hn6) hp1 hp2 (by omega) (by omega)))) rfl ?_
        rintro v131 w22 ⟨c22, hM22, hx22, ⟨s1, s2, hv25, hz1, hz2, _⟩⟩
        replace hO := hO.mv hM22 rfl; replace h1 := h1.mv hM22 rfl; replace hb1 := hb1.mv hM22 rfl; replace hc110 := hc110.mv hM22 rfl; replace hf1 := hf1.mv hM22 rfl; replace hol := hol.mv hM22 rfl; replace hos := hos.mv hM22 rfl; replace hb4 := hb4.mv hM22 rfl; replace hu1 := hu1.mv hM22 rfl; replace hu2 := hu2.mv hM22 rfl; replace hb5 := hb5.mv hM22 rfl
        replace hz1 := hz1.toC hx22
        replace hz2 := hz2.toC hx22
        rw [hss] at hz1 hz2 hv25
        replace hv25 : _ = Value.tuple #[.agg #[I (manSort L[i]).1.kind, s1, s2], I 0] := hv25
        subst hv25
        replace hz1 : OwnC _ _ 13 9 1 s1 (manSort L[i]).1.blobs.length ((manSort L[i]).1.blobs.flatMap fun x => [St x]) := hz1
        replace hz2 : OwnC _ _ 13 9 1 s2 (manSort L[i]).1.subs.length ((manSort L[i]).1.subs.flatMap fun x => [St x]) := hz2
        have cs1 := hz1.cellsV; have os1 := hz1.oneC; have cs2 := hz2.cellsV; have os2 := hz2.oneC
        refine qq (Val.move rfl) rfl <| qq (Val.extract rfl rfl) rfl <| qq (Val.extract rfl rfl) rfl ?_
        refine WR.eff (Eff.allocC c22 111 zero29) rfl ?_
        rintro _ w23 ⟨b11, c23, rfl, hM23, hb11⟩
        replace hO := hO.mv hM23 rfl; replace h1 := h1.mv hM23 rfl; replace hb1 := hb1.mv hM23 rfl; replace hc110 := hc110.mv hM23 rfl; replace hf1 := hf1.mv hM23 rfl; replace hol := hol.mv hM23 rfl; replace hos := hos.mv hM23 rfl; replace hb4 := hb4.mv hM23 rfl; replace hu1 := hu1.mv hM23 rfl; replace hu2 := hu2.mv hM23 rfl; replace hb5 := hb5.mv hM23 rfl; replace hz1 := hz1.mv hM23 rfl; replace hz2 := hz2.mv hM23 rfl
        refine WR.eff_ (Eff.storeNC agg29 rfl rfl hb11 rfl rfl (by repeat (first | exact List.forall_mem_nil _ | refine List.forall_mem_cons.2 ⟨by first | rfl | assumption, ?_⟩))) ?_
        rintro _ w24 ⟨hS, hM24⟩
        replace hO := hO.mv hM24 rfl; replace h1 := h1.mv hM24 rfl; replace hb1 := hb1.mv hM24 rfl; replace hc110 := hc110.mv hM24 rfl; replace hf1 := hf1.mv hM24 rfl; replace hol := hol.mv hM24 rfl; replace hos := hos.mv hM24 rfl; replace hb4 := hb4.mv hM24 rfl; replace hu1 := hu1.mv hM24 rfl; replace hu2 := hu2.mv hM24 rfl; replace hb5 := hb5.mv hM24 rfl; replace hz1 := hz1.mv hM24 rfl; replace hz2 := hz2.mv hM24 rfl
        replace hb11 := hS
        refine qq (Val.assign rfl) rfl <| cnil <| cseq <| cregion <| qq (Val.loadBN agg29 rfl hb5.blk rfl) rfl ?_
        refine WR.eff (Eff.pureC c23 1 (Eff.call pf18 rfl (mbytes_ok (hrm5 _ _ _ _ _ _ hu1 hu2)))) rfl ?_
        rintro v136 w25 ⟨c25, hM25, hx25, rfl⟩
        replace hO := hO.mv hM25 rfl; replace h1 := h1.mv hM25 rfl; replace hb1 := hb1.mv hM25 rfl; replace hc110 := hc110.mv hM25 rfl; replace hf1 := hf1.mv hM25 rfl; replace hol := hol.mv hM25 rfl; replace hos := hos.mv hM25 rfl; replace hb4 := hb4.mv hM25 rfl; replace hu1 := hu1.mv hM25 rfl; replace hu2 := hu2.mv hM25 rfl; replace hb5 := hb5.mv hM25 rfl; replace hz1 := hz1.mv hM25 rfl; replace hz2 := hz2.mv hM25 rfl; replace hb11 := hb11.mv hM25 rfl
        rw [hmay, if_pos rfl, if_pos rfl]
        refine qq (Val.move rfl) rfl <| qq (Val.extract rfl rfl) rfl <| qq (Val.extract rfl rfl) rfl <| qq (Val.assign rfl) rfl <| qq (Val.assign rfl) rfl <| cnil <| cseq <| cregion <| qq (Val.move rfl) rfl ?_
        refine WR.eff (Eff.pureC c25 15 (Eff.call pf25 rfl (mtake_own (manBytes (manSort L[i]).1) (by omega)))) rfl ?_
        rintro v141 w26 ⟨c26, hM26, hx26, ⟨q1, q2, hv27, hq1, hq2⟩⟩
        replace hO := hO.mv hM26 rfl; replace h1 := h1.mv hM26 rfl; replace hb1 := hb1.mv hM26 rfl; replace hc110 := hc110.mv hM26 rfl; replace hf1 := hf1.mv hM26 rfl; replace hol := hol.mv hM26 rfl; replace hos := hos.mv hM26 rfl; replace hb4 := hb4.mv hM26 rfl; replace hu1 := hu1.mv hM26 rfl; replace hu2 := hu2.mv hM26 rfl; replace hb5 := hb5.mv hM26 rfl; replace hz1 := hz1.mv hM26 rfl; replace hz2 := hz2.mv hM26 rfl; replace hb11 := hb11.mv hM26 rfl
        replace hq1 := hq1.toC hx26
        replace hq2 := hq2.toC hx26
        rw [hmt] at hq1 hq2 hv27
        replace hv27 : _ = Value.tuple #[.agg #[I (manSort L[i]).1.kind, q1, q2], I 0] := hv27
        subst hv27
        replace hq1 : OwnC _ _ 15 9 1 q1 (manSort L[i]).1.blobs.length ((manSort L[i]).1.blobs.flatMap fun x => [St x]) := hq1
        replace hq2 : OwnC _ _ 15 9 1 q2 (manSort L[i]).1.subs.length ((manSort L[i]).1.subs.flatMap fun x => [St x]) := hq2
        have cq1 := hq1.cellsV; have oq1 := hq1.oneC; have cq2 := hq2.cellsV; have oq2 := hq2.oneC
        refine qq (Val.move rfl) rfl <| qq (Val.extract rfl rfl) rfl <| qq (Val.extract rfl rfl) rfl ?_
        refine WR.eff (Eff.allocC c26 115 zero29) rfl ?_
        rintro _ w27 ⟨b15, c27, rfl, hM27, hb15⟩
        replace hO := hO.mv hM27 rfl; replace h1 := h1.mv hM27 rfl; replace hb1 := hb1.mv hM27 rfl; replace hc110 := hc110.mv hM27 rfl; replace hf1 := hf1.mv hM27 rfl; replace hol := hol.mv hM27 rfl; replace hos := hos.mv hM27 rfl; replace hb4 := hb4.mv hM27 rfl; replace hu1 := hu1.mv hM27 rfl; replace hu2 := hu2.mv hM27 rfl; replace hb5 := hb5.mv hM27 rfl; replace hz1 := hz1.mv hM27 rfl; replace hz2 := hz2.mv hM27 rfl; replace hb11 := hb11.mv hM27 rfl; replace hq1 := hq1.mv hM27 rfl; replace hq2 := hq2.mv hM27 rfl
        refine WR.eff_ (Eff.storeNC agg29 rfl rfl hb15 rfl rfl (by repeat (first | exact List.forall_mem_nil _ | refine List.forall_mem_cons.2 ⟨by first | rfl | assumption, ?_⟩))) ?_
        rintro _ w28 ⟨hS, hM28⟩
        replace hO := hO.mv hM28 rfl; replace h1 := h1.mv hM28 rfl; replace hb1 := hb1.mv hM28 rfl; replace hc110 := hc110.mv hM28 rfl; replace hf1 := hf1.mv hM28 rfl; replace hol := hol.mv hM28 rfl; replace hos := hos.mv hM28 rfl; replace hb4 := hb4.mv hM28 rfl; replace hu1 := hu1.mv hM28 rfl; replace hu2 := hu2.mv hM28 rfl; replace hb5 := hb5.mv hM28 rfl; replace hz1 := hz1.mv hM28 rfl; replace hz2 := hz2.mv hM28 rfl; replace hb11 := hb11.mv hM28 rfl; replace hq1 := hq1.mv hM28 rfl; replace hq2 := hq2.mv hM28 rfl
        replace hb15 := hS
        refine qq (Val.assign rfl) rfl <| cnil <| cseq <| cseq <| cregion <| qq (Val.move rfl) rfl ?_
        refine WR.eff (Eff.pureC c27 1 (Eff.call pf22 rfl (mnum_ok _))) rfl ?_
        rintro v145 w29 ⟨c29, hM29, hx29, rfl⟩
        replace hO := hO.mv hM29 rfl; replace h1 := h1.mv hM29 rfl; replace hb1 := hb1.mv hM29 rfl; replace hc110 := hc110.mv hM29 rfl; replace hf1 := hf1.mv hM29 rfl; replace hol := hol.mv hM29 rfl; replace hos := hos.mv hM29 rfl; replace hb4 := hb4.mv hM29 rfl; replace hu1 := hu1.mv hM29 rfl; replace hu2 := hu2.mv hM29 rfl; replace hb5 := hb5.mv hM29 rfl; replace hz1 := hz1.mv hM29 rfl; replace hz2 := hz2.mv hM29 rfl; replace hb11 := hb11.mv hM29 rfl; replace hq1 := hq1.mv hM29 rfl; replace hq2 := hq2.mv hM29 rfl; replace hb15 := hb15.mv hM29 rfl
        refine qq (Val.move rfl) rfl ?_
        refine WR.eff (Eff.pureC c29 1 (Eff.call pf22 rfl (mnum_ok _))) rfl ?_
        rintro v147 w30 ⟨c30, hM30, hx30, rfl⟩
        replace hO := hO.mv hM30 rfl; replace h1 := h1.mv hM30 rfl; replace hb1 := hb1.mv hM30 rfl; replace hc110 := hc110.mv hM30 rfl; replace hf1 := hf1.mv hM30 rfl; replace hol := hol.mv hM30 rfl; replace hos := hos.mv hM30 rfl; replace hb4 := hb4.mv hM30 rfl; replace hu1 := hu1.mv hM30 rfl; replace hu2 := hu2.mv hM30 rfl; replace hb5 := hb5.mv hM30 rfl; replace hz1 := hz1.mv hM30 rfl; replace hz2 := hz2.mv hM30 rfl; replace hb11 := hb11.mv hM30 rfl; replace hq1 := hq1.mv hM30 rfl; replace hq2 := hq2.mv hM30 rfl; replace hb15 := hb15.mv hM30 rfl
        refine qq (Val.addI rfl rfl (by first | omega | assumption | (simp; omega) | (simp; done)) (by first | omega | assumption | (simp; omega) | (simp; done))) rfl <| qq (Val.move rfl) rfl ?_
        refine WR.eff (Eff.pureC c30 1 (Eff.call pf22 rfl (mnum_ok _))) rfl ?_
        rintro v150 w31 ⟨c31, hM31, hx31, rfl⟩
        replace hO := hO.mv hM31 rfl; replace h1 := h1.mv hM31 rfl; replace hb1 := hb1.mv hM31 rfl; replace hc110 := hc110.mv hM31 rfl; replace hf1 := hf1.mv hM31 rfl; replace hol := hol.mv hM31 rfl; replace hos := hos.mv hM31 rfl; replace hb4 := hb4.mv hM31 rfl; replace hu1 := hu1.mv hM31 rfl; replace hu2 := hu2.mv hM31 rfl; replace hb5 := hb5.mv hM31 rfl; replace hz1 := hz1.mv hM31 rfl; replace hz2 := hz2.mv hM31 rfl; replace hb11 := hb11.mv hM31 rfl; replace hq1 := hq1.mv hM31 rfl; replace hq2 := hq2.mv hM31 rfl; replace hb15 := hb15.mv hM31 rfl
        refine qq (Val.addI rfl rfl (by first | omega | assumption | (simp; omega) | (simp; done)) (by first | omega | assumption | (simp; omega) | (simp; done))) rfl <| qq (Val.neq rfl rfl) rfl <| qq (Val.move rfl) rfl ?_
        refine WR.onEq rfl rfl rfl ?_
        refine qq (Val.loadBN agg29 rfl hb11.blk rfl) rfl ?_
        refine WR.onEq rfl rfl rfl ?_
        refine qq (Val.loadBN agg29 rfl hb5.blk rfl) rfl ?_
        refine WR.onEq rfl rfl rfl ?_
        refine WR.eff (Eff.pureC c31 1 (Eff.call pf24 rfl (eqManifest_ok (hrm5 _ _ _ _ _ _ hz1 hz2) (hrm5 _ _ _ _ _ _ hu1 hu2)))) rfl ?_
        rintro v156 w32 ⟨c32, hM32, hx32, rfl⟩
        replace hO := hO.mv hM32 rfl; replace h1 := h1.mv hM32 rfl; replace hb1 := hb1.mv hM32 rfl; replace hc110 := hc110.mv hM32 rfl; replace hf1 := hf1.mv hM32 rfl; replace hol := hol.mv hM32 rfl; replace hos := hos.mv hM32 rfl; replace hb4 := hb4.mv hM32 rfl; replace hu1 := hu1.mv hM32 rfl; replace hu2 := hu2.mv hM32 rfl; replace hb5 := hb5.mv hM32 rfl; replace hz1 := hz1.mv hM32 rfl; replace hz2 := hz2.mv hM32 rfl; replace hb11 := hb11.mv hM32 rfl; replace hq1 := hq1.mv hM32 rfl; replace hq2 := hq2.mv hM32 rfl; replace hb15 := hb15.mv hM32 rfl
        rw [decide_eq_true rfl]
        refine WR.onEq rfl rfl rfl ?_
        refine qq (Val.not rfl) rfl ?_
        refine WR.pickOn (by rfl) rfl rfl rfl ?_
        refine qq (Val.move rfl) rfl ?_
        refine WR.onEq rfl rfl rfl ?_
        refine qq (Val.loadBN agg29 rfl hb15.blk rfl) rfl ?_
        refine WR.onEq rfl rfl rfl ?_
        refine qq (Val.loadBN agg29 rfl hb5.blk rfl) rfl ?_
        refine WR.onEq rfl rfl rfl ?_
        refine WR.eff (Eff.pureC c32 1 (Eff.call pf24 rfl (eqManifest_ok (hrm5 _ _ _ _ _ _ hq1 hq2) (hrm5 _ _ _ _ _ _ hu1 hu2)))) rfl ?_
        rintro v162 w33 ⟨c33, hM33, hx33, rfl⟩
        replace hO := hO.mv hM33 rfl; replace h1 := h1.mv hM33 rfl; replace hb1 := hb1.mv hM33 rfl; replace hc110 := hc110.mv hM33 rfl; replace hf1 := hf1.mv hM33 rfl; replace hol := hol.mv hM33 rfl; replace hos := hos.mv hM33 rfl; replace hb4 := hb4.mv hM33 rfl; replace hu1 := hu1.mv hM33 rfl; replace hu2 := hu2.mv hM33 rfl; replace hb5 := hb5.mv hM33 rfl; replace hz1 := hz1.mv hM33 rfl; replace hz2 := hz2.mv hM33 rfl; replace hb11 := hb11.mv hM33 rfl; replace hq1 := hq1.mv hM33 rfl; replace hq2 := hq2.mv hM33 rfl; replace hb15 := hb15.mv hM33 rfl
        rw [decide_eq_true rfl]
        refine WR.onEq rfl rfl rfl ?_
        refine qq (Val.not rfl) rfl ?_
        refine WR.pickOn (by rfl) rfl rfl rfl ?_
        refine cnil ?_
        refine WC.cond_false rfl ?_
        refine cskip <| cseq <| cregion ?_
        first | refine WR.val (Val.fieldAddr fld29_1 rfl) rfl ?_ | refine WR.val (Val.fieldAddrP fld29_1 rfl) rfl ?_
        refine qq (Val.loadB scl23 rfl hb5.blk rfl) rfl ?_
        refine WR.eff (Eff.grownO hu1 (Eff.call pf31 rfl (spoil2_ok hu1.own (by omega)))) rfl ?_
        rintro v167 w34 ⟨c34, hM34, _, _⟩
        replace hO := hO.mv hM34 rfl; replace h1 := h1.mv hM34 rfl; replace hb1 := hb1.mv hM34 rfl; replace hc110 := hc110.mv hM34 rfl; replace hf1 := hf1.mv hM34 rfl; replace hol := hol.mv hM34 rfl; replace hos := hos.mv hM34 rfl; replace hb4 := hb4.mv hM34 rfl; replace hu2 := hu2.mv hM34 rfl; replace hb5 := hb5.mv hM34 rfl; replace hz1 := hz1.mv hM34 rfl; replace hz2 := hz2.mv hM34 rfl; replace hb11 := hb11.mv hM34 rfl; replace hq1 := hq1.mv hM34 rfl; replace hq2 := hq2.mv hM34 rfl; replace hb15 := hb15.mv hM34 rfl
        refine cnil <| cseq <| cregion ?_
        first | refine WR.val (Val.fieldAddr fld29_2 rfl) rfl ?_ | refine WR.val (Val.fieldAddrP fld29_2 rfl) rfl ?_
        refine qq (Val.loadB scl23 rfl hb5.blk rfl) rfl ?_
        refine WR.eff (Eff.grownO hu2 (Eff.call pf31 rfl (spoil2_ok hu2.own (by omega)))) rfl ?_
        rintro v170 w35 ⟨c35, hM35, _, _⟩
        replace hO := hO.mv hM35 rfl; replace h1 := h1.mv hM35 rfl; replace hb1 := hb1.mv hM35 rfl; replace hc110 := hc110.mv hM35 rfl; replace hf1 := hf1.mv hM35 rfl; replace hol := hol.mv hM35 rfl; replace hos := hos.mv hM35 rfl; replace hb4 := hb4.mv hM35 rfl; replace hb5 := hb5.mv hM35 rfl; replace hz1 := hz1.mv hM35 rfl; replace hz2 := hz2.mv hM35 rfl; replace hb11 := hb11.mv hM35 rfl; replace hq1 := hq1.mv hM35 rfl; replace hq2 := hq2.mv hM35 rfl; replace hb15 := hb15.mv hM35 rfl
        refine cnil <| cseq ?_
        refine WC.regionD (Kp c35 w35 []) [1, 0, 1, 0, 0, 1, 2, 0] [0, 1, 2, 3, 4, 5, 6, 7] mixed (by kernel_rfl) ?_
        have hM36 := Mv.drew c35 w35 []
        have hCw := Mv.drew c35 w35 []
        generalize w35.drew = w36 at hM36 hCw ⊢
        have hb10 := hb1
        have hb40 := hb4
        have hb50 := hb5
        have hb110 := hb11
        have hb150 := hb15
        have hc1100 := hc110
        replace hO := hO.mv hM36 rfl; replace h1 := h1.mv hM36 rfl; replace hb1 := hb1.mv hM36 rfl; replace hc110 := hc110.mv hM36 rfl; replace hf1 := hf1.mv hM36 rfl; replace hol := hol.mv hM36 rfl; replace hos := hos.mv hM36 rfl; replace hb4 := hb4.mv hM36 rfl; replace hb5 := hb5.mv hM36 rfl; replace hz1 := hz1.mv hM36 rfl; replace hz2 := hz2.mv hM36 rfl; replace hb11 := hb11.mv hM36 rfl; replace hq1 := hq1.mv hM36 rfl; replace hq2 := hq2.mv hM36 rfl; replace hb15 := hb15.mv hM36 rfl
        refine qc rfl rfl rfl hCw.kp (fun W hW => Val.loadBN agg29 rfl (hb40.kp hW rfl).blk rfl) rfl ?_
        first | refine WD.val rfl rfl rfl (fun _ => Val.fieldAddr fld25_0 rfl) rfl ?_ | refine WD.val rfl rfl rfl (fun _ => Val.fieldAddrP fld25_0 rfl) rfl ?_
        refine qc rfl rfl rfl hCw.kp (fun W hW => Val.loadB scl22 rfl (hb10.kp hW rfl).blk rfl) rfl <| qd rfl rfl rfl (fun _ => Val.move rfl) rfl <| qd rfl rfl rfl (fun _ => Val.indexAddr sl22 h1.now rfl rfl rfl (by omega) (by omega)) rfl <| qc rfl rfl rfl hCw.kp (fun W hW => Val.loadE agg29 rfl (hc1100.kp hW rfl).cel hl1) rfl ?_
        refine WD.eff rfl rfl rfl (Eff.pureC c35 1 (Eff.call pf24 rfl (eqManifest_ok (hrm4 _ _ hol hos) hf1.now))) rfl ?_
        rintro v177 w37 ⟨c37, hM37, hx37, rfl⟩
        refine ⟨fun hC => hC.step hCw hM37 rfl, ?_⟩
        replace hCw := hCw.tr hM37 rfl
        replace hO := hO.mv hM37 rfl; replace h1 := h1.mv hM37 rfl; replace hb1 := hb1.mv hM37 rfl; replace hc110 := hc110.mv hM37 rfl; replace hf1 := hf1.mv hM37 rfl; replace hol := hol.mv hM37 rfl; replace hos := hos.mv hM37 rfl; replace hb4 := hb4.mv hM37 rfl; replace hb5 := hb5.mv hM37 rfl; replace hz1 := hz1.mv hM37 rfl; replace hz2 := hz2.mv hM37 rfl; replace hb11 := hb11.mv hM37 rfl; replace hq1 := hq1.mv hM37 rfl; replace hq2 := hq2.mv hM37 rfl; replace hb15 := hb15.mv hM37 rfl
        rw [decide_eq_true rfl]
        refine qd rfl rfl rfl (fun _ => Val.not rfl) rfl ?_
        refine WD.nil ?_
        clear hb10 hb40 hb50 hb110 hb150 hc1100
        clear hCw
        refine WC.cond_false rfl ?_
        refine cskip <| cregion <| qq (Val.move rfl) rfl <| qq (Val.addI rfl rfl (by first | omega | assumption | (simp; omega) | (simp; done)) (by first | omega | assumption | (simp; omega) | (simp; done))) rfl <| qq (Val.assign rfl) rfl <| cnil ?_
        exact ⟨i + 1, (by repeat (first | exact Sub.nil _ | refine Sub.cons rfl ?_ | refine Sub.consM rfl ?_)), ⟨_, hO, h1, hb1, ka, by omega⟩, by omega⟩
   ·try simp only [tstS] at hc4
    skip
    refine WC.exit rfl ?_
    refine cseq <| cregion ?_
    refine WR.eff (Eff.pureC cl 1 (Eff.call pf27 rfl (mwakes_ok))) rfl ?_
    rintro v179 w38 ⟨c38, hM38, hx38, rfl⟩
    replace hO := hO.mv hM38 rfl
    refine qq (Val.assign rfl) rfl <| cnil ?_
    refine WC.ret1 rfl rfl ?_
    exact ⟨hO.below, rfl⟩
end Go.Proofs.Ytnddlhjafkhdoaa
