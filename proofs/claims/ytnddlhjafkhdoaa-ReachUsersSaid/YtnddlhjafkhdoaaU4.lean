/- Things: what one names; which may be; heavy scripts; roots. | Things: finding one by halves; who names one. | Manifests: the law of their bytes, walked. | Manifests: sorting, compacting. | Things: what roots lead to. | Things: what roots lead to, as a list. | Things: an order, each behind what it names. | Manifests: sorted. | Manifests: bytes and back; sorted ones, in plain Lean. | A thing more among things, in plain Lean. | Chains of manifests: what leads where in them, in plain Lean. No condition. -/
import Derived.Sort.OwnSorted
import Derived.Test.YtnddlhjafkhdoaaU3
set_option linter.unusedSimpArgs false
set_option linter.unusedVariables false
set_option maxRecDepth 100000
namespace Silo
open Go Go.Eng
theorem namesT_eq {t : Thg} (h : t.manifest = true) : namesT t = ((manTake t.text).getD man0).blobs ++ ((manTake t.text).getD man0).subs := by
  rw [namesT, if_pos h]
  cases manTake t.text <;> rfl
theorem namesT_no {t : Thg} (h : t.manifest = false) : namesT t = [] := by rw [namesT, h]; rfl
theorem namesT_texts {t : Thg} : ∀ x ∈ namesT t, x.length ≤ 140737488355328 := fun x hx => by
  cases h : t.manifest with
  | false => rw [namesT_no h] at hx; cases hx
  | true =>
    rw [namesT_eq h] at hx
    obtain ⟨a1, a2, _⟩ := Go.Proofs.Ytnddlhjafkhdoaa.manTake_texts (s := t.text)
    exact (List.mem_append.1 hx).elim (a1 x) (a2 x)
/-- Some digests of things. -/
def pickT (T : List Thg) (by_ k : Nat) : List (List UInt8) := ((List.range k).filter fun i => decide ((i + by_) % 3 = 0)).map (dgOf T)
def rootsT (T : List Thg) (R : List (List UInt8)) (by_ : Nat) : List (List UInt8) := R ++ pickT T by_ T.length
theorem pickT_succ (T : List Thg) (by_ k : Nat) : pickT T by_ (k + 1) = if (k + by_) % 3 = 0 then pickT T by_ k ++ [dgOf T k] else pickT T by_ k := by
  simp only [pickT, List.range_succ, List.filter_append, List.map_append]
  split
  · rename_i h; simp [h]
  · rename_i h; simp [h]
theorem pickT_len (T : List Thg) (by_ k : Nat) : (pickT T by_ k).length ≤ k := by
  rw [pickT, List.length_map]
  exact Nat.le_trans (List.length_filter_le _ _) (by simp)
theorem pickT_mem {T : List Thg} {by_ : Nat} {d : List UInt8} (h : d ∈ pickT T by_ T.length) : ∃ i, ∃ hi : i < T.length, T[i].digest = d := by
  simp only [pickT, List.mem_map, List.mem_filter, List.mem_range] at h
  obtain ⟨i, ⟨hi, _⟩, e⟩ := h
  exact ⟨i, hi, by rw [← e, dgOf_lt hi]⟩
/-- How heavy a script is. -/
def thinksW (Ts : List (List Thg)) (R : List (List UInt8)) : Nat := stopSum (tW R) (Ts.map thgsW)
theorem thgsW_small {T : List Thg} {n : Nat} (h : thgsW T ≤ n) (hn : n < 1048576) : T.length ≤ n ∧ ∀ t ∈ T, t.digest.length ≤ n ∧ t.text.length ≤ n := by
  have e := stopSum_small (T.map thgW) T.length (by unfold thgsW at h; omega)
  unfold thgsW at h
  rw [e] at h
  refine ⟨by omega, fun t ht => ?_⟩
  have := le_sum (List.mem_map_of_mem (f := thgW) ht)
  have e2 : thgW t = t.digest.length + t.text.length := rfl
  omega
theorem thinks_light {Ts : List (List Thg)} {R : List (List UInt8)} (h : thinksW Ts R ≤ 9000) : (R.length ≤ 9000 ∧ ∀ x ∈ R, x.length ≤ 9000) ∧ ∀ T ∈ Ts, T.length ≤ 9000 ∧ ∀ t ∈ T, t.digest.length ≤ 9000 ∧ t.text.length ≤ 9000 := by
  unfold thinksW at h
  rw [stopSum_small _ _ (by omega)] at h
  refine ⟨tW_small (n := 9000) (by omega) (by decide), fun T hT => ?_⟩
  have := le_sum (List.mem_map_of_mem (f := thgsW) hT)
  exact thgsW_small (n := 9000) (by omega) (by decide)
end Silo
namespace Go.Proofs.Ytnddlhjafkhdoaa
open Go Go.Eng Go.RowKit Silo TryT

theorem named_ok {w : World} (t : Thg) (ht : t.text.length ≤ 1048576) :
    Calls Try.prog 40 #[.agg (encThg t).toArray] w (Ret fun v w' => Below w.heap.size w w' ∧ Own w' w.heap.size 9 1 v (namesT t).length ((namesT t).flatMap fun x => [St x])) := by
  obtain ⟨c, hO, hc⟩ := OldC.start w
  clear hc
  refine enter (n := 20) (res := #[.tmp 2]) Try.func40 rfl rfl rfl rfl ?_
  refine cseq <| cregion ?_
  refine WR.eff (Eff.boxC c 101 rfl) rfl ?_
  rintro _ w1 ⟨b1, c1, rfl, hM1, hb1⟩
  replace hO := hO.mv hM1 rfl
  refine qq (Val.assign rfl) rfl <| cnil <| cseq <| cseq <| cregion ?_
  first | refine WR.val (Val.fieldAddr fld62_2 rfl) rfl ?_ | refine WR.val (Val.fieldAddrP fld62_2 rfl) rfl ?_
  refine qq (Val.loadB scl4 rfl hb1.blk rfl) rfl <| qq (Val.not rfl) rfl <| cnil ?_
  refine WC.cond rfl (fun hc1 => ?_) (fun hc1 => ?_)
  ·try simp only [tstS] at hc1
   refine cseq <| cregion <| qq (Val.assign rfl) rfl <| cnil ?_
   refine WC.ret1 rfl rfl ?_
   rw [namesT_no hc1]
   exact ⟨hO.below, Own.nil _ _ _ _⟩
  ·try simp only [tstS] at hc1
   have hl := namesT_len t
   rw [namesT_eq hc1, List.length_append] at hl
   obtain ⟨a1, a2, a3, a4, _⟩ := manTake_texts (s := t.text)
   refine cskip <| cseq <| cregion ?_
   first | refine WR.val (Val.fieldAddr fld62_1 rfl) rfl ?_ | refine WR.val (Val.fieldAddrP fld62_1 rfl) rfl ?_
   refine qq (Val.loadB scl9 rfl hb1.blk rfl) rfl ?_
   refine WR.eff (Eff.pureC c1 7 (Eff.call pf26 rfl (pmtake_own t.text ht))) rfl ?_
   rintro v11 w2 ⟨c2, hM2, hx2, ⟨u1, u2, rfl, h1, h2⟩⟩
   replace hO := hO.mv hM2 rfl; replace hb1 := hb1.mv hM2 rfl
   replace h1 := h1.toC hx2
   replace h2 := h2.toC hx2
   have o1 := h1.oneC; have o2 := h2.oneC
   refine qq (Val.move rfl) rfl <| qq (Val.extract rfl rfl) rfl <| qq (Val.extract rfl rfl) rfl ?_
   refine WR.eff (Eff.allocC c2 103 zero29) rfl ?_
   rintro _ w3 ⟨b3, c3, rfl, hM3, hb3⟩
   replace hO := hO.mv hM3 rfl; replace hb1 := hb1.mv hM3 rfl; replace h1 := h1.mv hM3 rfl; replace h2 := h2.mv hM3 rfl
   refine WR.eff_ (Eff.storeNC agg29 rfl rfl hb3 rfl rfl (by repeat (first | exact List.forall_mem_nil _ | refine List.forall_mem_cons.2 ⟨by first | rfl | assumption, ?_⟩))) ?_
   rintro _ w4 ⟨hS, hM4⟩
   replace hO := hO.mv hM4 rfl; replace hb1 := hb1.mv hM4 rfl; replace h1 := h1.mv hM4 rfl; replace h2 := h2.mv hM4 rfl
   replace hb3 := hS
   refine qq (Val.assign rfl) rfl <| cnil <| cseq ?_
   refine WC.regionD (Kp c3 w4 [8]) [0, 1, 2, 0, 1, 2, 0] [0, 1, 3, 4, 2, 5, 6] mixed (by kernel_rfl) ?_
   have hM5 := Mv.drew c3 w4 []
   have hCw := Mv.drew c3 w4 [8]
   generalize w4.drew = w5 at hM5 hCw ⊢
   have hb10 := hb1
   have hb30 := hb3
   replace hO := hO.mv hM5 rfl; replace hb1 := hb1.mv hM5 rfl; replace h1 := h1.mv hM5 rfl; replace h2 := h2.mv hM5 rfl; replace hb3 := hb3.mv hM5 rfl
   first | refine WD.val rfl rfl rfl (fun _ => Val.fieldAddr fld29_1 rfl) rfl ?_ | refine WD.val rfl rfl rfl (fun _ => Val.fieldAddrP fld29_1 rfl) rfl ?_
   refine qc rfl rfl rfl hCw.kp (fun W hW => Val.loadB scl23 rfl (hb30.kp hW rfl).blk rfl) rfl ?_
   first | refine WD.val rfl rfl rfl (fun _ => Val.fieldAddr fld29_2 rfl) rfl ?_ | refine WD.val rfl rfl rfl (fun _ => Val.fieldAddrP fld29_2 rfl) rfl ?_
   refine qc rfl rfl rfl hCw.kp (fun W hW => Val.loadB scl23 rfl (hb30.kp hW rfl).blk rfl) rfl ?_
   refine WD.eff rfl rfl rfl (Eff.pureC c3 8 (Eff.call pf15 rfl (copyStrings_ok (h1.own.rdStrs a1 a3) (by omega)))) rfl ?_
   rintro v16 w6 ⟨c6, hM6, hx6, ho16⟩
   refine ⟨fun hC => hC.step hCw hM6 rfl, ?_⟩
   replace hCw := hCw.tr hM6 rfl
   replace hO := hO.mv hM6 rfl; replace hb1 := hb1.mv hM6 rfl; replace h1 := h1.mv hM6 rfl; replace h2 := h2.mv hM6 rfl; replace hb3 := hb3.mv hM6 rfl
   replace ho16 := ho16.toC hx6
   refine WD.eff rfl rfl rfl (Eff.appendC sl23 rfl rfl ho16 (Src.flat Try.underlying23 (h2.own.rdStrs a2 a4)) (by rw [maxLen_eq]; first | omega | (simp; omega)) (by first | omega | (simp; omega))) rfl ?_
   rintro v19 w7 ⟨c7, hM7, hOq⟩
   refine ⟨fun hC => hC.step hCw hM7 rfl, ?_⟩
   replace hCw := hCw.tr hM7 rfl
   replace hO := hO.mv hM7 rfl; replace hb1 := hb1.mv hM7 rfl; replace h1 := h1.mv hM7 rfl; replace h2 := h2.mv hM7 rfl; replace hb3 := hb3.mv hM7 rfl
   replace ho16 := hOq
   refine qd rfl rfl rfl (fun _ => Val.assign rfl) rfl ?_
   refine WD.nil ?_
   clear hb10 hb30
   clear hCw
   refine WC.ret1 rfl rfl ?_
   rw [namesT_eq hc1, List.flatMap_append, List.length_append]
   exact ⟨hO.below, ho16.fromOld hO (by decide)⟩

theorem rnames_ok {w : World} (t : Thg) (ht : t.text.length ≤ 1048576) :
    Calls Try.prog 83 #[.agg (encThg t).toArray] w (Ret fun v w' => Below w.heap.size w w' ∧ Own w' w.heap.size 9 1 v (namesT t).length ((namesT t).flatMap fun x => [St x])) := by
  obtain ⟨c, hO, hc⟩ := OldC.start w
  clear hc
  refine enter (n := 20) (res := #[.tmp 2]) Try.func83 rfl rfl rfl rfl ?_
  refine cseq <| cregion ?_
  refine WR.eff (Eff.boxC c 101 rfl) rfl ?_
  rintro _ w1 ⟨b1, c1, rfl, hM1, hb1⟩
  replace hO := hO.mv hM1 rfl
  refine qq (Val.assign rfl) rfl <| cnil <| cseq <| cseq <| cregion ?_
  first | refine WR.val (Val.fieldAddr fld62_2 rfl) rfl ?_ | refine WR.val (Val.fieldAddrP fld62_2 rfl) rfl ?_
  refine qq (Val.loadB scl4 rfl hb1.blk rfl) rfl <| qq (Val.not rfl) rfl <| cnil ?_
  refine WC.cond rfl (fun hc1 => ?_) (fun hc1 => ?_)
  ·try simp only [tstS] at hc1
   refine cseq <| cregion <| qq (Val.assign rfl) rfl <| cnil ?_
   refine WC.ret1 rfl rfl ?_
   rw [namesT_no hc1]
   exact ⟨hO.below, Own.nil _ _ _ _⟩
  ·try simp only [tstS] at hc1
   have hl := namesT_len t
   rw [namesT_eq hc1, List.length_append] at hl
   obtain ⟨a1, a2, a3, a4, _⟩ := manTake_texts (s := t.text)
   refine cskip <| cseq <| cregion ?_
   first | refine WR.val (Val.fieldAddr fld62_1 rfl) rfl ?_ | refine WR.val (Val.fieldAddrP fld62_1 rfl) rfl ?_
   refine qq (Val.loadB scl9 rfl hb1.blk rfl) rfl ?_
   refine WR.eff (Eff.pureC c1 7 (Eff.call pf25 rfl (mtake_own t.text ht))) rfl ?_
   rintro v11 w2 ⟨c2, hM2, hx2, ⟨u1, u2, rfl, h1, h2⟩⟩
   replace hO := hO.mv hM2 rfl; replace hb1 := hb1.mv hM2 rfl
   replace h1 := h1.toC hx2
   replace h2 := h2.toC hx2
   have o1 := h1.oneC; have o2 := h2.oneC
   obtain ⟨A1, p1, rfl, _⟩ := h1.own.formA
   obtain ⟨A2, p2, rfl, _⟩ := h2.own.formA
   refine qq (Val.move rfl) rfl <| qq (Val.extract rfl rfl) rfl <| qq (Val.extract rfl rfl) rfl ?_
   refine WR.eff (Eff.allocC c2 103 zero29) rfl ?_
   rintro _ w3 ⟨b3, c3, rfl, hM3, hb3⟩
   replace hO := hO.mv hM3 rfl; replace hb1 := hb1.mv hM3 rfl; replace h1 := h1.mv hM3 rfl; replace h2 := h2.mv hM3 rfl
   refine WR.eff_ (Eff.storeNC agg29 rfl rfl hb3 rfl rfl (by repeat (first | exact List.forall_mem_nil _ | refine List.forall_mem_cons.2 ⟨by first | rfl | assumption, ?_⟩))) ?_
   rintro _ w4 ⟨hS, hM4⟩
   replace hO := hO.mv hM4 rfl; replace hb1 := hb1.mv hM4 rfl; replace h1 := h1.mv hM4 rfl; replace h2 := h2.mv hM4 rfl
   replace hb3 := hS
   refine qq (Val.assign rfl) rfl <| cnil <| cseq <| cregion ?_
   first | refine WR.val (Val.fieldAddr fld29_1 rfl) rfl ?_ | refine WR.val (Val.fieldAddrP fld29_1 rfl) rfl ?_
   refine qq (Val.loadB scl23 rfl hb3.blk rfl) rfl ?_
   first | refine WR.val (Val.fieldAddr fld29_2 rfl) rfl ?_ | refine WR.val (Val.fieldAddrP fld29_2 rfl) rfl ?_
   refine qq (Val.loadB scl23 rfl hb3.blk rfl) rfl ?_
   refine WR.eff (Eff.buildC c3 118 sl98 rfl rfl rfl (by simp [Value.cells]) rfl rfl) rfl ?_
   rintro _ w5 ⟨b18, c5, rfl, hM5, hb18⟩
   replace hO := hO.mv hM5 rfl; replace hb1 := hb1.mv hM5 rfl; replace h1 := h1.mv hM5 rfl; replace h2 := h2.mv hM5 rfl; replace hb3 := hb3.mv hM5 rfl
   refine WR.eff (Eff.pureC c5 8 (Eff.call pf111 rfl (concat_ok (rdPair hb18 (h1.own.rdStrs a1 a3) (h2.own.rdStrs a2 a4)) (by simp; omega)))) rfl ?_
   rintro v19 w6 ⟨c6, hM6, hx6, ho19⟩
   replace hO := hO.mv hM6 rfl; replace hb1 := hb1.mv hM6 rfl; replace h1 := h1.mv hM6 rfl; replace h2 := h2.mv hM6 rfl; replace hb3 := hb3.mv hM6 rfl; replace hb18 := hb18.mv hM6 rfl
   replace ho19 := ho19.toC hx6
   refine qq (Val.assign rfl) rfl <| cnil ?_
   refine WC.ret1 rfl rfl ?_
   rw [namesT_eq hc1]
   have e : [((manTake t.text).getD man0).blobs, ((manTake t.text).getD man0).subs].flatten = ((manTake t.text).getD man0).blobs ++ ((manTake t.text).getD man0).subs := by simp
   rw [e] at ho19
   exact ⟨hO.below, ho19.fromOld hO (by decide)⟩

set_option maxHeartbeats 1000000 in
theorem rmay_ok {w : World} {v : Value} {T : List Thg} (h0 : Rd thgS w v T) : Calls Try.prog 80 #[v] w (Ret fun v' w' => Below w.heap.size w w' ∧ v' = .bool (thgsMay T)) := by
  obtain ⟨c, hO, hc⟩ := OldC.start w
  have hsm := h0.small
  have h1 : RdC thgS c w [0] v T := Rd.toC h0 (fun k hk => by simp [hc, hasC])
  clear hc h0
  refine enter (n := 55) (res := #[.tmp 2]) Try.func80 rfl rfl rfl rfl ?_
  refine cseq <| cregion <| qq (Val.assign rfl) rfl <| cnil <| cseq <| cseq <| cregion <| qq (Val.move rfl) rfl ?_
  first | refine WR.val (Val.rdlen sl52 (by assumption) rfl) rfl ?_ | refine WR.val (Val.sllen Try.underlying52 rfl) rfl ?_ | refine WR.val (Val.olen sl52 (by assumption) rfl) rfl ?_ | refine WR.val (Val.rdlenC sl52 (by assumption) rfl) rfl ?_
  refine qq (Val.gtr rfl rfl) rfl <| cnil ?_
  refine WC.cond rfl (fun hc1 => ?_) (fun hc1 => ?_)
  ·try simp only [tstS] at hc1
   refine cseq <| cregion <| qq (Val.assign rfl) rfl <| cnil ?_
   refine WC.ret1 rfl rfl ?_
   exact ⟨hO.below, by rw [thgsMay_long (by omega)]⟩
  ·try simp only [tstS] at hc1
   refine cskip <| cseq <| cseq <| cregion <| qq (Val.move rfl) rfl ?_
   first | refine WR.val (Val.rdlen sl52 (by assumption) rfl) rfl ?_ | refine WR.val (Val.sllen Try.underlying52 rfl) rfl ?_ | refine WR.val (Val.olen sl52 (by assumption) rfl) rfl ?_ | refine WR.val (Val.rdlenC sl52 (by assumption) rfl) rfl ?_
   refine qq (Val.move rfl) rfl <| cnil <| cblock ?_
   refine WC.loop (σ := Nat) (fun k => [(0, v), (10, v), (11, I T.length), (12, I k)]) (fun k w' => ∃ c', OldC w c' w' ∧ RdC thgS c' w' [0] v T ∧ k ≤ T.length ∧ ∀ i, i < k → thgAt T i = true) (fun k => T.length - k) 0 (by repeat (first | exact Sub.nil _ | refine Sub.cons rfl ?_ | refine Sub.consM rfl ?_)) ⟨_, hO, h1, by omega, fun i hi => absurd hi (Nat.not_lt_zero _)⟩ ?_
   clear hO h1
   rintro k wl ⟨cl, hO, h1, hk, hd⟩
   refine cseq <| cregion <| qq (Val.lss rfl rfl) rfl <| cnil <| cseq ?_
   refine WC.cond rfl (fun hc4 => ?_) (fun hc4 => ?_)
   ·try simp only [tstS] at hc4
    have ka : k < T.length := by omega
    obtain ⟨hc15, ok1⟩ := RdC.elFlat h1 ka (by decide)
    have hpr : ((k : Int) - 1).toNat < T.length := by omega
    obtain ⟨hc36, _⟩ := RdC.elFlat h1 hpr (by decide)
    have hat := thgAt_eq ka hpr
    rw [less_not] at hat
    refine cskip <| cseq <| cblock <| cseq <| cregion <| qq (Val.move rfl) rfl ?_
    first | refine WR.val (Val.indexAddr sl52 (by assumption) rfl rfl rfl (by first | omega | assumption | (simp; omega) | (simp; done)) (by first | omega | assumption | (simp; omega) | (simp; done))) rfl ?_ | refine WR.val (Val.indexC sl52 (by assumption) rfl rfl (by first | omega | assumption | (simp; omega) | (simp; done)) (by first | omega | assumption | (simp; omega) | (simp; done))) rfl ?_ | refine WR.val (Val.indexO sl52 (by assumption) rfl rfl (by first | omega | assumption | (simp; omega) | (simp; done)) (by first | omega | assumption | (simp; omega) | (simp; done))) rfl ?_
    refine qq (Val.loadE agg62 rfl hc15.cel rfl) rfl ?_
    refine WR.eff (Eff.allocC cl 104 zero62) rfl ?_
    rintro _ w1 ⟨b4, c1, rfl, hM1, hb4⟩
    replace hO := hO.mv hM1 rfl; replace h1 := h1.mv hM1 rfl; replace hc15 := hc15.mv hM1 rfl; replace hc36 := hc36.mv hM1 rfl
    refine qq (Val.assign rfl) rfl ?_
    refine WR.eff_ (Eff.storeNC agg62 rfl rfl hb4 rfl rfl (by repeat (first | exact List.forall_mem_nil _ | refine List.forall_mem_cons.2 ⟨by first | rfl | assumption, ?_⟩))) ?_
    rintro _ w2 ⟨hS, hM2⟩
    replace hO := hO.mv hM2 rfl; replace h1 := h1.mv hM2 rfl; replace hc15 := hc15.mv hM2 rfl; replace hc36 := hc36.mv hM2 rfl
    replace hb4 := hS
    refine cnil <| cseq <| cseq ?_
    refine WC.regionD (Kp c1 w2 []) [0, 1, 0, 0, 0, 0, 1, 0, 0, 0, 0, 0, 0, 0, 0, 1, 0, 0, 0, 0, 0, 1, 0, 0, 0] [0, 1, 2, 3, 4, 5, 6, 7, 8, 9, 10, 11, 12, 13, 14, 15, 16, 17, 18, 19, 20, 21, 22, 23, 24] mixed (by kernel_rfl) ?_
    have hM3 := Mv.drew c1 w2 []
    have hCw := Mv.drew c1 w2 []
    generalize w2.drew = w3 at hM3 hCw ⊢
    have hb40 := hb4
    have hc150 := hc15
    have hc360 := hc36
    replace hO := hO.mv hM3 rfl; replace h1 := h1.mv hM3 rfl; replace hc15 := hc15.mv hM3 rfl; replace hc36 := hc36.mv hM3 rfl; replace hb4 := hb4.mv hM3 rfl
    first | refine WD.val rfl rfl rfl (fun _ => Val.fieldAddr fld62_0 rfl) rfl ?_ | refine WD.val rfl rfl rfl (fun _ => Val.fieldAddrP fld62_0 rfl) rfl ?_
    refine qc rfl rfl rfl hCw.kp (fun W hW => Val.loadB scl9 rfl (hb40.kp hW rfl).blk rfl) rfl <| qd rfl rfl rfl (fun _ => Val.slen Try.underlying9 rfl) rfl <| qd rfl rfl rfl (fun _ => Val.neq rfl rfl) rfl <| qd rfl rfl rfl (fun _ => Val.move rfl) rfl ?_
    apply WD.sc false 4 _ (fun w' => w3 = w')
    case hl => rfl
    case hi => rfl
    case hk => rfl
    case hg => rfl
    case hu => rfl
    case hv => rfl
    case hs => rfl
    case hoff => rfl
    case hd => rfl
    case hC => exact hCw.kp
    case hF => exact fun _ => rfl
    case hT =>
     intro hq9
     try simp only [tstS] at hq9
     simp only [List.take_succ_cons, List.take_zero]
     first | refine WD.val rfl rfl rfl (fun _ => Val.fieldAddr fld62_1 rfl) rfl ?_ | refine WD.val rfl rfl rfl (fun _ => Val.fieldAddrP fld62_1 rfl) rfl ?_
     refine qc rfl rfl rfl hCw.kp (fun W hW => Val.loadB scl9 rfl (hb40.kp hW rfl).blk rfl) rfl <| qd rfl rfl rfl (fun _ => Val.slen Try.underlying9 rfl) rfl <| qd rfl rfl rfl (fun _ => Val.gtr rfl rfl) rfl ?_
     exact WD.nil ⟨rfl, Sub.drop _ 4 _ rfl rfl, rfl⟩
    rintro _ rfl
    refine qd rfl rfl rfl (fun _ => Val.move rfl) rfl ?_
    apply WD.sc false 13 _ (fun w' => w3 = w')
    case hl => rfl
    case hi => rfl
    case hk => rfl
    case hg => rfl
    case hu => rfl
    case hv => rfl
    case hs => rfl
    case hoff => rfl
    case hd => rfl
    case hC => exact hCw.kp
    case hF => exact fun _ => rfl
    case hT =>
     intro hq24
     try simp only [tstS] at hq24
     simp only [List.take_succ_cons, List.take_zero]
     refine qd rfl rfl rfl (fun _ => Val.move rfl) rfl <| qd rfl rfl rfl (fun _ => Val.gtr rfl rfl) rfl <| qd rfl rfl rfl (fun _ => Val.move rfl) rfl ?_
     apply WD.sc true 9 _ (fun w' => w3 = w')
     case hl => rfl
     case hi => rfl
     case hk => rfl
     case hg => rfl
     case hu => rfl
     case hv => rfl
     case hs => rfl
     case hoff => rfl
     case hd => rfl
     case hC => exact hCw.kp
     case hF => exact fun _ => rfl
     case hT =>
      intro hq23
      try simp only [tstS] at hq23
      simp only [List.take_succ_cons, List.take_zero]
      first | refine WD.val rfl rfl rfl (fun _ => Val.fieldAddr fld62_0 rfl) rfl ?_ | refine WD.val rfl rfl rfl (fun _ => Val.fieldAddrP fld62_0 rfl) rfl ?_
      refine qc rfl rfl rfl hCw.kp (fun W hW => Val.loadB scl9 rfl (hb40.kp hW rfl).blk rfl) rfl <| qd rfl rfl rfl (fun _ => Val.move rfl) rfl <| qd rfl rfl rfl (fun _ => Val.move rfl) rfl <| qd rfl rfl rfl (fun _ => Val.subI rfl rfl (by first | omega | assumption | (simp; omega) | (simp; done)) (by first | omega | assumption | (simp; omega) | (simp; done))) rfl ?_
      first | refine WD.val rfl rfl rfl (fun _ => Val.indexAddr sl52 (by assumption) rfl rfl rfl (by first | omega | assumption | (simp; omega) | (simp; done)) (by first | omega | assumption | (simp; omega) | (simp; done))) rfl ?_ | refine WD.val rfl rfl rfl (fun _ => Val.indexC sl52 (by assumption) rfl rfl (by first | omega | assumption | (simp; omega) | (simp; done)) (by first | omega | assumption | (simp; omega) | (simp; done))) rfl ?_ | refine WD.val rfl rfl rfl (fun _ => Val.indexO sl52 (by assumption) rfl rfl (by first | omega | assumption | (simp; omega) | (simp; done)) (by first | omega | assumption | (simp; omega) | (simp; done))) rfl ?_
      first | refine WD.val rfl rfl rfl (fun _ => Val.fieldAddr fld62_0 rfl) rfl ?_ | refine WD.val rfl rfl rfl (fun _ => Val.fieldAddrP fld62_0 rfl) rfl ?_
      refine qc rfl rfl rfl hCw.kp (fun W hW => Val.loadEf scl9 rfl (hc360.kp hW rfl).cel rfl) rfl <| qd rfl rfl rfl (fun _ => Val.sleq rfl rfl) rfl ?_
      exact WD.nil ⟨rfl, Sub.drop _ 9 _ rfl rfl, rfl⟩
     rintro _ rfl
     exact WD.nil ⟨rfl, Sub.drop _ 4 _ rfl rfl, rfl⟩
    rintro _ rfl
    refine WD.nil ?_
    clear hb40 hc150 hc360
    clear hCw
    refine WC.cond rfl (fun hc6 => ?_) (fun hc6 => ?_)
    ·try simp only [tstS] at hc6
     have hno : thgAt T k = false := by
       rw [hat]
       rcases hc6 with (h | h) | ⟨h, h'⟩
       · rw [decide_eq_false h]; rfl
       · rw [decide_eq_false (show ¬ (T[k].text.length : Int) ≤ 2000 by omega)]; simp
       · rw [decide_eq_true h, (Bool.or_eq_true _ _).mpr h']; simp
     refine cseq <| cregion <| qq (Val.assign rfl) rfl <| cnil ?_
     refine WC.ret1 rfl rfl ?_
     exact ⟨hO.below, by rw [thgsMay_no ka hno]⟩
    ·try simp only [tstS] at hc6
     obtain ⟨⟨hc6a, hc6b⟩, hc6c⟩ := hc6
     refine cskip <| cseq <| cregion ?_
     first | refine WR.val (Val.fieldAddr fld62_1 rfl) rfl ?_ | refine WR.val (Val.fieldAddrP fld62_1 rfl) rfl ?_
     refine qq (Val.loadB scl9 rfl hb4.blk rfl) rfl ?_
     refine WR.eff (Eff.pureC c1 7 (Eff.call pf25 rfl (mtake_own T[k].text (by omega)))) rfl ?_
     rintro v45 w4 ⟨c4, hM4, hx4, ⟨u1, u2, rfl, g1, g2⟩⟩
     replace hO := hO.mv hM4 rfl; replace h1 := h1.mv hM4 rfl; replace hc15 := hc15.mv hM4 rfl; replace hc36 := hc36.mv hM4 rfl; replace hb4 := hb4.mv hM4 rfl
     replace g1 := g1.toC hx4
     replace g2 := g2.toC hx4
     have o1 := g1.oneC; have o2 := g2.oneC
     refine qq (Val.move rfl) rfl <| qq (Val.extract rfl rfl) rfl <| qq (Val.extract rfl rfl) rfl ?_
     refine WR.eff (Eff.allocC c4 105 zero29) rfl ?_
     rintro _ w5 ⟨b5, c5, rfl, hM5, hb5⟩
     replace hO := hO.mv hM5 rfl; replace h1 := h1.mv hM5 rfl; replace hc15 := hc15.mv hM5 rfl; replace hc36 := hc36.mv hM5 rfl; replace hb4 := hb4.mv hM5 rfl; replace g1 := g1.mv hM5 rfl; replace g2 := g2.mv hM5 rfl
     refine WR.eff_ (Eff.storeNC agg29 rfl rfl hb5 rfl rfl (by repeat (first | exact List.forall_mem_nil _ | refine List.forall_mem_cons.2 ⟨by first | rfl | assumption, ?_⟩))) ?_
     rintro _ w6 ⟨hS, hM6⟩
     replace hO := hO.mv hM6 rfl; replace h1 := h1.mv hM6 rfl; replace hc15 := hc15.mv hM6 rfl; replace hc36 := hc36.mv hM6 rfl; replace hb4 := hb4.mv hM6 rfl; replace g1 := g1.mv hM6 rfl; replace g2 := g2.mv hM6 rfl
     replace hb5 := hS
     refine qq (Val.assign rfl) rfl <| cnil <| cseq <| cregion ?_
     first | refine WR.val (Val.fieldAddr fld62_2 rfl) rfl ?_ | refine WR.val (Val.fieldAddrP fld62_2 rfl) rfl ?_
     refine qq (Val.loadB scl4 rfl hb4.blk rfl) rfl <| qq (Val.move rfl) rfl ?_
     apply WR.sc true 2 _ (fun w' => w6 = w')
     case hl => rfl
     case hg => rfl
     case hu => rfl
     case hv => rfl
     case hs => rfl
     case hoff => rfl
     case hd => rfl
     case hF => exact fun _ => rfl
     case hT =>
      intro hq5
      try simp only [tstS] at hq5
      simp only [List.take_succ_cons, List.take_zero]
      refine WR.on rfl rfl ?_
      refine qq (Val.move rfl) rfl ?_
      refine WR.on rfl rfl ?_
      refine qq (Val.neq rfl rfl) rfl ?_
      exact WR.nil ⟨rfl, Sub.drop _ 2 _ rfl rfl, rfl⟩
     rintro _ rfl
     refine cnil ?_
     refine WC.cond rfl (fun hc9 => ?_) (fun hc9 => ?_)
     ·try simp only [tstS] at hc9
      have hno : thgAt T k = false := by
        rw [hat, hc9.1]
        cases hm : (manTake T[k].text).isSome with
        | false => simp
        | true => rw [hm] at hc9; simp at hc9
      refine cseq <| cregion <| qq (Val.assign rfl) rfl <| cnil ?_
      refine WC.ret1 rfl rfl ?_
      exact ⟨hO.below, by rw [thgsMay_no ka hno]⟩
     ·try simp only [tstS] at hc9
      have hye : thgAt T k = true := by
        rw [hat, decide_eq_true hc6a, decide_eq_true (show (T[k].text.length : Int) ≤ 2000 by omega)]
        have h3 : (!(decide (0 < (k : Int)) && !(!(Op.bytesLess T[k].digest T[((k : Int) - 1).toNat].digest || (T[k].digest == T[((k : Int) - 1).toNat].digest))))) = true := by
          rw [Bool.not_not]
          cases h0 : decide (0 < (k : Int)) with
          | false => rfl
          | true =>
            cases h9 : (Op.bytesLess T[k].digest T[((k : Int) - 1).toNat].digest || (T[k].digest == T[((k : Int) - 1).toNat].digest)) with
            | false => rfl
            | true => rw [h0, h9] at hc6c; exact absurd hc6c (by decide)
        rw [h3]
        cases hm : T[k].manifest with
        | false => rfl
        | true =>
          cases hs : (manTake T[k].text).isSome with
          | true => rfl
          | false => rw [hm, hs] at hc9; simp at hc9
      refine cskip <| cregion <| qq (Val.addI rfl rfl (by first | omega | assumption | (simp; omega) | (simp; done)) (by first | omega | assumption | (simp; omega) | (simp; done))) rfl <| qq (Val.move rfl) rfl <| cnil ?_
      exact ⟨k + 1, (by repeat (first | exact Sub.nil _ | refine Sub.cons rfl ?_ | refine Sub.consM rfl ?_)), ⟨_, hO, h1, ka, below_succ hd hye⟩, by omega⟩
   ·try simp only [tstS] at hc4
    refine WC.exit rfl ?_
    refine cseq <| cregion <| qq (Val.assign rfl) rfl <| cnil ?_
    refine WC.ret1 rfl rfl ?_
    exact ⟨hO.below, by rw [thgsMay_yes (k := k) (by omega) (by omega) hd]⟩

theorem rcheck_ok {w : World} {v : Value} {T : List Thg} (h1 : Rd thgS w v T) : Calls Try.prog 48 #[v] w (Ret fun v' w' => Below w.heap.size w w' ∧ v' = I (if thgsMay T then 0 else 1)) := by
  have hK : Old w w := Old.refl w
  refine enter (n := 6) (res := #[.tmp 2]) Try.func48 rfl rfl rfl rfl ?_
  refine cseq <| cregion <| qq (Val.assign rfl) rfl <| cnil <| cseq <| cseq <| cregion <| qq (Val.move rfl) rfl ?_
  refine WR.eff (Eff.call pf80 rfl (rmay_ok h1)) rfl ?_
  rintro v4 w1 ⟨hk1, rfl⟩
  replace hK := hK.up hk1
  refine qq (Val.not rfl) rfl <| cnil ?_
  refine WC.cond rfl (fun hc1 => ?_) (fun hc1 => ?_)
  ·try simp only [tstS] at hc1
   refine cseq <| cregion <| qq (Val.assign rfl) rfl <| cnil ?_
   refine WC.ret1 rfl rfl ?_
   exact ⟨hK, by rw [hc1]; rfl⟩
  ·try simp only [tstS] at hc1
   refine cskip <| cseq <| cregion <| qq (Val.assign rfl) rfl <| cnil ?_
   refine WC.ret1 rfl rfl ?_
   exact ⟨hK, by rw [hc1]; rfl⟩

theorem thgsW_le {w : World} {v : Value} {T : List Thg} (h : RdS thgS w.heap.size w v T) : thgsW T ≤ 422212465065984 := by
  have h1 := h.small
  rcases stopSum_le (T.map thgW) T.length 281474976710656 (fun x hx => by
    obtain ⟨y, hy, rfl⟩ := List.mem_map.1 hx
    obtain ⟨i, hi, rfl⟩ := List.mem_iff_getElem.1 hy
    obtain ⟨_, _, h3⟩ := h.at (List.getElem?_eq_getElem hi)
    have h4 := h3.2
    unfold thgW
    omega) with h2 | h2 <;> unfold thgsW <;> omega
theorem rheavy_ok {w : World} {vM vT : Value} {Ts : List (List Thg)} {R : List (List UInt8)} (h1 : Rd thgS.slice w vM Ts) (h2 : Rd strS w vT R) :
    Calls Try.prog 32 #[.agg #[vM, vT]] w (Ret fun v w' => Below w.heap.size w w' ∧ v = .bool (decide ((9000 : Int) < (thinksW Ts R : Nat)))) := by
  have hK : Old w w := Old.refl w
  have o1 := h1.oneC
  have o2 := h2.oneC
  have hsm := h1.small
  refine enter (n := 29) (res := #[.tmp 2]) Try.func32 rfl rfl rfl rfl ?_
  refine cseq <| cregion ?_
  refine WR.eff (Eff.box rfl) rfl ?_
  rintro _ w1 ⟨b1, rfl, hn1⟩
  have hk1 := hn1.below
  replace h1 := h1.up hk1; replace h2 := h2.up hk1; replace hK := hK.up hk1
  have hb1 := hn1.blk
  refine qq (Val.assign rfl) rfl <| cnil <| cseq <| cregion ?_
  first | refine WR.val (Val.fieldAddr fld50_1 rfl) rfl ?_ | refine WR.val (Val.fieldAddrP fld50_1 rfl) rfl ?_
  refine qq (Val.loadB scl23 rfl hb1 rfl) rfl ?_
  refine WR.eff (Eff.call pf70 rfl (texts_ok h2)) rfl ?_
  rintro v7 w2 ⟨hk2, rfl⟩
  replace h1 := h1.up hk2; replace h2 := h2.up hk2; replace hK := hK.up hk2; replace hb1 := hb1.up hk2
  have ht := tW_le h2
  rw [show stopSum R.length (R.map List.length) = tW R from rfl]
  refine qq (Val.assign rfl) rfl <| cnil <| cseq <| cseq <| cregion <| qq (Val.assign rfl) rfl <| cnil <| cblock ?_
  refine WC.loop (σ := Nat) (fun k => [(1, .pointer (some ⟨b1, 0, none⟩)), (3, I ((tW R + ((Ts.take k).map thgsW).sum : Nat) : Int)), (4, I k)]) (fun k w' => Rd thgS.slice w' vM Ts ∧ Rd strS w' vT R ∧ Old w w' ∧ Blk w' b1 [vM, vT] 50 ∧ k ≤ Ts.length ∧ tW R + ((Ts.take k).map thgsW).sum ≤ 900000000000000 ∧ thinksW Ts R = stopSum (tW R + ((Ts.take k).map thgsW).sum) ((Ts.drop k).map thgsW)) (fun k => Ts.length - k) 0 (by simp only [List.take_zero, List.map_nil, List.sum_nil, Nat.add_zero]; repeat (first | exact Sub.nil _ | refine Sub.cons rfl ?_ | refine Sub.consM rfl ?_)) ⟨h1, h2, hK, hb1, by omega, by simp; omega, by simp [thinksW]⟩ ?_
  clear ht h1 h2 hK
  rintro k wl ⟨h1, h2, hK, hb1, hk, hn, hst⟩
  refine cseq <| cseq <| cregion <| qq (Val.move rfl) rfl ?_
  first | refine WR.val (Val.fieldAddr fld50_0 rfl) rfl ?_ | refine WR.val (Val.fieldAddrP fld50_0 rfl) rfl ?_
  refine qq (Val.loadB scl48 rfl hb1 rfl) rfl ?_
  first | refine WR.val (Val.rdlen sl48 (by assumption) rfl) rfl ?_ | refine WR.val (Val.sllen Try.underlying48 rfl) rfl ?_
  refine qq (Val.lss rfl rfl) rfl <| qq (Val.move rfl) rfl ?_
  apply WR.sc true 2 _ (fun w' => wl = w')
  case hl => rfl
  case hg => rfl
  case hu => rfl
  case hv => rfl
  case hs => rfl
  case hoff => rfl
  case hd => rfl
  case hF => exact fun _ => rfl
  case hT =>
   intro hq8
   try simp only [tstS] at hq8
   simp only [List.take_succ_cons, List.take_zero]
   refine WR.on rfl rfl ?_
   refine qq (Val.move rfl) rfl ?_
   refine WR.on rfl rfl ?_
   refine qq (Val.lss rfl rfl) rfl ?_
   exact WR.nil ⟨rfl, Sub.drop _ 2 _ rfl rfl, rfl⟩
  rintro _ rfl
  refine cnil ?_
  refine WC.cond rfl (fun hc3 => ?_) (fun hc3 => ?_)
  ·try simp only [tstS] at hc3
   obtain ⟨hc3, hc3'⟩ := hc3
   have ka : k < Ts.length := by omega
   obtain ⟨cs1, hc23, va, rfl, ha⟩ := h1.el ka
   replace ha : Rd thgS wl va Ts[k] := ha
   have hwa := thgsW_le ha
   refine cskip <| cseq <| cblock <| cregion <| qq (Val.move rfl) rfl ?_
   first | refine WR.val (Val.fieldAddr fld50_0 rfl) rfl ?_ | refine WR.val (Val.fieldAddrP fld50_0 rfl) rfl ?_
   refine qq (Val.loadB scl48 rfl hb1 rfl) rfl <| qq (Val.move rfl) rfl <| qq (Val.indexAddr sl48 (by assumption) rfl rfl rfl (by first | omega | assumption | (simp; omega) | (simp; done)) (by first | omega | assumption | (simp; omega) | (simp; done))) rfl <| qq (Val.loadE1 scl52 rfl hc23) rfl ?_
   refine WR.eff (Eff.call pf79 rfl (thgsWeight_ok ha)) rfl ?_
   rintro v25 w3 ⟨hk3, rfl⟩
   replace h1 := h1.up hk3; replace h2 := h2.up hk3; replace hK := hK.up hk3; replace hb1 := hb1.up hk3; replace hc23 := hc23.up hk3; replace ha := ha.up hk3
   refine qq (Val.addI rfl rfl (by first | omega | assumption | (simp; omega) | (simp; done)) (by first | omega | assumption | (simp; omega) | (simp; done))) rfl <| qq (Val.assign rfl) rfl <| cnil <| cregion <| qq (Val.move rfl) rfl <| qq (Val.addI rfl rfl (by first | omega | assumption | (simp; omega) | (simp; done)) (by first | omega | assumption | (simp; omega) | (simp; done))) rfl <| qq (Val.assign rfl) rfl <| cnil ?_
   refine ⟨k + 1, ?_, ⟨h1, h2, hK, hb1, ka, ?_, by rw [hst, stopSum_step _ ka (by omega), sum_take_succ _ ka, Nat.add_assoc]⟩, by omega⟩
   · have e2 : ((tW R + (((Ts.take k).map thgsW).sum + thgsW Ts[k]) : Nat) : Int) = ((tW R + ((Ts.take k).map thgsW).sum : Nat) : Int) + (thgsW Ts[k] : Nat) := by omega
     rw [sum_take_succ _ ka, e2]
     repeat (first | exact Sub.nil _ | refine Sub.cons rfl ?_ | refine Sub.consM rfl ?_)
   · rw [sum_take_succ _ ka]; omega
  ·try simp only [tstS] at hc3
   refine WC.exit rfl ?_
   refine cseq <| cregion <| qq (Val.move rfl) rfl <| qq (Val.gtr rfl rfl) rfl <| qq (Val.assign rfl) rfl <| cnil ?_
   refine WC.ret1 rfl rfl ?_
   have e3 : thinksW Ts R = tW R + ((Ts.take k).map thgsW).sum := by
     rw [Bool.and_eq_false_iff] at hc3
     simp only [decide_eq_false_iff_not] at hc3
     rcases Nat.lt_or_ge k Ts.length with h | h
     · rw [hst, stopSum_ge (by omega)]
     · rw [hst, List.drop_of_length_le h]; rfl
   exact ⟨hK, by rw [e3]⟩

theorem roots_ok {w : World} {v vR : Value} {T : List Thg} {R : List (List UInt8)} (h0 : Rd thgS w v T) (h2 : Rd strS w vR R) (by_ : Nat) (hb : by_ ≤ 1000) (hl : T.length ≤ 100000) (hr : R.length ≤ 100000) :
    Calls Try.prog 34 #[v, vR, I by_] w (Ret fun v' w' => Below w.heap.size w w' ∧ Own w' w.heap.size 9 1 v' (rootsT T R by_).length ((rootsT T R by_).flatMap fun x => [St x])) := by
  obtain ⟨c, hO, hc⟩ := OldC.start w
  have h1 : RdC thgS c w [0] v T := Rd.toC h0 (fun k hk => by simp [hc, hasC])
  clear hc h0
  refine enter (n := 31) (res := #[.tmp 6]) Try.func34 rfl rfl rfl rfl ?_
  refine cseq <| cregion <| qq (Val.assign rfl) rfl <| cnil <| cseq <| cregion <| qq (Val.move rfl) rfl ?_
  refine WR.eff (Eff.pureC c 7 (Eff.call pf15 rfl (copyStrings_ok h2 (by omega)))) rfl ?_
  rintro v10 w1 ⟨c1, hM1, hx1, ho⟩
  replace hO := hO.mv hM1 rfl; replace h1 := h1.mv hM1 rfl
  replace ho := ho.toC hx1
  refine qq (Val.assign rfl) rfl <| cnil <| cseq <| cseq <| cregion <| qq (Val.assign rfl) rfl <| cnil <| cblock ?_
  refine WC.loop (σ := Nat × Value) (fun st => [(0, v), (2, I by_), (7, st.2), (8, I st.1)]) (fun st w' => ∃ c', OldC w c' w' ∧ RdC thgS c' w' [0] v T ∧ OwnC c' w' 7 9 1 st.2 (R ++ pickT T by_ st.1).length ((R ++ pickT T by_ st.1).flatMap fun x => [St x]) ∧ st.1 ≤ T.length) (fun st => T.length - st.1) (0, v10) (by repeat (first | exact Sub.nil _ | refine Sub.cons rfl ?_ | refine Sub.consM rfl ?_)) ⟨_, hO, h1, by simpa [pickT] using ho, by simp⟩ ?_
  clear hO h1 ho
  rintro ⟨k, vm⟩ wl ⟨cl, hO, h1, ho, hk⟩
  dsimp only at hO h1 ho hk ⊢
  have hpl := pickT_len T by_ k
  refine cseq <| cseq <| cregion <| qq (Val.move rfl) rfl <| qq (Val.move rfl) rfl ?_
  first | refine WR.val (Val.rdlen sl52 (by assumption) rfl) rfl ?_ | refine WR.val (Val.sllen Try.underlying52 rfl) rfl ?_ | refine WR.val (Val.olen sl52 (by assumption) rfl) rfl ?_ | refine WR.val (Val.rdlenC sl52 (by assumption) rfl) rfl ?_
  refine qq (Val.lss rfl rfl) rfl <| cnil ?_
  refine WC.cond rfl (fun hc3 => ?_) (fun hc3 => ?_)
  ·try simp only [tstS] at hc3
   have ka : k < T.length := by omega
   obtain ⟨hc25, ok1⟩ := RdC.elFlat h1 ka (by decide)
   have hps := pickT_succ T by_ k
   refine cskip <| cseq <| cblock <| cseq <| cregion <| qq (Val.move rfl) rfl <| qq (Val.move rfl) rfl <| qq (Val.addI rfl rfl (by first | omega | assumption | (simp; omega) | (simp; done)) (by first | omega | assumption | (simp; omega) | (simp; done))) rfl <| qq (Val.remI rfl rfl (by first | omega | assumption | (simp; omega) | (simp; done)) (by first | omega | assumption | (simp; omega) | (simp; done))) rfl ?_
   refine qq (Val.eql rfl rfl) rfl <| cnil ?_
   refine WC.cond rfl (fun hc5 => ?_) (fun hc5 => ?_)
   ·try simp only [tstS] at hc5
    rw [if_pos (show (k + by_) % 3 = 0 by omega), dgOf_lt ka] at hps
    refine cregion <| qq (Val.move rfl) rfl <| qq (Val.move rfl) rfl <| qq (Val.move rfl) rfl ?_
    first | refine WR.val (Val.indexAddr sl52 (by assumption) rfl rfl rfl (by first | omega | assumption | (simp; omega) | (simp; done)) (by first | omega | assumption | (simp; omega) | (simp; done))) rfl ?_ | refine WR.val (Val.indexC sl52 (by assumption) rfl rfl (by first | omega | assumption | (simp; omega) | (simp; done)) (by first | omega | assumption | (simp; omega) | (simp; done))) rfl ?_ | refine WR.val (Val.indexO sl52 (by assumption) rfl rfl (by first | omega | assumption | (simp; omega) | (simp; done)) (by first | omega | assumption | (simp; omega) | (simp; done))) rfl ?_
    first | refine WR.val (Val.fieldAddr fld62_0 rfl) rfl ?_ | refine WR.val (Val.fieldAddrP fld62_0 rfl) rfl ?_
    refine qq (Val.loadEf scl9 rfl hc25.cel rfl) rfl ?_
    refine WR.eff (Eff.build1C cl 128 sl23 rfl rfl rfl rfl rfl) rfl ?_
    rintro _ w2 ⟨b28, c2, rfl, hM2, hb28⟩
    replace hO := hO.mv hM2 rfl; replace h1 := h1.mv hM2 rfl; replace ho := ho.mv hM2 rfl; replace hc25 := hc25.mv hM2 rfl
    refine WR.eff (Eff.appendC sl23 rfl rfl ho (Src.cellsAt Try.underlying23 hb28.blk.cellsAt rfl (by repeat (first | exact List.forall_mem_nil _ | refine List.forall_mem_cons.2 ⟨by first | rfl | assumption, ?_⟩))) (by rw [maxLen_eq]; first | omega | (simp; omega)) (by first | omega | (simp; omega))) rfl ?_
    rintro v29 w3 ⟨c3, hM3, hOq⟩
    clear hb28
    replace hO := hO.mv hM3 rfl; replace h1 := h1.mv hM3 rfl; replace hc25 := hc25.mv hM3 rfl
    replace ho := hOq
    refine qq (Val.assign rfl) rfl <| cnil <| cregion <| qq (Val.move rfl) rfl <| qq (Val.addI rfl rfl (by first | omega | assumption | (simp; omega) | (simp; done)) (by first | omega | assumption | (simp; omega) | (simp; done))) rfl <| qq (Val.assign rfl) rfl <| cnil ?_
    first
    | exact ⟨(k + 1, vm), (by repeat (first | exact Sub.nil _ | refine Sub.cons rfl ?_ | refine Sub.consM rfl ?_)), ⟨_, hO, h1, by rw [hps]; exact ho, ka⟩, by dsimp only; omega⟩
    | exact ⟨(k + 1, v29), (by repeat (first | exact Sub.nil _ | refine Sub.cons rfl ?_ | refine Sub.consM rfl ?_)), ⟨_, hO, h1, by rw [hps, ← List.append_assoc, List.flatMap_append, List.length_append]; exact ho, ka⟩, by dsimp only; omega⟩
   ·try simp only [tstS] at hc5
    rw [if_neg (show ¬ (k + by_) % 3 = 0 by omega)] at hps
    refine cskip <| cregion <| qq (Val.move rfl) rfl <| qq (Val.addI rfl rfl (by first | omega | assumption | (simp; omega) | (simp; done)) (by first | omega | assumption | (simp; omega) | (simp; done))) rfl <| qq (Val.assign rfl) rfl <| cnil ?_
    first
    | exact ⟨(k + 1, vm), (by repeat (first | exact Sub.nil _ | refine Sub.cons rfl ?_ | refine Sub.consM rfl ?_)), ⟨_, hO, h1, by rw [hps]; exact ho, ka⟩, by dsimp only; omega⟩
    | exact ⟨(k + 1, v29), (by repeat (first | exact Sub.nil _ | refine Sub.cons rfl ?_ | refine Sub.consM rfl ?_)), ⟨_, hO, h1, by rw [hps, ← List.append_assoc, List.flatMap_append, List.length_append]; exact ho, ka⟩, by dsimp only; omega⟩
  ·try simp only [tstS] at hc3
   have : k = T.length := by omega
   subst this
   refine WC.exit rfl ?_
   refine cseq <| cregion <| qq (Val.move rfl) rfl <| qq (Val.assign rfl) rfl <| cnil ?_
   refine WC.ret1 rfl rfl ?_
   exact ⟨hO.below, ho.fromOld hO (by decide)⟩
end Go.Proofs.Ytnddlhjafkhdoaa

namespace Silo
open Go Go.Eng
/-- How two texts compare. -/
def cmpS (a b : List UInt8) : Int := if Op.bytesLess a b then -1 else if a = b then 0 else 1
theorem cmpS_eq : ∀ a b : List UInt8, Lib.compareBytes a b = cmpS a b
  | [], [] => rfl
  | [], _ :: _ => rfl
  | _ :: _, [] => rfl
  | x :: a, y :: b => by
    unfold Lib.compareBytes
    rw [cmpS_eq a b]
    unfold cmpS
    simp only [Op.bytesLess]
    by_cases h : x < y
    · simp [h]
    · by_cases h2 : y < x
      · have hne : x ≠ y := fun e => by subst e; exact h h2
        simp [h, h2, hne]
      · have he : x = y := by
          rw [UInt8.not_lt] at h h2
          exact UInt8.le_antisymm h2 h
        subst he
        simp [h]
theorem cmpS_neg {a b : List UInt8} : (cmpS a b < 0) = (Op.bytesLess a b = true) := by
  unfold cmpS
  split
  · rename_i h; simp [h]
  · rename_i h
    split <;> simp [h]
theorem cmpS_zero {a b : List UInt8} : (cmpS a b = 0) = (a = b) := by
  unfold cmpS
  split
  · rename_i h
    have : a ≠ b := fun e => by subst e; rw [less_irrefl] at h; cases h
    simp [this]
  · split <;> simp_all
/-- How many come ahead. -/
def lowBy {α : Type} (p : α → Bool) (l : List α) : Nat := (l.takeWhile p).length
theorem lowBy_eq {α : Type} {p : α → Bool} : ∀ {l : List α} {i : Nat}, i ≤ l.length → (∀ k (hk : k < l.length), k < i → p l[k] = true) → (∀ hi : i < l.length, p l[i] = false) → lowBy p l = i
  | [], i, hi, _, _ => by simp at hi; subst hi; rfl
  | a :: r, 0, _, _, h2 => by
    have := h2 (by simp)
    simp only [List.getElem_cons_zero] at this
    simp [lowBy, List.takeWhile_cons, this]
  | a :: r, i + 1, hi, h1, h2 => by
    have h0 := h1 0 (by simp) (by omega)
    simp only [List.getElem_cons_zero] at h0
    have ih := lowBy_eq (p := p) (l := r) (i := i) (by simpa using hi) (fun k hk hki => by
      have := h1 (k + 1) (by simpa using hk) (by omega)
      simpa using this) (fun hi2 => by
      have := h2 (by simpa using hi2)
      simpa using this)
    simp only [lowBy, List.takeWhile_cons, h0, if_true, List.length_cons]
    unfold lowBy at ih
    omega
def lowT (T : List Thg) (d : List UInt8) : Nat := lowBy (fun t => Op.bytesLess t.digest d) T
theorem lowT_find {T : List Thg} (hr : RiseT T) {d : List UInt8} {i : Nat} (h : findT T d = some i) : lowT T d = i := by
  obtain ⟨hi, he⟩ := findT_some h
  refine lowBy_eq (by omega) (fun k hk hki => ?_) (fun _ => ?_)
  · have := hr k i hk hi hki
    rw [he] at this; exact this
  · rw [he]; exact less_irrefl d
/-- What a search by halves ends in. -/
theorem lowT_end {T : List Thg} (hr : RiseT T) {d : List UInt8} {i : Nat} (hi : i ≤ T.length) (h1 : ∀ k (hk : k < T.length), k < i → Op.bytesLess T[k].digest d = true) (h2 : ∀ k (hk : k < T.length), i ≤ k → Op.bytesLess T[k].digest d = false) :
    lowT T d = i ∧ (decide ((i : Int) < (T.length : Int)) && decide (((T[i]?.map Thg.digest).getD []) = d)) = (findT T d).isSome := by
  refine ⟨lowBy_eq hi h1 (fun h => h2 i h (Nat.le_refl _)), ?_⟩
  rcases Nat.lt_or_ge i T.length with h | h
  · rw [decide_eq_true (show (i : Int) < (T.length : Int) by omega), Bool.true_and, List.getElem?_eq_getElem h]
    simp only [Option.map_some, Option.getD_some]
    by_cases he : T[i].digest = d
    · rw [decide_eq_true he, findT_at hr h he]; rfl
    · rw [decide_eq_false he]
      cases hf : findT T d with
      | none => rfl
      | some j =>
        obtain ⟨hj, hd⟩ := findT_some hf
        exfalso
        rcases Nat.lt_trichotomy j i with hji | hji | hji
        · have := h1 j hj hji
          rw [hd, less_irrefl] at this; cases this
        · subst hji; exact he hd
        · have := hr i j h hj hji
          rw [hd] at this
          have h3 := h2 i h (Nat.le_refl _)
          unfold L at this
          rw [h3] at this; cases this
  · rw [decide_eq_false (show ¬ (i : Int) < (T.length : Int) by omega), Bool.false_and]
    cases hf : findT T d with
    | none => rfl
    | some j =>
      obtain ⟨hj, hd⟩ := findT_some hf
      have := h1 j hj (by omega)
      rw [hd, less_irrefl] at this; cases this
def idxS (l : List (List UInt8)) (d : List UInt8) : Int := match l.findIdx? (fun x => d == x) with | some i => (i : Int) | none => -1
theorem idxS_hit {l : List (List UInt8)} {d : List UInt8} {k : Nat} (hk : k < l.length) (h : ∀ i (hi : i < l.length), i < k → d ≠ l[i]) (he : d = l[k]) : idxS l d = k := by
  have : l.findIdx? (fun x => d == x) = some k := by
    rw [List.findIdx?_eq_some_iff_getElem]
    exact ⟨hk, by simpa using he, fun j hj => by simpa using h j (by omega) hj⟩
  rw [idxS, this]
theorem idxS_none {l : List (List UInt8)} {d : List UInt8} (h : ∀ i (hi : i < l.length), i < l.length → d ≠ l[i]) : idxS l d = -1 := by
  have : l.findIdx? (fun x => d == x) = none := by
    rw [List.findIdx?_eq_none_iff]
    intro x hx
    obtain ⟨i, hi, rfl⟩ := List.mem_iff_getElem.1 hx
    simpa using h i hi hi
  rw [idxS, this]
theorem idxS_contains (l : List (List UInt8)) (d : List UInt8) : decide (0 ≤ idxS l d) = l.contains d := by
  unfold idxS
  cases h : l.findIdx? (fun x => d == x) with
  | some i =>
    obtain ⟨hi, h1, _⟩ := List.findIdx?_eq_some_iff_getElem.1 h
    have : l.contains d = true := by rw [List.contains_iff_mem, show d = l[i] by simpa using h1]; exact List.getElem_mem hi
    rw [this]
    simp
  | none =>
    rw [List.findIdx?_eq_none_iff] at h
    cases hc : l.contains d with
    | false => rfl
    | true =>
      rw [List.contains_iff_mem] at hc
      have := h d hc
      simp at this
end Silo
namespace Go.Proofs.Ytnddlhjafkhdoaa
open Go Go.Eng Go.RowKit Silo TryT

theorem compare_ok {w : World} (a b : List UInt8) : Calls Try.prog 122 #[St a, St b] w (Ret fun v w' => Below w.heap.size w w' ∧ v = I (cmpS a b)) :=
  (Try.strings_Compare ⟨a.toArray⟩ ⟨b.toArray⟩ w).mono fun e w' he => by
    obtain ⟨rfl, rfl⟩ := he
    exact ⟨_, rfl, Below.refl _ _, by rw [cmpS_eq]⟩
theorem findCmp_ok {w : World} (t : Thg) (d : List UInt8) : Calls Try.prog 121 #[.agg (encThg t).toArray, St d] w (Ret fun v w' => Below w.heap.size w w' ∧ v = I (cmpS t.digest d)) := by
  have hK : Old w w := Old.refl w
  refine enter (n := 9) (res := #[.tmp 4]) Try.func121 rfl rfl rfl rfl ?_
  refine cseq <| cregion ?_
  refine WR.eff (Eff.box rfl) rfl ?_
  rintro _ w1 ⟨b2, rfl, hn2⟩
  have hk1 := hn2.below
  replace hK := hK.up hk1
  have hb2 := hn2.blk
  refine qq (Val.assign rfl) rfl <| cnil <| cseq <| cregion ?_
  first | refine WR.val (Val.fieldAddr fld62_0 rfl) rfl ?_ | refine WR.val (Val.fieldAddrP fld62_0 rfl) rfl ?_
  refine qq (Val.loadB scl9 rfl hb2 rfl) rfl <| qq (Val.move rfl) rfl ?_
  refine WR.eff (Eff.call pf122 rfl (compare_ok t.digest d)) rfl ?_
  rintro v8 w2 ⟨hk2, rfl⟩
  replace hK := hK.up hk2; replace hb2 := hb2.up hk2
  refine qq (Val.assign rfl) rfl <| cnil ?_
  refine WC.ret1 rfl rfl ?_
  exact ⟨hK, rfl⟩

set_option maxHeartbeats 1000000 in
theorem bsThg_ok {w : World} {v : Value} {T : List Thg} {d : List UInt8} (h1 : Rd thgS w v T) (hr : RiseT T) :
    Calls Try.prog 120 #[v, St d, .func (.func 121) #[] #[]] w (Ret fun v' w' => Below w.heap.size w w' ∧ v' = .tuple #[I (lowT T d : Nat), .bool (findT T d).isSome]) := by
  have hK : Old w w := Old.refl w
  have hsm := h1.small
  refine enter (n := 49) (res := #[.tmp 6, .tmp 7]) Try.func120 rfl rfl rfl rfl ?_
  refine cseq <| cregion <| qq (Val.assign rfl) rfl <| qq (Val.assign rfl) rfl <| cnil <| cseq <| cregion <| qq (Val.move rfl) rfl ?_
  first | refine WR.val (Val.rdlen sl52 (by assumption) rfl) rfl ?_ | refine WR.val (Val.sllen Try.underlying52 rfl) rfl ?_
  refine qq (Val.assign rfl) rfl <| cnil <| cseq <| cregion <| qq (Val.move rfl) rfl <| qq (Val.assign rfl) rfl <| qq (Val.assign rfl) rfl <| cnil <| cseq ?_
  refine cblock ?_
  refine WC.loop (σ := Nat × Nat) (fun st => [(0, v), (1, St d), (2, .func (.func 121) #[] #[]), (8, I T.length), (9, I st.1), (10, I st.2)]) (fun st w' => Rd thgS w' v T ∧ Old w w' ∧ st.1 ≤ st.2 ∧ st.2 ≤ T.length ∧ (∀ k (hk : k < T.length), k < st.1 → Op.bytesLess T[k].digest d = true) ∧ ∀ k (hk : k < T.length), st.2 ≤ k → Op.bytesLess T[k].digest d = false) (fun st => st.2 - st.1) (0, T.length) (by repeat (first | exact Sub.nil _ | refine Sub.cons rfl ?_ | refine Sub.consM rfl ?_)) ⟨h1, hK, by simp, by simp, fun k _ h => absurd h (Nat.not_lt_zero _), fun k hk h => by dsimp only at h; omega⟩ ?_
  clear h1 hK
  rintro ⟨i, j⟩ wl ⟨h1, hK, hij, hj, ha, hb⟩
  dsimp only at hij hj ha hb ⊢
  refine cseq <| cseq <| cregion <| qq (Val.move rfl) rfl <| qq (Val.move rfl) rfl <| qq (Val.lss rfl rfl) rfl <| cnil ?_
  refine WC.cond rfl (fun hc3 => ?_) (fun hc3 => ?_)
  ·try simp only [tstS] at hc3
   have kij : i < j := by omega
   refine cskip <| cblock <| cseq <| cregion <| qq (Val.move rfl) rfl <| qq (Val.move rfl) rfl <| qq (Val.addI rfl rfl (by first | omega | assumption | (simp; omega) | (simp; done)) (by first | omega | assumption | (simp; omega) | (simp; done))) rfl <| qq (Val.convToU64 Try.underlying3 Try.underlying109 rfl (by first | omega | assumption | (simp; omega) | (simp; done)) (by first | omega | assumption | (simp; omega) | (simp; done))) rfl <| qq (Val.shr rfl rfl (by first | omega | assumption | (simp; omega) | (simp; done)) (by simp [IntKind.bits] <;> omega)) rfl ?_
   refine qq (Val.convTo64 Try.underlying109 Try.underlying3 rfl (by first | omega | assumption | (simp; omega) | (simp; done)) (by first | omega | assumption | (simp; omega) | (simp; done))) rfl <| qq (Val.assign rfl) rfl <| cnil ?_
   have e4 : ((i : Int) + (j : Int)) / 2 ^ (1 : Int).toNat = ((i + j) / 2 : Nat) := by
     rw [show (2 : Int) ^ (1 : Int).toNat = 2 from rfl]; omega
   rw [e4]
   have hm : (i + j) / 2 < T.length := by omega
   have hmi : i ≤ (i + j) / 2 := by omega
   have hmj : (i + j) / 2 < j := by omega
   generalize (i + j) / 2 = h at hm hmi hmj ⊢
   obtain ⟨cs1, hc27, rfl, ok1⟩ := h1.el hm
   refine cseq <| cregion <| qq (Val.move rfl) rfl <| qq (Val.move rfl) rfl <| qq (Val.move rfl) rfl <| qq (Val.indexAddr sl52 (by assumption) rfl rfl rfl (by first | omega | assumption | (simp; omega) | (simp; done)) (by first | omega | assumption | (simp; omega) | (simp; done))) rfl <| qq (Val.loadE agg62 rfl hc27 rfl) rfl <| qq (Val.move rfl) rfl ?_
   refine WR.eff (Eff.callV rfl pf121 rfl (findCmp_ok T[h] d)) rfl ?_
   rintro v30 w1 ⟨hk1, rfl⟩
   replace h1 := h1.up hk1; replace hK := hK.up hk1; replace hc27 := hc27.up hk1
   refine qq (Val.lss rfl rfl) rfl <| cnil ?_
   refine WC.cond rfl (fun hc5 => ?_) (fun hc5 => ?_)
   ·try simp only [tstS] at hc5
    rw [cmpS_neg] at hc5
    have ha2 : ∀ k (hk : k < T.length), k < h + 1 → Op.bytesLess T[k].digest d = true := fun k hk hkh => by
      rcases Nat.lt_or_ge k h with h3 | h3
      · exact less_trans _ _ _ (hr k h hk hm h3) hc5
      · have : k = h := by omega
        subst this; exact hc5
    refine cregion <| qq (Val.move rfl) rfl <| qq (Val.addI rfl rfl (by first | omega | assumption | (simp; omega) | (simp; done)) (by first | omega | assumption | (simp; omega) | (simp; done))) rfl <| qq (Val.assign rfl) rfl <| cnil ?_
    first
    | exact ⟨(h + 1, j), (by repeat (first | exact Sub.nil _ | refine Sub.cons rfl ?_ | refine Sub.consM rfl ?_)), ⟨h1, hK, by dsimp only; omega, hj, ha2, hb⟩, by dsimp only; omega⟩
    | exact ⟨(i, h), (by repeat (first | exact Sub.nil _ | refine Sub.cons rfl ?_ | refine Sub.consM rfl ?_)), ⟨h1, hK, hmi, by dsimp only; omega, ha, hb2⟩, by dsimp only; omega⟩
   ·try simp only [tstS] at hc5
    rw [cmpS_neg, Bool.not_eq_true] at hc5
    have hb2 : ∀ k (hk : k < T.length), h ≤ k → Op.bytesLess T[k].digest d = false := fun k hk hkh => by
      rcases Nat.eq_or_lt_of_le hkh with h3 | h3
      · subst h3; exact hc5
      · cases hx : Op.bytesLess T[k].digest d with
        | false => rfl
        | true => rw [less_trans _ _ _ (hr h k hm hk h3) hx] at hc5; cases hc5
    refine cregion <| qq (Val.move rfl) rfl <| qq (Val.assign rfl) rfl <| cnil ?_
    first
    | exact ⟨(h + 1, j), (by repeat (first | exact Sub.nil _ | refine Sub.cons rfl ?_ | refine Sub.consM rfl ?_)), ⟨h1, hK, by dsimp only; omega, hj, ha2, hb⟩, by dsimp only; omega⟩
    | exact ⟨(i, h), (by repeat (first | exact Sub.nil _ | refine Sub.cons rfl ?_ | refine Sub.consM rfl ?_)), ⟨h1, hK, hmi, by dsimp only; omega, ha, hb2⟩, by dsimp only; omega⟩
  ·try simp only [tstS] at hc3
   have : i = j := by omega
   subst this
   obtain ⟨hl1, hl2⟩ := lowT_end hr hj ha hb
   refine WC.exit rfl ?_
   refine cseq <| cregion <| qq (Val.move rfl) rfl <| qq (Val.move rfl) rfl <| qq (Val.move rfl) rfl <| qq (Val.lss rfl rfl) rfl <| qq (Val.move rfl) rfl ?_
   apply WR.sc true 8 (decide (((T[i]?.map Thg.digest).getD []) = d)) (fun w' => Below wl.heap.size wl w')
   case hl => rfl
   case hg => rfl
   case hu => rfl
   case hv => rfl
   case hs => rfl
   case hoff => rfl
   case hd => rfl
   case hF => exact fun _ => Below.refl _ _
   case hT =>
    intro hq13
    try simp only [tstS] at hq13
    simp only [List.take_succ_cons, List.take_zero]
    have hi : i < T.length := by omega
    obtain ⟨cs1, hc43, rfl, ok1⟩ := h1.el hi
    have hget : ((T[i]?.map Thg.digest).getD []) = T[i].digest := by rw [List.getElem?_eq_getElem hi]; rfl
    have hKsc13 : Old wl wl := Old.refl _
    refine WR.on rfl rfl ?_
    refine qq (Val.move rfl) rfl ?_
    refine WR.on rfl rfl ?_
    refine qq (Val.move rfl) rfl ?_
    refine WR.on rfl rfl ?_
    refine qq (Val.move rfl) rfl ?_
    refine WR.on rfl rfl ?_
    refine qq (Val.indexAddr sl52 (by assumption) rfl rfl rfl (by first | omega | assumption | (simp; omega) | (simp; done)) (by first | omega | assumption | (simp; omega) | (simp; done))) rfl ?_
    refine WR.on rfl rfl ?_
    refine qq (Val.loadE agg62 rfl hc43 rfl) rfl ?_
    refine WR.on rfl rfl ?_
    refine qq (Val.move rfl) rfl ?_
    refine WR.on rfl rfl ?_
    refine WR.eff (Eff.callV rfl pf121 rfl (findCmp_ok T[i] d)) rfl ?_
    rintro v46 w2 ⟨hk2, rfl⟩
    replace h1 := h1.up hk2; replace hK := hK.up hk2; replace hc43 := hc43.up hk2; replace hKsc13 := hKsc13.up hk2
    refine WR.on rfl rfl ?_
    refine qq (Val.eql rfl rfl) rfl ?_
    exact WR.nil ⟨(by rw [hget]; simp only [look, cmpS_zero]; rfl), Sub.drop _ 8 _ rfl rfl, hKsc13⟩
   intro w3 hk3
   replace h1 := h1.up hk3; replace hK := hK.up hk3
   refine qq (Val.assign rfl) rfl <| qq (Val.assign rfl) rfl <| cnil ?_
   refine WC.ret2 rfl rfl rfl ?_
   exact ⟨hK, by rw [hl1, hl2]; rfl⟩

theorem rfind_ok {w : World} {v : Value} {T : List Thg} {d : List UInt8} (h1 : Rd thgS w v T) (hr : RiseT T) : Calls Try.prog 84 #[v, St d] w (Ret fun v' w' => Below w.heap.size w w' ∧ v' = .tuple #[I (lowT T d : Nat), .bool (findT T d).isSome]) := by
  have hK : Old w w := Old.refl w
  refine enter (n := 11) (res := #[.tmp 4, .tmp 5]) Try.func84 rfl rfl rfl rfl ?_
  refine cseq <| cregion <| qq (Val.assign rfl) rfl <| qq (Val.assign rfl) rfl <| cnil <| cseq <| cregion <| qq (Val.move rfl) rfl <| qq (Val.move rfl) rfl ?_
  refine WR.eff (Eff.call pf120 rfl (bsThg_ok h1 hr)) rfl ?_
  rintro v8 w1 ⟨hk1, rfl⟩
  replace h1 := h1.up hk1; replace hK := hK.up hk1
  refine qq (Val.extract rfl rfl) rfl <| qq (Val.extract rfl rfl) rfl <| qq (Val.assign rfl) rfl <| qq (Val.assign rfl) rfl <| cnil ?_
  refine WC.ret2 rfl rfl rfl ?_
  exact ⟨hK, rfl⟩

theorem index_ok {w : World} {v : Value} {l : List (List UInt8)} {d : List UInt8} (h1 : Rd strS w v l) : Calls Try.prog 140 #[v, St d] w (Ret fun v' w' => Below w.heap.size w w' ∧ v' = I (idxS l d)) := by
  have hK : Old w w := Old.refl w
  have hsm := h1.small
  refine enter (n := 19) (res := #[.tmp 4]) Try.func140 rfl rfl rfl rfl ?_
  refine cseq <| cregion <| qq (Val.assign rfl) rfl <| cnil <| cseq <| cseq <| cregion <| qq (Val.move rfl) rfl ?_
  first | refine WR.val (Val.rdlen sl23 (by assumption) rfl) rfl ?_ | refine WR.val (Val.sllen Try.underlying23 rfl) rfl ?_
  refine qq (Val.move rfl) rfl <| cnil <| cblock ?_
  refine WC.loop (σ := Nat) (fun k => [(0, v), (1, St d), (7, I l.length), (8, I k)]) (fun k w' => Rd strS w' v l ∧ Old w w' ∧ k ≤ l.length ∧ ∀ i (hi : i < l.length), i < k → d ≠ l[i]) (fun k => l.length - k) 0 (by repeat (first | exact Sub.nil _ | refine Sub.cons rfl ?_ | refine Sub.consM rfl ?_)) ⟨h1, hK, by omega, fun i hi h => absurd h (Nat.not_lt_zero _)⟩ ?_
  clear h1 hK
  rintro k wl ⟨h1, hK, hk, hd⟩
  refine cseq <| cregion <| qq (Val.lss rfl rfl) rfl <| cnil <| cseq ?_
  refine WC.cond rfl (fun hc2 => ?_) (fun hc2 => ?_)
  ·try simp only [tstS] at hc2
   have ka : k < l.length := by omega
   obtain ⟨cs1, hc14, rfl, ok1⟩ := h1.el ka
   refine cskip <| cseq <| cblock <| cseq <| cregion <| qq (Val.move rfl) rfl <| qq (Val.assign rfl) rfl <| cnil <| cseq ?_
   refine cregion <| qq (Val.move rfl) rfl <| qq (Val.move rfl) rfl <| qq (Val.move rfl) rfl <| qq (Val.indexAddr sl23 (by assumption) rfl rfl rfl (by first | omega | assumption | (simp; omega) | (simp; done)) (by first | omega | assumption | (simp; omega) | (simp; done))) rfl <| qq (Val.loadE1 scl9 rfl hc14) rfl <| qq (Val.seq_ rfl rfl) rfl <| cnil ?_
   refine WC.cond rfl (fun hc4 => ?_) (fun hc4 => ?_)
   ·try simp only [tstS] at hc4
    have he : d = l[k] := by simpa using hc4
    refine cseq <| cregion <| qq (Val.move rfl) rfl <| qq (Val.assign rfl) rfl <| cnil ?_
    refine WC.ret1 rfl rfl ?_
    exact ⟨hK, by rw [idxS_hit ka hd he]⟩
   ·try simp only [tstS] at hc4
    have he : d ≠ l[k] := by simpa using hc4
    refine cskip <| cregion <| qq (Val.addI rfl rfl (by first | omega | assumption | (simp; omega) | (simp; done)) (by first | omega | assumption | (simp; omega) | (simp; done))) rfl <| qq (Val.move rfl) rfl <| cnil ?_
    exact ⟨k + 1, (by repeat (first | exact Sub.nil _ | refine Sub.cons rfl ?_ | refine Sub.consM rfl ?_)), ⟨h1, hK, ka, fun i hi h => by
      rcases Nat.lt_or_ge i k with h2 | h2
      · exact hd i hi h2
      · have : i = k := by omega
        subst this; exact he⟩, by omega⟩
  ·try simp only [tstS] at hc2
   have : k = l.length := by omega
   subst this
   refine WC.exit rfl ?_
   refine cseq <| cregion <| qq (Val.assign rfl) rfl <| cnil ?_
   refine WC.ret1 rfl rfl ?_
   exact ⟨hK, by rw [idxS_none hd]⟩
theorem contains_ok {w : World} {v : Value} {l : List (List UInt8)} {d : List UInt8} (h1 : Rd strS w v l) : Calls Try.prog 123 #[v, St d] w (Ret fun v' w' => Below w.heap.size w w' ∧ v' = .bool (l.contains d)) := by
  have hK : Old w w := Old.refl w
  refine enter (n := 9) (res := #[.tmp 4]) Try.func123 rfl rfl rfl rfl ?_
  refine cseq <| cregion <| qq (Val.assign rfl) rfl <| cnil <| cseq <| cregion <| qq (Val.move rfl) rfl <| qq (Val.move rfl) rfl ?_
  refine WR.eff (Eff.call pf140 rfl (index_ok h1)) rfl ?_
  rintro v7 w1 ⟨hk1, rfl⟩
  replace h1 := h1.up hk1; replace hK := hK.up hk1
  refine qq (Val.geq rfl rfl) rfl <| qq (Val.assign rfl) rfl <| cnil ?_
  refine WC.ret1 rfl rfl ?_
  exact ⟨hK, by rw [← idxS_contains]⟩

theorem using_ok {w : World} {v : Value} {T : List Thg} {d : List UInt8} (h0 : Rd thgS w v T) (hb : ∀ t ∈ T, t.text.length ≤ 1048576) (hl : T.length ≤ 1048576) :
    Calls Try.prog 85 #[v, St d] w (Ret fun v' w' => Below w.heap.size w w' ∧ Own w' w.heap.size 9 1 v' (usersT T d).length ((usersT T d).flatMap fun x => [St x])) := by
  obtain ⟨c, hO, hc⟩ := OldC.start w
  have h1 : RdC thgS c w [0] v T := Rd.toC h0 (fun k hk => by simp [hc, hasC])
  clear hc h0
  refine enter (n := 25) (res := #[.tmp 4]) Try.func85 rfl rfl rfl rfl ?_
  refine cseq <| cregion <| qq (Val.assign rfl) rfl <| cnil <| cseq <| cregion <| qq (Val.assign rfl) rfl <| cnil <| cseq ?_
  refine cseq <| cregion <| qq (Val.move rfl) rfl ?_
  first | refine WR.val (Val.rdlen sl52 (by assumption) rfl) rfl ?_ | refine WR.val (Val.sllen Try.underlying52 rfl) rfl ?_ | refine WR.val (Val.olen sl52 (by assumption) rfl) rfl ?_ | refine WR.val (Val.rdlenC sl52 (by assumption) rfl) rfl ?_
  refine qq (Val.move rfl) rfl <| cnil <| cblock ?_
  refine WC.loop (σ := Nat × Value) (fun st => [(1, St d), (8, v), (9, I T.length), (5, st.2), (10, I st.1)]) (fun st w' => ∃ c', OldC w c' w' ∧ RdC thgS c' w' [0] v T ∧ OwnC c' w' 5 9 1 st.2 (usersT (T.take st.1) d).length ((usersT (T.take st.1) d).flatMap fun x => [St x]) ∧ st.1 ≤ T.length) (fun st => T.length - st.1) (0, .slice none 0 0) (by repeat (first | exact Sub.nil _ | refine Sub.cons rfl ?_ | refine Sub.consM rfl ?_)) ⟨_, hO, h1, OwnC.nil _ _ _ _ _, by simp⟩ ?_
  clear hO h1
  rintro ⟨k, vm⟩ wl ⟨cl, hO, h1, ho, hk⟩
  dsimp only at hO h1 ho hk ⊢
  have hpl := usersT_len (T.take k) d
  rw [List.length_take] at hpl
  refine cseq <| cregion <| qq (Val.lss rfl rfl) rfl <| cnil <| cseq ?_
  refine WC.cond rfl (fun hc3 => ?_) (fun hc3 => ?_)
  ·try simp only [tstS] at hc3
   have ka : k < T.length := by omega
   obtain ⟨hc12, ok1⟩ := RdC.elFlat h1 ka (by decide)
   have hps := usersT_succ (d := d) ka
   have hnl := namesT_len T[k]
   refine cskip <| cseq <| cblock <| cseq <| cregion ?_
   first | refine WR.val (Val.indexAddr sl52 (by assumption) rfl rfl rfl (by first | omega | assumption | (simp; omega) | (simp; done)) (by first | omega | assumption | (simp; omega) | (simp; done))) rfl ?_ | refine WR.val (Val.indexC sl52 (by assumption) rfl rfl (by first | omega | assumption | (simp; omega) | (simp; done)) (by first | omega | assumption | (simp; omega) | (simp; done))) rfl ?_ | refine WR.val (Val.indexO sl52 (by assumption) rfl rfl (by first | omega | assumption | (simp; omega) | (simp; done)) (by first | omega | assumption | (simp; omega) | (simp; done))) rfl ?_
   refine qq (Val.loadE agg62 rfl hc12.cel rfl) rfl ?_
   refine WR.eff (Eff.allocC cl 107 zero62) rfl ?_
   rintro _ w1 ⟨b7, c1, rfl, hM1, hb7⟩
   replace hO := hO.mv hM1 rfl; replace h1 := h1.mv hM1 rfl; replace ho := ho.mv hM1 rfl; replace hc12 := hc12.mv hM1 rfl
   refine WR.eff_ (Eff.storeNC agg62 rfl rfl hb7 rfl rfl (by repeat (first | exact List.forall_mem_nil _ | refine List.forall_mem_cons.2 ⟨by first | rfl | assumption, ?_⟩))) ?_
   rintro _ w2 ⟨hS, hM2⟩
   replace hO := hO.mv hM2 rfl; replace h1 := h1.mv hM2 rfl; replace ho := ho.mv hM2 rfl; replace hc12 := hc12.mv hM2 rfl
   replace hb7 := hS
   refine cnil <| cseq <| cregion <| qq (Val.loadBN agg62 rfl hb7.blk rfl) rfl ?_
   refine WR.eff (Eff.pureC c1 8 (Eff.call pf83 rfl (rnames_ok T[k] (hb _ (List.getElem_mem ka))))) rfl ?_
   rintro v15 w3 ⟨c3, hM3, hx3, hn⟩
   replace hO := hO.mv hM3 rfl; replace h1 := h1.mv hM3 rfl; replace ho := ho.mv hM3 rfl; replace hc12 := hc12.mv hM3 rfl; replace hb7 := hb7.mv hM3 rfl
   replace hn := hn.toC hx3
   refine qq (Val.move rfl) rfl ?_
   refine WR.eff (Eff.pureC c3 1 (Eff.call pf123 rfl (contains_ok (hn.own.rdStrs namesT_texts (by omega))))) rfl ?_
   rintro v17 w4 ⟨c4, hM4, hx4, rfl⟩
   replace hO := hO.mv hM4 rfl; replace h1 := h1.mv hM4 rfl; replace ho := ho.mv hM4 rfl; replace hc12 := hc12.mv hM4 rfl; replace hb7 := hb7.mv hM4 rfl; replace hn := hn.mv hM4 rfl
   refine cnil ?_
   refine WC.cond rfl (fun hc5 => ?_) (fun hc5 => ?_)
   ·try simp only [tstS] at hc5
    rw [if_pos hc5] at hps
    refine cregion <| qq (Val.move rfl) rfl ?_
    first | refine WR.val (Val.fieldAddr fld62_0 rfl) rfl ?_ | refine WR.val (Val.fieldAddrP fld62_0 rfl) rfl ?_
    refine qq (Val.loadB scl9 rfl hb7.blk rfl) rfl ?_
    refine WR.eff (Eff.build1C c4 121 sl23 rfl rfl rfl rfl rfl) rfl ?_
    rintro _ w5 ⟨b21, c5, rfl, hM5, hb21⟩
    replace hO := hO.mv hM5 rfl; replace h1 := h1.mv hM5 rfl; replace ho := ho.mv hM5 rfl; replace hc12 := hc12.mv hM5 rfl; replace hb7 := hb7.mv hM5 rfl; replace hn := hn.mv hM5 rfl
    refine WR.eff (Eff.appendC sl23 rfl rfl ho (Src.cellsAt Try.underlying23 hb21.blk.cellsAt rfl (by repeat (first | exact List.forall_mem_nil _ | refine List.forall_mem_cons.2 ⟨by first | rfl | assumption, ?_⟩))) (by rw [maxLen_eq]; first | omega | (simp; omega)) (by first | omega | (simp; omega))) rfl ?_
    rintro v22 w6 ⟨c6, hM6, hOq⟩
    clear hb21
    replace hO := hO.mv hM6 rfl; replace h1 := h1.mv hM6 rfl; replace hc12 := hc12.mv hM6 rfl; replace hb7 := hb7.mv hM6 rfl; replace hn := hn.mv hM6 rfl
    replace ho := hOq
    refine qq (Val.assign rfl) rfl <| cnil <| cregion <| qq (Val.addI rfl rfl (by first | omega | assumption | (simp; omega) | (simp; done)) (by first | omega | assumption | (simp; omega) | (simp; done))) rfl <| qq (Val.move rfl) rfl <| cnil ?_
    first
    | exact ⟨(k + 1, vm), (by repeat (first | exact Sub.nil _ | refine Sub.cons rfl ?_ | refine Sub.consM rfl ?_)), ⟨_, hO, h1, by rw [hps]; exact ho, ka⟩, by dsimp only; omega⟩
    | exact ⟨(k + 1, v22), (by repeat (first | exact Sub.nil _ | refine Sub.cons rfl ?_ | refine Sub.consM rfl ?_)), ⟨_, hO, h1, by rw [hps, List.flatMap_append, List.length_append]; exact ho, ka⟩, by dsimp only; omega⟩
   ·try simp only [tstS] at hc5
    rw [if_neg (by rw [hc5]; decide)] at hps
    refine cskip <| cregion <| qq (Val.addI rfl rfl (by first | omega | assumption | (simp; omega) | (simp; done)) (by first | omega | assumption | (simp; omega) | (simp; done))) rfl <| qq (Val.move rfl) rfl <| cnil ?_
    first
    | exact ⟨(k + 1, vm), (by repeat (first | exact Sub.nil _ | refine Sub.cons rfl ?_ | refine Sub.consM rfl ?_)), ⟨_, hO, h1, by rw [hps]; exact ho, ka⟩, by dsimp only; omega⟩
    | exact ⟨(k + 1, v22), (by repeat (first | exact Sub.nil _ | refine Sub.cons rfl ?_ | refine Sub.consM rfl ?_)), ⟨_, hO, h1, by rw [hps, List.flatMap_append, List.length_append]; exact ho, ka⟩, by dsimp only; omega⟩
  ·try simp only [tstS] at hc3
   have : k = T.length := by omega
   subst this
   rw [List.take_length] at ho
   refine WC.exit rfl ?_
   refine cseq <| cregion <| qq (Val.move rfl) rfl <| qq (Val.assign rfl) rfl <| cnil ?_
   refine WC.ret1 rfl rfl ?_
   exact ⟨hO.below, ho.fromOld hO (by decide)⟩
theorem rusers_ok {w : World} {v : Value} {T : List Thg} {d : List UInt8} (h1 : Rd thgS w v T) :
    Calls Try.prog 45 #[v, St d] w (Ret fun v' w' => Below w.heap.size w w' ∧ ∃ u, v' = .tuple #[u, I (if thgsMay T then 0 else 1)] ∧ Own w' w.heap.size 9 1 u (if thgsMay T then usersT T d else []).length ((if thgsMay T then usersT T d else []).flatMap fun x => [St x])) := by
  have hB : Below w.heap.size w w := Below.refl _ _
  obtain ⟨c, hO, hc⟩ := OldC.start w
  replace h1 : RdC thgS c w [0] v T := Rd.toC h1 (fun k hk => by simp [hc, hasC])
  clear hc
  refine enter (n := 12) (res := #[.tmp 4, .tmp 5]) Try.func45 rfl rfl rfl rfl ?_
  refine cseq <| cregion <| qq (Val.assign rfl) rfl <| qq (Val.assign rfl) rfl <| cnil <| cseq <| cseq <| cregion <| qq (Val.move rfl) rfl ?_
  refine WR.eff (Eff.pureC c 1 (Eff.call pf80 rfl (rmay_ok h1.now))) rfl ?_
  rintro v7 w1 ⟨c1, hM1, hx1, rfl⟩
  replace hO := hO.mv hM1 rfl; replace h1 := h1.mv hM1 rfl
  refine qq (Val.not rfl) rfl <| cnil ?_
  refine WC.cond rfl (fun hc1 => ?_) (fun hc1 => ?_)
  ·try simp only [tstS] at hc1
   refine cseq <| cregion <| qq (Val.assign rfl) rfl <| qq (Val.assign rfl) rfl <| cnil ?_
   refine WC.ret2 rfl rfl rfl ?_
   exact ⟨hO.below, _, by rw [hc1]; rfl, by rw [hc1]; exact Own.nil _ _ _ _⟩
  ·try simp only [tstS] at hc1
   have hb : ∀ t ∈ T, t.text.length ≤ 1048576 := fun t ht => by
     obtain ⟨i, hi, rfl⟩ := List.mem_iff_getElem.1 ht
     have := (thgsMay_at hc1 hi).2.1; omega
   have hl := thgsMay_len hc1
   refine cskip <| cseq <| cregion <| qq (Val.move rfl) rfl <| qq (Val.move rfl) rfl ?_
   refine WR.eff (Eff.pureC c1 7 (Eff.call pf85 rfl (using_ok h1.now hb (by omega)))) rfl ?_
   rintro v11 w2 ⟨c2, hM2, hx2, ho⟩
   replace hO := hO.mv hM2 rfl; replace h1 := h1.mv hM2 rfl
   replace ho := ho.toC hx2
   refine qq (Val.assign rfl) rfl <| qq (Val.assign rfl) rfl <| cnil ?_
   refine WC.ret2 rfl rfl rfl ?_
   exact ⟨hO.below, _, by rw [hc1]; rfl, by rw [hc1]; exact ho.fromOld hO (by decide)⟩

theorem pusers_ok {w : World} {v : Value} {T : List Thg} {d : List UInt8} (h0 : Rd thgS w v T) (hb : ∀ t ∈ T, t.text.length ≤ 1048576) (hl : T.length ≤ 1048576) :
    Calls Try.prog 51 #[v, St d] w (Ret fun v' w' => Below w.heap.size w w' ∧ Own w' w.heap.size 9 1 v' (usersT T d).length ((usersT T d).flatMap fun x => [St x])) := by
  obtain ⟨c, hO, hc⟩ := OldC.start w
  have h1 : RdC thgS c w [0] v T := Rd.toC h0 (fun k hk => by simp [hc, hasC])
  clear hc h0
  refine enter (n := 29) (res := #[.tmp 4]) Try.func51 rfl rfl rfl rfl ?_
  refine cseq <| cregion <| qq (Val.assign rfl) rfl <| cnil <| cseq <| cregion <| qq (Val.assign rfl) rfl <| cnil <| cseq ?_
  refine cseq <| cregion <| qq (Val.assign rfl) rfl <| cnil <| cblock ?_
  refine WC.loop (σ := Nat × Value) (fun st => [(0, v), (1, St d), (5, st.2), (6, I st.1)]) (fun st w' => ∃ c', OldC w c' w' ∧ RdC thgS c' w' [0] v T ∧ OwnC c' w' 5 9 1 st.2 (usersT (T.take st.1) d).length ((usersT (T.take st.1) d).flatMap fun x => [St x]) ∧ st.1 ≤ T.length) (fun st => T.length - st.1) (0, .slice none 0 0) (by repeat (first | exact Sub.nil _ | refine Sub.cons rfl ?_ | refine Sub.consM rfl ?_)) ⟨_, hO, h1, OwnC.nil _ _ _ _ _, by simp⟩ ?_
  clear hO h1
  rintro ⟨k, vm⟩ wl ⟨cl, hO, h1, ho, hk⟩
  dsimp only at hO h1 ho hk ⊢
  have hpl := usersT_len (T.take k) d
  rw [List.length_take] at hpl
  refine cseq <| cseq <| cregion <| qq (Val.move rfl) rfl <| qq (Val.move rfl) rfl ?_
  first | refine WR.val (Val.rdlen sl52 (by assumption) rfl) rfl ?_ | refine WR.val (Val.sllen Try.underlying52 rfl) rfl ?_ | refine WR.val (Val.olen sl52 (by assumption) rfl) rfl ?_ | refine WR.val (Val.rdlenC sl52 (by assumption) rfl) rfl ?_
  refine qq (Val.lss rfl rfl) rfl <| cnil ?_
  refine WC.cond rfl (fun hc3 => ?_) (fun hc3 => ?_)
  ·try simp only [tstS] at hc3
   have ka : k < T.length := by omega
   obtain ⟨hc15, ok1⟩ := RdC.elFlat h1 ka (by decide)
   have hps := usersT_succ (d := d) ka
   have hnl := namesT_len T[k]
   have hc23 := hc15
   refine cskip <| cseq <| cblock <| cseq <| cregion <| qq (Val.move rfl) rfl <| qq (Val.move rfl) rfl ?_
   first | refine WR.val (Val.indexAddr sl52 (by assumption) rfl rfl rfl (by first | omega | assumption | (simp; omega) | (simp; done)) (by first | omega | assumption | (simp; omega) | (simp; done))) rfl ?_ | refine WR.val (Val.indexC sl52 (by assumption) rfl rfl (by first | omega | assumption | (simp; omega) | (simp; done)) (by first | omega | assumption | (simp; omega) | (simp; done))) rfl ?_ | refine WR.val (Val.indexO sl52 (by assumption) rfl rfl (by first | omega | assumption | (simp; omega) | (simp; done)) (by first | omega | assumption | (simp; omega) | (simp; done))) rfl ?_
   refine qq (Val.loadE agg62 rfl hc15.cel rfl) rfl ?_
   refine WR.eff (Eff.pureC cl 8 (Eff.call pf40 rfl (named_ok T[k] (hb _ (List.getElem_mem ka))))) rfl ?_
   rintro v17 w1 ⟨c1, hM1, hx1, hn⟩
   replace hO := hO.mv hM1 rfl; replace h1 := h1.mv hM1 rfl; replace ho := ho.mv hM1 rfl; replace hc15 := hc15.mv hM1 rfl; replace hc23 := hc23.mv hM1 rfl
   replace hn := hn.toC hx1
   refine qq (Val.move rfl) rfl ?_
   refine WR.eff (Eff.pureC c1 1 (Eff.call pf39 rfl (zhas_ok (hn.own.rdStrs namesT_texts (by omega))))) rfl ?_
   rintro v19 w2 ⟨c2, hM2, hx2, rfl⟩
   replace hO := hO.mv hM2 rfl; replace h1 := h1.mv hM2 rfl; replace ho := ho.mv hM2 rfl; replace hc15 := hc15.mv hM2 rfl; replace hc23 := hc23.mv hM2 rfl; replace hn := hn.mv hM2 rfl
   refine cnil ?_
   refine WC.cond rfl (fun hc5 => ?_) (fun hc5 => ?_)
   ·try simp only [tstS] at hc5
    rw [if_pos hc5] at hps
    refine cregion <| qq (Val.move rfl) rfl <| qq (Val.move rfl) rfl <| qq (Val.move rfl) rfl ?_
    first | refine WR.val (Val.indexAddr sl52 (by assumption) rfl rfl rfl (by first | omega | assumption | (simp; omega) | (simp; done)) (by first | omega | assumption | (simp; omega) | (simp; done))) rfl ?_ | refine WR.val (Val.indexC sl52 (by assumption) rfl rfl (by first | omega | assumption | (simp; omega) | (simp; done)) (by first | omega | assumption | (simp; omega) | (simp; done))) rfl ?_ | refine WR.val (Val.indexO sl52 (by assumption) rfl rfl (by first | omega | assumption | (simp; omega) | (simp; done)) (by first | omega | assumption | (simp; omega) | (simp; done))) rfl ?_
    first | refine WR.val (Val.fieldAddr fld62_0 rfl) rfl ?_ | refine WR.val (Val.fieldAddrP fld62_0 rfl) rfl ?_
    refine qq (Val.loadEf scl9 rfl hc23.cel rfl) rfl ?_
    refine WR.eff (Eff.build1C c2 126 sl23 rfl rfl rfl rfl rfl) rfl ?_
    rintro _ w3 ⟨b26, c3, rfl, hM3, hb26⟩
    replace hO := hO.mv hM3 rfl; replace h1 := h1.mv hM3 rfl; replace ho := ho.mv hM3 rfl; replace hc15 := hc15.mv hM3 rfl; replace hc23 := hc23.mv hM3 rfl; replace hn := hn.mv hM3 rfl
    refine WR.eff (Eff.appendC sl23 rfl rfl ho (Src.cellsAt Try.underlying23 hb26.blk.cellsAt rfl (by repeat (first | exact List.forall_mem_nil _ | refine List.forall_mem_cons.2 ⟨by first | rfl | assumption, ?_⟩))) (by rw [maxLen_eq]; first | omega | (simp; omega)) (by first | omega | (simp; omega))) rfl ?_
    rintro v27 w4 ⟨c4, hM4, hOq⟩
    clear hb26
    replace hO := hO.mv hM4 rfl; replace h1 := h1.mv hM4 rfl; replace hc15 := hc15.mv hM4 rfl; replace hc23 := hc23.mv hM4 rfl; replace hn := hn.mv hM4 rfl
    replace ho := hOq
    refine qq (Val.assign rfl) rfl <| cnil <| cregion <| qq (Val.move rfl) rfl <| qq (Val.addI rfl rfl (by first | omega | assumption | (simp; omega) | (simp; done)) (by first | omega | assumption | (simp; omega) | (simp; done))) rfl <| qq (Val.assign rfl) rfl <| cnil ?_
    first
    | exact ⟨(k + 1, vm), (by repeat (first | exact Sub.nil _ | refine Sub.cons rfl ?_ | refine Sub.consM rfl ?_)), ⟨_, hO, h1, by rw [hps]; exact ho, ka⟩, by dsimp only; omega⟩
    | exact ⟨(k + 1, v27), (by repeat (first | exact Sub.nil _ | refine Sub.cons rfl ?_ | refine Sub.consM rfl ?_)), ⟨_, hO, h1, by rw [hps, List.flatMap_append, List.length_append]; exact ho, ka⟩, by dsimp only; omega⟩
   ·try simp only [tstS] at hc5
    rw [if_neg (by rw [hc5]; decide)] at hps
    refine cskip <| cregion <| qq (Val.move rfl) rfl <| qq (Val.addI rfl rfl (by first | omega | assumption | (simp; omega) | (simp; done)) (by first | omega | assumption | (simp; omega) | (simp; done))) rfl <| qq (Val.assign rfl) rfl <| cnil ?_
    first
    | exact ⟨(k + 1, vm), (by repeat (first | exact Sub.nil _ | refine Sub.cons rfl ?_ | refine Sub.consM rfl ?_)), ⟨_, hO, h1, by rw [hps]; exact ho, ka⟩, by dsimp only; omega⟩
    | exact ⟨(k + 1, v27), (by repeat (first | exact Sub.nil _ | refine Sub.cons rfl ?_ | refine Sub.consM rfl ?_)), ⟨_, hO, h1, by rw [hps, List.flatMap_append, List.length_append]; exact ho, ka⟩, by dsimp only; omega⟩
  ·try simp only [tstS] at hc3
   have : k = T.length := by omega
   subst this
   rw [List.take_length] at ho
   refine WC.exit rfl ?_
   refine cseq <| cregion <| qq (Val.move rfl) rfl <| qq (Val.assign rfl) rfl <| cnil ?_
   refine WC.ret1 rfl rfl ?_
   exact ⟨hO.below, ho.fromOld hO (by decide)⟩
end Go.Proofs.Ytnddlhjafkhdoaa

namespace Go.Proofs.Ytnddlhjafkhdoaa
open Go Go.Eng Go.RowKit Silo TryT

theorem mnum_ok {w : World} (e : Int) : Calls Try.prog 22 #[I e] w (Ret fun v w' => Below w.heap.size w w' ∧ v = I e) := by
  refine enter (n := 4) (res := #[.tmp 2]) Try.func22 rfl rfl rfl rfl ?_
  refine cseq <| cregion <| qq (Val.assign rfl) rfl <| cnil <| cseq <| cregion <| qq (Val.move rfl) rfl <| qq (Val.assign rfl) rfl <| cnil ?_
  refine WC.ret1 rfl rfl ?_
  exact ⟨Below.refl _ _, rfl⟩
theorem mwakes_ok {w : World} : Calls Try.prog 27 #[] w (Ret fun v w' => Below w.heap.size w w' ∧ v = .bool true) := by
  have hK : Old w w := Old.refl w
  refine enter (n := 15) (res := #[.tmp 0]) Try.func27 rfl rfl rfl rfl ?_
  refine cseq <| cregion <| qq (Val.assign rfl) rfl <| cnil <| cseq <| cregion <| qq (Val.build (cells := #[I 0, .slice none 0 0, .slice none 0 0]) rfl (by kernel_rfl)) rfl ?_
  refine WR.eff (Eff.call pf18 rfl (mbytes_ok (rdMan0 _))) rfl ?_
  rintro v5 w1 ⟨hk1, rfl⟩
  replace hK := hK.up hk1
  refine qq (Val.move rfl) rfl <| qq (Val.extract rfl rfl) rfl <| qq (Val.extract rfl rfl) rfl <| qq (Val.assign rfl) rfl <| qq (Val.assign rfl) rfl <| cnil ?_
  rw [show manMay man0 = true from rfl, show manBytes man0 = [77, 65, 78, 70, 0, 0, 0] from rfl]
  refine cseq <| cregion <| qq (Val.move rfl) rfl ?_
  refine WR.eff (Eff.call pf22 rfl (mnum_ok _)) rfl ?_
  rintro v9 w2 ⟨hk2, rfl⟩
  replace hK := hK.up hk2
  refine qq (Val.eql rfl rfl) rfl <| qq (Val.move rfl) rfl ?_
  apply WR.sc true 2 _ (fun w' => w2 = w')
  case hl => rfl
  case hg => rfl
  case hu => rfl
  case hv => rfl
  case hs => rfl
  case hoff => rfl
  case hd => rfl
  case hF => exact fun _ => rfl
  case hT =>
   intro hq6
   try simp only [tstS] at hq6
   simp only [List.take_succ_cons, List.take_zero]
   refine WR.on rfl rfl ?_
   refine qq (Val.move rfl) rfl ?_
   refine WR.on rfl rfl ?_
   refine qq (Val.seq_ rfl rfl) rfl ?_
   exact WR.nil ⟨rfl, Sub.drop _ 2 _ rfl rfl, rfl⟩
  rintro _ rfl
  refine qq (Val.assign rfl) rfl <| cnil ?_
  refine WC.ret1 rfl rfl ?_
  exact ⟨hK, rfl⟩

set_option maxHeartbeats 4000000 in
theorem manifestBytes_ok {w : World} {vM vT : Value} {L : List Man} {T : List (List UInt8)} (h1 : Rd manS w vM L) (h2 : Rd strS w vT T) :
    Calls Try.prog 3 #[.agg #[vM, vT]] w (Ret fun v w' => Below w.heap.size w w' ∧ v = .bool true) := by
  obtain ⟨A1, p1, rfl, _⟩ := h1.form
  obtain ⟨A2, p2, rfl, _⟩ := h2.form
  obtain ⟨vM, hvM⟩ : ∃ v, v = Value.slice A1 L.length p1 := ⟨_, rfl⟩
  obtain ⟨vT, hvT⟩ : ∃ v, v = Value.slice A2 T.length p2 := ⟨_, rfl⟩
  rw [← hvM] at h1 ⊢
  rw [← hvT] at h2 ⊢
  have o1 : vM.oneCell' = true := by rw [hvM]; rfl
  have o2 : vT.oneCell' = true := by rw [hvT]; rfl
  obtain ⟨c, hO, hc⟩ := OldC.start w
  replace h1 : RdC manS c w [0] vM L := Rd.toC h1 (fun k hk => by simp [hc, hasC])
  replace h2 : RdC strS c w [0] vT T := Rd.toC h2 (fun k hk => by simp [hc, hasC])
  clear hc hvM hvT
  refine enter (n := 158) (res := #[.tmp 2]) Try.func3 rfl rfl rfl rfl ?_
  refine cseq <| cregion ?_
  refine WR.eff (Eff.boxC c 101 rfl) rfl ?_
  rintro _ w1 ⟨b1, c1, rfl, hM1, hb1⟩
  replace hO := hO.mv hM1 rfl; replace h1 := h1.mv hM1 rfl; replace h2 := h2.mv hM1 rfl
  refine qq (Val.assign rfl) rfl <| cnil <| cseq <| cseq <| cregion <| qq (Val.loadBN agg25 rfl hb1.blk rfl) rfl ?_
  refine WR.eff (Eff.pureC c1 1 (Eff.call pf14 rfl (mheavy_ok h1.now h2.now))) rfl ?_
  rintro v20 w2 ⟨c2, hM2, hx2, rfl⟩
  replace hO := hO.mv hM2 rfl; replace h1 := h1.mv hM2 rfl; replace h2 := h2.mv hM2 rfl; replace hb1 := hb1.mv hM2 rfl
  refine cnil ?_
  refine WC.cond rfl (fun hc1 => ?_) (fun hc1 => ?_)
  ·try simp only [tstS] at hc1
   refine cseq <| cregion <| qq (Val.assign rfl) rfl <| cnil ?_
   refine WC.ret1 rfl rfl ?_
   exact ⟨hO.below, rfl⟩
  ·try simp only [tstS] at hc1
   obtain ⟨⟨ht1, ht2⟩, hlm⟩ := papers_light (L := L) (T := T) (by omega)
   refine cskip <| cseq <| cregion ?_
   first | refine WR.val (Val.fieldAddr fld25_1 rfl) rfl ?_ | refine WR.val (Val.fieldAddrP fld25_1 rfl) rfl ?_
   refine qq (Val.loadB scl23 rfl hb1.blk rfl) rfl ?_
   refine WR.eff (Eff.pureC c2 123 (Eff.call pf15 rfl (copyStrings_ok h2.now (by omega)))) rfl ?_
   rintro v23 w3 ⟨c3, hM3, hx3, ho23⟩
   replace hO := hO.mv hM3 rfl; replace h1 := h1.mv hM3 rfl; replace h2 := h2.mv hM3 rfl; replace hb1 := hb1.mv hM3 rfl
   replace ho23 := ho23.toC hx3
   refine qq (Val.assign rfl) rfl <| cnil <| cseq <| cseq <| cregion <| qq (Val.assign rfl) rfl <| cnil <| cblock ?_
   refine WC.loop (σ := Nat × Value × List (List UInt8)) (fun st => [(1, .pointer (some ⟨b1, 0, none⟩)), (3, st.2.1), (4, I st.1)]) (fun st w' => ∃ c', OldC w c' w' ∧ RdC manS c' w' [0] vM L ∧ BlkC c' w' 101 b1 [vM, vT] 25 ∧ OwnC c' w' 123 9 1 st.2.1 st.2.2.length (st.2.2.flatMap fun x => [St x]) ∧ st.1 ≤ L.length ∧ st.1 ≤ 6 ∧ st.2.2.length ≤ 6000 + 3 * st.1 ∧ ∀ x ∈ st.2.2, x.length ≤ 7000) (fun st => L.length - st.1) (0, v23, T) (by repeat (first | exact Sub.nil _ | refine Sub.cons rfl ?_ | refine Sub.consM rfl ?_)) ⟨_, hO, h1, hb1, ho23, by simp, by simp, by dsimp only; omega, fun x hx => by have := ht2 x hx; omega⟩ ?_
   clear hO h1 h2 hb1 ho23
   rintro ⟨i, vt, texts⟩ wl ⟨cl, hO, h1, hb1, ho, hi, hi6, htl, htx⟩
   dsimp only at hO h1 hb1 ho hi hi6 htl htx ⊢
   have hsm := h1.now.small
   refine cseq <| cseq <| cregion <| qq (Val.move rfl) rfl ?_
   first | refine WR.val (Val.fieldAddr fld25_0 rfl) rfl ?_ | refine WR.val (Val.fieldAddrP fld25_0 rfl) rfl ?_
   refine qq (Val.loadB scl22 rfl hb1.blk rfl) rfl ?_
   first | refine WR.val (Val.rdlen sl22 (by assumption) rfl) rfl ?_ | refine WR.val (Val.sllen Try.underlying22 rfl) rfl ?_ | refine WR.val (Val.olen sl22 (by assumption) rfl) rfl ?_ | refine WR.val (Val.rdlenC sl22 (by assumption) rfl) rfl ?_
   refine qq (Val.lss rfl rfl) rfl <| qq (Val.move rfl) rfl ?_
   apply WR.sc true 2 _ (fun w' => wl = w')
   case hl => rfl
   case hg => rfl
   case hu => rfl
   case hv => rfl
   case hs => rfl
   case hoff => rfl
   case hd => rfl
   case hF => exact fun _ => rfl
   case hT =>
    intro hq8
    try simp only [tstS] at hq8
    simp only [List.take_succ_cons, List.take_zero]
    refine WR.on rfl rfl ?_
    refine qq (Val.move rfl) rfl ?_
    refine WR.on rfl rfl ?_
    refine qq (Val.lss rfl rfl) rfl ?_
    exact WR.nil ⟨rfl, Sub.drop _ 2 _ rfl rfl, rfl⟩
   rintro _ rfl
   refine cnil ?_
   refine WC.cond rfl (fun hc5 => ?_) (fun hc5 => ?_)
   ·try simp only [tstS] at hc5
    obtain ⟨hc5, hc5'⟩ := hc5
    have ka : i < L.length := by omega
    obtain ⟨cs1, hc110, hl1, hf1⟩ := h1.el ka (by decide)
    obtain ⟨hlb, hls⟩ := hlm _ (List.getElem_mem ka)
    refine cskip <| cseq <| cblock <| cseq <| cregion ?_
    first | refine WR.val (Val.fieldAddr fld25_0 rfl) rfl ?_ | refine WR.val (Val.fieldAddrP fld25_0 rfl) rfl ?_
    refine qq (Val.loadB scl22 rfl hb1.blk rfl) rfl <| qq (Val.move rfl) rfl ?_
    first | refine WR.val (Val.indexAddr sl22 (by assumption) rfl rfl rfl (by first | omega | assumption | (simp; omega) | (simp; done)) (by first | omega | assumption | (simp; omega) | (simp; done))) rfl ?_ | refine WR.val (Val.indexC sl22 (by assumption) rfl rfl (by first | omega | assumption | (simp; omega) | (simp; done)) (by first | omega | assumption | (simp; omega) | (simp; done))) rfl ?_ | refine WR.val (Val.indexO sl22 (by assumption) rfl rfl (by first | omega | assumption | (simp; omega) | (simp; done)) (by first | omega | assumption | (simp; omega) | (simp; done))) rfl ?_
    refine qq (Val.loadE agg29 rfl hc110.cel hl1) rfl ?_
    refine WR.eff (Eff.pureC cl 7 (Eff.call pf16 rfl (copyManifest_ok hf1.now (by omega) (by omega)))) rfl ?_
    rintro v40 w4 ⟨c4, hM4, hx4, ⟨vl, vs, rfl, hol, hos⟩⟩
    replace hO := hO.mv hM4 rfl; replace h1 := h1.mv hM4 rfl; replace hb1 := hb1.mv hM4 rfl; replace ho := ho.mv hM4 rfl; replace hc110 := hc110.mv hM4 rfl; replace hf1 := hf1.mv hM4 rfl
    replace hol := hol.toC hx4
    replace hos := hos.toC hx4
    have cl' := hol.cellsV; have ol' := hol.oneC; have cs' := hos.cellsV; have os' := hos.oneC
    have hrm : ∀ (cc : Nat → Nat) (W : World), OwnC cc W 7 9 1 vl L[i].blobs.length (L[i].blobs.flatMap fun x => [St x]) → OwnC cc W 7 9 1 vs L[i].subs.length (L[i].subs.flatMap fun x => [St x]) → RdMan W [I L[i].kind, vl, vs] L[i] := by
      obtain ⟨_, _, _, hq1, hq2, hq3⟩ := hf1.now
      exact fun _ _ h3 h4 => ⟨vl, vs, rfl, h3.own.rdStrs hq1.okFlat hq1.small, h4.own.rdStrs hq2.okFlat hq2.small, hq3⟩
    refine WR.eff (Eff.allocC c4 105 zero29) rfl ?_
    rintro _ w5 ⟨b5, c5, rfl, hM5, hb5⟩
    replace hO := hO.mv hM5 rfl; replace h1 := h1.mv hM5 rfl; replace hb1 := hb1.mv hM5 rfl; replace ho := ho.mv hM5 rfl; replace hc110 := hc110.mv hM5 rfl; replace hf1 := hf1.mv hM5 rfl; replace hol := hol.mv hM5 rfl; replace hos := hos.mv hM5 rfl
    refine WR.eff_ (Eff.storeNC agg29 rfl rfl hb5 rfl rfl (by repeat (first | exact List.forall_mem_nil _ | refine List.forall_mem_cons.2 ⟨by first | rfl | assumption, ?_⟩))) ?_
    rintro _ w6 ⟨hS, hM6⟩
    replace hO := hO.mv hM6 rfl; replace h1 := h1.mv hM6 rfl; replace hb1 := hb1.mv hM6 rfl; replace ho := ho.mv hM6 rfl; replace hc110 := hc110.mv hM6 rfl; replace hf1 := hf1.mv hM6 rfl; replace hol := hol.mv hM6 rfl; replace hos := hos.mv hM6 rfl
    replace hb5 := hS
    refine cnil <| cseq <| cregion ?_
    first | refine WR.val (Val.fieldAddr fld25_0 rfl) rfl ?_ | refine WR.val (Val.fieldAddrP fld25_0 rfl) rfl ?_
    refine qq (Val.loadB scl22 rfl hb1.blk rfl) rfl <| qq (Val.move rfl) rfl ?_
    first | refine WR.val (Val.indexAddr sl22 (by assumption) rfl rfl rfl (by first | omega | assumption | (simp; omega) | (simp; done)) (by first | omega | assumption | (simp; omega) | (simp; done))) rfl ?_ | refine WR.val (Val.indexC sl22 (by assumption) rfl rfl (by first | omega | assumption | (simp; omega) | (simp; done)) (by first | omega | assumption | (simp; omega) | (simp; done))) rfl ?_ | refine WR.val (Val.indexO sl22 (by assumption) rfl rfl (by first | omega | assumption | (simp; omega) | (simp; done)) (by first | omega | assumption | (simp; omega) | (simp; done))) rfl ?_
    refine qq (Val.loadE agg29 rfl hc110.cel hl1) rfl ?_
    refine WR.eff (Eff.pureC c5 1 (Eff.call pf17 rfl (pman_ok hf1.now))) rfl ?_
    rintro v46 w7 ⟨c7, hM7, hx7, rfl⟩
    replace hO := hO.mv hM7 rfl; replace h1 := h1.mv hM7 rfl; replace hb1 := hb1.mv hM7 rfl; replace ho := ho.mv hM7 rfl; replace hc110 := hc110.mv hM7 rfl; replace hf1 := hf1.mv hM7 rfl; replace hol := hol.mv hM7 rfl; replace hos := hos.mv hM7 rfl; replace hb5 := hb5.mv hM7 rfl
    refine qq (Val.assign rfl) rfl <| cnil <| cseq <| cregion <| qq (Val.loadBN agg29 rfl hb5.blk rfl) rfl ?_
    refine WR.eff (Eff.pureC c7 1 (Eff.call pf18 rfl (mbytes_ok (hrm _ _ hol hos)))) rfl ?_
    rintro v49 w8 ⟨c8, hM8, hx8, rfl⟩
    replace hO := hO.mv hM8 rfl; replace h1 := h1.mv hM8 rfl; replace hb1 := hb1.mv hM8 rfl; replace ho := ho.mv hM8 rfl; replace hc110 := hc110.mv hM8 rfl; replace hf1 := hf1.mv hM8 rfl; replace hol := hol.mv hM8 rfl; replace hos := hos.mv hM8 rfl; replace hb5 := hb5.mv hM8 rfl
    refine qq (Val.move rfl) rfl <| qq (Val.extract rfl rfl) rfl <| qq (Val.extract rfl rfl) rfl <| qq (Val.assign rfl) rfl <| qq (Val.assign rfl) rfl <| cnil <| cseq <| cregion <| qq (Val.loadBN agg29 rfl hb5.blk rfl) rfl ?_
    refine WR.eff (Eff.pureC c8 1 (Eff.call pf19 rfl (mname_ok (hrm _ _ hol hos)))) rfl ?_
    rintro v54 w9 ⟨c9, hM9, hx9, rfl⟩
    replace hO := hO.mv hM9 rfl; replace h1 := h1.mv hM9 rfl; replace hb1 := hb1.mv hM9 rfl; replace ho := ho.mv hM9 rfl; replace hc110 := hc110.mv hM9 rfl; replace hf1 := hf1.mv hM9 rfl; replace hol := hol.mv hM9 rfl; replace hos := hos.mv hM9 rfl; replace hb5 := hb5.mv hM9 rfl
    refine qq (Val.move rfl) rfl <| qq (Val.extract rfl rfl) rfl <| qq (Val.extract rfl rfl) rfl <| qq (Val.assign rfl) rfl <| qq (Val.assign rfl) rfl <| cnil <| cseq <| cregion <| qq (Val.assign rfl) rfl ?_
    refine qq (Val.assign rfl) rfl <| qq (Val.assign rfl) rfl <| cnil <| cseq <| cseq <| cregion <| qq (Val.move rfl) rfl <| cnil ?_
    refine WC.cond rfl (fun hc12 => ?_) (fun hc12 => ?_)
    ·try simp only [tstS] at hc12
     have hml := manBytes_len hc12
     have hm20 := ((manMay_iff L[i]).1 hc12).2.1
     rw [hc12]
     rw [if_pos rfl, if_pos rfl, if_pos rfl]
     refine cseq <| cregion ?_
     first | refine WR.val (Val.fieldAddr fld25_0 rfl) rfl ?_ | refine WR.val (Val.fieldAddrP fld25_0 rfl) rfl ?_
     refine qq (Val.loadB scl22 rfl hb1.blk rfl) rfl <| qq (Val.move rfl) rfl ?_
     first | refine WR.val (Val.indexAddr sl22 (by assumption) rfl rfl rfl (by first | omega | assumption | (simp; omega) | (simp; done)) (by first | omega | assumption | (simp; omega) | (simp; done))) rfl ?_ | refine WR.val (Val.indexC sl22 (by assumption) rfl rfl (by first | omega | assumption | (simp; omega) | (simp; done)) (by first | omega | assumption | (simp; omega) | (simp; done))) rfl ?_ | refine WR.val (Val.indexO sl22 (by assumption) rfl rfl (by first | omega | assumption | (simp; omega) | (simp; done)) (by first | omega | assumption | (simp; omega) | (simp; done))) rfl ?_
     refine qq (Val.loadE agg29 rfl hc110.cel hl1) rfl ?_
     refine WR.eff (Eff.pureC c9 1 (Eff.call pf20 rfl (pmbytes_ok hf1.now hc12))) rfl ?_
     rintro v63 w10 ⟨c10, hM10, hx10, rfl⟩
     replace hO := hO.mv hM10 rfl; replace h1 := h1.mv hM10 rfl; replace hb1 := hb1.mv hM10 rfl; replace ho := ho.mv hM10 rfl; replace hc110 := hc110.mv hM10 rfl; replace hf1 := hf1.mv hM10 rfl; replace hol := hol.mv hM10 rfl; replace hos := hos.mv hM10 rfl; replace hb5 := hb5.mv hM10 rfl
     refine qq (Val.assign rfl) rfl <| qq (Val.assign rfl) rfl <| cnil <| cseq <| cregion <| qq (Val.move rfl) rfl ?_
     refine WR.eff (Eff.pureC c10 1 (Eff.call pf21 rfl (pdigest_ok (manBytes L[i]) (by omega)))) rfl ?_
     rintro v65 w11 ⟨c11, hM11, hx11, rfl⟩
     replace hO := hO.mv hM11 rfl; replace h1 := h1.mv hM11 rfl; replace hb1 := hb1.mv hM11 rfl; replace ho := ho.mv hM11 rfl; replace hc110 := hc110.mv hM11 rfl; replace hf1 := hf1.mv hM11 rfl; replace hol := hol.mv hM11 rfl; replace hos := hos.mv hM11 rfl; replace hb5 := hb5.mv hM11 rfl
     refine qq (Val.assign rfl) rfl <| cnil <| cregion <| qq (Val.move rfl) rfl <| qq (Val.move rfl) rfl <| qq (Val.move rfl) rfl <| qq (Val.sadd rfl rfl (by first | omega | assumption | (simp; omega) | (simp; done))) rfl <| qq (Val.move rfl) rfl <| qq (Val.move rfl) rfl ?_
     refine qq (Val.slen Try.underlying9 rfl) rfl <| qq (Val.subI rfl rfl (by first | omega | assumption | (simp; omega) | (simp; done)) (by first | omega | assumption | (simp; omega) | (simp; done))) rfl <| qq (Val.ssliceTo Try.underlying9 rfl rfl (by omega) (by omega)) rfl ?_
     refine WR.eff (Eff.buildC c11 175 sl23 rfl rfl rfl (by simp [Value.cells]) rfl rfl) rfl ?_
     rintro _ w12 ⟨b75, c12, rfl, hM12, hb75⟩
     replace hO := hO.mv hM12 rfl; replace h1 := h1.mv hM12 rfl; replace hb1 := hb1.mv hM12 rfl; replace ho := ho.mv hM12 rfl; replace hc110 := hc110.mv hM12 rfl; replace hf1 := hf1.mv hM12 rfl; replace hol := hol.mv hM12 rfl; replace hos := hos.mv hM12 rfl; replace hb5 := hb5.mv hM12 rfl
     refine WR.eff (Eff.appendC sl23 rfl rfl ho (Src.cellsAt Try.underlying23 hb75.blk.cellsAt rfl (by repeat (first | exact List.forall_mem_nil _ | refine List.forall_mem_cons.2 ⟨by first | rfl | assumption, ?_⟩))) (by rw [maxLen_eq]; first | omega | (simp; omega)) (by first | omega | (simp; omega))) rfl ?_
     rintro v76 w13 ⟨c13, hM13, hOq⟩
     clear hb75
     replace hO := hO.mv hM13 rfl; replace h1 := h1.mv hM13 rfl; replace hb1 := hb1.mv hM13 rfl; replace hc110 := hc110.mv hM13 rfl; replace hf1 := hf1.mv hM13 rfl; replace hol := hol.mv hM13 rfl; replace hos := hos.mv hM13 rfl; replace hb5 := hb5.mv hM13 rfl
     replace ho := hOq
     have e1 : texts.flatMap (fun x => [St x]) ++ [St (manBytes L[i]), St (manBytes L[i] ++ [120]), St ((manBytes L[i]).take (((manBytes L[i]).length : Int) - 1).toNat)] = (texts ++ [manBytes L[i], manBytes L[i] ++ [120], (manBytes L[i]).take (((manBytes L[i]).length : Int) - 1).toNat]).flatMap (fun x => [St x]) := by rw [List.flatMap_append]; rfl
     replace ho : OwnC _ _ 123 9 1 _ (texts.length + 3) (texts.flatMap (fun x => [St x]) ++ [St (manBytes L[i]), St (manBytes L[i] ++ [120]), St ((manBytes L[i]).take (((manBytes L[i]).length : Int) - 1).toNat)]) := ho
     have e2 : texts.length + 3 = (texts ++ [manBytes L[i], manBytes L[i] ++ [120], (manBytes L[i]).take (((manBytes L[i]).length : Int) - 1).toNat]).length := by simp
     rw [e1, e2] at ho
     have htx2 : ∀ x ∈ texts ++ [manBytes L[i], manBytes L[i] ++ [120], (manBytes L[i]).take (((manBytes L[i]).length : Int) - 1).toNat], x.length ≤ 7000 := fun x hx => by
       rcases List.mem_append.1 hx with hx | hx
       · exact htx x hx
       · simp at hx; rcases hx with rfl | rfl | rfl
         · omega
         · simp only [List.length_append, List.length_singleton]; omega
         · simp only [List.length_take]; omega
     clear e1
     generalize texts ++ [manBytes L[i], manBytes L[i] ++ [120], (manBytes L[i]).take (((manBytes L[i]).length : Int) - 1).toNat] = texts2 at ho e2 htx2
     refine qq (Val.assign rfl) rfl <| cnil <| cseq ?_
     refine WC.regionD (Kp c13 w13 []) [1, 2, 2, 0, 0, 0, 0, 0, 2, 0, 0, 0, 0, 0, 2, 0, 0, 0, 0, 0, 0, 0, 0, 0, 0, 0, 0, 0, 0, 1, 0, 1, 0, 0, 1, 2, 0, 0] [0, 4, 1, 2, 3, 5, 6, 7, 9, 8, 10, 11, 12, 13, 15, 14, 16, 17, 18, 19, 20, 21, 22, 23, 24, 25, 26, 27, 28, 29, 30, 31, 32, 33, 34, 35, 36, 37] mixed (by kernel_rfl) ?_
     have hM14 := Mv.drew c13 w13 []
     have hCw := Mv.drew c13 w13 []
     generalize w13.drew = w14 at hM14 hCw ⊢
     have hb10 := hb1
     have hb50 := hb5
     have hc1100 := hc110
     replace hO := hO.mv hM14 rfl; replace h1 := h1.mv hM14 rfl; replace hb1 := hb1.mv hM14 rfl; replace ho := ho.mv hM14 rfl; replace hc110 := hc110.mv hM14 rfl; replace hf1 := hf1.mv hM14 rfl; replace hol := hol.mv hM14 rfl; replace hos := hos.mv hM14 rfl; replace hb5 := hb5.mv hM14 rfl
     refine qc rfl rfl rfl hCw.kp (fun W hW => Val.loadBN agg29 rfl (hb50.kp hW rfl).blk rfl) rfl <| qd rfl rfl rfl (fun _ => Val.move rfl) rfl ?_
     refine WD.eff rfl rfl rfl (Eff.pureC c13 1 (Eff.call pf23 rfl (mcheck_ok (hrm _ _ hol hos)))) rfl ?_
     rintro v78 w15 ⟨c15, hM15, hx15, rfl⟩
     refine ⟨fun hC => hC.step hCw hM15 rfl, ?_⟩
     replace hCw := hCw.tr hM15 rfl
     replace hO := hO.mv hM15 rfl; replace h1 := h1.mv hM15 rfl; replace hb1 := hb1.mv hM15 rfl; replace ho := ho.mv hM15 rfl; replace hc110 := hc110.mv hM15 rfl; replace hf1 := hf1.mv hM15 rfl; replace hol := hol.mv hM15 rfl; replace hos := hos.mv hM15 rfl; replace hb5 := hb5.mv hM15 rfl
     rw [hc12]
     refine WD.eff rfl rfl rfl (Eff.pureC c15 1 (Eff.call pf22 rfl (mnum_ok _))) rfl ?_
     rintro v79 w16 ⟨c16, hM16, hx16, rfl⟩
     refine ⟨fun hC => hC.step hCw hM16 rfl, ?_⟩
     replace hCw := hCw.tr hM16 rfl
     replace hO := hO.mv hM16 rfl; replace h1 := h1.mv hM16 rfl; replace hb1 := hb1.mv hM16 rfl; replace ho := ho.mv hM16 rfl; replace hc110 := hc110.mv hM16 rfl; replace hf1 := hf1.mv hM16 rfl; replace hol := hol.mv hM16 rfl; replace hos := hos.mv hM16 rfl; replace hb5 := hb5.mv hM16 rfl
     refine qd rfl rfl rfl (fun _ => Val.eql rfl rfl) rfl <| qd rfl rfl rfl (fun _ => Val.bneq Try.underlying4 rfl rfl) rfl <| qd rfl rfl rfl (fun _ => Val.move rfl) rfl <| qd rfl rfl rfl (fun _ => Val.move rfl) rfl <| qd rfl rfl rfl (fun _ => Val.move rfl) rfl ?_
     refine WD.eff rfl rfl rfl (Eff.pureC c16 1 (Eff.call pf22 rfl (mnum_ok _))) rfl ?_
     rintro v85 w17 ⟨c17, hM17, hx17, rfl⟩
     refine ⟨fun hC => hC.step hCw hM17 rfl, ?_⟩
     replace hCw := hCw.tr hM17 rfl
     replace hO := hO.mv hM17 rfl; replace h1 := h1.mv hM17 rfl; replace hb1 := hb1.mv hM17 rfl; replace ho := ho.mv hM17 rfl; replace hc110 := hc110.mv hM17 rfl; replace hf1 := hf1.mv hM17 rfl; replace hol := hol.mv hM17 rfl; replace hos := hos.mv hM17 rfl; replace hb5 := hb5.mv hM17 rfl
     refine qd rfl rfl rfl (fun _ => Val.neq rfl rfl) rfl <| qd rfl rfl rfl (fun _ => Val.pick rfl rfl) rfl <| qd rfl rfl rfl (fun _ => Val.move rfl) rfl <| qd rfl rfl rfl (fun _ => Val.move rfl) rfl <| qd rfl rfl rfl (fun _ => Val.move rfl) rfl ?_
     refine WD.eff rfl rfl rfl (Eff.pureC c17 1 (Eff.call pf22 rfl (mnum_ok _))) rfl ?_
     rintro v91 w18 ⟨c18, hM18, hx18, rfl⟩
     refine ⟨fun hC => hC.step hCw hM18 rfl, ?_⟩
     replace hCw := hCw.tr hM18 rfl
     replace hO := hO.mv hM18 rfl; replace h1 := h1.mv hM18 rfl; replace hb1 := hb1.mv hM18 rfl; replace ho := ho.mv hM18 rfl; replace hc110 := hc110.mv hM18 rfl; replace hf1 := hf1.mv hM18 rfl; replace hol := hol.mv hM18 rfl; replace hos := hos.mv hM18 rfl; replace hb5 := hb5.mv hM18 rfl
     refine qd rfl rfl rfl (fun _ => Val.neq rfl rfl) rfl <| qd rfl rfl rfl (fun _ => Val.pick rfl rfl) rfl <| qd rfl rfl rfl (fun _ => Val.move rfl) rfl <| qd rfl rfl rfl (fun _ => Val.move rfl) rfl <| qd rfl rfl rfl (fun _ => Val.move rfl) rfl <| qd rfl rfl rfl (fun _ => Val.sne rfl rfl) rfl ?_
     try rw [sne_self]
     refine qd rfl rfl rfl (fun _ => Val.pick rfl rfl) rfl <| qd rfl rfl rfl (fun _ => Val.move rfl) rfl <| qd rfl rfl rfl (fun _ => Val.move rfl) rfl <| qd rfl rfl rfl (fun _ => Val.move rfl) rfl <| qd rfl rfl rfl (fun _ => Val.sne rfl rfl) rfl ?_
     try rw [sne_self]
     refine qd rfl rfl rfl (fun _ => Val.pick rfl rfl) rfl <| qd rfl rfl rfl (fun _ => Val.move rfl) rfl <| qc rfl rfl rfl hCw.kp (fun W hW => Val.loadBN agg29 rfl (hb50.kp hW rfl).blk rfl) rfl ?_
     first | refine WD.val rfl rfl rfl (fun _ => Val.fieldAddr fld25_0 rfl) rfl ?_ | refine WD.val rfl rfl rfl (fun _ => Val.fieldAddrP fld25_0 rfl) rfl ?_
     refine qc rfl rfl rfl hCw.kp (fun W hW => Val.loadB scl22 rfl (hb10.kp hW rfl).blk rfl) rfl <| qd rfl rfl rfl (fun _ => Val.move rfl) rfl <| qd rfl rfl rfl (fun _ => Val.indexAddr sl22 h1.now rfl rfl rfl (by omega) (by omega)) rfl <| qc rfl rfl rfl hCw.kp (fun W hW => Val.loadE agg29 rfl (hc1100.kp hW rfl).cel hl1) rfl ?_
     refine WD.eff rfl rfl rfl (Eff.pureC c18 1 (Eff.call pf24 rfl (eqManifest_ok (hrm _ _ hol hos) hf1.now))) rfl ?_
     rintro v112 w19 ⟨c19, hM19, hx19, rfl⟩
     refine ⟨fun hC => hC.step hCw hM19 rfl, ?_⟩
     replace hCw := hCw.tr hM19 rfl
     replace hO := hO.mv hM19 rfl; replace h1 := h1.mv hM19 rfl; replace hb1 := hb1.mv hM19 rfl; replace ho := ho.mv hM19 rfl; replace hc110 := hc110.mv hM19 rfl; replace hf1 := hf1.mv hM19 rfl; replace hol := hol.mv hM19 rfl; replace hos := hos.mv hM19 rfl; replace hb5 := hb5.mv hM19 rfl
     rw [decide_eq_true rfl]
     refine qd rfl rfl rfl (fun _ => Val.not rfl) rfl <| qd rfl rfl rfl (fun _ => Val.pick rfl rfl) rfl ?_
     refine WD.nil ?_
     clear hb10 hb50 hc1100
     clear hCw
     refine WC.cond_false rfl ?_
     refine cskip <| cregion <| qq (Val.move rfl) rfl <| qq (Val.addI rfl rfl (by first | omega | assumption | (simp; omega) | (simp; done)) (by first | omega | assumption | (simp; omega) | (simp; done))) rfl <| qq (Val.assign rfl) rfl <| cnil ?_
     first
     | exact ⟨(i + 1, _, texts2), (by repeat (first | exact Sub.nil _ | refine Sub.cons rfl ?_ | refine Sub.consM rfl ?_)), ⟨_, hO, h1, hb1, ho, ka, by dsimp only; omega, by dsimp only; omega, htx2⟩, by dsimp only; omega⟩
     | exact ⟨(i + 1, _, texts), (by repeat (first | exact Sub.nil _ | refine Sub.cons rfl ?_ | refine Sub.consM rfl ?_)), ⟨_, hO, h1, hb1, ho, ka, by dsimp only; omega, by dsimp only; omega, htx⟩, by dsimp only; omega⟩
    ·try simp only [tstS] at hc12
     rw [hc12]
     refine cskip <| cseq ?_
     refine WC.regionD (Kp c9 w9 []) [1, 2, 2, 0, 0, 0, 0, 0, 2, 0, 0, 0, 0, 0, 2, 0, 0, 0, 0, 0, 0, 0, 0, 0, 0, 0, 0, 0, 0, 1, 0, 1, 0, 0, 1, 2, 0, 0] [0, 4, 1, 2, 3, 5, 6, 7, 9, 8, 10, 11, 12, 13, 15, 14, 16, 17, 18, 19, 20, 21, 22, 23, 24, 25, 26, 27, 28, 29, 30, 31, 32, 33, 34, 35, 36, 37] mixed (by kernel_rfl) ?_
     have hM20 := Mv.drew c9 w9 []
     have hCw := Mv.drew c9 w9 []
     generalize w9.drew = w20 at hM20 hCw ⊢
     have hb10 := hb1
     have hb50 := hb5
     have hc1100 := hc110
     replace hO := hO.mv hM20 rfl; replace h1 := h1.mv hM20 rfl; replace hb1 := hb1.mv hM20 rfl; replace ho := ho.mv hM20 rfl; replace hc110 := hc110.mv hM20 rfl; replace hf1 := hf1.mv hM20 rfl; replace hol := hol.mv hM20 rfl; replace hos := hos.mv hM20 rfl; replace hb5 := hb5.mv hM20 rfl
     refine qc rfl rfl rfl hCw.kp (fun W hW => Val.loadBN agg29 rfl (hb50.kp hW rfl).blk rfl) rfl <| qd rfl rfl rfl (fun _ => Val.move rfl) rfl ?_
     refine WD.eff rfl rfl rfl (Eff.pureC c9 1 (Eff.call pf23 rfl (mcheck_ok (hrm _ _ hol hos)))) rfl ?_
     rintro v78 w21 ⟨c21, hM21, hx21, rfl⟩
     refine ⟨fun hC => hC.step hCw hM21 rfl, ?_⟩
     replace hCw := hCw.tr hM21 rfl
     replace hO := hO.mv hM21 rfl; replace h1 := h1.mv hM21 rfl; replace hb1 := hb1.mv hM21 rfl; replace ho := ho.mv hM21 rfl; replace hc110 := hc110.mv hM21 rfl; replace hf1 := hf1.mv hM21 rfl; replace hol := hol.mv hM21 rfl; replace hos := hos.mv hM21 rfl; replace hb5 := hb5.mv hM21 rfl
     rw [hc12]
     refine WD.eff rfl rfl rfl (Eff.pureC c21 1 (Eff.call pf22 rfl (mnum_ok _))) rfl ?_
     rintro v79 w22 ⟨c22, hM22, hx22, rfl⟩
     refine ⟨fun hC => hC.step hCw hM22 rfl, ?_⟩
     replace hCw := hCw.tr hM22 rfl
     replace hO := hO.mv hM22 rfl; replace h1 := h1.mv hM22 rfl; replace hb1 := hb1.mv hM22 rfl; replace ho := ho.mv hM22 rfl; replace hc110 := hc110.mv hM22 rfl; replace hf1 := hf1.mv hM22 rfl; replace hol := hol.mv hM22 rfl; replace hos := hos.mv hM22 rfl; replace hb5 := hb5.mv hM22 rfl
     refine qd rfl rfl rfl (fun _ => Val.eql rfl rfl) rfl <| qd rfl rfl rfl (fun _ => Val.bneq Try.underlying4 rfl rfl) rfl <| qd rfl rfl rfl (fun _ => Val.move rfl) rfl <| qd rfl rfl rfl (fun _ => Val.move rfl) rfl <| qd rfl rfl rfl (fun _ => Val.move rfl) rfl ?_
     refine WD.eff rfl rfl rfl (Eff.pureC c22 1 (Eff.call pf22 rfl (mnum_ok _))) rfl ?_
     rintro v85 w23 ⟨c23, hM23, hx23, rfl⟩
     refine ⟨fun hC => hC.step hCw hM23 rfl, ?_⟩
     replace hCw := hCw.tr hM23 rfl
     replace hO := hO.mv hM23 rfl; replace h1 := h1.mv hM23 rfl; replace hb1 := hb1.mv hM23 rfl; replace ho := ho.mv hM23 rfl; replace hc110 := hc110.mv hM23 rfl; replace hf1 := hf1.mv hM23 rfl; replace hol := hol.mv hM23 rfl; replace hos := hos.mv hM23 rfl; replace hb5 := hb5.mv hM23 rfl
     refine qd rfl rfl rfl (fun _ => Val.neq rfl rfl) rfl <| qd rfl rfl rfl (fun _ => Val.pick rfl rfl) rfl <| qd rfl rfl rfl (fun _ => Val.move rfl) rfl <| qd rfl rfl rfl (fun _ => Val.move rfl) rfl <| qd rfl rfl rfl (fun _ => Val.move rfl) rfl ?_
     refine WD.eff rfl rfl rfl (Eff.pureC c23 1 (Eff.call pf22 rfl (mnum_ok _))) rfl ?_
     rintro v91 w24 ⟨c24, hM24, hx24, rfl⟩
     refine ⟨fun hC => hC.step hCw hM24 rfl, ?_⟩
     replace hCw := hCw.tr hM24 rfl
     replace hO := hO.mv hM24 rfl; replace h1 := h1.mv hM24 rfl; replace hb1 := hb1.mv hM24 rfl; replace ho := ho.mv hM24 rfl; replace hc110 := hc110.mv hM24 rfl; replace hf1 := hf1.mv hM24 rfl; replace hol := hol.mv hM24 rfl; replace hos := hos.mv hM24 rfl; replace hb5 := hb5.mv hM24 rfl
     refine qd rfl rfl rfl (fun _ => Val.neq rfl rfl) rfl <| qd rfl rfl rfl (fun _ => Val.pick rfl rfl) rfl <| qd rfl rfl rfl (fun _ => Val.move rfl) rfl <| qd rfl rfl rfl (fun _ => Val.move rfl) rfl <| qd rfl rfl rfl (fun _ => Val.move rfl) rfl <| qd rfl rfl rfl (fun _ => Val.sne rfl rfl) rfl ?_
     try rw [sne_self]
     refine qd rfl rfl rfl (fun _ => Val.pick rfl rfl) rfl <| qd rfl rfl rfl (fun _ => Val.move rfl) rfl <| qd rfl rfl rfl (fun _ => Val.move rfl) rfl <| qd rfl rfl rfl (fun _ => Val.move rfl) rfl <| qd rfl rfl rfl (fun _ => Val.sne rfl rfl) rfl ?_
     try rw [sne_self]
     refine qd rfl rfl rfl (fun _ => Val.pick rfl rfl) rfl <| qd rfl rfl rfl (fun _ => Val.move rfl) rfl <| qc rfl rfl rfl hCw.kp (fun W hW => Val.loadBN agg29 rfl (hb50.kp hW rfl).blk rfl) rfl ?_
     first | refine WD.val rfl rfl rfl (fun _ => Val.fieldAddr fld25_0 rfl) rfl ?_ | refine WD.val rfl rfl rfl (fun _ => Val.fieldAddrP fld25_0 rfl) rfl ?_
     refine qc rfl rfl rfl hCw.kp (fun W hW => Val.loadB scl22 rfl (hb10.kp hW rfl).blk rfl) rfl <| qd rfl rfl rfl (fun _ => Val.move rfl) rfl <| qd rfl rfl rfl (fun _ => Val.indexAddr sl22 h1.now rfl rfl rfl (by omega) (by omega)) rfl <| qc rfl rfl rfl hCw.kp (fun W hW => Val.loadE agg29 rfl (hc1100.kp hW rfl).cel hl1) rfl ?_
     refine WD.eff rfl rfl rfl (Eff.pureC c24 1 (Eff.call pf24 rfl (eqManifest_ok (hrm _ _ hol hos) hf1.now))) rfl ?_
     rintro v112 w25 ⟨c25, hM25, hx25, rfl⟩
     refine ⟨fun hC => hC.step hCw hM25 rfl, ?_⟩
     replace hCw := hCw.tr hM25 rfl
     replace hO := hO.mv hM25 rfl; replace h1 := h1.mv hM25 rfl; replace hb1 := hb1.mv hM25 rfl; replace ho := ho.mv hM25 rfl; replace hc110 := hc110.mv hM25 rfl; replace hf1 := hf1.mv hM25 rfl; replace hol := hol.mv hM25 rfl; replace hos := hos.mv hM25 rfl; replace hb5 := hb5.mv hM25 rfl
     rw [decide_eq_true rfl]
     refine qd rfl rfl rfl (fun _ => Val.not rfl) rfl <| qd rfl rfl rfl (fun _ => Val.pick rfl rfl) rfl ?_
     refine WD.nil ?_
     clear hb10 hb50 hc1100
     clear hCw
     refine WC.cond_false rfl ?_
     refine cskip <| cregion <| qq (Val.move rfl) rfl <| qq (Val.addI rfl rfl (by first | omega | assumption | (simp; omega) | (simp; done)) (by first | omega | assumption | (simp; omega) | (simp; done))) rfl <| qq (Val.assign rfl) rfl <| cnil ?_
     first
     | exact ⟨(i + 1, _, texts2), (by repeat (first | exact Sub.nil _ | refine Sub.cons rfl ?_ | refine Sub.consM rfl ?_)), ⟨_, hO, h1, hb1, ho, ka, by dsimp only; omega, by dsimp only; omega, htx2⟩, by dsimp only; omega⟩
     | exact ⟨(i + 1, _, texts), (by repeat (first | exact Sub.nil _ | refine Sub.cons rfl ?_ | refine Sub.consM rfl ?_)), ⟨_, hO, h1, hb1, ho, ka, by dsimp only; omega, by dsimp only; omega, htx⟩, by dsimp only; omega⟩
   ·try simp only [tstS] at hc5
    have hrt : Rd strS wl vt texts := ho.own.rdStrs (fun x hx => by have := htx x hx; omega) (by omega)
    have htl2 : texts.length ≤ 6018 := by omega
    have hK : Old w wl := hO.below
    refine WC.exit rfl ?_
    refine cseq <| cseq <| cregion <| qq (Val.assign rfl) rfl <| cnil <| cblock ?_
    refine WC.loop (σ := Nat) (fun j => [(3, vt), (14, I j)]) (fun j w' => Rd strS w' vt texts ∧ Old w w' ∧ j ≤ texts.length) (fun j => texts.length - j) 0 (by repeat (first | exact Sub.nil _ | refine Sub.cons rfl ?_ | refine Sub.consM rfl ?_)) ⟨hrt, hK, by omega⟩ ?_
    clear hrt hK hO h1 hb1 ho
    rintro j wj ⟨hrt, hK, hj⟩
    refine cseq <| cseq <| cregion <| qq (Val.move rfl) rfl <| qq (Val.move rfl) rfl ?_
    first | refine WR.val (Val.rdlen sl23 (by assumption) rfl) rfl ?_ | refine WR.val (Val.sllen Try.underlying23 rfl) rfl ?_
    refine qq (Val.lss rfl rfl) rfl <| cnil ?_
    refine WC.cond rfl (fun hc19 => ?_) (fun hc19 => ?_)
    ·try simp only [tstS] at hc19
     have kj : j < texts.length := by omega
     obtain ⟨cs2, hc124, rfl, ok2⟩ := hrt.el kj
     have hc132 := hc124
     have hlt1 := htx _ (List.getElem_mem kj)
     refine cskip <| cseq <| cblock <| cseq <| cregion <| qq (Val.move rfl) rfl <| qq (Val.move rfl) rfl <| qq (Val.indexAddr sl23 (by assumption) rfl rfl rfl (by first | omega | assumption | (simp; omega) | (simp; done)) (by first | omega | assumption | (simp; omega) | (simp; done))) rfl <| qq (Val.loadE1 scl9 rfl hc124) rfl ?_
     refine WR.eff (Eff.call pf25 rfl (mtake_ok texts[j] (by omega))) rfl ?_
     rintro v126 w26 ⟨hk26, ⟨csA, rfl, hrA⟩⟩
     replace hrt := hrt.up hk26; replace hK := hK.up hk26; replace hc124 := hc124.up hk26; replace hc132 := hc132.up hk26
     refine qq (Val.move rfl) rfl <| qq (Val.extract rfl rfl) rfl <| qq (Val.extract rfl rfl) rfl ?_
     refine WR.eff (Eff.alloc zero29) rfl ?_
     rintro _ wal ⟨b15, rfl, hn15⟩
     refine WR.eff_ (Eff.storeBN agg29 rfl rfl hn15.blk rfl (manS.len hrA) (manS.one hrA)) ?_
     intro _ wst hS15
     have hkS := Below.trans hn15.below (Blk.store_below hS15 (Nat.le_of_eq hn15.at_.symm) hn15.below.size)
     replace hrt := hrt.up hkS; replace hc132 := hc132.up hkS; replace hrA := hrA.up hkS; replace hK := hK.up hkS
     have hb15 := hS15.blk
     refine qq (Val.assign rfl) rfl <| cnil <| cseq <| cregion <| qq (Val.move rfl) rfl <| qq (Val.move rfl) rfl <| qq (Val.indexAddr sl23 (by assumption) rfl rfl rfl (by first | omega | assumption | (simp; omega) | (simp; done)) (by first | omega | assumption | (simp; omega) | (simp; done))) rfl <| qq (Val.loadE1 scl9 rfl hc132) rfl ?_
     refine WR.eff (Eff.call pf26 rfl (pmtake_ok texts[j] (by omega))) rfl ?_
     rintro v134 w27 ⟨hk27, ⟨csB, rfl, hrB⟩⟩
     replace hrt := hrt.up hk27; replace hK := hK.up hk27; replace hc132 := hc132.up hk27; replace hrA := hrA.up hk27; replace hb15 := hb15.up hk27
     refine qq (Val.move rfl) rfl <| qq (Val.extract rfl rfl) rfl <| qq (Val.extract rfl rfl) rfl ?_
     refine WR.eff (Eff.alloc zero29) rfl ?_
     rintro _ wal2 ⟨b17, rfl, hn17⟩
     refine WR.eff_ (Eff.storeBN agg29 rfl rfl hn17.blk rfl (manS.len hrB) (manS.one hrB)) ?_
     intro _ wst2 hS17
     have hkS := Below.trans hn17.below (Blk.store_below hS17 (Nat.le_of_eq hn17.at_.symm) hn17.below.size)
     replace hrt := hrt.up hkS; replace hrA := hrA.up hkS; replace hrB := hrB.up hkS; replace hb15 := hb15.up hkS; replace hK := hK.up hkS
     have hb17 := hS17.blk
     refine qq (Val.assign rfl) rfl <| cnil <| cseq <| cregion <| qq (Val.move rfl) rfl <| qq (Val.move rfl) rfl ?_
     refine WR.eff (Eff.call pf22 rfl (mnum_ok _)) rfl ?_
     rintro v139 w28 ⟨hk28, rfl⟩
     replace hrt := hrt.up hk28; replace hK := hK.up hk28; replace hrA := hrA.up hk28; replace hrB := hrB.up hk28; replace hb15 := hb15.up hk28; replace hb17 := hb17.up hk28
     refine qq (Val.eql rfl rfl) rfl <| qq (Val.bneq Try.underlying4 rfl rfl) rfl ?_
     rw [eqc]
     refine qq (Val.move rfl) rfl ?_
     apply WR.sc false 7 (!(manTake texts[j]).isSome && !decide ((if (manTake texts[j]).isSome = true then (0 : Int) else 7) = 7)) (fun w' => Below w28.heap.size w28 w')
     case hl => rfl
     case hg => rfl
     case hu => rfl
     case hv => rfl
     case hs => rfl
     case hoff => rfl
     case hd => rfl
     case hF => exact fun _ => Below.refl _ _
     case hT =>
      intro hq13
      try simp only [tstS] at hq13
      simp only [List.take_succ_cons, List.take_zero]
      have hKsc13 : Old w28 w28 := Old.refl _
      refine WR.on rfl rfl ?_
      refine qq (Val.move rfl) rfl ?_
      refine WR.on rfl rfl ?_
      refine qq (Val.not rfl) rfl ?_
      refine WR.on rfl rfl ?_
      refine qq (Val.move rfl) rfl ?_
      apply WR.sc true 3 (!decide ((if (manTake texts[j]).isSome = true then (0 : Int) else 7) = 7)) (fun w' => Below w28.heap.size w28 w')
      case hl => rfl
      case hg => rfl
      case hu => rfl
      case hv => rfl
      case hs => rfl
      case hoff => rfl
      case hd => rfl
      case hF => exact fun _ => Below.refl _ _
      case hT =>
       intro hq12
       try simp only [tstS] at hq12
       simp only [List.take_succ_cons, List.take_zero]
       have hKsc12 : Old w28 w28 := Old.refl _
       refine WR.on rfl rfl ?_
       refine qq (Val.move rfl) rfl ?_
       refine WR.on rfl rfl ?_
       refine WR.eff (Eff.call pf22 rfl (mnum_ok _)) rfl ?_
       rintro v147 w29 ⟨hk29, rfl⟩
       replace hrt := hrt.up hk29; replace hK := hK.up hk29; replace hrA := hrA.up hk29; replace hrB := hrB.up hk29; replace hb15 := hb15.up hk29; replace hb17 := hb17.up hk29; replace hKsc13 := hKsc13.up hk29; replace hKsc12 := hKsc12.up hk29
       refine WR.on rfl rfl ?_
       refine qq (Val.neq rfl rfl) rfl ?_
       exact WR.nil ⟨rfl, Sub.drop _ 3 _ rfl rfl, hKsc12⟩
      intro w30 hk30
      replace hrt := hrt.up hk30; replace hK := hK.up hk30; replace hrA := hrA.up hk30; replace hrB := hrB.up hk30; replace hb15 := hb15.up hk30; replace hb17 := hb17.up hk30; replace hKsc13 := hKsc13.up hk30
      exact WR.nil ⟨rfl, Sub.drop _ 4 _ rfl rfl, hKsc13⟩
     intro w31 hk31
     replace hrt := hrt.up hk31; replace hK := hK.up hk31; replace hrA := hrA.up hk31; replace hrB := hrB.up hk31; replace hb15 := hb15.up hk31; replace hb17 := hb17.up hk31
     refine qq (Val.move rfl) rfl ?_
     apply WR.sc false 4 _ (fun w' => Below w31.heap.size w31 w')
     case hl => rfl
     case hg => rfl
     case hu => rfl
     case hv => rfl
     case hs => rfl
     case hoff => rfl
     case hd => rfl
     case hF => exact fun _ => Below.refl _ _
     case hT =>
      intro hq19
      try simp only [tstS] at hq19
      simp only [List.take_succ_cons, List.take_zero]
      have hKsc19 : Old w31 w31 := Old.refl _
      refine WR.on rfl rfl ?_
      refine qq (Val.loadBN agg29 rfl hb15 (manS.len hrA)) rfl ?_
      refine WR.on rfl rfl ?_
      refine qq (Val.loadBN agg29 rfl hb17 (manS.len hrB)) rfl ?_
      refine WR.on rfl rfl ?_
      refine WR.eff (Eff.call pf24 rfl (eqManifest_ok hrA hrB)) rfl ?_
      rintro v154 w32 ⟨hk32, rfl⟩
      replace hrt := hrt.up hk32; replace hK := hK.up hk32; replace hrA := hrA.up hk32; replace hrB := hrB.up hk32; replace hb15 := hb15.up hk32; replace hb17 := hb17.up hk32; replace hKsc19 := hKsc19.up hk32
      refine WR.on rfl rfl ?_
      refine qq (Val.not rfl) rfl ?_
      exact WR.nil ⟨rfl, Sub.drop _ 4 _ rfl rfl, hKsc19⟩
     intro w33 hk33
     replace hrt := hrt.up hk33; replace hK := hK.up hk33; replace hrA := hrA.up hk33; replace hrB := hrB.up hk33; replace hb15 := hb15.up hk33; replace hb17 := hb17.up hk33
     refine cnil ?_
     refine WC.cond rfl (fun hc23 => ?_) (fun hc23 => ?_)
     ·exfalso
      rw [eqd] at hc23
      simp at hc23
     ·skip
      refine cskip <| cregion <| qq (Val.move rfl) rfl <| qq (Val.addI rfl rfl (by first | omega | assumption | (simp; omega) | (simp; done)) (by first | omega | assumption | (simp; omega) | (simp; done))) rfl <| qq (Val.assign rfl) rfl <| cnil ?_
      exact ⟨j + 1, (by repeat (first | exact Sub.nil _ | refine Sub.cons rfl ?_ | refine Sub.consM rfl ?_)), ⟨hrt, hK, kj⟩, by omega⟩
    ·try simp only [tstS] at hc19
     refine WC.exit rfl ?_
     refine cseq <| cregion ?_
     refine WR.eff (Eff.call pf27 rfl (mwakes_ok)) rfl ?_
     rintro v157 w34 ⟨hk34, rfl⟩
     replace hrt := hrt.up hk34; replace hK := hK.up hk34
     refine qq (Val.assign rfl) rfl <| cnil ?_
     refine WC.ret1 rfl rfl ?_
     exact ⟨hK, rfl⟩
end Go.Proofs.Ytnddlhjafkhdoaa

namespace Go.Eng
open Go Go.RowKit Go.Sort Go.Proofs Silo
theorem Eff.grownO {P : Program} {env : Env} {w : World} {ty : TypeId} {op : Op} {c : Nat → Nat} {i n size : Nat} {e : TypeId} {u : Value} {xs : List Value} {R : Value → World → Prop} (ho : OwnC c w i e size u n xs) (h : Eff P env w op ty (fun v w' => w.grownBy w' u.rowOf ∧ R v w')) :
    Eff P env w op ty (fun v w' => ∃ c', Mv c w c' w' [i] ∧ (∀ k, u.rowOf = some k → c' k = i) ∧ R v w') := h.mono fun v w' ⟨hg, hr⟩ => by
  obtain ⟨c', hm, _⟩ := Mv.grown c i hg ho.col
  exact ⟨c', hm, fun k hk => (hm.col k (ho.own.lt k hk).2).trans (ho.col k hk), hr⟩
theorem flatEnc (l : List (List UInt8)) : l.flatMap (fun x => [St x]) = l.map encStr := by rw [← flatSt]; rfl
theorem Own.holds {w : World} {base : Nat} {e : TypeId} {v : Value} {ss : List (List UInt8)} (h : Own w base e 1 v ss.length (ss.flatMap fun x => [St x])) :
    (ss = [] ∧ ∃ A cap, v = .slice A 0 cap ∧ (cap = 0 ∨ ∃ g, A = some ⟨g, 0, none⟩)) ∨ (∃ g cap cur fz, v = .slice (some ⟨g, 0, none⟩) ss.length cap ∧ base ≤ g ∧ w.heap[g]? = some (.cells cur e fz) ∧ (fz.1 < fz.2 → cur.size ≤ fz.1) ∧ ss.length ≤ cap ∧ cap ≤ maxLen ∧ cur.size = cap ∧ 0 < cap ∧ Holds encStr w g 0 ss.toArray ∧ 0 < ss.length) := by
  rcases Nat.eq_zero_or_pos ss.length with h0 | h0
  · have : ss = [] := List.eq_nil_of_length_eq_zero h0
    subst this
    left
    rcases h.2 with ⟨_, A, rfl⟩ | ⟨g, cap, cur, fz, rfl, _⟩
    · exact ⟨rfl, A, 0, rfl, .inl rfl⟩
    · exact ⟨rfl, _, cap, rfl, .inr ⟨g, rfl⟩⟩
  · right
    rcases h.2 with ⟨h1, _⟩ | ⟨g, cap, cur, fz, rfl, hb, h2, h3, h4, h5, h6, h7, h8⟩
    · omega
    · refine ⟨g, cap, cur, fz, rfl, hb, h2, h3, h4, h5, by omega, h8, fun j hj => ?_, h0⟩
      have hj' : j < ss.length := by simpa using hj
      constructor
      · rw [flatEnc, Nat.mul_one] at h7
        have h9 : (cur.toList.take ss.length)[j]? = (ss.map encStr)[j]? := by rw [h7]
        rw [List.getElem?_take_of_lt hj'] at h9
        simp only [World.cell?, h2, Nat.zero_add]
        simp only [Option.isSome_none, Bool.false_eq_true, if_false]
        rw [← Array.getElem?_toList, h9]
        simp [hj']
      · obtain ⟨lo, hi⟩ := fz
        simp [World.frozen?, h2]
        intro hlo
        rcases Nat.lt_or_ge lo hi with h9 | h9
        · have := h3 h9; simp at this; omega
        · omega
theorem putCells_size (cur : Array Value) (d : Array (List UInt8)) : (putCells encStr 0 d cur).size = cur.size := by simp [putCells]
end Go.Eng
namespace Go.Proofs.Ytnddlhjafkhdoaa
open Go Go.Eng Go.RowKit Go.Sort Silo TryT

theorem sortStrs_ok {w : World} {base : Nat} {v : Value} {ss : List (List UInt8)} (h : Own w base 9 1 v ss.length (ss.flatMap fun x => [St x])) (hsm : ss.length < 4611686018427387904) :
    Calls Try.prog 117 #[v] w (Ret fun _ w' => w.grownBy w' v.rowOf ∧ Own w' base 9 1 v (ss.mergeSort fun x y => decide (x ≤ y)).length ((ss.mergeSort fun x y => decide (x ≤ y)).flatMap fun x => [St x])) := by
  rcases h.holds with ⟨rfl, A, cap, rfl, _⟩ | ⟨g, cap, cur, fz, rfl, hb, h2, h3, h4, h5, h6, h8, hH, h0⟩
  · refine (Try.slices_Sort_string_none A cap w).mono fun e w' he => ?_
    obtain ⟨rfl, rfl⟩ := he
    exact ⟨_, rfl, ⟨rfl, rfl, rfl, Nat.le_refl _, fun _ _ _ => rfl⟩, by simpa using h⟩
  · refine (Try.slices_Sort_string g 0 cap ss w hH (Array.getElem?_eq_some_iff.1 h2).1 hsm).mono fun e w' he => ?_
    obtain ⟨rfl, n, os, rfl⟩ := he
    have hl : (ss.mergeSort fun x y => decide (x ≤ y)).length = ss.length := List.length_mergeSort _
    refine ⟨_, rfl, by rw [rowOf_slice h8]; exact grownBy_sorted _, ?_⟩
    rw [hl]
    refine ⟨by rw [flatEnc]; simp [hl], .inr ⟨g, cap, _, fz, rfl, hb, heap_sorted _ h2, ?_, h4, h5, ?_, ?_, h8⟩⟩
    · rw [putCells_size]; exact h3
    · rw [putCells_size]; omega
    · rw [flatEnc, Nat.mul_one, ← hl]; exact take_putCells cur _ (by omega)
theorem compactStrs_ok {w : World} {base : Nat} {v : Value} {ss : List (List UInt8)} (h : Own w base 9 1 v ss.length (ss.flatMap fun x => [St x])) (hsm : ss.length < 4611686018427387904) :
    Calls Try.prog 118 #[v] w (Ret fun v' w' => w.grownBy w' v.rowOf ∧ v'.rowOf = v.rowOf ∧ Own w' base 9 1 v' (Lib.compact ss).length ((Lib.compact ss).flatMap fun x => [St x])) := by
  rcases h.holds with ⟨rfl, A, cap, rfl, _⟩ | ⟨g, cap, cur, fz, rfl, hb, h2, h3, h4, h5, h6, h8, hH, h0⟩
  · refine (Try.slices_Compact_string_empty A cap w).mono fun e w' he => ?_
    obtain ⟨rfl, rfl⟩ := he
    exact ⟨_, rfl, ⟨rfl, rfl, rfl, Nat.le_refl _, fun _ _ _ => rfl⟩, rfl, by simpa [Lib.compact, Lib.compactUpTo] using h⟩
  · refine (Try.slices_Compact_string g 0 cap ss w hH (by omega) h4).mono fun e w' he => ?_
    obtain ⟨rfl, q, rfl⟩ := he
    have hl := Lib.compact_length_le ss
    have hg := @grownBy_sorted w g q #[] (Lib.compact ss ++ List.replicate (ss.length - (Lib.compact ss).length) []).toArray
    have hh := @heap_sorted w g q #[] cur 9 fz (Lib.compact ss ++ List.replicate (ss.length - (Lib.compact ss).length) []).toArray h2
    rw [grow_empty] at hg hh
    have hll : (Lib.compact ss ++ List.replicate (ss.length - (Lib.compact ss).length) []).length = ss.length := by rw [List.length_append, List.length_replicate]; omega
    refine ⟨_, rfl, by rw [rowOf_slice h8]; exact hg, by rw [rowOf_slice h8, rowOf_slice h8], ⟨by rw [flatEnc]; simp, .inr ⟨g, cap, _, fz, rfl, hb, hh, ?_, by omega, h5, ?_, ?_, h8⟩⟩⟩
    · rw [putCells_size]; exact h3
    · rw [putCells_size]; omega
    · have h9 := take_putCells cur (Lib.compact ss ++ List.replicate (ss.length - (Lib.compact ss).length) []) (by omega)
      rw [flatEnc, Nat.mul_one]
      have h10 := congrArg (List.take (Lib.compact ss).length) h9
      rw [List.take_take, hll, Nat.min_eq_left hl, List.map_append, List.take_left' (by simp)] at h10
      exact h10
end Go.Proofs.Ytnddlhjafkhdoaa

namespace Silo
open Go Go.Eng
theorem find_low {T : List Thg} (hr : RiseT T) {d : List UInt8} (h : (findT T d).isSome = true) : findT T d = some (lowT T d) ∧ lowT T d < T.length := by
  cases hf : findT T d with
  | none => rw [hf] at h; cases h
  | some i =>
    have := lowT_find hr hf
    exact ⟨by rw [this], by rw [this]; exact (findT_some hf).1⟩
theorem at_find {T : List Thg} {d : List UInt8} (h : 0 ≤ atT T d) : ∃ i : Nat, atT T d = i ∧ findT T d = some i ∧ i < T.length := by
  unfold atT at h ⊢
  cases hf : findT T d with
  | none => rw [hf] at h; exact absurd h (by decide)
  | some i => exact ⟨i, rfl, rfl, (findT_some hf).1⟩
theorem at_none {T : List Thg} {d : List UInt8} (h : ¬ 0 ≤ atT T d) : findT T d = none := by
  unfold atT at h
  cases hf : findT T d with
  | none => rfl
  | some i => rw [hf] at h; exact absurd (Int.natCast_nonneg i) h
theorem bools_set (l : List Bool) (i : Nat) (b : Bool) : (l.flatMap fun b => [Value.bool b]).set i (.bool b) = (l.set i b).flatMap fun b => [Value.bool b] := by
  have e : ∀ l : List Bool, (l.flatMap fun b => [Value.bool b]) = l.map Value.bool := fun l => by induction l with
    | nil => rfl
    | cons a r ih => simp [ih]
  rw [e, e, List.map_set]
theorem bools_zero (n : Nat) : (List.replicate n [Value.bool false]).flatten = (List.replicate n false).flatMap fun b => [Value.bool b] := by
  induction n with
  | zero => rfl
  | succ n ih => rw [List.replicate_succ, List.replicate_succ, List.flatten_cons, List.flatMap_cons, ih]
theorem dgOf_ok {T : List Thg} {ok : Nat} (h : ∀ t ∈ T, t.digest.length ≤ ok) (i : Nat) : (dgOf T i).length ≤ ok := by
  rcases Nat.lt_or_ge i T.length with hi | hi
  · rw [dgOf_lt hi]; exact h _ (List.getElem_mem hi)
  · rw [dgOf, List.getElem?_eq_none hi]; simp
theorem nmOf_texts {T : List Thg} {i : Nat} : ∀ x ∈ nmOf T i, x.length ≤ 140737488355328 := fun x hx => by
  rcases Nat.lt_or_ge i T.length with hi | hi
  · rw [nmOf_lt hi] at hx; exact namesT_texts x hx
  · rw [nmOf_ge hi] at hx; cases hx
end Silo
namespace Go.Proofs.Ytnddlhjafkhdoaa
open Go Go.Eng Go.RowKit Silo TryT

set_option maxHeartbeats 1000000 in
theorem reached_iter {w0 : World} {c0 : Nat → Nat} {b2 b3 : Nat} {v vR : Value} {T : List Thg} {R : List (List UInt8)} (hb2 : BlkC c0 w0 70 b2 [v] 52) (hb3 : BlkC c0 w0 70 b3 [vR] 23)
    (h1 : RdC thgS c0 w0 [0] v T) {JR : List Nat} (h2 : RdC strS c0 w0 JR vR R) (hp : PlainV vR) (hr : RiseT T) (ht : ∀ t ∈ T, t.text.length ≤ 1048576) (hl : T.length ≤ 100000) (hrl : R.length ≤ 1000000) :
    IterC Try.prog 138 [.pointer (some ⟨b2, 0, none⟩), .pointer (some ⟨b3, 0, none⟩)] (fun i : Nat => [I i]) [50, 51] ([0, 70] ++ JR) (ordR T R) c0 w0 := by
  intro l J Jx c1 W K hM hK hJi hJxi hy hJ0
  have hN : ∀ i ∈ [50, 51] ++ ([0, 70] ++ JR), hasC K i = false := fun i hi => apart_of hK hi
  replace hb2 := hb2.mv hM (hN 70 (by simp))
  replace hb3 := hb3.mv hM (hN 70 (by simp))
  replace h1 := h1.mv hM (apart_sub hK (by simp))
  replace h2 := h2.mv hM (apart_sub hK (by intro i hi; simp [hi]))
  have hJ : JC (J []) [50, 51] c1 W := ⟨hJ0, fun _ _ _ _ h m => hJi _ _ _ _ _ h m⟩
  have hro := h2.now.okFlat
  clear hM hN hK
  show Calls _ _ [_, _, _].toArray _ _
  refine enter (n := 48) (res := #[]) Try.func138 rfl rfl rfl rfl ?_
  have hR0 := h2
  refine cseq <| cregion <| qq (Val.loadB scl52 rfl hb2.blk rfl) rfl <| qq (Val.rdlenC sl52 h1 rfl) rfl ?_
  refine WR.eff (Eff.makeC c1 50 sl97 rfl rfl (by first | omega | assumption | (simp; omega) | (simp; done)) (by first | omega | assumption | (simp; omega) | (simp; done)) (by first | omega | assumption | (simp; omega) | (simp; done))) rfl ?_
  rintro v10 w1 ⟨c1, hM1, ho10⟩
  replace hb2 := hb2.mv hM1 rfl; replace hb3 := hb3.mv hM1 rfl; replace h1 := h1.mv hM1 rfl; replace hJ := hJ.mv hM1 rfl
  have hRd : RdS strS _ _ vR R := (hR0.mv hM1 (by simp [apartC, hasC])).now
  rw [Int.toNat_natCast, bools_zero] at ho10
  refine qq (Val.assign rfl) rfl <| cnil <| cseq <| cregion <| qq (Val.loadB scl23 rfl hb3.blk rfl) rfl ?_
  refine WR.eff (Eff.pureC c1 51 (Eff.call pf76 rfl (cloneStrs_ok hRd hp (by omega)))) rfl ?_
  rintro v12 w2 ⟨c2, hM2, hx2, ho12⟩
  replace hb2 := hb2.mv hM2 rfl; replace hb3 := hb3.mv hM2 rfl; replace h1 := h1.mv hM2 rfl; replace hJ := hJ.mv hM2 rfl; replace ho10 := ho10.mv hM2 rfl
  replace ho12 := ho12.toC hx2
  refine qq (Val.assign rfl) rfl <| cnil <| cblock ?_
  have hT := ho12.tail
  refine WC.loop (σ := List Bool × List (List UInt8) × Value × List Nat) (fun st => [(0, .func (.yield l) #[] #[]), (1, .pointer (some ⟨b2, 0, none⟩)), (2, .pointer (some ⟨b3, 0, none⟩)), (4, v10), (5, st.2.2.1)]) (fun st w' => ∃ c', BlkC c' w' 70 b2 [v] 52 ∧ BlkC c' w' 70 b3 [vR] 23 ∧ RdC thgS c' w' [0] v T ∧ OwnC c' w' 50 4 1 v10 T.length (st.1.flatMap fun b => [.bool b]) ∧ TailC c' w' 51 9 1 st.2.2.1 st.2.1.length (st.2.1.flatMap fun x => [St x]) ∧ JC (J st.2.2.2) [50, 51] c' w' ∧ st.1.length = T.length ∧ st.2.2.2 ++ bfsL T st.1 st.2.1 = ordR T R ∧ (∀ x ∈ st.2.1, x.length ≤ 140737488355328) ∧ bLeft st.1 st.2.1 ≤ R.length + 21 * T.length) (fun st => bLeft st.1 st.2.1) (List.replicate T.length false, R, v12, []) (by repeat (first | exact Sub.nil _ | refine Sub.cons rfl ?_ | refine Sub.consM rfl ?_)) ⟨_, hb2, hb3, h1, ho10, hT, hJ, by simp, rfl, hro, by simp [bLeft, List.count_replicate_self]⟩ ?_
  clear hb2 hb3 h1 ho10 hT hJ ho12 hR0 hRd
  rintro ⟨seen, todo, tv, pre⟩ wl ⟨cl, hb2, hb3, h1, ho10, hT, hJ, hsl, hpr, hto, hbl⟩
  dsimp only at hb2 hb3 h1 ho10 hT hJ hsl hpr hto hbl ⊢
  obtain ⟨A5, q5, rfl, hq5, _⟩ := hT.own.formA
  have htl : todo.length ≤ R.length + 21 * T.length := by unfold bLeft at hbl; omega
  refine cseq <| cseq <| cregion <| qq (Val.move rfl) rfl ?_
  first | refine WR.val (Val.rdlen sl23 (by assumption) rfl) rfl ?_ | refine WR.val (Val.sllen Try.underlying23 rfl) rfl ?_ | refine WR.val (Val.olen sl23 (by assumption) rfl) rfl ?_ | refine WR.val (Val.rdlenC sl23 (by assumption) rfl) rfl ?_
  refine qq (Val.gtr rfl rfl) rfl <| cnil ?_
  refine WC.cond rfl (fun hc2 => ?_) (fun hc2 => ?_)
  ·try simp only [tstS] at hc2
   obtain ⟨d, t, rfl⟩ : ∃ d t, todo = d :: t := by
     cases todo with
     | nil => simp at hc2
     | cons d t => exact ⟨d, t, rfl⟩
   have hX : RdC strS cl wl [51] _ (d :: t) := hT.rdFlat (by omega) hto
   have hlen1 : (d :: t).length = t.length + 1 := rfl
   obtain ⟨hc19, _⟩ := RdC.elFlat hX (k := 0) (by simp) (by decide)
   replace hc19 : CelC cl wl [51] (elemA (.slice A5 (d :: t).length q5) 1 0) [St d] := hc19
   refine cskip <| cblock <| cseq ?_
   refine WC.regionD (Kp cl wl []) [1, 0, 0, 1, 2, 0, 0, 0, 0, 0] [0, 1, 2, 3, 4, 5, 6, 7, 8, 9] mixed (by kernel_rfl) ?_
   have hM3 := Mv.drew cl wl []
   have hCw := Mv.drew cl wl []
   generalize wl.drew = w3 at hM3 hCw ⊢
   have hb20 := hb2
   have hb30 := hb3
   have hc190 := hc19
   replace hb2 := hb2.mv hM3 rfl; replace hb3 := hb3.mv hM3 rfl; replace h1 := h1.mv hM3 rfl; replace ho10 := ho10.mv hM3 rfl; replace hT := hT.mv hM3 rfl; replace hJ := hJ.mv hM3 rfl; replace hX := hX.mv hM3 rfl; replace hc19 := hc19.mv hM3 rfl
   refine qc rfl rfl rfl hCw.kp (fun W hW => Val.loadB scl52 rfl (hb20.kp hW rfl).blk rfl) rfl <| qd rfl rfl rfl (fun _ => Val.move rfl) rfl <| qd rfl rfl rfl (fun _ => Val.indexAddr sl23 hX.now rfl rfl rfl (by omega) (by omega)) rfl <| qc rfl rfl rfl hCw.kp (fun W hW => Val.loadE1 scl9 rfl (hc190.kp hW rfl).cel) rfl ?_
   refine WD.eff rfl rfl rfl (Eff.pureC cl 1 (Eff.call pf84 rfl (rfind_ok h1.now hr))) rfl ?_
   rintro v21 w4 ⟨c4, hM4, hx4, rfl⟩
   refine ⟨fun hC => hC.step hCw hM4 rfl, ?_⟩
   replace hCw := hCw.tr hM4 rfl
   replace hb2 := hb2.mv hM4 rfl; replace hb3 := hb3.mv hM4 rfl; replace h1 := h1.mv hM4 rfl; replace ho10 := ho10.mv hM4 rfl; replace hT := hT.mv hM4 rfl; replace hJ := hJ.mv hM4 rfl; replace hX := hX.mv hM4 rfl; replace hc19 := hc19.mv hM4 rfl
   refine qd rfl rfl rfl (fun _ => Val.move rfl) rfl <| qd rfl rfl rfl (fun _ => Val.extract rfl rfl) rfl <| qd rfl rfl rfl (fun _ => Val.extract rfl rfl) rfl <| qd rfl rfl rfl (fun _ => Val.assign rfl) rfl <| qd rfl rfl rfl (fun _ => Val.assign rfl) rfl ?_
   refine WD.nil ?_
   clear hb20 hb30 hc190
   clear hCw
   refine cseq ?_
   skip
   refine cregion <| qq (Val.move rfl) rfl <| qq (Val.partFrom sl23 rfl rfl (by omega) (by omega)) rfl ?_
   replace hT := TailC.rest (enc := fun x => [St x]) hT rfl
   generalize subV (.slice A5 (d :: t).length q5) (1 : Int).toNat (d :: t).length 1 = tw at hT ⊢
   have hto2 : ∀ x ∈ t, x.length ≤ 140737488355328 := fun x hx => hto x (by simp [hx])
   have hS := OwnC.rdFlat (n' := 1) (enc := fun b => [Value.bool b]) (ok := fun _ => True) (h0 := fun _ => rfl) (h1 := fun _ u hu => by simp at hu; subst hu; rfl) (l := seen) (by rw [hsl]; exact ho10) (by omega) (fun _ _ => trivial)
   refine qq (Val.assign rfl) rfl <| cnil <| cseq <| cseq <| cregion <| qq (Val.move rfl) rfl <| qq (Val.not rfl) rfl <| qq (Val.move rfl) rfl ?_
   apply WR.sc false 4 _ (fun w' => w4 = w')
   case hl => rfl
   case hg => rfl
   case hu => rfl
   case hv => rfl
   case hs => rfl
   case hoff => rfl
   case hd => rfl
   case hF => exact fun _ => rfl
   case hT =>
    intro hq7
    try simp only [tstS] at hq7
    simp only [List.take_succ_cons, List.take_zero]
    obtain ⟨hf, hil⟩ := find_low hr hq7
    have hil2 : lowT T d < seen.length := by omega
    obtain ⟨hc31, _⟩ := RdC.elFlat hS hil2 (by decide)
    have hv1 : ([Value.bool seen[lowT T d]] : List Value) = [.bool (seen[lowT T d]?.getD true)] := by rw [List.getElem?_eq_getElem hil2]; rfl
    rw [hv1] at hc31
    refine WR.on rfl rfl ?_
    refine qq (Val.move rfl) rfl ?_
    refine WR.on rfl rfl ?_
    refine qq (Val.move rfl) rfl ?_
    refine WR.on rfl rfl ?_
    refine qq (Val.indexO sl97 ho10 rfl rfl (by omega) (by omega)) rfl ?_
    refine WR.on rfl rfl ?_
    refine qq (Val.loadE1 scl4 rfl hc31.cel) rfl ?_
    exact WR.nil ⟨rfl, Sub.drop _ 4 _ rfl rfl, rfl⟩
   rintro _ rfl
   refine cnil ?_
   refine WC.cond rfl (fun hc5 => ?_) (fun hc5 => ?_)
   ·try simp only [tstS] at hc5
    have hsk : ∀ i, findT T d = some i → seen[i]?.getD true = true := fun i hi => by
      have hlo := lowT_find hr hi
      rcases hc5 with h | h
      · rw [hi] at h; cases h
      · rw [← hlo]; exact h
    rw [bfsL_skip hsk] at hpr
    have hbe : bLeft seen (d :: t) = bLeft seen t + 1 := by simp only [bLeft, List.length_cons]; omega
    refine WC.exit rfl ?_
    exact ⟨(seen, t, tw, pre), (by repeat (first | exact Sub.nil _ | refine Sub.cons rfl ?_ | refine Sub.consM rfl ?_)), ⟨_, hb2, hb3, h1, ho10, hT, hJ, hsl, hpr, hto2, by dsimp only; omega⟩, by dsimp only; omega⟩
   ·try simp only [tstS] at hc5
    obtain ⟨hc5a, hc5b⟩ := hc5
    obtain ⟨hf, hil⟩ := find_low hr hc5a
    generalize lowT T d = i at hf hil hc5b ⊢
    have hil2 : i < seen.length := by omega
    have h0 : seen[i] = false := by rw [List.getElem?_eq_getElem hil2] at hc5b; exact hc5b
    have hbv := bLeft_visit (T := T) (d := d) (t := t) hil2 h0
    rw [bfsL_visit hf hil2 h0] at hpr
    have hpre : pre ++ [i] <+: ordR T R := ⟨bfsL T (seen.set i true) (t ++ nmOf T i), by rw [← hpr]; simp⟩
    refine cskip <| cseq <| cregion <| qq (Val.move rfl) rfl <| qq (Val.move rfl) rfl <| qq (Val.indexO sl97 ho10 rfl rfl (by omega) (by omega)) rfl ?_
    refine WR.eff_ (Eff.storeOC scl4 ho10 (by first | omega | assumption | (simp; omega) | (simp; done)) rfl rfl (by first | rfl | assumption) (by first | rfl | assumption)) ?_
    rintro _ w5 ⟨hS, hM5⟩
    replace hb2 := hb2.mv hM5 rfl; replace hb3 := hb3.mv hM5 rfl; replace h1 := h1.mv hM5 rfl; replace hT := hT.mv hM5 rfl; replace hJ := hJ.mv hM5 rfl
    replace ho10 := hS
    rw [Int.toNat_natCast, bools_set] at ho10
    refine cnil <| cseq <| cseq <| cregion <| qq (Val.move rfl) rfl <| qq (Val.move rfl) rfl ?_
    obtain ⟨K2, hK2, hyA⟩ := hy pre i _ _ hJ.now hpre
    refine WR.eff (Eff.yieldB rfl rfl hyA) rfl ?_
    rintro _ wY ⟨b, cY, rfl, hMY, hyT, hyF⟩
    replace hb2 := hb2.mv hMY (apart_of hK2 (by simp)); replace hb3 := hb3.mv hMY (apart_of hK2 (by simp)); replace h1 := h1.mv hMY (apart_sub hK2 (by simp))
    replace ho10 := ho10.mv hMY (apart_of hK2 (by simp)); replace hT := hT.mv hMY (apart_of hK2 (by simp))
    clear hJ hyA
    refine qq (Val.not rfl) rfl <| cnil ?_
    refine WC.cond rfl (fun hc7 => ?_) (fun hc7 => ?_)
    ·try simp only [tstS] at hc7
     skip
     refine WC.ret0 rfl ?_
     exact ⟨_, .inr ⟨_, hyF hc7⟩⟩
    ·try simp only [tstS] at hc7
     have hJ : JC (J (pre ++ [i])) [50, 51] cY wY := ⟨hyT hc7, fun _ _ _ _ h m => hJi _ _ _ _ _ h m⟩
     clear hyT hyF hMY
     obtain ⟨hc44, _⟩ := RdC.elFlat h1 hil (by decide)
     have hnl := namesT_len T[i]
     have hne := nmOf_lt (T := T) hil
     refine cskip <| cregion <| qq (Val.move rfl) rfl <| qq (Val.loadB scl52 rfl hb2.blk rfl) rfl <| qq (Val.move rfl) rfl ?_
     first | refine WR.val (Val.indexAddr sl52 (by assumption) rfl rfl rfl (by first | omega | assumption | (simp; omega) | (simp; done)) (by first | omega | assumption | (simp; omega) | (simp; done))) rfl ?_ | refine WR.val (Val.indexC sl52 (by assumption) rfl rfl (by first | omega | assumption | (simp; omega) | (simp; done)) (by first | omega | assumption | (simp; omega) | (simp; done))) rfl ?_ | refine WR.val (Val.indexO sl52 (by assumption) rfl rfl (by first | omega | assumption | (simp; omega) | (simp; done)) (by first | omega | assumption | (simp; omega) | (simp; done))) rfl ?_
     refine qq (Val.loadE agg62 rfl hc44.cel rfl) rfl ?_
     refine WR.eff (Eff.pureC cY 52 (Eff.call pf83 rfl (rnames_ok T[i] (ht _ (List.getElem_mem hil))))) rfl ?_
     rintro v46 w6 ⟨c6, hM6, hx6, hn⟩
     replace hb2 := hb2.mv hM6 rfl; replace hb3 := hb3.mv hM6 rfl; replace h1 := h1.mv hM6 rfl; replace ho10 := ho10.mv hM6 rfl; replace hT := hT.mv hM6 rfl; replace hJ := hJ.mv hM6 rfl; replace hc44 := hc44.mv hM6 rfl
     replace hn := hn.toC hx6
     have hnr : RdS strS _ _ v46 (namesT T[i]) := hn.own.rdStrs namesT_texts (by omega)
     refine WR.eff (Eff.appendT sl23 rfl rfl hT (Src.flat Try.underlying23 hnr) (by rw [maxLen_eq]; first | omega | (simp; omega)) (by first | omega | (simp; omega))) rfl ?_
     rintro v47 w7 ⟨c7, hM7, hOq⟩
     replace hb2 := hb2.mv hM7 rfl; replace hb3 := hb3.mv hM7 rfl; replace h1 := h1.mv hM7 rfl; replace ho10 := ho10.mv hM7 rfl; replace hJ := hJ.mv hM7 rfl; replace hc44 := hc44.mv hM7 rfl; replace hn := hn.mv hM7 rfl
     replace hT := hOq
     refine qq (Val.assign rfl) rfl <| cnil ?_
     rw [← List.flatMap_append, ← List.length_append, ← hne] at hT
     refine ⟨(seen.set i true, t ++ nmOf T i, v47, pre ++ [i]), (by repeat (first | exact Sub.nil _ | refine Sub.cons rfl ?_ | refine Sub.consM rfl ?_)), ⟨_, hb2, hb3, h1, ho10, hT, hJ, by simpa using hsl, by rw [← hpr]; simp, fun x hx => (List.mem_append.1 hx).elim (hto2 x) (nmOf_texts x), by dsimp only; omega⟩, by dsimp only; omega⟩
  ·try simp only [tstS] at hc2
   have htn : todo = [] := by
     cases todo with
     | nil => rfl
     | cons d t => simp at hc2
   subst htn
   rw [bfsL_nil, List.append_nil] at hpr
   refine WC.exit rfl ?_
   refine ⟨_, _, rfl, rfl, ?_⟩
   exact ⟨rfl, _, .inl (by rw [← hpr]; exact hJ.now)⟩

theorem reached_ok {w : World} {v vR : Value} {T : List Thg} {R : List (List UInt8)} (h1 : Rd thgS w v T) (h2 : Rd strS w vR R) :
    Calls Try.prog 119 #[v, vR] w (Ret fun u w' => Below w.heap.size w w' ∧ ∃ b2 b3, u = .func (.func 138) #[] #[.pointer (some ⟨b2, 0, none⟩), .pointer (some ⟨b3, 0, none⟩)] ∧ w.heap.size ≤ b2 ∧ w.heap.size ≤ b3 ∧ Blk w' b2 [v] 52 ∧ Blk w' b3 [vR] 23) := by
  obtain ⟨c, hO, hc⟩ := OldC.start w
  have x1 := h1.cellsV; have x2 := h2.cellsV
  clear hc
  refine enter (n := 6) (res := #[.tmp 4]) Try.func119 rfl rfl rfl rfl ?_
  refine cseq <| cregion ?_
  refine WR.eff (Eff.box1C c 102 rfl (by first | rfl | assumption)) rfl ?_
  rintro _ w1 ⟨b2, c1, rfl, hM1, hb2⟩
  replace hO := hO.mv hM1 rfl
  refine WR.eff (Eff.box1C c1 103 rfl (by first | rfl | assumption)) rfl ?_
  rintro _ w2 ⟨b3, c2, rfl, hM2, hb3⟩
  replace hO := hO.mv hM2 rfl; replace hb2 := hb2.mv hM2 rfl
  refine qq (Val.assign rfl) rfl <| cnil <| cseq <| cregion <| qq (Val.makeFunc rfl) rfl <| qq (Val.assign rfl) rfl <| cnil ?_
  refine WC.ret1 rfl rfl ?_
  refine ⟨hO.below, _, _, rfl, ?_, ?_, hb2.blk, hb3.blk⟩
  · rcases Nat.lt_or_ge b2 w.heap.size with h | h
    · have := hO.col _ h; rw [hb2.col] at this; cases this
    · exact h
  · rcases Nat.lt_or_ge b3 w.heap.size with h | h
    · have := hO.col _ h; rw [hb3.col] at this; cases this
    · exact h
end Go.Proofs.Ytnddlhjafkhdoaa

namespace Go.Proofs.Ytnddlhjafkhdoaa
open Go Go.Eng Go.RowKit Silo TryT

set_option maxHeartbeats 1000000 in
theorem leads_ok {w : World} {v vR : Value} {T : List Thg} {R : List (List UInt8)} (h0 : Rd thgS w v T) (h2 : Rd strS w vR R) (hp : PlainV vR) (hr : RiseT T) (ht : ∀ t ∈ T, t.text.length ≤ 1048576) (hl : T.length ≤ 100000) (hrl : R.length ≤ 1000000) :
    Calls Try.prog 81 #[v, vR] w (Ret fun u w' => Below w.heap.size w w' ∧ Own w' w.heap.size 9 1 u (fromT T R).length ((fromT T R).flatMap fun x => [St x])) := by
  obtain ⟨c, hO, hc⟩ := OldC.start w
  have x1 := h0.cellsV
  have h1 : RdC thgS c w [0] v T := Rd.toC h0 (fun k hk => by simp [hc, hasC])
  replace h2 : RdC strS c w [0] vR R := Rd.toC h2 (fun k hk => by simp [hc, hasC])
  have hok := h0.okFlat
  obtain ⟨_, _, _, hlen⟩ := ordR_spec (T := T) R
  have hod : ∀ x ∈ (ordR T R).map (dgOf T), x.length ≤ 140737488355328 := fun x hx => by
    obtain ⟨i, _, rfl⟩ := List.mem_map.1 hx
    exact dgOf_ok (fun t ht => (hok t ht).1) i
  clear hc h0
  refine enter (n := 22) (res := #[.tmp 4]) Try.func81 rfl rfl rfl rfl ?_
  refine cseq <| cregion ?_
  refine WR.eff (Eff.box1C c 102 rfl (by first | rfl | assumption)) rfl ?_
  rintro _ w1 ⟨b2, c1, rfl, hM1, hb2⟩
  replace hO := hO.mv hM1 rfl; replace h1 := h1.mv hM1 rfl; replace h2 := h2.mv hM1 rfl
  refine qq (Val.assign rfl) rfl <| cnil <| cseq <| cregion ?_
  refine WR.eff (Eff.allocC c1 105 zero23) rfl ?_
  rintro _ w2 ⟨b5, c2, rfl, hM2, hb5⟩
  replace hO := hO.mv hM2 rfl; replace h1 := h1.mv hM2 rfl; replace h2 := h2.mv hM2 rfl; replace hb2 := hb2.mv hM2 rfl
  refine cnil <| cseq <| cseq <| cregion <| qq (Val.loadB scl52 rfl hb2.blk rfl) rfl <| qq (Val.move rfl) rfl ?_
  refine WR.eff (Eff.pureC c2 70 (Eff.call pf119 rfl (reached_ok h1.now h2.now))) rfl ?_
  rintro v9 w3 ⟨c3, hM3, hx3, ⟨p2, p3, rfl, hg2, hg3, hB2, hB3⟩⟩
  replace hO := hO.mv hM3 rfl; replace h1 := h1.mv hM3 rfl; replace h2 := h2.mv hM3 rfl; replace hb2 := hb2.mv hM3 rfl; replace hb5 := hb5.mv hM3 rfl
  have hp2 : BlkC _ _ 70 p2 [v] 52 := ⟨hB2, hx3 _ hg2⟩
  have hp3 : BlkC _ _ 70 p3 [vR] 23 := ⟨hB3, hx3 _ hg3⟩
  refine cnil <| cblock ?_
  refine WC.rangeFunc (α := Nat) (encs := fun i => [I i]) (κ := [50, 51]) (F := [0, 70] ++ [0]) (L := ordR T R)
    (fun pre d A => OldC w d A ∧ BlkC d A 102 b2 [v] 52 ∧ (∃ xv, BlkC d A 105 b5 [xv] 23 ∧ OwnC d A 60 9 1 xv (pre.map (dgOf T)).length ((pre.map (dgOf T)).flatMap fun x => [St x])) ∧ RdC thgS d A [0] v T)
    [] (fun _ _ _ => False) [105, 60] rfl rfl pf138 (reached_iter hp2 hp3 h1 h2 hp hr ht hl hrl) rfl (fun _ => rfl) (by simp) rfl
    (fun s d A d' B ⟨g1, g2, ⟨xv, g3, g4⟩, g5⟩ m => ⟨g1.mv m rfl, g2.mv m rfl, ⟨xv, g3.mv m rfl, g4.mv m rfl⟩, g5.mv m rfl⟩) (fun p hp => by cases hp) (fun s d A d' B h _ => h.elim)
    ⟨hO, hb2, ⟨_, hb5, OwnC.nil _ _ _ _ _⟩, h1⟩ ?_ ?_ ?_ ?_
  ·clear hO h1 h2 hb2 hb5 hp2 hp3 hB2 hB3
   rintro l pre i d A ⟨hO, hb2, ⟨xv, hb5, ho⟩, h1⟩ hpre
   have him : i ∈ ordR T R := hpre.subset (by simp)
   have hil := ordR_lt i him
   have hpl := hpre.length_le
   rw [List.length_append] at hpl
   have cx := ho.cellsV; have ox := ho.oneC
   have hml : (pre.map (dgOf T)).length = pre.length := by simp
   refine cregion <| qq (Val.assign rfl) rfl <| cnil ?_
   refine ⟨_, Acc.refl _ _ _, ?_⟩
   intro A2 hM2
   replace hO := hO.mv hM2 rfl; replace hb2 := hb2.mv hM2 rfl; replace hb5 := hb5.mv hM2 rfl; replace ho := ho.mv hM2 rfl; replace h1 := h1.mv hM2 rfl
   have hA := Acc.refl d A2 [105, 60]
   obtain ⟨hc14, _⟩ := RdC.elFlat h1 hil (by decide)
   refine cblock ?_
   refine WC.regionD (Kp d A2 [60]) [1, 1, 0, 0, 0, 1, 2, 2, 3] [0, 1, 2, 3, 4, 5, 6, 7, 8] mixed (by kernel_rfl) ?_
   have hM4 := Mv.drew d A2 []
   have hCw := Mv.drew d A2 [60]
   generalize A2.drew = w4 at hM4 hCw ⊢
   have hb20 := hb2
   have hb50 := hb5
   have hc140 := hc14
   replace hO := hO.mv hM4 rfl; replace hb2 := hb2.mv hM4 rfl; replace hb5 := hb5.mv hM4 rfl; replace ho := ho.mv hM4 rfl; replace h1 := h1.mv hM4 rfl; replace hA := hA.mv hM4 rfl; replace hc14 := hc14.mv hM4 rfl
   refine qc rfl rfl rfl hCw.kp (fun W hW => Val.loadB scl23 rfl (hb50.kp hW rfl).blk rfl) rfl <| qc rfl rfl rfl hCw.kp (fun W hW => Val.loadB scl52 rfl (hb20.kp hW rfl).blk rfl) rfl <| qd rfl rfl rfl (fun _ => Val.move rfl) rfl ?_
   first | refine WD.val rfl rfl rfl (fun _ => Val.indexAddr sl52 (by assumption) rfl rfl rfl (by first | omega | assumption | (simp; omega) | (simp; done)) (by first | omega | assumption | (simp; omega) | (simp; done))) rfl ?_ | refine WD.val rfl rfl rfl (fun _ => Val.indexC sl52 (by assumption) rfl rfl (by first | omega | assumption | (simp; omega) | (simp; done)) (by first | omega | assumption | (simp; omega) | (simp; done))) rfl ?_ | refine WD.val rfl rfl rfl (fun _ => Val.indexO sl52 (by assumption) rfl rfl (by first | omega | assumption | (simp; omega) | (simp; done)) (by first | omega | assumption | (simp; omega) | (simp; done))) rfl ?_
   first | refine WD.val rfl rfl rfl (fun _ => Val.fieldAddr fld62_0 rfl) rfl ?_ | refine WD.val rfl rfl rfl (fun _ => Val.fieldAddrP fld62_0 rfl) rfl ?_
   refine qc rfl rfl rfl hCw.kp (fun W hW => Val.loadEf scl9 rfl (hc140.kp hW rfl).cel rfl) rfl ?_
   refine WD.eff rfl rfl rfl (Eff.build1C d 117 sl23 rfl rfl rfl rfl rfl) rfl ?_
   rintro _ w5 ⟨b17, c5, rfl, hM5, hb17⟩
   refine ⟨fun hC => hC.step hCw hM5 rfl, ?_⟩
   replace hCw := hCw.tr hM5 rfl
   replace hO := hO.mv hM5 rfl; replace hb2 := hb2.mv hM5 rfl; replace hb5 := hb5.mv hM5 rfl; replace ho := ho.mv hM5 rfl; replace h1 := h1.mv hM5 rfl; replace hA := hA.mv hM5 rfl; replace hc14 := hc14.mv hM5 rfl
   refine WD.eff rfl rfl rfl (Eff.appendC sl23 rfl rfl ho (Src.cellsAt Try.underlying23 hb17.blk.cellsAt rfl (by repeat (first | exact List.forall_mem_nil _ | refine List.forall_mem_cons.2 ⟨by first | rfl | assumption, ?_⟩))) (by rw [maxLen_eq]; first | omega | (simp; omega)) (by first | omega | (simp; omega))) rfl ?_
   rintro v18 w6 ⟨c6, hM6, hOq⟩
   refine ⟨fun hC => hC.step hCw hM6 rfl, ?_⟩
   replace hCw := hCw.tr hM6 rfl
   clear hb17
   replace hO := hO.mv hM6 rfl; replace hb2 := hb2.mv hM6 rfl; replace hb5 := hb5.mv hM6 rfl; replace h1 := h1.mv hM6 rfl; replace hA := hA.mv hM6 rfl; replace hc14 := hc14.mv hM6 rfl
   replace ho := hOq
   have cx2 := ho.cellsV; have ox2 := ho.oneC
   refine WD.wild rfl rfl rfl (Eff.storeC scl23 rfl rfl (by first | rfl | assumption) (by first | rfl | assumption) hb5 rfl) ?_
   rintro _ w7 ⟨hS, hM7⟩
   try replace hCw := hCw.tr hM7 rfl
   replace hO := hO.mv hM7 rfl; replace hb2 := hb2.mv hM7 rfl; replace ho := ho.mv hM7 rfl; replace h1 := h1.mv hM7 rfl; replace hA := hA.mv hM7 rfl; replace hc14 := hc14.mv hM7 rfl
   replace hb5 := hS
   refine WD.nil ?_
   clear hb20 hb50 hc140
   clear hCw
   exact ⟨_, hA, hO, hb2, ⟨_, hb5, by rw [List.map_append, List.flatMap_append, List.length_append, List.map_singleton, dgOf_lt hil]; exact ho⟩, h1⟩
  ·clear hO h1 h2 hb2 hb5 hp2 hp3 hB2 hB3
   rintro D d B ⟨hO, hb2, ⟨xv, hb5, ho⟩, h1⟩ hD
   have hml : ((ordR T R).map (dgOf T)).length = (ordR T R).length := by simp
   refine cseq <| cregion <| qq (Val.loadB scl23 rfl hb5.blk rfl) rfl ?_
   refine WR.eff (Eff.grownO ho (Eff.call pf117 rfl (sortStrs_ok ho.own (by omega)))) rfl ?_
   rintro v20 w8 ⟨c8, hM8, hcol, ho2⟩
   replace hO := hO.mv hM8 rfl; replace hb2 := hb2.mv hM8 rfl; replace hb5 := hb5.mv hM8 rfl; replace hD := hD.mv hM8 rfl
   rw [ordR_sorted hr] at ho2
   replace ho := (⟨ho2, hcol⟩ : OwnC _ _ 60 9 1 xv _ _)
   refine cnil <| cseq <| cregion <| qq (Val.loadB scl23 rfl hb5.blk rfl) rfl <| qq (Val.assign rfl) rfl <| cnil ?_
   obtain ⟨hTk, hMTk⟩ := hD.take
   replace hO := hO.mv hMTk rfl; replace hb2 := hb2.mv hMTk rfl; replace hb5 := hb5.mv hMTk rfl; replace ho := ho.mv hMTk rfl
   refine WC.retMR1 rfl rfl hTk (RVal.tmp rfl) ?_
   exact ⟨hO.below, ho.fromOld hO (by decide)⟩
  ·exact fun p hp => by cases hp
  ·exact fun _ _ _ _ h => h.elim

theorem rfrom_ok {w : World} {v vR : Value} {T : List Thg} {R : List (List UInt8)} (h0 : Rd thgS w v T) (h2 : Rd strS w vR R) (hp : PlainV vR) (hrl : R.length ≤ 1000000) :
    Calls Try.prog 35 #[v, vR] w (Ret fun v' w' => Below w.heap.size w w' ∧ ∃ u, v' = .tuple #[u, I (if thgsMay T then 0 else 1)] ∧ Own w' w.heap.size 9 1 u (if thgsMay T then fromT T R else []).length ((if thgsMay T then fromT T R else []).flatMap fun x => [St x])) := by
  obtain ⟨c, hO, hc⟩ := OldC.start w
  have h1 : RdC thgS c w [0] v T := Rd.toC h0 (fun k hk => by simp [hc, hasC])
  replace h2 : RdC strS c w [0] vR R := Rd.toC h2 (fun k hk => by simp [hc, hasC])
  clear hc h0
  refine enter (n := 12) (res := #[.tmp 4, .tmp 5]) Try.func35 rfl rfl rfl rfl ?_
  refine cseq <| cregion <| qq (Val.assign rfl) rfl <| qq (Val.assign rfl) rfl <| cnil <| cseq <| cseq <| cregion <| qq (Val.move rfl) rfl ?_
  refine WR.eff (Eff.pureC c 1 (Eff.call pf80 rfl (rmay_ok h1.now))) rfl ?_
  rintro v7 w1 ⟨c1, hM1, hx1, rfl⟩
  replace hO := hO.mv hM1 rfl; replace h1 := h1.mv hM1 rfl; replace h2 := h2.mv hM1 rfl
  refine qq (Val.not rfl) rfl <| cnil ?_
  refine WC.cond rfl (fun hc1 => ?_) (fun hc1 => ?_)
  ·try simp only [tstS] at hc1
   refine cseq <| cregion <| qq (Val.assign rfl) rfl <| qq (Val.assign rfl) rfl <| cnil ?_
   refine WC.ret2 rfl rfl rfl ?_
   exact ⟨hO.below, _, by rw [hc1]; rfl, by rw [hc1]; exact Own.nil _ _ _ _⟩
  ·try simp only [tstS] at hc1
   have hb : ∀ t ∈ T, t.text.length ≤ 1048576 := fun t ht => by
     obtain ⟨i, hi, rfl⟩ := List.mem_iff_getElem.1 ht
     have := (thgsMay_at hc1 hi).2.1; omega
   have hl := thgsMay_len hc1
   refine cskip <| cseq <| cregion <| qq (Val.move rfl) rfl <| qq (Val.move rfl) rfl ?_
   refine WR.eff (Eff.pureC c1 7 (Eff.call pf81 rfl (leads_ok h1.now h2.now hp (thgsMay_rise hc1) hb (by omega) hrl))) rfl ?_
   rintro v11 w2 ⟨c2, hM2, hx2, ho⟩
   replace hO := hO.mv hM2 rfl; replace h1 := h1.mv hM2 rfl; replace h2 := h2.mv hM2 rfl
   replace ho := ho.toC hx2
   refine qq (Val.assign rfl) rfl <| qq (Val.assign rfl) rfl <| cnil ?_
   refine WC.ret2 rfl rfl rfl ?_
   exact ⟨hO.below, _, by rw [hc1]; rfl, by rw [hc1]; exact ho.fromOld hO (by decide)⟩

set_option maxHeartbeats 1000000 in
theorem pfrom_ok {w : World} {v vR : Value} {T : List Thg} {R : List (List UInt8)} (h0 : Rd thgS w v T) (h2 : Rd strS w vR R) (ht : ∀ t ∈ T, t.text.length ≤ 1048576) (hl : T.length ≤ 100000) (hrl : R.length ≤ 1000000) :
    Calls Try.prog 49 #[v, vR] w (Ret fun u w' => Below w.heap.size w w' ∧ Own w' w.heap.size 9 1 u (fromT T R).length ((fromT T R).flatMap fun x => [St x])) := by
  obtain ⟨c, hO, hc⟩ := OldC.start w
  have h1 : RdC thgS c w [0] v T := Rd.toC h0 (fun k hk => by simp [hc, hasC])
  have hro := h2.okFlat
  replace h2 : RdC strS c w [0] vR R := Rd.toC h2 (fun k hk => by simp [hc, hasC])
  have hok := h0.okFlat
  clear hc h0
  refine enter (n := 63) (res := #[.tmp 4]) Try.func49 rfl rfl rfl rfl ?_
  refine cseq <| cregion <| qq (Val.assign rfl) rfl <| cnil <| cseq <| cregion <| qq (Val.move rfl) rfl <| qq (Val.rdlenC sl52 h1 rfl) rfl ?_
  refine WR.eff (Eff.makeC c 50 sl97 rfl rfl (by first | omega | assumption | (simp; omega) | (simp; done)) (by first | omega | assumption | (simp; omega) | (simp; done)) (by first | omega | assumption | (simp; omega) | (simp; done))) rfl ?_
  rintro v12 w1 ⟨c1, hM1, ho12⟩
  replace hO := hO.mv hM1 rfl; replace h1 := h1.mv hM1 rfl; replace h2 := h2.mv hM1 rfl
  rw [Int.toNat_natCast, bools_zero] at ho12
  refine qq (Val.assign rfl) rfl <| cnil <| cseq <| cregion <| qq (Val.move rfl) rfl ?_
  refine WR.eff (Eff.pureC c1 51 (Eff.call pf15 rfl (copyStrings_ok h2.now (by omega)))) rfl ?_
  rintro v14 w2 ⟨c2, hM2, hx2, ho14⟩
  replace hO := hO.mv hM2 rfl; replace h1 := h1.mv hM2 rfl; replace h2 := h2.mv hM2 rfl; replace ho12 := ho12.mv hM2 rfl
  replace ho14 := ho14.toC hx2
  refine qq (Val.assign rfl) rfl <| cnil <| cseq <| cblock ?_
  have hT := ho14.tail
  refine WC.loop (σ := List Bool × List (List UInt8) × Value) (fun st => [(0, v), (5, v12), (6, st.2.2)]) (fun st w' => ∃ c', OldC w c' w' ∧ RdC thgS c' w' [0] v T ∧ OwnC c' w' 50 4 1 v12 T.length (st.1.flatMap fun b => [.bool b]) ∧ TailC c' w' 51 9 1 st.2.2 st.2.1.length (st.2.1.flatMap fun x => [St x]) ∧ BInv T R st.1 st.2.1 ∧ (∀ x ∈ st.2.1, x.length ≤ 140737488355328) ∧ bLeft st.1 st.2.1 ≤ R.length + 21 * T.length) (fun st => bLeft st.1 st.2.1) (List.replicate T.length false, R, v14) (by repeat (first | exact Sub.nil _ | refine Sub.cons rfl ?_ | refine Sub.consM rfl ?_)) ⟨_, hO, h1, ho12, hT, BInv.start T R, hro, by simp [bLeft, List.count_replicate_self]⟩ ?_
  clear hO h1 h2 ho12 hT ho14
  rintro ⟨seen, todo, tv⟩ wl ⟨cl, hO, h1, ho12, hT, hI, hto, hbl⟩
  dsimp only at hO h1 ho12 hT hI hto hbl ⊢
  have hsl := hI.len
  obtain ⟨A5, q5, rfl, hq5, _⟩ := hT.own.formA
  have htl : todo.length ≤ R.length + 21 * T.length := by unfold bLeft at hbl; omega
  have hS := OwnC.rdFlat (n' := 1) (enc := fun b => [Value.bool b]) (ok := fun _ => True) (h0 := fun _ => rfl) (h1 := fun _ u hu => by simp at hu; subst hu; rfl) (l := seen) (by rw [hsl]; exact ho12) (by omega) (fun _ _ => trivial)
  refine cseq <| cseq <| cregion <| qq (Val.move rfl) rfl ?_
  first | refine WR.val (Val.rdlen sl23 (by assumption) rfl) rfl ?_ | refine WR.val (Val.sllen Try.underlying23 rfl) rfl ?_ | refine WR.val (Val.olen sl23 (by assumption) rfl) rfl ?_ | refine WR.val (Val.rdlenC sl23 (by assumption) rfl) rfl ?_
  refine qq (Val.gtr rfl rfl) rfl <| cnil ?_
  refine WC.cond rfl (fun hc3 => ?_) (fun hc3 => ?_)
  ·try simp only [tstS] at hc3
   obtain ⟨d, t, rfl⟩ : ∃ d t, todo = d :: t := by
     cases todo with
     | nil => simp at hc3
     | cons d t => exact ⟨d, t, rfl⟩
   have hX : RdC strS cl wl [51] _ (d :: t) := hT.rdFlat (by omega) hto
   have hlen1 : (d :: t).length = t.length + 1 := rfl
   obtain ⟨hc20, _⟩ := RdC.elFlat hX (k := 0) (by simp) (by decide)
   replace hc20 : CelC cl wl [51] (elemA (.slice A5 (d :: t).length q5) 1 0) [St d] := hc20
   refine cskip <| cblock <| cseq <| cregion <| qq (Val.move rfl) rfl <| qq (Val.move rfl) rfl <| qq (Val.indexAddr sl23 hX.now rfl rfl rfl (by omega) (by omega)) rfl <| qq (Val.loadE1 scl9 rfl hc20.cel) rfl ?_
   refine WR.eff (Eff.pureC cl 1 (Eff.call pf38 rfl (at_ok h1.now))) rfl ?_
   rintro v22 w3 ⟨c3, hM3, hx3, rfl⟩
   replace hO := hO.mv hM3 rfl; replace h1 := h1.mv hM3 rfl; replace ho12 := ho12.mv hM3 rfl; replace hT := hT.mv hM3 rfl; replace hX := hX.mv hM3 rfl; replace hc20 := hc20.mv hM3 rfl
   refine qq (Val.assign rfl) rfl <| cnil <| cseq <| cregion <| qq (Val.move rfl) rfl <| qq (Val.partFrom sl23 rfl rfl (by omega) (by omega)) rfl ?_
   replace hT := TailC.rest (enc := fun x => [St x]) hT rfl
   generalize subV (.slice A5 (d :: t).length q5) (1 : Int).toNat (d :: t).length 1 = tw at hT ⊢
   have hto2 : ∀ x ∈ t, x.length ≤ 140737488355328 := fun x hx => hto x (by simp [hx])
   have hS := OwnC.rdFlat (n' := 1) (enc := fun b => [Value.bool b]) (ok := fun _ => True) (h0 := fun _ => rfl) (h1 := fun _ u hu => by simp at hu; subst hu; rfl) (l := seen) (by rw [hsl]; exact ho12) (by omega) (fun _ _ => trivial)
   refine qq (Val.assign rfl) rfl <| cnil <| cseq <| cregion <| qq (Val.move rfl) rfl <| qq (Val.geq rfl rfl) rfl <| qq (Val.move rfl) rfl ?_
   apply WR.sc true 5 _ (fun w' => w3 = w')
   case hl => rfl
   case hg => rfl
   case hu => rfl
   case hv => rfl
   case hs => rfl
   case hoff => rfl
   case hd => rfl
   case hF => exact fun _ => rfl
   case hT =>
    intro hq8
    try simp only [tstS] at hq8
    simp only [List.take_succ_cons, List.take_zero]
    obtain ⟨i0, hi0, hf, hil⟩ := at_find hq8
    have htn : (atT T d).toNat = i0 := by omega
    have hil2 : (atT T d).toNat < seen.length := by omega
    obtain ⟨hc30, _⟩ := RdC.elFlat hS hil2 (by decide)
    have hv1 : ([Value.bool seen[(atT T d).toNat]] : List Value) = [.bool (seen[(atT T d).toNat]?.getD true)] := by rw [List.getElem?_eq_getElem hil2]; rfl
    rw [hv1] at hc30
    refine WR.on rfl rfl ?_
    refine qq (Val.move rfl) rfl ?_
    refine WR.on rfl rfl ?_
    refine qq (Val.move rfl) rfl ?_
    refine WR.on rfl rfl ?_
    refine qq (Val.indexO sl97 ho12 rfl rfl (by omega) (by omega)) rfl ?_
    refine WR.on rfl rfl ?_
    refine qq (Val.loadE1 scl4 rfl hc30.cel) rfl ?_
    refine WR.on rfl rfl ?_
    refine qq (Val.not rfl) rfl ?_
    exact WR.nil ⟨rfl, Sub.drop _ 5 _ rfl rfl, rfl⟩
   rintro _ rfl
   refine cnil ?_
   refine WC.cond rfl (fun hc6 => ?_) (fun hc6 => ?_)
   ·try simp only [tstS] at hc6
    obtain ⟨hc6a, hc6b⟩ := hc6
    obtain ⟨i, hi, hf, hil⟩ := at_find hc6a
    rw [hi] at hc6b ⊢
    rw [Int.toNat_natCast] at hc6b
    have hil2 : i < seen.length := by omega
    have h0 : seen[i] = false := by rw [List.getElem?_eq_getElem hil2] at hc6b; exact hc6b
    have hbv := bLeft_visit (T := T) (d := d) (t := t) hil2 h0
    have hI2 := hI.visit hf
    obtain ⟨hc40, _⟩ := RdC.elFlat h1 hil (by decide)
    have hnl := namesT_len T[i]
    have hne := nmOf_lt (T := T) hil
    refine cseq <| cregion <| qq (Val.move rfl) rfl <| qq (Val.move rfl) rfl <| qq (Val.indexO sl97 ho12 rfl rfl (by omega) (by omega)) rfl ?_
    refine WR.eff_ (Eff.storeOC scl4 ho12 (by first | omega | assumption | (simp; omega) | (simp; done)) rfl rfl (by first | rfl | assumption) (by first | rfl | assumption)) ?_
    rintro _ w4 ⟨hS, hM4⟩
    replace hO := hO.mv hM4 rfl; replace h1 := h1.mv hM4 rfl; replace hT := hT.mv hM4 rfl; replace hc40 := hc40.mv hM4 rfl
    replace ho12 := hS
    rw [Int.toNat_natCast, bools_set] at ho12
    refine cnil <| cregion <| qq (Val.move rfl) rfl <| qq (Val.move rfl) rfl <| qq (Val.move rfl) rfl ?_
    first | refine WR.val (Val.indexAddr sl52 (by assumption) rfl rfl rfl (by first | omega | assumption | (simp; omega) | (simp; done)) (by first | omega | assumption | (simp; omega) | (simp; done))) rfl ?_ | refine WR.val (Val.indexC sl52 (by assumption) rfl rfl (by first | omega | assumption | (simp; omega) | (simp; done)) (by first | omega | assumption | (simp; omega) | (simp; done))) rfl ?_ | refine WR.val (Val.indexO sl52 (by assumption) rfl rfl (by first | omega | assumption | (simp; omega) | (simp; done)) (by first | omega | assumption | (simp; omega) | (simp; done))) rfl ?_
    refine qq (Val.loadE agg62 rfl hc40.cel rfl) rfl ?_
    refine WR.eff (Eff.pureC c3 52 (Eff.call pf40 rfl (named_ok T[i] (ht _ (List.getElem_mem hil))))) rfl ?_
    rintro v42 w5 ⟨c5, hM5, hx5, hn⟩
    replace hO := hO.mv hM5 rfl; replace h1 := h1.mv hM5 rfl; replace ho12 := ho12.mv hM5 rfl; replace hT := hT.mv hM5 rfl; replace hc40 := hc40.mv hM5 rfl
    replace hn := hn.toC hx5
    have hnr : RdS strS _ _ v42 (namesT T[i]) := hn.own.rdStrs namesT_texts (by omega)
    refine WR.eff (Eff.appendT sl23 rfl rfl hT (Src.flat Try.underlying23 hnr) (by rw [maxLen_eq]; first | omega | (simp; omega)) (by first | omega | (simp; omega))) rfl ?_
    rintro v43 w6 ⟨c6, hM6, hOq⟩
    replace hO := hO.mv hM6 rfl; replace h1 := h1.mv hM6 rfl; replace ho12 := ho12.mv hM6 rfl; replace hc40 := hc40.mv hM6 rfl; replace hn := hn.mv hM6 rfl
    replace hT := hOq
    refine qq (Val.assign rfl) rfl <| cnil ?_
    rw [← List.flatMap_append, ← List.length_append, ← hne] at hT
    exact ⟨(seen.set i true, t ++ nmOf T i, v43), (by repeat (first | exact Sub.nil _ | refine Sub.cons rfl ?_ | refine Sub.consM rfl ?_)), ⟨_, hO, h1, ho12, hT, hI2, fun x hx => (List.mem_append.1 hx).elim (hto2 x) (nmOf_texts x), by dsimp only; omega⟩, by dsimp only; omega⟩
   ·try simp only [tstS] at hc6
    have hsk : ∀ j, findT T d = some j → seen[j]? = some true := fun j hj => by
      obtain ⟨hjl, _⟩ := findT_some hj
      have hat : atT T d = j := by rw [atT, hj]
      rw [hat, decide_eq_true (Int.natCast_nonneg j), Int.toNat_natCast, Bool.true_and, List.getElem?_eq_getElem (show j < seen.length by omega)] at hc6
      rw [List.getElem?_eq_getElem (show j < seen.length by omega)]
      simpa using hc6
    have hI2 := hI.skip hsk
    have hbe : bLeft seen (d :: t) = bLeft seen t + 1 := by simp only [bLeft, List.length_cons]; omega
    refine cskip ?_
    exact ⟨(seen, t, tw), (by repeat (first | exact Sub.nil _ | refine Sub.cons rfl ?_ | refine Sub.consM rfl ?_)), ⟨_, hO, h1, ho12, hT, hI2, hto2, by dsimp only; omega⟩, by dsimp only; omega⟩
  ·try simp only [tstS] at hc3
   have htn : todo = [] := by
     cases todo with
     | nil => rfl
     | cons d t => simp at hc3
   subst htn
   have hd := fun (i : Nat) (hi : i < seen.length) => hI.done_get hi
   clear hI hto hbl htl hc3
   refine WC.exit rfl ?_
   refine cseq <| cregion <| qq (Val.assign rfl) rfl <| cnil <| cseq <| cseq <| cregion <| qq (Val.assign rfl) rfl <| cnil ?_
   refine cblock ?_
   refine WC.loop (σ := Nat × Value) (fun st => [(0, v), (5, v12), (8, st.2), (9, I st.1)]) (fun st w' => ∃ c', OldC w c' w' ∧ RdC thgS c' w' [0] v T ∧ OwnC c' w' 50 4 1 v12 T.length (seen.flatMap fun b => [.bool b]) ∧ OwnC c' w' 60 9 1 st.2 (fromUpTo T R st.1).length ((fromUpTo T R st.1).flatMap fun x => [St x]) ∧ st.1 ≤ T.length) (fun st => T.length - st.1) (0, .slice none 0 0) (by repeat (first | exact Sub.nil _ | refine Sub.cons rfl ?_ | refine Sub.consM rfl ?_)) ⟨_, hO, h1, ho12, OwnC.nil _ _ _ _ _, by simp⟩ ?_
   clear hO h1 ho12 hT hS
   rintro ⟨k, xv⟩ wk ⟨ck, hO, h1, ho12, ho, hk⟩
   dsimp only at hO h1 ho12 ho hk ⊢
   have hfl := fromUpTo_len T R k
   have hS := OwnC.rdFlat (n' := 1) (enc := fun b => [Value.bool b]) (ok := fun _ => True) (h0 := fun _ => rfl) (h1 := fun _ u hu => by simp at hu; subst hu; rfl) (l := seen) (by rw [hsl]; exact ho12) (by omega) (fun _ _ => trivial)
   refine cseq <| cseq <| cregion <| qq (Val.move rfl) rfl <| qq (Val.move rfl) rfl ?_
   first | refine WR.val (Val.rdlen sl52 (by assumption) rfl) rfl ?_ | refine WR.val (Val.sllen Try.underlying52 rfl) rfl ?_ | refine WR.val (Val.olen sl52 (by assumption) rfl) rfl ?_ | refine WR.val (Val.rdlenC sl52 (by assumption) rfl) rfl ?_
   refine qq (Val.lss rfl rfl) rfl <| cnil ?_
   refine WC.cond rfl (fun hc11 => ?_) (fun hc11 => ?_)
   ·try simp only [tstS] at hc11
    have ka : k < T.length := by omega
    have kb : k < seen.length := by omega
    obtain ⟨hc52, _⟩ := RdC.elFlat hS kb (by decide)
    obtain ⟨hc57, _⟩ := RdC.elFlat h1 ka (by decide)
    rw [hd k kb] at hc52
    have hfs := fromUpTo_succ T R k
    rw [dgOf_lt ka] at hfs
    refine cskip <| cseq <| cblock <| cseq <| cregion <| qq (Val.move rfl) rfl <| qq (Val.move rfl) rfl <| qq (Val.indexO sl97 ho12 rfl rfl (by omega) (by omega)) rfl <| qq (Val.loadE1 scl4 rfl hc52.cel) rfl ?_
    refine cnil ?_
    refine WC.cond rfl (fun hc13 => ?_) (fun hc13 => ?_)
    ·try simp only [tstS] at hc13
     rw [if_pos hc13] at hfs
     refine cregion <| qq (Val.move rfl) rfl <| qq (Val.move rfl) rfl <| qq (Val.move rfl) rfl ?_
     first | refine WR.val (Val.indexAddr sl52 (by assumption) rfl rfl rfl (by first | omega | assumption | (simp; omega) | (simp; done)) (by first | omega | assumption | (simp; omega) | (simp; done))) rfl ?_ | refine WR.val (Val.indexC sl52 (by assumption) rfl rfl (by first | omega | assumption | (simp; omega) | (simp; done)) (by first | omega | assumption | (simp; omega) | (simp; done))) rfl ?_ | refine WR.val (Val.indexO sl52 (by assumption) rfl rfl (by first | omega | assumption | (simp; omega) | (simp; done)) (by first | omega | assumption | (simp; omega) | (simp; done))) rfl ?_
     first | refine WR.val (Val.fieldAddr fld62_0 rfl) rfl ?_ | refine WR.val (Val.fieldAddrP fld62_0 rfl) rfl ?_
     refine qq (Val.loadEf scl9 rfl hc57.cel rfl) rfl ?_
     refine WR.eff (Eff.build1C ck 160 sl23 rfl rfl rfl rfl rfl) rfl ?_
     rintro _ w7 ⟨b60, c7, rfl, hM7, hb60⟩
     replace hO := hO.mv hM7 rfl; replace h1 := h1.mv hM7 rfl; replace ho12 := ho12.mv hM7 rfl; replace ho := ho.mv hM7 rfl; replace hc52 := hc52.mv hM7 rfl; replace hc57 := hc57.mv hM7 rfl
     refine WR.eff (Eff.appendC sl23 rfl rfl ho (Src.cellsAt Try.underlying23 hb60.blk.cellsAt rfl (by repeat (first | exact List.forall_mem_nil _ | refine List.forall_mem_cons.2 ⟨by first | rfl | assumption, ?_⟩))) (by rw [maxLen_eq]; first | omega | (simp; omega)) (by first | omega | (simp; omega))) rfl ?_
     rintro v61 w8 ⟨c8, hM8, hOq⟩
     clear hb60
     replace hO := hO.mv hM8 rfl; replace h1 := h1.mv hM8 rfl; replace ho12 := ho12.mv hM8 rfl; replace hc52 := hc52.mv hM8 rfl; replace hc57 := hc57.mv hM8 rfl
     replace ho := hOq
     refine qq (Val.assign rfl) rfl <| cnil <| cregion <| qq (Val.move rfl) rfl <| qq (Val.addI rfl rfl (by first | omega | assumption | (simp; omega) | (simp; done)) (by first | omega | assumption | (simp; omega) | (simp; done))) rfl <| qq (Val.assign rfl) rfl <| cnil ?_
     first
     | exact ⟨(k + 1, xv), (by repeat (first | exact Sub.nil _ | refine Sub.cons rfl ?_ | refine Sub.consM rfl ?_)), ⟨_, hO, h1, ho12, by rw [hfs]; exact ho, ka⟩, by dsimp only; omega⟩
     | exact ⟨(k + 1, v61), (by repeat (first | exact Sub.nil _ | refine Sub.cons rfl ?_ | refine Sub.consM rfl ?_)), ⟨_, hO, h1, ho12, by rw [hfs, List.flatMap_append, List.length_append]; exact ho, ka⟩, by dsimp only; omega⟩
    ·try simp only [tstS] at hc13
     rw [if_neg (by rw [hc13]; decide)] at hfs
     refine cskip <| cregion <| qq (Val.move rfl) rfl <| qq (Val.addI rfl rfl (by first | omega | assumption | (simp; omega) | (simp; done)) (by first | omega | assumption | (simp; omega) | (simp; done))) rfl <| qq (Val.assign rfl) rfl <| cnil ?_
     first
     | exact ⟨(k + 1, xv), (by repeat (first | exact Sub.nil _ | refine Sub.cons rfl ?_ | refine Sub.consM rfl ?_)), ⟨_, hO, h1, ho12, by rw [hfs]; exact ho, ka⟩, by dsimp only; omega⟩
     | exact ⟨(k + 1, v61), (by repeat (first | exact Sub.nil _ | refine Sub.cons rfl ?_ | refine Sub.consM rfl ?_)), ⟨_, hO, h1, ho12, by rw [hfs, List.flatMap_append, List.length_append]; exact ho, ka⟩, by dsimp only; omega⟩
   ·try simp only [tstS] at hc11
    have : k = T.length := by omega
    subst this
    refine WC.exit rfl ?_
    refine cseq <| cregion <| qq (Val.move rfl) rfl <| qq (Val.assign rfl) rfl <| cnil ?_
    refine WC.ret1 rfl rfl ?_
    exact ⟨hO.below, ho.fromOld hO (by decide)⟩
end Go.Proofs.Ytnddlhjafkhdoaa

namespace Silo
open Go Go.Eng
def okT (T : List Thg) (told : List Nat) (d : List UInt8) : Bool := match findT T d with | none => true | some k => decide (k ∈ told)
theorem readyT_eq (T : List Thg) (told : List Nat) (i : Nat) : readyT T told i = (nmOf T i).all (okT T told) := rfl
def tbs (T : List Thg) (tl : List Nat) : List Bool := (List.range T.length).map fun i => decide (i ∈ tl)
theorem tbs_len (T : List Thg) (tl : List Nat) : (tbs T tl).length = T.length := by simp [tbs]
theorem tbs_get {T : List Thg} {tl : List Nat} {i : Nat} (hi : i < T.length) : (tbs T tl)[i]? = some (decide (i ∈ tl)) := by
  rw [tbs, List.getElem?_map, List.getElem?_range hi]; rfl
theorem tbs_start (T : List Thg) : tbs T [] = List.replicate T.length false := by
  apply List.ext_getElem?
  intro i
  rcases Nat.lt_or_ge i T.length with h | h
  · rw [tbs_get h, List.getElem?_replicate, if_pos h]; rfl
  · rw [List.getElem?_eq_none (by rw [tbs_len]; exact h), List.getElem?_eq_none (by simpa using h)]
theorem tbs_set (T : List Thg) (tl : List Nat) (i : Nat) : (tbs T tl).set i true = tbs T (tl ++ [i]) := by
  apply List.ext_getElem?
  intro j
  rcases Nat.lt_or_ge j T.length with h | h
  · rw [tbs_get h, List.getElem?_set, tbs_len, tbs_get h]
    by_cases e : i = j
    · subst e; simp [h]
    · simp [e]; simp [show ¬ j = i from fun h => e h.symm]
  · rw [List.getElem?_eq_none (by rw [List.length_set, tbs_len]; exact h), List.getElem?_eq_none (by rw [tbs_len]; exact h)]
theorem orderGo_step {T : List Thg} {n i : Nat} {tl : List Nat} (h : nextT T tl = some i) (hn : tl.length < n) : orderGo T (n - tl.length) tl = orderGo T (n - (tl ++ [i]).length) (tl ++ [i]) := by
  have e : n - tl.length = (n - (tl.length + 1)) + 1 := by omega
  rw [e, orderGo, h]
  simp
theorem orderGo_none {T : List Thg} {n : Nat} {tl : List Nat} (h : nextT T tl = none) (hn : tl.length < n) : orderGo T (n - tl.length) tl = none := by
  have e : n - tl.length = (n - (tl.length + 1)) + 1 := by omega
  rw [e, orderGo, h]
theorem orderGo_done {T : List Thg} {n : Nat} {tl : List Nat} (hn : ¬ tl.length < n) : orderGo T (n - tl.length) tl = some tl := by
  rw [show n - tl.length = 0 by omega]; rfl
theorem has_told {T : List Thg} (hr : RiseT T) {told : List Nat} (hl : ∀ j ∈ told, j < T.length) {i : Nat} (hi : i < T.length) : (told.map (dgOf T)).contains T[i].digest = decide (i ∈ told) := by
  rw [Bool.eq_iff_iff, List.contains_iff_mem, decide_eq_true_eq, List.mem_map]
  constructor
  · rintro ⟨j, hj, e⟩
    rw [dgOf_lt (hl j hj)] at e
    rw [← hr.inj (hl j hj) hi e]; exact hj
  · intro h; exact ⟨i, h, dgOf_lt hi⟩
theorem okT_page {T : List Thg} (hr : RiseT T) {told : List Nat} (hl : ∀ j ∈ told, j < T.length) (d : List UInt8) : (decide (atT T d < 0) || (told.map (dgOf T)).contains d) = okT T told d := by
  unfold atT okT
  cases hf : findT T d with
  | none => rfl
  | some i =>
    obtain ⟨hi, e⟩ := findT_some hf
    have := has_told hr hl hi
    rw [e] at this
    rw [this, decide_eq_false (show ¬ (i : Int) < 0 by omega)]; rfl
theorem noStep {T : List Thg} {tl : List Nat} {k : Nat} (hno : ∀ j, j < k → j ∈ tl ∨ readyT T tl j = false) (h : k ∈ tl ∨ readyT T tl k = false) : ∀ j, j < k + 1 → j ∈ tl ∨ readyT T tl j = false := fun j hj => by
  rcases Nat.lt_or_ge j k with h2 | h2
  · exact hno j h2
  · have : j = k := by omega
    subst this; exact h
/-- What an order's asking tells. -/
def ordE (T : List Thg) : Int := if thgsMay T then (if (orderT T).isSome then 0 else 7) else 1
def ordX (T : List Thg) : List (List UInt8) := if thgsMay T then (orderT T).getD [] else []
end Silo
namespace Go.Proofs.Ytnddlhjafkhdoaa
open Go Go.Eng Go.RowKit Silo TryT

set_option maxHeartbeats 2000000 in
theorem rorder_ok {w : World} {v : Value} {T : List Thg} (h0 : Rd thgS w v T) :
    Calls Try.prog 44 #[v] w (Ret fun v' w' => Below w.heap.size w w' ∧ ∃ u, v' = .tuple #[u, I (ordE T)] ∧ Own w' w.heap.size 9 1 u (ordX T).length ((ordX T).flatMap fun x => [St x])) := by
  obtain ⟨c, hO, hc⟩ := OldC.start w
  have h1 : RdC thgS c w [0] v T := Rd.toC h0 (fun k hk => by simp [hc, hasC])
  have hsm := h0.small
  clear hc h0
  refine enter (n := 66) (res := #[.tmp 2, .tmp 3]) Try.func44 rfl rfl rfl rfl ?_
  refine cseq <| cregion <| qq (Val.assign rfl) rfl <| qq (Val.assign rfl) rfl <| cnil ?_
  refine WC.scope ?_
  refine cseq <| cseq <| cregion <| qq (Val.move rfl) rfl ?_
  refine WR.eff (Eff.pureC c 1 (Eff.call pf80 rfl (rmay_ok h1.now))) rfl ?_
  rintro v13 w1 ⟨c1, hM1, hx1, rfl⟩
  replace hO := hO.mv hM1 rfl; replace h1 := h1.mv hM1 rfl
  refine qq (Val.not rfl) rfl <| cnil ?_
  refine WC.cond rfl (fun hc1 => ?_) (fun hc1 => ?_)
  ·try simp only [tstS] at hc1
   refine cseq <| cregion <| qq (Val.assign rfl) rfl <| qq (Val.assign rfl) rfl <| cnil ?_
   refine WC.ret2 rfl rfl rfl ?_
   exact ⟨hO.below, _, by rw [ordE, hc1]; rfl, by rw [ordX, hc1]; exact Own.nil _ _ _ _⟩
  ·try simp only [tstS] at hc1
   have hb : ∀ t ∈ T, t.text.length ≤ 1048576 := fun t ht => by
     obtain ⟨i, hi, rfl⟩ := List.mem_iff_getElem.1 ht
     have := (thgsMay_at hc1 hi).2.1; omega
   have hl := thgsMay_len hc1
   have hr := thgsMay_rise hc1
   refine cskip <| cseq <| cregion <| qq (Val.move rfl) rfl <| qq (Val.rdlenC sl52 h1 rfl) rfl ?_
   refine WR.eff (Eff.makeC c1 50 sl97 rfl rfl (by first | omega | assumption | (simp; omega) | (simp; done)) (by first | omega | assumption | (simp; omega) | (simp; done)) (by first | omega | assumption | (simp; omega) | (simp; done))) rfl ?_
   rintro v17 w2 ⟨c2, hM2, ho17⟩
   replace hO := hO.mv hM2 rfl; replace h1 := h1.mv hM2 rfl
   rw [Int.toNat_natCast, bools_zero, ← tbs_start] at ho17
   refine qq (Val.assign rfl) rfl <| cnil <| cseq <| cregion <| qq (Val.assign rfl) rfl <| cnil <| cseq ?_
   refine WC.label ?_
   refine cseq <| cblock ?_
   refine WC.loop (σ := List Nat × Value) (fun st => [(0, v), (4, v17), (5, st.2)]) (fun st w' => ∃ c', OldC w c' w' ∧ RdC thgS c' w' [0] v T ∧ OwnC c' w' 50 4 1 v17 T.length ((tbs T st.1).flatMap fun b => [.bool b]) ∧ OwnC c' w' 60 9 1 st.2 (st.1.map (dgOf T)).length ((st.1.map (dgOf T)).flatMap fun x => [St x]) ∧ (∀ j ∈ st.1, j < T.length) ∧ orderGo T (T.length - st.1.length) st.1 = orderGo T T.length []) (fun st => T.length - st.1.length) ([], .slice none 0 0) (by repeat (first | exact Sub.nil _ | refine Sub.cons rfl ?_ | refine Sub.consM rfl ?_)) ⟨_, hO, h1, ho17, OwnC.nil _ _ _ _ _, by simp, rfl⟩ ?_
   clear hO h1 ho17
   rintro ⟨tl, xv⟩ wl ⟨cl, hO, h1, ho17, ho, htl, hgo⟩
   dsimp only at hO h1 ho17 ho htl hgo ⊢
   have hml : (tl.map (dgOf T)).length = tl.length := by simp
   refine cseq <| cseq <| cregion <| qq (Val.move rfl) rfl <| qq (Val.olen sl23 ho rfl) rfl <| qq (Val.move rfl) rfl <| qq (Val.rdlenC sl52 h1 rfl) rfl <| qq (Val.lss rfl rfl) rfl <| cnil ?_
   refine WC.cond rfl (fun hc5 => ?_) (fun hc5 => ?_)
   ·try simp only [tstS] at hc5
    have htlt : tl.length < T.length := by omega
    refine cskip <| cblock ?_
    refine WC.scope ?_
    refine cseq ?_
    refine WC.label ?_
    refine cseq <| cseq <| cregion <| qq (Val.move rfl) rfl <| qq (Val.rdlenC sl52 h1 rfl) rfl <| qq (Val.move rfl) rfl <| cnil <| cblock ?_
    refine WC.loop (σ := Nat) (fun k => [(0, v), (4, v17), (5, xv), (23, v), (24, I T.length), (25, I k)]) (fun k w' => ∃ c', OldC w c' w' ∧ RdC thgS c' w' [0] v T ∧ OwnC c' w' 50 4 1 v17 T.length ((tbs T tl).flatMap fun b => [.bool b]) ∧ OwnC c' w' 60 9 1 xv (tl.map (dgOf T)).length ((tl.map (dgOf T)).flatMap fun x => [St x]) ∧ k ≤ T.length ∧ ∀ j, j < k → j ∈ tl ∨ readyT T tl j = false) (fun k => T.length - k) 0 (by repeat (first | exact Sub.nil _ | refine Sub.cons rfl ?_ | refine Sub.consM rfl ?_)) ⟨_, hO, h1, ho17, ho, by omega, fun j h => absurd h (Nat.not_lt_zero _)⟩ ?_
    clear hO h1 ho17 ho
    rintro k wk ⟨ck, hO, h1, ho17, ho, hk, hno⟩
    refine cseq <| cregion <| qq (Val.lss rfl rfl) rfl <| cnil <| cseq ?_
    refine WC.cond rfl (fun hc7 => ?_) (fun hc7 => ?_)
    ·try simp only [tstS] at hc7
     have ka : k < T.length := by omega
     obtain ⟨hc28, _⟩ := RdC.elFlat h1 ka (by decide)
     have hS := OwnC.rdFlat (n' := 1) (enc := fun b => [Value.bool b]) (ok := fun _ => True) (h0 := fun _ => rfl) (h1 := fun _ u hu => by simp at hu; subst hu; rfl) (l := tbs T tl) (by rw [tbs_len]; exact ho17) (by rw [tbs_len]; omega) (fun _ _ => trivial)
     have kt : k < (tbs T tl).length := by rw [tbs_len]; exact ka
     have hg := tbs_get (tl := tl) ka
     rw [List.getElem?_eq_getElem kt, Option.some.injEq] at hg
     obtain ⟨hc32, _⟩ := RdC.elFlat hS kt (by decide)
     rw [hg] at hc32
     clear hg hS
     refine cskip <| cseq <| cblock <| cseq <| cregion <| qq (Val.move rfl) rfl ?_
     first | refine WR.val (Val.indexAddr sl52 (by assumption) rfl rfl rfl (by first | omega | assumption | (simp; omega) | (simp; done)) (by first | omega | assumption | (simp; omega) | (simp; done))) rfl ?_ | refine WR.val (Val.indexC sl52 (by assumption) rfl rfl (by first | omega | assumption | (simp; omega) | (simp; done)) (by first | omega | assumption | (simp; omega) | (simp; done))) rfl ?_ | refine WR.val (Val.indexO sl52 (by assumption) rfl rfl (by first | omega | assumption | (simp; omega) | (simp; done)) (by first | omega | assumption | (simp; omega) | (simp; done))) rfl ?_
     refine qq (Val.loadE agg62 rfl hc28.cel rfl) rfl ?_
     refine WR.eff (Eff.allocC ck 107 zero62) rfl ?_
     rintro _ w3 ⟨b7, c3, rfl, hM3, hb7⟩
     replace hO := hO.mv hM3 rfl; replace h1 := h1.mv hM3 rfl; replace ho17 := ho17.mv hM3 rfl; replace ho := ho.mv hM3 rfl; replace hc28 := hc28.mv hM3 rfl; replace hc32 := hc32.mv hM3 rfl
     refine qq (Val.assign rfl) rfl ?_
     refine WR.eff_ (Eff.storeNC agg62 rfl rfl hb7 rfl rfl (by repeat (first | exact List.forall_mem_nil _ | refine List.forall_mem_cons.2 ⟨by first | rfl | assumption, ?_⟩))) ?_
     rintro _ w4 ⟨hS, hM4⟩
     replace hO := hO.mv hM4 rfl; replace h1 := h1.mv hM4 rfl; replace ho17 := ho17.mv hM4 rfl; replace ho := ho.mv hM4 rfl; replace hc28 := hc28.mv hM4 rfl; replace hc32 := hc32.mv hM4 rfl
     replace hb7 := hS
     refine cnil <| cseq <| cseq <| cregion <| qq (Val.move rfl) rfl <| qq (Val.move rfl) rfl <| qq (Val.indexO sl97 ho17 rfl rfl (by omega) (by omega)) rfl <| qq (Val.loadE1 scl4 rfl hc32.cel) rfl <| cnil ?_
     refine WC.cond rfl (fun hc9 => ?_) (fun hc9 => ?_)
     ·try simp only [tstS] at hc9
      have hbad : k ∈ tl ∨ readyT T tl k = false := .inl hc9
      refine WC.exit rfl ?_
      refine cregion <| qq (Val.addI rfl rfl (by first | omega | assumption | (simp; omega) | (simp; done)) (by first | omega | assumption | (simp; omega) | (simp; done))) rfl <| qq (Val.move rfl) rfl <| cnil ?_
      exact ⟨k + 1, (by repeat (first | exact Sub.nil _ | refine Sub.cons rfl ?_ | refine Sub.consM rfl ?_)), ⟨_, hO, h1, ho17, ho, ka, fun j h => by
        rcases Nat.lt_or_ge j k with h2 | h2
        · exact hno j h2
        · have : j = k := by omega
          subst this; exact hbad⟩, by omega⟩
     ·try simp only [tstS] at hc9
      have hnk : k ∉ tl := hc9
      refine cskip <| cseq <| cseq <| cregion <| qq (Val.loadBN agg62 rfl hb7.blk rfl) rfl ?_
      refine WR.eff (Eff.pureC c3 52 (Eff.call pf83 rfl (rnames_ok T[k] (hb _ (List.getElem_mem ka))))) rfl ?_
      rintro v35 w5 ⟨c5, hM5, hx5, hn⟩
      replace hO := hO.mv hM5 rfl; replace h1 := h1.mv hM5 rfl; replace ho17 := ho17.mv hM5 rfl; replace ho := ho.mv hM5 rfl; replace hb7 := hb7.mv hM5 rfl
      replace hn := hn.toC hx5
      have hnl := namesT_len T[k]
      have hNm : RdC strS _ _ [52] v35 (namesT T[k]) := hn.rdFlat (by omega) namesT_texts
      refine qq (Val.rdlenC sl23 hNm rfl) rfl <| qq (Val.move rfl) rfl <| cnil <| cblock ?_
      refine WC.loop (σ := Nat) (fun m => [(0, v), (4, v17), (5, xv), (6, I k), (7, .pointer (some ⟨b7, 0, none⟩)), (23, v), (24, I T.length), (25, I k), (35, v35), (36, I (namesT T[k]).length), (37, I m)]) (fun m w' => ∃ c', OldC w c' w' ∧ RdC thgS c' w' [0] v T ∧ OwnC c' w' 50 4 1 v17 T.length ((tbs T tl).flatMap fun b => [.bool b]) ∧ OwnC c' w' 60 9 1 xv (tl.map (dgOf T)).length ((tl.map (dgOf T)).flatMap fun x => [St x]) ∧ BlkC c' w' 107 b7 (encThg T[k]) 62 ∧ RdC strS c' w' [52] v35 (namesT T[k]) ∧ m ≤ (namesT T[k]).length ∧ ∀ q (hq : q < (namesT T[k]).length), q < m → okT T tl (namesT T[k])[q] = true) (fun m => (namesT T[k]).length - m) 0 (by repeat (first | exact Sub.nil _ | refine Sub.cons rfl ?_ | refine Sub.consM rfl ?_)) ⟨_, hO, h1, ho17, ho, hb7, hNm, by omega, fun q _ h => absurd h (Nat.not_lt_zero _)⟩ ?_
      clear hO h1 ho17 ho hb7 hNm hn
      rintro m wm ⟨cm, hO, h1, ho17, ho, hb7, hNm, hm, hok⟩
      refine cseq <| cregion <| qq (Val.lss rfl rfl) rfl <| cnil <| cseq ?_
      refine WC.cond rfl (fun hc11 => ?_) (fun hc11 => ?_)
      ·try simp only [tstS] at hc11
       have km : m < (namesT T[k]).length := by omega
       obtain ⟨hc39, _⟩ := RdC.elFlat hNm km (by decide)
       refine cskip <| cseq <| cblock <| cseq <| cregion <| qq (Val.indexAddr sl23 hNm.now rfl rfl rfl (by omega) (by omega)) rfl <| qq (Val.loadE1 scl9 rfl hc39.cel) rfl <| qq (Val.assign rfl) rfl <| cnil ?_
       refine cseq <| cregion <| qq (Val.move rfl) rfl <| qq (Val.move rfl) rfl ?_
       refine WR.eff (Eff.pureC cm 1 (Eff.call pf84 rfl (rfind_ok h1.now hr))) rfl ?_
       rintro v44 w6 ⟨c6, hM6, hx6, rfl⟩
       replace hO := hO.mv hM6 rfl; replace h1 := h1.mv hM6 rfl; replace ho17 := ho17.mv hM6 rfl; replace ho := ho.mv hM6 rfl; replace hb7 := hb7.mv hM6 rfl; replace hNm := hNm.mv hM6 rfl; replace hc39 := hc39.mv hM6 rfl
       have hS := OwnC.rdFlat (n' := 1) (enc := fun b => [Value.bool b]) (ok := fun _ => True) (h0 := fun _ => rfl) (h1 := fun _ u hu => by simp at hu; subst hu; rfl) (l := tbs T tl) (by rw [tbs_len]; exact ho17) (by rw [tbs_len]; omega) (fun _ _ => trivial)
       refine qq (Val.move rfl) rfl <| qq (Val.extract rfl rfl) rfl <| qq (Val.extract rfl rfl) rfl <| qq (Val.assign rfl) rfl <| qq (Val.assign rfl) rfl <| cnil <| cseq <| cregion <| qq (Val.move rfl) rfl ?_
       refine qq (Val.move rfl) rfl ?_
       apply WR.sc true 5 _ (fun w' => w6 = w')
       case hl => rfl
       case hg => rfl
       case hu => rfl
       case hv => rfl
       case hs => rfl
       case hoff => rfl
       case hd => rfl
       case hF => exact fun _ => rfl
       case hT =>
        intro hq7
        try simp only [tstS] at hq7
        simp only [List.take_succ_cons, List.take_zero]
        obtain ⟨hf, hil⟩ := find_low hr hq7
        have kt : lowT T (namesT T[k])[m] < (tbs T tl).length := by rw [tbs_len]; exact hil
        have hg := tbs_get (tl := tl) hil
        rw [List.getElem?_eq_getElem kt, Option.some.injEq] at hg
        obtain ⟨hc51, _⟩ := RdC.elFlat hS kt (by decide)
        rw [hg] at hc51
        refine WR.on rfl rfl ?_
        refine qq (Val.move rfl) rfl ?_
        refine WR.on rfl rfl ?_
        refine qq (Val.move rfl) rfl ?_
        refine WR.on rfl rfl ?_
        refine qq (Val.indexO sl97 ho17 rfl rfl (by omega) (by omega)) rfl ?_
        refine WR.on rfl rfl ?_
        refine qq (Val.loadE1 scl4 rfl hc51.cel) rfl ?_
        refine WR.on rfl rfl ?_
        refine qq (Val.not rfl) rfl ?_
        exact WR.nil ⟨rfl, Sub.drop _ 5 _ rfl rfl, rfl⟩
       rintro _ rfl
       refine cnil ?_
       refine WC.cond rfl (fun hc14 => ?_) (fun hc14 => ?_)
       ·try simp only [tstS] at hc14
        obtain ⟨hc14a, hc14b⟩ := hc14
        obtain ⟨hf, hil⟩ := find_low hr hc14a
        have hbad : k ∈ tl ∨ readyT T tl k = false := .inr (by
          rw [readyT_eq, nmOf_lt ka, List.all_eq_false]
          refine ⟨_, List.getElem_mem km, ?_⟩
          rw [okT, hf]
          simpa using hc14b)
        refine WC.exit rfl ?_
        refine cregion <| qq (Val.addI rfl rfl (by first | omega | assumption | (simp; omega) | (simp; done)) (by first | omega | assumption | (simp; omega) | (simp; done))) rfl <| qq (Val.move rfl) rfl <| cnil ?_
        exact ⟨k + 1, (by repeat (first | exact Sub.nil _ | refine Sub.cons rfl ?_ | refine Sub.consM rfl ?_)), ⟨_, hO, h1, ho17, ho, ka, fun j h => by
          rcases Nat.lt_or_ge j k with h2 | h2
          · exact hno j h2
          · have : j = k := by omega
            subst this; exact hbad⟩, by omega⟩
       ·try simp only [tstS] at hc14
        have hyes : okT T tl (namesT T[k])[m] = true := by
          rw [okT]
          cases hf : findT T (namesT T[k])[m] with
          | none => rfl
          | some i =>
            have hlo := lowT_find hr hf
            rw [hf, hlo] at hc14
            simpa using hc14
        refine cskip <| cregion <| qq (Val.addI rfl rfl (by first | omega | assumption | (simp; omega) | (simp; done)) (by first | omega | assumption | (simp; omega) | (simp; done))) rfl <| qq (Val.move rfl) rfl <| cnil ?_
        exact ⟨m + 1, (by repeat (first | exact Sub.nil _ | refine Sub.cons rfl ?_ | refine Sub.consM rfl ?_)), ⟨_, hO, h1, ho17, ho, hb7, hNm, km, fun q hq h => by
          rcases Nat.lt_or_ge q m with h2 | h2
          · exact hok q hq h2
          · have : q = m := by omega
            subst this; exact hyes⟩, by omega⟩
      ·try simp only [tstS] at hc11
       have hmm : m = (namesT T[k]).length := by omega
       have hrd : readyT T tl k = true := by
         rw [readyT_eq, nmOf_lt ka, List.all_eq_true]
         intro x hx
         obtain ⟨q, hq, rfl⟩ := List.mem_iff_getElem.1 hx
         exact hok q hq (by omega)
       have hnx := nextT_at ka hnk hrd hno
       have hgs := orderGo_step (n := T.length) hnx htlt
       have htl2 : ∀ j ∈ tl ++ [k], j < T.length := fun j hj => by
         rcases List.mem_append.1 hj with h | h
         · exact htl j h
         · simp at h; subst h; exact ka
       refine WC.exit rfl ?_
       refine cseq <| cregion <| qq (Val.move rfl) rfl <| qq (Val.move rfl) rfl <| qq (Val.indexO sl97 ho17 rfl rfl (by omega) (by omega)) rfl ?_
       refine WR.eff_ (Eff.storeOC scl4 ho17 (by first | omega | assumption | (simp; omega) | (simp; done)) rfl rfl (by first | rfl | assumption) (by first | rfl | assumption)) ?_
       rintro _ w7 ⟨hS, hM7⟩
       replace hO := hO.mv hM7 rfl; replace h1 := h1.mv hM7 rfl; replace ho := ho.mv hM7 rfl; replace hb7 := hb7.mv hM7 rfl
       replace ho17 := hS
       rw [Int.toNat_natCast, bools_set, tbs_set] at ho17
       refine cnil <| cseq <| cregion <| qq (Val.move rfl) rfl ?_
       first | refine WR.val (Val.fieldAddr fld62_0 rfl) rfl ?_ | refine WR.val (Val.fieldAddrP fld62_0 rfl) rfl ?_
       refine qq (Val.loadB scl9 rfl hb7.blk rfl) rfl ?_
       refine WR.eff (Eff.build1C cm 162 sl23 rfl rfl rfl rfl rfl) rfl ?_
       rintro _ w8 ⟨b62, c8, rfl, hM8, hb62⟩
       replace hO := hO.mv hM8 rfl; replace h1 := h1.mv hM8 rfl; replace ho17 := ho17.mv hM8 rfl; replace ho := ho.mv hM8 rfl; replace hb7 := hb7.mv hM8 rfl
       refine WR.eff (Eff.appendC sl23 rfl rfl ho (Src.cellsAt Try.underlying23 hb62.blk.cellsAt rfl (by repeat (first | exact List.forall_mem_nil _ | refine List.forall_mem_cons.2 ⟨by first | rfl | assumption, ?_⟩))) (by rw [maxLen_eq]; first | omega | (simp; omega)) (by first | omega | (simp; omega))) rfl ?_
       rintro v63 w9 ⟨c9, hM9, hOq⟩
       clear hb62
       replace hO := hO.mv hM9 rfl; replace h1 := h1.mv hM9 rfl; replace ho17 := ho17.mv hM9 rfl; replace hb7 := hb7.mv hM9 rfl
       replace ho := hOq
       refine qq (Val.assign rfl) rfl <| cnil ?_
       refine WC.exit rfl ?_
       exact ⟨(tl ++ [k], v63), (by repeat (first | exact Sub.nil _ | refine Sub.cons rfl ?_ | refine Sub.consM rfl ?_)), ⟨_, hO, h1, ho17, by rw [List.map_append, List.flatMap_append, List.length_append, List.map_singleton, dgOf_lt ka]; exact ho, htl2, by rw [← hgs]; exact hgo⟩, by simp; omega⟩
    ·try simp only [tstS] at hc7
     have hkk : k = T.length := by omega
     have hnx : nextT T tl = none := nextT_none fun j hj => hno j (by omega)
     have hon : orderT T = none := by rw [orderT, ← hgo, orderGo_none hnx htlt]; rfl
     refine WC.exit rfl ?_
     refine cseq <| cregion <| qq (Val.assign rfl) rfl <| qq (Val.assign rfl) rfl <| cnil ?_
     refine WC.ret2 rfl rfl rfl ?_
     exact ⟨hO.below, _, by rw [ordE, hc1, hon]; rfl, by rw [ordX, hc1, hon]; exact Own.nil _ _ _ _⟩
   ·try simp only [tstS] at hc5
    have hos : orderT T = some (tl.map (dgOf T)) := by rw [orderT, ← hgo, orderGo_done (by omega)]; rfl
    refine WC.exit rfl ?_
    refine cseq <| cregion <| qq (Val.move rfl) rfl <| qq (Val.assign rfl) rfl <| qq (Val.assign rfl) rfl <| cnil ?_
    refine WC.ret2 rfl rfl rfl ?_
    exact ⟨hO.below, _, by rw [ordE, hc1, hos]; rfl, by rw [ordX, hc1, hos]; exact ho.fromOld hO (by decide)⟩

set_option maxHeartbeats 2000000 in
theorem porder_ok {w : World} {v : Value} {T : List Thg} (h0 : Rd thgS w v T) (hmay : thgsMay T = true) :
    Calls Try.prog 47 #[v] w (Ret fun v' w' => Below w.heap.size w w' ∧ ∃ u, v' = .tuple #[u, .bool (orderT T).isSome] ∧ Own w' w.heap.size 9 1 u ((orderT T).getD []).length (((orderT T).getD []).flatMap fun x => [St x])) := by
  obtain ⟨c, hO, hc⟩ := OldC.start w
  have h1 : RdC thgS c w [0] v T := Rd.toC h0 (fun k hk => by simp [hc, hasC])
  have hsm := h0.small
  have hok0 := h0.okFlat
  clear hc h0
  have hb : ∀ t ∈ T, t.text.length ≤ 1048576 := fun t ht => by
    obtain ⟨i, hi, rfl⟩ := List.mem_iff_getElem.1 ht
    have := (thgsMay_at hmay hi).2.1; omega
  have hl := thgsMay_len hmay
  have hr := thgsMay_rise hmay
  have hdo := fun (i : Nat) => dgOf_ok (T := T) (fun t ht => (hok0 t ht).1) i
  refine enter (n := 74) (res := #[.tmp 2, .tmp 3]) Try.func47 rfl rfl rfl rfl ?_
  refine cseq <| cregion <| qq (Val.assign rfl) rfl <| qq (Val.assign rfl) rfl <| cnil <| cseq <| cregion <| qq (Val.assign rfl) rfl <| cnil ?_
  refine cseq <| cblock ?_
  refine WC.loop (σ := List Nat × Value) (fun st => [(0, v), (4, st.2)]) (fun st w' => ∃ c', OldC w c' w' ∧ RdC thgS c' w' [0] v T ∧ OwnC c' w' 60 9 1 st.2 (st.1.map (dgOf T)).length ((st.1.map (dgOf T)).flatMap fun x => [St x]) ∧ (∀ j ∈ st.1, j < T.length) ∧ orderGo T (T.length - st.1.length) st.1 = orderGo T T.length []) (fun st => T.length - st.1.length) ([], .slice none 0 0) (by repeat (first | exact Sub.nil _ | refine Sub.cons rfl ?_ | refine Sub.consM rfl ?_)) ⟨_, hO, h1, OwnC.nil _ _ _ _ _, by simp, rfl⟩ ?_
  clear hO h1
  rintro ⟨tl, xv⟩ wl ⟨cl, hO, h1, ho, htl, hgo⟩
  dsimp only at hO h1 ho htl hgo ⊢
  have hml : (tl.map (dgOf T)).length = tl.length := by simp
  have hxo : ∀ x ∈ tl.map (dgOf T), x.length ≤ 140737488355328 := fun x hx => by obtain ⟨i, _, rfl⟩ := List.mem_map.1 hx; exact hdo i
  refine cseq <| cseq <| cregion <| qq (Val.move rfl) rfl <| qq (Val.olen sl23 ho rfl) rfl <| qq (Val.move rfl) rfl <| qq (Val.rdlenC sl52 h1 rfl) rfl <| qq (Val.lss rfl rfl) rfl <| cnil ?_
  refine WC.cond rfl (fun hc2 => ?_) (fun hc2 => ?_)
  ·try simp only [tstS] at hc2
   have htlt : tl.length < T.length := by omega
   refine cskip <| cblock <| cseq <| cregion <| qq (Val.assign rfl) rfl <| cnil <| cseq <| cseq <| cregion ?_
   refine qq (Val.assign rfl) rfl <| cnil <| cblock ?_
   refine WC.loop (σ := Nat × Int) (fun st => [(0, v), (4, xv), (5, I st.2), (6, I st.1)]) (fun st w' => ∃ c', OldC w c' w' ∧ RdC thgS c' w' [0] v T ∧ OwnC c' w' 60 9 1 xv (tl.map (dgOf T)).length ((tl.map (dgOf T)).flatMap fun x => [St x]) ∧ st.1 ≤ T.length ∧ ((st.2 = -1 ∧ ∀ j, j < st.1 → j ∈ tl ∨ readyT T tl j = false) ∨ ∃ i : Nat, st.2 = i ∧ i < T.length ∧ nextT T tl = some i)) (fun st => T.length - st.1) (0, -1) (by repeat (first | exact Sub.nil _ | refine Sub.cons rfl ?_ | refine Sub.consM rfl ?_)) ⟨_, hO, h1, ho, by simp, .inl ⟨rfl, fun j h => absurd h (Nat.not_lt_zero _)⟩⟩ ?_
   clear hO h1 ho
   rintro ⟨k, nx⟩ wk ⟨ck, hO, h1, ho, hk, hnx⟩
   dsimp only at hO h1 ho hk hnx ⊢
   refine cseq <| cseq <| cregion <| qq (Val.move rfl) rfl <| qq (Val.move rfl) rfl <| qq (Val.rdlenC sl52 h1 rfl) rfl <| qq (Val.lss rfl rfl) rfl <| qq (Val.move rfl) rfl ?_
   apply WR.sc true 2 _ (fun w' => wk = w')
   case hl => rfl
   case hg => rfl
   case hu => rfl
   case hv => rfl
   case hs => rfl
   case hoff => rfl
   case hd => rfl
   case hF => exact fun _ => rfl
   case hT =>
    intro hq7
    try simp only [tstS] at hq7
    simp only [List.take_succ_cons, List.take_zero]
    refine WR.on rfl rfl ?_
    refine qq (Val.move rfl) rfl ?_
    refine WR.on rfl rfl ?_
    refine qq (Val.lss rfl rfl) rfl ?_
    exact WR.nil ⟨rfl, Sub.drop _ 2 _ rfl rfl, rfl⟩
   rintro _ rfl
   refine cnil ?_
   refine WC.cond rfl (fun hc5 => ?_) (fun hc5 => ?_)
   ·try simp only [tstS] at hc5
    obtain ⟨hc5a, hc5b⟩ := hc5
    have ka : k < T.length := by omega
    have hno : nx = -1 ∧ ∀ j, j < k → j ∈ tl ∨ readyT T tl j = false := by
      rcases hnx with h | ⟨i, h, _⟩
      · exact h
      · omega
    obtain ⟨rfl, hno⟩ := hno
    clear hnx
    obtain ⟨hc28, _⟩ := RdC.elFlat h1 ka (by decide)
    have hc34 := hc28
    refine cskip <| cseq <| cblock <| cseq <| cseq <| cregion <| qq (Val.move rfl) rfl <| qq (Val.move rfl) rfl <| qq (Val.move rfl) rfl ?_
    first | refine WR.val (Val.indexAddr sl52 (by assumption) rfl rfl rfl (by first | omega | assumption | (simp; omega) | (simp; done)) (by first | omega | assumption | (simp; omega) | (simp; done))) rfl ?_ | refine WR.val (Val.indexC sl52 (by assumption) rfl rfl (by first | omega | assumption | (simp; omega) | (simp; done)) (by first | omega | assumption | (simp; omega) | (simp; done))) rfl ?_ | refine WR.val (Val.indexO sl52 (by assumption) rfl rfl (by first | omega | assumption | (simp; omega) | (simp; done)) (by first | omega | assumption | (simp; omega) | (simp; done))) rfl ?_
    first | refine WR.val (Val.fieldAddr fld62_0 rfl) rfl ?_ | refine WR.val (Val.fieldAddrP fld62_0 rfl) rfl ?_
    refine qq (Val.loadEf scl9 rfl hc28.cel rfl) rfl ?_
    refine WR.eff (Eff.pureC ck 1 (Eff.call pf39 rfl (zhas_ok (ho.own.rdStrs hxo (by omega))))) rfl ?_
    rintro v31 w1 ⟨c1, hM1, hx1, rfl⟩
    replace hO := hO.mv hM1 rfl; replace h1 := h1.mv hM1 rfl; replace ho := ho.mv hM1 rfl; replace hc28 := hc28.mv hM1 rfl; replace hc34 := hc34.mv hM1 rfl
    rw [has_told hr htl ka]
    refine cnil ?_
    refine WC.cond rfl (fun hc7 => ?_) (fun hc7 => ?_)
    ·try simp only [tstS] at hc7
     have hbad : k ∈ tl ∨ readyT T tl k = false := .inl hc7
     refine WC.exit rfl ?_
     refine cregion <| qq (Val.move rfl) rfl <| qq (Val.addI rfl rfl (by first | omega | assumption | (simp; omega) | (simp; done)) (by first | omega | assumption | (simp; omega) | (simp; done))) rfl <| qq (Val.assign rfl) rfl <| cnil ?_
     first
     | exact ⟨(k + 1, -1), (by repeat (first | exact Sub.nil _ | refine Sub.cons rfl ?_ | refine Sub.consM rfl ?_)), ⟨_, hO, h1, ho, ka, .inl ⟨rfl, noStep hno hbad⟩⟩, by dsimp only; omega⟩
     | exact ⟨(k + 1, k), (by repeat (first | exact Sub.nil _ | refine Sub.cons rfl ?_ | refine Sub.consM rfl ?_)), ⟨_, hO, h1, ho, ka, .inr ⟨k, rfl, ka, hnx⟩⟩, by dsimp only; omega⟩
    ·try simp only [tstS] at hc7
     have hnk : k ∉ tl := hc7
     refine cskip <| cseq <| cregion <| qq (Val.assign rfl) rfl <| cnil <| cseq <| cregion <| qq (Val.move rfl) rfl <| qq (Val.move rfl) rfl ?_
     first | refine WR.val (Val.indexAddr sl52 (by assumption) rfl rfl rfl (by first | omega | assumption | (simp; omega) | (simp; done)) (by first | omega | assumption | (simp; omega) | (simp; done))) rfl ?_ | refine WR.val (Val.indexC sl52 (by assumption) rfl rfl (by first | omega | assumption | (simp; omega) | (simp; done)) (by first | omega | assumption | (simp; omega) | (simp; done))) rfl ?_ | refine WR.val (Val.indexO sl52 (by assumption) rfl rfl (by first | omega | assumption | (simp; omega) | (simp; done)) (by first | omega | assumption | (simp; omega) | (simp; done))) rfl ?_
     refine qq (Val.loadE agg62 rfl hc34.cel rfl) rfl ?_
     refine WR.eff (Eff.pureC c1 52 (Eff.call pf40 rfl (named_ok T[k] (hb _ (List.getElem_mem ka))))) rfl ?_
     rintro v36 w2 ⟨c2, hM2, hx2, hn⟩
     replace hO := hO.mv hM2 rfl; replace h1 := h1.mv hM2 rfl; replace ho := ho.mv hM2 rfl; replace hc28 := hc28.mv hM2 rfl; replace hc34 := hc34.mv hM2 rfl
     replace hn := hn.toC hx2
     have hnl := namesT_len T[k]
     have hNm : RdC strS _ _ [52] v36 (namesT T[k]) := hn.rdFlat (by omega) namesT_texts
     refine qq (Val.assign rfl) rfl <| cnil <| cseq <| cseq <| cregion <| qq (Val.assign rfl) rfl <| cnil <| cblock ?_
     refine WC.loop (σ := Nat) (fun m => [(0, v), (4, xv), (5, I (-1)), (6, I k), (7, .bool (((namesT T[k]).take m).all (okT T tl))), (8, v36), (9, I m)]) (fun m w' => ∃ c', OldC w c' w' ∧ RdC thgS c' w' [0] v T ∧ OwnC c' w' 60 9 1 xv (tl.map (dgOf T)).length ((tl.map (dgOf T)).flatMap fun x => [St x]) ∧ RdC strS c' w' [52] v36 (namesT T[k]) ∧ m ≤ (namesT T[k]).length) (fun m => (namesT T[k]).length - m) 0 (by repeat (first | exact Sub.nil _ | refine Sub.cons rfl ?_ | refine Sub.consM rfl ?_)) ⟨_, hO, h1, ho, hNm, by omega⟩ ?_
     clear hO h1 ho hNm hn
     rintro m wm ⟨cm, hO, h1, ho, hNm, hm⟩
     refine cseq <| cseq <| cregion <| qq (Val.move rfl) rfl <| qq (Val.move rfl) rfl <| qq (Val.rdlenC sl23 hNm rfl) rfl <| qq (Val.lss rfl rfl) rfl <| cnil ?_
     refine WC.cond rfl (fun hc11 => ?_) (fun hc11 => ?_)
     ·try simp only [tstS] at hc11
      have km : m < (namesT T[k]).length := by omega
      obtain ⟨hc48, _⟩ := RdC.elFlat hNm km (by decide)
      have hc56 := hc48
      have hpg := okT_page hr htl (namesT T[k])[m]
      have hta : ((namesT T[k]).take (m + 1)).all (okT T tl) = (((namesT T[k]).take m).all (okT T tl) && okT T tl (namesT T[k])[m]) := by rw [List.take_succ_eq_append_getElem km, List.all_append]; simp
      refine cskip <| cseq <| cblock <| cregion <| qq (Val.move rfl) rfl <| qq (Val.move rfl) rfl ?_
      apply WR.sc true 15 (decide (atT T (namesT T[k])[m] < 0) || (tl.map (dgOf T)).contains (namesT T[k])[m]) (fun w' => ∃ c', Acc cm wm [] c' w')
      case hl => rfl
      case hg => rfl
      case hu => rfl
      case hv => rfl
      case hs => rfl
      case hoff => rfl
      case hd => rfl
      case hF => exact fun _ => ⟨_, Acc.refl _ _ _⟩
      case hT =>
       intro hq17
       try simp only [tstS] at hq17
       simp only [List.take_succ_cons, List.take_zero]
       have hKsc17 := Acc.refl cm wm []
       refine WR.on rfl rfl ?_
       refine qq (Val.move rfl) rfl ?_
       refine WR.on rfl rfl ?_
       refine qq (Val.move rfl) rfl ?_
       refine WR.on rfl rfl ?_
       refine qq (Val.move rfl) rfl ?_
       refine WR.on rfl rfl ?_
       refine qq (Val.indexAddr sl23 hNm.now rfl rfl rfl (by omega) (by omega)) rfl ?_
       refine WR.on rfl rfl ?_
       refine qq (Val.loadE1 scl9 rfl hc48.cel) rfl ?_
       refine WR.on rfl rfl ?_
       refine WR.eff (Eff.pureC cm 1 (Eff.call pf38 rfl (at_ok h1.now))) rfl ?_
       rintro v50 w3 ⟨c3, hM3, hx3, rfl⟩
       replace hO := hO.mv hM3 rfl; replace h1 := h1.mv hM3 rfl; replace ho := ho.mv hM3 rfl; replace hNm := hNm.mv hM3 rfl; replace hc48 := hc48.mv hM3 rfl; replace hc56 := hc56.mv hM3 rfl; replace hKsc17 := hKsc17.mv hM3 rfl
       refine WR.on rfl rfl ?_
       refine qq (Val.lss rfl rfl) rfl ?_
       refine WR.on rfl rfl ?_
       refine qq (Val.move rfl) rfl ?_
       apply WR.sc false 6 ((tl.map (dgOf T)).contains (namesT T[k])[m]) (fun w' => ∃ c', Acc c3 w3 [] c' w')
       case hl => rfl
       case hg => rfl
       case hu => rfl
       case hv => rfl
       case hs => rfl
       case hoff => rfl
       case hd => rfl
       case hF => exact fun _ => ⟨_, Acc.refl _ _ _⟩
       case hT =>
        intro hq16
        try simp only [tstS] at hq16
        simp only [List.take_succ_cons, List.take_zero]
        have hKsc16 := Acc.refl c3 w3 []
        refine WR.on rfl rfl ?_
        refine qq (Val.move rfl) rfl ?_
        refine WR.on rfl rfl ?_
        refine qq (Val.move rfl) rfl ?_
        refine WR.on rfl rfl ?_
        refine qq (Val.move rfl) rfl ?_
        refine WR.on rfl rfl ?_
        refine qq (Val.indexAddr sl23 hNm.now rfl rfl rfl (by omega) (by omega)) rfl ?_
        refine WR.on rfl rfl ?_
        refine qq (Val.loadE1 scl9 rfl hc56.cel) rfl ?_
        refine WR.on rfl rfl ?_
        refine WR.eff (Eff.pureC c3 1 (Eff.call pf39 rfl (zhas_ok (ho.own.rdStrs hxo (by omega))))) rfl ?_
        rintro v58 w4 ⟨c4, hM4, hx4, rfl⟩
        replace hO := hO.mv hM4 rfl; replace h1 := h1.mv hM4 rfl; replace ho := ho.mv hM4 rfl; replace hNm := hNm.mv hM4 rfl; replace hc48 := hc48.mv hM4 rfl; replace hc56 := hc56.mv hM4 rfl; replace hKsc17 := hKsc17.mv hM4 rfl; replace hKsc16 := hKsc16.mv hM4 rfl
        exact WR.nil ⟨rfl, Sub.drop _ 6 _ rfl rfl, _, hKsc16⟩
       rintro w5 ⟨c5, ⟨hM5⟩⟩
       replace hO := hO.mv hM5 rfl; replace h1 := h1.mv hM5 rfl; replace ho := ho.mv hM5 rfl; replace hNm := hNm.mv hM5 rfl; replace hc48 := hc48.mv hM5 rfl; replace hc56 := hc56.mv hM5 rfl; replace hKsc17 := hKsc17.mv hM5 rfl
       exact WR.nil ⟨rfl, Sub.drop _ 9 _ rfl rfl, _, hKsc17⟩
      rintro w6 ⟨c6, ⟨hM6⟩⟩
      replace hO := hO.mv hM6 rfl; replace h1 := h1.mv hM6 rfl; replace ho := ho.mv hM6 rfl; replace hNm := hNm.mv hM6 rfl; replace hc48 := hc48.mv hM6 rfl; replace hc56 := hc56.mv hM6 rfl
      refine qq (Val.assign rfl) rfl <| cnil <| cregion <| qq (Val.move rfl) rfl <| qq (Val.addI rfl rfl (by first | omega | assumption | (simp; omega) | (simp; done)) (by first | omega | assumption | (simp; omega) | (simp; done))) rfl <| qq (Val.assign rfl) rfl <| cnil ?_
      exact ⟨m + 1, (by rw [hta, ← hpg]; repeat (first | exact Sub.nil _ | refine Sub.cons rfl ?_ | refine Sub.consM rfl ?_)), ⟨_, hO, h1, ho, hNm, km⟩, by omega⟩
     ·try simp only [tstS] at hc11
      have hmm : m = (namesT T[k]).length := by omega
      subst hmm
      rw [List.take_length, ← nmOf_lt ka, ← readyT_eq]
      refine WC.exit rfl ?_
      refine cseq <| cregion <| qq (Val.move rfl) rfl <| cnil ?_
      refine WC.cond rfl (fun hc14 => ?_) (fun hc14 => ?_)
      ·try simp only [tstS] at hc14
       have hnx := nextT_at ka hnk hc14 hno
       refine cregion <| qq (Val.move rfl) rfl <| qq (Val.assign rfl) rfl <| cnil <| cregion <| qq (Val.move rfl) rfl <| qq (Val.addI rfl rfl (by first | omega | assumption | (simp; omega) | (simp; done)) (by first | omega | assumption | (simp; omega) | (simp; done))) rfl <| qq (Val.assign rfl) rfl <| cnil ?_
       first
       | exact ⟨(k + 1, -1), (by repeat (first | exact Sub.nil _ | refine Sub.cons rfl ?_ | refine Sub.consM rfl ?_)), ⟨_, hO, h1, ho, ka, .inl ⟨rfl, noStep hno hbad⟩⟩, by dsimp only; omega⟩
       | exact ⟨(k + 1, k), (by repeat (first | exact Sub.nil _ | refine Sub.cons rfl ?_ | refine Sub.consM rfl ?_)), ⟨_, hO, h1, ho, ka, .inr ⟨k, rfl, ka, hnx⟩⟩, by dsimp only; omega⟩
      ·try simp only [tstS] at hc14
       have hbad : k ∈ tl ∨ readyT T tl k = false := .inr hc14
       refine cskip <| cregion <| qq (Val.move rfl) rfl <| qq (Val.addI rfl rfl (by first | omega | assumption | (simp; omega) | (simp; done)) (by first | omega | assumption | (simp; omega) | (simp; done))) rfl <| qq (Val.assign rfl) rfl <| cnil ?_
       first
       | exact ⟨(k + 1, -1), (by repeat (first | exact Sub.nil _ | refine Sub.cons rfl ?_ | refine Sub.consM rfl ?_)), ⟨_, hO, h1, ho, ka, .inl ⟨rfl, noStep hno hbad⟩⟩, by dsimp only; omega⟩
       | exact ⟨(k + 1, k), (by repeat (first | exact Sub.nil _ | refine Sub.cons rfl ?_ | refine Sub.consM rfl ?_)), ⟨_, hO, h1, ho, ka, .inr ⟨k, rfl, ka, hnx⟩⟩, by dsimp only; omega⟩
   ·try simp only [tstS] at hc5
    refine WC.exit rfl ?_
    refine cseq <| cseq <| cregion <| qq (Val.move rfl) rfl <| qq (Val.lss rfl rfl) rfl <| cnil ?_
    refine WC.cond rfl (fun hc16 => ?_) (fun hc16 => ?_)
    ·try simp only [tstS] at hc16
     have hno : ∀ j, j < T.length → j ∈ tl ∨ readyT T tl j = false := by
       rcases hnx with ⟨h, h'⟩ | ⟨i, h, _⟩
       · subst h
         have hkk : k = T.length := by
           rw [Bool.and_eq_false_iff] at hc5
           simp only [decide_eq_false_iff_not] at hc5
           omega
         subst hkk; exact h'
       · omega
     have hon : orderT T = none := by rw [orderT, ← hgo, orderGo_none (nextT_none hno) htlt]; rfl
     refine cseq <| cregion <| qq (Val.assign rfl) rfl <| qq (Val.assign rfl) rfl <| cnil ?_
     refine WC.ret2 rfl rfl rfl ?_
     exact ⟨hO.below, _, by rw [hon]; rfl, by rw [hon]; exact Own.nil _ _ _ _⟩
    ·try simp only [tstS] at hc16
     obtain ⟨i, rfl, hil, hni⟩ : ∃ i : Nat, nx = i ∧ i < T.length ∧ nextT T tl = some i := by
       rcases hnx with ⟨h, _⟩ | h
       · omega
       · exact h
     have hgs := orderGo_step (n := T.length) hni htlt
     have htl2 : ∀ j ∈ tl ++ [i], j < T.length := fun j hj => by
       rcases List.mem_append.1 hj with h | h
       · exact htl j h
       · simp at h; subst h; exact hil
     obtain ⟨hc68, _⟩ := RdC.elFlat h1 hil (by decide)
     refine cskip <| cregion <| qq (Val.move rfl) rfl <| qq (Val.move rfl) rfl <| qq (Val.move rfl) rfl ?_
     first | refine WR.val (Val.indexAddr sl52 (by assumption) rfl rfl rfl (by first | omega | assumption | (simp; omega) | (simp; done)) (by first | omega | assumption | (simp; omega) | (simp; done))) rfl ?_ | refine WR.val (Val.indexC sl52 (by assumption) rfl rfl (by first | omega | assumption | (simp; omega) | (simp; done)) (by first | omega | assumption | (simp; omega) | (simp; done))) rfl ?_ | refine WR.val (Val.indexO sl52 (by assumption) rfl rfl (by first | omega | assumption | (simp; omega) | (simp; done)) (by first | omega | assumption | (simp; omega) | (simp; done))) rfl ?_
     first | refine WR.val (Val.fieldAddr fld62_0 rfl) rfl ?_ | refine WR.val (Val.fieldAddrP fld62_0 rfl) rfl ?_
     refine qq (Val.loadEf scl9 rfl hc68.cel rfl) rfl ?_
     refine WR.eff (Eff.build1C ck 171 sl23 rfl rfl rfl rfl rfl) rfl ?_
     rintro _ w7 ⟨b71, c7, rfl, hM7, hb71⟩
     replace hO := hO.mv hM7 rfl; replace h1 := h1.mv hM7 rfl; replace ho := ho.mv hM7 rfl; replace hc68 := hc68.mv hM7 rfl
     refine WR.eff (Eff.appendC sl23 rfl rfl ho (Src.cellsAt Try.underlying23 hb71.blk.cellsAt rfl (by repeat (first | exact List.forall_mem_nil _ | refine List.forall_mem_cons.2 ⟨by first | rfl | assumption, ?_⟩))) (by rw [maxLen_eq]; first | omega | (simp; omega)) (by first | omega | (simp; omega))) rfl ?_
     rintro v72 w8 ⟨c8, hM8, hOq⟩
     clear hb71
     replace hO := hO.mv hM8 rfl; replace h1 := h1.mv hM8 rfl; replace hc68 := hc68.mv hM8 rfl
     replace ho := hOq
     refine qq (Val.assign rfl) rfl <| cnil ?_
     exact ⟨(tl ++ [i], v72), (by repeat (first | exact Sub.nil _ | refine Sub.cons rfl ?_ | refine Sub.consM rfl ?_)), ⟨_, hO, h1, by rw [List.map_append, List.flatMap_append, List.length_append, List.map_singleton, dgOf_lt hil]; exact ho, htl2, by rw [← hgs]; exact hgo⟩, by simp; omega⟩
  ·try simp only [tstS] at hc2
   have hos : orderT T = some (tl.map (dgOf T)) := by rw [orderT, ← hgo, orderGo_done (by omega)]; rfl
   refine WC.exit rfl ?_
   refine cseq <| cregion <| qq (Val.move rfl) rfl <| qq (Val.assign rfl) rfl <| qq (Val.assign rfl) rfl <| cnil ?_
   refine WC.ret2 rfl rfl rfl ?_
   exact ⟨hO.below, _, by rw [hos]; rfl, by rw [hos]; exact ho.fromOld hO (by decide)⟩
end Go.Proofs.Ytnddlhjafkhdoaa

namespace Silo
open Go Go.Eng
def all32 (l : List (List UInt8)) : Bool := l.all fun x => decide (x.length = 32)
def manSort (m : Man) : Man × Int :=
  if all32 m.blobs && all32 m.subs && (decide (0 ≤ m.kind) && decide (m.kind ≤ 255)) then
    (if (riseS m.blobs).length + (riseS m.subs).length ≤ 20 then (⟨m.kind, riseS m.blobs, riseS m.subs⟩, 0) else (man0, 2)) else (man0, 1)
end Silo
namespace Go.Proofs.Ytnddlhjafkhdoaa
open Go Go.Eng Go.RowKit Silo TryT

theorem msorted_ok {w : World} {v : Value} {l : List (List UInt8)} (h : Rd strS w v l) (hp : PlainV v) (hl : l.length ≤ 1048576) :
    Calls Try.prog 77 #[v] w (Ret fun v' w' => Below w.heap.size w w' ∧ ∃ u, v' = .tuple #[u, .bool (all32 l)] ∧ Own w' w.heap.size 9 1 u (riseS l).length ((riseS l).flatMap fun x => [St x])) := by
  obtain ⟨c, hO, hc⟩ := OldC.start w
  clear hc
  have hok := h.okFlat
  refine enter (n := 13) (res := #[.tmp 2, .tmp 3]) Try.func77 rfl rfl rfl rfl ?_
  refine cseq <| cregion <| qq (Val.assign rfl) rfl <| qq (Val.assign rfl) rfl <| cnil <| cseq <| cregion <| qq (Val.move rfl) rfl ?_
  refine WR.eff (Eff.pureC c 7 (Eff.call pf76 rfl (cloneStrs_ok h hp (by omega)))) rfl ?_
  rintro v5 w1 ⟨c1, hM1, hx1, ho⟩
  replace hO := hO.mv hM1 rfl
  replace ho := ho.toC hx1
  refine qq (Val.assign rfl) rfl <| cnil <| cseq <| cregion <| qq (Val.move rfl) rfl ?_
  refine WR.eff (Eff.grownO ho (Eff.call pf117 rfl (sortStrs_ok ho.own (by omega)))) rfl ?_
  rintro v7 w2 ⟨c2, hM2, hcol, ho2⟩
  replace hO := hO.mv hM2 rfl
  replace ho := (⟨ho2, hcol⟩ : OwnC _ _ 7 9 1 v5 _ _)
  have hml : (l.mergeSort fun x y => decide (x ≤ y)).length = l.length := List.length_mergeSort _
  have hmm : ∀ x ∈ l.mergeSort fun x y => decide (x ≤ y), x.length ≤ 140737488355328 := fun x hx => hok x ((List.mergeSort_perm l _).mem_iff.1 hx)
  refine cnil <| cseq <| cregion <| qq (Val.move rfl) rfl ?_
  refine WR.eff (Eff.grownO ho (Eff.call pf118 rfl (compactStrs_ok ho.own (by omega)))) rfl ?_
  rintro v9 w3 ⟨c3, hM3, hcol3, hrow3, ho3⟩
  replace hO := hO.mv hM3 rfl
  replace ho : OwnC _ _ 7 9 1 _ (riseS l).length ((riseS l).flatMap fun x => [St x]) := ⟨ho3, fun k hk => hcol3 k (by rw [← hrow3]; exact hk)⟩
  have hrl := riseS_len l
  have hox : ∀ x ∈ riseS l, x.length ≤ 140737488355328 := fun x hx => hok x (((riseS_spec l).2 x).1 hx)
  refine qq (Val.assign rfl) rfl <| cnil <| cseq <| cregion <| qq (Val.move rfl) rfl <| qq (Val.move rfl) rfl ?_
  refine WR.eff (Eff.pureC c3 1 (Eff.call pf110 rfl (rising_ok (ho.own.rdStrs hox (by omega))))) rfl ?_
  rintro v12 w4 ⟨c4, hM4, hx4, rfl⟩
  replace hO := hO.mv hM4 rfl; replace ho := ho.mv hM4 rfl
  refine qq (Val.assign rfl) rfl <| qq (Val.assign rfl) rfl <| cnil ?_
  refine WC.ret2 rfl rfl rfl ?_
  exact ⟨hO.below, _, by rw [risingB_riseS]; rfl, ho.fromOld hO (by decide)⟩

theorem mSorted_ok {w : World} {vb vs : Value} {m : Man} (hb0 : Rd strS w vb m.blobs) (hs0 : Rd strS w vs m.subs) (pb : PlainV vb) (ps : PlainV vs) (hl1 : m.blobs.length ≤ 1048576) (hl2 : m.subs.length ≤ 1048576) :
    Calls Try.prog 28 #[.agg #[I m.kind, vb, vs]] w (Ret fun v w' => Below w.heap.size w w' ∧ ∃ u1 u2, v = .tuple #[.agg #[I (manSort m).1.kind, u1, u2], I (manSort m).2] ∧
      Own w' w.heap.size 9 1 u1 (manSort m).1.blobs.length ((manSort m).1.blobs.flatMap fun x => [St x]) ∧ Own w' w.heap.size 9 1 u2 (manSort m).1.subs.length ((manSort m).1.subs.flatMap fun x => [St x]) ∧ ∀ k, u1.rowOf = some k → u2.rowOf ≠ some k) := by
  have o1 := hb0.oneC; have o2 := hs0.oneC
  obtain ⟨c, hO, hc⟩ := OldC.start w
  have hb : RdC strS c w [0] vb m.blobs := Rd.toC hb0 (fun k hk => by simp [hc, hasC])
  have hs : RdC strS c w [0] vs m.subs := Rd.toC hs0 (fun k hk => by simp [hc, hasC])
  have hn1 := riseS_len m.blobs; have hn2 := riseS_len m.subs
  clear hc
  refine enter (n := 47) (res := #[.cell 2 29, .tmp 3]) Try.func28 rfl rfl rfl rfl ?_
  refine cseq <| cregion ?_
  refine WR.eff (Eff.boxC c 101 rfl) rfl ?_
  rintro _ w1 ⟨b1, c1, rfl, hM1, hb1⟩
  replace hO := hO.mv hM1 rfl; replace hb := hb.mv hM1 rfl; replace hs := hs.mv hM1 rfl
  refine WR.eff (Eff.allocC c1 102 zero29) rfl ?_
  rintro _ w2 ⟨b2, c2, rfl, hM2, hb2⟩
  replace hO := hO.mv hM2 rfl; replace hb := hb.mv hM2 rfl; replace hs := hs.mv hM2 rfl; replace hb1 := hb1.mv hM2 rfl
  refine qq (Val.assign rfl) rfl <| cnil <| cseq <| cregion ?_
  first | refine WR.val (Val.fieldAddr fld29_1 rfl) rfl ?_ | refine WR.val (Val.fieldAddrP fld29_1 rfl) rfl ?_
  refine qq (Val.loadB scl23 rfl hb1.blk rfl) rfl ?_
  refine WR.eff (Eff.pureC c2 7 (Eff.call pf77 rfl (msorted_ok hb.now pb hl1))) rfl ?_
  rintro v11 w3 ⟨c3, hM3, hx3, ⟨u1, rfl, ho1⟩⟩
  replace hO := hO.mv hM3 rfl; replace hb := hb.mv hM3 rfl; replace hs := hs.mv hM3 rfl; replace hb1 := hb1.mv hM3 rfl; replace hb2 := hb2.mv hM3 rfl
  replace ho1 := ho1.toC hx3
  refine qq (Val.move rfl) rfl <| qq (Val.extract rfl rfl) rfl <| qq (Val.extract rfl rfl) rfl <| qq (Val.assign rfl) rfl <| qq (Val.assign rfl) rfl <| cnil <| cseq <| cregion ?_
  first | refine WR.val (Val.fieldAddr fld29_2 rfl) rfl ?_ | refine WR.val (Val.fieldAddrP fld29_2 rfl) rfl ?_
  refine qq (Val.loadB scl23 rfl hb1.blk rfl) rfl ?_
  refine WR.eff (Eff.pureC c3 8 (Eff.call pf77 rfl (msorted_ok hs.now ps hl2))) rfl ?_
  rintro v17 w4 ⟨c4, hM4, hx4, ⟨u2, rfl, ho2⟩⟩
  replace hO := hO.mv hM4 rfl; replace hb := hb.mv hM4 rfl; replace hs := hs.mv hM4 rfl; replace hb1 := hb1.mv hM4 rfl; replace hb2 := hb2.mv hM4 rfl; replace ho1 := ho1.mv hM4 rfl
  replace ho2 := ho2.toC hx4
  refine qq (Val.move rfl) rfl <| qq (Val.extract rfl rfl) rfl <| qq (Val.extract rfl rfl) rfl <| qq (Val.assign rfl) rfl <| qq (Val.assign rfl) rfl <| cnil <| cseq <| cblock <| cseq ?_
  refine cregion <| qq (Val.move rfl) rfl <| qq (Val.not rfl) rfl <| qq (Val.move rfl) rfl ?_
  apply WR.sc false 2 _ (fun w' => w4 = w')
  case hl => rfl
  case hg => rfl
  case hu => rfl
  case hv => rfl
  case hs => rfl
  case hoff => rfl
  case hd => rfl
  case hF => exact fun _ => rfl
  case hT =>
   intro hq5
   try simp only [tstS] at hq5
   simp only [List.take_succ_cons, List.take_zero]
   refine WR.on rfl rfl ?_
   refine qq (Val.move rfl) rfl ?_
   refine WR.on rfl rfl ?_
   refine qq (Val.not rfl) rfl ?_
   exact WR.nil ⟨rfl, Sub.drop _ 2 _ rfl rfl, rfl⟩
  rintro _ rfl
  refine qq (Val.move rfl) rfl ?_
  apply WR.sc false 4 (!manKind m.kind) (fun w' => ∃ c', Acc c4 w4 [] c' w')
  case hl => rfl
  case hg => rfl
  case hu => rfl
  case hv => rfl
  case hs => rfl
  case hoff => rfl
  case hd => rfl
  case hF => exact fun _ => ⟨_, Acc.refl _ _ _⟩
  case hT =>
   intro hq11
   try simp only [tstS] at hq11
   simp only [List.take_succ_cons, List.take_zero]
   have hKsc11 := Acc.refl c4 w4 []
   refine WR.on rfl rfl ?_
   first | refine WR.val (Val.fieldAddr fld29_0 rfl) rfl ?_ | refine WR.val (Val.fieldAddrP fld29_0 rfl) rfl ?_
   refine WR.on rfl rfl ?_
   refine qq (Val.loadB scl3 rfl hb1.blk rfl) rfl ?_
   refine WR.on rfl rfl ?_
   refine WR.eff (Eff.pureC c4 1 (Eff.call pf78 rfl (mkind_ok m.kind))) rfl ?_
   rintro v30 w5 ⟨c5, hM5, hx5, rfl⟩
   replace hO := hO.mv hM5 rfl; replace hb := hb.mv hM5 rfl; replace hs := hs.mv hM5 rfl; replace hb1 := hb1.mv hM5 rfl; replace hb2 := hb2.mv hM5 rfl; replace ho1 := ho1.mv hM5 rfl; replace ho2 := ho2.mv hM5 rfl; replace hKsc11 := hKsc11.mv hM5 rfl
   refine WR.on rfl rfl ?_
   refine qq (Val.not rfl) rfl ?_
   exact WR.nil ⟨rfl, Sub.drop _ 4 _ rfl rfl, _, hKsc11⟩
  rintro w6 ⟨c6, ⟨hM6⟩⟩
  replace hO := hO.mv hM6 rfl; replace hb := hb.mv hM6 rfl; replace hs := hs.mv hM6 rfl; replace hb1 := hb1.mv hM6 rfl; replace hb2 := hb2.mv hM6 rfl; replace ho1 := ho1.mv hM6 rfl; replace ho2 := ho2.mv hM6 rfl
  refine qq (Val.assign rfl) rfl <| cnil ?_
  refine WC.cond rfl (fun hc3 => ?_) (fun hc3 => ?_)
  ·try simp only [tstS] at hc3
   have hms : manSort m = (man0, 1) := by
     rw [manSort, if_neg]
     intro h
     simp only [manKind, Bool.and_eq_true] at h hc3
     rcases hc3 with (h3 | h3) | h3
     · rw [h.1.1] at h3; cases h3
     · rw [h.1.2] at h3; cases h3
     · rw [h.2.1, h.2.2] at h3; exact absurd h3 (by decide)
   refine cseq <| cregion <| qq (Val.build (cells := #[I 0, .slice none 0 0, .slice none 0 0]) rfl (by kernel_rfl)) rfl ?_
   refine WR.eff_ (Eff.storeNC agg29 rfl rfl hb2 rfl rfl (by repeat (first | exact List.forall_mem_nil _ | refine List.forall_mem_cons.2 ⟨by first | rfl | assumption, ?_⟩))) ?_
   rintro _ w7 ⟨hS, hM7⟩
   replace hO := hO.mv hM7 rfl; replace hb := hb.mv hM7 rfl; replace hs := hs.mv hM7 rfl; replace hb1 := hb1.mv hM7 rfl; replace ho1 := ho1.mv hM7 rfl; replace ho2 := ho2.mv hM7 rfl
   replace hb2 := hS
   refine qq (Val.assign rfl) rfl <| cnil ?_
   refine WC.retR2 rfl (RVal.cellN agg29 rfl hb2.blk rfl) (RVal.tmp rfl) ?_
   exact ⟨hO.below, _, _, by rw [hms]; rfl, by rw [hms]; exact Own.nil _ _ _ _, by rw [hms]; exact Own.nil _ _ _ _, fun k hk => by simp [Value.rowOf] at hk⟩
  ·try simp only [tstS] at hc3
   have hok : (all32 m.blobs && all32 m.subs && (decide (0 ≤ m.kind) && decide (m.kind ≤ 255))) = true := by
     rw [hc3.1.1, hc3.1.2, show (decide (0 ≤ m.kind) && decide (m.kind ≤ 255)) = true from hc3.2]; rfl
   refine cseq <| cregion <| qq (Val.move rfl) rfl ?_
   first | refine WR.val (Val.rdlen sl23 (by assumption) rfl) rfl ?_ | refine WR.val (Val.sllen Try.underlying23 rfl) rfl ?_ | refine WR.val (Val.olen sl23 (by assumption) rfl) rfl ?_ | refine WR.val (Val.rdlenC sl23 (by assumption) rfl) rfl ?_
   refine qq (Val.move rfl) rfl ?_
   first | refine WR.val (Val.rdlen sl23 (by assumption) rfl) rfl ?_ | refine WR.val (Val.sllen Try.underlying23 rfl) rfl ?_ | refine WR.val (Val.olen sl23 (by assumption) rfl) rfl ?_ | refine WR.val (Val.rdlenC sl23 (by assumption) rfl) rfl ?_
   refine qq (Val.addI rfl rfl (by first | omega | assumption | (simp; omega) | (simp; done)) (by first | omega | assumption | (simp; omega) | (simp; done))) rfl <| qq (Val.gtr rfl rfl) rfl <| qq (Val.assign rfl) rfl <| cnil ?_
   refine WC.cond rfl (fun hc5 => ?_) (fun hc5 => ?_)
   ·try simp only [tstS] at hc5
    have hms : manSort m = (man0, 2) := by rw [manSort, if_pos hok, if_neg (by omega)]
    refine cseq <| cregion <| qq (Val.build (cells := #[I 0, .slice none 0 0, .slice none 0 0]) rfl (by kernel_rfl)) rfl ?_
    refine WR.eff_ (Eff.storeNC agg29 rfl rfl hb2 rfl rfl (by repeat (first | exact List.forall_mem_nil _ | refine List.forall_mem_cons.2 ⟨by first | rfl | assumption, ?_⟩))) ?_
    rintro _ w8 ⟨hS, hM8⟩
    replace hO := hO.mv hM8 rfl; replace hb := hb.mv hM8 rfl; replace hs := hs.mv hM8 rfl; replace hb1 := hb1.mv hM8 rfl; replace ho1 := ho1.mv hM8 rfl; replace ho2 := ho2.mv hM8 rfl
    replace hb2 := hS
    refine qq (Val.assign rfl) rfl <| cnil ?_
    refine WC.retR2 rfl (RVal.cellN agg29 rfl hb2.blk rfl) (RVal.tmp rfl) ?_
    exact ⟨hO.below, _, _, by rw [hms]; rfl, by rw [hms]; exact Own.nil _ _ _ _, by rw [hms]; exact Own.nil _ _ _ _, fun k hk => by simp [Value.rowOf] at hk⟩
   ·try simp only [tstS] at hc5
    have hms : manSort m = (⟨m.kind, riseS m.blobs, riseS m.subs⟩, 0) := by rw [manSort, if_pos hok, if_pos (by omega)]
    obtain ⟨A1, q1, rfl, _⟩ := ho1.own.formA
    obtain ⟨A2, q2, rfl, _⟩ := ho2.own.formA
    refine cskip <| cseq <| cregion ?_
    first | refine WR.val (Val.fieldAddr fld29_0 rfl) rfl ?_ | refine WR.val (Val.fieldAddrP fld29_0 rfl) rfl ?_
    refine qq (Val.loadB scl3 rfl hb1.blk rfl) rfl <| qq (Val.move rfl) rfl <| qq (Val.move rfl) rfl <| qq (Val.build (cells := #[I m.kind, .slice A1 (riseS m.blobs).length q1, .slice A2 (riseS m.subs).length q2]) rfl (by kernel_rfl)) rfl ?_
    refine WR.eff_ (Eff.storeNC agg29 rfl rfl hb2 rfl rfl (by repeat (first | exact List.forall_mem_nil _ | refine List.forall_mem_cons.2 ⟨by first | rfl | assumption, ?_⟩))) ?_
    rintro _ w9 ⟨hS, hM9⟩
    replace hO := hO.mv hM9 rfl; replace hb := hb.mv hM9 rfl; replace hs := hs.mv hM9 rfl; replace hb1 := hb1.mv hM9 rfl; replace ho1 := ho1.mv hM9 rfl; replace ho2 := ho2.mv hM9 rfl
    replace hb2 := hS
    refine qq (Val.assign rfl) rfl <| cnil ?_
    refine WC.retR2 rfl (RVal.cellN agg29 rfl hb2.blk rfl) (RVal.tmp rfl) ?_
    exact ⟨hO.below, _, _, by rw [hms], by rw [hms]; exact ho1.fromOld hO (by decide), by rw [hms]; exact ho2.fromOld hO (by decide), fun k h3 h4 => by have h5 := ho1.col k h3; have h6 := ho2.col k h4; rw [h5] at h6; cases h6⟩

theorem recol {w w' : World} {c : Nat → Nat} {α : Type} {s : Shape α} {v u : Value} {l : List α} {i j n size : Nat} {e : TypeId} {xs : List Value} (hO : OldC w c w') (h1 : RdC s c w' [0] v l) (h : OwnC c w' i e size u n xs) (hi : i ≠ 0) (hj : j ≠ 0) :
    ∃ c2, OldC w c2 w' ∧ RdC s c2 w' [0] v l ∧ OwnC c2 w' j e size u n xs := by
  refine ⟨fun k => if c k = 0 then 0 else j, ⟨hO.below, fun k hk => by rw [hO.col k hk]; rfl⟩, fun w2 hs hk => h1 w2 hs fun k hc hl => hk k ?_ hl, ⟨h.own, fun k hk => by rw [h.col k hk]; simp [hi]⟩⟩
  have : c k = 0 := by simpa [hasC] using hc
  show hasC [0] (if c k = 0 then 0 else j) = true
  rw [if_pos this]; rfl
theorem grown_both {w w1 w2 : World} {r : Option Nat} (h1 : w.grownBy w1 r) (h2 : w1.grownBy w2 r) : w.grownBy w2 r :=
  ⟨h2.os.trans h1.os, h2.tape.trans h1.tape, h2.output.trans h1.output, Nat.le_trans h1.size h2.size, fun k hk hne => (h2.block k (Nat.lt_of_lt_of_le hk h1.size) hne).trans (h1.block k hk hne)⟩
/-- Each text of a row is spoilt. -/
theorem spoil_ok {w : World} {v : Value} {l : List (List UInt8)} (hown : Own w 0 9 1 v l.length (l.flatMap fun x => [St x])) (hl : l.length ≤ 1048576) :
    Calls Try.prog 31 #[v] w (Ret fun _ w' => w.grownBy w' v.rowOf) := by
  obtain ⟨A, cp, rfl, _⟩ := hown.formA
  refine enter (n := 12) (res := #[]) Try.func31 rfl rfl rfl rfl ?_
  refine cseq <| cregion <| qq (Val.assign rfl) rfl <| cnil <| cblock ?_
  refine WC.loop (σ := Nat) (fun k => [(0, .slice A l.length cp), (2, I k)]) (fun k w' => ∃ ys, Own w' 0 9 1 (.slice A l.length cp) l.length ys ∧ w.grownBy w' (Value.slice A l.length cp).rowOf ∧ k ≤ l.length) (fun k => l.length - k) 0 (by repeat (first | exact Sub.nil _ | refine Sub.cons rfl ?_ | refine Sub.consM rfl ?_)) ⟨_, hown, ⟨rfl, rfl, rfl, Nat.le_refl _, fun _ _ _ => rfl⟩, by omega⟩ ?_
  clear hown
  rintro k wl ⟨ys, ho, hg, hk⟩
  refine cseq <| cseq <| cregion <| qq (Val.move rfl) rfl <| qq (Val.move rfl) rfl ?_
  first | refine WR.val (Val.rdlen sl23 (by assumption) rfl) rfl ?_ | refine WR.val (Val.sllen Try.underlying23 rfl) rfl ?_
  refine qq (Val.lss rfl rfl) rfl <| cnil ?_
  refine WC.cond rfl (fun hc1 => ?_) (fun hc1 => ?_)
  ·try simp only [tstS] at hc1
   have ka : k < l.length := by omega
   refine cskip <| cseq <| cblock <| cregion <| qq (Val.move rfl) rfl <| qq (Val.move rfl) rfl <| qq (Val.indexO (c := fun _ => 2) (i := 2) sl23 ⟨ho, fun _ _ => rfl⟩ rfl rfl (by omega) (by omega)) rfl ?_
   refine WR.eff_ (Eff.storeOwn scl9 ho (i := k) (by omega) rfl rfl rfl rfl) ?_
   rintro _ ws ⟨ho, hg2, _⟩
   refine cnil <| cregion <| qq (Val.move rfl) rfl <| qq (Val.addI rfl rfl (by first | omega | assumption | (simp; omega) | (simp; done)) (by first | omega | assumption | (simp; omega) | (simp; done))) rfl <| qq (Val.assign rfl) rfl <| cnil ?_
   exact ⟨k + 1, (by repeat (first | exact Sub.nil _ | refine Sub.cons rfl ?_ | refine Sub.consM rfl ?_)), ⟨_, ho, grown_both hg hg2, ka⟩, by omega⟩
  ·try simp only [tstS] at hc1
   refine WC.exit rfl ?_
   refine ⟨_, _, rfl, rfl, ?_⟩
   exact ⟨rfl, hg⟩
set_option maxHeartbeats 1000000 in
theorem pRising_ok {w : World} {v : Value} {l : List (List UInt8)} (h0 : Rd strS w v l) (hl : l.length ≤ 1048576) :
    Calls Try.prog 30 #[v] w (Ret fun v' w' => Below w.heap.size w w' ∧ Own w' w.heap.size 9 1 v' (riseS l).length ((riseS l).flatMap fun x => [St x])) := by
  have hok := h0.okFlat
  obtain ⟨c, hO, hc⟩ := OldC.start w
  have h1 : RdC strS c w [0] v l := Rd.toC h0 (fun k hk => by simp [hc, hasC])
  clear hc h0
  refine enter (n := 59) (res := #[.tmp 2]) Try.func30 rfl rfl rfl rfl ?_
  refine cseq <| cregion <| qq (Val.assign rfl) rfl <| cnil <| cseq <| cregion <| qq (Val.assign rfl) rfl <| cnil <| cseq ?_
  refine cseq <| cregion <| qq (Val.assign rfl) rfl <| cnil <| cblock ?_
  refine WC.loop (σ := Nat × Value × List (List UInt8)) (fun st => [(0, v), (3, st.2.1), (4, I st.1)]) (fun st w' => ∃ c', OldC w c' w' ∧ RdC strS c' w' [0] v l ∧ OwnC c' w' 3 9 1 st.2.1 st.2.2.length (st.2.2.flatMap fun x => [St x]) ∧ st.1 ≤ l.length ∧ st.2.2.length ≤ st.1 ∧ st.2.2.Pairwise L ∧ ∀ a, a ∈ st.2.2 ↔ a ∈ l.take st.1) (fun st => l.length - st.1) (0, .slice none 0 0, []) (by repeat (first | exact Sub.nil _ | refine Sub.cons rfl ?_ | refine Sub.consM rfl ?_)) ⟨_, hO, h1, OwnC.nil _ _ _ _ _, by simp, by simp, by simp, by simp⟩ ?_
  clear hO h1
  rintro ⟨i, vx, x⟩ wl ⟨cl, hO, h1, ho, hi, hxl, hxs, hxm⟩
  dsimp only at hO h1 ho hi hxl hxs hxm ⊢
  refine cseq <| cseq <| cregion <| qq (Val.move rfl) rfl <| qq (Val.move rfl) rfl ?_
  first | refine WR.val (Val.rdlen sl23 (by assumption) rfl) rfl ?_ | refine WR.val (Val.sllen Try.underlying23 rfl) rfl ?_ | refine WR.val (Val.olen sl23 (by assumption) rfl) rfl ?_ | refine WR.val (Val.rdlenC sl23 (by assumption) rfl) rfl ?_
  refine qq (Val.lss rfl rfl) rfl <| cnil ?_
  refine WC.cond rfl (fun hc3 => ?_) (fun hc3 => ?_)
  ·try simp only [tstS] at hc3
   have ka : i < l.length := by omega
   obtain ⟨hc23, ok1⟩ := RdC.elFlat h1 ka (by decide)
   have hc40 := hc23; have hc50 := hc23
   have hxo : ∀ a ∈ x, a.length ≤ 140737488355328 := fun a ha => hok a (List.mem_of_mem_take ((hxm a).1 ha))
   have hX : RdC strS cl wl [3] vx x := ho.rdFlat (by omega) hxo
   obtain ⟨A3, q3, rfl, hq3, _⟩ := ho.own.formA
   refine cskip <| cseq <| cblock <| cseq <| cregion <| qq (Val.assign rfl) rfl <| cnil <| cseq <| cblock ?_
   refine WC.loop (σ := Nat) (fun k => [(0, v), (3, .slice A3 x.length q3), (4, I i), (5, I k)]) (fun k w' => ∃ c', OldC w c' w' ∧ RdC strS c' w' [0] v l ∧ OwnC c' w' 3 9 1 (.slice A3 x.length q3) x.length (x.flatMap fun x => [St x]) ∧ RdC strS c' w' [3] (.slice A3 x.length q3) x ∧ CelC c' w' [0] (elemA v strS.size i) ((fun l => [St l]) l[i]) ∧ k ≤ x.length ∧ ∀ j (hj : j < x.length), j < k → L x[j] l[i]) (fun k => x.length - k) 0 (by repeat (first | exact Sub.nil _ | refine Sub.cons rfl ?_ | refine Sub.consM rfl ?_)) ⟨_, hO, h1, ho, hX, hc23, by omega, fun j _ hj => absurd hj (Nat.not_lt_zero _)⟩ ?_
   clear hO h1 ho hX hc23 hc40 hc50
   rintro k wk ⟨ck, hO, h1, ho, hX, hc23, hk, hkL⟩
   have hc40 := hc23; have hc50 := hc23
   have hXw := hX
   refine cseq <| cseq ?_
   refine WC.regionD (Kp ck wk []) [0, 0, 0, 0, 0, 0, 0, 0, 1, 0, 0, 0, 1, 0, 0] [0, 1, 2, 3, 4, 5, 6, 7, 8, 9, 10, 11, 12, 13, 14] mixed (by kernel_rfl) ?_
   have hM1 := Mv.drew ck wk []
   have hCw := Mv.drew ck wk []
   generalize wk.drew = w1 at hM1 hCw ⊢
   have hc230 := hc23
   have hc400 := hc40
   have hc500 := hc50
   replace hO := hO.mv hM1 rfl; replace h1 := h1.mv hM1 rfl; replace ho := ho.mv hM1 rfl; replace hX := hX.mv hM1 rfl; replace hc23 := hc23.mv hM1 rfl; replace hc40 := hc40.mv hM1 rfl; replace hc50 := hc50.mv hM1 rfl
   refine qd rfl rfl rfl (fun _ => Val.move rfl) rfl <| qd rfl rfl rfl (fun _ => Val.move rfl) rfl ?_
   first | refine WD.val rfl rfl rfl (fun _ => Val.rdlen sl23 (by assumption) rfl) rfl ?_ | refine WD.val rfl rfl rfl (fun _ => Val.sllen Try.underlying23 rfl) rfl ?_ | refine WD.val rfl rfl rfl (fun _ => Val.olen sl23 (by assumption) rfl) rfl ?_ | refine WD.val rfl rfl rfl (fun _ => Val.rdlenC sl23 (by assumption) rfl) rfl ?_
   refine qd rfl rfl rfl (fun _ => Val.lss rfl rfl) rfl <| qd rfl rfl rfl (fun _ => Val.move rfl) rfl ?_
   apply WD.sc true 9 _ (fun w' => w1 = w')
   case hl => rfl
   case hi => rfl
   case hk => rfl
   case hg => rfl
   case hu => rfl
   case hv => rfl
   case hs => rfl
   case hoff => rfl
   case hd => rfl
   case hC => exact hCw.kp
   case hF => exact fun _ => rfl
   case hT =>
    intro hq14
    try simp only [tstS] at hq14
    simp only [List.take_succ_cons, List.take_zero]
    have hkx : k < x.length := by omega
    obtain ⟨hc190, _⟩ := RdC.elFlat hXw hkx (by decide)
    have hv1 : ([St x[k]] : List Value) = [St (x[k]?.getD [])] := by rw [getD_lt hkx]
    rw [hv1] at hc190
    refine qd rfl rfl rfl (fun _ => Val.move rfl) rfl <| qd rfl rfl rfl (fun _ => Val.move rfl) rfl <| qd rfl rfl rfl (fun _ => Val.indexAddr sl23 hX.now rfl rfl rfl (by omega) (by omega)) rfl <| qc rfl rfl rfl hCw.kp (fun W hW => Val.loadE1 scl9 rfl (hc190.kp hW rfl).cel) rfl <| qd rfl rfl rfl (fun _ => Val.move rfl) rfl <| qd rfl rfl rfl (fun _ => Val.move rfl) rfl <| qd rfl rfl rfl (fun _ => Val.indexAddr sl23 h1.now rfl rfl rfl (by omega) (by omega)) rfl <| qc rfl rfl rfl hCw.kp (fun W hW => Val.loadE1 scl9 rfl (hc230.kp hW rfl).cel) rfl <| qd rfl rfl rfl (fun _ => Val.slss rfl rfl) rfl ?_
    exact WD.nil ⟨rfl, Sub.drop _ 9 _ rfl rfl, rfl⟩
   rintro _ rfl
   refine WD.nil ?_
   clear hc230 hc400 hc500
   clear hCw
   refine WC.cond rfl (fun hc6 => ?_) (fun hc6 => ?_)
   ·try simp only [tstS] at hc6
    have hkx : k < x.length := by omega
    rw [getD_lt hkx] at hc6
    refine cskip <| cblock <| cregion <| qq (Val.move rfl) rfl <| qq (Val.addI rfl rfl (by first | omega | assumption | (simp; omega) | (simp; done)) (by first | omega | assumption | (simp; omega) | (simp; done))) rfl <| qq (Val.assign rfl) rfl <| cnil ?_
    refine ⟨k + 1, (by repeat (first | exact Sub.nil _ | refine Sub.cons rfl ?_ | refine Sub.consM rfl ?_)), ⟨_, hO, h1, ho, hX, hc23, hkx, fun j hj hjk => ?_⟩, by omega⟩
    rcases Nat.lt_or_ge j k with h | h
    · exact hkL j hj h
    · have : j = k := by omega
      subst this; exact hc6.2
   ·try simp only [tstS] at hc6
    have hno : ∀ hk' : k < x.length, ¬ L x[k] l[i] := fun hkx => by
      rw [getD_lt hkx, decide_eq_true (show (k : Int) < (x.length : Int) by omega)] at hc6
      simpa [L] using hc6
    have hXw := hX
    refine WC.exit rfl ?_
    refine cseq <| cseq ?_
    refine WC.regionD (Kp ck w1 []) [0, 0, 0, 0, 0, 0, 0, 0, 1, 0, 0, 0, 1, 0, 0] [0, 1, 2, 3, 4, 5, 6, 7, 8, 9, 10, 11, 12, 13, 14] mixed (by kernel_rfl) ?_
    have hM2 := Mv.drew ck w1 []
    have hCw := Mv.drew ck w1 []
    generalize w1.drew = w2 at hM2 hCw ⊢
    have hc230 := hc23
    have hc400 := hc40
    have hc500 := hc50
    replace hO := hO.mv hM2 rfl; replace h1 := h1.mv hM2 rfl; replace ho := ho.mv hM2 rfl; replace hX := hX.mv hM2 rfl; replace hc23 := hc23.mv hM2 rfl; replace hc40 := hc40.mv hM2 rfl; replace hc50 := hc50.mv hM2 rfl
    refine qd rfl rfl rfl (fun _ => Val.move rfl) rfl <| qd rfl rfl rfl (fun _ => Val.move rfl) rfl ?_
    first | refine WD.val rfl rfl rfl (fun _ => Val.rdlen sl23 (by assumption) rfl) rfl ?_ | refine WD.val rfl rfl rfl (fun _ => Val.sllen Try.underlying23 rfl) rfl ?_ | refine WD.val rfl rfl rfl (fun _ => Val.olen sl23 (by assumption) rfl) rfl ?_ | refine WD.val rfl rfl rfl (fun _ => Val.rdlenC sl23 (by assumption) rfl) rfl ?_
    refine qd rfl rfl rfl (fun _ => Val.lss rfl rfl) rfl <| qd rfl rfl rfl (fun _ => Val.move rfl) rfl ?_
    apply WD.sc true 9 _ (fun w' => w2 = w')
    case hl => rfl
    case hi => rfl
    case hk => rfl
    case hg => rfl
    case hu => rfl
    case hv => rfl
    case hs => rfl
    case hoff => rfl
    case hd => rfl
    case hC => exact hCw.kp
    case hF => exact fun _ => rfl
    case hT =>
     intro hq14
     try simp only [tstS] at hq14
     simp only [List.take_succ_cons, List.take_zero]
     have hkx : k < x.length := by omega
     obtain ⟨hc360, _⟩ := RdC.elFlat hXw hkx (by decide)
     have hv1 : ([St x[k]] : List Value) = [St (x[k]?.getD [])] := by rw [getD_lt hkx]
     rw [hv1] at hc360
     refine qd rfl rfl rfl (fun _ => Val.move rfl) rfl <| qd rfl rfl rfl (fun _ => Val.move rfl) rfl <| qd rfl rfl rfl (fun _ => Val.indexAddr sl23 hX.now rfl rfl rfl (by omega) (by omega)) rfl <| qc rfl rfl rfl hCw.kp (fun W hW => Val.loadE1 scl9 rfl (hc360.kp hW rfl).cel) rfl <| qd rfl rfl rfl (fun _ => Val.move rfl) rfl <| qd rfl rfl rfl (fun _ => Val.move rfl) rfl <| qd rfl rfl rfl (fun _ => Val.indexAddr sl23 h1.now rfl rfl rfl (by omega) (by omega)) rfl <| qc rfl rfl rfl hCw.kp (fun W hW => Val.loadE1 scl9 rfl (hc400.kp hW rfl).cel) rfl <| qd rfl rfl rfl (fun _ => Val.seq_ rfl rfl) rfl ?_
     exact WD.nil ⟨rfl, Sub.drop _ 9 _ rfl rfl, rfl⟩
    rintro _ rfl
    refine WD.nil ?_
    clear hc230 hc400 hc500
    clear hCw
    refine WC.cond rfl (fun hc8 => ?_) (fun hc8 => ?_)
    ·try simp only [tstS] at hc8
     have hkx : k < x.length := by omega
     have hmem : l[i] ∈ x := by
       have h8 := hc8.2
       rw [getD_lt hkx, beq_iff_eq] at h8
       rw [← h8]; exact List.getElem_mem hkx
     have hnm : ∀ a, a ∈ x ↔ a ∈ l.take (i + 1) := fun a => by
       rw [List.take_succ_eq_append_getElem ka, List.mem_append, ← hxm]
       exact ⟨.inl, fun h => h.elim id (fun h => by simp at h; rw [h]; exact hmem)⟩
     refine WC.exit rfl ?_
     refine cregion <| qq (Val.move rfl) rfl <| qq (Val.addI rfl rfl (by first | omega | assumption | (simp; omega) | (simp; done)) (by first | omega | assumption | (simp; omega) | (simp; done))) rfl <| qq (Val.assign rfl) rfl <| cnil ?_
     first
     | exact ⟨(i + 1, _, x), (by repeat (first | exact Sub.nil _ | refine Sub.cons rfl ?_ | refine Sub.consM rfl ?_)), ⟨_, hO, h1, ho, ka, by dsimp only; omega, hxs, hnm⟩, by dsimp only; omega⟩
     | (have e1 : (x.take k).flatMap (fun x => [St x]) ++ [St l[i]] ++ (x.drop k).flatMap (fun x => [St x]) = (x.take k ++ [l[i]] ++ x.drop k).flatMap (fun x => [St x]) := by rw [List.flatMap_append, List.flatMap_append]; rfl
        have e2 : k + 1 + (x.length - k) = (x.take k ++ [l[i]] ++ x.drop k).length := by simp; omega
        rw [e1, e2] at ho
        obtain ⟨c2, hO, h1, ho⟩ := recol (j := 3) hO h1 ho (by decide) (by decide)
        exact ⟨(i + 1, _, x.take k ++ [l[i]] ++ x.drop k), (by repeat (first | exact Sub.nil _ | refine Sub.cons rfl ?_ | refine Sub.consM rfl ?_)), ⟨_, hO, h1, ho, ka, by simp; omega, hns, hnm⟩, by dsimp only; omega⟩)
    ·try simp only [tstS] at hc8
     have hgt : ∀ hk' : k < x.length, L l[i] x[k] := fun hkx => by
       rw [getD_lt hkx, decide_eq_true (show (k : Int) < (x.length : Int) by omega)] at hc8
       exact L_total (hno hkx) (by simpa using hc8)
     have hns := rise_insert hxs hk hkL hgt
     have hnm : ∀ a, a ∈ x.take k ++ [l[i]] ++ x.drop k ↔ a ∈ l.take (i + 1) := fun a => by
       rw [List.take_succ_eq_append_getElem ka, List.mem_append, List.mem_append, List.mem_append, ← hxm]
       have hm : a ∈ x ↔ a ∈ x.take k ∨ a ∈ x.drop k := by rw [← List.mem_append, List.take_append_drop]
       rw [hm]
       constructor
       · rintro ((h | h) | h)
         · exact .inl (.inl h)
         · exact .inr h
         · exact .inl (.inr h)
       · rintro ((h | h) | h)
         · exact .inl (.inl h)
         · exact .inr h
         · exact .inl (.inr h)
     refine cskip ?_
     refine WC.mono (N := fun e w' => ∃ c' v', Sub [(4000000, .tuple #[]), (0, v), (3, v'), (4, I i)] e ∧ OldC w c' w' ∧ RdC strS c' w' [0] v l ∧ OwnC c' w' 5 9 1 v' (k + 1 + (x.length - k)) ((x.take k).flatMap (fun x => [St x]) ++ [St l[i]] ++ (x.drop k).flatMap (fun x => [St x]))) ?_ ?_
     ·refine WC.regionT (Kp ck w2 [5]) [0, 0, 0, 2, 0, 0, 0, 1, 2, 2, 0, 0, 0, 2, 0] (.quiet 0 (.quiet 1 (.quiet 2 (.quiet 4 (.quiet 5 (.quiet 6 (.quiet 7 (.quiet 10 (.quiet 11 (.quiet 12 (.two 3 (.one 8 (.one 9 (.one 13 (.quiet 14 .nil)))) 8 (.one 3 (.one 9 (.one 13 (.quiet 14 .nil))))))))))))))) mixed (by kernel_rfl) ?_
      have hM3 := Mv.drew ck w2 []
      have hCw := Mv.drew ck w2 [5]
      generalize w2.drew = w3 at hM3 hCw ⊢
      have hc230 := hc23
      have hc400 := hc40
      have hc500 := hc50
      replace hO := hO.mv hM3 rfl; replace h1 := h1.mv hM3 rfl; replace ho := ho.mv hM3 rfl; replace hX := hX.mv hM3 rfl; replace hc23 := hc23.mv hM3 rfl; replace hc40 := hc40.mv hM3 rfl; replace hc50 := hc50.mv hM3 rfl
      refine WT.val rfl rfl rfl (fun _ => Val.move rfl) rfl ?_
      refine WT.val rfl rfl rfl (fun _ => Val.move rfl) rfl ?_
      refine WT.val rfl rfl rfl (fun _ => Val.partTo sl23 rfl rfl (by omega) (by omega)) rfl ?_
      refine WT.val rfl rfl rfl (fun _ => Val.move rfl) rfl ?_
      refine WT.val rfl rfl rfl (fun _ => Val.move rfl) rfl ?_
      refine WT.val rfl rfl rfl (fun _ => Val.indexAddr sl23 h1.now rfl rfl rfl (by omega) (by omega)) rfl ?_
      refine WT.valC rfl rfl rfl hCw.kp (fun W hW => Val.loadE1 scl9 rfl (hc500.kp hW rfl).cel) rfl ?_
      refine WT.val rfl rfl rfl (fun _ => Val.move rfl) rfl ?_
      refine WT.val rfl rfl rfl (fun _ => Val.move rfl) rfl ?_
      refine WT.val rfl rfl rfl (fun _ => Val.partFrom sl23 rfl rfl (by omega) (by omega)) rfl ?_
      refine WT.two ?_ ?_
      ·refine WS.eff rfl rfl rfl (Eff.pureC ck 5 (Eff.call pf15 rfl (copyStrings_ok (hX.now.to_ (hi := (k : Int).toNat) (by omega)) (by simp; omega)))) rfl ?_
       rintro v47 w4 ⟨c4, hM4, hx4, ho47⟩
       refine ⟨fun hC => hC.step hCw hM4 rfl, ?_⟩
       replace hCw := hCw.tr hM4 rfl
       replace hO := hO.mv hM4 rfl; replace h1 := h1.mv hM4 rfl; replace ho := ho.mv hM4 rfl; replace hX := hX.mv hM4 rfl; replace hc23 := hc23.mv hM4 rfl; replace hc40 := hc40.mv hM4 rfl; replace hc50 := hc50.mv hM4 rfl
       replace ho47 := ho47.toC hx4
       refine WT.one ?_
       refine WS.eff rfl rfl rfl (Eff.build1C c4 152 sl23 rfl rfl rfl rfl rfl) rfl ?_
       rintro _ w5 ⟨b52, c5, rfl, hM5, hb52⟩
       refine ⟨fun hC => hC.step hCw hM5 rfl, ?_⟩
       replace hCw := hCw.tr hM5 rfl
       replace hO := hO.mv hM5 rfl; replace h1 := h1.mv hM5 rfl; replace ho := ho.mv hM5 rfl; replace hX := hX.mv hM5 rfl; replace hc23 := hc23.mv hM5 rfl; replace hc40 := hc40.mv hM5 rfl; replace hc50 := hc50.mv hM5 rfl; replace ho47 := ho47.mv hM5 rfl
       refine WT.one ?_
       refine WS.eff rfl rfl rfl (Eff.appendC sl23 rfl rfl ho47 (Src.cellsAt Try.underlying23 hb52.blk.cellsAt rfl (by repeat (first | exact List.forall_mem_nil _ | refine List.forall_mem_cons.2 ⟨by first | rfl | assumption, ?_⟩))) (by rw [maxLen_eq]; first | omega | (simp; omega)) (by first | omega | (simp; omega))) rfl ?_
       rintro v53 w6 ⟨c6, hM6, hOq⟩
       refine ⟨fun hC => hC.step hCw hM6 rfl, ?_⟩
       replace hCw := hCw.tr hM6 rfl
       clear hb52
       replace hO := hO.mv hM6 rfl; replace h1 := h1.mv hM6 rfl; replace ho := ho.mv hM6 rfl; replace hX := hX.mv hM6 rfl; replace hc23 := hc23.mv hM6 rfl; replace hc40 := hc40.mv hM6 rfl; replace hc50 := hc50.mv hM6 rfl
       replace ho47 := hOq
       refine WT.one ?_
       refine WS.eff rfl rfl rfl (Eff.appendC sl23 rfl rfl ho47 (Src.flat Try.underlying23 (hX.now.from_ (lo := (k : Int).toNat) (by omega))) (by rw [maxLen_eq]; first | omega | (simp; omega)) (by first | omega | (simp; omega))) rfl ?_
       rintro v57 w7 ⟨c7, hM7, hOq⟩
       refine ⟨fun hC => hC.step hCw hM7 rfl, ?_⟩
       replace hCw := hCw.tr hM7 rfl
       replace hO := hO.mv hM7 rfl; replace h1 := h1.mv hM7 rfl; replace ho := ho.mv hM7 rfl; replace hX := hX.mv hM7 rfl; replace hc23 := hc23.mv hM7 rfl; replace hc40 := hc40.mv hM7 rfl; replace hc50 := hc50.mv hM7 rfl
       replace ho47 := hOq
       refine WT.val rfl rfl rfl (fun _ => Val.assign rfl) rfl ?_
       refine WT.nil ?_
       simp only [Int.toNat_natCast] at ho47
       have e1 : (x.take k).length + 1 + (x.drop k).length = k + 1 + (x.length - k) := by simp; omega
       rw [e1] at ho47
       exact ⟨_, _, (by repeat (first | exact Sub.nil _ | refine Sub.cons rfl ?_ | refine Sub.consM rfl ?_)), hO, h1, ho47⟩
      ·refine WS.eff rfl rfl rfl (Eff.build1C ck 152 sl23 rfl rfl rfl rfl rfl) rfl ?_
       rintro _ w8 ⟨b52, c8, rfl, hM8, hb52⟩
       refine ⟨fun hC => hC.step hCw hM8 rfl, ?_⟩
       replace hCw := hCw.tr hM8 rfl
       replace hO := hO.mv hM8 rfl; replace h1 := h1.mv hM8 rfl; replace ho := ho.mv hM8 rfl; replace hX := hX.mv hM8 rfl; replace hc23 := hc23.mv hM8 rfl; replace hc40 := hc40.mv hM8 rfl; replace hc50 := hc50.mv hM8 rfl
       refine WT.one ?_
       refine WS.eff rfl rfl rfl (Eff.pureC c8 5 (Eff.call pf15 rfl (copyStrings_ok (hX.now.to_ (hi := (k : Int).toNat) (by omega)) (by simp; omega)))) rfl ?_
       rintro v47 w9 ⟨c9, hM9, hx9, ho47⟩
       refine ⟨fun hC => hC.step hCw hM9 rfl, ?_⟩
       replace hCw := hCw.tr hM9 rfl
       replace hO := hO.mv hM9 rfl; replace h1 := h1.mv hM9 rfl; replace ho := ho.mv hM9 rfl; replace hX := hX.mv hM9 rfl; replace hc23 := hc23.mv hM9 rfl; replace hc40 := hc40.mv hM9 rfl; replace hc50 := hc50.mv hM9 rfl; replace hb52 := hb52.mv hM9 rfl
       replace ho47 := ho47.toC hx9
       refine WT.one ?_
       refine WS.eff rfl rfl rfl (Eff.appendC sl23 rfl rfl ho47 (Src.cellsAt Try.underlying23 hb52.blk.cellsAt rfl (by repeat (first | exact List.forall_mem_nil _ | refine List.forall_mem_cons.2 ⟨by first | rfl | assumption, ?_⟩))) (by rw [maxLen_eq]; first | omega | (simp; omega)) (by first | omega | (simp; omega))) rfl ?_
       rintro v53 w10 ⟨c10, hM10, hOq⟩
       refine ⟨fun hC => hC.step hCw hM10 rfl, ?_⟩
       replace hCw := hCw.tr hM10 rfl
       clear hb52
       replace hO := hO.mv hM10 rfl; replace h1 := h1.mv hM10 rfl; replace ho := ho.mv hM10 rfl; replace hX := hX.mv hM10 rfl; replace hc23 := hc23.mv hM10 rfl; replace hc40 := hc40.mv hM10 rfl; replace hc50 := hc50.mv hM10 rfl
       replace ho47 := hOq
       refine WT.one ?_
       refine WS.eff rfl rfl rfl (Eff.appendC sl23 rfl rfl ho47 (Src.flat Try.underlying23 (hX.now.from_ (lo := (k : Int).toNat) (by omega))) (by rw [maxLen_eq]; first | omega | (simp; omega)) (by first | omega | (simp; omega))) rfl ?_
       rintro v57 w11 ⟨c11, hM11, hOq⟩
       refine ⟨fun hC => hC.step hCw hM11 rfl, ?_⟩
       replace hCw := hCw.tr hM11 rfl
       replace hO := hO.mv hM11 rfl; replace h1 := h1.mv hM11 rfl; replace ho := ho.mv hM11 rfl; replace hX := hX.mv hM11 rfl; replace hc23 := hc23.mv hM11 rfl; replace hc40 := hc40.mv hM11 rfl; replace hc50 := hc50.mv hM11 rfl
       replace ho47 := hOq
       refine WT.val rfl rfl rfl (fun _ => Val.assign rfl) rfl ?_
       refine WT.nil ?_
       simp only [Int.toNat_natCast] at ho47
       have e1 : (x.take k).length + 1 + (x.drop k).length = k + 1 + (x.length - k) := by simp; omega
       rw [e1] at ho47
       exact ⟨_, _, (by repeat (first | exact Sub.nil _ | refine Sub.cons rfl ?_ | refine Sub.consM rfl ?_)), hO, h1, ho47⟩
     ·skip
      rintro e9 w9 ⟨c9, v', hsub, hO, h1, ho⟩
      refine WC.sub hsub ?_
      clear hsub e9
      refine cregion <| qq (Val.move rfl) rfl <| qq (Val.addI rfl rfl (by first | omega | assumption | (simp; omega) | (simp; done)) (by first | omega | assumption | (simp; omega) | (simp; done))) rfl <| qq (Val.assign rfl) rfl <| cnil ?_
      first
      | exact ⟨(i + 1, _, x), (by repeat (first | exact Sub.nil _ | refine Sub.cons rfl ?_ | refine Sub.consM rfl ?_)), ⟨_, hO, h1, ho, ka, by dsimp only; omega, hxs, hnm⟩, by dsimp only; omega⟩
      | (have e1 : (x.take k).flatMap (fun x => [St x]) ++ [St l[i]] ++ (x.drop k).flatMap (fun x => [St x]) = (x.take k ++ [l[i]] ++ x.drop k).flatMap (fun x => [St x]) := by rw [List.flatMap_append, List.flatMap_append]; rfl
         have e2 : k + 1 + (x.length - k) = (x.take k ++ [l[i]] ++ x.drop k).length := by simp; omega
         rw [e1, e2] at ho
         obtain ⟨c2, hO, h1, ho⟩ := recol (j := 3) hO h1 ho (by decide) (by decide)
         exact ⟨(i + 1, _, x.take k ++ [l[i]] ++ x.drop k), (by repeat (first | exact Sub.nil _ | refine Sub.cons rfl ?_ | refine Sub.consM rfl ?_)), ⟨_, hO, h1, ho, ka, by simp; omega, hns, hnm⟩, by dsimp only; omega⟩)
  ·try simp only [tstS] at hc3
   have : i = l.length := by omega
   subst this
   rw [List.take_length] at hxm
   have hxe := riseS_eq hxs hxm
   rw [hxe] at ho
   refine WC.exit rfl ?_
   refine cseq <| cregion <| qq (Val.move rfl) rfl <| qq (Val.assign rfl) rfl <| cnil ?_
   refine WC.ret1 rfl rfl ?_
   exact ⟨hO.below, ho.fromOld hO (by decide)⟩
end Go.Proofs.Ytnddlhjafkhdoaa

namespace Silo
open Go Go.Eng
theorem u8_back {n : Int} (h0 : 0 ≤ n) (h1 : n ≤ 255) : ((u8I n).toNat : Int) = n := by
  rw [← wrap_u8I]
  simp [IntKind.wrap, IntKind.signed, IntKind.bits]
  omega
theorem chunks_flat : ∀ (l : List (List UInt8)) (X : List UInt8), (∀ x ∈ l, x.length = 32) → chunks l.length (l.flatten ++ X) = l
  | [], _, _ => rfl
  | a :: r, X, h => by
    have ha := h a (by simp)
    simp only [List.length_cons, chunks, List.flatten_cons, List.append_assoc]
    rw [List.take_left' ha, List.drop_left' ha, chunks_flat r X (fun x hx => h x (by simp [hx]))]
theorem manTake_bytes {m : Man} (hm : manMay m = true) : manTake (manBytes m) = some m := by
  obtain ⟨⟨k0, k1⟩, hl, hr1, hr2⟩ := (manMay_iff m).1 hm
  have f1 := risingB_len hr1; have f2 := risingB_len hr2
  have hlen := manBytes_len hm
  have e4 : at_ (manBytes m) 4 = (u8I m.kind).toNat := rfl
  have e5 : at_ (manBytes m) 5 = (u8I m.blobs.length).toNat := rfl
  have e6 : at_ (manBytes m) 6 = (u8I m.subs.length).toNat := rfl
  have h4 := u8_back k0 k1
  have h5 := u8_back (n := m.blobs.length) (by omega) (by omega)
  have h6 := u8_back (n := m.subs.length) (by omega) (by omega)
  have h5' : at_ (manBytes m) 5 = m.blobs.length := by omega
  have h6' : at_ (manBytes m) 6 = m.subs.length := by omega
  have hd : (manBytes m).drop 7 = m.blobs.flatten ++ m.subs.flatten := by
    rw [manBytes_eq, List.append_assoc]; rfl
  have ho : manOf (manBytes m) = m := by
    rw [manOf, hd, h5', h6', List.drop_left' (flat32 f1), chunks_flat _ _ f1]
    have := chunks_flat m.subs [] f2
    rw [List.append_nil] at this
    rw [this, e4, h4]
  rw [manTake_may ⟨by omega, rfl, by rw [h5', h6']; exact hlen⟩, ho, hm]; rfl
theorem all32_riseS (l : List (List UInt8)) : all32 (riseS l) = all32 l := by
  have h := riseS_spec l
  rw [Bool.eq_iff_iff]
  simp only [all32, List.all_eq_true]
  exact ⟨fun h' x hx => h' x ((h.2 x).2 hx), fun h' x hx => h' x ((h.2 x).1 hx)⟩
theorem manSort_zero {m : Man} (h : (manSort m).2 = 0) : manMay (manSort m).1 = true ∧ manSort (manSort m).1 = ((manSort m).1, 0) ∧ (manSort m).1 = ⟨m.kind, riseS m.blobs, riseS m.subs⟩ := by
  unfold manSort at h ⊢
  split at h
  · rename_i h1
    split at h
    · rename_i h2
      rw [if_pos h1, if_pos h2]
      simp only [Bool.and_eq_true] at h1
      refine ⟨?_, ?_, rfl⟩
      · have r1 := risingB_riseS m.blobs
        have r2 := risingB_riseS m.subs
        rw [show (m.blobs.all fun x => decide (x.length = 32)) = true from h1.1.1] at r1
        rw [show (m.subs.all fun x => decide (x.length = 32)) = true from h1.1.2] at r2
        simp only [manMay, r1, r2, h1.2.1, h1.2.2, decide_eq_true h2]; rfl
      · simp only [all32_riseS, riseS_riseS, h1.1.1, h1.1.2, h1.2.1, h1.2.2, Bool.and_self, if_true, if_pos h2]
    · simp at h
  · simp at h
/-- What the law reckons: bad just if Sorted says so. -/
theorem manSort_bad (m : Man) : manSort m = if ((decide (0 ≤ m.kind) && decide (m.kind ≤ 255)) && all32 (m.blobs ++ m.subs)) = true then (if (riseS m.blobs).length + (riseS m.subs).length ≤ 20 then (⟨m.kind, riseS m.blobs, riseS m.subs⟩, 0) else (man0, 2)) else (man0, 1) := by
  have e : all32 (m.blobs ++ m.subs) = (all32 m.blobs && all32 m.subs) := by simp [all32]
  rw [manSort, e]
  congr 1
  rw [Bool.and_comm]
theorem all32_take {D : List (List UInt8)} {j : Nat} (h : j < D.length) : all32 (D.take (j + 1)) = (all32 (D.take j) && decide (D[j].length = 32)) := by
  unfold all32; rw [List.take_succ_eq_append_getElem h, List.all_append]; simp only [List.all_cons, List.all_nil, Bool.and_true]
theorem manSort_texts {m : Man} {B : Nat} (h1 : ∀ x ∈ m.blobs, x.length ≤ B) (h2 : ∀ x ∈ m.subs, x.length ≤ B) (hk : Go.Eng.Int64 m.kind) :
    (∀ x ∈ (manSort m).1.blobs, x.length ≤ B) ∧ (∀ x ∈ (manSort m).1.subs, x.length ≤ B) ∧ (manSort m).1.blobs.length ≤ m.blobs.length ∧ (manSort m).1.subs.length ≤ m.subs.length ∧ Go.Eng.Int64 (manSort m).1.kind := by
  have h0 : Go.Eng.Int64 0 := ⟨by decide, by decide⟩
  unfold manSort
  split
  · split
    · exact ⟨fun x hx => h1 x (((riseS_spec _).2 x).1 hx), fun x hx => h2 x (((riseS_spec _).2 x).1 hx), riseS_len _, riseS_len _, hk⟩
    · exact ⟨by simp [man0], by simp [man0], by simp [man0], by simp [man0], h0⟩
  · exact ⟨by simp [man0], by simp [man0], by simp [man0], by simp [man0], h0⟩
end Silo

namespace Silo
open Go Go.Eng
/-- A thing more, in its place. -/
def putT (T : List Thg) (t : Thg) : List Thg := T.take (lowT T t.digest) ++ t :: T.drop (lowT T t.digest)
theorem lowBy_le {α : Type} (p : α → Bool) (l : List α) : lowBy p l ≤ l.length := by
  unfold lowBy
  exact List.Sublist.length_le (List.takeWhile_sublist p)
theorem lowBy_lt {α : Type} {p : α → Bool} : ∀ {l : List α} {k : Nat} (hk : k < l.length), k < lowBy p l → p l[k] = true
  | a :: r, 0, _, h => by
    cases hp : p a with
    | true => exact hp
    | false => simp [lowBy, List.takeWhile_cons, hp] at h
  | a :: r, k + 1, hk, h => by
    cases hp : p a with
    | true =>
      simp only [lowBy, List.takeWhile_cons, hp, if_true, List.length_cons] at h
      have := lowBy_lt (p := p) (l := r) (k := k) (by simpa using hk) (by unfold lowBy; omega)
      simpa using this
    | false => simp [lowBy, List.takeWhile_cons, hp] at h
theorem lowBy_ge {α : Type} {p : α → Bool} : ∀ {l : List α} (h : lowBy p l < l.length), p l[lowBy p l] = false
  | a :: r, h => by
    by_cases hp : p a = true
    · have e : lowBy p (a :: r) = lowBy p r + 1 := by simp [lowBy, List.takeWhile_cons, hp]
      simp only [e, List.getElem_cons_succ]
      exact lowBy_ge (l := r) (by rw [e] at h; simpa using h)
    · have e : lowBy p (a :: r) = 0 := by simp [lowBy, List.takeWhile_cons, hp]
      simp only [e, List.getElem_cons_zero]
      simpa using hp
theorem mem_putT {T : List Thg} {t x : Thg} : x ∈ putT T t ↔ x = t ∨ x ∈ T := by
  have hm : x ∈ T ↔ x ∈ T.take (lowT T t.digest) ∨ x ∈ T.drop (lowT T t.digest) := by rw [← List.mem_append, List.take_append_drop]
  rw [putT, List.mem_append, List.mem_cons, hm]
  constructor
  · rintro (h | h | h)
    · exact .inr (.inl h)
    · exact .inl h
    · exact .inr (.inr h)
  · rintro (h | h | h)
    · exact .inr (.inl h)
    · exact .inl h
    · exact .inr (.inr h)
theorem putT_len (T : List Thg) (t : Thg) : (putT T t).length = T.length + 1 := by
  have := lowBy_le (fun x : Thg => Op.bytesLess x.digest t.digest) T
  have h2 : lowT T t.digest ≤ T.length := this
  simp only [putT, List.length_append, List.length_cons, List.length_take, List.length_drop]; omega
theorem riseT_pair {T : List Thg} : RiseT T ↔ (T.map Thg.digest).Pairwise L := by
  rw [List.pairwise_iff_getElem]
  constructor
  · intro h i j hi hj hij
    simp only [List.length_map] at hi hj
    simpa using h i j hi hj hij
  · intro h i j hi hj hij
    have := h i j (by simpa using hi) (by simpa using hj) hij
    rwa [List.getElem_map, List.getElem_map] at this
theorem riseT_putT {T : List Thg} (hr : RiseT T) {t : Thg} (hn : ∀ x ∈ T, x.digest ≠ t.digest) : RiseT (putT T t) := by
  have hk : lowT T t.digest ≤ T.length := lowBy_le _ T
  rw [riseT_pair]
  rw [putT, List.map_append, List.map_cons]
  have e1 : (T.take (lowT T t.digest)).map Thg.digest = (T.map Thg.digest).take (lowT T t.digest) := List.map_take
  have e2 : (T.drop (lowT T t.digest)).map Thg.digest = (T.map Thg.digest).drop (lowT T t.digest) := List.map_drop
  rw [e1, e2]
  have := rise_insert (x := T.map Thg.digest) (t := t.digest) (k := lowT T t.digest) (riseT_pair.1 hr) (by simpa using hk) (fun j hj hjk => by
    simp only [List.length_map] at hj
    simp only [List.getElem_map]
    exact lowBy_lt (p := fun x : Thg => Op.bytesLess x.digest t.digest) hj hjk) (fun hk' => by
    simp only [List.length_map] at hk'
    simp only [List.getElem_map]
    have h1 : ¬ L T[lowT T t.digest].digest t.digest := by
      have := lowBy_ge (p := fun x : Thg => Op.bytesLess x.digest t.digest) (l := T) hk'
      intro hL
      have e : Op.bytesLess T[lowT T t.digest].digest t.digest = false := this
      unfold L at hL
      rw [e] at hL; cases hL
    exact L_total h1 (hn _ (List.getElem_mem hk')))
  simpa using this

/-- What one thing must be by itself. -/
def oneOk (t : Thg) : Prop := t.digest.length = 32 ∧ t.text.length ≤ 2000 ∧ (t.manifest = true → (manTake t.text).isSome = true)
theorem thgsMay_of {T : List Thg} : thgsMay T = true ↔ T.length ≤ 60 ∧ RiseT T ∧ ∀ t ∈ T, oneOk t := by
  constructor
  · intro h
    refine ⟨thgsMay_len h, thgsMay_rise h, fun t ht => ?_⟩
    obtain ⟨i, hi, rfl⟩ := List.mem_iff_getElem.1 ht
    obtain ⟨h1, h2, h3, _⟩ := thgsMay_at h hi
    exact ⟨h1, h2, h3⟩
  · rintro ⟨h1, h2, h3⟩
    refine thgsMay_iff.2 ⟨h1, fun i hi => ?_⟩
    obtain ⟨a, b, c⟩ := h3 _ (List.getElem_mem hi)
    unfold thgAt
    rw [List.getElem?_eq_getElem hi]
    simp only [Bool.and_eq_true, Bool.or_eq_true, decide_eq_true_eq, Bool.not_eq_true']
    refine ⟨⟨⟨a, b⟩, ?_⟩, ?_⟩
    · rcases Nat.eq_zero_or_pos i with h | h
      · exact .inl h
      · right
        have := h2 (i - 1) i (by omega) hi (by omega)
        rw [List.getElem?_eq_getElem (show i - 1 < T.length by omega)]
        exact this
    · cases hm : T[i].manifest with
      | false => exact .inl rfl
      | true => exact .inr (c hm)
end Silo

namespace Silo
open Go Go.Eng
/-- No two of the digests are alike. -/
def Apart (s : UInt8) : Prop := ((List.range 9).map (dB s) ++ (List.range 9).map (dM s)).Nodup
theorem nodup_map_inj {f : Nat → List UInt8} {n : Nat} (h : ((List.range n).map f).Nodup) {i j : Nat} (hi : i < n) (hj : j < n) (e : f i = f j) : i = j := by
  have h1 := List.pairwise_iff_getElem.1 h
  rcases Nat.lt_trichotomy i j with h2 | h2 | h2
  · have := h1 i j (by simpa using hi) (by simpa using hj) h2
    simp only [List.getElem_map, List.getElem_range] at this
    exact absurd e this
  · exact h2
  · have := h1 j i (by simpa using hj) (by simpa using hi) h2
    simp only [List.getElem_map, List.getElem_range] at this
    exact absurd e.symm this
theorem nodup_map_range {f : Nat → List UInt8} {n : Nat} (h : ∀ a b, a < n → b < n → f a = f b → a = b) : ((List.range n).map f).Nodup := by
  rw [List.Nodup, List.pairwise_map]
  refine List.Pairwise.imp_of_mem ?_ List.nodup_range
  intro a b ha hb hne e
  exact hne (h a b (List.mem_range.1 ha) (List.mem_range.1 hb) e)
theorem Apart.bb {s : UInt8} (h : Apart s) {i j : Nat} (hi : i < 9) (hj : j < 9) (e : dB s i = dB s j) : i = j := nodup_map_inj (List.nodup_append.1 h).1 hi hj e
theorem Apart.mm {s : UInt8} (h : Apart s) {i j : Nat} (hi : i < 9) (hj : j < 9) (e : dM s i = dM s j) : i = j := nodup_map_inj (List.nodup_append.1 h).2.1 hi hj e
theorem Apart.bm {s : UInt8} (h : Apart s) {i j : Nat} (hi : i < 9) (hj : j < 9) : dB s i ≠ dM s j := by
  have h1 := (List.nodup_append.1 h).2.2
  exact h1 _ (List.mem_map.2 ⟨i, by simpa using hi, rfl⟩) _ (List.mem_map.2 ⟨j, by simpa using hj, rfl⟩)

def thgB (s : UInt8) (i : Nat) : Thg := ⟨dB s i, blobC s i, false⟩
def thgM (s : UInt8) (i : Nat) : Thg := ⟨dM s i, manBytes (manC s i), true⟩
def chainT (s : UInt8) : Nat → List Thg
  | 0 => []
  | i + 1 => putT (putT (chainT s i) (thgB s i)) (thgM s i)
theorem mem_chainT {s : UInt8} {x : Thg} : ∀ {n : Nat}, x ∈ chainT s n ↔ ∃ i, i < n ∧ (x = thgB s i ∨ x = thgM s i)
  | 0 => by simp [chainT]
  | n + 1 => by
    rw [chainT, mem_putT, mem_putT, mem_chainT]
    constructor
    · rintro (h | h | ⟨i, hi, h⟩)
      · exact ⟨n, by omega, .inr h⟩
      · exact ⟨n, by omega, .inl h⟩
      · exact ⟨i, by omega, h⟩
    · rintro ⟨i, hi, h⟩
      rcases Nat.lt_or_ge i n with h1 | h1
      · exact .inr (.inr ⟨i, h1, h⟩)
      · have : i = n := by omega
        subst this
        rcases h with h | h
        · exact .inr (.inl h)
        · exact .inl h
theorem chainT_len (s : UInt8) : ∀ n, (chainT s n).length = 2 * n
  | 0 => rfl
  | n + 1 => by rw [chainT, putT_len, putT_len, chainT_len]; omega
theorem chainT_rise {s : UInt8} (ha : Apart s) : ∀ {n : Nat}, n ≤ 9 → RiseT (chainT s n)
  | 0, _ => fun i j hi => by simp [chainT] at hi
  | n + 1, hn => by
    rw [chainT]
    refine riseT_putT (riseT_putT (chainT_rise ha (by omega)) fun x hx e => ?_) fun x hx e => ?_
    · obtain ⟨i, hi, h | h⟩ := mem_chainT.1 hx
      · subst h; have := ha.bb (by omega) (by omega) e; omega
      · subst h; exact ha.bm (by omega) (by omega) e.symm
    · rcases mem_putT.1 hx with h | h
      · subst h; exact ha.bm (by omega) (by omega) e
      · obtain ⟨i, hi, h | h⟩ := mem_chainT.1 h
        · subst h; exact ha.bm (by omega) (by omega) e
        · subst h; have := ha.mm (by omega) (by omega) e; omega
theorem manC_may (s : UInt8) {i : Nat} (hi : i < 9) : manMay (manC s i) = true := by
  rw [manMay_iff]
  have h1 : ∀ d : List UInt8, d.length = 32 → risingB [d] = true := fun d hd => risingB_iff.2 fun k hk => by
    simp at hk; subst hk
    simp [digAt, hd]
  cases i with
  | zero => exact ⟨⟨by simp [manC], by simp [manC]⟩, by simp [manC], h1 _ (digestS_length _), rfl⟩
  | succ i => exact ⟨⟨by simp only [manC]; omega, by simp only [manC]; omega⟩, by simp [manC], h1 _ (digestS_length _), h1 _ (digestS_length _)⟩
theorem namesB (s : UInt8) (i : Nat) : namesT (thgB s i) = [] := rfl
theorem namesM (s : UInt8) {i : Nat} (hi : i < 9) : namesT (thgM s i) = dB s i :: (if i = 0 then [] else [dM s (i - 1)]) := by
  rw [namesT_eq (t := thgM s i) rfl, show manTake (thgM s i).text = some (manC s i) from manTake_bytes (manC_may s hi)]
  cases i <;> rfl
theorem manC_len (s : UInt8) {i : Nat} (hi : i < 9) : (manBytes (manC s i)).length ≤ 71 := by
  rw [manBytes_len (manC_may s hi)]
  cases i <;> simp [manC]
theorem chainT_may {s : UInt8} (ha : Apart s) {n : Nat} (hn : n ≤ 9) : thgsMay (chainT s n) = true := by
  refine thgsMay_of.2 ⟨by rw [chainT_len]; omega, chainT_rise ha hn, fun t ht => ?_⟩
  obtain ⟨i, hi, h | h⟩ := mem_chainT.1 ht
  · subst h; exact ⟨digestS_length _, by simp [thgB, blobC], fun h => by cases h⟩
  · subst h
    have h2 := manC_len s (i := i) (by omega)
    refine ⟨digestS_length _, by simp only [thgM]; omega, fun _ => ?_⟩
    rw [show manTake (thgM s i).text = some (manC s i) from manTake_bytes (manC_may s (by omega))]; rfl
theorem find_mem {T : List Thg} (hr : RiseT T) {t : Thg} (ht : t ∈ T) : ∃ k, ∃ hk : k < T.length, findT T t.digest = some k ∧ T[k] = t := by
  obtain ⟨k, hk, e⟩ := List.mem_iff_getElem.1 ht
  exact ⟨k, hk, findT_at hr hk (by rw [e]), e⟩
/-- From the i-th manifest: just those up to it, and their blobs. -/
theorem chain_reach {s : UInt8} (ha : Apart s) {n : Nat} (hn : n ≤ 9) {i : Nat} (hi : i < n) {d : List UInt8} : d ∈ fromT (chainT s n) [dM s i] ↔ ∃ j, j ≤ i ∧ (d = dB s j ∨ d = dM s j) := by
  have hr := chainT_rise ha hn
  have hmem : ∀ j, j < n → thgM s j ∈ chainT s n := fun j hj => mem_chainT.2 ⟨j, hj, .inr rfl⟩
  constructor
  · intro h
    obtain ⟨k, hk, e⟩ := mem_fromT.1 h
    subst e
    induction hk with
    | root hd hf =>
      rename_i d0 k0
      obtain ⟨hk0, e⟩ := findT_some hf
      rw [dgOf_lt hk0, e]
      simp at hd; subst hd
      exact ⟨i, Nat.le_refl _, .inr rfl⟩
    | step hp hd hf ih =>
      rename_i p d0 k0
      obtain ⟨hk0, e⟩ := findT_some hf
      rw [dgOf_lt hk0, e]
      have hpl := hp.lt
      obtain ⟨j, hj, ih⟩ := ih (mem_fromT.2 ⟨p, hp, rfl⟩)
      rw [dgOf_lt hpl] at ih
      rw [nmOf_lt hpl] at hd
      obtain ⟨q, hq, hx | hx⟩ := mem_chainT.1 (List.getElem_mem hpl)
      · rw [hx, namesB] at hd; cases hd
      · rw [hx, namesM s (by omega)] at hd
        have hqj : q = j := by
          rw [hx] at ih
          rcases ih with ih | ih
          · exact absurd ih.symm (ha.bm (by omega) (by omega))
          · exact ha.mm (by omega) (by omega) ih
        subst hqj
        rcases List.mem_cons.1 hd with hd | hd
        · exact ⟨q, hj, .inl hd⟩
        · split at hd
          · cases hd
          · simp at hd; exact ⟨q - 1, by omega, .inr hd⟩
  · rintro ⟨j, hj, h⟩
    have hM : ∀ m, m ≤ i → ∃ k, findT (chainT s n) (dM s (i - m)) = some k ∧ Reach (chainT s n) [dM s i] k ∧ ∃ hk : k < (chainT s n).length, (chainT s n)[k] = thgM s (i - m) := by
      intro m
      induction m with
      | zero =>
        intro _
        obtain ⟨k, hk, hf, e⟩ := find_mem hr (hmem i hi)
        exact ⟨k, hf, .root (d := dM s i) (by simp) hf, hk, e⟩
      | succ m ih =>
        intro hm
        obtain ⟨k, hf, hre, hk, e⟩ := ih (by omega)
        obtain ⟨k2, hk2, hf2, e2⟩ := find_mem hr (hmem (i - (m + 1)) (by omega))
        refine ⟨k2, hf2, .step hre ?_ hf2, hk2, e2⟩
        rw [nmOf_lt hk, e, namesM s (by omega), if_neg (by omega)]
        simp only [thgM]
        rw [show i - m - 1 = i - (m + 1) by omega]
        simp
    obtain ⟨k, hf, hre, hk, e⟩ := hM (i - j) (by omega)
    rw [show i - (i - j) = j by omega] at hf e
    rcases h with h | h
    · subst h
      obtain ⟨k2, hk2, hf2, e2⟩ := find_mem hr (mem_chainT.2 ⟨j, by omega, .inl rfl⟩ : thgB s j ∈ chainT s n)
      exact mem_fromT.2 ⟨k2, .step hre (by rw [nmOf_lt hk, e, namesM s (by omega)]; simp [thgB]) hf2, by rw [dgOf_lt hk2, e2]; rfl⟩
    · subst h
      exact mem_fromT.2 ⟨k, hre, by rw [dgOf_lt hk, e]; rfl⟩
theorem chain_from_len {s : UInt8} (ha : Apart s) {n : Nat} (hn : n ≤ 9) {i : Nat} (hi : i < n) : (fromT (chainT s n) [dM s i]).length = 2 * (i + 1) := by
  have hr := chainT_rise ha hn
  have h1 : (fromT (chainT s n) [dM s i]).Nodup := (fromT_sorted hr _).imp fun {a b} h e => by subst e; exact L_irrefl _ h
  have h2 : ((List.range (i + 1)).map (dB s) ++ (List.range (i + 1)).map (dM s)).Nodup := by
    rw [List.nodup_append]
    refine ⟨?_, ?_, ?_⟩
    · exact nodup_map_range fun a b h3 h4 e => ha.bb (by omega) (by omega) e
    · exact nodup_map_range fun a b h3 h4 e => ha.mm (by omega) (by omega) e
    · intro a h3 b h4 e
      simp only [List.mem_map, List.mem_range] at h3 h4
      obtain ⟨p, hp, rfl⟩ := h3
      obtain ⟨q, hq, rfl⟩ := h4
      exact ha.bm (by omega) (by omega) e
  have := ((List.perm_ext_iff_of_nodup h1 h2).2 fun d => by
    rw [chain_reach ha hn hi, List.mem_append, List.mem_map, List.mem_map]
    constructor
    · rintro ⟨j, hj, h | h⟩
      · exact .inl ⟨j, by simp; omega, h.symm⟩
      · exact .inr ⟨j, by simp; omega, h.symm⟩
    · rintro (⟨j, hj, h⟩ | ⟨j, hj, h⟩)
      · simp at hj; exact ⟨j, by omega, .inl h.symm⟩
      · simp at hj; exact ⟨j, by omega, .inr h.symm⟩).length_eq
  rw [this]; simp; omega

/-! ### The order -/
/-- Told one behind the other, each when all that it names is told. -/
structure Told (T : List Thg) (o : List Nat) : Prop where
  lt : ∀ i ∈ o, i < T.length
  nodup : o.Nodup
  ready : ∀ p (hp : p < o.length), readyT T (o.take p) o[p] = true
theorem Told.snoc {T : List Thg} {o : List Nat} {i : Nat} (h : Told T o) (hn : nextT T o = some i) : Told T (o ++ [i]) := by
  obtain ⟨h1, h2, h3⟩ := nextT_some hn
  refine ⟨fun j hj => ?_, ?_, fun p hp => ?_⟩
  · rcases List.mem_append.1 hj with h4 | h4
    · exact h.lt j h4
    · simp at h4; subst h4; exact h1
  · rw [List.nodup_append]
    exact ⟨h.nodup, by simp, fun a ha b hb e => by simp at hb; subst hb; subst e; exact h2 ha⟩
  · rcases Nat.lt_or_ge p o.length with h4 | h4
    · rw [List.getElem_append_left h4, List.take_append_of_le_length (by omega)]
      exact h.ready p h4
    · have hp' : p = o.length := by simp at hp; omega
      subst hp'
      rw [List.getElem_append_right (Nat.le_refl _), List.take_append_of_le_length (Nat.le_refl _), List.take_length]
      simpa using h3
theorem orderGo_told {T : List Thg} (hne : ∀ o, Told T o → o.length < T.length → (nextT T o).isSome = true) : ∀ (k : Nat) (o : List Nat), Told T o → o.length + k = T.length → ∃ x, orderGo T k o = some x ∧ Told T x ∧ x.length = T.length
  | 0, o, h, hl => ⟨o, rfl, h, by omega⟩
  | k + 1, o, h, hl => by
    have h1 := hne o h (by omega)
    cases hx : nextT T o with
    | none => rw [hx] at h1; cases h1
    | some i =>
      rw [orderGo, hx]
      exact orderGo_told hne k (o ++ [i]) (h.snoc hx) (by simp; omega)
/-- Something is not told, where they are fewer. -/
theorem untold {n : Nat} {o : List Nat} (hl : o.length < n) : ∃ i, i < n ∧ i ∉ o := by
  apply Classical.byContradiction
  intro h
  have h1 : ∀ i ∈ List.range n, i ∈ o := fun i hi => Classical.byContradiction fun hn => h ⟨i, List.mem_range.1 hi, hn⟩
  have h2 := (List.nodup_range (n := n)).length_le_of_subset h1
  simp at h2; omega
theorem nextT_isSome {T : List Thg} {o : List Nat} {i : Nat} (hi : i < T.length) (hn : i ∉ o) (hr : readyT T o i = true) : (nextT T o).isSome = true := by
  unfold nextT
  rw [List.find?_isSome]
  exact ⟨i, List.mem_range.2 hi, by simp [hn, hr]⟩
theorem chain_next {s : UInt8} (ha : Apart s) {n : Nat} (hn : n ≤ 9) (o : List Nat) (hl : o.length < (chainT s n).length) : (nextT (chainT s n) o).isSome = true := by
  have hr := chainT_rise ha hn
  apply Classical.byContradiction
  intro hno
  have hall : ∀ i, i < (chainT s n).length → readyT (chainT s n) o i = true → i ∈ o := fun i hi h => Classical.byContradiction fun hio => hno (nextT_isSome hi hio h)
  -- all blobs are told, then all manifests, one by one
  have hB : ∀ j, j < n → ∃ k, findT (chainT s n) (dB s j) = some k ∧ k ∈ o := fun j hj => by
    obtain ⟨k, hk, hf, e⟩ := find_mem hr (mem_chainT.2 ⟨j, hj, .inl rfl⟩ : thgB s j ∈ chainT s n)
    refine ⟨k, hf, hall k hk ?_⟩
    rw [readyT_eq, nmOf_lt hk, e, namesB]; rfl
  have hM : ∀ j, j < n → ∃ k, findT (chainT s n) (dM s j) = some k ∧ k ∈ o := by
    intro j
    induction j with
    | zero =>
      intro hj
      obtain ⟨k, hk, hf, e⟩ := find_mem hr (mem_chainT.2 ⟨0, hj, .inr rfl⟩ : thgM s 0 ∈ chainT s n)
      refine ⟨k, hf, hall k hk ?_⟩
      obtain ⟨kb, hfb, hbo⟩ := hB 0 hj
      rw [readyT_eq, nmOf_lt hk, e, namesM s (by omega)]
      simp [okT, hfb, hbo]
    | succ j ih =>
      intro hj
      obtain ⟨k, hk, hf, e⟩ := find_mem hr (mem_chainT.2 ⟨j + 1, hj, .inr rfl⟩ : thgM s (j + 1) ∈ chainT s n)
      refine ⟨k, hf, hall k hk ?_⟩
      obtain ⟨kb, hfb, hbo⟩ := hB (j + 1) hj
      obtain ⟨km, hfm, hmo⟩ := ih (by omega)
      rw [readyT_eq, nmOf_lt hk, e, namesM s (by omega)]
      simp [okT, hfb, hbo, hfm, hmo]
  obtain ⟨i, hi, hio⟩ := untold hl
  obtain ⟨j, hj, h | h⟩ := mem_chainT.1 (List.getElem_mem hi)
  · obtain ⟨k, hf, hk⟩ := hB j hj
    have := findT_at hr hi (d := dB s j) (by rw [h]; rfl)
    rw [hf] at this; injection this with this; subst this
    exact hio hk
  · obtain ⟨k, hf, hk⟩ := hM j hj
    have := findT_at hr hi (d := dM s j) (by rw [h]; rfl)
    rw [hf] at this; injection this with this; subst this
    exact hio hk
theorem chain_order {s : UInt8} (ha : Apart s) {n : Nat} (hn : n ≤ 9) : ∃ o, orderT (chainT s n) = some (o.map (dgOf (chainT s n))) ∧ Told (chainT s n) o ∧ o.length = 2 * n := by
  obtain ⟨x, h1, h2, h3⟩ := orderGo_told (T := chainT s n) (fun o _ hl => chain_next ha hn o hl) (chainT s n).length [] ⟨by simp, by simp, by simp⟩ (by simp)
  exact ⟨x, by rw [orderT, h1]; rfl, h2, by rw [h3, chainT_len]⟩
/-- How far the manifests have come: all below k, none from k on. -/
structure Come (s : UInt8) (n : Nat) (X : List (List UInt8)) (k : Nat) : Prop where
  le : k ≤ n
  all : ∀ j, j < k → dM s j ∈ X
  none_ : ∀ j, k ≤ j → j < n → dM s j ∉ X
theorem come_step {s : UInt8} (ha : Apart s) {n : Nat} (hn : n ≤ 9) {o : List Nat} (ho : Told (chainT s n) o) {p k : Nat} (hp : p < o.length) (h : Come s n ((o.take p).map (dgOf (chainT s n))) k) :
    Come s n ((o.take (p + 1)).map (dgOf (chainT s n))) (if k < n ∧ dgOf (chainT s n) o[p] = dM s k then k + 1 else k) := by
  have hr := chainT_rise ha hn
  have htk : (o.take (p + 1)).map (dgOf (chainT s n)) = (o.take p).map (dgOf (chainT s n)) ++ [dgOf (chainT s n) o[p]] := by
    rw [List.take_succ_eq_append_getElem hp, List.map_append]; rfl
  rw [htk]
  split
  · rename_i hc
    refine ⟨by omega, fun j hj => ?_, fun j hj hjn hm => ?_⟩
    · rcases Nat.lt_or_ge j k with h1 | h1
      · exact List.mem_append_left _ (h.all j h1)
      · have : j = k := by omega
        subst this; exact List.mem_append_right _ (by simp [hc.2])
    · rcases List.mem_append.1 hm with h1 | h1
      · exact h.none_ j (by omega) hjn h1
      · simp at h1
        rw [hc.2] at h1
        have := ha.mm (by omega) (by omega) h1; omega
  · rename_i hc
    refine ⟨h.le, fun j hj => List.mem_append_left _ (h.all j hj), fun j hj hjn hm => ?_⟩
    rcases List.mem_append.1 hm with h1 | h1
    · exact h.none_ j hj hjn h1
    · simp at h1
      -- the j-th manifest is told now: so the one below it is told; so j = k
      have hol := ho.lt _ (List.getElem_mem hp)
      have hrd := ho.ready p hp
      rw [dgOf_lt hol] at h1
      obtain ⟨q, hq, hx | hx⟩ := mem_chainT.1 (List.getElem_mem hol)
      · rw [hx] at h1; exact ha.bm (by omega) (by omega) h1.symm
      · rw [hx] at h1
        have hqj : j = q := ha.mm (by omega) (by omega) h1
        subst hqj
        rcases Nat.eq_or_lt_of_le hj with hjk | hjk
        · subst hjk
          exact hc ⟨hjn, by rw [dgOf_lt hol, hx]; rfl⟩
        · rw [readyT_eq, nmOf_lt hol, hx, namesM s (by omega), if_neg (by omega)] at hrd
          simp only [List.all_cons, List.all_nil, Bool.and_true, Bool.and_eq_true] at hrd
          obtain ⟨kk, hk, hf, e⟩ := find_mem hr (mem_chainT.2 ⟨j - 1, by omega, .inr rfl⟩ : thgM s (j - 1) ∈ chainT s n)
          have hf' : findT (chainT s n) (dM s (j - 1)) = some kk := hf
          have h2 := hrd.2
          rw [okT, hf'] at h2
          simp at h2
          exact h.none_ (j - 1) (by omega) (by omega) (List.mem_map.2 ⟨kk, h2, by rw [dgOf_lt hk, e]; rfl⟩)
theorem come_end {s : UInt8} (ha : Apart s) {n : Nat} (hn : n ≤ 9) {o : List Nat} (ho : Told (chainT s n) o) (hl : o.length = 2 * n) {k : Nat} (h : Come s n (o.map (dgOf (chainT s n))) k) : k = n := by
  have hr := chainT_rise ha hn
  apply Classical.byContradiction
  intro hk
  have hkn : k < n := by have := h.le; omega
  obtain ⟨i, hi, hf, e⟩ := find_mem hr (mem_chainT.2 ⟨k, hkn, .inr rfl⟩ : thgM s k ∈ chainT s n)
  refine h.none_ k (Nat.le_refl _) hkn (List.mem_map.2 ⟨i, ?_, by rw [dgOf_lt hi, e]; rfl⟩)
  apply Classical.byContradiction
  intro hio
  have h1 : (i :: o).Nodup := List.nodup_cons.2 ⟨hio, ho.nodup⟩
  have h2 := h1.length_le_of_subset (l₂ := List.range (chainT s n).length) (fun j hj => by
    rcases List.mem_cons.1 hj with rfl | hj
    · exact List.mem_range.2 hi
    · exact List.mem_range.2 (ho.lt j hj))
  rw [List.length_range, chainT_len, List.length_cons] at h2
  omega

/-! ### Users -/
theorem usersT_sorted {T : List Thg} (hr : RiseT T) (d : List UInt8) : (usersT T d).Pairwise L := by
  unfold usersT
  rw [List.pairwise_map]
  exact ((List.pairwise_map.1 (riseT_pair.1 hr))).filter _
theorem mem_usersT {T : List Thg} {d x : List UInt8} : x ∈ usersT T d ↔ ∃ t ∈ T, d ∈ namesT t ∧ t.digest = x := by
  simp only [usersT, List.mem_map, List.mem_filter]
  constructor
  · rintro ⟨t, ⟨h1, h2⟩, e⟩; exact ⟨t, h1, by simpa using h2, e⟩
  · rintro ⟨t, h1, h2, e⟩; exact ⟨t, ⟨h1, by simpa using h2⟩, e⟩
theorem chain_users_B {s : UInt8} (ha : Apart s) {n : Nat} (hn : n ≤ 9) {i : Nat} (hi : i < n) : usersT (chainT s n) (dB s i) = [dM s i] := by
  refine sorted_unique _ _ (usersT_sorted (chainT_rise ha hn) _) (by simp) fun a => ?_
  rw [mem_usersT, List.mem_singleton]
  constructor
  · rintro ⟨t, ht, hd, rfl⟩
    obtain ⟨j, hj, h | h⟩ := mem_chainT.1 ht
    · subst h; rw [namesB] at hd; cases hd
    · subst h
      rw [namesM s (by omega)] at hd
      rcases List.mem_cons.1 hd with hd | hd
      · have := ha.bb (by omega) (by omega) hd; subst this; rfl
      · split at hd
        · cases hd
        · simp at hd; exact absurd hd (ha.bm (by omega) (by omega))
  · rintro rfl
    exact ⟨thgM s i, mem_chainT.2 ⟨i, hi, .inr rfl⟩, by rw [namesM s (by omega)]; simp, rfl⟩
theorem chain_users_M {s : UInt8} (ha : Apart s) {n : Nat} (hn : n ≤ 9) {i : Nat} (hi : i < n) : usersT (chainT s n) (dM s i) = if i + 1 < n then [dM s (i + 1)] else [] := by
  refine sorted_unique _ _ (usersT_sorted (chainT_rise ha hn) _) (by split <;> simp) fun a => ?_
  rw [mem_usersT]
  constructor
  · rintro ⟨t, ht, hd, rfl⟩
    obtain ⟨j, hj, h | h⟩ := mem_chainT.1 ht
    · subst h; rw [namesB] at hd; cases hd
    · subst h
      rw [namesM s (by omega)] at hd
      rcases List.mem_cons.1 hd with hd | hd
      · exact absurd hd.symm (ha.bm (by omega) (by omega))
      · split at hd
        · cases hd
        · simp at hd
          have := ha.mm (by omega) (by omega) hd
          have hij : j = i + 1 := by omega
          subst hij
          rw [if_pos hj]; simp [thgM]
  · intro h
    split at h
    · rename_i hin
      simp at h; subst h
      exact ⟨thgM s (i + 1), mem_chainT.2 ⟨i + 1, hin, .inr rfl⟩, by rw [namesM s (by omega), if_neg (by omega)]; simp, rfl⟩
    · cases h
end Silo
