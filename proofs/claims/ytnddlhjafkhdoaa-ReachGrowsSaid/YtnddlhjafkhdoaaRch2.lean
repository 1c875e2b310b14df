/- Things: what one names; which may be; heavy scripts; roots. No condition. -/
import Derived.Test.YtnddlhjafkhdoaaRch1
import Derived.Test.YtnddlhjafkhdoaaMan6
set_option linter.unusedSimpArgs false
set_option linter.unusedVariables false
set_option maxRecDepth 100000
namespace Silo
open Go Go.Eng
theorem namesT_eq {t : Thg} (h : t.manifest = true) : namesT t = ((manTake t.text).getD man0).blobs ++ ((manTake t.text).getD man0).subs := by
  rw [namesT, if_pos h]
  cases manTake t.text <;> rfl
theorem namesT_no {t : Thg} (h : t.manifest = false) : namesT t = [] := by rw [namesT, h]; rfl
theorem namesT_texts {t : Thg} : ∀ x ∈ namesT t, x.length ≤ 140737488355328 := fun x hx => by
  cases h : t.manifest with
  | false => rw [namesT_no h] at hx; cases hx
  | true =>
    rw [namesT_eq h] at hx
    obtain ⟨a1, a2, _⟩ := Go.Proofs.Ytnddlhjafkhdoaa.manTake_texts (s := t.text)
    exact (List.mem_append.1 hx).elim (a1 x) (a2 x)
/-- Some digests of things. -/
def pickT (T : List Thg) (by_ k : Nat) : List (List UInt8) := ((List.range k).filter fun i => decide ((i + by_) % 3 = 0)).map (dgOf T)
def rootsT (T : List Thg) (R : List (List UInt8)) (by_ : Nat) : List (List UInt8) := R ++ pickT T by_ T.length
theorem pickT_succ (T : List Thg) (by_ k : Nat) : pickT T by_ (k + 1) = if (k + by_) % 3 = 0 then pickT T by_ k ++ [dgOf T k] else pickT T by_ k := by
  simp only [pickT, List.range_succ, List.filter_append, List.map_append]
  split
  · rename_i h; simp [h]
  · rename_i h; simp [h]
theorem pickT_len (T : List Thg) (by_ k : Nat) : (pickT T by_ k).length ≤ k := by
  rw [pickT, List.length_map]
  exact Nat.le_trans (List.length_filter_le _ _) (by simp)
theorem pickT_mem {T : List Thg} {by_ : Nat} {d : List UInt8} (h : d ∈ pickT T by_ T.length) : ∃ i, ∃ hi : i < T.length, T[i].digest = d := by
  simp only [pickT, List.mem_map, List.mem_filter, List.mem_range] at h
  obtain ⟨i, ⟨hi, _⟩, e⟩ := h
  exact ⟨i, hi, by rw [← e, dgOf_lt hi]⟩
/-- How heavy a script is. -/
def thinksW (Ts : List (List Thg)) (R : List (List UInt8)) : Nat := stopSum (tW R) (Ts.map thgsW)
theorem thgsW_small {T : List Thg} {n : Nat} (h : thgsW T ≤ n) (hn : n < 1048576) : T.length ≤ n ∧ ∀ t ∈ T, t.digest.length ≤ n ∧ t.text.length ≤ n := by
  have e := stopSum_small (T.map thgW) T.length (by unfold thgsW at h; omega)
  unfold thgsW at h
  rw [e] at h
  refine ⟨by omega, fun t ht => ?_⟩
  have := le_sum (List.mem_map_of_mem (f := thgW) ht)
  have e2 : thgW t = t.digest.length + t.text.length := rfl
  omega
theorem thinks_light {Ts : List (List Thg)} {R : List (List UInt8)} (h : thinksW Ts R ≤ 9000) : (R.length ≤ 9000 ∧ ∀ x ∈ R, x.length ≤ 9000) ∧ ∀ T ∈ Ts, T.length ≤ 9000 ∧ ∀ t ∈ T, t.digest.length ≤ 9000 ∧ t.text.length ≤ 9000 := by
  unfold thinksW at h
  rw [stopSum_small _ _ (by omega)] at h
  refine ⟨tW_small (n := 9000) (by omega) (by decide), fun T hT => ?_⟩
  have := le_sum (List.mem_map_of_mem (f := thgsW) hT)
  exact thgsW_small (n := 9000) (by omega) (by decide)
end Silo
namespace Go.Proofs.Ytnddlhjafkhdoaa
open Go Go.Eng Go.RowKit Silo TryT

theorem named_ok {w : World} (t : Thg) (ht : t.text.length ≤ 1048576) :
    Calls Try.prog 40 #[.agg (encThg t).toArray] w (Ret fun v w' => Below w.heap.size w w' ∧ Own w' w.heap.size 9 1 v (namesT t).length ((namesT t).flatMap fun x => [St x])) := by
  obtain ⟨c, hO, hc⟩ := OldC.start w
  clear hc
  refine enter (n := 20) (res := #[.tmp 2]) Try.func40 rfl rfl rfl rfl ?_
  refine cseq <| cregion ?_
  refine WR.eff (Eff.boxC c 101 rfl) rfl ?_
  rintro _ w1 ⟨b1, c1, rfl, hM1, hb1⟩
  replace hO := hO.mv hM1 rfl
  refine qq (Val.assign rfl) rfl <| cnil <| cseq <| cseq <| cregion ?_
  first | refine WR.val (Val.fieldAddr fld62_2 rfl) rfl ?_ | refine WR.val (Val.fieldAddrP fld62_2 rfl) rfl ?_
  refine qq (Val.loadB scl4 rfl hb1.blk rfl) rfl <| qq (Val.not rfl) rfl <| cnil ?_
  refine WC.cond rfl (fun hc1 => ?_) (fun hc1 => ?_)
  ·try simp only [tstS] at hc1
   refine cseq <| cregion <| qq (Val.assign rfl) rfl <| cnil ?_
   refine WC.ret1 rfl rfl ?_
   rw [namesT_no hc1]
   exact ⟨hO.below, Own.nil _ _ _ _⟩
  ·try simp only [tstS] at hc1
   have hl := namesT_len t
   rw [namesT_eq hc1, List.length_append] at hl
   obtain ⟨a1, a2, a3, a4, _⟩ := manTake_texts (s := t.text)
   refine cskip <| cseq <| cregion ?_
   first | refine WR.val (Val.fieldAddr fld62_1 rfl) rfl ?_ | refine WR.val (Val.fieldAddrP fld62_1 rfl) rfl ?_
   refine qq (Val.loadB scl9 rfl hb1.blk rfl) rfl ?_
   refine WR.eff (Eff.pureC c1 7 (Eff.call pf26 rfl (pmtake_own t.text ht))) rfl ?_
   rintro v11 w2 ⟨c2, hM2, hx2, ⟨u1, u2, rfl, h1, h2⟩⟩
   replace hO := hO.mv hM2 rfl; replace hb1 := hb1.mv hM2 rfl
   replace h1 := h1.toC hx2
   replace h2 := h2.toC hx2
   have o1 := h1.oneC; have o2 := h2.oneC
   refine qq (Val.move rfl) rfl <| qq (Val.extract rfl rfl) rfl <| qq (Val.extract rfl rfl) rfl ?_
   refine WR.eff (Eff.allocC c2 103 zero29) rfl ?_
   rintro _ w3 ⟨b3, c3, rfl, hM3, hb3⟩
   replace hO := hO.mv hM3 rfl; replace hb1 := hb1.mv hM3 rfl; replace h1 := h1.mv hM3 rfl; replace h2 := h2.mv hM3 rfl
   refine WR.eff_ (Eff.storeNC agg29 rfl rfl hb3 rfl rfl (by repeat (first | exact List.forall_mem_nil _ | refine List.forall_mem_cons.2 ⟨by first | rfl | assumption, ?_⟩))) ?_
   rintro _ w4 ⟨hS, hM4⟩
   replace hO := hO.mv hM4 rfl; replace hb1 := hb1.mv hM4 rfl; replace h1 := h1.mv hM4 rfl; replace h2 := h2.mv hM4 rfl
   replace hb3 := hS
   refine qq (Val.assign rfl) rfl <| cnil <| cseq ?_
   refine WC.regionD (Kp c3 w4 [8]) [0, 1, 2, 0, 1, 2, 0] [0, 1, 3, 4, 2, 5, 6] mixed (by kernel_rfl) ?_
   have hM5 := Mv.drew c3 w4 []
   have hCw := Mv.drew c3 w4 [8]
   generalize w4.drew = w5 at hM5 hCw ⊢
   have hb10 := hb1
   have hb30 := hb3
   replace hO := hO.mv hM5 rfl; replace hb1 := hb1.mv hM5 rfl; replace h1 := h1.mv hM5 rfl; replace h2 := h2.mv hM5 rfl; replace hb3 := hb3.mv hM5 rfl
   first | refine WD.val rfl rfl rfl (fun _ => Val.fieldAddr fld29_1 rfl) rfl ?_ | refine WD.val rfl rfl rfl (fun _ => Val.fieldAddrP fld29_1 rfl) rfl ?_
   refine qc rfl rfl rfl hCw.kp (fun W hW => Val.loadB scl23 rfl (hb30.kp hW rfl).blk rfl) rfl ?_
   first | refine WD.val rfl rfl rfl (fun _ => Val.fieldAddr fld29_2 rfl) rfl ?_ | refine WD.val rfl rfl rfl (fun _ => Val.fieldAddrP fld29_2 rfl) rfl ?_
   refine qc rfl rfl rfl hCw.kp (fun W hW => Val.loadB scl23 rfl (hb30.kp hW rfl).blk rfl) rfl ?_
   refine WD.eff rfl rfl rfl (Eff.pureC c3 8 (Eff.call pf15 rfl (copyStrings_ok (h1.own.rdStrs a1 a3) (by omega)))) rfl ?_
   rintro v16 w6 ⟨c6, hM6, hx6, ho16⟩
   refine ⟨fun hC => hC.step hCw hM6 rfl, ?_⟩
   replace hCw := hCw.tr hM6 rfl
   replace hO := hO.mv hM6 rfl; replace hb1 := hb1.mv hM6 rfl; replace h1 := h1.mv hM6 rfl; replace h2 := h2.mv hM6 rfl; replace hb3 := hb3.mv hM6 rfl
   replace ho16 := ho16.toC hx6
   refine WD.eff rfl rfl rfl (Eff.appendC sl23 rfl rfl ho16 (Src.flat Try.underlying23 (h2.own.rdStrs a2 a4)) (by rw [maxLen_eq]; first | omega | (simp; omega)) (by first | omega | (simp; omega))) rfl ?_
   rintro v19 w7 ⟨c7, hM7, hOq⟩
   refine ⟨fun hC => hC.step hCw hM7 rfl, ?_⟩
   replace hCw := hCw.tr hM7 rfl
   replace hO := hO.mv hM7 rfl; replace hb1 := hb1.mv hM7 rfl; replace h1 := h1.mv hM7 rfl; replace h2 := h2.mv hM7 rfl; replace hb3 := hb3.mv hM7 rfl
   replace ho16 := hOq
   refine qd rfl rfl rfl (fun _ => Val.assign rfl) rfl ?_
   refine WD.nil ?_
   clear hb10 hb30
   clear hCw
   refine WC.ret1 rfl rfl ?_
   rw [namesT_eq hc1, List.flatMap_append, List.length_append]
   exact ⟨hO.below, ho16.fromOld hO (by decide)⟩

theorem rnames_ok {w : World} (t : Thg) (ht : t.text.length ≤ 1048576) :
    Calls Try.prog 83 #[.agg (encThg t).toArray] w (Ret fun v w' => Below w.heap.size w w' ∧ Own w' w.heap.size 9 1 v (namesT t).length ((namesT t).flatMap fun x => [St x])) := by
  obtain ⟨c, hO, hc⟩ := OldC.start w
  clear hc
  refine enter (n := 20) (res := #[.tmp 2]) Try.func83 rfl rfl rfl rfl ?_
  refine cseq <| cregion ?_
  refine WR.eff (Eff.boxC c 101 rfl) rfl ?_
  rintro _ w1 ⟨b1, c1, rfl, hM1, hb1⟩
  replace hO := hO.mv hM1 rfl
  refine qq (Val.assign rfl) rfl <| cnil <| cseq <| cseq <| cregion ?_
  first | refine WR.val (Val.fieldAddr fld62_2 rfl) rfl ?_ | refine WR.val (Val.fieldAddrP fld62_2 rfl) rfl ?_
  refine qq (Val.loadB scl4 rfl hb1.blk rfl) rfl <| qq (Val.not rfl) rfl <| cnil ?_
  refine WC.cond rfl (fun hc1 => ?_) (fun hc1 => ?_)
  ·try simp only [tstS] at hc1
   refine cseq <| cregion <| qq (Val.assign rfl) rfl <| cnil ?_
   refine WC.ret1 rfl rfl ?_
   rw [namesT_no hc1]
   exact ⟨hO.below, Own.nil _ _ _ _⟩
  ·try simp only [tstS] at hc1
   have hl := namesT_len t
   rw [namesT_eq hc1, List.length_append] at hl
   obtain ⟨a1, a2, a3, a4, _⟩ := manTake_texts (s := t.text)
   refine cskip <| cseq <| cregion ?_
   first | refine WR.val (Val.fieldAddr fld62_1 rfl) rfl ?_ | refine WR.val (Val.fieldAddrP fld62_1 rfl) rfl ?_
   refine qq (Val.loadB scl9 rfl hb1.blk rfl) rfl ?_
   refine WR.eff (Eff.pureC c1 7 (Eff.call pf25 rfl (mtake_own t.text ht))) rfl ?_
   rintro v11 w2 ⟨c2, hM2, hx2, ⟨u1, u2, rfl, h1, h2⟩⟩
   replace hO := hO.mv hM2 rfl; replace hb1 := hb1.mv hM2 rfl
   replace h1 := h1.toC hx2
   replace h2 := h2.toC hx2
   have o1 := h1.oneC; have o2 := h2.oneC
   obtain ⟨A1, p1, rfl, _⟩ := h1.own.formA
   obtain ⟨A2, p2, rfl, _⟩ := h2.own.formA
   refine qq (Val.move rfl) rfl <| qq (Val.extract rfl rfl) rfl <| qq (Val.extract rfl rfl) rfl ?_
   refine WR.eff (Eff.allocC c2 103 zero29) rfl ?_
   rintro _ w3 ⟨b3, c3, rfl, hM3, hb3⟩
   replace hO := hO.mv hM3 rfl; replace hb1 := hb1.mv hM3 rfl; replace h1 := h1.mv hM3 rfl; replace h2 := h2.mv hM3 rfl
   refine WR.eff_ (Eff.storeNC agg29 rfl rfl hb3 rfl rfl (by repeat (first | exact List.forall_mem_nil _ | refine List.forall_mem_cons.2 ⟨by first | rfl | assumption, ?_⟩))) ?_
   rintro _ w4 ⟨hS, hM4⟩
   replace hO := hO.mv hM4 rfl; replace hb1 := hb1.mv hM4 rfl; replace h1 := h1.mv hM4 rfl; replace h2 := h2.mv hM4 rfl
   replace hb3 := hS
   refine qq (Val.assign rfl) rfl <| cnil <| cseq <| cregion ?_
   first | refine WR.val (Val.fieldAddr fld29_1 rfl) rfl ?_ | refine WR.val (Val.fieldAddrP fld29_1 rfl) rfl ?_
   refine qq (Val.loadB scl23 rfl hb3.blk rfl) rfl ?_
   first | refine WR.val (Val.fieldAddr fld29_2 rfl) rfl ?_ | refine WR.val (Val.fieldAddrP fld29_2 rfl) rfl ?_
   refine qq (Val.loadB scl23 rfl hb3.blk rfl) rfl ?_
   refine WR.eff (Eff.buildC c3 118 sl98 rfl rfl rfl (by simp [Value.cells]) rfl rfl) rfl ?_
   rintro _ w5 ⟨b18, c5, rfl, hM5, hb18⟩
   replace hO := hO.mv hM5 rfl; replace hb1 := hb1.mv hM5 rfl; replace h1 := h1.mv hM5 rfl; replace h2 := h2.mv hM5 rfl; replace hb3 := hb3.mv hM5 rfl
   refine WR.eff (Eff.pureC c5 8 (Eff.call pf111 rfl (concat_ok (rdPair hb18 (h1.own.rdStrs a1 a3) (h2.own.rdStrs a2 a4)) (by simp; omega)))) rfl ?_
   rintro v19 w6 ⟨c6, hM6, hx6, ho19⟩
   replace hO := hO.mv hM6 rfl; replace hb1 := hb1.mv hM6 rfl; replace h1 := h1.mv hM6 rfl; replace h2 := h2.mv hM6 rfl; replace hb3 := hb3.mv hM6 rfl; replace hb18 := hb18.mv hM6 rfl
   replace ho19 := ho19.toC hx6
   refine qq (Val.assign rfl) rfl <| cnil ?_
   refine WC.ret1 rfl rfl ?_
   rw [namesT_eq hc1]
   have e : [((manTake t.text).getD man0).blobs, ((manTake t.text).getD man0).subs].flatten = ((manTake t.text).getD man0).blobs ++ ((manTake t.text).getD man0).subs := by simp
   rw [e] at ho19
   exact ⟨hO.below, ho19.fromOld hO (by decide)⟩

set_option maxHeartbeats 1000000 in
theorem rmay_ok {w : World} {v : Value} {T : List Thg} (h0 : Rd thgS w v T) : Calls Try.prog 80 #[v] w (Ret fun v' w' => Below w.heap.size w w' ∧ v' = .bool (thgsMay T)) := by
  obtain ⟨c, hO, hc⟩ := OldC.start w
  have hsm := h0.small
  have h1 : RdC thgS c w [0] v T := Rd.toC h0 (fun k hk => by simp [hc, hasC])
  clear hc h0
  refine enter (n := 55) (res := #[.tmp 2]) Try.func80 rfl rfl rfl rfl ?_
  refine cseq <| cregion <| qq (Val.assign rfl) rfl <| cnil <| cseq <| cseq <| cregion <| qq (Val.move rfl) rfl ?_
  first | refine WR.val (Val.rdlen sl52 (by assumption) rfl) rfl ?_ | refine WR.val (Val.sllen Try.underlying52 rfl) rfl ?_ | refine WR.val (Val.olen sl52 (by assumption) rfl) rfl ?_ | refine WR.val (Val.rdlenC sl52 (by assumption) rfl) rfl ?_
  refine qq (Val.gtr rfl rfl) rfl <| cnil ?_
  refine WC.cond rfl (fun hc1 => ?_) (fun hc1 => ?_)
  ·try simp only [tstS] at hc1
   refine cseq <| cregion <| qq (Val.assign rfl) rfl <| cnil ?_
   refine WC.ret1 rfl rfl ?_
   exact ⟨hO.below, by rw [thgsMay_long (by omega)]⟩
  ·try simp only [tstS] at hc1
   refine cskip <| cseq <| cseq <| cregion <| qq (Val.move rfl) rfl ?_
   first | refine WR.val (Val.rdlen sl52 (by assumption) rfl) rfl ?_ | refine WR.val (Val.sllen Try.underlying52 rfl) rfl ?_ | refine WR.val (Val.olen sl52 (by assumption) rfl) rfl ?_ | refine WR.val (Val.rdlenC sl52 (by assumption) rfl) rfl ?_
   refine qq (Val.move rfl) rfl <| cnil <| cblock ?_
   refine WC.loop (σ := Nat) (fun k => [(0, v), (10, v), (11, I T.length), (12, I k)]) (fun k w' => ∃ c', OldC w c' w' ∧ RdC thgS c' w' [0] v T ∧ k ≤ T.length ∧ ∀ i, i < k → thgAt T i = true) (fun k => T.length - k) 0 (by repeat (first | exact Sub.nil _ | refine Sub.cons rfl ?_ | refine Sub.consM rfl ?_)) ⟨_, hO, h1, by omega, fun i hi => absurd hi (Nat.not_lt_zero _)⟩ ?_
   clear hO h1
   rintro k wl ⟨cl, hO, h1, hk, hd⟩
   refine cseq <| cregion <| qq (Val.lss rfl rfl) rfl <| cnil <| cseq ?_
   refine WC.cond rfl (fun hc4 => ?_) (fun hc4 => ?_)
   ·try simp only [tstS] at hc4
    have ka : k < T.length := by omega
    obtain ⟨hc15, ok1⟩ := RdC.elFlat h1 ka (by decide)
    have hpr : ((k : Int) - 1).toNat < T.length := by omega
    obtain ⟨hc36, _⟩ := RdC.elFlat h1 hpr (by decide)
    have hat := thgAt_eq ka hpr
    rw [less_not] at hat
    refine cskip <| cseq <| cblock <| cseq <| cregion <| qq (Val.move rfl) rfl ?_
    first | refine WR.val (Val.indexAddr sl52 (by assumption) rfl rfl rfl (by first | omega | assumption | (simp; omega) | (simp; done)) (by first | omega | assumption | (simp; omega) | (simp; done))) rfl ?_ | refine WR.val (Val.indexC sl52 (by assumption) rfl rfl (by first | omega | assumption | (simp; omega) | (simp; done)) (by first | omega | assumption | (simp; omega) | (simp; done))) rfl ?_ | refine WR.val (Val.indexO sl52 (by assumption) rfl rfl (by first | omega | assumption | (simp; omega) | (simp; done)) (by first | omega | assumption | (simp; omega) | (simp; done))) rfl ?_
    refine qq (Val.loadE agg62 rfl hc15.cel rfl) rfl ?_
    refine WR.eff (Eff.allocC cl 104 zero62) rfl ?_
    rintro _ w1 ⟨b4, c1, rfl, hM1, hb4⟩
    replace hO := hO.mv hM1 rfl; replace h1 := h1.mv hM1 rfl; replace hc15 := hc15.mv hM1 rfl; replace hc36 := hc36.mv hM1 rfl
    refine qq (Val.assign rfl) rfl ?_
    refine WR.eff_ (Eff.storeNC agg62 rfl rfl hb4 rfl rfl (by repeat (first | exact List.forall_mem_nil _ | refine List.forall_mem_cons.2 ⟨by first | rfl | assumption, ?_⟩))) ?_
    rintro _ w2 ⟨hS, hM2⟩
    replace hO := hO.mv hM2 rfl; replace h1 := h1.mv hM2 rfl; replace hc15 := hc15.mv hM2 rfl; replace hc36 := hc36.mv hM2 rfl
    replace hb4 := hS
    refine cnil <| cseq <| cseq ?_
    refine WC.regionD (Kp c1 w2 []) [0, 1, 0, 0, 0, 0, 1, 0, 0, 0, 0, 0, 0, 0, 0, 1, 0, 0, 0, 0, 0, 1, 0, 0, 0] [0, 1, 2, 3, 4, 5, 6, 7, 8, 9, 10, 11, 12, 13, 14, 15, 16, 17, 18, 19, 20, 21, 22, 23, 24] mixed (by kernel_rfl) ?_
    have hM3 := Mv.drew c1 w2 []
    have hCw := Mv.drew c1 w2 []
    generalize w2.drew = w3 at hM3 hCw ⊢
    have hb40 := hb4
    have hc150 := hc15
    have hc360 := hc36
    replace hO := hO.mv hM3 rfl; replace h1 := h1.mv hM3 rfl; replace hc15 := hc15.mv hM3 rfl; replace hc36 := hc36.mv hM3 rfl; replace hb4 := hb4.mv hM3 rfl
    first | refine WD.val rfl rfl rfl (fun _ => Val.fieldAddr fld62_0 rfl) rfl ?_ | refine WD.val rfl rfl rfl (fun _ => Val.fieldAddrP fld62_0 rfl) rfl ?_
    refine qc rfl rfl rfl hCw.kp (fun W hW => Val.loadB scl9 rfl (hb40.kp hW rfl).blk rfl) rfl <| qd rfl rfl rfl (fun _ => Val.slen Try.underlying9 rfl) rfl <| qd rfl rfl rfl (fun _ => Val.neq rfl rfl) rfl <| qd rfl rfl rfl (fun _ => Val.move rfl) rfl ?_
    apply WD.sc false 4 _ (fun w' => w3 = w')
    case hl => rfl
    case hi => rfl
    case hk => rfl
    case hg => rfl
    case hu => rfl
    case hv => rfl
    case hs => rfl
    case hoff => rfl
    case hd => rfl
    case hC => exact hCw.kp
    case hF => exact fun _ => rfl
    case hT =>
     intro hq9
     try simp only [tstS] at hq9
     simp only [List.take_succ_cons, List.take_zero]
     first | refine WD.val rfl rfl rfl (fun _ => Val.fieldAddr fld62_1 rfl) rfl ?_ | refine WD.val rfl rfl rfl (fun _ => Val.fieldAddrP fld62_1 rfl) rfl ?_
     refine qc rfl rfl rfl hCw.kp (fun W hW => Val.loadB scl9 rfl (hb40.kp hW rfl).blk rfl) rfl <| qd rfl rfl rfl (fun _ => Val.slen Try.underlying9 rfl) rfl <| qd rfl rfl rfl (fun _ => Val.gtr rfl rfl) rfl ?_
     exact WD.nil ⟨rfl, Sub.drop _ 4 _ rfl rfl, rfl⟩
    rintro _ rfl
    refine qd rfl rfl rfl (fun _ => Val.move rfl) rfl ?_
    apply WD.sc false 13 _ (fun w' => w3 = w')
    case hl => rfl
    case hi => rfl
    case hk => rfl
    case hg => rfl
    case hu => rfl
    case hv => rfl
    case hs => rfl
    case hoff => rfl
    case hd => rfl
    case hC => exact hCw.kp
    case hF => exact fun _ => rfl
    case hT =>
     intro hq24
     try simp only [tstS] at hq24
     simp only [List.take_succ_cons, List.take_zero]
     refine qd rfl rfl rfl (fun _ => Val.move rfl) rfl <| qd rfl rfl rfl (fun _ => Val.gtr rfl rfl) rfl <| qd rfl rfl rfl (fun _ => Val.move rfl) rfl ?_
     apply WD.sc true 9 _ (fun w' => w3 = w')
     case hl => rfl
     case hi => rfl
     case hk => rfl
     case hg => rfl
     case hu => rfl
     case hv => rfl
     case hs => rfl
     case hoff => rfl
     case hd => rfl
     case hC => exact hCw.kp
     case hF => exact fun _ => rfl
     case hT =>
      intro hq23
      try simp only [tstS] at hq23
      simp only [List.take_succ_cons, List.take_zero]
      first | refine WD.val rfl rfl rfl (fun _ => Val.fieldAddr fld62_0 rfl) rfl ?_ | refine WD.val rfl rfl rfl (fun _ => Val.fieldAddrP fld62_0 rfl) rfl ?_
      refine qc rfl rfl rfl hCw.kp (fun W hW => Val.loadB scl9 rfl (hb40.kp hW rfl).blk rfl) rfl <| qd rfl rfl rfl (fun _ => Val.move rfl) rfl <| qd rfl rfl rfl (fun _ => Val.move rfl) rfl <| qd rfl rfl rfl (fun _ => Val.subI rfl rfl (by first | omega | assumption | (simp; omega) | (simp; done)) (by first | omega | assumption | (simp; omega) | (simp; done))) rfl ?_
      first | refine WD.val rfl rfl rfl (fun _ => Val.indexAddr sl52 (by assumption) rfl rfl rfl (by first | omega | assumption | (simp; omega) | (simp; done)) (by first | omega | assumption | (simp; omega) | (simp; done))) rfl ?_ | refine WD.val rfl rfl rfl (fun _ => Val.indexC sl52 (by assumption) rfl rfl (by first | omega | assumption | (simp; omega) | (simp; done)) (by first | omega | assumption | (simp; omega) | (simp; done))) rfl ?_ | refine WD.val rfl rfl rfl (fun _ => Val.indexO sl52 (by assumption) rfl rfl (by first | omega | assumption | (simp; omega) | (simp; done)) (by first | omega | assumption | (simp; omega) | (simp; done))) rfl ?_
      first | refine WD.val rfl rfl rfl (fun _ => Val.fieldAddr fld62_0 rfl) rfl ?_ | refine WD.val rfl rfl rfl (fun _ => Val.fieldAddrP fld62_0 rfl) rfl ?_
      refine qc rfl rfl rfl hCw.kp (fun W hW => Val.loadEf scl9 rfl (hc360.kp hW rfl).cel rfl) rfl <| qd rfl rfl rfl (fun _ => Val.sleq rfl rfl) rfl ?_
      exact WD.nil ⟨rfl, Sub.drop _ 9 _ rfl rfl, rfl⟩
     rintro _ rfl
     exact WD.nil ⟨rfl, Sub.drop _ 4 _ rfl rfl, rfl⟩
    rintro _ rfl
    refine WD.nil ?_
    clear hb40 hc150 hc360
    clear hCw
    refine WC.cond rfl (fun hc6 => ?_) (fun hc6 => ?_)
    ·try simp only [tstS] at hc6
     have hno : thgAt T k = false := by
       rw [hat]
       rcases hc6 with (h | h) | ⟨h, h'⟩
       · rw [decide_eq_false h]; rfl
       · rw [decide_eq_false (show ¬ (T[k].text.length : Int) ≤ 2000 by omega)]; simp
       · rw [decide_eq_true h, (Bool.or_eq_true _ _).mpr h']; simp
     refine cseq <| cregion <| qq (Val.assign rfl) rfl <| cnil ?_
     refine WC.ret1 rfl rfl ?_
     exact ⟨hO.below, by rw [thgsMay_no ka hno]⟩
    ·try simp only [tstS] at hc6
     obtain ⟨⟨hc6a, hc6b⟩, hc6c⟩ := hc6
     refine cskip <| cseq <| cregion ?_
     first | refine WR.val (Val.fieldAddr fld62_1 rfl) rfl ?_ | refine WR.val (Val.fieldAddrP fld62_1 rfl) rfl ?_
     refine qq (Val.loadB scl9 rfl hb4.blk rfl) rfl ?_
     refine WR.eff (Eff.pureC c1 7 (Eff.call pf25 rfl (mtake_own T[k].text (by omega)))) rfl ?_
     rintro v45 w4 ⟨c4, hM4, hx4, ⟨u1, u2, rfl, g1, g2⟩⟩
     replace hO := hO.mv hM4 rfl; replace h1 := h1.mv hM4 rfl; replace hc15 := hc15.mv hM4 rfl; replace hc36 := hc36.mv hM4 rfl; replace hb4 := hb4.mv hM4 rfl
     replace g1 := g1.toC hx4
     replace g2 := g2.toC hx4
     have o1 := g1.oneC; have o2 := g2.oneC
     refine qq (Val.move rfl) rfl <| qq (Val.extract rfl rfl) rfl <| qq (Val.extract rfl rfl) rfl ?_
     refine WR.eff (Eff.allocC c4 105 zero29) rfl ?_
     rintro _ w5 ⟨b5, c5, rfl, hM5, hb5⟩
     replace hO := hO.mv hM5 rfl; replace h1 := h1.mv hM5 rfl; replace hc15 := hc15.mv hM5 rfl; replace hc36 := hc36.mv hM5 rfl; replace hb4 := hb4.mv hM5 rfl; replace g1 := g1.mv hM5 rfl; replace g2 := g2.mv hM5 rfl
     refine WR.eff_ (Eff.storeNC agg29 rfl rfl hb5 rfl rfl (by repeat (first | exact List.forall_mem_nil _ | refine List.forall_mem_cons.2 ⟨by first | rfl | assumption, ?_⟩))) ?_
     rintro _ w6 ⟨hS, hM6⟩
     replace hO := hO.mv hM6 rfl; replace h1 := h1.mv hM6 rfl; replace hc15 := hc15.mv hM6 rfl; replace hc36 := hc36.mv hM6 rfl; replace hb4 := hb4.mv hM6 rfl; replace g1 := g1.mv hM6 rfl; replace g2 := g2.mv hM6 rfl
     replace hb5 := hS
     refine qq (Val.assign rfl) rfl <| cnil <| cseq <| cregion ?_
     first | refine WR.val (Val.fieldAddr fld62_2 rfl) rfl ?_ | refine WR.val (Val.fieldAddrP fld62_2 rfl) rfl ?_
     refine qq (Val.loadB scl4 rfl hb4.blk rfl) rfl <| qq (Val.move rfl) rfl ?_
     apply WR.sc true 2 _ (fun w' => w6 = w')
     case hl => rfl
     case hg => rfl
     case hu => rfl
     case hv => rfl
     case hs => rfl
     case hoff => rfl
     case hd => rfl
     case hF => exact fun _ => rfl
     case hT =>
      intro hq5
      try simp only [tstS] at hq5
      simp only [List.take_succ_cons, List.take_zero]
      refine WR.on rfl rfl ?_
      refine qq (Val.move rfl) rfl ?_
      refine WR.on rfl rfl ?_
      refine qq (Val.neq rfl rfl) rfl ?_
      exact WR.nil ⟨rfl, Sub.drop _ 2 _ rfl rfl, rfl⟩
     rintro _ rfl
     refine cnil ?_
     refine WC.cond rfl (fun hc9 => ?_) (fun hc9 => ?_)
     ·try simp only [tstS] at hc9
      have hno : thgAt T k = false := by
        rw [hat, hc9.1]
        cases hm : (manTake T[k].text).isSome with
        | false => simp
        | true => rw [hm] at hc9; simp at hc9
      refine cseq <| cregion <| qq (Val.assign rfl) rfl <| cnil ?_
      refine WC.ret1 rfl rfl ?_
      exact ⟨hO.below, by rw [thgsMay_no ka hno]⟩
     ·try simp only [tstS] at hc9
      have hye : thgAt T k = true := by
        rw [hat, decide_eq_true hc6a, decide_eq_true (show (T[k].text.length : Int) ≤ 2000 by omega)]
        have h3 : (!(decide (0 < (k : Int)) && !(!(Op.bytesLess T[k].digest T[((k : Int) - 1).toNat].digest || (T[k].digest == T[((k : Int) - 1).toNat].digest))))) = true := by
          rw [Bool.not_not]
          cases h0 : decide (0 < (k : Int)) with
          | false => rfl
          | true =>
            cases h9 : (Op.bytesLess T[k].digest T[((k : Int) - 1).toNat].digest || (T[k].digest == T[((k : Int) - 1).toNat].digest)) with
            | false => rfl
            | true => rw [h0, h9] at hc6c; exact absurd hc6c (by decide)
        rw [h3]
        cases hm : T[k].manifest with
        | false => rfl
        | true =>
          cases hs : (manTake T[k].text).isSome with
          | true => rfl
          | false => rw [hm, hs] at hc9; simp at hc9
      refine cskip <| cregion <| qq (Val.addI rfl rfl (by first | omega | assumption | (simp; omega) | (simp; done)) (by first | omega | assumption | (simp; omega) | (simp; done))) rfl <| qq (Val.move rfl) rfl <| cnil ?_
      exact ⟨k + 1, (by repeat (first | exact Sub.nil _ | refine Sub.cons rfl ?_ | refine Sub.consM rfl ?_)), ⟨_, hO, h1, ka, below_succ hd hye⟩, by omega⟩
   ·try simp only [tstS] at hc4
    refine WC.exit rfl ?_
    refine cseq <| cregion <| qq (Val.assign rfl) rfl <| cnil ?_
    refine WC.ret1 rfl rfl ?_
    exact ⟨hO.below, by rw [thgsMay_yes (k := k) (by omega) (by omega) hd]⟩

theorem rcheck_ok {w : World} {v : Value} {T : List Thg} (h1 : Rd thgS w v T) : Calls Try.prog 48 #[v] w (Ret fun v' w' => Below w.heap.size w w' ∧ v' = I (if thgsMay T then 0 else 1)) := by
  have hK : Old w w := Old.refl w
  refine enter (n := 6) (res := #[.tmp 2]) Try.func48 rfl rfl rfl rfl ?_
  refine cseq <| cregion <| qq (Val.assign rfl) rfl <| cnil <| cseq <| cseq <| cregion <| qq (Val.move rfl) rfl ?_
  refine WR.eff (Eff.call pf80 rfl (rmay_ok h1)) rfl ?_
  rintro v4 w1 ⟨hk1, rfl⟩
  replace hK := hK.up hk1
  refine qq (Val.not rfl) rfl <| cnil ?_
  refine WC.cond rfl (fun hc1 => ?_) (fun hc1 => ?_)
  ·try simp only [tstS] at hc1
   refine cseq <| cregion <| qq (Val.assign rfl) rfl <| cnil ?_
   refine WC.ret1 rfl rfl ?_
   exact ⟨hK, by rw [hc1]; rfl⟩
  ·try simp only [tstS] at hc1
   refine cskip <| cseq <| cregion <| qq (Val.assign rfl) rfl <| cnil ?_
   refine WC.ret1 rfl rfl ?_
   exact ⟨hK, by rw [hc1]; rfl⟩

theorem thgsW_le {w : World} {v : Value} {T : List Thg} (h : RdS thgS w.heap.size w v T) : thgsW T ≤ 422212465065984 := by
  have h1 := h.small
  rcases stopSum_le (T.map thgW) T.length 281474976710656 (fun x hx => by
    obtain ⟨y, hy, rfl⟩ := List.mem_map.1 hx
    obtain ⟨i, hi, rfl⟩ := List.mem_iff_getElem.1 hy
    obtain ⟨_, _, h3⟩ := h.at (List.getElem?_eq_getElem hi)
    have h4 := h3.2
    unfold thgW
    omega) with h2 | h2 <;> unfold thgsW <;> omega
theorem rheavy_ok {w : World} {vM vT : Value} {Ts : List (List Thg)} {R : List (List UInt8)} (h1 : Rd thgS.slice w vM Ts) (h2 : Rd strS w vT R) :
    Calls Try.prog 32 #[.agg #[vM, vT]] w (Ret fun v w' => Below w.heap.size w w' ∧ v = .bool (decide ((9000 : Int) < (thinksW Ts R : Nat)))) := by
  have hK : Old w w := Old.refl w
  have o1 := h1.oneC
  have o2 := h2.oneC
  have hsm := h1.small
  refine enter (n := 29) (res := #[.tmp 2]) Try.func32 rfl rfl rfl rfl ?_
  refine cseq <| cregion ?_
  refine WR.eff (Eff.box rfl) rfl ?_
  rintro _ w1 ⟨b1, rfl, hn1⟩
  have hk1 := hn1.below
  replace h1 := h1.up hk1; replace h2 := h2.up hk1; replace hK := hK.up hk1
  have hb1 := hn1.blk
  refine qq (Val.assign rfl) rfl <| cnil <| cseq <| cregion ?_
  first | refine WR.val (Val.fieldAddr fld50_1 rfl) rfl ?_ | refine WR.val (Val.fieldAddrP fld50_1 rfl) rfl ?_
  refine qq (Val.loadB scl23 rfl hb1 rfl) rfl ?_
  refine WR.eff (Eff.call pf70 rfl (texts_ok h2)) rfl ?_
  rintro v7 w2 ⟨hk2, rfl⟩
  replace h1 := h1.up hk2; replace h2 := h2.up hk2; replace hK := hK.up hk2; replace hb1 := hb1.up hk2
  have ht := tW_le h2
  rw [show stopSum R.length (R.map List.length) = tW R from rfl]
  refine qq (Val.assign rfl) rfl <| cnil <| cseq <| cseq <| cregion <| qq (Val.assign rfl) rfl <| cnil <| cblock ?_
  refine WC.loop (σ := Nat) (fun k => [(1, .pointer (some ⟨b1, 0, none⟩)), (3, I ((tW R + ((Ts.take k).map thgsW).sum : Nat) : Int)), (4, I k)]) (fun k w' => Rd thgS.slice w' vM Ts ∧ Rd strS w' vT R ∧ Old w w' ∧ Blk w' b1 [vM, vT] 50 ∧ k ≤ Ts.length ∧ tW R + ((Ts.take k).map thgsW).sum ≤ 900000000000000 ∧ thinksW Ts R = stopSum (tW R + ((Ts.take k).map thgsW).sum) ((Ts.drop k).map thgsW)) (fun k => Ts.length - k) 0 (by simp only [List.take_zero, List.map_nil, List.sum_nil, Nat.add_zero]; repeat (first | exact Sub.nil _ | refine Sub.cons rfl ?_ | refine Sub.consM rfl ?_)) ⟨h1, h2, hK, hb1, by omega, by simp; omega, by simp [thinksW]⟩ ?_
  clear ht h1 h2 hK
  rintro k wl ⟨h1, h2, hK, hb1, hk, hn, hst⟩
  refine cseq <| cseq <| cregion <| qq (Val.move rfl) rfl ?_
  first | refine WR.val (Val.fieldAddr fld50_0 rfl) rfl ?_ | refine WR.val (Val.fieldAddrP fld50_0 rfl) rfl ?_
  refine qq (Val.loadB scl48 rfl hb1 rfl) rfl ?_
  first | refine WR.val (Val.rdlen sl48 (by assumption) rfl) rfl ?_ | refine WR.val (Val.sllen Try.underlying48 rfl) rfl ?_
  refine qq (Val.lss rfl rfl) rfl <| qq (Val.move rfl) rfl ?_
  apply WR.sc true 2 _ (fun w' => wl = w')
  case hl => rfl
  case hg => rfl
  case hu => rfl
  case hv => rfl
  case hs => rfl
  case hoff => rfl
  case hd => rfl
  case hF => exact fun _ => rfl
  case hT =>
   intro hq8
   try simp only [tstS] at hq8
   simp only [List.take_succ_cons, List.take_zero]
   refine WR.on rfl rfl ?_
   refine qq (Val.move rfl) rfl ?_
   refine WR.on rfl rfl ?_
   refine qq (Val.lss rfl rfl) rfl ?_
   exact WR.nil ⟨rfl, Sub.drop _ 2 _ rfl rfl, rfl⟩
  rintro _ rfl
  refine cnil ?_
  refine WC.cond rfl (fun hc3 => ?_) (fun hc3 => ?_)
  ·try simp only [tstS] at hc3
   obtain ⟨hc3, hc3'⟩ := hc3
   have ka : k < Ts.length := by omega
   obtain ⟨cs1, hc23, va, rfl, ha⟩ := h1.el ka
   replace ha : Rd thgS wl va Ts[k] := ha
   have hwa := thgsW_le ha
   refine cskip <| cseq <| cblock <| cregion <| qq (Val.move rfl) rfl ?_
   first | refine WR.val (Val.fieldAddr fld50_0 rfl) rfl ?_ | refine WR.val (Val.fieldAddrP fld50_0 rfl) rfl ?_
   refine qq (Val.loadB scl48 rfl hb1 rfl) rfl <| qq (Val.move rfl) rfl <| qq (Val.indexAddr sl48 (by assumption) rfl rfl rfl (by first | omega | assumption | (simp; omega) | (simp; done)) (by first | omega | assumption | (simp; omega) | (simp; done))) rfl <| qq (Val.loadE1 scl52 rfl hc23) rfl ?_
   refine WR.eff (Eff.call pf79 rfl (thgsWeight_ok ha)) rfl ?_
   rintro v25 w3 ⟨hk3, rfl⟩
   replace h1 := h1.up hk3; replace h2 := h2.up hk3; replace hK := hK.up hk3; replace hb1 := hb1.up hk3; replace hc23 := hc23.up hk3; replace ha := ha.up hk3
   refine qq (Val.addI rfl rfl (by first | omega | assumption | (simp; omega) | (simp; done)) (by first | omega | assumption | (simp; omega) | (simp; done))) rfl <| qq (Val.assign rfl) rfl <| cnil <| cregion <| qq (Val.move rfl) rfl <| qq (Val.addI rfl rfl (by first | omega | assumption | (simp; omega) | (simp; done)) (by first | omega | assumption | (simp; omega) | (simp; done))) rfl <| qq (Val.assign rfl) rfl <| cnil ?_
   refine ⟨k + 1, ?_, ⟨h1, h2, hK, hb1, ka, ?_, by rw [hst, stopSum_step _ ka (by omega), sum_take_succ _ ka, Nat.add_assoc]⟩, by omega⟩
   · have e2 : ((tW R + (((Ts.take k).map thgsW).sum + thgsW Ts[k]) : Nat) : Int) = ((tW R + ((Ts.take k).map thgsW).sum : Nat) : Int) + (thgsW Ts[k] : Nat) := by omega
     rw [sum_take_succ _ ka, e2]
     repeat (first | exact Sub.nil _ | refine Sub.cons rfl ?_ | refine Sub.consM rfl ?_)
   · rw [sum_take_succ _ ka]; omega
  ·try simp only [tstS] at hc3
   refine WC.exit rfl ?_
   refine cseq <| cregion <| qq (Val.move rfl) rfl <| qq (Val.gtr rfl rfl) rfl <| qq (Val.assign rfl) rfl <| cnil ?_
   refine WC.ret1 rfl rfl ?_
   have e3 : thinksW Ts R = tW R + ((Ts.take k).map thgsW).sum := by
     rw [Bool.and_eq_false_iff] at hc3
     simp only [decide_eq_false_iff_not] at hc3
     rcases Nat.lt_or_ge k Ts.length with h | h
     · rw [hst, stopSum_ge (by omega)]
     · rw [hst, List.drop_of_length_le h]; rfl
   exact ⟨hK, by rw [e3]⟩

theorem roots_ok {w : World} {v vR : Value} {T : List Thg} {R : List (List UInt8)} (h0 : Rd thgS w v T) (h2 : Rd strS w vR R) (by_ : Nat) (hb : by_ ≤ 1000) (hl : T.length ≤ 100000) (hr : R.length ≤ 100000) :
    Calls Try.prog 34 #[v, vR, I by_] w (Ret fun v' w' => Below w.heap.size w w' ∧ Own w' w.heap.size 9 1 v' (rootsT T R by_).length ((rootsT T R by_).flatMap fun x => [St x])) := by
  obtain ⟨c, hO, hc⟩ := OldC.start w
  have h1 : RdC thgS c w [0] v T := Rd.toC h0 (fun k hk => by simp [hc, hasC])
  clear hc h0
  refine enter (n := 31) (res := #[.tmp 6]) Try.func34 rfl rfl rfl rfl ?_
  refine cseq <| cregion <| qq (Val.assign rfl) rfl <| cnil <| cseq <| cregion <| qq (Val.move rfl) rfl ?_
  refine WR.eff (Eff.pureC c 7 (Eff.call pf15 rfl (copyStrings_ok h2 (by omega)))) rfl ?_
  rintro v10 w1 ⟨c1, hM1, hx1, ho⟩
  replace hO := hO.mv hM1 rfl; replace h1 := h1.mv hM1 rfl
  replace ho := ho.toC hx1
  refine qq (Val.assign rfl) rfl <| cnil <| cseq <| cseq <| cregion <| qq (Val.assign rfl) rfl <| cnil <| cblock ?_
  refine WC.loop (σ := Nat × Value) (fun st => [(0, v), (2, I by_), (7, st.2), (8, I st.1)]) (fun st w' => ∃ c', OldC w c' w' ∧ RdC thgS c' w' [0] v T ∧ OwnC c' w' 7 9 1 st.2 (R ++ pickT T by_ st.1).length ((R ++ pickT T by_ st.1).flatMap fun x => [St x]) ∧ st.1 ≤ T.length) (fun st => T.length - st.1) (0, v10) (by repeat (first | exact Sub.nil _ | refine Sub.cons rfl ?_ | refine Sub.consM rfl ?_)) ⟨_, hO, h1, by simpa [pickT] using ho, by simp⟩ ?_
  clear hO h1 ho
  rintro ⟨k, vm⟩ wl ⟨cl, hO, h1, ho, hk⟩
  dsimp only at hO h1 ho hk ⊢
  have hpl := pickT_len T by_ k
  refine cseq <| cseq <| cregion <| qq (Val.move rfl) rfl <| qq (Val.move rfl) rfl ?_
  first | refine WR.val (Val.rdlen sl52 (by assumption) rfl) rfl ?_ | refine WR.val (Val.sllen Try.underlying52 rfl) rfl ?_ | refine WR.val (Val.olen sl52 (by assumption) rfl) rfl ?_ | refine WR.val (Val.rdlenC sl52 (by assumption) rfl) rfl ?_
  refine qq (Val.lss rfl rfl) rfl <| cnil ?_
  refine WC.cond rfl (fun hc3 => ?_) (fun hc3 => ?_)
  ·try simp only [tstS] at hc3
   have ka : k < T.length := by omega
   obtain ⟨hc25, ok1⟩ := RdC.elFlat h1 ka (by decide)
   have hps := pickT_succ T by_ k
   refine cskip <| cseq <| cblock <| cseq <| cregion <| qq (Val.move rfl) rfl <| qq (Val.move rfl) rfl <| qq (Val.addI rfl rfl (by first | omega | assumption | (simp; omega) | (simp; done)) (by first | omega | assumption | (simp; omega) | (simp; done))) rfl <| qq (Val.remI rfl rfl (by first | omega | assumption | (simp; omega) | (simp; done)) (by first | omega | assumption | (simp; omega) | (simp; done))) rfl ?_
   refine qq (Val.eql rfl rfl) rfl <| cnil ?_
   refine WC.cond rfl (fun hc5 => ?_) (fun hc5 => ?_)
   ·try simp only [tstS] at hc5
    rw [if_pos (show (k + by_) % 3 = 0 by omega), dgOf_lt ka] at hps
    refine cregion <| qq (Val.move rfl) rfl <| qq (Val.move rfl) rfl <| qq (Val.move rfl) rfl ?_
    first | refine WR.val (Val.indexAddr sl52 (by assumption) rfl rfl rfl (by first | omega | assumption | (simp; omega) | (simp; done)) (by first | omega | assumption | (simp; omega) | (simp; done))) rfl ?_ | refine WR.val (Val.indexC sl52 (by assumption) rfl rfl (by first | omega | assumption | (simp; omega) | (simp; done)) (by first | omega | assumption | (simp; omega) | (simp; done))) rfl ?_ | refine WR.val (Val.indexO sl52 (by assumption) rfl rfl (by first | omega | assumption | (simp; omega) | (simp; done)) (by first | omega | assumption | (simp; omega) | (simp; done))) rfl ?_
    first | refine WR.val (Val.fieldAddr fld62_0 rfl) rfl ?_ | refine WR.val (Val.fieldAddrP fld62_0 rfl) rfl ?_
    refine qq (Val.loadEf scl9 rfl hc25.cel rfl) rfl ?_
    refine WR.eff (Eff.build1C cl 128 sl23 rfl rfl rfl rfl rfl) rfl ?_
    rintro _ w2 ⟨b28, c2, rfl, hM2, hb28⟩
    replace hO := hO.mv hM2 rfl; replace h1 := h1.mv hM2 rfl; replace ho := ho.mv hM2 rfl; replace hc25 := hc25.mv hM2 rfl
    refine WR.eff (Eff.appendC sl23 rfl rfl ho (Src.cellsAt Try.underlying23 hb28.blk.cellsAt rfl (by repeat (first | exact List.forall_mem_nil _ | refine List.forall_mem_cons.2 ⟨by first | rfl | assumption, ?_⟩))) (by rw [maxLen_eq]; first | omega | (simp; omega)) (by first | omega | (simp; omega))) rfl ?_
    rintro v29 w3 ⟨c3, hM3, hOq⟩
    clear hb28
    replace hO := hO.mv hM3 rfl; replace h1 := h1.mv hM3 rfl; replace hc25 := hc25.mv hM3 rfl
    replace ho := hOq
    refine qq (Val.assign rfl) rfl <| cnil <| cregion <| qq (Val.move rfl) rfl <| qq (Val.addI rfl rfl (by first | omega | assumption | (simp; omega) | (simp; done)) (by first | omega | assumption | (simp; omega) | (simp; done))) rfl <| qq (Val.assign rfl) rfl <| cnil ?_
    first
    | exact ⟨(k + 1, vm), (by repeat (first | exact Sub.nil _ | refine Sub.cons rfl ?_ | refine Sub.consM rfl ?_)), ⟨_, hO, h1, by rw [hps]; exact ho, ka⟩, by dsimp only; omega⟩
    | exact ⟨(k + 1, v29), (by repeat (first | exact Sub.nil _ | refine Sub.cons rfl ?_ | refine Sub.consM rfl ?_)), ⟨_, hO, h1, by rw [hps, ← List.append_assoc, List.flatMap_append, List.length_append]; exact ho, ka⟩, by dsimp only; omega⟩
   ·try simp only [tstS] at hc5
    rw [if_neg (show ¬ (k + by_) % 3 = 0 by omega)] at hps
    refine cskip <| cregion <| qq (Val.move rfl) rfl <| qq (Val.addI rfl rfl (by first | omega | assumption | (simp; omega) | (simp; done)) (by first | omega | assumption | (simp; omega) | (simp; done))) rfl <| qq (Val.assign rfl) rfl <| cnil ?_
    first
    | exact ⟨(k + 1, vm), (by repeat (first | exact Sub.nil _ | refine Sub.cons rfl ?_ | refine Sub.consM rfl ?_)), ⟨_, hO, h1, by rw [hps]; exact ho, ka⟩, by dsimp only; omega⟩
    | exact ⟨(k + 1, v29), (by repeat (first | exact Sub.nil _ | refine Sub.cons rfl ?_ | refine Sub.consM rfl ?_)), ⟨_, hO, h1, by rw [hps, ← List.append_assoc, List.flatMap_append, List.length_append]; exact ho, ka⟩, by dsimp only; omega⟩
  ·try simp only [tstS] at hc3
   have : k = T.length := by omega
   subst this
   refine WC.exit rfl ?_
   refine cseq <| cregion <| qq (Val.move rfl) rfl <| qq (Val.assign rfl) rfl <| cnil ?_
   refine WC.ret1 rfl rfl ?_
   exact ⟨hO.below, ho.fromOld hO (by decide)⟩
end Go.Proofs.Ytnddlhjafkhdoaa
