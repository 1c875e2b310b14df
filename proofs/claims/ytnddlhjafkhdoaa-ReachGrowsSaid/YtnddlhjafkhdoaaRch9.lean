/- What leads where: the law of more roots, walked. No condition. -/
import Derived.Test.YtnddlhjafkhdoaaRch7
set_option linter.unusedSimpArgs false
set_option linter.unusedVariables false
set_option maxRecDepth 100000
namespace Silo
open Go Go.Eng
theorem Reach.mono {T : List Thg} {R R' : List (List UInt8)} (h : ∀ d ∈ R, d ∈ R') {i : Nat} (hr : Reach T R i) : Reach T R' i := by
  induction hr with
  | root hd hf => exact .root (h _ hd) hf
  | step _ hd hf ih => exact .step ih hd hf
theorem fromT_sub {T : List Thg} {R R' : List (List UInt8)} (h : ∀ d ∈ R, d ∈ R') {d : List UInt8} (hd : d ∈ fromT T R) : d ∈ fromT T R' := by
  obtain ⟨i, hi, e⟩ := mem_fromT.1 hd
  exact mem_fromT.2 ⟨i, hi.mono h, e⟩
theorem fromT_find {T : List Thg} (hr : RiseT T) {R : List (List UInt8)} {d : List UInt8} (hd : d ∈ fromT T R) : ∃ i, findT T d = some i ∧ Reach T R i := by
  obtain ⟨i, hi, e⟩ := mem_fromT.1 hd
  rw [dgOf_lt hi.lt] at e
  exact ⟨i, findT_at hr hi.lt e, hi⟩
theorem fromT_idem {T : List Thg} (hr : RiseT T) (R : List (List UInt8)) : fromT T (fromT T R) = fromT T R := by
  refine sorted_unique _ _ (fromT_sorted hr _) (fromT_sorted hr _) fun a => ?_
  constructor
  · intro h
    obtain ⟨i, hi, e⟩ := mem_fromT.1 h
    refine mem_fromT.2 ⟨i, ?_, e⟩
    clear e h a
    induction hi with
    | root hd hf =>
      obtain ⟨j, hj, hjr⟩ := fromT_find hr hd
      rw [hf] at hj; injection hj with hj
      rw [hj]; exact hjr
    | step _ hd hf ih => exact .step ih hd hf
  · intro h
    obtain ⟨i, hi, e⟩ := mem_fromT.1 h
    refine mem_fromT.2 ⟨i, .root h ?_, e⟩
    rw [dgOf_lt hi.lt] at e
    exact findT_at hr hi.lt e
theorem fromT_closed {T : List Thg} {R : List (List UInt8)} {i j : Nat} {n : List UInt8} (hi : Reach T R i) (hn : n ∈ nmOf T i) (hf : findT T n = some j) : n ∈ fromT T R := by
  obtain ⟨hj, e⟩ := findT_some hf
  exact mem_fromT.2 ⟨j, .step hi hn hf, by rw [dgOf_lt hj]; exact e⟩
theorem sorted_get {l : List (List UInt8)} (h : l.Pairwise L) {i j : Nat} (hi : i < l.length) (hj : j < l.length) (hij : i < j) : L l[i] l[j] := List.pairwise_iff_getElem.1 h i j hi hj hij
end Silo
namespace Go.Proofs.Ytnddlhjafkhdoaa
open Go Go.Eng Go.RowKit Silo TryT

set_option maxHeartbeats 4000000 in
theorem reachGrows_ok {w : World} {vT vR : Value} {Ts : List (List Thg)} {R : List (List UInt8)} (h1 : Rd thgS.slice w vT Ts) (h2 : Rd strS w vR R) :
    Calls Try.prog 5 #[.agg #[vT, vR]] w (Ret fun v w' => Below w.heap.size w w' ∧ v = .bool true) := by
  have o1 := h1.oneC
  have o2 := h2.oneC
  have hRo := h2.okFlat
  obtain ⟨c, hO, hc⟩ := OldC.start w
  replace h1 : RdC thgS.slice c w [0] vT Ts := Rd.toC h1 (fun k hk => by simp [hc, hasC])
  replace h2 : RdC strS c w [0] vR R := Rd.toC h2 (fun k hk => by simp [hc, hasC])
  clear hc
  refine enter (n := 147) (res := #[.tmp 2]) Try.func5 rfl rfl rfl rfl ?_
  refine cseq <| cregion ?_
  refine WR.eff (Eff.boxC c 101 rfl) rfl ?_
  rintro _ w1 ⟨b1, c1, rfl, hM1, hb1⟩
  replace hO := hO.mv hM1 rfl; replace h1 := h1.mv hM1 rfl; replace h2 := h2.mv hM1 rfl
  refine qq (Val.assign rfl) rfl <| cnil <| cseq <| cseq <| cregion <| qq (Val.loadBN agg50 rfl hb1.blk rfl) rfl ?_
  refine WR.eff (Eff.pureC c1 1 (Eff.call pf32 rfl (rheavy_ok h1.now h2.now))) rfl ?_
  rintro v18 w2 ⟨c2, hM2, hx2, rfl⟩
  replace hO := hO.mv hM2 rfl; replace h1 := h1.mv hM2 rfl; replace h2 := h2.mv hM2 rfl; replace hb1 := hb1.mv hM2 rfl
  refine cnil ?_
  refine WC.cond rfl (fun hc1 => ?_) (fun hc1 => ?_)
  ·try simp only [tstS] at hc1
   refine cseq <| cregion <| qq (Val.assign rfl) rfl <| cnil ?_
   refine WC.ret1 rfl rfl ?_
   exact ⟨hO.below, rfl⟩
  ·try simp only [tstS] at hc1
   obtain ⟨⟨hRl, hRt⟩, hlm⟩ := thinks_light (Ts := Ts) (R := R) (by omega)
   refine cskip <| cseq <| cseq <| cregion <| qq (Val.assign rfl) rfl <| cnil <| cblock ?_
   refine WC.loop (σ := Nat) (fun i => [(1, .pointer (some ⟨b1, 0, none⟩)), (3, I i)]) (fun i w' => ∃ c', OldC w c' w' ∧ RdC thgS.slice c' w' [0] vT Ts ∧ RdC strS c' w' [0] vR R ∧ BlkC c' w' 101 b1 [vT, vR] 50 ∧ i ≤ Ts.length ∧ i ≤ 6) (fun i => Ts.length - i) 0 (by repeat (first | exact Sub.nil _ | refine Sub.cons rfl ?_ | refine Sub.consM rfl ?_)) ⟨_, hO, h1, h2, hb1, by simp, by simp⟩ ?_
   clear hO h1 h2 hb1
   rintro i wl ⟨cl, hO, h1, h2, hb1, hi, hi6⟩
   have hsm := h1.now.small
   refine cseq <| cseq <| cregion <| qq (Val.move rfl) rfl ?_
   first | refine WR.val (Val.fieldAddr fld50_0 rfl) rfl ?_ | refine WR.val (Val.fieldAddrP fld50_0 rfl) rfl ?_
   refine qq (Val.loadB scl48 rfl hb1.blk rfl) rfl <| qq (Val.rdlenC sl48 h1 rfl) rfl <| qq (Val.lss rfl rfl) rfl <| qq (Val.move rfl) rfl ?_
   apply WR.sc true 2 _ (fun w' => wl = w')
   case hl => rfl
   case hg => rfl
   case hu => rfl
   case hv => rfl
   case hs => rfl
   case hoff => rfl
   case hd => rfl
   case hF => exact fun _ => rfl
   case hT =>
    intro hq8
    try simp only [tstS] at hq8
    simp only [List.take_succ_cons, List.take_zero]
    refine WR.on rfl rfl ?_
    refine qq (Val.move rfl) rfl ?_
    refine WR.on rfl rfl ?_
    refine qq (Val.lss rfl rfl) rfl ?_
    exact WR.nil ⟨rfl, Sub.drop _ 2 _ rfl rfl, rfl⟩
   rintro _ rfl
   refine cnil ?_
   refine WC.cond rfl (fun hc4 => ?_) (fun hc4 => ?_)
   ·try simp only [tstS] at hc4
    obtain ⟨hc4, hc4'⟩ := hc4
    have ka : i < Ts.length := by omega
    obtain ⟨cs1, hc33, hl1, hf1⟩ := h1.el ka (by decide)
    obtain ⟨hTl, hTx⟩ := hlm _ (List.getElem_mem ka)
    obtain ⟨va, rfl, _⟩ := hf1.now
    have ha : RdC thgS cl wl [0] va Ts[i] := fun W hs hk => by
      obtain ⟨a, e, g1⟩ := hf1 W hs hk
      simp only [List.cons.injEq, and_true] at e
      subst e; exact g1
    clear hf1
    generalize Ts[i] = T at hTl hTx ha
    have hok : ∀ x ∈ T, x.digest.length ≤ 140737488355328 ∧ x.text.length ≤ 140737488355328 := fun x hx => by have := hTx x hx; omega
    have htx : ∀ t ∈ T, t.text.length ≤ 1048576 := fun t ht => by have := hTx t ht; omega
    have hdx : ∀ t ∈ T, t.digest.length ≤ 140737488355328 := fun t ht => (hok t ht).1
    refine cskip <| cseq <| cblock <| cseq <| cregion ?_
    first | refine WR.val (Val.fieldAddr fld50_0 rfl) rfl ?_ | refine WR.val (Val.fieldAddrP fld50_0 rfl) rfl ?_
    refine qq (Val.loadB scl48 rfl hb1.blk rfl) rfl <| qq (Val.move rfl) rfl <| qq (Val.indexC sl48 h1 rfl rfl (by omega) (by omega)) rfl <| qq (Val.loadE1 scl52 rfl hc33.cel) rfl <| qq (Val.assign rfl) rfl <| cnil <| cseq <| cseq <| cregion ?_
    refine qq (Val.move rfl) rfl ?_
    refine WR.eff (Eff.pureC cl 1 (Eff.call pf33 rfl (pthings_ok ha.now))) rfl ?_
    rintro v36 w3 ⟨c3, hM3, hx3, rfl⟩
    replace hO := hO.mv hM3 rfl; replace h1 := h1.mv hM3 rfl; replace h2 := h2.mv hM3 rfl; replace hb1 := hb1.mv hM3 rfl; replace hc33 := hc33.mv hM3 rfl; replace ha := ha.mv hM3 rfl
    refine qq (Val.not rfl) rfl <| cnil ?_
    refine WC.cond rfl (fun hc7 => ?_) (fun hc7 => ?_)
    ·try simp only [tstS] at hc7
     skip
     refine WC.exit rfl ?_
     refine cregion <| qq (Val.move rfl) rfl <| qq (Val.addI rfl rfl (by first | omega | assumption | (simp; omega) | (simp; done)) (by first | omega | assumption | (simp; omega) | (simp; done))) rfl <| qq (Val.assign rfl) rfl <| cnil ?_
     exact ⟨i + 1, (by repeat (first | exact Sub.nil _ | refine Sub.cons rfl ?_ | refine Sub.consM rfl ?_)), ⟨_, hO, h1, h2, hb1, ka, by omega⟩, by omega⟩
    ·try simp only [tstS] at hc7
     have hr := thgsMay_rise hc7
     have hAl := rootsT_len T [] 0
     have hAx : ∀ x ∈ rootsT T [] 0, x.length ≤ 140737488355328 := rootsT_texts hdx (fun x hx => by cases hx)
     have hBl := rootsT_len T R 1
     have hBx : ∀ x ∈ rootsT T R 1, x.length ≤ 140737488355328 := rootsT_texts hdx hRo
     rw [List.length_nil] at hAl
     generalize rootsT T R 1 = B1 at hBl hBx
     have hdr : ∀ R', (fromT T R').length ≤ T.length := fun R' => fromUpTo_len T R' T.length
     have hfx : ∀ R', ∀ x ∈ fromT T R', x.length ≤ 140737488355328 := fun R' => fromT_texts hdx
     refine cskip <| cseq <| cregion <| qq (Val.move rfl) rfl ?_
     refine WR.eff (Eff.pureC c3 5 (Eff.call pf34 rfl (roots_ok (R := []) ha.now (RdS.nil _ _ _) 0 (by omega) (by omega) (by simp)))) rfl ?_
     rintro v39 w4 ⟨c4, hM4, hx4, hoa⟩
     replace hO := hO.mv hM4 rfl; replace h1 := h1.mv hM4 rfl; replace h2 := h2.mv hM4 rfl; replace hb1 := hb1.mv hM4 rfl; replace ha := ha.mv hM4 rfl
     replace hoa := hoa.toC hx4
     generalize hA : rootsT T [] 0 = A at hAl hAx hoa
     refine qq (Val.assign rfl) rfl <| cnil <| cseq ?_
     refine WC.regionD (Kp c4 w4 [6]) [0, 2, 0, 0, 1, 2, 2, 0] [0, 2, 3, 4, 1, 5, 6, 7] mixed (by kernel_rfl) ?_
     have hM5 := Mv.drew c4 w4 []
     have hCw := Mv.drew c4 w4 [6]
     generalize w4.drew = w5 at hM5 hCw ⊢
     have hb10 := hb1
     replace hO := hO.mv hM5 rfl; replace h1 := h1.mv hM5 rfl; replace h2 := h2.mv hM5 rfl; replace hb1 := hb1.mv hM5 rfl; replace ha := ha.mv hM5 rfl; replace hoa := hoa.mv hM5 rfl
     refine qd rfl rfl rfl (fun _ => Val.move rfl) rfl <| qd rfl rfl rfl (fun _ => Val.move rfl) rfl ?_
     first | refine WD.val rfl rfl rfl (fun _ => Val.fieldAddr fld50_1 rfl) rfl ?_ | refine WD.val rfl rfl rfl (fun _ => Val.fieldAddrP fld50_1 rfl) rfl ?_
     refine qc rfl rfl rfl hCw.kp (fun W hW => Val.loadB scl23 rfl (hb10.kp hW rfl).blk rfl) rfl ?_
     refine WD.eff rfl rfl rfl (Eff.pureC c4 6 (Eff.call pf15 rfl (copyStrings_ok (hoa.own.rdStrs hAx (by omega)) (by omega)))) rfl ?_
     rintro v41 w6 ⟨c6, hM6, hx6, hob⟩
     refine ⟨fun hC => hC.step hCw hM6 rfl, ?_⟩
     replace hCw := hCw.tr hM6 rfl
     replace hO := hO.mv hM6 rfl; replace h1 := h1.mv hM6 rfl; replace h2 := h2.mv hM6 rfl; replace hb1 := hb1.mv hM6 rfl; replace ha := ha.mv hM6 rfl; replace hoa := hoa.mv hM6 rfl
     replace hob := hob.toC hx6
     refine WD.eff rfl rfl rfl (Eff.pureC c6 8 (Eff.call pf34 rfl (roots_ok (R := R) ha.now h2.now 1 (by omega) (by omega) (by omega)))) rfl ?_
     rintro v45 w7 ⟨c7, hM7, hx7, hob1⟩
     refine ⟨fun hC => hC.step hCw hM7 rfl, ?_⟩
     replace hCw := hCw.tr hM7 rfl
     replace hO := hO.mv hM7 rfl; replace h1 := h1.mv hM7 rfl; replace h2 := h2.mv hM7 rfl; replace hb1 := hb1.mv hM7 rfl; replace ha := ha.mv hM7 rfl; replace hoa := hoa.mv hM7 rfl; replace hob := hob.mv hM7 rfl
     replace hob1 := hob1.toC hx7
     have hB1l := rootsT_len T R 1
     have hB1x : ∀ x ∈ rootsT T R 1, x.length ≤ 140737488355328 := rootsT_texts hdx hRo
     have hB1r := hob1.own.rdStrs hB1x (by omega)
     refine WD.eff rfl rfl rfl (Eff.appendC sl23 rfl rfl hob (Src.flat Try.underlying23 hB1r) (by rw [maxLen_eq]; first | omega | (simp; omega)) (by first | omega | (simp; omega))) rfl ?_
     rintro v46 w8 ⟨c8, hM8, hOq⟩
     refine ⟨fun hC => hC.step hCw hM8 rfl, ?_⟩
     replace hCw := hCw.tr hM8 rfl
     replace hO := hO.mv hM8 rfl; replace h1 := h1.mv hM8 rfl; replace h2 := h2.mv hM8 rfl; replace hb1 := hb1.mv hM8 rfl; replace ha := ha.mv hM8 rfl; replace hoa := hoa.mv hM8 rfl; replace hob1 := hob1.mv hM8 rfl
     replace hob := hOq
     refine qd rfl rfl rfl (fun _ => Val.assign rfl) rfl ?_
     refine WD.nil ?_
     clear hb10
     clear hCw
     refine cseq ?_
     rw [← List.flatMap_append, ← List.length_append] at hob
     have hBLl : (A ++ rootsT T R 1).length ≤ 40000 := by rw [List.length_append]; omega
     have hBLx : ∀ x ∈ A ++ rootsT T R 1, x.length ≤ 140737488355328 := fun x hx => (List.mem_append.1 hx).elim (hAx x) (hB1x x)
     have hAB : ∀ d ∈ A, d ∈ A ++ rootsT T R 1 := fun d hd => List.mem_append_left _ hd
     generalize A ++ rootsT T R 1 = BL at hob hBLl hBLx hAB
     obtain ⟨A5, q5, rfl, _, hA5⟩ := hoa.own.formA
     obtain ⟨A6, q6, rfl, _, hA6⟩ := hob.own.formA
     have hp5 : PlainV (.slice A5 A.length q5) := ⟨_, _, _, rfl, hA5⟩
     have hp6 : PlainV (.slice A6 BL.length q6) := ⟨_, _, _, rfl, hA6⟩
     have l1 := hdr A; have l2 := hdr BL; have l3 := hdr (fromT T A)
     refine cregion <| qq (Val.move rfl) rfl <| qq (Val.move rfl) rfl ?_
     refine WR.eff (Eff.pureC c8 7 (Eff.call pf35 rfl (rfrom_ok ha.now (hoa.own.rdStrs hAx (by omega)) hp5 (by omega)))) rfl ?_
     rintro v50 w9 ⟨c9, hM9, hx9, ⟨vx, rfl, hxo⟩⟩
     replace hO := hO.mv hM9 rfl; replace h1 := h1.mv hM9 rfl; replace h2 := h2.mv hM9 rfl; replace hb1 := hb1.mv hM9 rfl; replace ha := ha.mv hM9 rfl; replace hoa := hoa.mv hM9 rfl; replace hob := hob.mv hM9 rfl
     replace hxo := hxo.toC hx9
     rw [hc7, if_pos rfl] at hxo
     rw [hc7, if_pos rfl]
     obtain ⟨A7, q7, rfl, _, hA7⟩ := hxo.own.formA
     have hp7 : PlainV (.slice A7 (fromT T A).length q7) := ⟨_, _, _, rfl, hA7⟩
     refine qq (Val.move rfl) rfl <| qq (Val.extract rfl rfl) rfl <| qq (Val.extract rfl rfl) rfl <| qq (Val.assign rfl) rfl <| qq (Val.assign rfl) rfl <| cnil <| cseq <| cregion <| qq (Val.move rfl) rfl ?_
     refine qq (Val.move rfl) rfl ?_
     refine WR.eff (Eff.pureC c9 9 (Eff.call pf35 rfl (rfrom_ok ha.now (hob.own.rdStrs hBLx (by omega)) hp6 (by omega)))) rfl ?_
     rintro v56 w10 ⟨c10, hM10, hx10, ⟨vy, rfl, hyo⟩⟩
     replace hO := hO.mv hM10 rfl; replace h1 := h1.mv hM10 rfl; replace h2 := h2.mv hM10 rfl; replace hb1 := hb1.mv hM10 rfl; replace ha := ha.mv hM10 rfl; replace hob := hob.mv hM10 rfl; replace hxo := hxo.mv hM10 rfl
     replace hyo := hyo.toC hx10
     rw [hc7, if_pos rfl] at hyo
     rw [hc7, if_pos rfl]
     refine qq (Val.move rfl) rfl <| qq (Val.extract rfl rfl) rfl <| qq (Val.extract rfl rfl) rfl <| qq (Val.assign rfl) rfl <| qq (Val.assign rfl) rfl <| cnil <| cseq <| cregion <| qq (Val.move rfl) rfl ?_
     refine qq (Val.move rfl) rfl ?_
     refine WR.eff (Eff.pureC c10 11 (Eff.call pf35 rfl (rfrom_ok ha.now (hxo.own.rdStrs (hfx A) (by omega)) hp7 (by omega)))) rfl ?_
     rintro v62 w11 ⟨c11, hM11, hx11, ⟨vw, rfl, hwo⟩⟩
     replace hO := hO.mv hM11 rfl; replace h1 := h1.mv hM11 rfl; replace h2 := h2.mv hM11 rfl; replace hb1 := hb1.mv hM11 rfl; replace ha := ha.mv hM11 rfl; replace hxo := hxo.mv hM11 rfl; replace hyo := hyo.mv hM11 rfl
     replace hwo := hwo.toC hx11
     rw [hc7, if_pos rfl, fromT_idem hr] at hwo
     rw [hc7, if_pos rfl]
     refine qq (Val.move rfl) rfl <| qq (Val.extract rfl rfl) rfl <| qq (Val.extract rfl rfl) rfl <| qq (Val.assign rfl) rfl <| qq (Val.assign rfl) rfl <| cnil <| cseq <| cseq <| cregion ?_
     refine qq (Val.move rfl) rfl ?_
     refine WR.eff (Eff.pureC c11 1 (Eff.call pf36 rfl (rnum_ok _))) rfl ?_
     rintro v66 w12 ⟨c12, hM12, hx12, rfl⟩
     replace hO := hO.mv hM12 rfl; replace h1 := h1.mv hM12 rfl; replace h2 := h2.mv hM12 rfl; replace hb1 := hb1.mv hM12 rfl; replace ha := ha.mv hM12 rfl; replace hxo := hxo.mv hM12 rfl; replace hyo := hyo.mv hM12 rfl; replace hwo := hwo.mv hM12 rfl
     refine qq (Val.move rfl) rfl ?_
     refine WR.eff (Eff.pureC c12 1 (Eff.call pf36 rfl (rnum_ok _))) rfl ?_
     rintro v68 w13 ⟨c13, hM13, hx13, rfl⟩
     replace hO := hO.mv hM13 rfl; replace h1 := h1.mv hM13 rfl; replace h2 := h2.mv hM13 rfl; replace hb1 := hb1.mv hM13 rfl; replace ha := ha.mv hM13 rfl; replace hxo := hxo.mv hM13 rfl; replace hyo := hyo.mv hM13 rfl; replace hwo := hwo.mv hM13 rfl
     refine qq (Val.addI rfl rfl (by first | omega | assumption | (simp; omega) | (simp; done)) (by first | omega | assumption | (simp; omega) | (simp; done))) rfl <| qq (Val.move rfl) rfl ?_
     refine WR.eff (Eff.pureC c13 1 (Eff.call pf36 rfl (rnum_ok _))) rfl ?_
     rintro v71 w14 ⟨c14, hM14, hx14, rfl⟩
     replace hO := hO.mv hM14 rfl; replace h1 := h1.mv hM14 rfl; replace h2 := h2.mv hM14 rfl; replace hb1 := hb1.mv hM14 rfl; replace ha := ha.mv hM14 rfl; replace hxo := hxo.mv hM14 rfl; replace hyo := hyo.mv hM14 rfl; replace hwo := hwo.mv hM14 rfl
     refine qq (Val.addI rfl rfl (by first | omega | assumption | (simp; omega) | (simp; done)) (by first | omega | assumption | (simp; omega) | (simp; done))) rfl <| qq (Val.neq rfl rfl) rfl <| qq (Val.move rfl) rfl ?_
     refine WR.onEq rfl rfl rfl ?_
     refine qq (Val.move rfl) rfl ?_
     refine WR.onEq rfl rfl rfl ?_
     refine qq (Val.move rfl) rfl ?_
     refine WR.onEq rfl rfl rfl ?_
     refine WR.eff (Eff.pureC c14 1 (Eff.call pf37 rfl (eqStrings_ok (hwo.own.rdStrs (hfx A) (by omega)) (hxo.own.rdStrs (hfx A) (by omega))))) rfl ?_
     rintro v77 w15 ⟨c15, hM15, hx15, rfl⟩
     replace hO := hO.mv hM15 rfl; replace h1 := h1.mv hM15 rfl; replace h2 := h2.mv hM15 rfl; replace hb1 := hb1.mv hM15 rfl; replace ha := ha.mv hM15 rfl; replace hxo := hxo.mv hM15 rfl; replace hyo := hyo.mv hM15 rfl; replace hwo := hwo.mv hM15 rfl
     rw [decide_eq_true rfl]
     refine WR.onEq rfl rfl rfl ?_
     refine qq (Val.not rfl) rfl ?_
     refine WR.pickOn (by rfl) rfl rfl rfl ?_
     refine cnil ?_
     refine WC.cond_false rfl ?_
     refine cskip <| cseq <| cregion <| qq (Val.assign rfl) rfl <| cnil <| cblock ?_
     have hXs := fromT_sorted hr A
     refine WC.loop (σ := Nat) (fun k => [(1, .pointer (some ⟨b1, 0, none⟩)), (3, I i), (4, va), (7, .slice A7 (fromT T A).length q7), (9, vy), (13, I k)]) (fun k w' => ∃ c', OldC w c' w' ∧ RdC thgS.slice c' w' [0] vT Ts ∧ RdC strS c' w' [0] vR R ∧ BlkC c' w' 101 b1 [vT, vR] 50 ∧ RdC thgS c' w' [0] va T ∧ OwnC c' w' 7 9 1 (.slice A7 (fromT T A).length q7) (fromT T A).length ((fromT T A).flatMap fun x => [St x]) ∧ OwnC c' w' 9 9 1 vy (fromT T BL).length ((fromT T BL).flatMap fun x => [St x]) ∧ k ≤ (fromT T A).length) (fun k => (fromT T A).length - k) 0 (by repeat (first | exact Sub.nil _ | refine Sub.cons rfl ?_ | refine Sub.consM rfl ?_)) ⟨_, hO, h1, h2, hb1, ha, hxo, hyo, by omega⟩ ?_
     clear hO h1 h2 hb1 ha hxo hyo hwo hB1r
     rintro k wk ⟨ck, hO, h1, h2, hb1, ha, hxo, hyo, hk⟩
     refine cseq <| cseq <| cregion <| qq (Val.move rfl) rfl <| qq (Val.move rfl) rfl ?_
     first | refine WR.val (Val.rdlen sl23 (by assumption) rfl) rfl ?_ | refine WR.val (Val.sllen Try.underlying23 rfl) rfl ?_ | refine WR.val (Val.olen sl23 (by assumption) rfl) rfl ?_ | refine WR.val (Val.rdlenC sl23 (by assumption) rfl) rfl ?_
     refine qq (Val.lss rfl rfl) rfl <| cnil ?_
     refine WC.cond rfl (fun hc16 => ?_) (fun hc16 => ?_)
     ·try simp only [tstS] at hc16
      have kx : k < (fromT T A).length := by omega
      have kp : ((k : Int) - 1).toNat < (fromT T A).length := by omega
      have hX : RdC strS ck wk [7] _ (fromT T A) := hxo.rdFlat (by omega) (hfx A)
      obtain ⟨hc89, _⟩ := RdC.elFlat hX kx (by decide)
      obtain ⟨hc110, _⟩ := RdC.elFlat hX kp (by decide)
      have hc98 := hc89; have hc114 := hc89
      obtain ⟨at_, hfa, hra⟩ := fromT_find hr (List.getElem_mem kx)
      have hatl := hra.lt
      have hat : atT T (fromT T A)[k] = at_ := by rw [atT, hfa]
      have hyc : (fromT T BL).contains (fromT T A)[k] = true := by rw [List.contains_iff_mem]; exact fromT_sub hAB (List.getElem_mem kx)
      refine cskip <| cseq <| cblock <| cseq <| cregion <| qq (Val.move rfl) rfl <| qq (Val.move rfl) rfl <| qq (Val.move rfl) rfl <| qq (Val.indexAddr sl23 hX.now rfl rfl rfl (by omega) (by omega)) rfl ?_
      refine qq (Val.loadE1 scl9 rfl hc89.cel) rfl ?_
      refine WR.eff (Eff.pureC ck 1 (Eff.call pf38 rfl (at_ok ha.now))) rfl ?_
      rintro v91 w16 ⟨c16, hM16, hx16, rfl⟩
      replace hO := hO.mv hM16 rfl; replace h1 := h1.mv hM16 rfl; replace h2 := h2.mv hM16 rfl; replace hb1 := hb1.mv hM16 rfl; replace ha := ha.mv hM16 rfl; replace hxo := hxo.mv hM16 rfl; replace hyo := hyo.mv hM16 rfl; replace hX := hX.mv hM16 rfl; replace hc89 := hc89.mv hM16 rfl; replace hc98 := hc98.mv hM16 rfl; replace hc110 := hc110.mv hM16 rfl; replace hc114 := hc114.mv hM16 rfl
      rw [hat]
      refine qq (Val.assign rfl) rfl <| cnil <| cseq <| cseq ?_
      refine WC.regionD (Kp c16 w16 []) [0, 0, 0, 0, 0, 0, 0, 1, 2, 0, 0, 0, 0, 0, 0, 0, 0, 0, 0, 1, 0, 0, 0, 1, 0, 0, 0] [0, 1, 2, 3, 4, 5, 6, 7, 8, 9, 10, 11, 12, 13, 14, 15, 16, 17, 18, 19, 20, 21, 22, 23, 24, 25, 26] mixed (by kernel_rfl) ?_
      have hM17 := Mv.drew c16 w16 []
      have hCw := Mv.drew c16 w16 []
      generalize w16.drew = w17 at hM17 hCw ⊢
      have hb10 := hb1
      have hc890 := hc89
      have hc980 := hc98
      have hc1100 := hc110
      have hc1140 := hc114
      replace hO := hO.mv hM17 rfl; replace h1 := h1.mv hM17 rfl; replace h2 := h2.mv hM17 rfl; replace hb1 := hb1.mv hM17 rfl; replace ha := ha.mv hM17 rfl; replace hxo := hxo.mv hM17 rfl; replace hyo := hyo.mv hM17 rfl; replace hX := hX.mv hM17 rfl; replace hc89 := hc89.mv hM17 rfl; replace hc98 := hc98.mv hM17 rfl; replace hc110 := hc110.mv hM17 rfl; replace hc114 := hc114.mv hM17 rfl
      refine qd rfl rfl rfl (fun _ => Val.move rfl) rfl <| qd rfl rfl rfl (fun _ => Val.lss rfl rfl) rfl ?_
      rw [decide_eq_false (show ¬ (at_ : Int) < 0 by omega)]
      refine qd rfl rfl rfl (fun _ => Val.move rfl) rfl <| qd rfl rfl (by rfl) (fun _ => Val.move rfl) rfl <| qd rfl rfl (by rfl) (fun _ => Val.move rfl) rfl <| qd rfl rfl (by rfl) (fun _ => Val.move rfl) rfl <| qd rfl rfl rfl (fun _ => Val.indexAddr sl23 hX.now rfl rfl rfl (by omega) (by omega)) rfl <| qc rfl rfl (by rfl) hCw.kp (fun W hW => Val.loadE1 scl9 rfl (hc980.kp hW rfl).cel) rfl ?_
      refine WD.eff rfl rfl (by rfl) (Eff.pureC c16 1 (Eff.call pf39 rfl (zhas_ok (hyo.own.rdStrs (hfx BL) (by omega))))) rfl ?_
      rintro v100 w18 ⟨c18, hM18, hx18, rfl⟩
      refine ⟨fun hC => hC.step hCw hM18 rfl, ?_⟩
      replace hCw := hCw.tr hM18 rfl
      replace hO := hO.mv hM18 rfl; replace h1 := h1.mv hM18 rfl; replace h2 := h2.mv hM18 rfl; replace hb1 := hb1.mv hM18 rfl; replace ha := ha.mv hM18 rfl; replace hxo := hxo.mv hM18 rfl; replace hyo := hyo.mv hM18 rfl; replace hX := hX.mv hM18 rfl; replace hc89 := hc89.mv hM18 rfl; replace hc98 := hc98.mv hM18 rfl; replace hc110 := hc110.mv hM18 rfl; replace hc114 := hc114.mv hM18 rfl
      rw [hyc]
      refine qd rfl rfl (by rfl) (fun _ => Val.not rfl) rfl <| qd rfl rfl rfl (fun _ => Val.pick rfl rfl) rfl <| qd rfl rfl rfl (fun _ => Val.move rfl) rfl <| qd rfl rfl (by rfl) (fun _ => Val.move rfl) rfl <| qd rfl rfl (by rfl) (fun _ => Val.gtr rfl rfl) rfl <| qd rfl rfl (by rfl) (fun _ => Val.move rfl) rfl ?_
      apply WD.sc true 10 _ (fun w' => w18 = w')
      case hl => rfl
      case hi => rfl
      case hk => rfl
      case hg => rfl
      case hu => rfl
      case hv => rfl
      case hs => rfl
      case hoff => rfl
      case hd => rfl
      case hC => exact hCw.kp
      case hF => exact fun _ => rfl
      case hT =>
       intro hq25
       try simp only [tstS] at hq25
       simp only [List.take_succ_cons, List.take_zero]
       refine qd rfl rfl rfl (fun _ => Val.move rfl) rfl <| qd rfl rfl rfl (fun _ => Val.move rfl) rfl <| qd rfl rfl rfl (fun _ => Val.subI rfl rfl (by first | omega | assumption | (simp; omega) | (simp; done)) (by first | omega | assumption | (simp; omega) | (simp; done))) rfl <| qd rfl rfl rfl (fun _ => Val.indexAddr sl23 hX.now rfl rfl rfl (by omega) (by omega)) rfl <| qc rfl rfl rfl hCw.kp (fun W hW => Val.loadE1 scl9 rfl (hc1100.kp hW rfl).cel) rfl <| qd rfl rfl rfl (fun _ => Val.move rfl) rfl <| qd rfl rfl rfl (fun _ => Val.move rfl) rfl <| qd rfl rfl rfl (fun _ => Val.indexAddr sl23 hX.now rfl rfl rfl (by omega) (by omega)) rfl <| qc rfl rfl rfl hCw.kp (fun W hW => Val.loadE1 scl9 rfl (hc1140.kp hW rfl).cel) rfl ?_
       refine qd rfl rfl rfl (fun _ => Val.sgeq rfl rfl) rfl ?_
       exact WD.nil ⟨rfl, Sub.drop _ 10 _ rfl rfl, rfl⟩
      rintro _ rfl
      refine qd rfl rfl rfl (fun _ => Val.pick rfl rfl) rfl ?_
      refine WD.nil ?_
      clear hb10 hc890 hc980 hc1100 hc1140
      clear hCw
      refine WC.cond rfl (fun hc19 => ?_) (fun hc19 => ?_)
      ·exfalso
       have hk0 : 0 < k := by
         rcases Nat.eq_zero_or_pos k with h | h
         · subst h; simp at hc19
         · exact h
       have hs := sorted_get hXs kp kx (by omega)
       unfold L at hs
       rw [hs] at hc19
       simp at hc19
      ·try simp only [tstS] at hc19
       obtain ⟨hc121, _⟩ := RdC.elFlat ha hatl (by decide)
       have hnl := namesT_len T[at_]
       refine cskip <| cseq <| cregion <| qq (Val.move rfl) rfl <| qq (Val.move rfl) rfl <| qq (Val.indexAddr sl52 ha.now rfl rfl rfl (by omega) (by omega)) rfl <| qq (Val.loadE agg62 rfl hc121.cel rfl) rfl ?_
       refine WR.eff (Eff.pureC c18 15 (Eff.call pf40 rfl (named_ok T[at_] (htx _ (List.getElem_mem hatl))))) rfl ?_
       rintro v123 w19 ⟨c19, hM19, hx19, hn⟩
       replace hO := hO.mv hM19 rfl; replace h1 := h1.mv hM19 rfl; replace h2 := h2.mv hM19 rfl; replace hb1 := hb1.mv hM19 rfl; replace ha := ha.mv hM19 rfl; replace hxo := hxo.mv hM19 rfl; replace hyo := hyo.mv hM19 rfl; replace hX := hX.mv hM19 rfl; replace hc89 := hc89.mv hM19 rfl; replace hc98 := hc98.mv hM19 rfl; replace hc110 := hc110.mv hM19 rfl; replace hc114 := hc114.mv hM19 rfl; replace hc121 := hc121.mv hM19 rfl
       replace hn := hn.toC hx19
       refine qq (Val.assign rfl) rfl <| cnil <| cseq <| cregion <| qq (Val.assign rfl) rfl <| cnil <| cblock ?_
       refine WC.loop (σ := Nat) (fun q => [(1, .pointer (some ⟨b1, 0, none⟩)), (3, I i), (4, va), (7, .slice A7 (fromT T A).length q7), (9, vy), (13, I k), (15, v123), (16, I q)]) (fun q w' => ∃ c', OldC w c' w' ∧ RdC thgS.slice c' w' [0] vT Ts ∧ RdC strS c' w' [0] vR R ∧ BlkC c' w' 101 b1 [vT, vR] 50 ∧ RdC thgS c' w' [0] va T ∧ OwnC c' w' 7 9 1 (.slice A7 (fromT T A).length q7) (fromT T A).length ((fromT T A).flatMap fun x => [St x]) ∧ OwnC c' w' 9 9 1 vy (fromT T BL).length ((fromT T BL).flatMap fun x => [St x]) ∧ OwnC c' w' 15 9 1 v123 (namesT T[at_]).length ((namesT T[at_]).flatMap fun x => [St x]) ∧ q ≤ (namesT T[at_]).length) (fun q => (namesT T[at_]).length - q) 0 (by repeat (first | exact Sub.nil _ | refine Sub.cons rfl ?_ | refine Sub.consM rfl ?_)) ⟨_, hO, h1, h2, hb1, ha, hxo, hyo, hn, by omega⟩ ?_
       clear hO h1 h2 hb1 ha hxo hyo hn hX hc89 hc98 hc110 hc114 hc121
       rintro q wq ⟨cq, hO, h1, h2, hb1, ha, hxo, hyo, hn, hq⟩
       refine cseq <| cseq <| cregion <| qq (Val.move rfl) rfl <| qq (Val.move rfl) rfl <| qq (Val.olen sl23 hn rfl) rfl <| qq (Val.lss rfl rfl) rfl <| cnil ?_
       refine WC.cond rfl (fun hc23 => ?_) (fun hc23 => ?_)
       ·try simp only [tstS] at hc23
        have kq : q < (namesT T[at_]).length := by omega
        have hN : RdC strS cq wq [15] v123 (namesT T[at_]) := hn.rdFlat (by omega) namesT_texts
        obtain ⟨hc133, _⟩ := RdC.elFlat hN kq (by decide)
        have hc141 := hc133
        refine cskip <| cseq <| cblock <| cseq <| cregion <| qq (Val.move rfl) rfl <| qq (Val.move rfl) rfl <| qq (Val.move rfl) rfl <| qq (Val.indexAddr sl23 hN.now rfl rfl rfl (by omega) (by omega)) rfl ?_
        refine qq (Val.loadE1 scl9 rfl hc133.cel) rfl ?_
        refine WR.eff (Eff.pureC cq 1 (Eff.call pf38 rfl (at_ok ha.now))) rfl ?_
        rintro v135 w20 ⟨c20, hM20, hx20, rfl⟩
        replace hO := hO.mv hM20 rfl; replace h1 := h1.mv hM20 rfl; replace h2 := h2.mv hM20 rfl; replace hb1 := hb1.mv hM20 rfl; replace ha := ha.mv hM20 rfl; replace hxo := hxo.mv hM20 rfl; replace hyo := hyo.mv hM20 rfl; replace hn := hn.mv hM20 rfl; replace hN := hN.mv hM20 rfl; replace hc133 := hc133.mv hM20 rfl; replace hc141 := hc141.mv hM20 rfl
        refine qq (Val.geq rfl rfl) rfl <| qq (Val.move rfl) rfl ?_
        apply WR.sc true 7 (!(fromT T A).contains (namesT T[at_])[q]) (fun w' => ∃ c', Acc c20 w20 [] c' w')
        case hl => rfl
        case hg => rfl
        case hu => rfl
        case hv => rfl
        case hs => rfl
        case hoff => rfl
        case hd => rfl
        case hF => exact fun _ => ⟨_, Acc.refl _ _ _⟩
        case hT =>
         intro hq15
         try simp only [tstS] at hq15
         simp only [List.take_succ_cons, List.take_zero]
         have hKsc15 := Acc.refl c20 w20 []
         refine WR.on rfl rfl ?_
         refine qq (Val.move rfl) rfl ?_
         refine WR.on rfl rfl ?_
         refine qq (Val.move rfl) rfl ?_
         refine WR.on rfl rfl ?_
         refine qq (Val.move rfl) rfl ?_
         refine WR.on rfl rfl ?_
         refine qq (Val.indexAddr sl23 hN.now rfl rfl rfl (by omega) (by omega)) rfl ?_
         refine WR.on rfl rfl ?_
         refine qq (Val.loadE1 scl9 rfl hc141.cel) rfl ?_
         refine WR.on rfl rfl ?_
         refine WR.eff (Eff.pureC c20 1 (Eff.call pf39 rfl (zhas_ok (hxo.own.rdStrs (hfx A) (by omega))))) rfl ?_
         rintro v143 w21 ⟨c21, hM21, hx21, rfl⟩
         replace hO := hO.mv hM21 rfl; replace h1 := h1.mv hM21 rfl; replace h2 := h2.mv hM21 rfl; replace hb1 := hb1.mv hM21 rfl; replace ha := ha.mv hM21 rfl; replace hxo := hxo.mv hM21 rfl; replace hyo := hyo.mv hM21 rfl; replace hn := hn.mv hM21 rfl; replace hN := hN.mv hM21 rfl; replace hc133 := hc133.mv hM21 rfl; replace hc141 := hc141.mv hM21 rfl; replace hKsc15 := hKsc15.mv hM21 rfl
         refine WR.on rfl rfl ?_
         refine qq (Val.not rfl) rfl ?_
         exact WR.nil ⟨rfl, Sub.drop _ 7 _ rfl rfl, _, hKsc15⟩
        rintro w22 ⟨c22, ⟨hM22⟩⟩
        replace hO := hO.mv hM22 rfl; replace h1 := h1.mv hM22 rfl; replace h2 := h2.mv hM22 rfl; replace hb1 := hb1.mv hM22 rfl; replace ha := ha.mv hM22 rfl; replace hxo := hxo.mv hM22 rfl; replace hyo := hyo.mv hM22 rfl; replace hn := hn.mv hM22 rfl; replace hN := hN.mv hM22 rfl; replace hc133 := hc133.mv hM22 rfl; replace hc141 := hc141.mv hM22 rfl
        refine cnil ?_
        refine WC.cond rfl (fun hc25 => ?_) (fun hc25 => ?_)
        ·exfalso
         obtain ⟨hc25a, hc25b⟩ : 0 ≤ atT T (namesT T[at_])[q] ∧ (fromT T A).contains (namesT T[at_])[q] = false := by simpa using hc25
         obtain ⟨j, _, hfj, _⟩ := at_find hc25a
         have hm := fromT_closed hra (n := (namesT T[at_])[q]) (by rw [nmOf_lt hatl]; exact List.getElem_mem kq) hfj
         rw [← List.contains_iff_mem] at hm
         rw [hm] at hc25b
         cases hc25b
        ·try simp only [tstS] at hc25
         refine cskip <| cregion <| qq (Val.move rfl) rfl <| qq (Val.addI rfl rfl (by first | omega | assumption | (simp; omega) | (simp; done)) (by first | omega | assumption | (simp; omega) | (simp; done))) rfl <| qq (Val.assign rfl) rfl <| cnil ?_
         exact ⟨q + 1, (by repeat (first | exact Sub.nil _ | refine Sub.cons rfl ?_ | refine Sub.consM rfl ?_)), ⟨_, hO, h1, h2, hb1, ha, hxo, hyo, hn, kq⟩, by omega⟩
       ·try simp only [tstS] at hc23
        refine WC.exit rfl ?_
        refine cregion <| qq (Val.move rfl) rfl <| qq (Val.addI rfl rfl (by first | omega | assumption | (simp; omega) | (simp; done)) (by first | omega | assumption | (simp; omega) | (simp; done))) rfl <| qq (Val.assign rfl) rfl <| cnil ?_
        exact ⟨k + 1, (by repeat (first | exact Sub.nil _ | refine Sub.cons rfl ?_ | refine Sub.consM rfl ?_)), ⟨_, hO, h1, h2, hb1, ha, hxo, hyo, kx⟩, by omega⟩
     ·try simp only [tstS] at hc16
      refine WC.exit rfl ?_
      refine cregion <| qq (Val.move rfl) rfl <| qq (Val.addI rfl rfl (by first | omega | assumption | (simp; omega) | (simp; done)) (by first | omega | assumption | (simp; omega) | (simp; done))) rfl <| qq (Val.assign rfl) rfl <| cnil ?_
      exact ⟨i + 1, (by repeat (first | exact Sub.nil _ | refine Sub.cons rfl ?_ | refine Sub.consM rfl ?_)), ⟨_, hO, h1, h2, hb1, ka, by omega⟩, by omega⟩
   ·try simp only [tstS] at hc4
    skip
    refine WC.exit rfl ?_
    refine cseq <| cregion ?_
    refine WR.eff (Eff.pureC cl 1 (Eff.call pf41 rfl (rwakes_ok))) rfl ?_
    rintro v146 w23 ⟨c23, hM23, hx23, rfl⟩
    replace hO := hO.mv hM23 rfl
    refine qq (Val.assign rfl) rfl <| cnil ?_
    refine WC.ret1 rfl rfl ?_
    exact ⟨hO.below, rfl⟩
end Go.Proofs.Ytnddlhjafkhdoaa
