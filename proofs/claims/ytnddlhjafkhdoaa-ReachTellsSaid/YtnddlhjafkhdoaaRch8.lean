/- What leads where: the law that tells all, walked. No condition. -/
import Derived.Test.YtnddlhjafkhdoaaRch7
set_option linter.unusedSimpArgs false
set_option linter.unusedVariables false
set_option maxRecDepth 100000
namespace Silo
theorem ifl_len {α : Type} {b : Bool} {l : List α} {n : Nat} (h : l.length ≤ n) : (if b = true then l else []).length ≤ n := by
  cases b
  · exact Nat.zero_le _
  · exact h
theorem ifl_mem {b : Bool} {l : List (List UInt8)} {n : Nat} (h : ∀ x ∈ l, x.length ≤ n) : ∀ x ∈ (if b = true then l else []), x.length ≤ n := by
  cases b
  · intro x hx; cases hx
  · exact h
end Silo
namespace Go.Proofs.Ytnddlhjafkhdoaa
open Go Go.Eng Go.RowKit Silo TryT

/-- What stands while one list of things is looked at. -/
def TSt (w : World) (vT vR : Value) (Ts : List (List Thg)) (R : List (List UInt8)) (va vin : Value) (T : List Thg) (b1 : Nat) (c : Nat → Nat) (W : World) : Prop :=
  OldC w c W ∧ RdC thgS.slice c W [0] vT Ts ∧ RdC strS c W [0] vR R ∧ BlkC c W 101 b1 [vT, vR] 50 ∧ RdC thgS c W [0] va T ∧ OwnC c W 5 62 3 vin T.length (T.flatMap encThg)

set_option maxHeartbeats 4000000 in
theorem reachTells_ok {w : World} {vT vR : Value} {Ts : List (List Thg)} {R : List (List UInt8)} (h1 : Rd thgS.slice w vT Ts) (h2 : Rd strS w vR R) :
    Calls Try.prog 8 #[.agg #[vT, vR]] w (Ret fun v w' => Below w.heap.size w w' ∧ v = .bool true) := by
  have o1 := h1.oneC
  have o2 := h2.oneC
  have hRo := h2.okFlat
  obtain ⟨c, hO, hc⟩ := OldC.start w
  replace h1 : RdC thgS.slice c w [0] vT Ts := Rd.toC h1 (fun k hk => by simp [hc, hasC])
  replace h2 : RdC strS c w [0] vR R := Rd.toC h2 (fun k hk => by simp [hc, hasC])
  clear hc
  refine enter (n := 159) (res := #[.tmp 2]) Try.func8 rfl rfl rfl rfl ?_
  refine cseq <| cregion ?_
  refine WR.eff (Eff.boxC c 101 rfl) rfl ?_
  rintro _ w1 ⟨b1, c1, rfl, hM1, hb1⟩
  replace hO := hO.mv hM1 rfl; replace h1 := h1.mv hM1 rfl; replace h2 := h2.mv hM1 rfl
  refine qq (Val.assign rfl) rfl <| cnil <| cseq <| cseq <| cregion <| qq (Val.loadBN agg50 rfl hb1.blk rfl) rfl ?_
  refine WR.eff (Eff.pureC c1 1 (Eff.call pf32 rfl (rheavy_ok h1.now h2.now))) rfl ?_
  rintro v25 w2 ⟨c2, hM2, hx2, rfl⟩
  replace hO := hO.mv hM2 rfl; replace h1 := h1.mv hM2 rfl; replace h2 := h2.mv hM2 rfl; replace hb1 := hb1.mv hM2 rfl
  refine cnil ?_
  refine WC.cond rfl (fun hc1 => ?_) (fun hc1 => ?_)
  ·try simp only [tstS] at hc1
   refine cseq <| cregion <| qq (Val.assign rfl) rfl <| cnil ?_
   refine WC.ret1 rfl rfl ?_
   exact ⟨hO.below, rfl⟩
  ·try simp only [tstS] at hc1
   obtain ⟨⟨hRl, hRt⟩, hlm⟩ := thinks_light (Ts := Ts) (R := R) (by omega)
   refine cskip <| cseq <| cseq <| cregion <| qq (Val.assign rfl) rfl <| cnil <| cblock ?_
   refine WC.loop (σ := Nat) (fun i => [(1, .pointer (some ⟨b1, 0, none⟩)), (3, I i)]) (fun i w' => ∃ c', OldC w c' w' ∧ RdC thgS.slice c' w' [0] vT Ts ∧ RdC strS c' w' [0] vR R ∧ BlkC c' w' 101 b1 [vT, vR] 50 ∧ i ≤ Ts.length ∧ i ≤ 6) (fun i => Ts.length - i) 0 (by repeat (first | exact Sub.nil _ | refine Sub.cons rfl ?_ | refine Sub.consM rfl ?_)) ⟨_, hO, h1, h2, hb1, by simp, by simp⟩ ?_
   clear hO h1 h2 hb1
   rintro i wl ⟨cl, hO, h1, h2, hb1, hi, hi6⟩
   have hsm := h1.now.small
   refine cseq <| cseq <| cregion <| qq (Val.move rfl) rfl ?_
   first | refine WR.val (Val.fieldAddr fld50_0 rfl) rfl ?_ | refine WR.val (Val.fieldAddrP fld50_0 rfl) rfl ?_
   refine qq (Val.loadB scl48 rfl hb1.blk rfl) rfl <| qq (Val.rdlenC sl48 h1 rfl) rfl <| qq (Val.lss rfl rfl) rfl <| qq (Val.move rfl) rfl ?_
   apply WR.sc true 2 _ (fun w' => wl = w')
   case hl => rfl
   case hg => rfl
   case hu => rfl
   case hv => rfl
   case hs => rfl
   case hoff => rfl
   case hd => rfl
   case hF => exact fun _ => rfl
   case hT =>
    intro hq8
    try simp only [tstS] at hq8
    simp only [List.take_succ_cons, List.take_zero]
    refine WR.on rfl rfl ?_
    refine qq (Val.move rfl) rfl ?_
    refine WR.on rfl rfl ?_
    refine qq (Val.lss rfl rfl) rfl ?_
    exact WR.nil ⟨rfl, Sub.drop _ 2 _ rfl rfl, rfl⟩
   rintro _ rfl
   refine cnil ?_
   refine WC.cond rfl (fun hc4 => ?_) (fun hc4 => ?_)
   ·try simp only [tstS] at hc4
    obtain ⟨hc4, hc4'⟩ := hc4
    have ka : i < Ts.length := by omega
    obtain ⟨cs1, hc40, hl1, hf1⟩ := h1.el ka (by decide)
    obtain ⟨hTl, hTx⟩ := hlm _ (List.getElem_mem ka)
    obtain ⟨va, rfl, _⟩ := hf1.now
    have ha : RdC thgS cl wl [0] va Ts[i] := fun W hs hk => by
      obtain ⟨a, e, g1⟩ := hf1 W hs hk
      simp only [List.cons.injEq, and_true] at e
      subst e; exact g1
    clear hf1
    generalize Ts[i] = T at hTl hTx ha
    have hok : ∀ x ∈ T, x.digest.length ≤ 140737488355328 ∧ x.text.length ≤ 140737488355328 := fun x hx => by have := hTx x hx; omega
    have htx : ∀ t ∈ T, t.text.length ≤ 1048576 := fun t ht => by have := hTx t ht; omega
    have hdx : ∀ t ∈ T, t.digest.length ≤ 140737488355328 := fun t ht => (hok t ht).1
    refine cskip <| cseq <| cblock <| cseq <| cregion ?_
    first | refine WR.val (Val.fieldAddr fld50_0 rfl) rfl ?_ | refine WR.val (Val.fieldAddrP fld50_0 rfl) rfl ?_
    refine qq (Val.loadB scl48 rfl hb1.blk rfl) rfl <| qq (Val.move rfl) rfl <| qq (Val.indexC sl48 h1 rfl rfl (by omega) (by omega)) rfl <| qq (Val.loadE1 scl52 rfl hc40.cel) rfl <| qq (Val.assign rfl) rfl <| cnil <| cseq <| cregion <| qq (Val.move rfl) rfl ?_
    refine WR.eff (Eff.pureC cl 5 (Eff.call pf46 rfl (copyThings_ok ha.now (by omega)))) rfl ?_
    rintro v43 w3 ⟨c3, hM3, hx3, hin⟩
    replace hO := hO.mv hM3 rfl; replace h1 := h1.mv hM3 rfl; replace h2 := h2.mv hM3 rfl; replace hb1 := hb1.mv hM3 rfl; replace hc40 := hc40.mv hM3 rfl; replace ha := ha.mv hM3 rfl
    replace hin := hin.toC hx3
    refine qq (Val.assign rfl) rfl <| cnil <| cseq <| cregion <| qq (Val.move rfl) rfl ?_
    refine WR.eff (Eff.pureC c3 1 (Eff.call pf33 rfl (pthings_ok ha.now))) rfl ?_
    rintro v45 w4 ⟨c4, hM4, hx4, rfl⟩
    replace hO := hO.mv hM4 rfl; replace h1 := h1.mv hM4 rfl; replace h2 := h2.mv hM4 rfl; replace hb1 := hb1.mv hM4 rfl; replace ha := ha.mv hM4 rfl; replace hin := hin.mv hM4 rfl
    refine qq (Val.assign rfl) rfl <| cnil <| cseq <| cregion <| qq (Val.move rfl) rfl ?_
    refine WR.eff (Eff.pureC c4 7 (Eff.call pf44 rfl (rorder_ok (hin.own.rdThgs hok (by omega))))) rfl ?_
    rintro v48 w5 ⟨c5, hM5, hx5, ⟨vo, rfl, hoo⟩⟩
    replace hO := hO.mv hM5 rfl; replace h1 := h1.mv hM5 rfl; replace h2 := h2.mv hM5 rfl; replace hb1 := hb1.mv hM5 rfl; replace ha := ha.mv hM5 rfl; replace hin := hin.mv hM5 rfl
    replace hoo := hoo.toC hx5
    have hox := ordX_len T
    refine qq (Val.move rfl) rfl <| qq (Val.extract rfl rfl) rfl <| qq (Val.extract rfl rfl) rfl <| qq (Val.assign rfl) rfl <| qq (Val.assign rfl) rfl <| cnil <| cseq <| cregion <| qq (Val.assign rfl) rfl ?_
    refine cnil <| cseq <| cregion <| qq (Val.assign rfl) rfl <| cnil <| cseq <| cseq <| cregion <| qq (Val.move rfl) rfl ?_
    refine cnil ?_
    refine WC.mono (N := fun e w' => ∃ c' vw, Sub [(4000000, .tuple #[]), (1, .pointer (some ⟨b1, 0, none⟩)), (3, I i), (4, va), (5, v43), (6, .bool (thgsMay T)), (7, vo), (8, I (ordE T)), (9, I (ordE T)), (10, vw)] e ∧ TSt w vT vR Ts R va v43 T b1 c' w' ∧ OwnC c' w' 7 9 1 vo (ordX T).length ((ordX T).flatMap fun x => [St x]) ∧ RdC strS c' w' [8] vw (ordX T)) ?_ ?_
    ·refine WC.cond rfl (fun hc12 => ?_) (fun hc12 => ?_)
     ·try simp only [tstS] at hc12
      refine cseq <| cregion <| qq (Val.assign rfl) rfl <| cnil <| cseq <| cregion <| qq (Val.move rfl) rfl ?_
      refine WR.eff (Eff.pureC c5 8 (Eff.call pf47 rfl (porder_ok ha.now hc12))) rfl ?_
      rintro v54 w6 ⟨c6, hM6, hx6, ⟨vx, rfl, hxo⟩⟩
      replace hO := hO.mv hM6 rfl; replace h1 := h1.mv hM6 rfl; replace h2 := h2.mv hM6 rfl; replace hb1 := hb1.mv hM6 rfl; replace ha := ha.mv hM6 rfl; replace hin := hin.mv hM6 rfl; replace hoo := hoo.mv hM6 rfl
      replace hxo := hxo.toC hx6
      refine qq (Val.move rfl) rfl <| qq (Val.extract rfl rfl) rfl <| qq (Val.extract rfl rfl) rfl <| qq (Val.assign rfl) rfl <| qq (Val.assign rfl) rfl <| cnil <| cseq <| cregion <| qq (Val.move rfl) rfl ?_
      refine cnil ?_
      refine WC.cond rfl (fun hc15 => ?_) (fun hc15 => ?_)
      ·try simp only [tstS] at hc15
       have he : ordE T = 0 ∧ ordX T = (orderT T).getD [] := by rw [ordE, ordX, hc12, hc15]; exact ⟨rfl, rfl⟩
       refine cregion <| qq (Val.move rfl) rfl <| qq (Val.assign rfl) rfl <| qq (Val.assign rfl) rfl <| cnil ?_
       have hok2 := orderGo_texts hdx
       first
       | (rw [he.1]
          rw [← he.2] at hxo
          exact ⟨_, _, (by repeat (first | exact Sub.nil _ | refine Sub.cons rfl ?_ | refine Sub.consM rfl ?_)), ⟨hO, h1, h2, hb1, ha, hin⟩, hoo, hxo.rdFlat (by omega) hok2⟩)
       | (rw [he.1]
          exact ⟨_, _, (by repeat (first | exact Sub.nil _ | refine Sub.cons rfl ?_ | refine Sub.consM rfl ?_)), ⟨hO, h1, h2, hb1, ha, hin⟩, hoo, by rw [he.2]; exact nilC⟩)
      ·try simp only [tstS] at hc15
       have he : ordE T = 7 ∧ ordX T = [] := by
         rw [ordE, ordX, hc12, hc15]
         refine ⟨rfl, ?_⟩
         cases ho : orderT T with
         | none => rfl
         | some x => rw [ho] at hc15; cases hc15
       refine cskip ?_
       have hok2 := orderGo_texts hdx
       first
       | (rw [he.1]
          rw [← he.2] at hxo
          exact ⟨_, _, (by repeat (first | exact Sub.nil _ | refine Sub.cons rfl ?_ | refine Sub.consM rfl ?_)), ⟨hO, h1, h2, hb1, ha, hin⟩, hoo, hxo.rdFlat (by omega) hok2⟩)
       | (rw [he.1]
          exact ⟨_, _, (by repeat (first | exact Sub.nil _ | refine Sub.cons rfl ?_ | refine Sub.consM rfl ?_)), ⟨hO, h1, h2, hb1, ha, hin⟩, hoo, by rw [he.2]; exact nilC⟩)
     ·try simp only [tstS] at hc12
      refine cskip ?_
      have he : ordE T = 1 ∧ ordX T = [] := by rw [ordE, ordX, hc12]; exact ⟨rfl, rfl⟩
      rw [he.1]
      exact ⟨_, _, (by repeat (first | exact Sub.nil _ | refine Sub.cons rfl ?_ | refine Sub.consM rfl ?_)), ⟨hO, h1, h2, hb1, ha, hin⟩, hoo, by rw [he.2]; exact nilC⟩
    ·skip
     rintro e8 w8' ⟨c8', vw, hsub, ⟨hO, h1, h2, hb1, ha, hin⟩, hoo, hW⟩
     refine WC.sub hsub ?_
     clear hsub e8
     have hok2 := orderGo_texts hdx
     refine cseq <| cseq <| cregion <| qq (Val.move rfl) rfl ?_
     refine WR.eff (Eff.pureC c8' 1 (Eff.call pf48 rfl (rcheck_ok (hin.own.rdThgs hok (by omega))))) rfl ?_
     rintro v60 w7 ⟨c7, hM7, hx7, rfl⟩
     replace hO := hO.mv hM7 rfl; replace h1 := h1.mv hM7 rfl; replace h2 := h2.mv hM7 rfl; replace hb1 := hb1.mv hM7 rfl; replace ha := ha.mv hM7 rfl; replace hin := hin.mv hM7 rfl; replace hoo := hoo.mv hM7 rfl; replace hW := hW.mv hM7 rfl
     refine WR.eff (Eff.pureC c7 1 (Eff.call pf36 rfl (rnum_ok _))) rfl ?_
     rintro v61 w8 ⟨c8, hM8, hx8, rfl⟩
     replace hO := hO.mv hM8 rfl; replace h1 := h1.mv hM8 rfl; replace h2 := h2.mv hM8 rfl; replace hb1 := hb1.mv hM8 rfl; replace ha := ha.mv hM8 rfl; replace hin := hin.mv hM8 rfl; replace hoo := hoo.mv hM8 rfl; replace hW := hW.mv hM8 rfl
     refine qq (Val.eql rfl rfl) rfl <| qq (Val.move rfl) rfl <| qq (Val.bneq Try.underlying4 rfl rfl) rfl ?_
     rw [eqe]
     refine qq (Val.move rfl) rfl ?_
     refine WR.onEq rfl rfl rfl ?_
     refine qq (Val.move rfl) rfl ?_
     refine WR.onEq rfl rfl rfl ?_
     refine WR.eff (Eff.pureC c8 1 (Eff.call pf36 rfl (rnum_ok _))) rfl ?_
     rintro v67 w9 ⟨c9, hM9, hx9, rfl⟩
     replace hO := hO.mv hM9 rfl; replace h1 := h1.mv hM9 rfl; replace h2 := h2.mv hM9 rfl; replace hb1 := hb1.mv hM9 rfl; replace ha := ha.mv hM9 rfl; replace hin := hin.mv hM9 rfl; replace hoo := hoo.mv hM9 rfl; replace hW := hW.mv hM9 rfl
     refine WR.onEq rfl rfl rfl ?_
     refine qq (Val.move rfl) rfl ?_
     refine WR.onEq rfl rfl rfl ?_
     refine qq (Val.neq rfl rfl) rfl ?_
     rw [decide_eq_true rfl]
     refine WR.pickOn (by rfl) rfl rfl rfl ?_
     refine qq (Val.move rfl) rfl ?_
     refine WR.onEq rfl rfl rfl ?_
     refine qq (Val.move rfl) rfl ?_
     refine WR.onEq rfl rfl rfl ?_
     refine qq (Val.move rfl) rfl ?_
     refine WR.onEq rfl rfl rfl ?_
     refine WR.eff (Eff.pureC c9 1 (Eff.call pf37 rfl (eqStrings_ok (hoo.own.rdStrs hok2 (by omega)) hW.now))) rfl ?_
     rintro v74 w10 ⟨c10, hM10, hx10, rfl⟩
     replace hO := hO.mv hM10 rfl; replace h1 := h1.mv hM10 rfl; replace h2 := h2.mv hM10 rfl; replace hb1 := hb1.mv hM10 rfl; replace ha := ha.mv hM10 rfl; replace hin := hin.mv hM10 rfl; replace hoo := hoo.mv hM10 rfl; replace hW := hW.mv hM10 rfl
     rw [decide_eq_true rfl]
     refine WR.onEq rfl rfl rfl ?_
     refine qq (Val.not rfl) rfl ?_
     refine WR.pickOn (by rfl) rfl rfl rfl ?_
     refine cnil ?_
     refine WC.cond_false rfl ?_
     refine cskip <| cseq <| cregion <| qq (Val.assign rfl) rfl <| cnil <| cblock ?_
     refine WC.loop (σ := Nat) (fun by_ => [(1, .pointer (some ⟨b1, 0, none⟩)), (3, I i), (4, va), (5, v43), (6, .bool (thgsMay T)), (13, I by_)]) (fun by_ w' => ∃ c', TSt w vT vR Ts R va v43 T b1 c' w' ∧ by_ ≤ 3) (fun by_ => 3 - by_) 0 (by repeat (first | exact Sub.nil _ | refine Sub.cons rfl ?_ | refine Sub.consM rfl ?_)) ⟨_, ⟨hO, h1, h2, hb1, ha, hin⟩, by omega⟩ ?_
     clear hO h1 h2 hb1 ha hin hoo hW
     rintro by_ wb ⟨cb, ⟨hO, h1, h2, hb1, ha, hin⟩, hby⟩
     have hrl := rootsT_len T R by_
     have hrx : ∀ x ∈ rootsT T R by_, x.length ≤ 140737488355328 := rootsT_texts hdx hRo
     have hfl := fromUpTo_len T (rootsT T R by_) T.length
     have hfx : ∀ x ∈ fromT T (rootsT T R by_), x.length ≤ 140737488355328 := fromT_texts hdx
     have hft : fromUpTo T (rootsT T R by_) T.length = fromT T (rootsT T R by_) := rfl
     rw [hft] at hfl
     generalize hD : (if thgsMay T = true then fromT T (rootsT T R by_) else []) = D
     have hDl : D.length ≤ 9000 := by rw [← hD]; exact ifl_len (by omega)
     have hDx : ∀ x ∈ D, x.length ≤ 140737488355328 := by rw [← hD]; exact ifl_mem hfx
     refine cseq <| cseq <| cregion <| qq (Val.move rfl) rfl <| qq (Val.lss rfl rfl) rfl <| cnil ?_
     refine WC.cond rfl (fun hc20 => ?_) (fun hc20 => ?_)
     ·try simp only [tstS] at hc20
      have kb : by_ < 3 := by omega
      refine cskip <| cseq <| cblock <| cseq <| cregion <| qq (Val.move rfl) rfl ?_
      first | refine WR.val (Val.fieldAddr fld50_1 rfl) rfl ?_ | refine WR.val (Val.fieldAddrP fld50_1 rfl) rfl ?_
      refine qq (Val.loadB scl23 rfl hb1.blk rfl) rfl <| qq (Val.move rfl) rfl ?_
      refine WR.eff (Eff.pureC cb 14 (Eff.call pf34 rfl (roots_ok ha.now h2.now by_ (by omega) (by omega) (by omega)))) rfl ?_
      rintro v85 w11 ⟨c11, hM11, hx11, hro⟩
      replace hO := hO.mv hM11 rfl; replace h1 := h1.mv hM11 rfl; replace h2 := h2.mv hM11 rfl; replace hb1 := hb1.mv hM11 rfl; replace ha := ha.mv hM11 rfl; replace hin := hin.mv hM11 rfl
      replace hro := hro.toC hx11
      refine qq (Val.assign rfl) rfl <| cnil <| cseq <| cregion <| qq (Val.move rfl) rfl ?_
      refine WR.eff (Eff.pureC c11 15 (Eff.call pf15 rfl (copyStrings_ok (hro.own.rdStrs hrx (by omega)) (by omega)))) rfl ?_
      rintro v87 w12 ⟨c12, hM12, hx12, hrs⟩
      replace hO := hO.mv hM12 rfl; replace h1 := h1.mv hM12 rfl; replace h2 := h2.mv hM12 rfl; replace hb1 := hb1.mv hM12 rfl; replace ha := ha.mv hM12 rfl; replace hin := hin.mv hM12 rfl; replace hro := hro.mv hM12 rfl
      replace hrs := hrs.toC hx12
      obtain ⟨A15, q15, rfl, _, hA15⟩ := hrs.own.formA
      have hpl : PlainV (.slice A15 (rootsT T R by_).length q15) := ⟨_, _, _, rfl, hA15⟩
      refine qq (Val.assign rfl) rfl <| cnil <| cseq <| cregion <| qq (Val.move rfl) rfl <| qq (Val.move rfl) rfl ?_
      refine WR.eff (Eff.pureC c12 16 (Eff.call pf35 rfl (rfrom_ok (hin.own.rdThgs hok (by omega)) (hrs.own.rdStrs hrx (by omega)) hpl (by omega)))) rfl ?_
      rintro v91 w13 ⟨c13, hM13, hx13, ⟨vx, rfl, hxo⟩⟩
      replace hO := hO.mv hM13 rfl; replace h1 := h1.mv hM13 rfl; replace h2 := h2.mv hM13 rfl; replace hb1 := hb1.mv hM13 rfl; replace ha := ha.mv hM13 rfl; replace hin := hin.mv hM13 rfl; replace hro := hro.mv hM13 rfl; replace hrs := hrs.mv hM13 rfl
      replace hxo := hxo.toC hx13
      rw [hD] at hxo
      refine qq (Val.move rfl) rfl <| qq (Val.extract rfl rfl) rfl <| qq (Val.extract rfl rfl) rfl <| qq (Val.assign rfl) rfl <| qq (Val.assign rfl) rfl <| cnil <| cseq <| cregion <| qq (Val.assign rfl) rfl ?_
      refine cnil <| cseq <| cregion <| qq (Val.assign rfl) rfl <| cnil <| cseq <| cseq <| cregion <| qq (Val.move rfl) rfl ?_
      refine cnil ?_
      refine WC.mono (N := fun e w' => ∃ c' vd, Sub [(4000000, .tuple #[]), (1, .pointer (some ⟨b1, 0, none⟩)), (3, I i), (4, va), (5, v43), (6, .bool (thgsMay T)), (13, I by_), (14, v85), (15, .slice A15 (rootsT T R by_).length q15), (16, vx), (17, I (if thgsMay T = true then 0 else 1)), (18, I (if thgsMay T = true then 0 else 1)), (19, vd)] e ∧ TSt w vT vR Ts R va v43 T b1 c' w' ∧ OwnC c' w' 14 9 1 v85 (rootsT T R by_).length ((rootsT T R by_).flatMap fun x => [St x]) ∧ OwnC c' w' 15 9 1 (.slice A15 (rootsT T R by_).length q15) (rootsT T R by_).length ((rootsT T R by_).flatMap fun x => [St x]) ∧ OwnC c' w' 16 9 1 vx D.length (D.flatMap fun x => [St x]) ∧ RdC strS c' w' [19] vd D) ?_ ?_
      ·refine WC.cond rfl (fun hc27 => ?_) (fun hc27 => ?_)
       ·try simp only [tstS] at hc27
        refine cregion <| qq (Val.move rfl) rfl <| qq (Val.move rfl) rfl ?_
        refine WR.eff (Eff.pureC c13 19 (Eff.call pf49 rfl (pfrom_ok ha.now (hro.own.rdStrs hrx (by omega)) htx (by omega) (by omega)))) rfl ?_
        rintro v97 w14 ⟨c14, hM14, hx14, hd⟩
        replace hO := hO.mv hM14 rfl; replace h1 := h1.mv hM14 rfl; replace h2 := h2.mv hM14 rfl; replace hb1 := hb1.mv hM14 rfl; replace ha := ha.mv hM14 rfl; replace hin := hin.mv hM14 rfl; replace hro := hro.mv hM14 rfl; replace hrs := hrs.mv hM14 rfl; replace hxo := hxo.mv hM14 rfl
        replace hd := hd.toC hx14
        refine qq (Val.assign rfl) rfl <| qq (Val.assign rfl) rfl <| cnil ?_
        rw [hc27, if_pos rfl] at hD ⊢
        rw [hD] at hd
        exact ⟨_, _, (by repeat (first | exact Sub.nil _ | refine Sub.cons rfl ?_ | refine Sub.consM rfl ?_)), ⟨hO, h1, h2, hb1, ha, hin⟩, hro, hrs, hxo, hd.rdFlat (by omega) hDx⟩
       ·try simp only [tstS] at hc27
        refine cskip ?_
        rw [hc27, if_neg (by decide)] at hD ⊢
        exact ⟨_, _, (by repeat (first | exact Sub.nil _ | refine Sub.cons rfl ?_ | refine Sub.consM rfl ?_)), ⟨hO, h1, h2, hb1, ha, hin⟩, hro, hrs, hxo, by rw [← hD]; exact nilC⟩
      ·skip
       rintro e9 w9' ⟨c9', vd, hsub, ⟨hO, h1, h2, hb1, ha, hin⟩, hro, hrs, hxo, hdd⟩
       refine WC.sub hsub ?_
       clear hsub e9
       refine cseq <| cseq <| cregion <| qq (Val.move rfl) rfl ?_
       refine WR.eff (Eff.pureC c9' 1 (Eff.call pf36 rfl (rnum_ok _))) rfl ?_
       rintro v99 w15 ⟨c15, hM15, hx15, rfl⟩
       replace hO := hO.mv hM15 rfl; replace h1 := h1.mv hM15 rfl; replace h2 := h2.mv hM15 rfl; replace hb1 := hb1.mv hM15 rfl; replace ha := ha.mv hM15 rfl; replace hin := hin.mv hM15 rfl; replace hro := hro.mv hM15 rfl; replace hrs := hrs.mv hM15 rfl; replace hxo := hxo.mv hM15 rfl; replace hdd := hdd.mv hM15 rfl
       refine qq (Val.move rfl) rfl <| qq (Val.neq rfl rfl) rfl ?_
       rw [decide_eq_true rfl]
       refine qq (Val.move rfl) rfl ?_
       refine WR.onEq rfl rfl rfl ?_
       refine qq (Val.move rfl) rfl ?_
       refine WR.onEq rfl rfl rfl ?_
       refine qq (Val.move rfl) rfl ?_
       refine WR.onEq rfl rfl rfl ?_
       refine WR.eff (Eff.pureC c15 1 (Eff.call pf37 rfl (eqStrings_ok (hxo.own.rdStrs hDx (by omega)) hdd.now))) rfl ?_
       rintro v105 w16 ⟨c16, hM16, hx16, rfl⟩
       replace hO := hO.mv hM16 rfl; replace h1 := h1.mv hM16 rfl; replace h2 := h2.mv hM16 rfl; replace hb1 := hb1.mv hM16 rfl; replace ha := ha.mv hM16 rfl; replace hin := hin.mv hM16 rfl; replace hro := hro.mv hM16 rfl; replace hrs := hrs.mv hM16 rfl; replace hxo := hxo.mv hM16 rfl; replace hdd := hdd.mv hM16 rfl
       rw [decide_eq_true rfl]
       refine WR.onEq rfl rfl rfl ?_
       refine qq (Val.not rfl) rfl ?_
       refine WR.pickOn (by rfl) rfl rfl rfl ?_
       refine qq (Val.move rfl) rfl ?_
       refine WR.onEq rfl rfl rfl ?_
       refine qq (Val.move rfl) rfl ?_
       refine WR.onEq rfl rfl rfl ?_
       refine qq (Val.move rfl) rfl ?_
       refine WR.onEq rfl rfl rfl ?_
       refine WR.eff (Eff.pureC c16 1 (Eff.call pf37 rfl (eqStrings_ok (hrs.own.rdStrs hrx (by omega)) (hro.own.rdStrs hrx (by omega))))) rfl ?_
       rintro v111 w17 ⟨c17, hM17, hx17, rfl⟩
       replace hO := hO.mv hM17 rfl; replace h1 := h1.mv hM17 rfl; replace h2 := h2.mv hM17 rfl; replace hb1 := hb1.mv hM17 rfl; replace ha := ha.mv hM17 rfl; replace hin := hin.mv hM17 rfl; replace hro := hro.mv hM17 rfl; replace hrs := hrs.mv hM17 rfl; replace hxo := hxo.mv hM17 rfl; replace hdd := hdd.mv hM17 rfl
       rw [decide_eq_true rfl]
       refine WR.onEq rfl rfl rfl ?_
       refine qq (Val.not rfl) rfl ?_
       refine WR.pickOn (by rfl) rfl rfl rfl ?_
       refine qq (Val.move rfl) rfl ?_
       refine WR.onEq rfl rfl rfl ?_
       refine qq (Val.move rfl) rfl ?_
       refine WR.onEq rfl rfl rfl ?_
       refine qq (Val.move rfl) rfl ?_
       refine WR.onEq rfl rfl rfl ?_
       refine WR.eff (Eff.pureC c17 1 (Eff.call pf50 rfl (eqThings_ok (hin.own.rdThgs hok (by omega)) ha.now))) rfl ?_
       rintro v117 w18 ⟨c18, hM18, hx18, rfl⟩
       replace hO := hO.mv hM18 rfl; replace h1 := h1.mv hM18 rfl; replace h2 := h2.mv hM18 rfl; replace hb1 := hb1.mv hM18 rfl; replace ha := ha.mv hM18 rfl; replace hin := hin.mv hM18 rfl; replace hro := hro.mv hM18 rfl; replace hrs := hrs.mv hM18 rfl; replace hxo := hxo.mv hM18 rfl; replace hdd := hdd.mv hM18 rfl
       rw [decide_eq_true rfl]
       refine WR.onEq rfl rfl rfl ?_
       refine qq (Val.not rfl) rfl ?_
       refine WR.pickOn (by rfl) rfl rfl rfl ?_
       refine cnil ?_
       refine WC.cond_false rfl ?_
       refine cskip <| cseq <| cseq <| cregion <| qq (Val.assign rfl) rfl <| cnil <| cblock ?_
       refine WC.loop (σ := Nat) (fun k => [(1, .pointer (some ⟨b1, 0, none⟩)), (3, I i), (4, va), (5, v43), (6, .bool (thgsMay T)), (13, I by_), (14, v85), (16, vx), (18, I (if thgsMay T = true then 0 else 1)), (20, I k)]) (fun k w' => ∃ c', TSt w vT vR Ts R va v43 T b1 c' w' ∧ OwnC c' w' 14 9 1 v85 (rootsT T R by_).length ((rootsT T R by_).flatMap fun x => [St x]) ∧ OwnC c' w' 16 9 1 vx D.length (D.flatMap fun x => [St x]) ∧ k ≤ (rootsT T R by_).length) (fun k => (rootsT T R by_).length - k) 0 (by repeat (first | exact Sub.nil _ | refine Sub.cons rfl ?_ | refine Sub.consM rfl ?_)) ⟨_, ⟨hO, h1, h2, hb1, ha, hin⟩, hro, hxo, by omega⟩ ?_
       clear hO h1 h2 hb1 ha hin hro hrs hxo hdd
       rintro k wk ⟨ck, ⟨hO, h1, h2, hb1, ha, hin⟩, hro, hxo, hkl⟩
       refine cseq <| cseq <| cregion <| qq (Val.move rfl) rfl <| qq (Val.move rfl) rfl <| qq (Val.olen sl23 hro rfl) rfl <| qq (Val.lss rfl rfl) rfl <| qq (Val.move rfl) rfl ?_
       apply WR.sc true 2 _ (fun w' => wk = w')
       case hl => rfl
       case hg => rfl
       case hu => rfl
       case hv => rfl
       case hs => rfl
       case hoff => rfl
       case hd => rfl
       case hF => exact fun _ => rfl
       case hT =>
        intro hq7
        try simp only [tstS] at hq7
        simp only [List.take_succ_cons, List.take_zero]
        refine WR.on rfl rfl ?_
        refine qq (Val.move rfl) rfl ?_
        refine WR.on rfl rfl ?_
        refine qq (Val.lss rfl rfl) rfl ?_
        exact WR.nil ⟨rfl, Sub.drop _ 2 _ rfl rfl, rfl⟩
       rintro _ rfl
       refine cnil ?_
       refine WC.cond rfl (fun hc32 => ?_) (fun hc32 => ?_)
       ·try simp only [tstS] at hc32
        obtain ⟨hc32, hc32'⟩ := hc32
        have kr : k < (rootsT T R by_).length := by omega
        have hRo14 : RdC strS ck wk [14] v85 (rootsT T R by_) := hro.rdFlat (by omega) hrx
        obtain ⟨hc134, _⟩ := RdC.elFlat hRo14 kr (by decide)
        have hc143 := hc134
        generalize hU : (if thgsMay T = true then usersT T (rootsT T R by_)[k] else []) = U
        have hUl0 := usersT_len T (rootsT T R by_)[k]
        have hUx0 : ∀ x ∈ usersT T (rootsT T R by_)[k], x.length ≤ 140737488355328 := usersT_texts hdx
        have hUl : U.length ≤ 9000 := by rw [← hU]; exact ifl_len (by omega)
        have hUx : ∀ x ∈ U, x.length ≤ 140737488355328 := by rw [← hU]; exact ifl_mem hUx0
        refine cskip <| cseq <| cblock <| cseq <| cregion <| qq (Val.move rfl) rfl <| qq (Val.move rfl) rfl <| qq (Val.move rfl) rfl <| qq (Val.indexAddr sl23 hRo14.now rfl rfl rfl (by omega) (by omega)) rfl ?_
        refine qq (Val.loadE1 scl9 rfl hc134.cel) rfl ?_
        refine WR.eff (Eff.pureC ck 21 (Eff.call pf45 rfl (rusers_ok (hin.own.rdThgs hok (by omega))))) rfl ?_
        rintro v136 w19 ⟨c19, hM19, hx19, ⟨vu, rfl, huo⟩⟩
        replace hO := hO.mv hM19 rfl; replace h1 := h1.mv hM19 rfl; replace h2 := h2.mv hM19 rfl; replace hb1 := hb1.mv hM19 rfl; replace ha := ha.mv hM19 rfl; replace hin := hin.mv hM19 rfl; replace hro := hro.mv hM19 rfl; replace hxo := hxo.mv hM19 rfl; replace hRo14 := hRo14.mv hM19 rfl; replace hc134 := hc134.mv hM19 rfl; replace hc143 := hc143.mv hM19 rfl
        replace huo := huo.toC hx19
        rw [hU] at huo
        refine qq (Val.move rfl) rfl <| qq (Val.extract rfl rfl) rfl <| qq (Val.extract rfl rfl) rfl <| qq (Val.assign rfl) rfl <| qq (Val.assign rfl) rfl <| cnil <| cseq <| cregion <| qq (Val.assign rfl) rfl ?_
        refine cnil <| cseq <| cseq <| cregion <| qq (Val.move rfl) rfl <| cnil ?_
        refine WC.mono (N := fun e w' => ∃ c' vd, Sub [(4000000, .tuple #[]), (1, .pointer (some ⟨b1, 0, none⟩)), (3, I i), (4, va), (5, v43), (6, .bool (thgsMay T)), (13, I by_), (14, v85), (16, vx), (18, I (if thgsMay T = true then 0 else 1)), (20, I k), (21, vu), (22, I (if thgsMay T = true then 0 else 1)), (23, vd)] e ∧ TSt w vT vR Ts R va v43 T b1 c' w' ∧ OwnC c' w' 14 9 1 v85 (rootsT T R by_).length ((rootsT T R by_).flatMap fun x => [St x]) ∧ OwnC c' w' 16 9 1 vx D.length (D.flatMap fun x => [St x]) ∧ OwnC c' w' 21 9 1 vu U.length (U.flatMap fun x => [St x]) ∧ RdC strS c' w' [23] vd U) ?_ ?_
        ·refine WC.cond rfl (fun hc36 => ?_) (fun hc36 => ?_)
         ·try simp only [tstS] at hc36
          refine cregion <| qq (Val.move rfl) rfl <| qq (Val.move rfl) rfl <| qq (Val.move rfl) rfl <| qq (Val.indexAddr sl23 hRo14.now rfl rfl rfl (by omega) (by omega)) rfl <| qq (Val.loadE1 scl9 rfl hc143.cel) rfl ?_
          refine WR.eff (Eff.pureC c19 23 (Eff.call pf51 rfl (pusers_ok ha.now htx (by omega)))) rfl ?_
          rintro v145 w20 ⟨c20, hM20, hx20, hd⟩
          replace hO := hO.mv hM20 rfl; replace h1 := h1.mv hM20 rfl; replace h2 := h2.mv hM20 rfl; replace hb1 := hb1.mv hM20 rfl; replace ha := ha.mv hM20 rfl; replace hin := hin.mv hM20 rfl; replace hro := hro.mv hM20 rfl; replace hxo := hxo.mv hM20 rfl; replace hRo14 := hRo14.mv hM20 rfl; replace hc134 := hc134.mv hM20 rfl; replace hc143 := hc143.mv hM20 rfl; replace huo := huo.mv hM20 rfl
          replace hd := hd.toC hx20
          refine qq (Val.assign rfl) rfl <| cnil ?_
          rw [hc36, if_pos rfl] at hU ⊢
          rw [hU] at hd
          exact ⟨_, _, (by repeat (first | exact Sub.nil _ | refine Sub.cons rfl ?_ | refine Sub.consM rfl ?_)), ⟨hO, h1, h2, hb1, ha, hin⟩, hro, hxo, huo, hd.rdFlat (by omega) hUx⟩
         ·try simp only [tstS] at hc36
          refine cskip ?_
          rw [hc36, if_neg (by decide)] at hU ⊢
          exact ⟨_, _, (by repeat (first | exact Sub.nil _ | refine Sub.cons rfl ?_ | refine Sub.consM rfl ?_)), ⟨hO, h1, h2, hb1, ha, hin⟩, hro, hxo, huo, by rw [← hU]; exact nilC⟩
        ·skip
         rintro e10 w10' ⟨c10', vd, hsub, ⟨hO, h1, h2, hb1, ha, hin⟩, hro, hxo, huo, hdd⟩
         refine WC.sub hsub ?_
         clear hsub e10
         refine cseq <| cregion <| qq (Val.move rfl) rfl ?_
         refine WR.eff (Eff.pureC c10' 1 (Eff.call pf36 rfl (rnum_ok _))) rfl ?_
         rintro v147 w21 ⟨c21, hM21, hx21, rfl⟩
         replace hO := hO.mv hM21 rfl; replace h1 := h1.mv hM21 rfl; replace h2 := h2.mv hM21 rfl; replace hb1 := hb1.mv hM21 rfl; replace ha := ha.mv hM21 rfl; replace hin := hin.mv hM21 rfl; replace hro := hro.mv hM21 rfl; replace hxo := hxo.mv hM21 rfl; replace huo := huo.mv hM21 rfl; replace hdd := hdd.mv hM21 rfl
         refine qq (Val.move rfl) rfl <| qq (Val.neq rfl rfl) rfl ?_
         rw [decide_eq_true rfl]
         refine qq (Val.move rfl) rfl ?_
         refine WR.onEq rfl rfl rfl ?_
         refine qq (Val.move rfl) rfl ?_
         refine WR.onEq rfl rfl rfl ?_
         refine qq (Val.move rfl) rfl ?_
         refine WR.onEq rfl rfl rfl ?_
         refine WR.eff (Eff.pureC c21 1 (Eff.call pf37 rfl (eqStrings_ok (huo.own.rdStrs hUx (by omega)) hdd.now))) rfl ?_
         rintro v153 w22 ⟨c22, hM22, hx22, rfl⟩
         replace hO := hO.mv hM22 rfl; replace h1 := h1.mv hM22 rfl; replace h2 := h2.mv hM22 rfl; replace hb1 := hb1.mv hM22 rfl; replace ha := ha.mv hM22 rfl; replace hin := hin.mv hM22 rfl; replace hro := hro.mv hM22 rfl; replace hxo := hxo.mv hM22 rfl; replace huo := huo.mv hM22 rfl; replace hdd := hdd.mv hM22 rfl
         rw [decide_eq_true rfl]
         refine WR.onEq rfl rfl rfl ?_
         refine qq (Val.not rfl) rfl ?_
         refine WR.pickOn (by rfl) rfl rfl rfl ?_
         refine cnil ?_
         refine WC.cond_false rfl ?_
         refine cskip <| cregion <| qq (Val.move rfl) rfl <| qq (Val.addI rfl rfl (by first | omega | assumption | (simp; omega) | (simp; done)) (by first | omega | assumption | (simp; omega) | (simp; done))) rfl <| qq (Val.assign rfl) rfl <| cnil ?_
         exact ⟨k + 1, (by repeat (first | exact Sub.nil _ | refine Sub.cons rfl ?_ | refine Sub.consM rfl ?_)), ⟨_, ⟨hO, h1, h2, hb1, ha, hin⟩, hro, hxo, kr⟩, by omega⟩
       ·try simp only [tstS] at hc32
        refine WC.exit rfl ?_
        refine cregion <| qq (Val.move rfl) rfl ?_
        refine WR.eff (Eff.grownO hxo (Eff.call pf31 rfl (rspoil_ok hxo.own (by omega)))) rfl ?_
        rintro v157 w23 ⟨c23, hM23, _, _⟩
        replace hO := hO.mv hM23 rfl; replace h1 := h1.mv hM23 rfl; replace h2 := h2.mv hM23 rfl; replace hb1 := hb1.mv hM23 rfl; replace ha := ha.mv hM23 rfl; replace hin := hin.mv hM23 rfl; replace hro := hro.mv hM23 rfl
        refine cnil <| cregion <| qq (Val.move rfl) rfl <| qq (Val.addI rfl rfl (by first | omega | assumption | (simp; omega) | (simp; done)) (by first | omega | assumption | (simp; omega) | (simp; done))) rfl <| qq (Val.assign rfl) rfl <| cnil ?_
        exact ⟨by_ + 1, (by repeat (first | exact Sub.nil _ | refine Sub.cons rfl ?_ | refine Sub.consM rfl ?_)), ⟨_, ⟨hO, h1, h2, hb1, ha, hin⟩, kb⟩, by omega⟩
     ·try simp only [tstS] at hc20
      refine WC.exit rfl ?_
      refine cregion <| qq (Val.move rfl) rfl <| qq (Val.addI rfl rfl (by first | omega | assumption | (simp; omega) | (simp; done)) (by first | omega | assumption | (simp; omega) | (simp; done))) rfl <| qq (Val.assign rfl) rfl <| cnil ?_
      exact ⟨i + 1, (by repeat (first | exact Sub.nil _ | refine Sub.cons rfl ?_ | refine Sub.consM rfl ?_)), ⟨_, hO, h1, h2, hb1, ka, by omega⟩, by omega⟩
   ·try simp only [tstS] at hc4
    skip
    refine WC.exit rfl ?_
    refine cseq <| cregion ?_
    refine WR.eff (Eff.pureC cl 1 (Eff.call pf41 rfl (rwakes_ok))) rfl ?_
    rintro v158 w24 ⟨c24, hM24, hx24, rfl⟩
    replace hO := hO.mv hM24 rfl
    refine qq (Val.assign rfl) rfl <| cnil ?_
    refine WC.ret1 rfl rfl ?_
    exact ⟨hO.below, rfl⟩
end Go.Proofs.Ytnddlhjafkhdoaa
