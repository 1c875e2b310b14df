/- Manifests: sorted. No condition. -/
import Derived.Test.YtnddlhjafkhdoaaMan8
set_option linter.unusedSimpArgs false
set_option linter.unusedVariables false
set_option maxRecDepth 100000
namespace Silo
open Go Go.Eng
def all32 (l : List (List UInt8)) : Bool := l.all fun x => decide (x.length = 32)
def manSort (m : Man) : Man × Int :=
  if all32 m.blobs && all32 m.subs && (decide (0 ≤ m.kind) && decide (m.kind ≤ 255)) then
    (if (riseS m.blobs).length + (riseS m.subs).length ≤ 20 then (⟨m.kind, riseS m.blobs, riseS m.subs⟩, 0) else (man0, 2)) else (man0, 1)
end Silo
namespace Go.Proofs.Ytnddlhjafkhdoaa
open Go Go.Eng Go.RowKit Silo TryT

theorem msorted_ok {w : World} {v : Value} {l : List (List UInt8)} (h : Rd strS w v l) (hp : PlainV v) (hl : l.length ≤ 1048576) :
    Calls Try.prog 77 #[v] w (Ret fun v' w' => Below w.heap.size w w' ∧ ∃ u, v' = .tuple #[u, .bool (all32 l)] ∧ Own w' w.heap.size 9 1 u (riseS l).length ((riseS l).flatMap fun x => [St x])) := by
  obtain ⟨c, hO, hc⟩ := OldC.start w
  clear hc
  have hok := h.okFlat
  refine enter (n := 13) (res := #[.tmp 2, .tmp 3]) Try.func77 rfl rfl rfl rfl ?_
  refine cseq <| cregion <| qq (Val.assign rfl) rfl <| qq (Val.assign rfl) rfl <| cnil <| cseq <| cregion <| qq (Val.move rfl) rfl ?_
  refine WR.eff (Eff.pureC c 7 (Eff.call pf76 rfl (cloneStrs_ok h hp (by omega)))) rfl ?_
  rintro v5 w1 ⟨c1, hM1, hx1, ho⟩
  replace hO := hO.mv hM1 rfl
  replace ho := ho.toC hx1
  refine qq (Val.assign rfl) rfl <| cnil <| cseq <| cregion <| qq (Val.move rfl) rfl ?_
  refine WR.eff (Eff.grownO ho (Eff.call pf117 rfl (sortStrs_ok ho.own (by omega)))) rfl ?_
  rintro v7 w2 ⟨c2, hM2, hcol, ho2⟩
  replace hO := hO.mv hM2 rfl
  replace ho := (⟨ho2, hcol⟩ : OwnC _ _ 7 9 1 v5 _ _)
  have hml : (l.mergeSort fun x y => decide (x ≤ y)).length = l.length := List.length_mergeSort _
  have hmm : ∀ x ∈ l.mergeSort fun x y => decide (x ≤ y), x.length ≤ 140737488355328 := fun x hx => hok x ((List.mergeSort_perm l _).mem_iff.1 hx)
  refine cnil <| cseq <| cregion <| qq (Val.move rfl) rfl ?_
  refine WR.eff (Eff.grownO ho (Eff.call pf118 rfl (compactStrs_ok ho.own (by omega)))) rfl ?_
  rintro v9 w3 ⟨c3, hM3, hcol3, hrow3, ho3⟩
  replace hO := hO.mv hM3 rfl
  replace ho : OwnC _ _ 7 9 1 _ (riseS l).length ((riseS l).flatMap fun x => [St x]) := ⟨ho3, fun k hk => hcol3 k (by rw [← hrow3]; exact hk)⟩
  have hrl := riseS_len l
  have hox : ∀ x ∈ riseS l, x.length ≤ 140737488355328 := fun x hx => hok x (((riseS_spec l).2 x).1 hx)
  refine qq (Val.assign rfl) rfl <| cnil <| cseq <| cregion <| qq (Val.move rfl) rfl <| qq (Val.move rfl) rfl ?_
  refine WR.eff (Eff.pureC c3 1 (Eff.call pf110 rfl (rising_ok (ho.own.rdStrs hox (by omega))))) rfl ?_
  rintro v12 w4 ⟨c4, hM4, hx4, rfl⟩
  replace hO := hO.mv hM4 rfl; replace ho := ho.mv hM4 rfl
  refine qq (Val.assign rfl) rfl <| qq (Val.assign rfl) rfl <| cnil ?_
  refine WC.ret2 rfl rfl rfl ?_
  exact ⟨hO.below, _, by rw [risingB_riseS]; rfl, ho.fromOld hO (by decide)⟩

theorem mSorted_ok {w : World} {vb vs : Value} {m : Man} (hb0 : Rd strS w vb m.blobs) (hs0 : Rd strS w vs m.subs) (pb : PlainV vb) (ps : PlainV vs) (hl1 : m.blobs.length ≤ 1048576) (hl2 : m.subs.length ≤ 1048576) :
    Calls Try.prog 28 #[.agg #[I m.kind, vb, vs]] w (Ret fun v w' => Below w.heap.size w w' ∧ ∃ u1 u2, v = .tuple #[.agg #[I (manSort m).1.kind, u1, u2], I (manSort m).2] ∧
      Own w' w.heap.size 9 1 u1 (manSort m).1.blobs.length ((manSort m).1.blobs.flatMap fun x => [St x]) ∧ Own w' w.heap.size 9 1 u2 (manSort m).1.subs.length ((manSort m).1.subs.flatMap fun x => [St x]) ∧ ∀ k, u1.rowOf = some k → u2.rowOf ≠ some k) := by
  have o1 := hb0.oneC; have o2 := hs0.oneC
  obtain ⟨c, hO, hc⟩ := OldC.start w
  have hb : RdC strS c w [0] vb m.blobs := Rd.toC hb0 (fun k hk => by simp [hc, hasC])
  have hs : RdC strS c w [0] vs m.subs := Rd.toC hs0 (fun k hk => by simp [hc, hasC])
  have hn1 := riseS_len m.blobs; have hn2 := riseS_len m.subs
  clear hc
  refine enter (n := 47) (res := #[.cell 2 29, .tmp 3]) Try.func28 rfl rfl rfl rfl ?_
  refine cseq <| cregion ?_
  refine WR.eff (Eff.boxC c 101 rfl) rfl ?_
  rintro _ w1 ⟨b1, c1, rfl, hM1, hb1⟩
  replace hO := hO.mv hM1 rfl; replace hb := hb.mv hM1 rfl; replace hs := hs.mv hM1 rfl
  refine WR.eff (Eff.allocC c1 102 zero29) rfl ?_
  rintro _ w2 ⟨b2, c2, rfl, hM2, hb2⟩
  replace hO := hO.mv hM2 rfl; replace hb := hb.mv hM2 rfl; replace hs := hs.mv hM2 rfl; replace hb1 := hb1.mv hM2 rfl
  refine qq (Val.assign rfl) rfl <| cnil <| cseq <| cregion ?_
  first | refine WR.val (Val.fieldAddr fld29_1 rfl) rfl ?_ | refine WR.val (Val.fieldAddrP fld29_1 rfl) rfl ?_
  refine qq (Val.loadB scl23 rfl hb1.blk rfl) rfl ?_
  refine WR.eff (Eff.pureC c2 7 (Eff.call pf77 rfl (msorted_ok hb.now pb hl1))) rfl ?_
  rintro v11 w3 ⟨c3, hM3, hx3, ⟨u1, rfl, ho1⟩⟩
  replace hO := hO.mv hM3 rfl; replace hb := hb.mv hM3 rfl; replace hs := hs.mv hM3 rfl; replace hb1 := hb1.mv hM3 rfl; replace hb2 := hb2.mv hM3 rfl
  replace ho1 := ho1.toC hx3
  refine qq (Val.move rfl) rfl <| qq (Val.extract rfl rfl) rfl <| qq (Val.extract rfl rfl) rfl <| qq (Val.assign rfl) rfl <| qq (Val.assign rfl) rfl <| cnil <| cseq <| cregion ?_
  first | refine WR.val (Val.fieldAddr fld29_2 rfl) rfl ?_ | refine WR.val (Val.fieldAddrP fld29_2 rfl) rfl ?_
  refine qq (Val.loadB scl23 rfl hb1.blk rfl) rfl ?_
  refine WR.eff (Eff.pureC c3 8 (Eff.call pf77 rfl (msorted_ok hs.now ps hl2))) rfl ?_
  rintro v17 w4 ⟨c4, hM4, hx4, ⟨u2, rfl, ho2⟩⟩
  replace hO := hO.mv hM4 rfl; replace hb := hb.mv hM4 rfl; replace hs := hs.mv hM4 rfl; replace hb1 := hb1.mv hM4 rfl; replace hb2 := hb2.mv hM4 rfl; replace ho1 := ho1.mv hM4 rfl
  replace ho2 := ho2.toC hx4
  refine qq (Val.move rfl) rfl <| qq (Val.extract rfl rfl) rfl <| qq (Val.extract rfl rfl) rfl <| qq (Val.assign rfl) rfl <| qq (Val.assign rfl) rfl <| cnil <| cseq <| cblock <| cseq ?_
  refine cregion <| qq (Val.move rfl) rfl <| qq (Val.not rfl) rfl <| qq (Val.move rfl) rfl ?_
  apply WR.sc false 2 _ (fun w' => w4 = w')
  case hl => rfl
  case hg => rfl
  case hu => rfl
  case hv => rfl
  case hs => rfl
  case hoff => rfl
  case hd => rfl
  case hF => exact fun _ => rfl
  case hT =>
   intro hq5
   try simp only [tstS] at hq5
   simp only [List.take_succ_cons, List.take_zero]
   refine WR.on rfl rfl ?_
   refine qq (Val.move rfl) rfl ?_
   refine WR.on rfl rfl ?_
   refine qq (Val.not rfl) rfl ?_
   exact WR.nil ⟨rfl, Sub.drop _ 2 _ rfl rfl, rfl⟩
  rintro _ rfl
  refine qq (Val.move rfl) rfl ?_
  apply WR.sc false 4 (!manKind m.kind) (fun w' => ∃ c', Acc c4 w4 [] c' w')
  case hl => rfl
  case hg => rfl
  case hu => rfl
  case hv => rfl
  case hs => rfl
  case hoff => rfl
  case hd => rfl
  case hF => exact fun _ => ⟨_, Acc.refl _ _ _⟩
  case hT =>
   intro hq11
   try simp only [tstS] at hq11
   simp only [List.take_succ_cons, List.take_zero]
   have hKsc11 := Acc.refl c4 w4 []
   refine WR.on rfl rfl ?_
   first | refine WR.val (Val.fieldAddr fld29_0 rfl) rfl ?_ | refine WR.val (Val.fieldAddrP fld29_0 rfl) rfl ?_
   refine WR.on rfl rfl ?_
   refine qq (Val.loadB scl3 rfl hb1.blk rfl) rfl ?_
   refine WR.on rfl rfl ?_
   refine WR.eff (Eff.pureC c4 1 (Eff.call pf78 rfl (mkind_ok m.kind))) rfl ?_
   rintro v30 w5 ⟨c5, hM5, hx5, rfl⟩
   replace hO := hO.mv hM5 rfl; replace hb := hb.mv hM5 rfl; replace hs := hs.mv hM5 rfl; replace hb1 := hb1.mv hM5 rfl; replace hb2 := hb2.mv hM5 rfl; replace ho1 := ho1.mv hM5 rfl; replace ho2 := ho2.mv hM5 rfl; replace hKsc11 := hKsc11.mv hM5 rfl
   refine WR.on rfl rfl ?_
   refine qq (Val.not rfl) rfl ?_
   exact WR.nil ⟨rfl, Sub.drop _ 4 _ rfl rfl, _, hKsc11⟩
  rintro w6 ⟨c6, ⟨hM6⟩⟩
  replace hO := hO.mv hM6 rfl; replace hb := hb.mv hM6 rfl; replace hs := hs.mv hM6 rfl; replace hb1 := hb1.mv hM6 rfl; replace hb2 := hb2.mv hM6 rfl; replace ho1 := ho1.mv hM6 rfl; replace ho2 := ho2.mv hM6 rfl
  refine qq (Val.assign rfl) rfl <| cnil ?_
  refine WC.cond rfl (fun hc3 => ?_) (fun hc3 => ?_)
  ·try simp only [tstS] at hc3
   have hms : manSort m = (man0, 1) := by
     rw [manSort, if_neg]
     intro h
     simp only [manKind, Bool.and_eq_true] at h hc3
     rcases hc3 with (h3 | h3) | h3
     · rw [h.1.1] at h3; cases h3
     · rw [h.1.2] at h3; cases h3
     · rw [h.2.1, h.2.2] at h3; exact absurd h3 (by decide)
   refine cseq <| cregion <| qq (Val.build (cells := #[I 0, .slice none 0 0, .slice none 0 0]) rfl (by kernel_rfl)) rfl ?_
   refine WR.eff_ (Eff.storeNC agg29 rfl rfl hb2 rfl rfl (by repeat (first | exact List.forall_mem_nil _ | refine List.forall_mem_cons.2 ⟨by first | rfl | assumption, ?_⟩))) ?_
   rintro _ w7 ⟨hS, hM7⟩
   replace hO := hO.mv hM7 rfl; replace hb := hb.mv hM7 rfl; replace hs := hs.mv hM7 rfl; replace hb1 := hb1.mv hM7 rfl; replace ho1 := ho1.mv hM7 rfl; replace ho2 := ho2.mv hM7 rfl
   replace hb2 := hS
   refine qq (Val.assign rfl) rfl <| cnil ?_
   refine WC.retR2 rfl (RVal.cellN agg29 rfl hb2.blk rfl) (RVal.tmp rfl) ?_
   exact ⟨hO.below, _, _, by rw [hms]; rfl, by rw [hms]; exact Own.nil _ _ _ _, by rw [hms]; exact Own.nil _ _ _ _, fun k hk => by simp [Value.rowOf] at hk⟩
  ·try simp only [tstS] at hc3
   have hok : (all32 m.blobs && all32 m.subs && (decide (0 ≤ m.kind) && decide (m.kind ≤ 255))) = true := by
     rw [hc3.1.1, hc3.1.2, show (decide (0 ≤ m.kind) && decide (m.kind ≤ 255)) = true from hc3.2]; rfl
   refine cseq <| cregion <| qq (Val.move rfl) rfl ?_
   first | refine WR.val (Val.rdlen sl23 (by assumption) rfl) rfl ?_ | refine WR.val (Val.sllen Try.underlying23 rfl) rfl ?_ | refine WR.val (Val.olen sl23 (by assumption) rfl) rfl ?_ | refine WR.val (Val.rdlenC sl23 (by assumption) rfl) rfl ?_
   refine qq (Val.move rfl) rfl ?_
   first | refine WR.val (Val.rdlen sl23 (by assumption) rfl) rfl ?_ | refine WR.val (Val.sllen Try.underlying23 rfl) rfl ?_ | refine WR.val (Val.olen sl23 (by assumption) rfl) rfl ?_ | refine WR.val (Val.rdlenC sl23 (by assumption) rfl) rfl ?_
   refine qq (Val.addI rfl rfl (by first | omega | assumption | (simp; omega) | (simp; done)) (by first | omega | assumption | (simp; omega) | (simp; done))) rfl <| qq (Val.gtr rfl rfl) rfl <| qq (Val.assign rfl) rfl <| cnil ?_
   refine WC.cond rfl (fun hc5 => ?_) (fun hc5 => ?_)
   ·try simp only [tstS] at hc5
    have hms : manSort m = (man0, 2) := by rw [manSort, if_pos hok, if_neg (by omega)]
    refine cseq <| cregion <| qq (Val.build (cells := #[I 0, .slice none 0 0, .slice none 0 0]) rfl (by kernel_rfl)) rfl ?_
    refine WR.eff_ (Eff.storeNC agg29 rfl rfl hb2 rfl rfl (by repeat (first | exact List.forall_mem_nil _ | refine List.forall_mem_cons.2 ⟨by first | rfl | assumption, ?_⟩))) ?_
    rintro _ w8 ⟨hS, hM8⟩
    replace hO := hO.mv hM8 rfl; replace hb := hb.mv hM8 rfl; replace hs := hs.mv hM8 rfl; replace hb1 := hb1.mv hM8 rfl; replace ho1 := ho1.mv hM8 rfl; replace ho2 := ho2.mv hM8 rfl
    replace hb2 := hS
    refine qq (Val.assign rfl) rfl <| cnil ?_
    refine WC.retR2 rfl (RVal.cellN agg29 rfl hb2.blk rfl) (RVal.tmp rfl) ?_
    exact ⟨hO.below, _, _, by rw [hms]; rfl, by rw [hms]; exact Own.nil _ _ _ _, by rw [hms]; exact Own.nil _ _ _ _, fun k hk => by simp [Value.rowOf] at hk⟩
   ·try simp only [tstS] at hc5
    have hms : manSort m = (⟨m.kind, riseS m.blobs, riseS m.subs⟩, 0) := by rw [manSort, if_pos hok, if_pos (by omega)]
    obtain ⟨A1, q1, rfl, _⟩ := ho1.own.formA
    obtain ⟨A2, q2, rfl, _⟩ := ho2.own.formA
    refine cskip <| cseq <| cregion ?_
    first | refine WR.val (Val.fieldAddr fld29_0 rfl) rfl ?_ | refine WR.val (Val.fieldAddrP fld29_0 rfl) rfl ?_
    refine qq (Val.loadB scl3 rfl hb1.blk rfl) rfl <| qq (Val.move rfl) rfl <| qq (Val.move rfl) rfl <| qq (Val.build (cells := #[I m.kind, .slice A1 (riseS m.blobs).length q1, .slice A2 (riseS m.subs).length q2]) rfl (by kernel_rfl)) rfl ?_
    refine WR.eff_ (Eff.storeNC agg29 rfl rfl hb2 rfl rfl (by repeat (first | exact List.forall_mem_nil _ | refine List.forall_mem_cons.2 ⟨by first | rfl | assumption, ?_⟩))) ?_
    rintro _ w9 ⟨hS, hM9⟩
    replace hO := hO.mv hM9 rfl; replace hb := hb.mv hM9 rfl; replace hs := hs.mv hM9 rfl; replace hb1 := hb1.mv hM9 rfl; replace ho1 := ho1.mv hM9 rfl; replace ho2 := ho2.mv hM9 rfl
    replace hb2 := hS
    refine qq (Val.assign rfl) rfl <| cnil ?_
    refine WC.retR2 rfl (RVal.cellN agg29 rfl hb2.blk rfl) (RVal.tmp rfl) ?_
    exact ⟨hO.below, _, _, by rw [hms], by rw [hms]; exact ho1.fromOld hO (by decide), by rw [hms]; exact ho2.fromOld hO (by decide), fun k h3 h4 => by have h5 := ho1.col k h3; have h6 := ho2.col k h4; rw [h5] at h6; cases h6⟩

theorem recol {w w' : World} {c : Nat → Nat} {α : Type} {s : Shape α} {v u : Value} {l : List α} {i j n size : Nat} {e : TypeId} {xs : List Value} (hO : OldC w c w') (h1 : RdC s c w' [0] v l) (h : OwnC c w' i e size u n xs) (hi : i ≠ 0) (hj : j ≠ 0) :
    ∃ c2, OldC w c2 w' ∧ RdC s c2 w' [0] v l ∧ OwnC c2 w' j e size u n xs := by
  refine ⟨fun k => if c k = 0 then 0 else j, ⟨hO.below, fun k hk => by rw [hO.col k hk]; rfl⟩, fun w2 hs hk => h1 w2 hs fun k hc hl => hk k ?_ hl, ⟨h.own, fun k hk => by rw [h.col k hk]; simp [hi]⟩⟩
  have : c k = 0 := by simpa [hasC] using hc
  show hasC [0] (if c k = 0 then 0 else j) = true
  rw [if_pos this]; rfl
theorem grown_both {w w1 w2 : World} {r : Option Nat} (h1 : w.grownBy w1 r) (h2 : w1.grownBy w2 r) : w.grownBy w2 r :=
  ⟨h2.os.trans h1.os, h2.tape.trans h1.tape, h2.output.trans h1.output, Nat.le_trans h1.size h2.size, fun k hk hne => (h2.block k (Nat.lt_of_lt_of_le hk h1.size) hne).trans (h1.block k hk hne)⟩
/-- Each text of a row is spoilt. -/
theorem spoil_ok {w : World} {v : Value} {l : List (List UInt8)} (hown : Own w 0 9 1 v l.length (l.flatMap fun x => [St x])) (hl : l.length ≤ 1048576) :
    Calls Try.prog 31 #[v] w (Ret fun _ w' => w.grownBy w' v.rowOf) := by
  obtain ⟨A, cp, rfl, _⟩ := hown.formA
  refine enter (n := 12) (res := #[]) Try.func31 rfl rfl rfl rfl ?_
  refine cseq <| cregion <| qq (Val.assign rfl) rfl <| cnil <| cblock ?_
  refine WC.loop (σ := Nat) (fun k => [(0, .slice A l.length cp), (2, I k)]) (fun k w' => ∃ ys, Own w' 0 9 1 (.slice A l.length cp) l.length ys ∧ w.grownBy w' (Value.slice A l.length cp).rowOf ∧ k ≤ l.length) (fun k => l.length - k) 0 (by repeat (first | exact Sub.nil _ | refine Sub.cons rfl ?_ | refine Sub.consM rfl ?_)) ⟨_, hown, ⟨rfl, rfl, rfl, Nat.le_refl _, fun _ _ _ => rfl⟩, by omega⟩ ?_
  clear hown
  rintro k wl ⟨ys, ho, hg, hk⟩
  refine cseq <| cseq <| cregion <| qq (Val.move rfl) rfl <| qq (Val.move rfl) rfl ?_
  first | refine WR.val (Val.rdlen sl23 (by assumption) rfl) rfl ?_ | refine WR.val (Val.sllen Try.underlying23 rfl) rfl ?_
  refine qq (Val.lss rfl rfl) rfl <| cnil ?_
  refine WC.cond rfl (fun hc1 => ?_) (fun hc1 => ?_)
  ·try simp only [tstS] at hc1
   have ka : k < l.length := by omega
   refine cskip <| cseq <| cblock <| cregion <| qq (Val.move rfl) rfl <| qq (Val.move rfl) rfl <| qq (Val.indexO (c := fun _ => 2) (i := 2) sl23 ⟨ho, fun _ _ => rfl⟩ rfl rfl (by omega) (by omega)) rfl ?_
   refine WR.eff_ (Eff.storeOwn scl9 ho (i := k) (by omega) rfl rfl rfl rfl) ?_
   rintro _ ws ⟨ho, hg2, _⟩
   refine cnil <| cregion <| qq (Val.move rfl) rfl <| qq (Val.addI rfl rfl (by first | omega | assumption | (simp; omega) | (simp; done)) (by first | omega | assumption | (simp; omega) | (simp; done))) rfl <| qq (Val.assign rfl) rfl <| cnil ?_
   exact ⟨k + 1, (by repeat (first | exact Sub.nil _ | refine Sub.cons rfl ?_ | refine Sub.consM rfl ?_)), ⟨_, ho, grown_both hg hg2, ka⟩, by omega⟩
  ·try simp only [tstS] at hc1
   refine WC.exit rfl ?_
   refine ⟨_, _, rfl, rfl, ?_⟩
   exact ⟨rfl, hg⟩
set_option maxHeartbeats 1000000 in
theorem pRising_ok {w : World} {v : Value} {l : List (List UInt8)} (h0 : Rd strS w v l) (hl : l.length ≤ 1048576) :
    Calls Try.prog 30 #[v] w (Ret fun v' w' => Below w.heap.size w w' ∧ Own w' w.heap.size 9 1 v' (riseS l).length ((riseS l).flatMap fun x => [St x])) := by
  have hok := h0.okFlat
  obtain ⟨c, hO, hc⟩ := OldC.start w
  have h1 : RdC strS c w [0] v l := Rd.toC h0 (fun k hk => by simp [hc, hasC])
  clear hc h0
  refine enter (n := 59) (res := #[.tmp 2]) Try.func30 rfl rfl rfl rfl ?_
  refine cseq <| cregion <| qq (Val.assign rfl) rfl <| cnil <| cseq <| cregion <| qq (Val.assign rfl) rfl <| cnil <| cseq ?_
  refine cseq <| cregion <| qq (Val.assign rfl) rfl <| cnil <| cblock ?_
  refine WC.loop (σ := Nat × Value × List (List UInt8)) (fun st => [(0, v), (3, st.2.1), (4, I st.1)]) (fun st w' => ∃ c', OldC w c' w' ∧ RdC strS c' w' [0] v l ∧ OwnC c' w' 3 9 1 st.2.1 st.2.2.length (st.2.2.flatMap fun x => [St x]) ∧ st.1 ≤ l.length ∧ st.2.2.length ≤ st.1 ∧ st.2.2.Pairwise L ∧ ∀ a, a ∈ st.2.2 ↔ a ∈ l.take st.1) (fun st => l.length - st.1) (0, .slice none 0 0, []) (by repeat (first | exact Sub.nil _ | refine Sub.cons rfl ?_ | refine Sub.consM rfl ?_)) ⟨_, hO, h1, OwnC.nil _ _ _ _ _, by simp, by simp, by simp, by simp⟩ ?_
  clear hO h1
  rintro ⟨i, vx, x⟩ wl ⟨cl, hO, h1, ho, hi, hxl, hxs, hxm⟩
  dsimp only at hO h1 ho hi hxl hxs hxm ⊢
  refine cseq <| cseq <| cregion <| qq (Val.move rfl) rfl <| qq (Val.move rfl) rfl ?_
  first | refine WR.val (Val.rdlen sl23 (by assumption) rfl) rfl ?_ | refine WR.val (Val.sllen Try.underlying23 rfl) rfl ?_ | refine WR.val (Val.olen sl23 (by assumption) rfl) rfl ?_ | refine WR.val (Val.rdlenC sl23 (by assumption) rfl) rfl ?_
  refine qq (Val.lss rfl rfl) rfl <| cnil ?_
  refine WC.cond rfl (fun hc3 => ?_) (fun hc3 => ?_)
  ·try simp only [tstS] at hc3
   have ka : i < l.length := by omega
   obtain ⟨hc23, ok1⟩ := RdC.elFlat h1 ka (by decide)
   have hc40 := hc23; have hc50 := hc23
   have hxo : ∀ a ∈ x, a.length ≤ 140737488355328 := fun a ha => hok a (List.mem_of_mem_take ((hxm a).1 ha))
   have hX : RdC strS cl wl [3] vx x := ho.rdFlat (by omega) hxo
   obtain ⟨A3, q3, rfl, hq3, _⟩ := ho.own.formA
   refine cskip <| cseq <| cblock <| cseq <| cregion <| qq (Val.assign rfl) rfl <| cnil <| cseq <| cblock ?_
   refine WC.loop (σ := Nat) (fun k => [(0, v), (3, .slice A3 x.length q3), (4, I i), (5, I k)]) (fun k w' => ∃ c', OldC w c' w' ∧ RdC strS c' w' [0] v l ∧ OwnC c' w' 3 9 1 (.slice A3 x.length q3) x.length (x.flatMap fun x => [St x]) ∧ RdC strS c' w' [3] (.slice A3 x.length q3) x ∧ CelC c' w' [0] (elemA v strS.size i) ((fun l => [St l]) l[i]) ∧ k ≤ x.length ∧ ∀ j (hj : j < x.length), j < k → L x[j] l[i]) (fun k => x.length - k) 0 (by repeat (first | exact Sub.nil _ | refine Sub.cons rfl ?_ | refine Sub.consM rfl ?_)) ⟨_, hO, h1, ho, hX, hc23, by omega, fun j _ hj => absurd hj (Nat.not_lt_zero _)⟩ ?_
   clear hO h1 ho hX hc23 hc40 hc50
   rintro k wk ⟨ck, hO, h1, ho, hX, hc23, hk, hkL⟩
   have hc40 := hc23; have hc50 := hc23
   have hXw := hX
   refine cseq <| cseq ?_
   refine WC.regionD (Kp ck wk []) [0, 0, 0, 0, 0, 0, 0, 0, 1, 0, 0, 0, 1, 0, 0] [0, 1, 2, 3, 4, 5, 6, 7, 8, 9, 10, 11, 12, 13, 14] mixed (by kernel_rfl) ?_
   have hM1 := Mv.drew ck wk []
   have hCw := Mv.drew ck wk []
   generalize wk.drew = w1 at hM1 hCw ⊢
   have hc230 := hc23
   have hc400 := hc40
   have hc500 := hc50
   replace hO := hO.mv hM1 rfl; replace h1 := h1.mv hM1 rfl; replace ho := ho.mv hM1 rfl; replace hX := hX.mv hM1 rfl; replace hc23 := hc23.mv hM1 rfl; replace hc40 := hc40.mv hM1 rfl; replace hc50 := hc50.mv hM1 rfl
   refine qd rfl rfl rfl (fun _ => Val.move rfl) rfl <| qd rfl rfl rfl (fun _ => Val.move rfl) rfl ?_
   first | refine WD.val rfl rfl rfl (fun _ => Val.rdlen sl23 (by assumption) rfl) rfl ?_ | refine WD.val rfl rfl rfl (fun _ => Val.sllen Try.underlying23 rfl) rfl ?_ | refine WD.val rfl rfl rfl (fun _ => Val.olen sl23 (by assumption) rfl) rfl ?_ | refine WD.val rfl rfl rfl (fun _ => Val.rdlenC sl23 (by assumption) rfl) rfl ?_
   refine qd rfl rfl rfl (fun _ => Val.lss rfl rfl) rfl <| qd rfl rfl rfl (fun _ => Val.move rfl) rfl ?_
   apply WD.sc true 9 _ (fun w' => w1 = w')
   case hl => rfl
   case hi => rfl
   case hk => rfl
   case hg => rfl
   case hu => rfl
   case hv => rfl
   case hs => rfl
   case hoff => rfl
   case hd => rfl
   case hC => exact hCw.kp
   case hF => exact fun _ => rfl
   case hT =>
    intro hq14
    try simp only [tstS] at hq14
    simp only [List.take_succ_cons, List.take_zero]
    have hkx : k < x.length := by omega
    obtain ⟨hc190, _⟩ := RdC.elFlat hXw hkx (by decide)
    have hv1 : ([St x[k]] : List Value) = [St (x[k]?.getD [])] := by rw [getD_lt hkx]
    rw [hv1] at hc190
    refine qd rfl rfl rfl (fun _ => Val.move rfl) rfl <| qd rfl rfl rfl (fun _ => Val.move rfl) rfl <| qd rfl rfl rfl (fun _ => Val.indexAddr sl23 hX.now rfl rfl rfl (by omega) (by omega)) rfl <| qc rfl rfl rfl hCw.kp (fun W hW => Val.loadE1 scl9 rfl (hc190.kp hW rfl).cel) rfl <| qd rfl rfl rfl (fun _ => Val.move rfl) rfl <| qd rfl rfl rfl (fun _ => Val.move rfl) rfl <| qd rfl rfl rfl (fun _ => Val.indexAddr sl23 h1.now rfl rfl rfl (by omega) (by omega)) rfl <| qc rfl rfl rfl hCw.kp (fun W hW => Val.loadE1 scl9 rfl (hc230.kp hW rfl).cel) rfl <| qd rfl rfl rfl (fun _ => Val.slss rfl rfl) rfl ?_
    exact WD.nil ⟨rfl, Sub.drop _ 9 _ rfl rfl, rfl⟩
   rintro _ rfl
   refine WD.nil ?_
   clear hc230 hc400 hc500
   clear hCw
   refine WC.cond rfl (fun hc6 => ?_) (fun hc6 => ?_)
   ·try simp only [tstS] at hc6
    have hkx : k < x.length := by omega
    rw [getD_lt hkx] at hc6
    refine cskip <| cblock <| cregion <| qq (Val.move rfl) rfl <| qq (Val.addI rfl rfl (by first | omega | assumption | (simp; omega) | (simp; done)) (by first | omega | assumption | (simp; omega) | (simp; done))) rfl <| qq (Val.assign rfl) rfl <| cnil ?_
    refine ⟨k + 1, (by repeat (first | exact Sub.nil _ | refine Sub.cons rfl ?_ | refine Sub.consM rfl ?_)), ⟨_, hO, h1, ho, hX, hc23, hkx, fun j hj hjk => ?_⟩, by omega⟩
    rcases Nat.lt_or_ge j k with h | h
    · exact hkL j hj h
    · have : j = k := by omega
      subst this; exact hc6.2
   ·try simp only [tstS] at hc6
    have hno : ∀ hk' : k < x.length, ¬ L x[k] l[i] := fun hkx => by
      rw [getD_lt hkx, decide_eq_true (show (k : Int) < (x.length : Int) by omega)] at hc6
      simpa [L] using hc6
    have hXw := hX
    refine WC.exit rfl ?_
    refine cseq <| cseq ?_
    refine WC.regionD (Kp ck w1 []) [0, 0, 0, 0, 0, 0, 0, 0, 1, 0, 0, 0, 1, 0, 0] [0, 1, 2, 3, 4, 5, 6, 7, 8, 9, 10, 11, 12, 13, 14] mixed (by kernel_rfl) ?_
    have hM2 := Mv.drew ck w1 []
    have hCw := Mv.drew ck w1 []
    generalize w1.drew = w2 at hM2 hCw ⊢
    have hc230 := hc23
    have hc400 := hc40
    have hc500 := hc50
    replace hO := hO.mv hM2 rfl; replace h1 := h1.mv hM2 rfl; replace ho := ho.mv hM2 rfl; replace hX := hX.mv hM2 rfl; replace hc23 := hc23.mv hM2 rfl; replace hc40 := hc40.mv hM2 rfl; replace hc50 := hc50.mv hM2 rfl
    refine qd rfl rfl rfl (fun _ => Val.move rfl) rfl <| qd rfl rfl rfl (fun _ => Val.move rfl) rfl ?_
    first | refine WD.val rfl rfl rfl (fun _ => Val.rdlen sl23 (by assumption) rfl) rfl ?_ | refine WD.val rfl rfl rfl (fun _ => Val.sllen Try.underlying23 rfl) rfl ?_ | refine WD.val rfl rfl rfl (fun _ => Val.olen sl23 (by assumption) rfl) rfl ?_ | refine WD.val rfl rfl rfl (fun _ => Val.rdlenC sl23 (by assumption) rfl) rfl ?_
    refine qd rfl rfl rfl (fun _ => Val.lss rfl rfl) rfl <| qd rfl rfl rfl (fun _ => Val.move rfl) rfl ?_
    apply WD.sc true 9 _ (fun w' => w2 = w')
    case hl => rfl
    case hi => rfl
    case hk => rfl
    case hg => rfl
    case hu => rfl
    case hv => rfl
    case hs => rfl
    case hoff => rfl
    case hd => rfl
    case hC => exact hCw.kp
    case hF => exact fun _ => rfl
    case hT =>
     intro hq14
     try simp only [tstS] at hq14
     simp only [List.take_succ_cons, List.take_zero]
     have hkx : k < x.length := by omega
     obtain ⟨hc360, _⟩ := RdC.elFlat hXw hkx (by decide)
     have hv1 : ([St x[k]] : List Value) = [St (x[k]?.getD [])] := by rw [getD_lt hkx]
     rw [hv1] at hc360
     refine qd rfl rfl rfl (fun _ => Val.move rfl) rfl <| qd rfl rfl rfl (fun _ => Val.move rfl) rfl <| qd rfl rfl rfl (fun _ => Val.indexAddr sl23 hX.now rfl rfl rfl (by omega) (by omega)) rfl <| qc rfl rfl rfl hCw.kp (fun W hW => Val.loadE1 scl9 rfl (hc360.kp hW rfl).cel) rfl <| qd rfl rfl rfl (fun _ => Val.move rfl) rfl <| qd rfl rfl rfl (fun _ => Val.move rfl) rfl <| qd rfl rfl rfl (fun _ => Val.indexAddr sl23 h1.now rfl rfl rfl (by omega) (by omega)) rfl <| qc rfl rfl rfl hCw.kp (fun W hW => Val.loadE1 scl9 rfl (hc400.kp hW rfl).cel) rfl <| qd rfl rfl rfl (fun _ => Val.seq_ rfl rfl) rfl ?_
     exact WD.nil ⟨rfl, Sub.drop _ 9 _ rfl rfl, rfl⟩
    rintro _ rfl
    refine WD.nil ?_
    clear hc230 hc400 hc500
    clear hCw
    refine WC.cond rfl (fun hc8 => ?_) (fun hc8 => ?_)
    ·try simp only [tstS] at hc8
     have hkx : k < x.length := by omega
     have hmem : l[i] ∈ x := by
       have h8 := hc8.2
       rw [getD_lt hkx, beq_iff_eq] at h8
       rw [← h8]; exact List.getElem_mem hkx
     have hnm : ∀ a, a ∈ x ↔ a ∈ l.take (i + 1) := fun a => by
       rw [List.take_succ_eq_append_getElem ka, List.mem_append, ← hxm]
       exact ⟨.inl, fun h => h.elim id (fun h => by simp at h; rw [h]; exact hmem)⟩
     refine WC.exit rfl ?_
     refine cregion <| qq (Val.move rfl) rfl <| qq (Val.addI rfl rfl (by first | omega | assumption | (simp; omega) | (simp; done)) (by first | omega | assumption | (simp; omega) | (simp; done))) rfl <| qq (Val.assign rfl) rfl <| cnil ?_
     first
     | exact ⟨(i + 1, _, x), (by repeat (first | exact Sub.nil _ | refine Sub.cons rfl ?_ | refine Sub.consM rfl ?_)), ⟨_, hO, h1, ho, ka, by dsimp only; omega, hxs, hnm⟩, by dsimp only; omega⟩
     | (have e1 : (x.take k).flatMap (fun x => [St x]) ++ [St l[i]] ++ (x.drop k).flatMap (fun x => [St x]) = (x.take k ++ [l[i]] ++ x.drop k).flatMap (fun x => [St x]) := by rw [List.flatMap_append, List.flatMap_append]; rfl
        have e2 : k + 1 + (x.length - k) = (x.take k ++ [l[i]] ++ x.drop k).length := by simp; omega
        rw [e1, e2] at ho
        obtain ⟨c2, hO, h1, ho⟩ := recol (j := 3) hO h1 ho (by decide) (by decide)
        exact ⟨(i + 1, _, x.take k ++ [l[i]] ++ x.drop k), (by repeat (first | exact Sub.nil _ | refine Sub.cons rfl ?_ | refine Sub.consM rfl ?_)), ⟨_, hO, h1, ho, ka, by simp; omega, hns, hnm⟩, by dsimp only; omega⟩)
    ·try simp only [tstS] at hc8
     have hgt : ∀ hk' : k < x.length, L l[i] x[k] := fun hkx => by
       rw [getD_lt hkx, decide_eq_true (show (k : Int) < (x.length : Int) by omega)] at hc8
       exact L_total (hno hkx) (by simpa using hc8)
     have hns := rise_insert hxs hk hkL hgt
     have hnm : ∀ a, a ∈ x.take k ++ [l[i]] ++ x.drop k ↔ a ∈ l.take (i + 1) := fun a => by
       rw [List.take_succ_eq_append_getElem ka, List.mem_append, List.mem_append, List.mem_append, ← hxm]
       have hm : a ∈ x ↔ a ∈ x.take k ∨ a ∈ x.drop k := by rw [← List.mem_append, List.take_append_drop]
       rw [hm]
       constructor
       · rintro ((h | h) | h)
         · exact .inl (.inl h)
         · exact .inr h
         · exact .inl (.inr h)
       · rintro ((h | h) | h)
         · exact .inl (.inl h)
         · exact .inr h
         · exact .inl (.inr h)
     refine cskip ?_
     refine WC.mono (N := fun e w' => ∃ c' v', Sub [(4000000, .tuple #[]), (0, v), (3, v'), (4, I i)] e ∧ OldC w c' w' ∧ RdC strS c' w' [0] v l ∧ OwnC c' w' 5 9 1 v' (k + 1 + (x.length - k)) ((x.take k).flatMap (fun x => [St x]) ++ [St l[i]] ++ (x.drop k).flatMap (fun x => [St x]))) ?_ ?_
     ·refine WC.regionT (Kp ck w2 [5]) [0, 0, 0, 2, 0, 0, 0, 1, 2, 2, 0, 0, 0, 2, 0] (.quiet 0 (.quiet 1 (.quiet 2 (.quiet 4 (.quiet 5 (.quiet 6 (.quiet 7 (.quiet 10 (.quiet 11 (.quiet 12 (.two 3 (.one 8 (.one 9 (.one 13 (.quiet 14 .nil)))) 8 (.one 3 (.one 9 (.one 13 (.quiet 14 .nil))))))))))))))) mixed (by kernel_rfl) ?_
      have hM3 := Mv.drew ck w2 []
      have hCw := Mv.drew ck w2 [5]
      generalize w2.drew = w3 at hM3 hCw ⊢
      have hc230 := hc23
      have hc400 := hc40
      have hc500 := hc50
      replace hO := hO.mv hM3 rfl; replace h1 := h1.mv hM3 rfl; replace ho := ho.mv hM3 rfl; replace hX := hX.mv hM3 rfl; replace hc23 := hc23.mv hM3 rfl; replace hc40 := hc40.mv hM3 rfl; replace hc50 := hc50.mv hM3 rfl
      refine WT.val rfl rfl rfl (fun _ => Val.move rfl) rfl ?_
      refine WT.val rfl rfl rfl (fun _ => Val.move rfl) rfl ?_
      refine WT.val rfl rfl rfl (fun _ => Val.partTo sl23 rfl rfl (by omega) (by omega)) rfl ?_
      refine WT.val rfl rfl rfl (fun _ => Val.move rfl) rfl ?_
      refine WT.val rfl rfl rfl (fun _ => Val.move rfl) rfl ?_
      refine WT.val rfl rfl rfl (fun _ => Val.indexAddr sl23 h1.now rfl rfl rfl (by omega) (by omega)) rfl ?_
      refine WT.valC rfl rfl rfl hCw.kp (fun W hW => Val.loadE1 scl9 rfl (hc500.kp hW rfl).cel) rfl ?_
      refine WT.val rfl rfl rfl (fun _ => Val.move rfl) rfl ?_
      refine WT.val rfl rfl rfl (fun _ => Val.move rfl) rfl ?_
      refine WT.val rfl rfl rfl (fun _ => Val.partFrom sl23 rfl rfl (by omega) (by omega)) rfl ?_
      refine WT.two ?_ ?_
      ·refine WS.eff rfl rfl rfl (Eff.pureC ck 5 (Eff.call pf15 rfl (copyStrings_ok (hX.now.to_ (hi := (k : Int).toNat) (by omega)) (by simp; omega)))) rfl ?_
       rintro v47 w4 ⟨c4, hM4, hx4, ho47⟩
       refine ⟨fun hC => hC.step hCw hM4 rfl, ?_⟩
       replace hCw := hCw.tr hM4 rfl
       replace hO := hO.mv hM4 rfl; replace h1 := h1.mv hM4 rfl; replace ho := ho.mv hM4 rfl; replace hX := hX.mv hM4 rfl; replace hc23 := hc23.mv hM4 rfl; replace hc40 := hc40.mv hM4 rfl; replace hc50 := hc50.mv hM4 rfl
       replace ho47 := ho47.toC hx4
       refine WT.one ?_
       refine WS.eff rfl rfl rfl (Eff.build1C c4 152 sl23 rfl rfl rfl rfl rfl) rfl ?_
       rintro _ w5 ⟨b52, c5, rfl, hM5, hb52⟩
       refine ⟨fun hC => hC.step hCw hM5 rfl, ?_⟩
       replace hCw := hCw.tr hM5 rfl
       replace hO := hO.mv hM5 rfl; replace h1 := h1.mv hM5 rfl; replace ho := ho.mv hM5 rfl; replace hX := hX.mv hM5 rfl; replace hc23 := hc23.mv hM5 rfl; replace hc40 := hc40.mv hM5 rfl; replace hc50 := hc50.mv hM5 rfl; replace ho47 := ho47.mv hM5 rfl
       refine WT.one ?_
       refine WS.eff rfl rfl rfl (Eff.appendC sl23 rfl rfl ho47 (Src.cellsAt Try.underlying23 hb52.blk.cellsAt rfl (by repeat (first | exact List.forall_mem_nil _ | refine List.forall_mem_cons.2 ⟨by first | rfl | assumption, ?_⟩))) (by rw [maxLen_eq]; first | omega | (simp; omega)) (by first | omega | (simp; omega))) rfl ?_
       rintro v53 w6 ⟨c6, hM6, hOq⟩
       refine ⟨fun hC => hC.step hCw hM6 rfl, ?_⟩
       replace hCw := hCw.tr hM6 rfl
       clear hb52
       replace hO := hO.mv hM6 rfl; replace h1 := h1.mv hM6 rfl; replace ho := ho.mv hM6 rfl; replace hX := hX.mv hM6 rfl; replace hc23 := hc23.mv hM6 rfl; replace hc40 := hc40.mv hM6 rfl; replace hc50 := hc50.mv hM6 rfl
       replace ho47 := hOq
       refine WT.one ?_
       refine WS.eff rfl rfl rfl (Eff.appendC sl23 rfl rfl ho47 (Src.flat Try.underlying23 (hX.now.from_ (lo := (k : Int).toNat) (by omega))) (by rw [maxLen_eq]; first | omega | (simp; omega)) (by first | omega | (simp; omega))) rfl ?_
       rintro v57 w7 ⟨c7, hM7, hOq⟩
       refine ⟨fun hC => hC.step hCw hM7 rfl, ?_⟩
       replace hCw := hCw.tr hM7 rfl
       replace hO := hO.mv hM7 rfl; replace h1 := h1.mv hM7 rfl; replace ho := ho.mv hM7 rfl; replace hX := hX.mv hM7 rfl; replace hc23 := hc23.mv hM7 rfl; replace hc40 := hc40.mv hM7 rfl; replace hc50 := hc50.mv hM7 rfl
       replace ho47 := hOq
       refine WT.val rfl rfl rfl (fun _ => Val.assign rfl) rfl ?_
       refine WT.nil ?_
       simp only [Int.toNat_natCast] at ho47
       have e1 : (x.take k).length + 1 + (x.drop k).length = k + 1 + (x.length - k) := by simp; omega
       rw [e1] at ho47
       exact ⟨_, _, (by repeat (first | exact Sub.nil _ | refine Sub.cons rfl ?_ | refine Sub.consM rfl ?_)), hO, h1, ho47⟩
      ·refine WS.eff rfl rfl rfl (Eff.build1C ck 152 sl23 rfl rfl rfl rfl rfl) rfl ?_
       rintro _ w8 ⟨b52, c8, rfl, hM8, hb52⟩
       refine ⟨fun hC => hC.step hCw hM8 rfl, ?_⟩
       replace hCw := hCw.tr hM8 rfl
       replace hO := hO.mv hM8 rfl; replace h1 := h1.mv hM8 rfl; replace ho := ho.mv hM8 rfl; replace hX := hX.mv hM8 rfl; replace hc23 := hc23.mv hM8 rfl; replace hc40 := hc40.mv hM8 rfl; replace hc50 := hc50.mv hM8 rfl
       refine WT.one ?_
       refine WS.eff rfl rfl rfl (Eff.pureC c8 5 (Eff.call pf15 rfl (copyStrings_ok (hX.now.to_ (hi := (k : Int).toNat) (by omega)) (by simp; omega)))) rfl ?_
       rintro v47 w9 ⟨c9, hM9, hx9, ho47⟩
       refine ⟨fun hC => hC.step hCw hM9 rfl, ?_⟩
       replace hCw := hCw.tr hM9 rfl
       replace hO := hO.mv hM9 rfl; replace h1 := h1.mv hM9 rfl; replace ho := ho.mv hM9 rfl; replace hX := hX.mv hM9 rfl; replace hc23 := hc23.mv hM9 rfl; replace hc40 := hc40.mv hM9 rfl; replace hc50 := hc50.mv hM9 rfl; replace hb52 := hb52.mv hM9 rfl
       replace ho47 := ho47.toC hx9
       refine WT.one ?_
       refine WS.eff rfl rfl rfl (Eff.appendC sl23 rfl rfl ho47 (Src.cellsAt Try.underlying23 hb52.blk.cellsAt rfl (by repeat (first | exact List.forall_mem_nil _ | refine List.forall_mem_cons.2 ⟨by first | rfl | assumption, ?_⟩))) (by rw [maxLen_eq]; first | omega | (simp; omega)) (by first | omega | (simp; omega))) rfl ?_
       rintro v53 w10 ⟨c10, hM10, hOq⟩
       refine ⟨fun hC => hC.step hCw hM10 rfl, ?_⟩
       replace hCw := hCw.tr hM10 rfl
       clear hb52
       replace hO := hO.mv hM10 rfl; replace h1 := h1.mv hM10 rfl; replace ho := ho.mv hM10 rfl; replace hX := hX.mv hM10 rfl; replace hc23 := hc23.mv hM10 rfl; replace hc40 := hc40.mv hM10 rfl; replace hc50 := hc50.mv hM10 rfl
       replace ho47 := hOq
       refine WT.one ?_
       refine WS.eff rfl rfl rfl (Eff.appendC sl23 rfl rfl ho47 (Src.flat Try.underlying23 (hX.now.from_ (lo := (k : Int).toNat) (by omega))) (by rw [maxLen_eq]; first | omega | (simp; omega)) (by first | omega | (simp; omega))) rfl ?_
       rintro v57 w11 ⟨c11, hM11, hOq⟩
       refine ⟨fun hC => hC.step hCw hM11 rfl, ?_⟩
       replace hCw := hCw.tr hM11 rfl
       replace hO := hO.mv hM11 rfl; replace h1 := h1.mv hM11 rfl; replace ho := ho.mv hM11 rfl; replace hX := hX.mv hM11 rfl; replace hc23 := hc23.mv hM11 rfl; replace hc40 := hc40.mv hM11 rfl; replace hc50 := hc50.mv hM11 rfl
       replace ho47 := hOq
       refine WT.val rfl rfl rfl (fun _ => Val.assign rfl) rfl ?_
       refine WT.nil ?_
       simp only [Int.toNat_natCast] at ho47
       have e1 : (x.take k).length + 1 + (x.drop k).length = k + 1 + (x.length - k) := by simp; omega
       rw [e1] at ho47
       exact ⟨_, _, (by repeat (first | exact Sub.nil _ | refine Sub.cons rfl ?_ | refine Sub.consM rfl ?_)), hO, h1, ho47⟩
     ·skip
      rintro e9 w9 ⟨c9, v', hsub, hO, h1, ho⟩
      refine WC.sub hsub ?_
      clear hsub e9
      refine cregion <| qq (Val.move rfl) rfl <| qq (Val.addI rfl rfl (by first | omega | assumption | (simp; omega) | (simp; done)) (by first | omega | assumption | (simp; omega) | (simp; done))) rfl <| qq (Val.assign rfl) rfl <| cnil ?_
      first
      | exact ⟨(i + 1, _, x), (by repeat (first | exact Sub.nil _ | refine Sub.cons rfl ?_ | refine Sub.consM rfl ?_)), ⟨_, hO, h1, ho, ka, by dsimp only; omega, hxs, hnm⟩, by dsimp only; omega⟩
      | (have e1 : (x.take k).flatMap (fun x => [St x]) ++ [St l[i]] ++ (x.drop k).flatMap (fun x => [St x]) = (x.take k ++ [l[i]] ++ x.drop k).flatMap (fun x => [St x]) := by rw [List.flatMap_append, List.flatMap_append]; rfl
         have e2 : k + 1 + (x.length - k) = (x.take k ++ [l[i]] ++ x.drop k).length := by simp; omega
         rw [e1, e2] at ho
         obtain ⟨c2, hO, h1, ho⟩ := recol (j := 3) hO h1 ho (by decide) (by decide)
         exact ⟨(i + 1, _, x.take k ++ [l[i]] ++ x.drop k), (by repeat (first | exact Sub.nil _ | refine Sub.cons rfl ?_ | refine Sub.consM rfl ?_)), ⟨_, hO, h1, ho, ka, by simp; omega, hns, hnm⟩, by dsimp only; omega⟩)
  ·try simp only [tstS] at hc3
   have : i = l.length := by omega
   subst this
   rw [List.take_length] at hxm
   have hxe := riseS_eq hxs hxm
   rw [hxe] at ho
   refine WC.exit rfl ?_
   refine cseq <| cregion <| qq (Val.move rfl) rfl <| qq (Val.assign rfl) rfl <| cnil ?_
   refine WC.ret1 rfl rfl ?_
   exact ⟨hO.below, ho.fromOld hO (by decide)⟩
end Go.Proofs.Ytnddlhjafkhdoaa
