/- Things: what roots lead to, as a list. No condition. -/
import Derived.Test.YtnddlhjafkhdoaaRch4
set_option linter.unusedSimpArgs false
set_option linter.unusedVariables false
set_option maxRecDepth 100000
namespace Go.Proofs.Ytnddlhjafkhdoaa
open Go Go.Eng Go.RowKit Silo TryT

set_option maxHeartbeats 1000000 in
theorem leads_ok {w : World} {v vR : Value} {T : List Thg} {R : List (List UInt8)} (h0 : Rd thgS w v T) (h2 : Rd strS w vR R) (hp : PlainV vR) (hr : RiseT T) (ht : ∀ t ∈ T, t.text.length ≤ 1048576) (hl : T.length ≤ 100000) (hrl : R.length ≤ 1000000) :
    Calls Try.prog 81 #[v, vR] w (Ret fun u w' => Below w.heap.size w w' ∧ Own w' w.heap.size 9 1 u (fromT T R).length ((fromT T R).flatMap fun x => [St x])) := by
  obtain ⟨c, hO, hc⟩ := OldC.start w
  have x1 := h0.cellsV
  have h1 : RdC thgS c w [0] v T := Rd.toC h0 (fun k hk => by simp [hc, hasC])
  replace h2 : RdC strS c w [0] vR R := Rd.toC h2 (fun k hk => by simp [hc, hasC])
  have hok := h0.okFlat
  obtain ⟨_, _, _, hlen⟩ := ordR_spec (T := T) R
  have hod : ∀ x ∈ (ordR T R).map (dgOf T), x.length ≤ 140737488355328 := fun x hx => by
    obtain ⟨i, _, rfl⟩ := List.mem_map.1 hx
    exact dgOf_ok (fun t ht => (hok t ht).1) i
  clear hc h0
  refine enter (n := 22) (res := #[.tmp 4]) Try.func81 rfl rfl rfl rfl ?_
  refine cseq <| cregion ?_
  refine WR.eff (Eff.box1C c 102 rfl (by first | rfl | assumption)) rfl ?_
  rintro _ w1 ⟨b2, c1, rfl, hM1, hb2⟩
  replace hO := hO.mv hM1 rfl; replace h1 := h1.mv hM1 rfl; replace h2 := h2.mv hM1 rfl
  refine qq (Val.assign rfl) rfl <| cnil <| cseq <| cregion ?_
  refine WR.eff (Eff.allocC c1 105 zero23) rfl ?_
  rintro _ w2 ⟨b5, c2, rfl, hM2, hb5⟩
  replace hO := hO.mv hM2 rfl; replace h1 := h1.mv hM2 rfl; replace h2 := h2.mv hM2 rfl; replace hb2 := hb2.mv hM2 rfl
  refine cnil <| cseq <| cseq <| cregion <| qq (Val.loadB scl52 rfl hb2.blk rfl) rfl <| qq (Val.move rfl) rfl ?_
  refine WR.eff (Eff.pureC c2 70 (Eff.call pf119 rfl (reached_ok h1.now h2.now))) rfl ?_
  rintro v9 w3 ⟨c3, hM3, hx3, ⟨p2, p3, rfl, hg2, hg3, hB2, hB3⟩⟩
  replace hO := hO.mv hM3 rfl; replace h1 := h1.mv hM3 rfl; replace h2 := h2.mv hM3 rfl; replace hb2 := hb2.mv hM3 rfl; replace hb5 := hb5.mv hM3 rfl
  have hp2 : BlkC _ _ 70 p2 [v] 52 := ⟨hB2, hx3 _ hg2⟩
  have hp3 : BlkC _ _ 70 p3 [vR] 23 := ⟨hB3, hx3 _ hg3⟩
  refine cnil <| cblock ?_
  refine WC.rangeFunc (α := Nat) (encs := fun i => [I i]) (κ := [50, 51]) (F := [0, 70] ++ [0]) (L := ordR T R)
    (fun pre d A => OldC w d A ∧ BlkC d A 102 b2 [v] 52 ∧ (∃ xv, BlkC d A 105 b5 [xv] 23 ∧ OwnC d A 60 9 1 xv (pre.map (dgOf T)).length ((pre.map (dgOf T)).flatMap fun x => [St x])) ∧ RdC thgS d A [0] v T)
    [] (fun _ _ _ => False) [105, 60] rfl rfl pf138 (reached_iter hp2 hp3 h1 h2 hp hr ht hl hrl) rfl (fun _ => rfl) (by simp) rfl
    (fun s d A d' B ⟨g1, g2, ⟨xv, g3, g4⟩, g5⟩ m => ⟨g1.mv m rfl, g2.mv m rfl, ⟨xv, g3.mv m rfl, g4.mv m rfl⟩, g5.mv m rfl⟩) (fun p hp => by cases hp) (fun s d A d' B h _ => h.elim)
    ⟨hO, hb2, ⟨_, hb5, OwnC.nil _ _ _ _ _⟩, h1⟩ ?_ ?_ ?_ ?_
  ·clear hO h1 h2 hb2 hb5 hp2 hp3 hB2 hB3
   rintro l pre i d A ⟨hO, hb2, ⟨xv, hb5, ho⟩, h1⟩ hpre
   have him : i ∈ ordR T R := hpre.subset (by simp)
   have hil := ordR_lt i him
   have hpl := hpre.length_le
   rw [List.length_append] at hpl
   have cx := ho.cellsV; have ox := ho.oneC
   have hml : (pre.map (dgOf T)).length = pre.length := by simp
   refine cregion <| qq (Val.assign rfl) rfl <| cnil ?_
   refine ⟨_, Acc.refl _ _ _, ?_⟩
   intro A2 hM2
   replace hO := hO.mv hM2 rfl; replace hb2 := hb2.mv hM2 rfl; replace hb5 := hb5.mv hM2 rfl; replace ho := ho.mv hM2 rfl; replace h1 := h1.mv hM2 rfl
   have hA := Acc.refl d A2 [105, 60]
   obtain ⟨hc14, _⟩ := RdC.elFlat h1 hil (by decide)
   refine cblock ?_
   refine WC.regionD (Kp d A2 [60]) [1, 1, 0, 0, 0, 1, 2, 2, 3] [0, 1, 2, 3, 4, 5, 6, 7, 8] mixed (by kernel_rfl) ?_
   have hM4 := Mv.drew d A2 []
   have hCw := Mv.drew d A2 [60]
   generalize A2.drew = w4 at hM4 hCw ⊢
   have hb20 := hb2
   have hb50 := hb5
   have hc140 := hc14
   replace hO := hO.mv hM4 rfl; replace hb2 := hb2.mv hM4 rfl; replace hb5 := hb5.mv hM4 rfl; replace ho := ho.mv hM4 rfl; replace h1 := h1.mv hM4 rfl; replace hA := hA.mv hM4 rfl; replace hc14 := hc14.mv hM4 rfl
   refine qc rfl rfl rfl hCw.kp (fun W hW => Val.loadB scl23 rfl (hb50.kp hW rfl).blk rfl) rfl <| qc rfl rfl rfl hCw.kp (fun W hW => Val.loadB scl52 rfl (hb20.kp hW rfl).blk rfl) rfl <| qd rfl rfl rfl (fun _ => Val.move rfl) rfl ?_
   first | refine WD.val rfl rfl rfl (fun _ => Val.indexAddr sl52 (by assumption) rfl rfl rfl (by first | omega | assumption | (simp; omega) | (simp; done)) (by first | omega | assumption | (simp; omega) | (simp; done))) rfl ?_ | refine WD.val rfl rfl rfl (fun _ => Val.indexC sl52 (by assumption) rfl rfl (by first | omega | assumption | (simp; omega) | (simp; done)) (by first | omega | assumption | (simp; omega) | (simp; done))) rfl ?_ | refine WD.val rfl rfl rfl (fun _ => Val.indexO sl52 (by assumption) rfl rfl (by first | omega | assumption | (simp; omega) | (simp; done)) (by first | omega | assumption | (simp; omega) | (simp; done))) rfl ?_
   first | refine WD.val rfl rfl rfl (fun _ => Val.fieldAddr fld62_0 rfl) rfl ?_ | refine WD.val rfl rfl rfl (fun _ => Val.fieldAddrP fld62_0 rfl) rfl ?_
   refine qc rfl rfl rfl hCw.kp (fun W hW => Val.loadEf scl9 rfl (hc140.kp hW rfl).cel rfl) rfl ?_
   refine WD.eff rfl rfl rfl (Eff.build1C d 117 sl23 rfl rfl rfl rfl rfl) rfl ?_
   rintro _ w5 ⟨b17, c5, rfl, hM5, hb17⟩
   refine ⟨fun hC => hC.step hCw hM5 rfl, ?_⟩
   replace hCw := hCw.tr hM5 rfl
   replace hO := hO.mv hM5 rfl; replace hb2 := hb2.mv hM5 rfl; replace hb5 := hb5.mv hM5 rfl; replace ho := ho.mv hM5 rfl; replace h1 := h1.mv hM5 rfl; replace hA := hA.mv hM5 rfl; replace hc14 := hc14.mv hM5 rfl
   refine WD.eff rfl rfl rfl (Eff.appendC sl23 rfl rfl ho (Src.cellsAt Try.underlying23 hb17.blk.cellsAt rfl (by repeat (first | exact List.forall_mem_nil _ | refine List.forall_mem_cons.2 ⟨by first | rfl | assumption, ?_⟩))) (by rw [maxLen_eq]; first | omega | (simp; omega)) (by first | omega | (simp; omega))) rfl ?_
   rintro v18 w6 ⟨c6, hM6, hOq⟩
   refine ⟨fun hC => hC.step hCw hM6 rfl, ?_⟩
   replace hCw := hCw.tr hM6 rfl
   clear hb17
   replace hO := hO.mv hM6 rfl; replace hb2 := hb2.mv hM6 rfl; replace hb5 := hb5.mv hM6 rfl; replace h1 := h1.mv hM6 rfl; replace hA := hA.mv hM6 rfl; replace hc14 := hc14.mv hM6 rfl
   replace ho := hOq
   have cx2 := ho.cellsV; have ox2 := ho.oneC
   refine WD.wild rfl rfl rfl (Eff.storeC scl23 rfl rfl (by first | rfl | assumption) (by first | rfl | assumption) hb5 rfl) ?_
   rintro _ w7 ⟨hS, hM7⟩
   try replace hCw := hCw.tr hM7 rfl
   replace hO := hO.mv hM7 rfl; replace hb2 := hb2.mv hM7 rfl; replace ho := ho.mv hM7 rfl; replace h1 := h1.mv hM7 rfl; replace hA := hA.mv hM7 rfl; replace hc14 := hc14.mv hM7 rfl
   replace hb5 := hS
   refine WD.nil ?_
   clear hb20 hb50 hc140
   clear hCw
   exact ⟨_, hA, hO, hb2, ⟨_, hb5, by rw [List.map_append, List.flatMap_append, List.length_append, List.map_singleton, dgOf_lt hil]; exact ho⟩, h1⟩
  ·clear hO h1 h2 hb2 hb5 hp2 hp3 hB2 hB3
   rintro D d B ⟨hO, hb2, ⟨xv, hb5, ho⟩, h1⟩ hD
   have hml : ((ordR T R).map (dgOf T)).length = (ordR T R).length := by simp
   refine cseq <| cregion <| qq (Val.loadB scl23 rfl hb5.blk rfl) rfl ?_
   refine WR.eff (Eff.grownO ho (Eff.call pf117 rfl (sortStrs_ok ho.own (by omega)))) rfl ?_
   rintro v20 w8 ⟨c8, hM8, hcol, ho2⟩
   replace hO := hO.mv hM8 rfl; replace hb2 := hb2.mv hM8 rfl; replace hb5 := hb5.mv hM8 rfl; replace hD := hD.mv hM8 rfl
   rw [ordR_sorted hr] at ho2
   replace ho := (⟨ho2, hcol⟩ : OwnC _ _ 60 9 1 xv _ _)
   refine cnil <| cseq <| cregion <| qq (Val.loadB scl23 rfl hb5.blk rfl) rfl <| qq (Val.assign rfl) rfl <| cnil ?_
   obtain ⟨hTk, hMTk⟩ := hD.take
   replace hO := hO.mv hMTk rfl; replace hb2 := hb2.mv hMTk rfl; replace hb5 := hb5.mv hMTk rfl; replace ho := ho.mv hMTk rfl
   refine WC.retMR1 rfl rfl hTk (RVal.tmp rfl) ?_
   exact ⟨hO.below, ho.fromOld hO (by decide)⟩
  ·exact fun p hp => by cases hp
  ·exact fun _ _ _ _ h => h.elim

theorem rfrom_ok {w : World} {v vR : Value} {T : List Thg} {R : List (List UInt8)} (h0 : Rd thgS w v T) (h2 : Rd strS w vR R) (hp : PlainV vR) (hrl : R.length ≤ 1000000) :
    Calls Try.prog 35 #[v, vR] w (Ret fun v' w' => Below w.heap.size w w' ∧ ∃ u, v' = .tuple #[u, I (if thgsMay T then 0 else 1)] ∧ Own w' w.heap.size 9 1 u (if thgsMay T then fromT T R else []).length ((if thgsMay T then fromT T R else []).flatMap fun x => [St x])) := by
  obtain ⟨c, hO, hc⟩ := OldC.start w
  have h1 : RdC thgS c w [0] v T := Rd.toC h0 (fun k hk => by simp [hc, hasC])
  replace h2 : RdC strS c w [0] vR R := Rd.toC h2 (fun k hk => by simp [hc, hasC])
  clear hc h0
  refine enter (n := 12) (res := #[.tmp 4, .tmp 5]) Try.func35 rfl rfl rfl rfl ?_
  refine cseq <| cregion <| qq (Val.assign rfl) rfl <| qq (Val.assign rfl) rfl <| cnil <| cseq <| cseq <| cregion <| qq (Val.move rfl) rfl ?_
  refine WR.eff (Eff.pureC c 1 (Eff.call pf80 rfl (rmay_ok h1.now))) rfl ?_
  rintro v7 w1 ⟨c1, hM1, hx1, rfl⟩
  replace hO := hO.mv hM1 rfl; replace h1 := h1.mv hM1 rfl; replace h2 := h2.mv hM1 rfl
  refine qq (Val.not rfl) rfl <| cnil ?_
  refine WC.cond rfl (fun hc1 => ?_) (fun hc1 => ?_)
  ·try simp only [tstS] at hc1
   refine cseq <| cregion <| qq (Val.assign rfl) rfl <| qq (Val.assign rfl) rfl <| cnil ?_
   refine WC.ret2 rfl rfl rfl ?_
   exact ⟨hO.below, _, by rw [hc1]; rfl, by rw [hc1]; exact Own.nil _ _ _ _⟩
  ·try simp only [tstS] at hc1
   have hb : ∀ t ∈ T, t.text.length ≤ 1048576 := fun t ht => by
     obtain ⟨i, hi, rfl⟩ := List.mem_iff_getElem.1 ht
     have := (thgsMay_at hc1 hi).2.1; omega
   have hl := thgsMay_len hc1
   refine cskip <| cseq <| cregion <| qq (Val.move rfl) rfl <| qq (Val.move rfl) rfl ?_
   refine WR.eff (Eff.pureC c1 7 (Eff.call pf81 rfl (leads_ok h1.now h2.now hp (thgsMay_rise hc1) hb (by omega) hrl))) rfl ?_
   rintro v11 w2 ⟨c2, hM2, hx2, ho⟩
   replace hO := hO.mv hM2 rfl; replace h1 := h1.mv hM2 rfl; replace h2 := h2.mv hM2 rfl
   replace ho := ho.toC hx2
   refine qq (Val.assign rfl) rfl <| qq (Val.assign rfl) rfl <| cnil ?_
   refine WC.ret2 rfl rfl rfl ?_
   exact ⟨hO.below, _, by rw [hc1]; rfl, by rw [hc1]; exact ho.fromOld hO (by decide)⟩

set_option maxHeartbeats 1000000 in
theorem pfrom_ok {w : World} {v vR : Value} {T : List Thg} {R : List (List UInt8)} (h0 : Rd thgS w v T) (h2 : Rd strS w vR R) (ht : ∀ t ∈ T, t.text.length ≤ 1048576) (hl : T.length ≤ 100000) (hrl : R.length ≤ 1000000) :
    Calls Try.prog 49 #[v, vR] w (Ret fun u w' => Below w.heap.size w w' ∧ Own w' w.heap.size 9 1 u (fromT T R).length ((fromT T R).flatMap fun x => [St x])) := by
  obtain ⟨c, hO, hc⟩ := OldC.start w
  have h1 : RdC thgS c w [0] v T := Rd.toC h0 (fun k hk => by simp [hc, hasC])
  have hro := h2.okFlat
  replace h2 : RdC strS c w [0] vR R := Rd.toC h2 (fun k hk => by simp [hc, hasC])
  have hok := h0.okFlat
  clear hc h0
  refine enter (n := 63) (res := #[.tmp 4]) Try.func49 rfl rfl rfl rfl ?_
  refine cseq <| cregion <| qq (Val.assign rfl) rfl <| cnil <| cseq <| cregion <| qq (Val.move rfl) rfl <| qq (Val.rdlenC sl52 h1 rfl) rfl ?_
  refine WR.eff (Eff.makeC c 50 sl97 rfl rfl (by first | omega | assumption | (simp; omega) | (simp; done)) (by first | omega | assumption | (simp; omega) | (simp; done)) (by first | omega | assumption | (simp; omega) | (simp; done))) rfl ?_
  rintro v12 w1 ⟨c1, hM1, ho12⟩
  replace hO := hO.mv hM1 rfl; replace h1 := h1.mv hM1 rfl; replace h2 := h2.mv hM1 rfl
  rw [Int.toNat_natCast, bools_zero] at ho12
  refine qq (Val.assign rfl) rfl <| cnil <| cseq <| cregion <| qq (Val.move rfl) rfl ?_
  refine WR.eff (Eff.pureC c1 51 (Eff.call pf15 rfl (copyStrings_ok h2.now (by omega)))) rfl ?_
  rintro v14 w2 ⟨c2, hM2, hx2, ho14⟩
  replace hO := hO.mv hM2 rfl; replace h1 := h1.mv hM2 rfl; replace h2 := h2.mv hM2 rfl; replace ho12 := ho12.mv hM2 rfl
  replace ho14 := ho14.toC hx2
  refine qq (Val.assign rfl) rfl <| cnil <| cseq <| cblock ?_
  have hT := ho14.tail
  refine WC.loop (σ := List Bool × List (List UInt8) × Value) (fun st => [(0, v), (5, v12), (6, st.2.2)]) (fun st w' => ∃ c', OldC w c' w' ∧ RdC thgS c' w' [0] v T ∧ OwnC c' w' 50 4 1 v12 T.length (st.1.flatMap fun b => [.bool b]) ∧ TailC c' w' 51 9 1 st.2.2 st.2.1.length (st.2.1.flatMap fun x => [St x]) ∧ BInv T R st.1 st.2.1 ∧ (∀ x ∈ st.2.1, x.length ≤ 140737488355328) ∧ bLeft st.1 st.2.1 ≤ R.length + 21 * T.length) (fun st => bLeft st.1 st.2.1) (List.replicate T.length false, R, v14) (by repeat (first | exact Sub.nil _ | refine Sub.cons rfl ?_ | refine Sub.consM rfl ?_)) ⟨_, hO, h1, ho12, hT, BInv.start T R, hro, by simp [bLeft, List.count_replicate_self]⟩ ?_
  clear hO h1 h2 ho12 hT ho14
  rintro ⟨seen, todo, tv⟩ wl ⟨cl, hO, h1, ho12, hT, hI, hto, hbl⟩
  dsimp only at hO h1 ho12 hT hI hto hbl ⊢
  have hsl := hI.len
  obtain ⟨A5, q5, rfl, hq5, _⟩ := hT.own.formA
  have htl : todo.length ≤ R.length + 21 * T.length := by unfold bLeft at hbl; omega
  have hS := OwnC.rdFlat (n' := 1) (enc := fun b => [Value.bool b]) (ok := fun _ => True) (h0 := fun _ => rfl) (h1 := fun _ u hu => by simp at hu; subst hu; rfl) (l := seen) (by rw [hsl]; exact ho12) (by omega) (fun _ _ => trivial)
  refine cseq <| cseq <| cregion <| qq (Val.move rfl) rfl ?_
  first | refine WR.val (Val.rdlen sl23 (by assumption) rfl) rfl ?_ | refine WR.val (Val.sllen Try.underlying23 rfl) rfl ?_ | refine WR.val (Val.olen sl23 (by assumption) rfl) rfl ?_ | refine WR.val (Val.rdlenC sl23 (by assumption) rfl) rfl ?_
  refine qq (Val.gtr rfl rfl) rfl <| cnil ?_
  refine WC.cond rfl (fun hc3 => ?_) (fun hc3 => ?_)
  ·try simp only [tstS] at hc3
   obtain ⟨d, t, rfl⟩ : ∃ d t, todo = d :: t := by
     cases todo with
     | nil => simp at hc3
     | cons d t => exact ⟨d, t, rfl⟩
   have hX : RdC strS cl wl [51] _ (d :: t) := hT.rdFlat (by omega) hto
   have hlen1 : (d :: t).length = t.length + 1 := rfl
   obtain ⟨hc20, _⟩ := RdC.elFlat hX (k := 0) (by simp) (by decide)
   replace hc20 : CelC cl wl [51] (elemA (.slice A5 (d :: t).length q5) 1 0) [St d] := hc20
   refine cskip <| cblock <| cseq <| cregion <| qq (Val.move rfl) rfl <| qq (Val.move rfl) rfl <| qq (Val.indexAddr sl23 hX.now rfl rfl rfl (by omega) (by omega)) rfl <| qq (Val.loadE1 scl9 rfl hc20.cel) rfl ?_
   refine WR.eff (Eff.pureC cl 1 (Eff.call pf38 rfl (at_ok h1.now))) rfl ?_
   rintro v22 w3 ⟨c3, hM3, hx3, rfl⟩
   replace hO := hO.mv hM3 rfl; replace h1 := h1.mv hM3 rfl; replace ho12 := ho12.mv hM3 rfl; replace hT := hT.mv hM3 rfl; replace hX := hX.mv hM3 rfl; replace hc20 := hc20.mv hM3 rfl
   refine qq (Val.assign rfl) rfl <| cnil <| cseq <| cregion <| qq (Val.move rfl) rfl <| qq (Val.partFrom sl23 rfl rfl (by omega) (by omega)) rfl ?_
   replace hT := TailC.rest (enc := fun x => [St x]) hT rfl
   generalize subV (.slice A5 (d :: t).length q5) (1 : Int).toNat (d :: t).length 1 = tw at hT ⊢
   have hto2 : ∀ x ∈ t, x.length ≤ 140737488355328 := fun x hx => hto x (by simp [hx])
   have hS := OwnC.rdFlat (n' := 1) (enc := fun b => [Value.bool b]) (ok := fun _ => True) (h0 := fun _ => rfl) (h1 := fun _ u hu => by simp at hu; subst hu; rfl) (l := seen) (by rw [hsl]; exact ho12) (by omega) (fun _ _ => trivial)
   refine qq (Val.assign rfl) rfl <| cnil <| cseq <| cregion <| qq (Val.move rfl) rfl <| qq (Val.geq rfl rfl) rfl <| qq (Val.move rfl) rfl ?_
   apply WR.sc true 5 _ (fun w' => w3 = w')
   case hl => rfl
   case hg => rfl
   case hu => rfl
   case hv => rfl
   case hs => rfl
   case hoff => rfl
   case hd => rfl
   case hF => exact fun _ => rfl
   case hT =>
    intro hq8
    try simp only [tstS] at hq8
    simp only [List.take_succ_cons, List.take_zero]
    obtain ⟨i0, hi0, hf, hil⟩ := at_find hq8
    have htn : (atT T d).toNat = i0 := by omega
    have hil2 : (atT T d).toNat < seen.length := by omega
    obtain ⟨hc30, _⟩ := RdC.elFlat hS hil2 (by decide)
    have hv1 : ([Value.bool seen[(atT T d).toNat]] : List Value) = [.bool (seen[(atT T d).toNat]?.getD true)] := by rw [List.getElem?_eq_getElem hil2]; rfl
    rw [hv1] at hc30
    refine WR.on rfl rfl ?_
    refine qq (Val.move rfl) rfl ?_
    refine WR.on rfl rfl ?_
    refine qq (Val.move rfl) rfl ?_
    refine WR.on rfl rfl ?_
    refine qq (Val.indexO sl97 ho12 rfl rfl (by omega) (by omega)) rfl ?_
    refine WR.on rfl rfl ?_
    refine qq (Val.loadE1 scl4 rfl hc30.cel) rfl ?_
    refine WR.on rfl rfl ?_
    refine qq (Val.not rfl) rfl ?_
    exact WR.nil ⟨rfl, Sub.drop _ 5 _ rfl rfl, rfl⟩
   rintro _ rfl
   refine cnil ?_
   refine WC.cond rfl (fun hc6 => ?_) (fun hc6 => ?_)
   ·try simp only [tstS] at hc6
    obtain ⟨hc6a, hc6b⟩ := hc6
    obtain ⟨i, hi, hf, hil⟩ := at_find hc6a
    rw [hi] at hc6b ⊢
    rw [Int.toNat_natCast] at hc6b
    have hil2 : i < seen.length := by omega
    have h0 : seen[i] = false := by rw [List.getElem?_eq_getElem hil2] at hc6b; exact hc6b
    have hbv := bLeft_visit (T := T) (d := d) (t := t) hil2 h0
    have hI2 := hI.visit hf
    obtain ⟨hc40, _⟩ := RdC.elFlat h1 hil (by decide)
    have hnl := namesT_len T[i]
    have hne := nmOf_lt (T := T) hil
    refine cseq <| cregion <| qq (Val.move rfl) rfl <| qq (Val.move rfl) rfl <| qq (Val.indexO sl97 ho12 rfl rfl (by omega) (by omega)) rfl ?_
    refine WR.eff_ (Eff.storeOC scl4 ho12 (by first | omega | assumption | (simp; omega) | (simp; done)) rfl rfl (by first | rfl | assumption) (by first | rfl | assumption)) ?_
    rintro _ w4 ⟨hS, hM4⟩
    replace hO := hO.mv hM4 rfl; replace h1 := h1.mv hM4 rfl; replace hT := hT.mv hM4 rfl; replace hc40 := hc40.mv hM4 rfl
    replace ho12 := hS
    rw [Int.toNat_natCast, bools_set] at ho12
    refine cnil <| cregion <| qq (Val.move rfl) rfl <| qq (Val.move rfl) rfl <| qq (Val.move rfl) rfl ?_
    first | refine WR.val (Val.indexAddr sl52 (by assumption) rfl rfl rfl (by first | omega | assumption | (simp; omega) | (simp; done)) (by first | omega | assumption | (simp; omega) | (simp; done))) rfl ?_ | refine WR.val (Val.indexC sl52 (by assumption) rfl rfl (by first | omega | assumption | (simp; omega) | (simp; done)) (by first | omega | assumption | (simp; omega) | (simp; done))) rfl ?_ | refine WR.val (Val.indexO sl52 (by assumption) rfl rfl (by first | omega | assumption | (simp; omega) | (simp; done)) (by first | omega | assumption | (simp; omega) | (simp; done))) rfl ?_
    refine qq (Val.loadE agg62 rfl hc40.cel rfl) rfl ?_
    refine WR.eff (Eff.pureC c3 52 (Eff.call pf40 rfl (named_ok T[i] (ht _ (List.getElem_mem hil))))) rfl ?_
    rintro v42 w5 ⟨c5, hM5, hx5, hn⟩
    replace hO := hO.mv hM5 rfl; replace h1 := h1.mv hM5 rfl; replace ho12 := ho12.mv hM5 rfl; replace hT := hT.mv hM5 rfl; replace hc40 := hc40.mv hM5 rfl
    replace hn := hn.toC hx5
    have hnr : RdS strS _ _ v42 (namesT T[i]) := hn.own.rdStrs namesT_texts (by omega)
    refine WR.eff (Eff.appendT sl23 rfl rfl hT (Src.flat Try.underlying23 hnr) (by rw [maxLen_eq]; first | omega | (simp; omega)) (by first | omega | (simp; omega))) rfl ?_
    rintro v43 w6 ⟨c6, hM6, hOq⟩
    replace hO := hO.mv hM6 rfl; replace h1 := h1.mv hM6 rfl; replace ho12 := ho12.mv hM6 rfl; replace hc40 := hc40.mv hM6 rfl; replace hn := hn.mv hM6 rfl
    replace hT := hOq
    refine qq (Val.assign rfl) rfl <| cnil ?_
    rw [← List.flatMap_append, ← List.length_append, ← hne] at hT
    exact ⟨(seen.set i true, t ++ nmOf T i, v43), (by repeat (first | exact Sub.nil _ | refine Sub.cons rfl ?_ | refine Sub.consM rfl ?_)), ⟨_, hO, h1, ho12, hT, hI2, fun x hx => (List.mem_append.1 hx).elim (hto2 x) (nmOf_texts x), by dsimp only; omega⟩, by dsimp only; omega⟩
   ·try simp only [tstS] at hc6
    have hsk : ∀ j, findT T d = some j → seen[j]? = some true := fun j hj => by
      obtain ⟨hjl, _⟩ := findT_some hj
      have hat : atT T d = j := by rw [atT, hj]
      rw [hat, decide_eq_true (Int.natCast_nonneg j), Int.toNat_natCast, Bool.true_and, List.getElem?_eq_getElem (show j < seen.length by omega)] at hc6
      rw [List.getElem?_eq_getElem (show j < seen.length by omega)]
      simpa using hc6
    have hI2 := hI.skip hsk
    have hbe : bLeft seen (d :: t) = bLeft seen t + 1 := by simp only [bLeft, List.length_cons]; omega
    refine cskip ?_
    exact ⟨(seen, t, tw), (by repeat (first | exact Sub.nil _ | refine Sub.cons rfl ?_ | refine Sub.consM rfl ?_)), ⟨_, hO, h1, ho12, hT, hI2, hto2, by dsimp only; omega⟩, by dsimp only; omega⟩
  ·try simp only [tstS] at hc3
   have htn : todo = [] := by
     cases todo with
     | nil => rfl
     | cons d t => simp at hc3
   subst htn
   have hd := fun (i : Nat) (hi : i < seen.length) => hI.done_get hi
   clear hI hto hbl htl hc3
   refine WC.exit rfl ?_
   refine cseq <| cregion <| qq (Val.assign rfl) rfl <| cnil <| cseq <| cseq <| cregion <| qq (Val.assign rfl) rfl <| cnil ?_
   refine cblock ?_
   refine WC.loop (σ := Nat × Value) (fun st => [(0, v), (5, v12), (8, st.2), (9, I st.1)]) (fun st w' => ∃ c', OldC w c' w' ∧ RdC thgS c' w' [0] v T ∧ OwnC c' w' 50 4 1 v12 T.length (seen.flatMap fun b => [.bool b]) ∧ OwnC c' w' 60 9 1 st.2 (fromUpTo T R st.1).length ((fromUpTo T R st.1).flatMap fun x => [St x]) ∧ st.1 ≤ T.length) (fun st => T.length - st.1) (0, .slice none 0 0) (by repeat (first | exact Sub.nil _ | refine Sub.cons rfl ?_ | refine Sub.consM rfl ?_)) ⟨_, hO, h1, ho12, OwnC.nil _ _ _ _ _, by simp⟩ ?_
   clear hO h1 ho12 hT hS
   rintro ⟨k, xv⟩ wk ⟨ck, hO, h1, ho12, ho, hk⟩
   dsimp only at hO h1 ho12 ho hk ⊢
   have hfl := fromUpTo_len T R k
   have hS := OwnC.rdFlat (n' := 1) (enc := fun b => [Value.bool b]) (ok := fun _ => True) (h0 := fun _ => rfl) (h1 := fun _ u hu => by simp at hu; subst hu; rfl) (l := seen) (by rw [hsl]; exact ho12) (by omega) (fun _ _ => trivial)
   refine cseq <| cseq <| cregion <| qq (Val.move rfl) rfl <| qq (Val.move rfl) rfl ?_
   first | refine WR.val (Val.rdlen sl52 (by assumption) rfl) rfl ?_ | refine WR.val (Val.sllen Try.underlying52 rfl) rfl ?_ | refine WR.val (Val.olen sl52 (by assumption) rfl) rfl ?_ | refine WR.val (Val.rdlenC sl52 (by assumption) rfl) rfl ?_
   refine qq (Val.lss rfl rfl) rfl <| cnil ?_
   refine WC.cond rfl (fun hc11 => ?_) (fun hc11 => ?_)
   ·try simp only [tstS] at hc11
    have ka : k < T.length := by omega
    have kb : k < seen.length := by omega
    obtain ⟨hc52, _⟩ := RdC.elFlat hS kb (by decide)
    obtain ⟨hc57, _⟩ := RdC.elFlat h1 ka (by decide)
    rw [hd k kb] at hc52
    have hfs := fromUpTo_succ T R k
    rw [dgOf_lt ka] at hfs
    refine cskip <| cseq <| cblock <| cseq <| cregion <| qq (Val.move rfl) rfl <| qq (Val.move rfl) rfl <| qq (Val.indexO sl97 ho12 rfl rfl (by omega) (by omega)) rfl <| qq (Val.loadE1 scl4 rfl hc52.cel) rfl ?_
    refine cnil ?_
    refine WC.cond rfl (fun hc13 => ?_) (fun hc13 => ?_)
    ·try simp only [tstS] at hc13
     rw [if_pos hc13] at hfs
     refine cregion <| qq (Val.move rfl) rfl <| qq (Val.move rfl) rfl <| qq (Val.move rfl) rfl ?_
     first | refine WR.val (Val.indexAddr sl52 (by assumption) rfl rfl rfl (by first | omega | assumption | (simp; omega) | (simp; done)) (by first | omega | assumption | (simp; omega) | (simp; done))) rfl ?_ | refine WR.val (Val.indexC sl52 (by assumption) rfl rfl (by first | omega | assumption | (simp; omega) | (simp; done)) (by first | omega | assumption | (simp; omega) | (simp; done))) rfl ?_ | refine WR.val (Val.indexO sl52 (by assumption) rfl rfl (by first | omega | assumption | (simp; omega) | (simp; done)) (by first | omega | assumption | (simp; omega) | (simp; done))) rfl ?_
     first | refine WR.val (Val.fieldAddr fld62_0 rfl) rfl ?_ | refine WR.val (Val.fieldAddrP fld62_0 rfl) rfl ?_
     refine qq (Val.loadEf scl9 rfl hc57.cel rfl) rfl ?_
     refine WR.eff (Eff.build1C ck 160 sl23 rfl rfl rfl rfl rfl) rfl ?_
     rintro _ w7 ⟨b60, c7, rfl, hM7, hb60⟩
     replace hO := hO.mv hM7 rfl; replace h1 := h1.mv hM7 rfl; replace ho12 := ho12.mv hM7 rfl; replace ho := ho.mv hM7 rfl; replace hc52 := hc52.mv hM7 rfl; replace hc57 := hc57.mv hM7 rfl
     refine WR.eff (Eff.appendC sl23 rfl rfl ho (Src.cellsAt Try.underlying23 hb60.blk.cellsAt rfl (by repeat (first | exact List.forall_mem_nil _ | refine List.forall_mem_cons.2 ⟨by first | rfl | assumption, ?_⟩))) (by rw [maxLen_eq]; first | omega | (simp; omega)) (by first | omega | (simp; omega))) rfl ?_
     rintro v61 w8 ⟨c8, hM8, hOq⟩
     clear hb60
     replace hO := hO.mv hM8 rfl; replace h1 := h1.mv hM8 rfl; replace ho12 := ho12.mv hM8 rfl; replace hc52 := hc52.mv hM8 rfl; replace hc57 := hc57.mv hM8 rfl
     replace ho := hOq
     refine qq (Val.assign rfl) rfl <| cnil <| cregion <| qq (Val.move rfl) rfl <| qq (Val.addI rfl rfl (by first | omega | assumption | (simp; omega) | (simp; done)) (by first | omega | assumption | (simp; omega) | (simp; done))) rfl <| qq (Val.assign rfl) rfl <| cnil ?_
     first
     | exact ⟨(k + 1, xv), (by repeat (first | exact Sub.nil _ | refine Sub.cons rfl ?_ | refine Sub.consM rfl ?_)), ⟨_, hO, h1, ho12, by rw [hfs]; exact ho, ka⟩, by dsimp only; omega⟩
     | exact ⟨(k + 1, v61), (by repeat (first | exact Sub.nil _ | refine Sub.cons rfl ?_ | refine Sub.consM rfl ?_)), ⟨_, hO, h1, ho12, by rw [hfs, List.flatMap_append, List.length_append]; exact ho, ka⟩, by dsimp only; omega⟩
    ·try simp only [tstS] at hc13
     rw [if_neg (by rw [hc13]; decide)] at hfs
     refine cskip <| cregion <| qq (Val.move rfl) rfl <| qq (Val.addI rfl rfl (by first | omega | assumption | (simp; omega) | (simp; done)) (by first | omega | assumption | (simp; omega) | (simp; done))) rfl <| qq (Val.assign rfl) rfl <| cnil ?_
     first
     | exact ⟨(k + 1, xv), (by repeat (first | exact Sub.nil _ | refine Sub.cons rfl ?_ | refine Sub.consM rfl ?_)), ⟨_, hO, h1, ho12, by rw [hfs]; exact ho, ka⟩, by dsimp only; omega⟩
     | exact ⟨(k + 1, v61), (by repeat (first | exact Sub.nil _ | refine Sub.cons rfl ?_ | refine Sub.consM rfl ?_)), ⟨_, hO, h1, ho12, by rw [hfs, List.flatMap_append, List.length_append]; exact ho, ka⟩, by dsimp only; omega⟩
   ·try simp only [tstS] at hc11
    have : k = T.length := by omega
    subst this
    refine WC.exit rfl ?_
    refine cseq <| cregion <| qq (Val.move rfl) rfl <| qq (Val.assign rfl) rfl <| cnil ?_
    refine WC.ret1 rfl rfl ?_
    exact ⟨hO.below, ho.fromOld hO (by decide)⟩
end Go.Proofs.Ytnddlhjafkhdoaa
