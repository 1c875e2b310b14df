/- Things: an order, each behind what it names. No condition. -/
import Derived.Test.YtnddlhjafkhdoaaRch5
set_option linter.unusedSimpArgs false
set_option linter.unusedVariables false
set_option maxRecDepth 100000
namespace Silo
open Go Go.Eng
def okT (T : List Thg) (told : List Nat) (d : List UInt8) : Bool := match findT T d with | none => true | some k => decide (k ∈ told)
theorem readyT_eq (T : List Thg) (told : List Nat) (i : Nat) : readyT T told i = (nmOf T i).all (okT T told) := rfl
def tbs (T : List Thg) (tl : List Nat) : List Bool := (List.range T.length).map fun i => decide (i ∈ tl)
theorem tbs_len (T : List Thg) (tl : List Nat) : (tbs T tl).length = T.length := by simp [tbs]
theorem tbs_get {T : List Thg} {tl : List Nat} {i : Nat} (hi : i < T.length) : (tbs T tl)[i]? = some (decide (i ∈ tl)) := by
  rw [tbs, List.getElem?_map, List.getElem?_range hi]; rfl
theorem tbs_start (T : List Thg) : tbs T [] = List.replicate T.length false := by
  apply List.ext_getElem?
  intro i
  rcases Nat.lt_or_ge i T.length with h | h
  · rw [tbs_get h, List.getElem?_replicate, if_pos h]; rfl
  · rw [List.getElem?_eq_none (by rw [tbs_len]; exact h), List.getElem?_eq_none (by simpa using h)]
theorem tbs_set (T : List Thg) (tl : List Nat) (i : Nat) : (tbs T tl).set i true = tbs T (tl ++ [i]) := by
  apply List.ext_getElem?
  intro j
  rcases Nat.lt_or_ge j T.length with h | h
  · rw [tbs_get h, List.getElem?_set, tbs_len, tbs_get h]
    by_cases e : i = j
    · subst e; simp [h]
    · simp [e]; simp [show ¬ j = i from fun h => e h.symm]
  · rw [List.getElem?_eq_none (by rw [List.length_set, tbs_len]; exact h), List.getElem?_eq_none (by rw [tbs_len]; exact h)]
theorem orderGo_step {T : List Thg} {n i : Nat} {tl : List Nat} (h : nextT T tl = some i) (hn : tl.length < n) : orderGo T (n - tl.length) tl = orderGo T (n - (tl ++ [i]).length) (tl ++ [i]) := by
  have e : n - tl.length = (n - (tl.length + 1)) + 1 := by omega
  rw [e, orderGo, h]
  simp
theorem orderGo_none {T : List Thg} {n : Nat} {tl : List Nat} (h : nextT T tl = none) (hn : tl.length < n) : orderGo T (n - tl.length) tl = none := by
  have e : n - tl.length = (n - (tl.length + 1)) + 1 := by omega
  rw [e, orderGo, h]
theorem orderGo_done {T : List Thg} {n : Nat} {tl : List Nat} (hn : ¬ tl.length < n) : orderGo T (n - tl.length) tl = some tl := by
  rw [show n - tl.length = 0 by omega]; rfl
theorem has_told {T : List Thg} (hr : RiseT T) {told : List Nat} (hl : ∀ j ∈ told, j < T.length) {i : Nat} (hi : i < T.length) : (told.map (dgOf T)).contains T[i].digest = decide (i ∈ told) := by
  rw [Bool.eq_iff_iff, List.contains_iff_mem, decide_eq_true_eq, List.mem_map]
  constructor
  · rintro ⟨j, hj, e⟩
    rw [dgOf_lt (hl j hj)] at e
    rw [← hr.inj (hl j hj) hi e]; exact hj
  · intro h; exact ⟨i, h, dgOf_lt hi⟩
theorem okT_page {T : List Thg} (hr : RiseT T) {told : List Nat} (hl : ∀ j ∈ told, j < T.length) (d : List UInt8) : (decide (atT T d < 0) || (told.map (dgOf T)).contains d) = okT T told d := by
  unfold atT okT
  cases hf : findT T d with
  | none => rfl
  | some i =>
    obtain ⟨hi, e⟩ := findT_some hf
    have := has_told hr hl hi
    rw [e] at this
    rw [this, decide_eq_false (show ¬ (i : Int) < 0 by omega)]; rfl
theorem noStep {T : List Thg} {tl : List Nat} {k : Nat} (hno : ∀ j, j < k → j ∈ tl ∨ readyT T tl j = false) (h : k ∈ tl ∨ readyT T tl k = false) : ∀ j, j < k + 1 → j ∈ tl ∨ readyT T tl j = false := fun j hj => by
  rcases Nat.lt_or_ge j k with h2 | h2
  · exact hno j h2
  · have : j = k := by omega
    subst this; exact h
/-- What an order's asking tells. -/
def ordE (T : List Thg) : Int := if thgsMay T then (if (orderT T).isSome then 0 else 7) else 1
def ordX (T : List Thg) : List (List UInt8) := if thgsMay T then (orderT T).getD [] else []
end Silo
namespace Go.Proofs.Ytnddlhjafkhdoaa
open Go Go.Eng Go.RowKit Silo TryT

set_option maxHeartbeats 2000000 in
theorem rorder_ok {w : World} {v : Value} {T : List Thg} (h0 : Rd thgS w v T) :
    Calls Try.prog 44 #[v] w (Ret fun v' w' => Below w.heap.size w w' ∧ ∃ u, v' = .tuple #[u, I (ordE T)] ∧ Own w' w.heap.size 9 1 u (ordX T).length ((ordX T).flatMap fun x => [St x])) := by
  obtain ⟨c, hO, hc⟩ := OldC.start w
  have h1 : RdC thgS c w [0] v T := Rd.toC h0 (fun k hk => by simp [hc, hasC])
  have hsm := h0.small
  clear hc h0
  refine enter (n := 66) (res := #[.tmp 2, .tmp 3]) Try.func44 rfl rfl rfl rfl ?_
  refine cseq <| cregion <| qq (Val.assign rfl) rfl <| qq (Val.assign rfl) rfl <| cnil ?_
  refine WC.scope ?_
  refine cseq <| cseq <| cregion <| qq (Val.move rfl) rfl ?_
  refine WR.eff (Eff.pureC c 1 (Eff.call pf80 rfl (rmay_ok h1.now))) rfl ?_
  rintro v13 w1 ⟨c1, hM1, hx1, rfl⟩
  replace hO := hO.mv hM1 rfl; replace h1 := h1.mv hM1 rfl
  refine qq (Val.not rfl) rfl <| cnil ?_
  refine WC.cond rfl (fun hc1 => ?_) (fun hc1 => ?_)
  ·try simp only [tstS] at hc1
   refine cseq <| cregion <| qq (Val.assign rfl) rfl <| qq (Val.assign rfl) rfl <| cnil ?_
   refine WC.ret2 rfl rfl rfl ?_
   exact ⟨hO.below, _, by rw [ordE, hc1]; rfl, by rw [ordX, hc1]; exact Own.nil _ _ _ _⟩
  ·try simp only [tstS] at hc1
   have hb : ∀ t ∈ T, t.text.length ≤ 1048576 := fun t ht => by
     obtain ⟨i, hi, rfl⟩ := List.mem_iff_getElem.1 ht
     have := (thgsMay_at hc1 hi).2.1; omega
   have hl := thgsMay_len hc1
   have hr := thgsMay_rise hc1
   refine cskip <| cseq <| cregion <| qq (Val.move rfl) rfl <| qq (Val.rdlenC sl52 h1 rfl) rfl ?_
   refine WR.eff (Eff.makeC c1 50 sl97 rfl rfl (by first | omega | assumption | (simp; omega) | (simp; done)) (by first | omega | assumption | (simp; omega) | (simp; done)) (by first | omega | assumption | (simp; omega) | (simp; done))) rfl ?_
   rintro v17 w2 ⟨c2, hM2, ho17⟩
   replace hO := hO.mv hM2 rfl; replace h1 := h1.mv hM2 rfl
   rw [Int.toNat_natCast, bools_zero, ← tbs_start] at ho17
   refine qq (Val.assign rfl) rfl <| cnil <| cseq <| cregion <| qq (Val.assign rfl) rfl <| cnil <| cseq ?_
   refine WC.label ?_
   refine cseq <| cblock ?_
   refine WC.loop (σ := List Nat × Value) (fun st => [(0, v), (4, v17), (5, st.2)]) (fun st w' => ∃ c', OldC w c' w' ∧ RdC thgS c' w' [0] v T ∧ OwnC c' w' 50 4 1 v17 T.length ((tbs T st.1).flatMap fun b => [.bool b]) ∧ OwnC c' w' 60 9 1 st.2 (st.1.map (dgOf T)).length ((st.1.map (dgOf T)).flatMap fun x => [St x]) ∧ (∀ j ∈ st.1, j < T.length) ∧ orderGo T (T.length - st.1.length) st.1 = orderGo T T.length []) (fun st => T.length - st.1.length) ([], .slice none 0 0) (by repeat (first | exact Sub.nil _ | refine Sub.cons rfl ?_ | refine Sub.consM rfl ?_)) ⟨_, hO, h1, ho17, OwnC.nil _ _ _ _ _, by simp, rfl⟩ ?_
   clear hO h1 ho17
   rintro ⟨tl, xv⟩ wl ⟨cl, hO, h1, ho17, ho, htl, hgo⟩
   dsimp only at hO h1 ho17 ho htl hgo ⊢
   have hml : (tl.map (dgOf T)).length = tl.length := by simp
   refine cseq <| cseq <| cregion <| qq (Val.move rfl) rfl <| qq (Val.olen sl23 ho rfl) rfl <| qq (Val.move rfl) rfl <| qq (Val.rdlenC sl52 h1 rfl) rfl <| qq (Val.lss rfl rfl) rfl <| cnil ?_
   refine WC.cond rfl (fun hc5 => ?_) (fun hc5 => ?_)
   ·try simp only [tstS] at hc5
    have htlt : tl.length < T.length := by omega
    refine cskip <| cblock ?_
    refine WC.scope ?_
    refine cseq ?_
    refine WC.label ?_
    refine cseq <| cseq <| cregion <| qq (Val.move rfl) rfl <| qq (Val.rdlenC sl52 h1 rfl) rfl <| qq (Val.move rfl) rfl <| cnil <| cblock ?_
    refine WC.loop (σ := Nat) (fun k => [(0, v), (4, v17), (5, xv), (23, v), (24, I T.length), (25, I k)]) (fun k w' => ∃ c', OldC w c' w' ∧ RdC thgS c' w' [0] v T ∧ OwnC c' w' 50 4 1 v17 T.length ((tbs T tl).flatMap fun b => [.bool b]) ∧ OwnC c' w' 60 9 1 xv (tl.map (dgOf T)).length ((tl.map (dgOf T)).flatMap fun x => [St x]) ∧ k ≤ T.length ∧ ∀ j, j < k → j ∈ tl ∨ readyT T tl j = false) (fun k => T.length - k) 0 (by repeat (first | exact Sub.nil _ | refine Sub.cons rfl ?_ | refine Sub.consM rfl ?_)) ⟨_, hO, h1, ho17, ho, by omega, fun j h => absurd h (Nat.not_lt_zero _)⟩ ?_
    clear hO h1 ho17 ho
    rintro k wk ⟨ck, hO, h1, ho17, ho, hk, hno⟩
    refine cseq <| cregion <| qq (Val.lss rfl rfl) rfl <| cnil <| cseq ?_
    refine WC.cond rfl (fun hc7 => ?_) (fun hc7 => ?_)
    ·try simp only [tstS] at hc7
     have ka : k < T.length := by omega
     obtain ⟨hc28, _⟩ := RdC.elFlat h1 ka (by decide)
     have hS := OwnC.rdFlat (n' := 1) (enc := fun b => [Value.bool b]) (ok := fun _ => True) (h0 := fun _ => rfl) (h1 := fun _ u hu => by simp at hu; subst hu; rfl) (l := tbs T tl) (by rw [tbs_len]; exact ho17) (by rw [tbs_len]; omega) (fun _ _ => trivial)
     have kt : k < (tbs T tl).length := by rw [tbs_len]; exact ka
     have hg := tbs_get (tl := tl) ka
     rw [List.getElem?_eq_getElem kt, Option.some.injEq] at hg
     obtain ⟨hc32, _⟩ := RdC.elFlat hS kt (by decide)
     rw [hg] at hc32
     clear hg hS
     refine cskip <| cseq <| cblock <| cseq <| cregion <| qq (Val.move rfl) rfl ?_
     first | refine WR.val (Val.indexAddr sl52 (by assumption) rfl rfl rfl (by first | omega | assumption | (simp; omega) | (simp; done)) (by first | omega | assumption | (simp; omega) | (simp; done))) rfl ?_ | refine WR.val (Val.indexC sl52 (by assumption) rfl rfl (by first | omega | assumption | (simp; omega) | (simp; done)) (by first | omega | assumption | (simp; omega) | (simp; done))) rfl ?_ | refine WR.val (Val.indexO sl52 (by assumption) rfl rfl (by first | omega | assumption | (simp; omega) | (simp; done)) (by first | omega | assumption | (simp; omega) | (simp; done))) rfl ?_
     refine qq (Val.loadE agg62 rfl hc28.cel rfl) rfl ?_
     refine WR.eff (Eff.allocC ck 107 zero62) rfl ?_
     rintro _ w3 ⟨b7, c3, rfl, hM3, hb7⟩
     replace hO := hO.mv hM3 rfl; replace h1 := h1.mv hM3 rfl; replace ho17 := ho17.mv hM3 rfl; replace ho := ho.mv hM3 rfl; replace hc28 := hc28.mv hM3 rfl; replace hc32 := hc32.mv hM3 rfl
     refine qq (Val.assign rfl) rfl ?_
     refine WR.eff_ (Eff.storeNC agg62 rfl rfl hb7 rfl rfl (by repeat (first | exact List.forall_mem_nil _ | refine List.forall_mem_cons.2 ⟨by first | rfl | assumption, ?_⟩))) ?_
     rintro _ w4 ⟨hS, hM4⟩
     replace hO := hO.mv hM4 rfl; replace h1 := h1.mv hM4 rfl; replace ho17 := ho17.mv hM4 rfl; replace ho := ho.mv hM4 rfl; replace hc28 := hc28.mv hM4 rfl; replace hc32 := hc32.mv hM4 rfl
     replace hb7 := hS
     refine cnil <| cseq <| cseq <| cregion <| qq (Val.move rfl) rfl <| qq (Val.move rfl) rfl <| qq (Val.indexO sl97 ho17 rfl rfl (by omega) (by omega)) rfl <| qq (Val.loadE1 scl4 rfl hc32.cel) rfl <| cnil ?_
     refine WC.cond rfl (fun hc9 => ?_) (fun hc9 => ?_)
     ·try simp only [tstS] at hc9
      have hbad : k ∈ tl ∨ readyT T tl k = false := .inl hc9
      refine WC.exit rfl ?_
      refine cregion <| qq (Val.addI rfl rfl (by first | omega | assumption | (simp; omega) | (simp; done)) (by first | omega | assumption | (simp; omega) | (simp; done))) rfl <| qq (Val.move rfl) rfl <| cnil ?_
      exact ⟨k + 1, (by repeat (first | exact Sub.nil _ | refine Sub.cons rfl ?_ | refine Sub.consM rfl ?_)), ⟨_, hO, h1, ho17, ho, ka, fun j h => by
        rcases Nat.lt_or_ge j k with h2 | h2
        · exact hno j h2
        · have : j = k := by omega
          subst this; exact hbad⟩, by omega⟩
     ·try simp only [tstS] at hc9
      have hnk : k ∉ tl := hc9
      refine cskip <| cseq <| cseq <| cregion <| qq (Val.loadBN agg62 rfl hb7.blk rfl) rfl ?_
      refine WR.eff (Eff.pureC c3 52 (Eff.call pf83 rfl (rnames_ok T[k] (hb _ (List.getElem_mem ka))))) rfl ?_
      rintro v35 w5 ⟨c5, hM5, hx5, hn⟩
      replace hO := hO.mv hM5 rfl; replace h1 := h1.mv hM5 rfl; replace ho17 := ho17.mv hM5 rfl; replace ho := ho.mv hM5 rfl; replace hb7 := hb7.mv hM5 rfl
      replace hn := hn.toC hx5
      have hnl := namesT_len T[k]
      have hNm : RdC strS _ _ [52] v35 (namesT T[k]) := hn.rdFlat (by omega) namesT_texts
      refine qq (Val.rdlenC sl23 hNm rfl) rfl <| qq (Val.move rfl) rfl <| cnil <| cblock ?_
      refine WC.loop (σ := Nat) (fun m => [(0, v), (4, v17), (5, xv), (6, I k), (7, .pointer (some ⟨b7, 0, none⟩)), (23, v), (24, I T.length), (25, I k), (35, v35), (36, I (namesT T[k]).length), (37, I m)]) (fun m w' => ∃ c', OldC w c' w' ∧ RdC thgS c' w' [0] v T ∧ OwnC c' w' 50 4 1 v17 T.length ((tbs T tl).flatMap fun b => [.bool b]) ∧ OwnC c' w' 60 9 1 xv (tl.map (dgOf T)).length ((tl.map (dgOf T)).flatMap fun x => [St x]) ∧ BlkC c' w' 107 b7 (encThg T[k]) 62 ∧ RdC strS c' w' [52] v35 (namesT T[k]) ∧ m ≤ (namesT T[k]).length ∧ ∀ q (hq : q < (namesT T[k]).length), q < m → okT T tl (namesT T[k])[q] = true) (fun m => (namesT T[k]).length - m) 0 (by repeat (first | exact Sub.nil _ | refine Sub.cons rfl ?_ | refine Sub.consM rfl ?_)) ⟨_, hO, h1, ho17, ho, hb7, hNm, by omega, fun q _ h => absurd h (Nat.not_lt_zero _)⟩ ?_
      clear hO h1 ho17 ho hb7 hNm hn
      rintro m wm ⟨cm, hO, h1, ho17, ho, hb7, hNm, hm, hok⟩
      refine cseq <| cregion <| qq (Val.lss rfl rfl) rfl <| cnil <| cseq ?_
      refine WC.cond rfl (fun hc11 => ?_) (fun hc11 => ?_)
      ·try simp only [tstS] at hc11
       have km : m < (namesT T[k]).length := by omega
       obtain ⟨hc39, _⟩ := RdC.elFlat hNm km (by decide)
       refine cskip <| cseq <| cblock <| cseq <| cregion <| qq (Val.indexAddr sl23 hNm.now rfl rfl rfl (by omega) (by omega)) rfl <| qq (Val.loadE1 scl9 rfl hc39.cel) rfl <| qq (Val.assign rfl) rfl <| cnil ?_
       refine cseq <| cregion <| qq (Val.move rfl) rfl <| qq (Val.move rfl) rfl ?_
       refine WR.eff (Eff.pureC cm 1 (Eff.call pf84 rfl (rfind_ok h1.now hr))) rfl ?_
       rintro v44 w6 ⟨c6, hM6, hx6, rfl⟩
       replace hO := hO.mv hM6 rfl; replace h1 := h1.mv hM6 rfl; replace ho17 := ho17.mv hM6 rfl; replace ho := ho.mv hM6 rfl; replace hb7 := hb7.mv hM6 rfl; replace hNm := hNm.mv hM6 rfl; replace hc39 := hc39.mv hM6 rfl
       have hS := OwnC.rdFlat (n' := 1) (enc := fun b => [Value.bool b]) (ok := fun _ => True) (h0 := fun _ => rfl) (h1 := fun _ u hu => by simp at hu; subst hu; rfl) (l := tbs T tl) (by rw [tbs_len]; exact ho17) (by rw [tbs_len]; omega) (fun _ _ => trivial)
       refine qq (Val.move rfl) rfl <| qq (Val.extract rfl rfl) rfl <| qq (Val.extract rfl rfl) rfl <| qq (Val.assign rfl) rfl <| qq (Val.assign rfl) rfl <| cnil <| cseq <| cregion <| qq (Val.move rfl) rfl ?_
       refine qq (Val.move rfl) rfl ?_
       apply WR.sc true 5 _ (fun w' => w6 = w')
       case hl => rfl
       case hg => rfl
       case hu => rfl
       case hv => rfl
       case hs => rfl
       case hoff => rfl
       case hd => rfl
       case hF => exact fun _ => rfl
       case hT =>
        intro hq7
        try simp only [tstS] at hq7
        simp only [List.take_succ_cons, List.take_zero]
        obtain ⟨hf, hil⟩ := find_low hr hq7
        have kt : lowT T (namesT T[k])[m] < (tbs T tl).length := by rw [tbs_len]; exact hil
        have hg := tbs_get (tl := tl) hil
        rw [List.getElem?_eq_getElem kt, Option.some.injEq] at hg
        obtain ⟨hc51, _⟩ := RdC.elFlat hS kt (by decide)
        rw [hg] at hc51
        refine WR.on rfl rfl ?_
        refine qq (Val.move rfl) rfl ?_
        refine WR.on rfl rfl ?_
        refine qq (Val.move rfl) rfl ?_
        refine WR.on rfl rfl ?_
        refine qq (Val.indexO sl97 ho17 rfl rfl (by omega) (by omega)) rfl ?_
        refine WR.on rfl rfl ?_
        refine qq (Val.loadE1 scl4 rfl hc51.cel) rfl ?_
        refine WR.on rfl rfl ?_
        refine qq (Val.not rfl) rfl ?_
        exact WR.nil ⟨rfl, Sub.drop _ 5 _ rfl rfl, rfl⟩
       rintro _ rfl
       refine cnil ?_
       refine WC.cond rfl (fun hc14 => ?_) (fun hc14 => ?_)
       ·try simp only [tstS] at hc14
        obtain ⟨hc14a, hc14b⟩ := hc14
        obtain ⟨hf, hil⟩ := find_low hr hc14a
        have hbad : k ∈ tl ∨ readyT T tl k = false := .inr (by
          rw [readyT_eq, nmOf_lt ka, List.all_eq_false]
          refine ⟨_, List.getElem_mem km, ?_⟩
          rw [okT, hf]
          simpa using hc14b)
        refine WC.exit rfl ?_
        refine cregion <| qq (Val.addI rfl rfl (by first | omega | assumption | (simp; omega) | (simp; done)) (by first | omega | assumption | (simp; omega) | (simp; done))) rfl <| qq (Val.move rfl) rfl <| cnil ?_
        exact ⟨k + 1, (by repeat (first | exact Sub.nil _ | refine Sub.cons rfl ?_ | refine Sub.consM rfl ?_)), ⟨_, hO, h1, ho17, ho, ka, fun j h => by
          rcases Nat.lt_or_ge j k with h2 | h2
          · exact hno j h2
          · have : j = k := by omega
            subst this; exact hbad⟩, by omega⟩
       ·try simp only [tstS] at hc14
        have hyes : okT T tl (namesT T[k])[m] = true := by
          rw [okT]
          cases hf : findT T (namesT T[k])[m] with
          | none => rfl
          | some i =>
            have hlo := lowT_find hr hf
            rw [hf, hlo] at hc14
            simpa using hc14
        refine cskip <| cregion <| qq (Val.addI rfl rfl (by first | omega | assumption | (simp; omega) | (simp; done)) (by first | omega | assumption | (simp; omega) | (simp; done))) rfl <| qq (Val.move rfl) rfl <| cnil ?_
        exact ⟨m + 1, (by repeat (first | exact Sub.nil _ | refine Sub.cons rfl ?_ | refine Sub.consM rfl ?_)), ⟨_, hO, h1, ho17, ho, hb7, hNm, km, fun q hq h => by
          rcases Nat.lt_or_ge q m with h2 | h2
          · exact hok q hq h2
          · have : q = m := by omega
            subst this; exact hyes⟩, by omega⟩
      ·try simp only [tstS] at hc11
       have hmm : m = (namesT T[k]).length := by omega
       have hrd : readyT T tl k = true := by
         rw [readyT_eq, nmOf_lt ka, List.all_eq_true]
         intro x hx
         obtain ⟨q, hq, rfl⟩ := List.mem_iff_getElem.1 hx
         exact hok q hq (by omega)
       have hnx := nextT_at ka hnk hrd hno
       have hgs := orderGo_step (n := T.length) hnx htlt
       have htl2 : ∀ j ∈ tl ++ [k], j < T.length := fun j hj => by
         rcases List.mem_append.1 hj with h | h
         · exact htl j h
         · simp at h; subst h; exact ka
       refine WC.exit rfl ?_
       refine cseq <| cregion <| qq (Val.move rfl) rfl <| qq (Val.move rfl) rfl <| qq (Val.indexO sl97 ho17 rfl rfl (by omega) (by omega)) rfl ?_
       refine WR.eff_ (Eff.storeOC scl4 ho17 (by first | omega | assumption | (simp; omega) | (simp; done)) rfl rfl (by first | rfl | assumption) (by first | rfl | assumption)) ?_
       rintro _ w7 ⟨hS, hM7⟩
       replace hO := hO.mv hM7 rfl; replace h1 := h1.mv hM7 rfl; replace ho := ho.mv hM7 rfl; replace hb7 := hb7.mv hM7 rfl
       replace ho17 := hS
       rw [Int.toNat_natCast, bools_set, tbs_set] at ho17
       refine cnil <| cseq <| cregion <| qq (Val.move rfl) rfl ?_
       first | refine WR.val (Val.fieldAddr fld62_0 rfl) rfl ?_ | refine WR.val (Val.fieldAddrP fld62_0 rfl) rfl ?_
       refine qq (Val.loadB scl9 rfl hb7.blk rfl) rfl ?_
       refine WR.eff (Eff.build1C cm 162 sl23 rfl rfl rfl rfl rfl) rfl ?_
       rintro _ w8 ⟨b62, c8, rfl, hM8, hb62⟩
       replace hO := hO.mv hM8 rfl; replace h1 := h1.mv hM8 rfl; replace ho17 := ho17.mv hM8 rfl; replace ho := ho.mv hM8 rfl; replace hb7 := hb7.mv hM8 rfl
       refine WR.eff (Eff.appendC sl23 rfl rfl ho (Src.cellsAt Try.underlying23 hb62.blk.cellsAt rfl (by repeat (first | exact List.forall_mem_nil _ | refine List.forall_mem_cons.2 ⟨by first | rfl | assumption, ?_⟩))) (by rw [maxLen_eq]; first | omega | (simp; omega)) (by first | omega | (simp; omega))) rfl ?_
       rintro v63 w9 ⟨c9, hM9, hOq⟩
       clear hb62
       replace hO := hO.mv hM9 rfl; replace h1 := h1.mv hM9 rfl; replace ho17 := ho17.mv hM9 rfl; replace hb7 := hb7.mv hM9 rfl
       replace ho := hOq
       refine qq (Val.assign rfl) rfl <| cnil ?_
       refine WC.exit rfl ?_
       exact ⟨(tl ++ [k], v63), (by repeat (first | exact Sub.nil _ | refine Sub.cons rfl ?_ | refine Sub.consM rfl ?_)), ⟨_, hO, h1, ho17, by rw [List.map_append, List.flatMap_append, List.length_append, List.map_singleton, dgOf_lt ka]; exact ho, htl2, by rw [← hgs]; exact hgo⟩, by simp; omega⟩
    ·try simp only [tstS] at hc7
     have hkk : k = T.length := by omega
     have hnx : nextT T tl = none := nextT_none fun j hj => hno j (by omega)
     have hon : orderT T = none := by rw [orderT, ← hgo, orderGo_none hnx htlt]; rfl
     refine WC.exit rfl ?_
     refine cseq <| cregion <| qq (Val.assign rfl) rfl <| qq (Val.assign rfl) rfl <| cnil ?_
     refine WC.ret2 rfl rfl rfl ?_
     exact ⟨hO.below, _, by rw [ordE, hc1, hon]; rfl, by rw [ordX, hc1, hon]; exact Own.nil _ _ _ _⟩
   ·try simp only [tstS] at hc5
    have hos : orderT T = some (tl.map (dgOf T)) := by rw [orderT, ← hgo, orderGo_done (by omega)]; rfl
    refine WC.exit rfl ?_
    refine cseq <| cregion <| qq (Val.move rfl) rfl <| qq (Val.assign rfl) rfl <| qq (Val.assign rfl) rfl <| cnil ?_
    refine WC.ret2 rfl rfl rfl ?_
    exact ⟨hO.below, _, by rw [ordE, hc1, hos]; rfl, by rw [ordX, hc1, hos]; exact ho.fromOld hO (by decide)⟩

set_option maxHeartbeats 2000000 in
theorem porder_ok {w : World} {v : Value} {T : List Thg} (h0 : Rd thgS w v T) (hmay : thgsMay T = true) :
    Calls Try.prog 47 #[v] w (Ret fun v' w' => Below w.heap.size w w' ∧ ∃ u, v' = .tuple #[u, .bool (orderT T).isSome] ∧ Own w' w.heap.size 9 1 u ((orderT T).getD []).length (((orderT T).getD []).flatMap fun x => [St x])) := by
  obtain ⟨c, hO, hc⟩ := OldC.start w
  have h1 : RdC thgS c w [0] v T := Rd.toC h0 (fun k hk => by simp [hc, hasC])
  have hsm := h0.small
  have hok0 := h0.okFlat
  clear hc h0
  have hb : ∀ t ∈ T, t.text.length ≤ 1048576 := fun t ht => by
    obtain ⟨i, hi, rfl⟩ := List.mem_iff_getElem.1 ht
    have := (thgsMay_at hmay hi).2.1; omega
  have hl := thgsMay_len hmay
  have hr := thgsMay_rise hmay
  have hdo := fun (i : Nat) => dgOf_ok (T := T) (fun t ht => (hok0 t ht).1) i
  refine enter (n := 74) (res := #[.tmp 2, .tmp 3]) Try.func47 rfl rfl rfl rfl ?_
  refine cseq <| cregion <| qq (Val.assign rfl) rfl <| qq (Val.assign rfl) rfl <| cnil <| cseq <| cregion <| qq (Val.assign rfl) rfl <| cnil ?_
  refine cseq <| cblock ?_
  refine WC.loop (σ := List Nat × Value) (fun st => [(0, v), (4, st.2)]) (fun st w' => ∃ c', OldC w c' w' ∧ RdC thgS c' w' [0] v T ∧ OwnC c' w' 60 9 1 st.2 (st.1.map (dgOf T)).length ((st.1.map (dgOf T)).flatMap fun x => [St x]) ∧ (∀ j ∈ st.1, j < T.length) ∧ orderGo T (T.length - st.1.length) st.1 = orderGo T T.length []) (fun st => T.length - st.1.length) ([], .slice none 0 0) (by repeat (first | exact Sub.nil _ | refine Sub.cons rfl ?_ | refine Sub.consM rfl ?_)) ⟨_, hO, h1, OwnC.nil _ _ _ _ _, by simp, rfl⟩ ?_
  clear hO h1
  rintro ⟨tl, xv⟩ wl ⟨cl, hO, h1, ho, htl, hgo⟩
  dsimp only at hO h1 ho htl hgo ⊢
  have hml : (tl.map (dgOf T)).length = tl.length := by simp
  have hxo : ∀ x ∈ tl.map (dgOf T), x.length ≤ 140737488355328 := fun x hx => by obtain ⟨i, _, rfl⟩ := List.mem_map.1 hx; exact hdo i
  refine cseq <| cseq <| cregion <| qq (Val.move rfl) rfl <| qq (Val.olen sl23 ho rfl) rfl <| qq (Val.move rfl) rfl <| qq (Val.rdlenC sl52 h1 rfl) rfl <| qq (Val.lss rfl rfl) rfl <| cnil ?_
  refine WC.cond rfl (fun hc2 => ?_) (fun hc2 => ?_)
  ·try simp only [tstS] at hc2
   have htlt : tl.length < T.length := by omega
   refine cskip <| cblock <| cseq <| cregion <| qq (Val.assign rfl) rfl <| cnil <| cseq <| cseq <| cregion ?_
   refine qq (Val.assign rfl) rfl <| cnil <| cblock ?_
   refine WC.loop (σ := Nat × Int) (fun st => [(0, v), (4, xv), (5, I st.2), (6, I st.1)]) (fun st w' => ∃ c', OldC w c' w' ∧ RdC thgS c' w' [0] v T ∧ OwnC c' w' 60 9 1 xv (tl.map (dgOf T)).length ((tl.map (dgOf T)).flatMap fun x => [St x]) ∧ st.1 ≤ T.length ∧ ((st.2 = -1 ∧ ∀ j, j < st.1 → j ∈ tl ∨ readyT T tl j = false) ∨ ∃ i : Nat, st.2 = i ∧ i < T.length ∧ nextT T tl = some i)) (fun st => T.length - st.1) (0, -1) (by repeat (first | exact Sub.nil _ | refine Sub.cons rfl ?_ | refine Sub.consM rfl ?_)) ⟨_, hO, h1, ho, by simp, .inl ⟨rfl, fun j h => absurd h (Nat.not_lt_zero _)⟩⟩ ?_
   clear hO h1 ho
   rintro ⟨k, nx⟩ wk ⟨ck, hO, h1, ho, hk, hnx⟩
   dsimp only at hO h1 ho hk hnx ⊢
   refine cseq <| cseq <| cregion <| qq (Val.move rfl) rfl <| qq (Val.move rfl) rfl <| qq (Val.rdlenC sl52 h1 rfl) rfl <| qq (Val.lss rfl rfl) rfl <| qq (Val.move rfl) rfl ?_
   apply WR.sc true 2 _ (fun w' => wk = w')
   case hl => rfl
   case hg => rfl
   case hu => rfl
   case hv => rfl
   case hs => rfl
   case hoff => rfl
   case hd => rfl
   case hF => exact fun _ => rfl
   case hT =>
    intro hq7
    try simp only [tstS] at hq7
    simp only [List.take_succ_cons, List.take_zero]
    refine WR.on rfl rfl ?_
    refine qq (Val.move rfl) rfl ?_
    refine WR.on rfl rfl ?_
    refine qq (Val.lss rfl rfl) rfl ?_
    exact WR.nil ⟨rfl, Sub.drop _ 2 _ rfl rfl, rfl⟩
   rintro _ rfl
   refine cnil ?_
   refine WC.cond rfl (fun hc5 => ?_) (fun hc5 => ?_)
   ·try simp only [tstS] at hc5
    obtain ⟨hc5a, hc5b⟩ := hc5
    have ka : k < T.length := by omega
    have hno : nx = -1 ∧ ∀ j, j < k → j ∈ tl ∨ readyT T tl j = false := by
      rcases hnx with h | ⟨i, h, _⟩
      · exact h
      · omega
    obtain ⟨rfl, hno⟩ := hno
    clear hnx
    obtain ⟨hc28, _⟩ := RdC.elFlat h1 ka (by decide)
    have hc34 := hc28
    refine cskip <| cseq <| cblock <| cseq <| cseq <| cregion <| qq (Val.move rfl) rfl <| qq (Val.move rfl) rfl <| qq (Val.move rfl) rfl ?_
    first | refine WR.val (Val.indexAddr sl52 (by assumption) rfl rfl rfl (by first | omega | assumption | (simp; omega) | (simp; done)) (by first | omega | assumption | (simp; omega) | (simp; done))) rfl ?_ | refine WR.val (Val.indexC sl52 (by assumption) rfl rfl (by first | omega | assumption | (simp; omega) | (simp; done)) (by first | omega | assumption | (simp; omega) | (simp; done))) rfl ?_ | refine WR.val (Val.indexO sl52 (by assumption) rfl rfl (by first | omega | assumption | (simp; omega) | (simp; done)) (by first | omega | assumption | (simp; omega) | (simp; done))) rfl ?_
    first | refine WR.val (Val.fieldAddr fld62_0 rfl) rfl ?_ | refine WR.val (Val.fieldAddrP fld62_0 rfl) rfl ?_
    refine qq (Val.loadEf scl9 rfl hc28.cel rfl) rfl ?_
    refine WR.eff (Eff.pureC ck 1 (Eff.call pf39 rfl (zhas_ok (ho.own.rdStrs hxo (by omega))))) rfl ?_
    rintro v31 w1 ⟨c1, hM1, hx1, rfl⟩
    replace hO := hO.mv hM1 rfl; replace h1 := h1.mv hM1 rfl; replace ho := ho.mv hM1 rfl; replace hc28 := hc28.mv hM1 rfl; replace hc34 := hc34.mv hM1 rfl
    rw [has_told hr htl ka]
    refine cnil ?_
    refine WC.cond rfl (fun hc7 => ?_) (fun hc7 => ?_)
    ·try simp only [tstS] at hc7
     have hbad : k ∈ tl ∨ readyT T tl k = false := .inl hc7
     refine WC.exit rfl ?_
     refine cregion <| qq (Val.move rfl) rfl <| qq (Val.addI rfl rfl (by first | omega | assumption | (simp; omega) | (simp; done)) (by first | omega | assumption | (simp; omega) | (simp; done))) rfl <| qq (Val.assign rfl) rfl <| cnil ?_
     first
     | exact ⟨(k + 1, -1), (by repeat (first | exact Sub.nil _ | refine Sub.cons rfl ?_ | refine Sub.consM rfl ?_)), ⟨_, hO, h1, ho, ka, .inl ⟨rfl, noStep hno hbad⟩⟩, by dsimp only; omega⟩
     | exact ⟨(k + 1, k), (by repeat (first | exact Sub.nil _ | refine Sub.cons rfl ?_ | refine Sub.consM rfl ?_)), ⟨_, hO, h1, ho, ka, .inr ⟨k, rfl, ka, hnx⟩⟩, by dsimp only; omega⟩
    ·try simp only [tstS] at hc7
     have hnk : k ∉ tl := hc7
     refine cskip <| cseq <| cregion <| qq (Val.assign rfl) rfl <| cnil <| cseq <| cregion <| qq (Val.move rfl) rfl <| qq (Val.move rfl) rfl ?_
     first | refine WR.val (Val.indexAddr sl52 (by assumption) rfl rfl rfl (by first | omega | assumption | (simp; omega) | (simp; done)) (by first | omega | assumption | (simp; omega) | (simp; done))) rfl ?_ | refine WR.val (Val.indexC sl52 (by assumption) rfl rfl (by first | omega | assumption | (simp; omega) | (simp; done)) (by first | omega | assumption | (simp; omega) | (simp; done))) rfl ?_ | refine WR.val (Val.indexO sl52 (by assumption) rfl rfl (by first | omega | assumption | (simp; omega) | (simp; done)) (by first | omega | assumption | (simp; omega) | (simp; done))) rfl ?_
     refine qq (Val.loadE agg62 rfl hc34.cel rfl) rfl ?_
     refine WR.eff (Eff.pureC c1 52 (Eff.call pf40 rfl (named_ok T[k] (hb _ (List.getElem_mem ka))))) rfl ?_
     rintro v36 w2 ⟨c2, hM2, hx2, hn⟩
     replace hO := hO.mv hM2 rfl; replace h1 := h1.mv hM2 rfl; replace ho := ho.mv hM2 rfl; replace hc28 := hc28.mv hM2 rfl; replace hc34 := hc34.mv hM2 rfl
     replace hn := hn.toC hx2
     have hnl := namesT_len T[k]
     have hNm : RdC strS _ _ [52] v36 (namesT T[k]) := hn.rdFlat (by omega) namesT_texts
     refine qq (Val.assign rfl) rfl <| cnil <| cseq <| cseq <| cregion <| qq (Val.assign rfl) rfl <| cnil <| cblock ?_
     refine WC.loop (σ := Nat) (fun m => [(0, v), (4, xv), (5, I (-1)), (6, I k), (7, .bool (((namesT T[k]).take m).all (okT T tl))), (8, v36), (9, I m)]) (fun m w' => ∃ c', OldC w c' w' ∧ RdC thgS c' w' [0] v T ∧ OwnC c' w' 60 9 1 xv (tl.map (dgOf T)).length ((tl.map (dgOf T)).flatMap fun x => [St x]) ∧ RdC strS c' w' [52] v36 (namesT T[k]) ∧ m ≤ (namesT T[k]).length) (fun m => (namesT T[k]).length - m) 0 (by repeat (first | exact Sub.nil _ | refine Sub.cons rfl ?_ | refine Sub.consM rfl ?_)) ⟨_, hO, h1, ho, hNm, by omega⟩ ?_
     clear hO h1 ho hNm hn
     rintro m wm ⟨cm, hO, h1, ho, hNm, hm⟩
     refine cseq <| cseq <| cregion <| qq (Val.move rfl) rfl <| qq (Val.move rfl) rfl <| qq (Val.rdlenC sl23 hNm rfl) rfl <| qq (Val.lss rfl rfl) rfl <| cnil ?_
     refine WC.cond rfl (fun hc11 => ?_) (fun hc11 => ?_)
     ·try simp only [tstS] at hc11
      have km : m < (namesT T[k]).length := by omega
      obtain ⟨hc48, _⟩ := RdC.elFlat hNm km (by decide)
      have hc56 := hc48
      have hpg := okT_page hr htl (namesT T[k])[m]
      have hta : ((namesT T[k]).take (m + 1)).all (okT T tl) = (((namesT T[k]).take m).all (okT T tl) && okT T tl (namesT T[k])[m]) := by rw [List.take_succ_eq_append_getElem km, List.all_append]; simp
      refine cskip <| cseq <| cblock <| cregion <| qq (Val.move rfl) rfl <| qq (Val.move rfl) rfl ?_
      apply WR.sc true 15 (decide (atT T (namesT T[k])[m] < 0) || (tl.map (dgOf T)).contains (namesT T[k])[m]) (fun w' => ∃ c', Acc cm wm [] c' w')
      case hl => rfl
      case hg => rfl
      case hu => rfl
      case hv => rfl
      case hs => rfl
      case hoff => rfl
      case hd => rfl
      case hF => exact fun _ => ⟨_, Acc.refl _ _ _⟩
      case hT =>
       intro hq17
       try simp only [tstS] at hq17
       simp only [List.take_succ_cons, List.take_zero]
       have hKsc17 := Acc.refl cm wm []
       refine WR.on rfl rfl ?_
       refine qq (Val.move rfl) rfl ?_
       refine WR.on rfl rfl ?_
       refine qq (Val.move rfl) rfl ?_
       refine WR.on rfl rfl ?_
       refine qq (Val.move rfl) rfl ?_
       refine WR.on rfl rfl ?_
       refine qq (Val.indexAddr sl23 hNm.now rfl rfl rfl (by omega) (by omega)) rfl ?_
       refine WR.on rfl rfl ?_
       refine qq (Val.loadE1 scl9 rfl hc48.cel) rfl ?_
       refine WR.on rfl rfl ?_
       refine WR.eff (Eff.pureC cm 1 (Eff.call pf38 rfl (at_ok h1.now))) rfl ?_
       rintro v50 w3 ⟨c3, hM3, hx3, rfl⟩
       replace hO := hO.mv hM3 rfl; replace h1 := h1.mv hM3 rfl; replace ho := ho.mv hM3 rfl; replace hNm := hNm.mv hM3 rfl; replace hc48 := hc48.mv hM3 rfl; replace hc56 := hc56.mv hM3 rfl; replace hKsc17 := hKsc17.mv hM3 rfl
       refine WR.on rfl rfl ?_
       refine qq (Val.lss rfl rfl) rfl ?_
       refine WR.on rfl rfl ?_
       refine qq (Val.move rfl) rfl ?_
       apply WR.sc false 6 ((tl.map (dgOf T)).contains (namesT T[k])[m]) (fun w' => ∃ c', Acc c3 w3 [] c' w')
       case hl => rfl
       case hg => rfl
       case hu => rfl
       case hv => rfl
       case hs => rfl
       case hoff => rfl
       case hd => rfl
       case hF => exact fun _ => ⟨_, Acc.refl _ _ _⟩
       case hT =>
        intro hq16
        try simp only [tstS] at hq16
        simp only [List.take_succ_cons, List.take_zero]
        have hKsc16 := Acc.refl c3 w3 []
        refine WR.on rfl rfl ?_
        refine qq (Val.move rfl) rfl ?_
        refine WR.on rfl rfl ?_
        refine qq (Val.move rfl) rfl ?_
        refine WR.on rfl rfl ?_
        refine qq (Val.move rfl) rfl ?_
        refine WR.on rfl rfl ?_
        refine qq (Val.indexAddr sl23 hNm.now rfl rfl rfl (by omega) (by omega)) rfl ?_
        refine WR.on rfl rfl ?_
        refine qq (Val.loadE1 scl9 rfl hc56.cel) rfl ?_
        refine WR.on rfl rfl ?_
        refine WR.eff (Eff.pureC c3 1 (Eff.call pf39 rfl (zhas_ok (ho.own.rdStrs hxo (by omega))))) rfl ?_
        rintro v58 w4 ⟨c4, hM4, hx4, rfl⟩
        replace hO := hO.mv hM4 rfl; replace h1 := h1.mv hM4 rfl; replace ho := ho.mv hM4 rfl; replace hNm := hNm.mv hM4 rfl; replace hc48 := hc48.mv hM4 rfl; replace hc56 := hc56.mv hM4 rfl; replace hKsc17 := hKsc17.mv hM4 rfl; replace hKsc16 := hKsc16.mv hM4 rfl
        exact WR.nil ⟨rfl, Sub.drop _ 6 _ rfl rfl, _, hKsc16⟩
       rintro w5 ⟨c5, ⟨hM5⟩⟩
       replace hO := hO.mv hM5 rfl; replace h1 := h1.mv hM5 rfl; replace ho := ho.mv hM5 rfl; replace hNm := hNm.mv hM5 rfl; replace hc48 := hc48.mv hM5 rfl; replace hc56 := hc56.mv hM5 rfl; replace hKsc17 := hKsc17.mv hM5 rfl
       exact WR.nil ⟨rfl, Sub.drop _ 9 _ rfl rfl, _, hKsc17⟩
      rintro w6 ⟨c6, ⟨hM6⟩⟩
      replace hO := hO.mv hM6 rfl; replace h1 := h1.mv hM6 rfl; replace ho := ho.mv hM6 rfl; replace hNm := hNm.mv hM6 rfl; replace hc48 := hc48.mv hM6 rfl; replace hc56 := hc56.mv hM6 rfl
      refine qq (Val.assign rfl) rfl <| cnil <| cregion <| qq (Val.move rfl) rfl <| qq (Val.addI rfl rfl (by first | omega | assumption | (simp; omega) | (simp; done)) (by first | omega | assumption | (simp; omega) | (simp; done))) rfl <| qq (Val.assign rfl) rfl <| cnil ?_
      exact ⟨m + 1, (by rw [hta, ← hpg]; repeat (first | exact Sub.nil _ | refine Sub.cons rfl ?_ | refine Sub.consM rfl ?_)), ⟨_, hO, h1, ho, hNm, km⟩, by omega⟩
     ·try simp only [tstS] at hc11
      have hmm : m = (namesT T[k]).length := by omega
      subst hmm
      rw [List.take_length, ← nmOf_lt ka, ← readyT_eq]
      refine WC.exit rfl ?_
      refine cseq <| cregion <| qq (Val.move rfl) rfl <| cnil ?_
      refine WC.cond rfl (fun hc14 => ?_) (fun hc14 => ?_)
      ·try simp only [tstS] at hc14
       have hnx := nextT_at ka hnk hc14 hno
       refine cregion <| qq (Val.move rfl) rfl <| qq (Val.assign rfl) rfl <| cnil <| cregion <| qq (Val.move rfl) rfl <| qq (Val.addI rfl rfl (by first | omega | assumption | (simp; omega) | (simp; done)) (by first | omega | assumption | (simp; omega) | (simp; done))) rfl <| qq (Val.assign rfl) rfl <| cnil ?_
       first
       | exact ⟨(k + 1, -1), (by repeat (first | exact Sub.nil _ | refine Sub.cons rfl ?_ | refine Sub.consM rfl ?_)), ⟨_, hO, h1, ho, ka, .inl ⟨rfl, noStep hno hbad⟩⟩, by dsimp only; omega⟩
       | exact ⟨(k + 1, k), (by repeat (first | exact Sub.nil _ | refine Sub.cons rfl ?_ | refine Sub.consM rfl ?_)), ⟨_, hO, h1, ho, ka, .inr ⟨k, rfl, ka, hnx⟩⟩, by dsimp only; omega⟩
      ·try simp only [tstS] at hc14
       have hbad : k ∈ tl ∨ readyT T tl k = false := .inr hc14
       refine cskip <| cregion <| qq (Val.move rfl) rfl <| qq (Val.addI rfl rfl (by first | omega | assumption | (simp; omega) | (simp; done)) (by first | omega | assumption | (simp; omega) | (simp; done))) rfl <| qq (Val.assign rfl) rfl <| cnil ?_
       first
       | exact ⟨(k + 1, -1), (by repeat (first | exact Sub.nil _ | refine Sub.cons rfl ?_ | refine Sub.consM rfl ?_)), ⟨_, hO, h1, ho, ka, .inl ⟨rfl, noStep hno hbad⟩⟩, by dsimp only; omega⟩
       | exact ⟨(k + 1, k), (by repeat (first | exact Sub.nil _ | refine Sub.cons rfl ?_ | refine Sub.consM rfl ?_)), ⟨_, hO, h1, ho, ka, .inr ⟨k, rfl, ka, hnx⟩⟩, by dsimp only; omega⟩
   ·try simp only [tstS] at hc5
    refine WC.exit rfl ?_
    refine cseq <| cseq <| cregion <| qq (Val.move rfl) rfl <| qq (Val.lss rfl rfl) rfl <| cnil ?_
    refine WC.cond rfl (fun hc16 => ?_) (fun hc16 => ?_)
    ·try simp only [tstS] at hc16
     have hno : ∀ j, j < T.length → j ∈ tl ∨ readyT T tl j = false := by
       rcases hnx with ⟨h, h'⟩ | ⟨i, h, _⟩
       · subst h
         have hkk : k = T.length := by
           rw [Bool.and_eq_false_iff] at hc5
           simp only [decide_eq_false_iff_not] at hc5
           omega
         subst hkk; exact h'
       · omega
     have hon : orderT T = none := by rw [orderT, ← hgo, orderGo_none (nextT_none hno) htlt]; rfl
     refine cseq <| cregion <| qq (Val.assign rfl) rfl <| qq (Val.assign rfl) rfl <| cnil ?_
     refine WC.ret2 rfl rfl rfl ?_
     exact ⟨hO.below, _, by rw [hon]; rfl, by rw [hon]; exact Own.nil _ _ _ _⟩
    ·try simp only [tstS] at hc16
     obtain ⟨i, rfl, hil, hni⟩ : ∃ i : Nat, nx = i ∧ i < T.length ∧ nextT T tl = some i := by
       rcases hnx with ⟨h, _⟩ | h
       · omega
       · exact h
     have hgs := orderGo_step (n := T.length) hni htlt
     have htl2 : ∀ j ∈ tl ++ [i], j < T.length := fun j hj => by
       rcases List.mem_append.1 hj with h | h
       · exact htl j h
       · simp at h; subst h; exact hil
     obtain ⟨hc68, _⟩ := RdC.elFlat h1 hil (by decide)
     refine cskip <| cregion <| qq (Val.move rfl) rfl <| qq (Val.move rfl) rfl <| qq (Val.move rfl) rfl ?_
     first | refine WR.val (Val.indexAddr sl52 (by assumption) rfl rfl rfl (by first | omega | assumption | (simp; omega) | (simp; done)) (by first | omega | assumption | (simp; omega) | (simp; done))) rfl ?_ | refine WR.val (Val.indexC sl52 (by assumption) rfl rfl (by first | omega | assumption | (simp; omega) | (simp; done)) (by first | omega | assumption | (simp; omega) | (simp; done))) rfl ?_ | refine WR.val (Val.indexO sl52 (by assumption) rfl rfl (by first | omega | assumption | (simp; omega) | (simp; done)) (by first | omega | assumption | (simp; omega) | (simp; done))) rfl ?_
     first | refine WR.val (Val.fieldAddr fld62_0 rfl) rfl ?_ | refine WR.val (Val.fieldAddrP fld62_0 rfl) rfl ?_
     refine qq (Val.loadEf scl9 rfl hc68.cel rfl) rfl ?_
     refine WR.eff (Eff.build1C ck 171 sl23 rfl rfl rfl rfl rfl) rfl ?_
     rintro _ w7 ⟨b71, c7, rfl, hM7, hb71⟩
     replace hO := hO.mv hM7 rfl; replace h1 := h1.mv hM7 rfl; replace ho := ho.mv hM7 rfl; replace hc68 := hc68.mv hM7 rfl
     refine WR.eff (Eff.appendC sl23 rfl rfl ho (Src.cellsAt Try.underlying23 hb71.blk.cellsAt rfl (by repeat (first | exact List.forall_mem_nil _ | refine List.forall_mem_cons.2 ⟨by first | rfl | assumption, ?_⟩))) (by rw [maxLen_eq]; first | omega | (simp; omega)) (by first | omega | (simp; omega))) rfl ?_
     rintro v72 w8 ⟨c8, hM8, hOq⟩
     clear hb71
     replace hO := hO.mv hM8 rfl; replace h1 := h1.mv hM8 rfl; replace hc68 := hc68.mv hM8 rfl
     replace ho := hOq
     refine qq (Val.assign rfl) rfl <| cnil ?_
     exact ⟨(tl ++ [i], v72), (by repeat (first | exact Sub.nil _ | refine Sub.cons rfl ?_ | refine Sub.consM rfl ?_)), ⟨_, hO, h1, by rw [List.map_append, List.flatMap_append, List.length_append, List.map_singleton, dgOf_lt hil]; exact ho, htl2, by rw [← hgs]; exact hgo⟩, by simp; omega⟩
  ·try simp only [tstS] at hc2
   have hos : orderT T = some (tl.map (dgOf T)) := by rw [orderT, ← hgo, orderGo_done (by omega)]; rfl
   refine WC.exit rfl ?_
   refine cseq <| cregion <| qq (Val.move rfl) rfl <| qq (Val.assign rfl) rfl <| qq (Val.assign rfl) rfl <| cnil ?_
   refine WC.ret2 rfl rfl rfl ?_
   exact ⟨hO.below, _, by rw [hos]; rfl, by rw [hos]; exact ho.fromOld hO (by decide)⟩
end Go.Proofs.Ytnddlhjafkhdoaa
