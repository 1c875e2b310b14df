/- Both disks go alike, plain. No condition. -/
import Derived.Test.YtjddnaefmikccaaPg5
set_option linter.unusedSimpArgs false
set_option linter.unusedVariables false
namespace Silo
open Go.Eng
theorem setD_dsk {A : Arr} {k j : Nat} {x : Dsk} (hk : k < A.d.length) : dskA (setD A k x) j = if j = k then x else dskA A j := by
  by_cases h : j = k
  · subst h; rw [if_pos rfl, dskA_set hk]
  · rw [if_neg h]
    simp only [dskA, setD, List.getD_eq_getElem?_getD]
    rw [List.getElem?_set_ne (fun e => h e.symm)]
theorem mem_dsk {A : Arr} {x : Dsk} (h : x ∈ A.d) : ∃ k, k < A.d.length ∧ dskA A k = x := by
  obtain ⟨k, hk⟩ := List.getElem?_of_mem h
  obtain ⟨h1, h2⟩ := List.getElem?_eq_some_iff.1 hk
  exact ⟨k, h1, by simp [dskA, List.getD_eq_getElem?_getD, hk]⟩
theorem arr_ext {D E : List Dsk} (h : D.length = E.length) (he : ∀ k, k < D.length → D.getD k ⟨false, [], []⟩ = E.getD k ⟨false, [], []⟩) : D = E := by
  refine List.ext_getElem h fun k h1 h2 => ?_
  have := he k h1
  simpa [List.getD_eq_getElem?_getD, h1, h2] using this
/-- What disks may be, but for the count. -/
structure WfA0 (A : Arr) : Prop where
  many : 0 < A.d.length ∧ A.d.length ≤ 12
  sec : 0 < A.sectors ∧ A.sectors ≤ 2048
  each : ∀ k, k < A.d.length → WfD A.sectors (dskA A k)
  left : -1 ≤ A.left ∧ A.left ≤ 9223372036854775807
theorem WfA0.wf {A : Arr} (h : WfA0 A) (hc : A.changes ≤ 4611686018427387904) : WfA A := ⟨h.many, h.sec, fun x hx => by obtain ⟨k, hk, rfl⟩ := mem_dsk hx; exact h.each k hk, h.left, hc⟩
theorem zT_len : zT.length = 64 := rfl
theorem wf_fresh (n : Nat) : WfD n (freshD n) := ⟨List.length_replicate, List.length_replicate, fun k hk => by simp [freshD, tx, List.getD_eq_getElem?_getD, hk], fun k => .inl (by
  simp only [freshD, tx, List.getD_eq_getElem?_getD, List.getElem?_replicate]
  split <;> rfl)⟩
theorem WfD.live {n : Nat} {x : Dsk} (h : WfD n x) (b : Bool) : WfD n { x with live := b } := ⟨h.ll, h.lc, h.tl, h.tc⟩
theorem WfD.putC {n : Nat} {x : Dsk} (h : WfD n x) {j : Nat} {t : Txt} (hj : j < n) (ht : t.length = 64) : WfD n { x with cache := x.cache.set j t } :=
  ⟨h.ll, by rw [List.length_set]; exact h.lc, h.tl, fun k => by
    rw [tx_set (by rw [h.lc]; exact hj)]
    split
    · exact .inr ht
    · exact h.tc k⟩
theorem WfD.putL {n : Nat} {x : Dsk} (h : WfD n x) {j : Nat} {t : Txt} (hj : j < n) (ht : t.length = 64) : WfD n { x with l := x.l.set j t } :=
  ⟨by rw [List.length_set]; exact h.ll, h.lc, fun k hk => by
    rw [tx_set (by rw [h.ll]; exact hj)]
    split
    · exact ht
    · exact h.tl k hk, h.tc⟩
theorem tx_rep (n k : Nat) : tx (List.replicate n ([] : Txt)) k = [] := by
  simp only [tx, List.getD_eq_getElem?_getD, List.getElem?_replicate]
  split <;> rfl
theorem WfD.flush {n : Nat} {x : Dsk} (h : WfD n x) : WfD n (flushD x) := by
  refine ⟨by rw [flushD]; dsimp only; rw [over_len]; exact h.ll, by rw [flushD]; dsimp only; rw [List.length_replicate]; exact h.lc, fun k hk => ?_, fun k => .inl (tx_rep _ _)⟩
  rw [flushD]; dsimp only
  rw [over_tx (by rw [h.ll]; exact hk)]
  split
  · exact h.tl k hk
  · rename_i hn; exact (h.tc k).resolve_left hn
theorem flipT_len (t : Txt) (n : Nat) : (flipT t n).length = t.length := by simp [flipT]
theorem WfA0.setD {A : Arr} (h : WfA0 A) {k : Nat} {x : Dsk} (hk : k < A.d.length) (hx : WfD A.sectors x) : WfA0 (setD A k x) :=
  ⟨by rw [setD_len]; exact h.many, h.sec, fun j hj => by
    rw [setD_len] at hj
    rw [setD_dsk hk]
    split
    · exact hx
    · exact h.each j hj, h.left⟩
theorem WfA0.changed {A : Arr} (h : WfA0 A) : WfA0 (changedA A) := ⟨h.many, h.sec, h.each, by
  have := h.left
  simp only [changedA]; split <;> omega⟩
theorem changed_off {A : Arr} (h : A.off = decide (A.left = 0)) : (changedA A).off = decide ((changedA A).left = 0) := by
  simp only [changedA]; split <;> simp_all
/-- Both are alike. -/
structure RelA (A B : Arr) : Prop where
  wa : WfA0 A
  wb : WfA0 B
  len : A.d.length = B.d.length
  sec : A.sectors = B.sectors
  live : ∀ k, k < A.d.length → (dskA A k).live = (dskA B k).live
  same : ∀ k, k < A.d.length → (dskA A k).live = true → dskA A k = dskA B k
  dead : ∀ k, k < A.d.length → (dskA A k).live = false → ∀ j, tx (dskA A k).cache j = []
  off : A.off = B.off
  bo : B.off = decide (B.left = 0)
  left : A.off = false → A.left = B.left
  chg : A.changes = B.changes
theorem may0_off {A : Arr} {k : Nat} (hm : mayA A k = 0) : A.off = false := by
  unfold mayA at hm
  split at hm
  · omega
  · simpa using ‹¬A.off = true›
theorem may0_live {A : Arr} {k : Nat} (hm : mayA A k = 0) : (dskA A k).live = true := by
  unfold mayA at hm
  split at hm
  · omega
  · split at hm
    · assumption
    · omega
section
variable {A B : Arr} (h : RelA A B)
include h
theorem RelA.is (d : Int) : isA A d = isA B d := by simp only [isA, h.len]
theorem RelA.ins (d s : Int) : inA A d s = inA B d s := by simp only [inA, h.is, h.sec]
theorem RelA.may {k : Nat} (hk : k < A.d.length) : mayA A k = mayA B k := by simp only [mayA, h.off, h.live k hk]
theorem RelA.at0 {k : Nat} (hk : k < A.d.length) (hm : mayA A k = 0) : dskA A k = dskA B k := by
  refine h.same k hk ?_
  unfold mayA at hm
  split at hm
  · omega
  · split at hm
    · assumption
    · omega
theorem RelA.read (d s : Int) : readA A d s = readA B d s := by
  unfold readA
  rw [h.ins]
  cases hi : inA B d s with
  | false => rfl
  | true =>
    have hi' : inA A d s = true := by rw [h.ins]; exact hi
    obtain ⟨k, j, rfl, rfl, hk, hj⟩ := inA_nat hi'
    simp only [if_true, show ((k : Int)).toNat = k from rfl]
    rw [h.may hk]
    by_cases hm : mayA B k = 0
    · rw [h.at0 hk (by rw [h.may hk]; exact hm)]
    · simp only [if_neg hm]
theorem RelA.setD {k : Nat} {x y : Dsk} (hk : k < A.d.length) (hx : WfD A.sectors x) (hy : WfD B.sectors y) (hl : x.live = y.live) (hs : x.live = true → x = y) (hd : x.live = false → ∀ j, tx x.cache j = []) : RelA (setD A k x) (setD B k y) := by
  have hkb : k < B.d.length := by rw [← h.len]; exact hk
  refine ⟨h.wa.setD hk hx, h.wb.setD hkb hy, by rw [setD_len, setD_len]; exact h.len, h.sec, ?_, ?_, ?_, h.off, h.bo, h.left, h.chg⟩
  all_goals
    intro j hj
    rw [setD_len] at hj
    simp only [setD_dsk hk, setD_dsk hkb]
    split
  · exact hl
  · exact h.live j hj
  · exact hs
  · exact h.same j hj
  · exact hd
  · exact h.dead j hj
theorem RelA.changed (ho : A.off = false) : RelA (changedA A) (changedA B) := by
  have h1 := h.off; have h2 := h.bo; have h3 := h.left ho
  refine ⟨h.wa.changed, h.wb.changed, h.len, h.sec, h.live, h.same, h.dead, ?_, changed_off h.bo, fun _ => ?_, by simp [changedA, h.chg]⟩
  · simp only [changedA]; rw [h3, h1]
  · simp only [changedA]; rw [h3]
theorem RelA.write (d s : Int) (t : Txt) : RelA (writeA A d s t).1 (writeA B d s t).1 ∧ (writeA A d s t).2 = (writeA B d s t).2 := by
  unfold writeA
  rw [h.ins]
  cases hi : inA B d s with
  | false => exact ⟨h, (by first | trivial | rfl)⟩
  | true =>
    have hi' : inA A d s = true := by rw [h.ins]; exact hi
    obtain ⟨k, j, rfl, rfl, hk, hj⟩ := inA_nat hi'
    simp only [if_true, show ((k : Int)).toNat = k from rfl, show ((j : Int)).toNat = j from rfl]
    by_cases ht : t.length = 64
    · simp only [if_pos ht]
      rw [h.may hk]
      by_cases hm : mayA B k = 0
      · have hm' : mayA A k = 0 := by rw [h.may hk]; exact hm
        have e := h.at0 hk hm'
        simp only [if_pos hm]
        refine ⟨?_, (by first | trivial | rfl)⟩
        have hr : RelA (Silo.setD A k { dskA A k with cache := (dskA A k).cache.set j t }) (Silo.setD B k { dskA B k with cache := (dskA B k).cache.set j t }) :=
          h.setD hk ((h.wa.each k hk).putC hj ht) (by rw [← h.sec]; exact (e ▸ h.wa.each k hk).putC hj ht) (h.live k hk) (fun _ => by rw [e]) (fun hd => by
            have := may0_live hm'
            simp only at hd
            rw [this] at hd; cases hd)
        exact hr.changed (may0_off (A := A) hm')
      · simp only [if_neg hm]; exact ⟨h, (by first | trivial | rfl)⟩
    · simp only [if_neg ht]; exact ⟨h, (by first | trivial | rfl)⟩
theorem RelA.flush (d : Int) : RelA (flushA A d).1 (flushA B d).1 ∧ (flushA A d).2 = (flushA B d).2 := by
  unfold flushA
  rw [h.is]
  cases hi : isA B d with
  | false => exact ⟨h, (by first | trivial | rfl)⟩
  | true =>
    have hi' : isA A d = true := by rw [h.is]; exact hi
    obtain ⟨k, rfl, hk⟩ := isA_nat hi'
    simp only [if_true, show ((k : Int)).toNat = k from rfl]
    rw [h.may hk]
    by_cases hm : mayA B k = 0
    · have hm' : mayA A k = 0 := by rw [h.may hk]; exact hm
      have e := h.at0 hk hm'
      simp only [if_pos hm]
      refine ⟨?_, (by first | trivial | rfl)⟩
      have hr : RelA (Silo.setD A k (flushD (dskA A k))) (Silo.setD B k (flushD (dskA B k))) :=
        h.setD hk (h.wa.each k hk).flush (by rw [← h.sec]; exact (e ▸ h.wa.each k hk).flush) (h.live k hk) (fun _ => by rw [e]) (fun hd => fun j => tx_rep _ _)
      exact hr.changed (may0_off (A := A) hm')
    · simp only [if_neg hm]; exact ⟨h, (by first | trivial | rfl)⟩
theorem RelA.offs (n : Int) (hn : n ≤ 9223372036854775807) : RelA (offA A n) (offP B n) := by
  have h1 := h.off; have h2 := h.bo; have h3 := h.left
  have hl := h.wa.left; have hl2 := h.wb.left
  unfold offA offP
  by_cases hb : B.left = 0
  · rw [if_pos hb]
    have hbo : B.off = true := by rw [h2, hb]; rfl
    rw [hbo] at h1
    refine ⟨⟨h.wa.many, h.wa.sec, h.wa.each, by simp only [Int.max_def]; split <;> omega⟩, h.wb, h.len, h.sec, h.live, h.same, h.dead, by simp [h1, hbo], h.bo, ?_, h.chg⟩
    intro h9; simp [h1] at h9
  · rw [if_neg hb]
    have hbo : B.off = false := by rw [h2]; exact decide_eq_false hb
    rw [hbo] at h1
    refine ⟨⟨h.wa.many, h.wa.sec, h.wa.each, by simp only [Int.max_def]; split <;> omega⟩, ⟨h.wb.many, h.wb.sec, h.wb.each, by simp only [Int.max_def]; split <;> omega⟩, h.len, h.sec, h.live, h.same, h.dead, ?_, rfl, fun _ => rfl, h.chg⟩
    simp only [h1, Bool.false_or]
    have : (n = 0) = (max (-1) n = 0) := propext ⟨fun e => by subst e; rfl, fun e => by rw [Int.max_def] at e; split at e <;> omega⟩
    simp only [this]
theorem RelA.lose (d : Int) : RelA (loseA A d).1 (loseP B d).1 ∧ (loseA A d).2 = (loseP B d).2 := by
  unfold loseA loseP
  rw [h.is]
  cases hi : isA B d with
  | false => exact ⟨h, (by first | trivial | rfl)⟩
  | true =>
    have hi' : isA A d = true := by rw [h.is]; exact hi
    obtain ⟨k, rfl, hk⟩ := isA_nat hi'
    simp only [if_true, show ((k : Int)).toNat = k from rfl]
    exact ⟨h.setD hk ((wf_fresh _).live _) ((h.wb.each k (by rw [← h.len]; exact hk)).live _) rfl (fun h => by cases h) (fun _ j => tx_rep _ _), (by first | trivial | rfl)⟩
theorem RelA.replace (d : Int) : RelA (replaceA A d).1 (replaceA B d).1 ∧ (replaceA A d).2 = (replaceA B d).2 := by
  unfold replaceA
  rw [h.is]
  cases hi : isA B d with
  | false => exact ⟨h, (by first | trivial | rfl)⟩
  | true =>
    have hi' : isA A d = true := by rw [h.is]; exact hi
    obtain ⟨k, rfl, hk⟩ := isA_nat hi'
    simp only [if_true, show ((k : Int)).toNat = k from rfl]
    exact ⟨h.setD hk (wf_fresh _) (wf_fresh _) rfl (fun _ => by rw [h.sec]) (fun _ j => tx_rep _ _), (by first | trivial | rfl)⟩
theorem RelA.flip (d n : Int) : RelA (flipA A d n).1 (flipA B d n).1 ∧ (flipA A d n).2 = (flipA B d n).2 := by
  unfold flipA
  rw [h.is]
  cases hi : isA B d with
  | false => exact ⟨h, (by first | trivial | rfl)⟩
  | true =>
    have hi' : isA A d = true := by rw [h.is]; exact hi
    obtain ⟨k, rfl, hk⟩ := isA_nat hi'
    simp only [if_true, show ((k : Int)).toNat = k from rfl]
    by_cases hn : 0 ≤ n
    · simp only [if_pos hn]
      rw [← h.live k hk]
      by_cases hv : (dskA A k).live = true
      · simp only [if_pos hv]
        have e := h.same k hk hv
        refine ⟨?_, (by first | trivial | rfl)⟩
        have hm : (n % (512 * (A.sectors : Int))).toNat / 512 < A.sectors := by
          have h1 := h.wa.sec
          have h2 := Int.emod_lt_of_pos n (show (0 : Int) < 512 * A.sectors by omega)
          have h3 := Int.emod_nonneg n (show (512 * (A.sectors : Int)) ≠ 0 by omega)
          omega
        rw [← e, ← h.sec]
        have hw := (h.wa.each k hk).putL hm (t := flipT (tx (dskA A k).l ((n % (512 * (A.sectors : Int))).toNat / 512)) (n % (512 * (A.sectors : Int))).toNat) (by rw [flipT_len]; exact (h.wa.each k hk).tl _ hm)
        exact h.setD hk hw (by rw [← h.sec]; exact hw) rfl (fun _ => rfl) (fun hd => by
          simp only at hd
          rw [hv] at hd; cases hd)
      · simp only [if_neg hv]; exact ⟨h, (by first | trivial | rfl)⟩
    · simp only [if_neg hn]; exact ⟨h, (by first | trivial | rfl)⟩
theorem RelA.lives (d : Int) : liveA A d = liveA B d := by
  unfold liveA
  rw [h.is]
  cases hi : isA B d with
  | false => rfl
  | true =>
    have hi' : isA A d = true := by rw [h.is]; exact hi
    obtain ⟨k, rfl, hk⟩ := isA_nat hi'
    simp only [Bool.true_and]
    exact h.live k hk
end
theorem keys_none {C : List Txt} (h : ∀ j, tx C j = []) : keysT C = [] := by
  refine List.eq_nil_iff_forall_not_mem.2 fun k hk => mem_keysT.1 hk (h k)
theorem clear_none {C : List Txt} (h : ∀ j, tx C j = []) : List.replicate C.length [] = C := tx_ext (by simp) fun k _ => by rw [tx_rep, h k]
/-- Row by row. -/
def RowR (x y : Dsk) : Prop := x.live = y.live ∧ (x.live = true → x = y) ∧ (x.live = false → ∀ j, tx x.cache j = [])
theorem RelA.rows {A B : Arr} (h : RelA A B) : ∀ k, k < A.d.length → RowR (A.d.getD k ⟨false, [], []⟩) (B.d.getD k ⟨false, [], []⟩) := fun k hk => ⟨h.live k hk, h.same k hk, h.dead k hk⟩
theorem crTo_all {L : List Int} {a : Nat} {x : Dsk} (hv : x.live = true) : crTo L a x.cache.length x = { x with l := keepS L x.cache x.l a (keysT x.cache), cache := List.replicate x.cache.length [] } := by
  unfold crTo
  rw [if_pos hv, keysLt_all]
  congr 1
  refine tx_ext (by simp [mk_len]) fun k hk => ?_
  rw [mk_len] at hk
  rw [tx_mk hk, if_pos hk, tx_rep]
theorem crash_rows (L : List Int) : ∀ (D E : List Dsk) (a : Nat), D.length = E.length → (∀ k, k < D.length → RowR (D.getD k ⟨false, [], []⟩) (E.getD k ⟨false, [], []⟩)) →
    (crashD L a D).length = (crashPs L a E).length ∧ ∀ k, k < D.length → RowR ((crashD L a D).getD k ⟨false, [], []⟩) ((crashPs L a E).getD k ⟨false, [], []⟩)
  | [], [], _, _, _ => ⟨rfl, fun k hk => by simp at hk⟩
  | [], _ :: _, _, h, _ => by simp at h
  | _ :: _, [], _, h, _ => by simp at h
  | x :: D, y :: E, a, h, hr => by
    obtain ⟨r1, r2, r3⟩ := hr 0 (by simp)
    have hr' : ∀ k, k < D.length → RowR (D.getD k ⟨false, [], []⟩) (E.getD k ⟨false, [], []⟩) := fun k hk => by simpa using hr (k + 1) (by simpa using hk)
    simp only [List.getD_cons_zero] at r1 r2 r3
    rw [crashD, crashPs]
    by_cases hv : x.live = true
    · have e := r2 hv
      subst e
      obtain ⟨i1, i2⟩ := crash_rows L D E (a + (keysT x.cache).length) (by simpa using h) hr'
      have hc : cnTo x.cache.length x = (keysT x.cache).length := by rw [cnTo_all, if_pos hv]
      rw [hc]
      refine ⟨by simp [i1], fun k hk => ?_⟩
      cases k with
      | zero =>
        simp only [List.getD_cons_zero]
        rw [crTo_all hv]
        exact ⟨rfl, fun _ => rfl, fun h => by simp only at h; rw [hv] at h; cases h⟩
      | succ k => simpa using i2 k (by simpa using hk)
    · have hv' : x.live = false := by simpa using hv
      have hyv : y.live = false := by rw [← r1]; exact hv'
      have hk0 := keys_none (r3 hv')
      obtain ⟨i1, i2⟩ := crash_rows L D E a (by simpa using h) hr'
      have hc : cnTo y.cache.length y = 0 := by rw [cnTo_all, if_neg (by rw [hyv]; decide)]
      rw [hc, hk0]
      simp only [List.length_nil, Nat.add_zero]
      refine ⟨by simp [i1], fun k hk => ?_⟩
      cases k with
      | zero =>
        simp only [List.getD_cons_zero]
        have e : crTo L a y.cache.length y = y := by unfold crTo; rw [if_neg (by rw [hyv]; decide)]
        rw [e]
        refine ⟨r1, fun h9 => ?_, fun _ j => tx_rep _ _⟩
        simp only at h9
        rw [hv'] at h9; cases h9
      | succ k => simpa using i2 k (by simpa using hk)
theorem keepS_tx {L : List Int} {C : List Txt} {n : Nat} (hC : ∀ k ∈ keysT C, (tx C k).length = 64) : ∀ (ks : List Nat) (a : Nat) (l : List Txt), (∀ k ∈ ks, k ∈ keysT C ∧ k < l.length) → (∀ k, k < l.length → (tx l k).length = 64) → ∀ k, k < l.length → (tx (keepS L C l a ks) k).length = 64
  | [], _, l, _, h => h
  | j :: ks, a, l, hk, h => by
    rw [keepS]
    obtain ⟨h1, h2⟩ := hk j (by simp)
    split
    · intro k hk2
      refine keepS_tx (n := n) hC ks (a + 1) (l.set j (tx C j)) (fun q hq => ⟨(hk q (by simp [hq])).1, by rw [List.length_set]; exact (hk q (by simp [hq])).2⟩) (fun q hq => ?_) k (by rw [List.length_set]; exact hk2)
      rw [List.length_set] at hq
      rw [tx_set h2]
      split
      · exact hC j h1
      · exact h q hq
    · exact keepS_tx (n := n) hC ks (a + 1) l (fun q hq => hk q (by simp [hq])) h
theorem WfD.keep {n : Nat} {x : Dsk} (h : WfD n x) (L : List Int) (a : Nat) : WfD n { x with l := keepS L x.cache x.l a (keysT x.cache), cache := List.replicate x.cache.length [] } :=
  ⟨by rw [keepS_len]; exact h.ll, by rw [List.length_replicate]; exact h.lc, fun k hk => keepS_tx (n := n) (fun q hq => (h.tc q).resolve_left (mem_keysT.1 hq)) _ _ _ (fun q hq => ⟨hq, by have := tx_lt (mem_keysT.1 hq); rw [h.lc] at this; rw [h.ll]; exact this⟩) (fun q hq => h.tl q (by rw [← h.ll]; exact hq)) k (by rw [h.ll]; exact hk), fun k => .inl (tx_rep _ _)⟩
theorem crashD_wf {n : Nat} (L : List Int) : ∀ (D : List Dsk) (a : Nat), (∀ x ∈ D, WfD n x) → ∀ x ∈ crashD L a D, WfD n x
  | [], _, _, x, hx => by simp [crashD] at hx
  | y :: D, a, h, x, hx => by
    rw [crashD] at hx
    rcases List.mem_cons.1 hx with rfl | hx
    · exact (h y (by simp)).keep L a
    · exact crashD_wf L D _ (fun z hz => h z (by simp [hz])) x hx
theorem crashPs_wf {n : Nat} (L : List Int) : ∀ (D : List Dsk) (a : Nat), (∀ x ∈ D, WfD n x) → ∀ x ∈ crashPs L a D, WfD n x
  | [], _, _, x, hx => by simp [crashPs] at hx
  | y :: D, a, h, x, hx => by
    rw [crashPs] at hx
    rcases List.mem_cons.1 hx with rfl | hx
    · by_cases hv : y.live = true
      · rw [crTo_all hv]; exact (h y (by simp)).keep L a
      · have e : crTo L a y.cache.length y = y := by unfold crTo; rw [if_neg hv]
        rw [e]; exact h y (by simp)
    · exact crashPs_wf L D _ (fun z hz => h z (by simp [hz])) x hx
theorem crashD_len (L : List Int) : ∀ (D : List Dsk) (a : Nat), (crashD L a D).length = D.length
  | [], _ => rfl
  | _ :: D, a => by rw [crashD, List.length_cons, crashD_len L D, List.length_cons]
theorem mem_getD {D : List Dsk} {k : Nat} (hk : k < D.length) : D.getD k ⟨false, [], []⟩ ∈ D := by simp [List.getD_eq_getElem?_getD, hk]
theorem RelA.crash {A B : Arr} (h : RelA A B) (L : List Int) : RelA (crashA A L) (crashP B L) := by
  obtain ⟨i1, i2⟩ := crash_rows L A.d B.d 0 h.len h.rows
  have hA : ∀ x ∈ A.d, WfD A.sectors x := fun x hx => by obtain ⟨k, hk, rfl⟩ := mem_dsk hx; exact h.wa.each k hk
  have hB : ∀ x ∈ B.d, WfD B.sectors x := fun x hx => by obtain ⟨k, hk, rfl⟩ := mem_dsk hx; exact h.wb.each k hk
  have l1 : (crashA A L).d.length = A.d.length := crashD_len L _ _
  have l2 : (crashP B L).d.length = B.d.length := crashPs_len L _ _
  refine ⟨⟨by rw [l1]; exact h.wa.many, h.wa.sec, fun k hk => crashD_wf L A.d 0 hA _ (mem_getD hk), by constructor <;> simp [crashA, crashP]⟩, ⟨by rw [l2]; exact h.wb.many, h.wb.sec, fun k hk => crashPs_wf L B.d 0 hB _ (mem_getD hk), by constructor <;> simp [crashA, crashP]⟩, i1, h.sec, fun k hk => (i2 k (by rw [← l1]; exact hk)).1, fun k hk => (i2 k (by rw [← l1]; exact hk)).2.1, fun k hk => (i2 k (by rw [← l1]; exact hk)).2.2, rfl, by simp [crashP], fun _ => rfl, h.chg⟩
theorem dirty_rows : ∀ (D E : List Dsk), D.length = E.length → (∀ k, k < D.length → RowR (D.getD k ⟨false, [], []⟩) (E.getD k ⟨false, [], []⟩)) → (D.map fun x => (keysT x.cache).length).sum = dirtyPs E
  | [], [], _, _ => rfl
  | [], _ :: _, h, _ => by simp at h
  | _ :: _, [], h, _ => by simp at h
  | x :: D, y :: E, h, hr => by
    obtain ⟨r1, r2, r3⟩ := hr 0 (by simp)
    have hr' : ∀ k, k < D.length → RowR (D.getD k ⟨false, [], []⟩) (E.getD k ⟨false, [], []⟩) := fun k hk => by simpa using hr (k + 1) (by simpa using hk)
    simp only [List.getD_cons_zero] at r1 r2 r3
    have ih := dirty_rows D E (by simpa using h) hr'
    simp only [List.map_cons, List.sum_cons, dirtyPs] at ih ⊢
    rw [ih]
    congr 1
    cases hv : x.live with
    | true => rw [← r1, hv, r2 hv]; rfl
    | false => rw [← r1, hv, keys_none (r3 hv)]; rfl
theorem RelA.dirty {A B : Arr} (h : RelA A B) : dirtyA A = dirtyP B := dirty_rows A.d B.d h.len h.rows
theorem new_dsk {n m k : Nat} (hk : k < n) : dskA (newA n m) k = freshD m := by simp [dskA, newA, hk]
theorem wf_new {n m : Nat} (hn : 0 < n ∧ n ≤ 12) (hm : 0 < m ∧ m ≤ 2048) : WfA0 (newA n m) := by
  have hl : (newA n m).d.length = n := List.length_replicate
  exact ⟨by rw [hl]; exact hn, hm, fun k hk => by rw [new_dsk (by rw [← hl]; exact hk)]; exact wf_fresh _, by constructor <;> simp [newA]⟩
theorem rel_new {n m : Nat} (hn : 0 < n ∧ n ≤ 12) (hm : 0 < m ∧ m ≤ 2048) : RelA (newA n m) (newA n m) := by
  have hl : (newA n m).d.length = n := List.length_replicate
  exact ⟨wf_new hn hm, wf_new hn hm, rfl, rfl, fun _ _ => rfl, fun _ _ _ => rfl, fun k hk hv => (by rw [new_dsk (by rw [← hl]; exact hk)] at hv; cases hv), rfl, rfl, fun _ => rfl, rfl⟩
end Silo
