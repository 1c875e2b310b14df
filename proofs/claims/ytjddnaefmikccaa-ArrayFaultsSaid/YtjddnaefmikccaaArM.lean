/- Disks in memory: rows of texts, maps, each of its own. No condition. -/
import Derived.Test.YtjddnaefmikccaaArP
set_option linter.unusedSimpArgs false
set_option linter.unusedVariables false
set_option maxRecDepth 100000
namespace Go.Eng
open Go Go.RowKit Silo
theorem and1_i64 (x : Int) : IntKind.i64.wrap (((BitVec.ofInt IntKind.i64.bits x) &&& (BitVec.ofInt IntKind.i64.bits 1)).toNat : Int) = x % 2 := by
  have e : ((BitVec.ofInt 64 x) &&& (BitVec.ofInt 64 1)).toNat = (x % 2).toNat := by
    rw [BitVec.toNat_and, BitVec.toNat_ofInt, show (BitVec.ofInt 64 1).toNat = 1 from rfl, Nat.and_one_is_mod]
    omega
  have h : IntKind.i64.wrap (((x % 2).toNat : Nat) : Int) = (((x % 2).toNat : Nat) : Int) := wrap_i64_in (by omega) (by omega)
  have e2 : ((BitVec.ofInt IntKind.i64.bits x) &&& (BitVec.ofInt IntKind.i64.bits 1)).toNat = (x % 2).toNat := e
  rw [e2, h]; omega
theorem Val.and1_i64 {P : Program} {env : Env} {w : World} {ty t ty2 : TypeId} {x y : Operand} {m : Int} (hx : evO env x = some (I m)) (hy : evO env y = some (I 1)) : Val P env w (.binOp .and t x y ty2) ty (I (m % 2)) := by
  have := Val.bitop (P := P) (w := w) (ty := ty) (t := t) (ty2 := ty2) (op := .and) hx hy (.inr (.inl ⟨rfl, rfl⟩))
  have e : IntKind.i64.wrap ((BitVec.ofInt IntKind.i64.bits m &&& BitVec.ofInt IntKind.i64.bits 1).toNat : Int) = m % 2 := Go.Eng.and1_i64 m
  rwa [e] at this

/-- Rows of texts. -/
structure RowsC (c : Nat → Nat) (w : World) (i : Nat) (t : TypeId) (vs : List Value) (L : List (List Txt)) : Prop where
  len : vs.length = L.length
  row : ∀ (j : Nat) (v : Value) (l : List Txt), vs[j]? = some v → L[j]? = some l → OwnC c w i t 1 v l.length (l.map St)
  apart : vs.Pairwise fun u v => ∀ k, u.rowOf = some k → v.rowOf ≠ some k
structure MapsC (c : Nat → Nat) (w : World) (i : Nat) (ms : List Nat) (L : List (List Txt)) : Prop where
  len : ms.length = L.length
  row : ∀ (j : Nat) (m : Nat) (l : List Txt), ms[j]? = some m → L[j]? = some l → MapC c w i m l
  apart : ms.Nodup
section
variable {c c' : Nat → Nat} {w w' : World} {i : Nat} {t : TypeId} {vs : List Value} {ms : List Nat} {L : List (List Txt)} {I : List Nat}
theorem RowsC.mv (h : RowsC c w i t vs L) (m : Mv c w c' w' I) (hi : hasC I i = false := by rfl) : RowsC c' w' i t vs L := ⟨h.len, fun j v l h1 h2 => (h.row j v l h1 h2).mv m hi, h.apart⟩
theorem MapsC.mv (h : MapsC c w i ms L) (m : Mv c w c' w' I) (hi : hasC I i = false := by rfl) : MapsC c' w' i ms L := ⟨h.len, fun j v l h1 h2 => (h.row j v l h1 h2).mv m hi, h.apart⟩
theorem RowsC.kp {J : List Nat} {W : World} (h : RowsC c w i t vs L) (hW : Kp c w J W) (hi : hasC J i = false) : RowsC c W i t vs L := ⟨h.len, fun j v l h1 h2 => (h.row j v l h1 h2).kp hW hi, h.apart⟩
theorem MapsC.kp {J : List Nat} {W : World} (h : MapsC c w i ms L) (hW : Kp c w J W) (hi : hasC J i = false) : MapsC c W i ms L := ⟨h.len, fun j v l h1 h2 => (h.row j v l h1 h2).kp hW hi, h.apart⟩
theorem RowsC.nil : RowsC c w i t [] [] := ⟨rfl, fun j v l h => by simp at h, List.Pairwise.nil⟩
theorem MapsC.nil : MapsC c w i [] [] := ⟨rfl, fun j v l h => by simp at h, List.nodup_nil⟩
theorem pair_at {α : Type} {R : α → α → Prop} (hs : ∀ x y, R x y → R y x) {l : List α} (h : l.Pairwise R) {i j : Nat} {x y : α} (hi : l[i]? = some x) (hj : l[j]? = some y) (hn : i ≠ j) : R x y := by
  obtain ⟨h1, rfl⟩ := List.getElem?_eq_some_iff.1 hi
  obtain ⟨h2, rfl⟩ := List.getElem?_eq_some_iff.1 hj
  have := List.pairwise_iff_getElem.1 h
  rcases Nat.lt_or_gt_of_ne hn with h3 | h3
  · exact this i j h1 h2 h3
  · exact hs _ _ (this j i h2 h1 h3)
theorem apartV_symm (x y : Value) (h : ∀ k, x.rowOf = some k → y.rowOf ≠ some k) : ∀ k, y.rowOf = some k → x.rowOf ≠ some k := fun k h1 h2 => h k h2 h1
theorem set_at {α : Type} {l : List α} {j k : Nat} {x y : α} (h : (l.set j x)[k]? = some y) : (k = j ∧ y = x ∧ j < l.length) ∨ (k ≠ j ∧ l[k]? = some y) := by
  rw [List.getElem?_set] at h
  split at h
  · rename_i e
    split at h
    · injection h with h; exact .inl ⟨e.symm, h.symm, by assumption⟩
    · cases h
  · rename_i e; exact .inr ⟨fun e2 => e e2.symm, h⟩
theorem pair_set {α : Type} {R : α → α → Prop} (hs : ∀ x y, R x y → R y x) {l : List α} (h : l.Pairwise R) {j : Nat} {x : α} (hx : ∀ k y, k ≠ j → l[k]? = some y → R x y) : (l.set j x).Pairwise R := by
  rw [List.pairwise_iff_getElem]
  intro a b ha hb hab
  rcases set_at (List.getElem?_eq_getElem ha) with ⟨e1, e2, _⟩ | ⟨n1, g1⟩
  · rcases set_at (List.getElem?_eq_getElem hb) with ⟨e3, _, _⟩ | ⟨n3, g3⟩
    · omega
    · rw [e2]; exact hx b _ n3 g3
  · rcases set_at (List.getElem?_eq_getElem hb) with ⟨e3, e4, _⟩ | ⟨n3, g3⟩
    · rw [e4]; exact hs _ _ (hx a _ n1 g1)
    · exact pair_at hs h g1 g3 (by omega)
/-- One row is another now. -/
theorem RowsC.put (h : RowsC c w i t vs L) {j : Nat} {v : Value} {l' : List Txt} (hj : vs[j]? = some v) (ho : OwnC c' w' i t 1 v l'.length (l'.map St)) (hg : w.grownBy w' v.rowOf) (hc : ∀ k, k < w.heap.size → c' k = c k) : RowsC c' w' i t vs (L.set j l') := by
  refine ⟨by rw [List.length_set]; exact h.len, fun k u l hk hl => ?_, h.apart⟩
  rcases set_at hl with ⟨rfl, rfl, _⟩ | ⟨hkj, hl⟩
  · rw [hj] at hk; injection hk with hk; rw [← hk]; exact ho
  · have h1 := h.row k u l hk hl
    exact ⟨h1.own.keepB fun b hb => hg.block b (h1.own.lt b hb).2 fun e => pair_at apartV_symm h.apart hk hj hkj b hb e.symm, fun b hb => (hc b (h1.own.lt b hb).2).trans (h1.col b hb)⟩
theorem MapsC.put (h : MapsC c w i ms L) {j m : Nat} {l' : List Txt} (hj : ms[j]? = some m) (ho : MapC c' w' i m l') (hg : w.grownBy w' (some m)) (hc : ∀ k, k < w.heap.size → c' k = c k) : MapsC c' w' i ms (L.set j l') := by
  refine ⟨by rw [List.length_set]; exact h.len, fun k u l hk hl => ?_, h.apart⟩
  rcases set_at hl with ⟨rfl, rfl, _⟩ | ⟨hkj, hl⟩
  · rw [hj] at hk; injection hk with hk; rw [← hk]; exact ho
  · have h1 := h.row k u l hk hl
    have hlt := h1.obj.lt
    exact ⟨h1.obj.keep (hg.block u hlt fun e => by injection e with e; exact pair_at (R := (· ≠ ·)) (fun _ _ h => h.symm) h.apart hj hk (fun e => hkj e.symm) e.symm), (hc u hlt).trans h1.col⟩
/-- A row in the place of another. -/
theorem RowsC.repl (h : RowsC c w i t vs L) {j : Nat} {v : Value} {l' : List Txt} (ho : OwnC c w i t 1 v l'.length (l'.map St)) (hn : ∀ (k : Nat) (u : Value) (l : List Txt) (b : Nat), vs[k]? = some u → L[k]? = some l → u.rowOf = some b → v.rowOf ≠ some b) : RowsC c w i t (vs.set j v) (L.set j l') := by
  refine ⟨by rw [List.length_set, List.length_set]; exact h.len, fun k u l hk hl => ?_, pair_set apartV_symm h.apart fun k y hk hy b h1 h2 => ?_⟩
  · rcases set_at hk with ⟨rfl, rfl, _⟩ | ⟨hkj, hk⟩
    · rcases set_at hl with ⟨_, rfl, _⟩ | ⟨hne, _⟩
      · exact ho
      · exact absurd rfl hne
    · rcases set_at hl with ⟨e, _, _⟩ | ⟨_, hl⟩
      · exact absurd e hkj
      · exact h.row k u l hk hl
  · obtain ⟨hlt, _⟩ := List.getElem?_eq_some_iff.1 hy
    exact hn k y _ b hy (List.getElem?_eq_getElem (by rw [← h.len]; exact hlt)) h2 h1
theorem MapsC.repl (h : MapsC c w i ms L) {j m : Nat} {l' : List Txt} (ho : MapC c w i m l') (hn : ∀ u ∈ ms, m ≠ u) : MapsC c w i (ms.set j m) (L.set j l') := by
  refine ⟨by rw [List.length_set, List.length_set]; exact h.len, fun k u l hk hl => ?_, pair_set (R := (· ≠ ·)) (fun _ _ h => h.symm) h.apart fun k y _ hy => hn y (List.mem_of_getElem? hy)⟩
  rcases set_at hk with ⟨rfl, rfl, _⟩ | ⟨hkj, hk⟩
  · rcases set_at hl with ⟨_, rfl, _⟩ | ⟨hne, _⟩
    · exact ho
    · exact absurd rfl hne
  · rcases set_at hl with ⟨e, _, _⟩ | ⟨_, hl⟩
    · exact absurd e hkj
    · exact h.row k u l hk hl
theorem snoc_at {α : Type} {l : List α} {k : Nat} {x y : α} (h : (l ++ [x])[k]? = some y) : (k = l.length ∧ y = x) ∨ l[k]? = some y := by
  rw [List.getElem?_append] at h
  split at h
  · exact .inr h
  · have : k - l.length = 0 := by
      rcases Nat.eq_zero_or_pos (k - l.length) with h1 | h1
      · exact h1
      · rw [List.getElem?_eq_none (by simp; omega)] at h; cases h
    rw [this] at h
    injection h with h
    exact .inl ⟨by omega, h.symm⟩
theorem RowsC.snoc (h : RowsC c w i t vs L) {v : Value} {l' : List Txt} (ho : OwnC c w i t 1 v l'.length (l'.map St)) (hn : ∀ (k : Nat) (u : Value) (l : List Txt) (b : Nat), vs[k]? = some u → L[k]? = some l → u.rowOf = some b → v.rowOf ≠ some b) : RowsC c w i t (vs ++ [v]) (L ++ [l']) := by
  refine ⟨by simp [h.len], fun k u l hk hl => ?_, ?_⟩
  · rcases snoc_at hk with ⟨rfl, rfl⟩ | hk
    · rcases snoc_at hl with ⟨_, rfl⟩ | hl
      · exact ho
      · rw [List.getElem?_eq_none (by rw [h.len]; omega)] at hl; cases hl
    · rcases snoc_at hl with ⟨e, rfl⟩ | hl
      · rw [List.getElem?_eq_none (by rw [e, h.len]; omega)] at hk; cases hk
      · exact h.row k u l hk hl
  · rw [List.pairwise_append]
    refine ⟨h.apart, by simp, fun x hx y hy b h1 h2 => ?_⟩
    simp at hy; subst hy
    obtain ⟨k, hk⟩ := List.getElem?_of_mem hx
    obtain ⟨hlt, _⟩ := List.getElem?_eq_some_iff.1 hk
    exact hn k x _ b hk (List.getElem?_eq_getElem (by rw [← h.len]; exact hlt)) h1 h2
theorem MapsC.snoc (h : MapsC c w i ms L) {m : Nat} {l' : List Txt} (ho : MapC c w i m l') (hn : ∀ u ∈ ms, m ≠ u) : MapsC c w i (ms ++ [m]) (L ++ [l']) := by
  refine ⟨by simp [h.len], fun k u l hk hl => ?_, ?_⟩
  · rcases snoc_at hk with ⟨rfl, rfl⟩ | hk
    · rcases snoc_at hl with ⟨_, rfl⟩ | hl
      · exact ho
      · rw [List.getElem?_eq_none (by rw [h.len]; omega)] at hl; cases hl
    · rcases snoc_at hl with ⟨e, rfl⟩ | hl
      · rw [List.getElem?_eq_none (by rw [e, h.len]; omega)] at hk; cases hk
      · exact h.row k u l hk hl
  · rw [List.nodup_append]
    exact ⟨h.apart, by simp, fun a ha b hb e => by simp at hb; subst hb; exact hn a ha e.symm⟩
/-- What came behind is none of the old ones. -/
theorem RowsC.newRow {w0 : World} {c0 : Nat → Nat} (h : RowsC c0 w0 i t vs L) {v : Value} (hv : ∀ k, v.rowOf = some k → w0.heap.size ≤ k) : ∀ (k : Nat) (u : Value) (l : List Txt) (b : Nat), vs[k]? = some u → L[k]? = some l → u.rowOf = some b → v.rowOf ≠ some b := fun k u l b hk hl hb h2 => by
  have := ((h.row k u l hk hl).own.lt b hb).2
  have := hv b h2; omega
theorem MapsC.newMap {w0 : World} {c0 : Nat → Nat} (h : MapsC c0 w0 i ms L) {m : Nat} (hm : w0.heap.size ≤ m) : ∀ u ∈ ms, m ≠ u := fun u hu e => by
  obtain ⟨k, hk⟩ := List.getElem?_of_mem hu
  obtain ⟨hlt, _⟩ := List.getElem?_eq_some_iff.1 hk
  have := (h.row k u _ hk (List.getElem?_eq_getElem (by rw [← h.len]; exact hlt))).obj.lt
  omega
end

/-- A disk's cells. -/
abbrev DX := Bool × Value × Nat
def encD (x : DX) : List Value := [.bool x.1, x.2.1, .map (some x.2.2)]
theorem encD_len (x : DX) : (encD x).length = 3 := rfl
/-- A row of disks. -/
structure DisksX (c : Nat → Nat) (w : World) (v : Value) (X : List DX) (D : List Dsk) : Prop where
  live : X.map (·.1) = D.map (·.live)
  own : OwnC c w 61 62 3 v X.length (X.flatMap encD)
  rows : RowsC c w 62 9 (X.map (·.2.1)) (D.map (·.l))
  maps : MapsC c w 63 (X.map (·.2.2)) (D.map (·.cache))
theorem OwnC.elem {c : Nat → Nat} {w : World} {v : Value} {e : TypeId} {α : Type} {enc : α → List Value} {n i : Nat} {X : List α} (h : OwnC c w i e n v X.length (X.flatMap enc)) (he : ∀ x, (enc x).length = n) (hn : 0 < n) {k : Nat} (hk : k < X.length) : CelC c w [i] (elemA v n k) (enc X[k]) := by
  rcases h.own.2 with ⟨h1, _⟩ | ⟨g, cap, cur, fz, rfl, hb, hg, hfz, hnc, hcm, hcs, htake, hcp⟩
  · omega
  have hgl := (h.own.lt g (rowOf_slice hcp)).2
  refine ⟨⟨fun j u hj => ?_, ?_⟩, ?_⟩
  · have hju : j < n := by rw [← he X[k]]; exact (List.getElem?_eq_some_iff.1 hj).1
    have h5 : (X.flatMap enc)[k * n + j]? = some u := by
      rw [List.flatMap_def]
      exact flatAt _ n (fun cs hcs => by obtain ⟨x, _, rfl⟩ := List.mem_map.1 hcs; exact he x) k (by simpa using hk) j u (by simpa using hj)
    have h6 : k * n + j < X.length * n := by
      have : (k + 1) * n ≤ X.length * n := Nat.mul_le_mul_right _ hk
      rw [Nat.add_mul, Nat.one_mul] at this; omega
    rw [← htake, List.getElem?_take_of_lt h6, Array.getElem?_toList] at h5
    simp [elemA, add_lit, World.cell?, hg, h5]
  · simpa [elemA, add_block] using hgl
  · have := h.col g (rowOf_slice hcp)
    simp [elemA, hasC, add_block, this]
theorem map_set_same {α β : Type} (f : α → β) {l : List α} {k : Nat} {x y : α} (hk : l[k]? = some x) (he : f y = f x) : (l.set k y).map f = l.map f := by
  rw [List.map_set, he]
  apply List.ext_getElem?
  intro j
  rw [List.getElem?_set]
  split
  · rename_i e; subst e
    obtain ⟨h1, rfl⟩ := List.getElem?_eq_some_iff.1 hk
    simp [h1]
  · rfl
theorem set_same {α : Type} {l : List α} {k : Nat} {x : α} (hk : l[k]? = some x) : l.set k x = l := by
  have := map_set_same id hk (y := x) rfl
  simpa using this
section
variable {c c' : Nat → Nat} {w w' : World} {v : Value} {X : List DX} {D : List Dsk} {K : List Nat} {k : Nat} {b : Bool} {lv : Value} {m : Nat} {x : Dsk}
theorem DisksX.len (h : DisksX c w v X D) : X.length = D.length := by simpa using congrArg List.length h.live
theorem DisksX.form (h : DisksX c w v X D) : ∃ A cp, v = .slice A D.length cp ∧ D.length ≤ cp ∧ cp ≤ maxLen := by rw [← h.len]; exact h.own.own.len
theorem DisksX.mv (h : DisksX c w v X D) (m : Mv c w c' w' K) (h1 : hasC K 61 = false := by rfl) (h2 : hasC K 62 = false := by rfl) (h3 : hasC K 63 = false := by rfl) : DisksX c' w' v X D :=
  ⟨h.live, h.own.mv m h1, h.rows.mv m h2, h.maps.mv m h3⟩
theorem DisksX.oneC (h : DisksX c w v X D) : v.oneCell' = true := by obtain ⟨A, cp, rfl, _⟩ := h.form; rfl
theorem DisksX.cellsV (h : DisksX c w v X D) : v.cells = #[v] := by obtain ⟨A, cp, rfl, _⟩ := h.form; rfl
/-- One disk. -/
theorem DisksX.at_ (h : DisksX c w v X D) (hD : D[k]? = some x) : ∃ lv m, X[k]? = some (x.live, lv, m) := by
  obtain ⟨hk, rfl⟩ := List.getElem?_eq_some_iff.1 hD
  have hkx : k < X.length := by rw [h.len]; exact hk
  have e1 : X[k].1 = D[k].live := by
    have := congrArg (·[k]?) h.live
    simpa [hkx, hk] using this
  exact ⟨X[k].2.1, X[k].2.2, by rw [List.getElem?_eq_getElem hkx, ← e1]⟩
theorem DisksX.cel (h : DisksX c w v X D) (hX : X[k]? = some (b, lv, m)) : CelC c w [61] (elemA v 3 (k : Int).toNat) [.bool b, lv, .map (some m)] := by
  obtain ⟨hk, he⟩ := List.getElem?_eq_some_iff.1 hX
  have := h.own.elem encD_len (by decide) hk
  rw [he] at this; exact this
theorem DisksX.row (h : DisksX c w v X D) (hX : X[k]? = some (b, lv, m)) (hD : D[k]? = some x) : OwnC c w 62 9 1 lv x.l.length (x.l.map St) := h.rows.row k lv x.l (by simp [hX]) (by simp [hD])
theorem DisksX.map (h : DisksX c w v X D) (hX : X[k]? = some (b, lv, m)) (hD : D[k]? = some x) : MapC c w 63 m x.cache := h.maps.row k m x.cache (by simp [hX]) (by simp [hD])
/-- A cache is another now. -/
theorem DisksX.turnMap (h : DisksX c w v X D) (hX : X[k]? = some (b, lv, m)) (hD : D[k]? = some x) {C : List Txt} (hm : MapW w' m C) (hg : w.grownBy w' (some m)) : ∃ c', Mv c w c' w' [63] ∧ DisksX c' w' v X (D.set k { x with cache := C }) := by
  obtain ⟨c', hm', _⟩ := Mv.grown (i := 63) c 63 hg (fun j hj => by cases hj; exact (h.map hX hD).col)
  have hlt := (h.map hX hD).obj.lt
  refine ⟨c', hm', ?_, h.own.mv hm', ?_, ?_⟩
  · rw [map_set_same _ hD (by rfl)]; exact h.live
  · rw [map_set_same _ hD (by rfl)]; exact h.rows.mv hm'
  · rw [List.map_set]
    exact h.maps.put (by simp [hX]) ⟨hm, (hm'.col m hlt).trans (h.map hX hD).col⟩ hg hm'.col
/-- A disk's row is another now. -/
theorem DisksX.turnRow (h : DisksX c w v X D) (hX : X[k]? = some (b, lv, m)) (hD : D[k]? = some x) {l : List Txt} (ho : Own w' 0 9 1 lv l.length (l.map St)) (hg : w.grownBy w' lv.rowOf) : ∃ c', Mv c w c' w' [62] ∧ DisksX c' w' v X (D.set k { x with l := l }) := by
  have hr := h.row hX hD
  obtain ⟨c', hm', _⟩ := Mv.grown (i := 62) c 62 hg hr.col
  refine ⟨c', hm', ?_, h.own.mv hm', ?_, ?_⟩
  · rw [map_set_same _ hD (by rfl)]; exact h.live
  · rw [List.map_set]
    exact h.rows.put (by simp [hX]) ⟨ho, fun j hj => (hm'.col j (hr.own.lt j hj).2).trans (hr.col j hj)⟩ hg hm'.col
  · rw [map_set_same _ hD (by rfl)]; exact h.maps.mv hm'
variable {P : Program} {env : Env} {ty : TypeId}
theorem Eff.diskPut {t kt e : TypeId} {o x1 y : Operand} (hT : MapTy P t kt e) (h : DisksX c w v X D) (hX : X[k]? = some (b, lv, m)) (hD : D[k]? = some x) (hm : evO env o = some (.map (some m))) {j : Nat} {s : Txt} (hx : evO env x1 = some (I j)) (hy : evO env y = some (St s)) (hj : j < x.cache.length) (hC : x.cache.length ≤ 9223372036854775807) (hs : s ≠ []) :
    Eff P env w (.mapUpdate t o x1 y) ty (fun _ w' => ∃ c', Mv c w c' w' [63] ∧ DisksX c' w' v X (D.set k { x with cache := x.cache.set j s })) :=
  (Eff.mapPut hT hm (h.map hX hD).obj hx hy hj hC hs).mono fun _ _ ⟨h1, h2⟩ => h.turnMap hX hD h1 h2
theorem Eff.diskClear {t kt e : TypeId} {o : Operand} (hT : MapTy P t kt e) (h : DisksX c w v X D) (hX : X[k]? = some (b, lv, m)) (hD : D[k]? = some x) (hm : evO env o = some (.map (some m))) :
    Eff P env w (.call ⟨.builtin .clear, #[o], #[t]⟩) ty (fun _ w' => ∃ c', Mv c w c' w' [63] ∧ DisksX c' w' v X (D.set k { x with cache := List.replicate x.cache.length [] })) :=
  (Eff.mclear hT hm (h.map hX hD).obj).mono fun _ _ ⟨h1, h2⟩ => h.turnMap hX hD h1 h2
theorem Eff.diskStore {t : TypeId} {x1 y : Operand} {j : Nat} {s : Txt} (ht : sclT P t = true) (h : DisksX c w v X D) (hX : X[k]? = some (b, lv, m)) (hD : D[k]? = some x) (hx : evO env x1 = some (.pointer (some (elemA lv 1 j)))) (hy : evO env y = some (St s)) (hj : j < x.l.length) :
    Eff P env w (.store t x1 y) ty (fun _ w' => ∃ c', Mv c w c' w' [62] ∧ DisksX c' w' v X (D.set k { x with l := x.l.set j s })) :=
  (Eff.storeOwn ht (h.row hX hD).own hj hx hy rfl rfl).mono fun _ _ ⟨h1, h2, _⟩ => h.turnRow hX hD (by rw [List.length_set, List.map_set]; exact h1) h2
/-- A new disk in the place of one. -/
theorem Eff.diskNew {t : TypeId} {x1 y : Operand} {b' : Bool} {lv' : Value} {m' : Nat} {x' : Dsk} (ht : aggT P t = some 3) (h : DisksX c w v X D) (hk : k < D.length) (hx : evO env x1 = some (.pointer (some (elemA v 3 k)))) (hy : evO env y = some (.agg #[.bool b', lv', .map (some m')]))
    (hb : x'.live = b') (ho : OwnC c w 62 9 1 lv' x'.l.length (x'.l.map St)) (hm : MapC c w 63 m' x'.cache) (hn1 : ∀ (j : Nat) (u : Value) (l : List Txt) (b : Nat), (X.map (·.2.1))[j]? = some u → (D.map (·.l))[j]? = some l → u.rowOf = some b → lv'.rowOf ≠ some b) (hn2 : ∀ u ∈ X.map (·.2.2), m' ≠ u) :
    Eff P env w (.store t x1 y) ty (fun _ w' => ∃ c', Mv c w c' w' [61] ∧ DisksX c' w' v (X.set k (b', lv', m')) (D.set k x')) :=
  (Eff.storeON ht h.own (by rw [h.len]; exact hk) hx (cs := encD (b', lv', m')) hy rfl (by intro u hu; simp [encD] at hu; rcases hu with rfl | rfl | rfl <;> first | rfl | exact ho.oneC)).mono fun _ _ ⟨c', hm', h1⟩ => by
    rw [flatMap_put encD_len X k (by rw [h.len]; exact hk)] at h1
    refine ⟨c', hm', ?_, by rw [List.length_set]; exact h1, ?_, ?_⟩
    · rw [List.map_set, List.map_set, h.live, hb]
    · rw [List.map_set, List.map_set]; exact (h.rows.repl ho hn1).mv hm'
    · rw [List.map_set, List.map_set]; exact (h.maps.repl hm hn2).mv hm'
theorem encD_dead {X : List DX} {k : Nat} {b : Bool} {lv : Value} {m : Nat} (hX : X[k]? = some (b, lv, m)) : (X.flatMap encD).set (k * 3) (.bool false) = (X.set k (false, lv, m)).flatMap encD := by
  induction X generalizing k with
  | nil => simp at hX
  | cons a r ih => cases k with
    | zero => simp at hX; subst hX; simp [encD]
    | succ k =>
      have := ih (k := k) (by simpa using hX)
      rw [List.set_cons_succ, List.flatMap_cons, List.flatMap_cons, ← this, List.set_append_right _ _ (by rw [encD_len]; omega), encD_len]
      congr 2; omega
/-- A disk dies. -/
theorem Eff.diskDie {t : TypeId} {x1 y : Operand} {g n' cap' : Nat} (ht : sclT P t = true) (h : DisksX c w v X D) (hX : X[k]? = some (b, lv, m)) (hD : D[k]? = some x) (hv : v = .slice (some ⟨g, 0, none⟩) n' cap') (hx : evO env x1 = some (.pointer (some ⟨g, k * 3, none⟩))) (hy : evO env y = some (.bool false)) :
    Eff P env w (.store t x1 y) ty (fun _ w' => ∃ c', Mv c w c' w' [61] ∧ DisksX c' w' v (X.set k (false, lv, m)) (D.set k { x with live := false })) :=
  (Eff.storeOF ht h.own hv (by have := (List.getElem?_eq_some_iff.1 hX).1; omega) hx hy rfl rfl).mono fun _ _ ⟨c', hm', h1⟩ => by
    rw [encD_dead hX] at h1
    refine ⟨c', hm', ?_, by rw [List.length_set]; exact h1, ?_, ?_⟩
    · rw [List.map_set, List.map_set, h.live]
    · rw [map_set_same _ hX (by rfl), map_set_same _ hD (by rfl)]; exact h.rows.mv hm'
    · rw [map_set_same _ hX (by rfl), map_set_same _ hD (by rfl)]; exact h.maps.mv hm'
/-- An array behind a pointer. -/
def ArrC (c : Nat → Nat) (w : World) (p : Nat) (A : Arr) : Prop := ∃ v X, BlkC c w 60 p [v, I A.sectors, .bool A.off, I A.left, I A.changes] 58 ∧ DisksX c w v X A.d
abbrev colA : List Nat := [60, 61, 62, 63]
theorem ArrC.mv {p : Nat} {A : Arr} (h : ArrC c w p A) (m : Mv c w c' w' K) (h0 : hasC K 60 = false := by rfl) (h1 : hasC K 61 = false := by rfl) (h2 : hasC K 62 = false := by rfl) (h3 : hasC K 63 = false := by rfl) : ArrC c' w' p A := by
  obtain ⟨v, X, a, b⟩ := h
  exact ⟨v, X, a.mv m h0, b.mv m h1 h2 h3⟩
theorem MapC.inn {J : List Nat} {i b : Nat} {C : List Txt} (h : MapC c w i b C) (hi : hasC J i = true) : MapC (mask c J) w i b C := ⟨h.obj, by rw [mask_in (by rw [h.col]; exact hi)]; exact h.col⟩
theorem RowsC.inn {J : List Nat} {i : Nat} {t : TypeId} {vs : List Value} {L : List (List Txt)} (h : RowsC c w i t vs L) (hi : hasC J i = true) : RowsC (mask c J) w i t vs L := ⟨h.len, fun j v l h1 h2 => (h.row j v l h1 h2).inn hi, h.apart⟩
theorem MapsC.inn {J : List Nat} {i : Nat} {ms : List Nat} {L : List (List Txt)} (h : MapsC c w i ms L) (hi : hasC J i = true) : MapsC (mask c J) w i ms L := ⟨h.len, fun j v l h1 h2 => (h.row j v l h1 h2).inn hi, h.apart⟩
theorem MapC.out {c0 : Nat → Nat} {w0 : World} {J : List Nat} {i b : Nat} {C : List Txt} (hb : MapC c w i b C) (h : OldJ c0 w0 J c w) (hi : (Nat.blt 0 i && hasC J i) = true) : MapC (back c0 w0 c) w i b C := by
  rw [Bool.and_eq_true] at hi
  exact ⟨hb.obj, back_col h hi.2 (by have := Nat.le_of_ble_eq_true hi.1; omega) hb.col⟩
theorem RowsC.out {c0 : Nat → Nat} {w0 : World} {J : List Nat} {i : Nat} {t : TypeId} {vs : List Value} {L : List (List Txt)} (hb : RowsC c w i t vs L) (h : OldJ c0 w0 J c w) (hi : (Nat.blt 0 i && hasC J i) = true) : RowsC (back c0 w0 c) w i t vs L := ⟨hb.len, fun j v l h1 h2 => (hb.row j v l h1 h2).out h hi, hb.apart⟩
theorem MapsC.out {c0 : Nat → Nat} {w0 : World} {J : List Nat} {i : Nat} {ms : List Nat} {L : List (List Txt)} (hb : MapsC c w i ms L) (h : OldJ c0 w0 J c w) (hi : (Nat.blt 0 i && hasC J i) = true) : MapsC (back c0 w0 c) w i ms L := ⟨hb.len, fun j v l h1 h2 => (hb.row j v l h1 h2).out h hi, hb.apart⟩
theorem DisksX.inn (h : DisksX c w v X D) : DisksX (mask c colA) w v X D := ⟨h.live, h.own.inn rfl, h.rows.inn rfl, h.maps.inn rfl⟩
theorem DisksX.out {c0 : Nat → Nat} {w0 : World} (hb : DisksX c w v X D) (h : OldJ c0 w0 colA c w) : DisksX (back c0 w0 c) w v X D := ⟨hb.live, hb.own.out h rfl, hb.rows.out h rfl, hb.maps.out h rfl⟩
theorem ArrC.inn {p : Nat} {A : Arr} (h : ArrC c w p A) : ArrC (mask c colA) w p A := by
  obtain ⟨v, X, a, b⟩ := h
  exact ⟨v, X, a.inn rfl, b.inn⟩
theorem ArrC.out {c0 : Nat → Nat} {w0 : World} {p : Nat} {A : Arr} (hb : ArrC c w p A) (h : OldJ c0 w0 colA c w) : ArrC (back c0 w0 c) w p A := by
  obtain ⟨v, X, a, b⟩ := hb
  exact ⟨v, X, a.out h rfl, b.out h⟩
end
end Go.Eng
