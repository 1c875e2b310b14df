/- Rows of one's own: the last operations; lists as rows. No condition. -/
import Derived.Test.YtjddnaefmikccaaRow
import Derived.Laws.Cover3
import Derived.Laws.Externs
set_option linter.unusedSimpArgs false
set_option linter.unusedVariables false
namespace Go.Eng
open Go Go.RowKit Go.Lib
section
variable {P : Program} {env : Env} {w : World} {ty t e : TypeId} {sz by_ : Nat} {z : List Value}
theorem Val.eqnil {ty2 : TypeId} {x : Operand} {A : Option Addr} {n c : Nat} (ht : P.underlying t = some (.slice e)) (hx : evO env x = some (.slice A n c)) : Val P env w (.binOp .eql t x (.const (.slice none 0 0)) ty2) ty (.bool A.isNone) := fun _ a ho d pos after g => by
  have h1 := run_equal_slice_nil (P := P) (w := w) t e A n c ht
  have h2 : a.eval (.const (.slice none 0 0)) = .slice none 0 0 := rfl
  simp [execOp, ho.eval hx, eqGuard, binOp, h1, h2]
/-- v[i:j:m]. -/
theorem Val.part3 {x y y2 y3 : Operand} {A : Option Addr} {n c : Nat} {k k2 k3 : IntKind} {i j m : Nat} (ht : slT P t = some (e, sz, by_, z)) (hx : evO env x = some (.slice A n c)) (hy : evO env y = some (.int k i)) (hy2 : evO env y2 = some (.int k2 j)) (hy3 : evO env y3 = some (.int k3 m)) (h0 : i ≤ j) (h1 : j ≤ m) (h2 : m ≤ c) :
    Val P env w (.slice t x (some y) (some y2) (some y3)) ty (.slice (if m = i then A else A.map (·.add (i * sz))) (j - i) (m - i)) := fun _ a ho d pos after g => by
  obtain ⟨hu, inf, zv, hi', hs, _⟩ := slT_spec ht
  subst hs
  simp [execOp, Instr.sliceAt, Instr.slice, Instr.sliceBounds, Instr.sliceBound, asIntOf, ho.eval hx, ho.eval hy, ho.eval hy2, ho.eval hy3, run_underlying hu, h0, h1, h2, sizeOf, typeInfo, hi']
end
section
variable {α : Type} {enc : α → List Value} {n : Nat}
theorem flatMap_take (he : ∀ x, (enc x).length = n) : ∀ (l : List α) (k : Nat), (l.flatMap enc).take (k * n) = (l.take k).flatMap enc
  | _, 0 => by simp
  | [], k + 1 => by simp
  | x :: r, k + 1 => by
    rw [List.flatMap_cons, List.take_succ_cons, List.flatMap_cons, ← flatMap_take he r k, show (k + 1) * n = (enc x).length + k * n by rw [he, Nat.add_mul, Nat.one_mul, Nat.add_comm], List.take_length_add_append]
theorem flatMap_drop (he : ∀ x, (enc x).length = n) : ∀ (l : List α) (k : Nat), (l.flatMap enc).drop (k * n) = (l.drop k).flatMap enc
  | _, 0 => by simp
  | [], k + 1 => by simp
  | x :: r, k + 1 => by
    rw [List.flatMap_cons, List.drop_succ_cons, ← flatMap_drop he r k, show (k + 1) * n = (enc x).length + k * n by rw [he, Nat.add_mul, Nat.one_mul, Nat.add_comm], List.drop_length_add_append]
theorem flatMap_one (h1 : ∀ x, ∀ u ∈ enc x, u.oneCell' = true) (l : List α) : ∀ u ∈ l.flatMap enc, u.oneCell' = true := fun u hu => by
  obtain ⟨x, _, hx⟩ := List.mem_flatMap.1 hu
  exact h1 x u hx
theorem ins_grow (he : ∀ x, (enc x).length = n) {l : List α} {k : Nat} {x : α} {ys : List Value} (hk : k ≤ l.length) (hy : ys.length = (l.length + 1 - k) * n) {X1 X2 : List Value} (h1 : X1 = (l.flatMap enc).take (k * n) ++ ys) (h2 : X2 = X1.take (k * n) ++ enc x ++ X1.drop (k * n + (enc x).length)) :
    X2.take ((k + 1) * n) ++ (l.drop k).flatMap enc ++ X2.drop ((k + 1) * n + ((l.drop k).flatMap enc).length) = (l.take k ++ x :: l.drop k).flatMap enc := by
  have hP : ((l.take k).flatMap enc).length = k * n := by rw [flatMap_len he, List.length_take, Nat.min_eq_left hk]
  have hD : ((l.drop k).flatMap enc).length = (l.length - k) * n := by rw [flatMap_len he, List.length_drop]
  have hk1 : (k + 1) * n = k * n + n := by rw [Nat.add_mul, Nat.one_mul]
  have hy1 : (l.length + 1 - k) * n = (l.length - k) * n + n := by rw [show l.length + 1 - k = l.length - k + 1 by omega, Nat.add_mul, Nat.one_mul]
  rw [flatMap_take he] at h1
  have hX1l : X1.length = k * n + (l.length + 1 - k) * n := by rw [h1, List.length_append, hP, hy]
  have hX1 : X1.take (k * n) = (l.take k).flatMap enc := by rw [h1, ← hP]; exact List.take_left
  rw [hX1] at h2
  have hX2l : X2.length = (k + 1) * n + (l.length - k) * n := by
    rw [h2, List.length_append, List.length_append, hP, he, List.length_drop, hX1l]; omega
  have hX2 : X2.take ((k + 1) * n) = (l.take k).flatMap enc ++ enc x := by
    have : (k + 1) * n = ((l.take k).flatMap enc ++ enc x).length := by rw [List.length_append, hP, he]; omega
    rw [h2, this]; exact List.take_left
  have hd : X2.drop ((k + 1) * n + ((l.drop k).flatMap enc).length) = [] := List.drop_of_length_le (by rw [hX2l, hD]; omega)
  rw [hX2, hd, List.append_nil, List.flatMap_append, List.flatMap_cons, List.append_assoc]
theorem ins_shift (he : ∀ x, (enc x).length = n) {l : List α} {k : Nat} {x : α} {ys : List Value} (hk : k ≤ l.length) (hy : ys.length = 1 * n) {X X1 D : List Value} (hX : X = l.flatMap enc ++ ys) (hD0 : D = (X.drop (k * n)).take ((l.length - k) * n)) (h1 : X1 = X.take ((k + 1) * n) ++ D ++ X.drop ((k + 1) * n + D.length)) :
    X1.take (k * n) ++ enc x ++ X1.drop (k * n + (enc x).length) = (l.take k ++ x :: l.drop k).flatMap enc := by
  have hl := flatMap_len he l
  have hle : k * n ≤ l.length * n := Nat.mul_le_mul_right _ hk
  have hls : l.length * n = k * n + (l.length - k) * n := by rw [← Nat.add_mul]; congr 1; omega
  have hk1 : (k + 1) * n = k * n + n := by rw [Nat.add_mul, Nat.one_mul]
  have hD : D = (l.drop k).flatMap enc := by
    rw [hD0, hX, List.drop_append_of_le_length (by rw [hl]; exact hle), flatMap_drop he]
    have : (l.length - k) * n = ((l.drop k).flatMap enc).length := by rw [flatMap_len he, List.length_drop]
    rw [this]; exact List.take_left
  have hDl : D.length = (l.length - k) * n := by rw [hD, flatMap_len he, List.length_drop]
  have hXl : X.length = l.length * n + n := by rw [hX, List.length_append, hl, hy, Nat.one_mul]
  have hXd : X.drop ((k + 1) * n + D.length) = [] := List.drop_of_length_le (by rw [hXl, hDl]; omega)
  rw [hXd, List.append_nil] at h1
  have hXt : (X.take ((k + 1) * n)).length = (k + 1) * n := by rw [List.length_take, hXl]; omega
  have hX1 : X1.take (k * n) = (l.take k).flatMap enc := by
    rw [h1, List.take_append_of_le_length (by rw [hXt]; omega), List.take_take, Nat.min_eq_left (by omega), hX, List.take_append_of_le_length (by rw [hl]; exact hle), flatMap_take he]
  have hX2 : X1.drop (k * n + (enc x).length) = D := by
    rw [he, ← hk1, h1]; exact List.drop_left' hXt
  rw [hX1, hX2, hD, List.flatMap_append, List.flatMap_cons, List.append_assoc]
theorem flatMap_put (he : ∀ x, (enc x).length = n) (l : List α) (k : Nat) (hk : k < l.length) (x : α) : (l.flatMap enc).take (k * n) ++ enc x ++ (l.flatMap enc).drop ((k + 1) * n) = (l.set k x).flatMap enc := by
  rw [flatMap_take he, flatMap_drop he, List.set_eq_take_append_cons_drop, if_pos hk, List.flatMap_append, List.flatMap_cons, List.append_assoc]
end
section
variable {c : Nat → Nat} {w : World} {i : Nat} {e : TypeId} {size : Nat}
theorem OwnC.posForm {v : Value} {n : Nat} {xs : List Value} (h : OwnC c w i e size v n xs) (h0 : 0 < n) : ∃ g cp, v = .slice (some ⟨g, 0, none⟩) n cp ∧ n ≤ cp ∧ cp ≤ 9223372036854775807 := by
  rcases h.own.2 with ⟨h1, _⟩ | ⟨g, cap, cur, fz, rfl, _, _, _, h1, h2, _⟩
  · omega
  · exact ⟨g, cap, rfl, h1, by rw [maxLen_eq] at h2; omega⟩
theorem OwnC.emptyB {b : Nat} : OwnC c w i e size (.slice (some ⟨b, 0, none⟩) 0 0) 0 [] := ⟨Own.zero _ _ _ _ _, fun k hk => by rw [rowOf_zero] at hk; cases hk⟩
variable {P : Program} {env : Env} {ty : TypeId}
theorem Eff.build0C {t : TypeId} {by_ : Nat} {z : List Value} (c : Nat → Nat) (ht : slT P t = some (e, size, by_, z)) : Eff P env w (.buildSlice t 0 #[]) ty (fun v w' => ∃ c', Mv c w c' w' [] ∧ ∃ b, v = .slice (some ⟨b, 0, none⟩) 0 0) :=
  Eff.of_run fun _ a ho d pos after g => by
    obtain ⟨hu, inf, zv, hi, hs, hb, hz', hc, hl⟩ := slT_spec ht
    obtain ⟨c', hM, _⟩ := Mv.pure (w := w) c 1 ((Below.refl w.heap.size w).alloc (Nat.le_refl _) (.cells #[] e))
    refine ⟨.slice (some ⟨w.heap.size, 0, none⟩) 0 0, w.alloc (.cells #[] e), ?_, c', hM, _, rfl⟩
    simp [execOp, Instr.buildSlice, run_underlying hu, sizeOf, typeInfo, hi, newRow, Instr.fill]
    rw [show (Array.map (fun _ => (default : Value)) (Array.range 0)) = #[] from by simp [Array.range]]
/-- append where there is room. -/
theorem Eff.appendIn {s x : Operand} {t u : TypeId} {by_ : Nat} {z : List Value} {A : Option Addr} {cap n m : Nat} {xv : Value} {xs news : List Value} (ht : slT P t = some (e, size, by_, z)) (hs : evO env s = some (.slice A n cap)) (hx : evO env x = some xv) (hown : OwnC c w i e size (.slice A n cap) n xs) (hsrc : Src P w u size xv m news) (hroom : n + m ≤ cap) (h0 : 0 < cap) :
    Eff P env w (.call ⟨.builtin .append, #[s, x], #[t, u]⟩) ty (fun v' w' => ∃ c', Mv c w c' w' [i] ∧ v' = .slice A (n + m) cap ∧ OwnC c' w' i e size (.slice A (n + m) cap) (n + m) (xs ++ news)) :=
  Eff.of_run fun _ ac ho d pos after g => by
    obtain ⟨hu, inf, zv, hi, hss, hb', hz', hc, hl⟩ := slT_spec ht
    have hxl := hown.own.1
    rcases hown.own.2 with ⟨_, A', he⟩ | ⟨g, cap', cur, fz, he, hb2, hg, hfz, hnc, hcm, hcs, htake, hcp⟩
    · injection he with _ _ he; omega
    injection he with hA _ hcap
    subst hA hcap
    obtain ⟨ys, hyl, hw⟩ := hown.wide (k := m) hroom
    have hsub : subV (.slice (some ⟨g, 0, none⟩) n cap) 0 (n + m) size = .slice (some ⟨g, 0, none⟩) (n + m) cap := by simp [subV, add_lit]
    rw [hsub] at hw
    have hnl := hsrc.len
    have hx0 : (xs ++ ys).take (n * size) = xs := by rw [← hxl]; exact List.take_left
    have hx1 : (xs ++ ys).drop (n * size + news.length) = [] := List.drop_of_length_le (by rw [List.length_append, hyl, hxl, hnl]; omega)
    have hh1 := hsrc.cells w rfl
    rcases Nat.eq_zero_or_pos (n + m) with hz | hz
    · have hm0 : m = 0 := by omega
      have hn0 : n = 0 := by omega
      subst hm0 hn0
      have hne : news = [] := List.eq_nil_of_length_eq_zero (by rw [hnl]; simp)
      subst hne
      refine ⟨.slice (some ⟨g, 0, none⟩) 0 cap, w, ?_, c, Mv.refl _ _ _, rfl, by simpa using hown⟩
      rcases hsrc.kind with ⟨e', hud⟩ | hud <;> simp [execOp, resolve, invoke, builtin, Builtin.append_, ho.eval hs, ho.eval hx, run_underlying hu, run_underlying hud, sizeOf, typeInfo, hi, hss, hsrc.lenOf, hh1, storeCells, add_lit]
    · obtain ⟨g', cp, w', hv, hst, h5, h6⟩ := hw.put (P := P) (o := n * size) (news := news) hz (by rw [hnl, ← Nat.add_mul]; exact Nat.le_refl _) hsrc.one
      injection hv with hg' _ _
      injection hg' with hg'
      injection hg' with hg' _ _
      subst hg'
      rw [hx0, hx1, List.append_nil] at h5
      refine ⟨.slice (some ⟨g, 0, none⟩) (n + m) cap, w', ?_, c, h6, rfl, h5⟩
      rcases hsrc.kind with ⟨e', hud⟩ | hud <;> simp [execOp, resolve, invoke, builtin, Builtin.append_, ho.eval hs, ho.eval hx, run_underlying hu, run_underlying hud, sizeOf, typeInfo, hi, hss, hsrc.lenOf, hroom, hh1, add_lit, hst]
/-- A call of what the model lays itself, where its answer is known. -/
theorem Val.extern {f : FuncId} {args : Array Operand} {at_ : Array TypeId} {vs : List Value} {u : Value} (hx : evL env args.toList = some vs) (hr : (callFunc f vs.toArray).run P w = .ok (.value u) w) : Val P env w (.call ⟨.value (.func f), args, at_⟩) ty u := fun _ a ho d pos after g => by
  have h1 := ho.evalL hx
  have e : args.map a.eval = vs.toArray := by rw [← h1]; apply Array.ext'; simp
  have h2 : a.eval (.func f) = .func (.func f) #[] #[] := rfl
  simp [execOp, resolve, Deferred.ofValue, h2, invoke, e, hr]
theorem OwnC.firstFrom {v : Value} {n : Nat} {xs : List Value} (h : OwnC c w i e size v n xs) {k m : Nat} (hk : k + m ≤ n) : ∀ W : World, W.heap = w.heap → (Builtin.firstCells size m (subV v k n size)).run P W = .ok ((xs.drop (k * size)).take (m * size)).toArray W := by
  intro W hW
  have hxl := h.own.1
  have ha := h.own.any.from (k := k) (by omega)
  have hl : ((xs.drop (k * size)).take (m * size)).length = m * size := by
    have : (k + m) * size ≤ n * size := Nat.mul_le_mul_right _ hk
    rw [Nat.add_mul] at this
    rw [List.length_take, List.length_drop, hxl]; omega
  rcases ha.2 with ⟨h0, A, hv⟩ | ⟨g, o, cap, cur, fz, hv, hg, _, _, _, _, htake, hcp⟩
  · have hm0 : m = 0 := by omega
    subst hm0
    rw [hv]
    simp only [Nat.zero_mul, List.take_zero]
    cases A with
    | none => exact run_firstCells_none (P := P) W size 0 0 0
    | some a => simpa using run_firstCells_some (P := P) W size 0 a 0 0 [] (by simp) (fun j y hy => by simp at hy)
  · have hc := ha.cells hv hcp
    rw [hv]
    refine run_firstCells_some (P := P) W size m ⟨g, o, none⟩ _ cap _ hl fun j y hy => ?_
    rw [List.getElem?_take] at hy
    split at hy
    · rw [← hc j y hy]
      exact World.cell?_of_block (by rw [hW])
    · cases hy
/-- Of two rows, the first of which is a new one: they do not overlap. -/
theorem overlaps_apart {t tR : TypeId} {by_ : Nat} {z : List Value} {b j n m lo : Nat} {cs : List Value} {T : TypeId} {v : Value} {xs : List Value} (ht : slT P t = some (e, size, by_, z)) (hb : BlkC c w j b cs T) (ho : OwnC c w i e size v n xs) (hn : 0 < n) (hsz : 0 < size) (hij : i ≠ j) :
    (Extern.SlicesOverlaps.overlaps #[t, t] #[tR] #[.slice (some ⟨b, 0, none⟩) m m, subV v lo n size]).run P w = .ok (.bool false) w := by
  obtain ⟨hu, inf, zv, hi, hss, hb', hz', hc', hl'⟩ := slT_spec ht
  rcases ho.own.2 with ⟨h1, _⟩ | ⟨g, cap, cur, fz, rfl, hb2, hg, hfz, hnc, hcm, hcs, htake, hcp⟩
  · omega
  have hne : b ≠ g := fun e => hij (by rw [← ho.col g (rowOf_slice hcp), ← e]; exact hb.col)
  have hbk : w.heap[b]? = some (.cells cs.toArray T (0, 0)) := hb.blk
  have hsa : w.shape? b = some (T, cs.toArray.size) := by unfold World.shape?; rw [hbk]
  have hsb : w.shape? g = some (e, cur.size) := by unfold World.shape?; rw [hg]
  have hk : cur.size ≠ 0 := by
    rw [hcs]; exact Nat.mul_ne_zero (by omega) (by omega)
  have hzz : ∀ w, (Go.sizeOf e).run P w = .ok size w := fun w => by simp [sizeOf, typeInfo, hi, hss]
  have hfr : ∀ o, w.frozen? ⟨b, o, none⟩ = false := fun o => by simp [World.frozen?, hbk]
  obtain ⟨o, ho2⟩ : ∃ o, (if cap = lo then (some ⟨g, 0, none⟩ : Option Addr) else (some ⟨g, 0, none⟩ : Option Addr).map (·.add (lo * size))) = some ⟨g, o, none⟩ := by
    split
    · exact ⟨0, rfl⟩
    · exact ⟨lo * size, by simp [add_lit]⟩
  have hsub : subV (.slice (some ⟨g, 0, none⟩) n cap) lo n size = .slice (some ⟨g, o, none⟩) (n - lo) (cap - lo) := by
    show Value.slice _ _ _ = _
    rw [ho2]
  rw [hsub]
  exact Lib.run_overlaps_apart w t tR e hu size hzz ⟨b, 0, none⟩ ⟨g, o, none⟩ m m (n - lo) (cap - lo) hne T e _ _ hsa hsb hk (hfr 0) (hfr _)
end
end Go.Eng
