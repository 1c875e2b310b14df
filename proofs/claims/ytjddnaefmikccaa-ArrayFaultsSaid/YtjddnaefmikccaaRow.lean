/- Rows of one's own: parts, parts read as a source, elements put in, clear, copy, more zero values. No condition. -/
import Derived.Test.YtjddnaefmikccaaTurn
import Derived.Test.YtjddnaefmikccaaMore2
import Derived.Lib.Overlaps
set_option linter.unusedSimpArgs false
set_option linter.unusedVariables false
namespace Go.Eng
open Go Go.RowKit Go.Lib
section
variable {P : Program} {c : Nat → Nat} {w : World} {i : Nat} {e : TypeId} {size : Nat} {v : Value} {n : Nat} {xs : List Value}
theorem OwnA.src (h : OwnA w e size v n xs) {u e' : TypeId} (hu : P.underlying u = some (.slice e')) (h1 : ∀ y ∈ xs, y.oneCell' = true) : Src P w u size v n xs := by
  have hl := h.1
  rcases h.2 with ⟨rfl, A, rfl⟩ | ⟨g, o, cap, cur, fz, rfl, hg, hfz, hnc, hcm, hcs, htake, hcp⟩
  · have hx : xs = [] := List.eq_nil_of_length_eq_zero (by simpa using hl)
    subst hx
    refine ⟨.inl ⟨_, hu⟩, fun W => by cases A <;> simp [Builtin.lenOf], fun W _ => ?_, by simp, by simp⟩
    cases A with
    | none => exact run_firstCells_none (P := P) W size 0 0 0
    | some a => simpa using run_firstCells_some (P := P) W size 0 a 0 0 [] (by simp) (fun j y hy => by simp at hy)
  · exact Src.cellsAt hu (h.cells rfl hcp) hl h1
theorem OwnC.srcFrom (h : OwnC c w i e size v n xs) {u e' : TypeId} (hu : P.underlying u = some (.slice e')) (h1 : ∀ y ∈ xs, y.oneCell' = true) {k : Nat} (hk : k ≤ n) : Src P w u size (subV v k n size) (n - k) (xs.drop (k * size)) :=
  (h.own.any.from hk).src hu fun y hy => h1 y (List.mem_of_mem_drop hy)
/-- The head of a row of one's own. -/
theorem OwnC.to (h : OwnC c w i e size v n xs) {k : Nat} (hk : k ≤ n) : OwnC c w i e size (subV v 0 k size) k (xs.take (k * size)) := by
  have hle : k * size ≤ n * size := Nat.mul_le_mul_right _ hk
  refine ⟨⟨by rw [List.length_take, h.own.1]; omega, ?_⟩, fun j hj => h.col j (rowOf_subV hj)⟩
  rcases h.own.2 with ⟨rfl, A, rfl⟩ | ⟨g, cap, cur, fz, rfl, hb, hg, hfz, hnc, hcm, hcs, htake, hcp⟩
  · have : k = 0 := by omega
    subst this
    exact .inl ⟨rfl, A, by simp [subV]⟩
  · refine .inr ⟨g, cap, cur, fz, ?_, hb, hg, hfz, by omega, hcm, hcs, ?_, hcp⟩
    · simp [subV, add_lit]
    · rw [← htake, List.take_take, Nat.min_eq_left hle]
/-- .. and more of it than is known. -/
theorem OwnC.wide {A : Option Addr} {cap k : Nat} (h : OwnC c w i e size (.slice A n cap) n xs) (hc : n + k ≤ cap) : ∃ ys, ys.length = k * size ∧ OwnC c w i e size (subV (.slice A n cap) 0 (n + k) size) (n + k) (xs ++ ys) := by
  have hl := h.own.1
  rcases h.own.2 with ⟨rfl, A', he⟩ | ⟨g, cap', cur, fz, he, hb, hg, hfz, hnc, hcm, hcs, htake, hcp⟩
  · injection he with h1 h2 h3
    subst h3
    have : k = 0 := by omega
    subst this
    have hx : xs = [] := List.eq_nil_of_length_eq_zero (by simpa using hl)
    subst hx
    refine ⟨[], by simp, ⟨⟨by simp, .inl ⟨by omega, A, by simp [subV]⟩⟩, fun j hj => h.col j (rowOf_subV hj)⟩⟩
  · injection he with h1 h2 h3
    subst h1 h3
    have hm : (n + k) * size = n * size + k * size := Nat.add_mul _ _ _
    have hle : (n + k) * size ≤ cap * size := Nat.mul_le_mul_right _ hc
    have hcl : cur.toList.length = cap * size := by simpa using hcs
    refine ⟨(cur.toList.drop (n * size)).take (k * size), by rw [List.length_take, List.length_drop, hcl]; omega, ⟨⟨?_, .inr ⟨g, cap, cur, fz, ?_, hb, hg, hfz, hc, hcm, hcs, ?_, hcp⟩⟩, fun j hj => h.col j (rowOf_subV hj)⟩⟩
    · rw [List.length_append, hl, List.length_take, List.length_drop, hcl]; omega
    · simp [subV, add_lit]
    · rw [hm, List.take_add, htake]
end
section
variable {P : Program} {env : Env} {ty : TypeId} {c : Nat → Nat} {w : World} {i : Nat} {e : TypeId} {size : Nat} {v : Value} {n : Nat} {xs : List Value}
/-- Cells put into a row of one's own. -/
theorem OwnC.put (h : OwnC c w i e size v n xs) {o : Nat} {news : List Value} (hn : 0 < n) (ho : o + news.length ≤ n * size) (h1 : ∀ y ∈ news, y.oneCell' = true) :
    ∃ g cap w', v = .slice (some ⟨g, 0, none⟩) n cap ∧ (storeCells ⟨g, o, none⟩ news).run P w = .ok () w' ∧ OwnC c w' i e size v n (xs.take o ++ news ++ xs.drop (o + news.length)) ∧ Mv c w c w' [i] := by
  rcases h.own.2 with ⟨rfl, A, rfl⟩ | ⟨g, cap, cur, fz, rfl, hb, hg, hfz, hnc, hcm, hcs, htake, hcp⟩
  · omega
  have hle : n * size ≤ cap * size := Nat.mul_le_mul_right _ hnc
  have hcl : cur.toList.length = cap * size := by simpa using hcs
  have hst := run_storeCells_fz (P := P) g o e fz news 0 cur w hg hfz (by omega) h1
  simp only [Nat.add_zero] at hst
  have hxl := h.own.1
  refine ⟨g, cap, _, rfl, hst, ⟨⟨?_, .inr ⟨g, cap, _, fz, rfl, hb, setRow_heap w g cur _ e fz hg, ?_, hnc, hcm, ?_, ?_, hcp⟩⟩, h.col⟩, ?_⟩
  · simp only [List.length_append, List.length_take, List.length_drop, hxl]; omega
  · intro hf
    have := hfz hf
    simp only [List.size_toArray, List.length_append, List.length_take, List.length_drop, hcl]; omega
  · simp only [List.size_toArray, List.length_append, List.length_take, List.length_drop, hcl]; omega
  · rw [← htake]
    show (cur.toList.take o ++ news ++ cur.toList.drop (o + news.length)).take (n * size) = _
    rw [List.take_append, List.take_append, List.take_take, List.take_take, List.length_append, List.length_take, hcl, List.drop_take]
    rw [Nat.min_eq_left (show o ≤ cap * size by omega), Nat.min_eq_right (show o ≤ n * size by omega), Nat.min_eq_left (show o ≤ n * size by omega)]
    rw [List.take_of_length_le (show news.length ≤ n * size - o by omega), Nat.sub_add_eq]
  · refine ⟨rfl, rfl, rfl, by simp [World.setRow], fun _ _ => rfl, fun k _ hk => setRow_other w g k _ (fun e => ?_)⟩
    rw [e] at hk
    have hcg := h.col g (rowOf_slice hcp)
    rw [hcg] at hk; simp [hasC] at hk
/-- A struct stored into a row of one's own. -/
theorem Eff.storeON {t : TypeId} {x y : Operand} {j : Nat} {cs : List Value} (ht : aggT P t = some size) (hown : OwnC c w i e size v n xs) (hj : j < n) (hx : evO env x = some (.pointer (some (elemA v size j)))) (hy : evO env y = some (.agg cs.toArray)) (hl : cs.length = size) (h1 : ∀ y ∈ cs, y.oneCell' = true) :
    Eff P env w (.store t x y) ty (fun _ w' => ∃ c', Mv c w c' w' [i] ∧ OwnC c' w' i e size v n (xs.take (j * size) ++ cs ++ xs.drop ((j + 1) * size))) :=
  Eff.of_skip fun _ a ho d pos after g => by
    obtain ⟨_, inf, hinf, hsz⟩ := run_isAgg_agg (w := w) ht
    have hjn : (j + 1) * size ≤ n * size := Nat.mul_le_mul_right _ hj
    have hj1 : (j + 1) * size = j * size + size := by rw [Nat.add_mul, Nat.one_mul]
    obtain ⟨g', cap, w', rfl, hst, h2, h3⟩ := hown.put (P := P) (o := j * size) (news := cs) (by omega) (by omega) h1
    rw [hl, ← hj1] at h2
    refine ⟨w', ?_, c, h3, h2⟩
    simp only [execOp, Instr.storeAt, storeVar, ho.eval hx, ho.eval hy, Instr.sureAddr, Sem.run_bind, Sem.run_pure, Result.andThen_ok, sizeOf, typeInfo, program, Sem.run, hinf, Value.cells, List.size_toArray, hl, hsz]
    simp [elemA, add_lit, hst]
/-- One cell stored into it. -/
theorem Eff.storeOF {t : TypeId} {x y : Operand} {j : Nat} {u : Value} {g n' cap' : Nat} (ht : sclT P t = true) (hown : OwnC c w i e size v n xs) (hv : v = .slice (some ⟨g, 0, none⟩) n' cap') (hj : j < n * size) (hx : evO env x = some (.pointer (some ⟨g, j, none⟩))) (hy : evO env y = some u) (hu : u.cells = #[u]) (h1 : u.oneCell' = true) :
    Eff P env w (.store t x y) ty (fun _ w' => ∃ c', Mv c w c' w' [i] ∧ OwnC c' w' i e size v n (xs.set j u)) :=
  Eff.of_skip fun _ a ho d pos after g2 => by
    obtain ⟨inf, hinf, hsz⟩ := size_scl ht
    have hn : 0 < n := by
      rcases Nat.eq_zero_or_pos n with h | h
      · rw [h, Nat.zero_mul] at hj; omega
      · exact h
    obtain ⟨g', cap, w', hv2, hst, h2, h3⟩ := hown.put (P := P) (o := j) (news := [u]) hn (by simp; omega) (by simpa using h1)
    rw [hv] at hv2
    injection hv2 with hg _ _
    injection hg with hg
    injection hg with hg _ _
    subst hg
    have hxl := hown.own.1
    have hset : xs.take j ++ [u] ++ xs.drop (j + [u].length) = xs.set j u := by
      rw [List.set_eq_take_append_cons_drop, if_pos (by omega)]; simp
    rw [hset] at h2
    refine ⟨w', ?_, c, h3, h2⟩
    simp only [storeCells, Sem.run_bind, Sem.run_pure] at hst
    have key : ∀ r : Result Unit, (r.andThen fun _ w => .ok () w) = .ok () w' → (r.andThen fun _ w => .ok Next.skip w) = .ok Next.skip w' := fun r h => by
      cases r <;> simp_all [Result.andThen]
    have hst2 := key _ hst
    simp only [execOp, Instr.storeAt, storeVar, ho.eval hx, ho.eval hy, Instr.sureAddr, Sem.run_bind, Sem.run_pure, Result.andThen_ok, sizeOf, typeInfo, program, Sem.run, hinf, hu, hsz]
    simpa [storeCells] using hst2
/-- copy(v[a:], s). -/
theorem Eff.copyO {t t2 : TypeId} {by_ : Nat} {z : List Value} {x y : Operand} {a m : Nat} {sv : Value} {news : List Value} (ht : slT P t = some (e, size, by_, z)) (hown : OwnC c w i e size v n xs) (hn : 0 < n) (ha : a ≤ n) (hx : evO env x = some (subV v a n size)) (hy : evO env y = some sv)
    (hlen : ∀ W : World, (Builtin.lenOf sv).run P W = .ok m W) (hfc : ∀ W : World, W.heap = w.heap → (Builtin.firstCells size (Nat.min m (n - a)) sv).run P W = .ok news.toArray W) (hnl : news.length = Nat.min m (n - a) * size) (h1 : ∀ y ∈ news, y.oneCell' = true) :
    Eff P env w (.call ⟨.builtin .copy, #[x, y], #[t, t2]⟩) ty (fun _ w' => ∃ c', Mv c w c' w' [i] ∧ OwnC c' w' i e size v n (xs.take (a * size) ++ news ++ xs.drop (a * size + news.length))) :=
  Eff.of_run fun _ ac ho d pos after g => by
    obtain ⟨hu, inf, zv, hi, hs, hb', hz', hc', hl'⟩ := slT_spec ht
    have hmn : Nat.min m (n - a) * size ≤ (n - a) * size := Nat.mul_le_mul_right _ (Nat.min_le_right _ _)
    have hna : a * size + (n - a) * size = n * size := by rw [← Nat.add_mul]; congr 1; omega
    obtain ⟨g', cap, w', rfl, hst, h2, h3⟩ := hown.put (P := P) (o := a * size) (news := news) hn (by omega) h1
    have hf := hfc w rfl
    refine ⟨I ((Nat.min m (n - a) : Nat) : Int), w', ?_, c, h3, h2⟩
    by_cases hca : cap = a
    · have hna0 : n - a = 0 := by
        have := hown.own.len
        obtain ⟨A, cp, he, h4, _⟩ := this
        injection he with _ _ he
        omega
      have hm0 : Nat.min m (n - a) = 0 := by rw [hna0]; exact Nat.min_zero m
      have hn0 : news = [] := List.eq_nil_of_length_eq_zero (by rw [hnl, hm0, Nat.zero_mul])
      subst hn0
      have hw : w' = w := by simp [storeCells] at hst; exact hst.symm
      subst hw
      rw [hm0] at hf
      simp [execOp, resolve, invoke, builtin, Builtin.copy_, ho.eval hx, ho.eval hy, run_underlying hu, sizeOf, typeInfo, hi, hs, hlen, subV, hca, hna0, hf, goInt, storeCells]
    · simp [execOp, resolve, invoke, builtin, Builtin.copy_, ho.eval hx, ho.eval hy, run_underlying hu, sizeOf, typeInfo, hi, hs, hlen, subV, hca, hf, hst, goInt, add_lit]
theorem zero_one {z : Array Value} {n : Nat} (h : ∀ y ∈ z.toList, y.oneCell' = true) {y : Value} (hy : y ∈ (Builtin.zeroCells z n).toList) : y.oneCell' = true := by
  unfold Builtin.zeroCells at hy
  simp only [Array.toList_map, List.mem_map, Array.toList_range, List.mem_range] at hy
  obtain ⟨i, hi, rfl⟩ := hy
  have hz : 0 < z.size := by
    rcases Nat.eq_zero_or_pos z.size with h | h
    · rw [h, Nat.mul_zero] at hi; omega
    · exact h
  have hm := Nat.mod_lt i hz
  rw [getElem!_pos z _ hm]
  exact h _ (by simp)
/-- clear of what lies behind the head of a row of one's own. -/
theorem Eff.clearO {t : TypeId} {by_ : Nat} {z : List Value} {x : Operand} {A : Option Addr} {cap lo hi : Nat} (ht : slT P t = some (e, size, by_, z)) (h1 : ∀ y ∈ z, y.oneCell' = true) (hown : OwnC c w i e size (.slice A n cap) n xs) (hx : evO env x = some (subV (.slice A n cap) lo hi size)) (h0 : n ≤ lo) (h2 : lo ≤ hi) (h3 : hi ≤ cap) :
    Eff P env w (.call ⟨.builtin .clear, #[x], #[t]⟩) ty (fun _ w' => ∃ c', Mv c w c' w' [i] ∧ OwnC c' w' i e size (.slice A n cap) n xs) :=
  Eff.of_run fun _ ac ho d pos after g => by
    obtain ⟨hu, inf, zv, hi', hs, hb', hz', hc', hl'⟩ := slT_spec ht
    rcases Nat.eq_or_lt_of_le h2 with h4 | h4
    · subst h4
      refine ⟨.tuple #[], w, ?_, c, Mv.refl _ _ _, hown⟩
      have hsub : subV (.slice A n cap) lo lo size = .slice (if cap = lo then A else A.map (·.add (lo * size))) 0 (cap - lo) := by simp [subV]
      rw [hsub] at hx
      generalize (if cap = lo then A else A.map (·.add (lo * size))) = B at hx
      cases B <;> simp [execOp, resolve, invoke, builtin, Builtin.clear_, ho.eval hx, run_underlying hu]
    · rcases hown.own.2 with ⟨_, A', he⟩ | ⟨g, cap', cur, fz, he, hb2, hg, hfz, hnc, hcm, hcs, htake, hcp⟩
      · injection he with _ _ he; omega
      injection he with hA _ hcap
      subst hA hcap
      obtain ⟨ys, hyl, hw⟩ := hown.wide (k := hi - n) (by omega)
      have hhn : n + (hi - n) = hi := by omega
      rw [hhn] at hw
      have hsub : subV (.slice (some ⟨g, 0, none⟩) n cap) 0 hi size = .slice (some ⟨g, 0, none⟩) hi cap := by simp [subV, add_lit]
      rw [hsub] at hw
      have hzs : zv.cells.size = size := by rw [hc']; simpa using hl'
      have hzc : (Builtin.zeroCells zv.cells (hi - lo)).toList.length = (hi - lo) * size := by
        rw [Array.length_toList, size_zeroCells, hzs]
      have hls : lo * size + (hi - lo) * size = hi * size := by rw [← Nat.add_mul]; congr 1; omega
      have hnl : n * size ≤ lo * size := Nat.mul_le_mul_right _ h0
      obtain ⟨g', cp, w', hv, hst, h5, h6⟩ := hw.put (P := P) (o := lo * size) (news := (Builtin.zeroCells zv.cells (hi - lo)).toList) (by omega) (by omega) (fun y hy => zero_one (by rw [hc']; simpa using h1) hy)
      injection hv with hg' _ _
      injection hg' with hg'
      injection hg' with hg' _ _
      subst hg'
      have h7 := h5.to (k := n) (by omega)
      have hsub2 : subV (.slice (some ⟨g, 0, none⟩) hi cap) 0 n size = .slice (some ⟨g, 0, none⟩) n cap := by simp [subV, add_lit]
      rw [hsub2] at h7
      have hxl := hown.own.1
      have hx2 : ((xs ++ ys).take (lo * size) ++ (Builtin.zeroCells zv.cells (hi - lo)).toList ++ (xs ++ ys).drop (lo * size + (Builtin.zeroCells zv.cells (hi - lo)).toList.length)).take (n * size) = xs := by
        rw [List.append_assoc, List.take_append_of_le_length (by rw [List.length_take, List.length_append, hxl, hyl, ← Nat.add_mul, hhn]; omega), List.take_take, Nat.min_eq_left hnl, ← hxl, List.take_left]
      rw [hx2] at h7
      refine ⟨.tuple #[], w', ?_, c, h6, h7⟩
      have hsub3 : subV (.slice (some ⟨g, 0, none⟩) n cap) lo hi size = .slice (some ⟨g, lo * size, none⟩) (hi - lo) (cap - lo) := by
        simp [subV, add_lit, show ¬ cap = lo by omega]
      rw [hsub3] at hx
      have hne : hi - lo ≠ 0 := by omega
      have hzv : (zeroValue e).run P w = .ok zv w := by simp [zeroValue, typeInfo, hi', hz']
      obtain ⟨d0, hd0⟩ : ∃ d0, hi - lo = d0 + 1 := ⟨hi - lo - 1, by omega⟩
      rw [hd0] at hx hst
      simp [execOp, resolve, invoke, builtin, Builtin.clear_, ho.eval hx, run_underlying hu, hzv, hst]
/-- so many zero values more, where there is no room: a new row. -/
theorem Eff.appendZC {t tn : TypeId} {by_ : Nat} {z : List Value} {x y : Operand} {A : Option Addr} {cap : Nat} {kq kn : IntKind} {k : Int} (j : Nat) (ht : slT P t = some (e, size, by_, z)) (htn : P.underlying tn = some (.int kn)) (hsz : 0 < size) (hown : OwnC c w i e size (.slice A n cap) n xs) (hx : evO env x = some (.slice A n cap)) (hy : evO env y = some (.int kq k))
    (h0 : 0 < k) (hg : (cap : Int) < n + k) (hm : (n : Int) + k ≤ 1048576) (hby : 1048576 * by_ ≤ 140737488355328) :
    Eff P env w (.call ⟨.builtin .append, #[x, y], #[t, tn]⟩) ty (fun v' w' => ∃ c', Mv c w c' w' [] ∧ ∃ G ys, ys.length = k.toNat * size ∧ v' = .slice (some ⟨w.heap.size, 0, none⟩) (n + k.toNat) G ∧ OwnC c' w' j e size v' (n + k.toNat) (xs ++ ys)) :=
  Eff.of_run fun _ ac ho d pos after g => by
    obtain ⟨m, rfl⟩ := Int.eq_ofNat_of_zero_le (Int.le_of_lt h0)
    obtain ⟨hu, inf, zv, hi, hss, hb', hz', hc, hl⟩ := slT_spec ht
    subst hss hb'
    have hnm : (n + m) * inf.bytes ≤ 1048576 * inf.bytes := Nat.mul_le_mul_right _ (by omega)
    have hmm : m * inf.bytes ≤ (n + m) * inf.bytes := Nat.mul_le_mul_right _ (by omega)
    have hxl := hown.own.1
    have hold : (Builtin.firstCells inf.size n (.slice A n cap)).run P w.drew = .ok xs.toArray w.drew := by
      rcases hown.own.2 with ⟨rfl, A', he⟩ | ⟨g, cap', cur, fz, he, hb2, hg2, hfz, hnc, hcm, hcs, htake, hcp⟩
      · have hx0 : xs = [] := List.eq_nil_of_length_eq_zero (by simpa using hxl)
        subst hx0
        injection he with _ _ he
        subst he
        cases A with
        | none => exact run_firstCells_none (P := P) w.drew inf.size 0 0 0
        | some a => simpa using run_firstCells_some (P := P) w.drew inf.size 0 a 0 0 [] (by simp) (fun j y hy => by simp at hy)
      · injection he with hA _ hcap
        subst hA hcap
        exact run_firstCells_some (P := P) w.drew inf.size n ⟨g, 0, none⟩ n cap xs hxl (hown.own.cells (rowOf_slice hcp))
    have hr := Lib.run_append_grow_zeros (P := P) w t tn ty e inf zv kq kn hu htn hi hz' A n cap xs hold m (by omega) hsz (by omega) (by omega) (by omega) (growslice_fits (by omega) (by omega))
    have hge := grownCap_ge w (n + m) cap e
    have hle := grownCap_le_maxLen w (n + m) cap e (by unfold maxLen; omega)
    have hzs : zv.cells.size = inf.size := by rw [hc]; simpa using hl
    have hbel : Below w.heap.size w (w.drew.alloc (.cells (xs.toArray ++ Builtin.zeroCells zv.cells m ++ Builtin.zeroCells zv.cells (grownCap w (n + m) cap e - (n + m))) e)) := (Below.refl _ _).drew.alloc (Nat.le_refl _) _
    obtain ⟨c', hM, hcx⟩ := Mv.pure c j hbel
    have hzl : (Builtin.zeroCells zv.cells m).toList.length = m * inf.size := by rw [Array.length_toList, size_zeroCells, hzs]
    refine ⟨_, _, by simp only [execOp, resolve, invoke, builtin, List.map_toArray, List.map_cons, List.map_nil, ho.eval hx, ho.eval hy, hr, Sem.run_bind, Result.andThen_ok, Sem.run_pure]; rfl, c', hM, grownCap w (n + m) cap e, (Builtin.zeroCells zv.cells m).toList, by rw [Array.length_toList, size_zeroCells, hzs]; rfl, rfl, ⟨?_, fun j hj => ?_⟩⟩
    · refine ⟨by rw [List.length_append, hzl, hxl, Nat.add_mul]; rfl, .inr ⟨w.heap.size, _, _, (0, 0), rfl, Nat.zero_le _, heap_alloc_new w.drew _, fun h => by simp at h, hge, hle, ?_, ?_, by omega⟩⟩
      · simp only [Array.size_append, List.size_toArray, size_zeroCells, hzs, hxl, ← Nat.add_mul]
        congr 1
        omega
      · have hlen : (xs ++ (Builtin.zeroCells zv.cells m).toList).length = (n + m) * inf.size := by rw [List.length_append, hzl, hxl, Nat.add_mul]
        simp only [Array.toList_append, Int.toNat_natCast]
        rw [← hlen]
        exact List.take_left
    · refine hcx j ?_
      rw [rowOf_slice (show 0 < grownCap w (n + m) cap e by omega)] at hj
      injection hj with hj
      exact Nat.le_of_eq hj
end
end Go.Eng
