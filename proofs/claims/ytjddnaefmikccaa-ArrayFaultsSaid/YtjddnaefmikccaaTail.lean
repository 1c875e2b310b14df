/- Slices of rows of one's own that begin anywhere in the row; labels' scopes. No condition. -/
import Derived.Test.YtjddnaefmikccaaMore2
import Derived.Test.YtjddnaefmikccaaSl
set_option linter.unusedSimpArgs false
set_option linter.unusedVariables false
namespace Go
section
variable {P : Program} {b : Frame} {a : Act} {k : List Item} {cs : List Frame} {w : World}
theorem stepR_scope {c : Code} : step P (lone (b.atR a (.code (.scope c) :: k)) cs w) = .next (lone (b.atR a (.code c :: .inScope c :: k)) cs w) :=
  step_lone_go (by simp [stepG, stepG.exec, Frame.atR])
theorem stepR_inScope {c : Code} : step P (lone (b.atR a (.inScope c :: k)) cs w) = .next (lone (b.atR a k) cs w) :=
  step_lone_go (by simp [stepG, stepG.exec, Frame.atR])
end
theorem wpIn_scope {F : Fence} {n : Nat} {P : Program} {Q : Exit → Act → World → Prop} {a : Act} {w : World} {c : Code} (h : c.wpIn F n P Q a w) (hg : ∀ l a w, ¬ Q (.goto l) a w) : (Code.scope c).wpIn F n P Q a w := by
  intro b k cs hro hb hr
  have h0 : (lone (b.atR a (.code (.scope c) :: k)) cs w).fenced P F := fenced_calm hb hr rfl
  obtain ⟨e, a₁, w₁, hq, harr⟩ := h b (.inScope c :: k) cs hro hb hr
  cases e with
  | normal => exact ⟨.normal, a₁, w₁, hq, .head h0 stepR_scope (StepsIn.trans harr (.one (fenced_calm hb hr rfl) stepR_inScope))⟩
  | exit id =>
    have hx : exitTo id (.inScope c :: k) = exitTo id k := by simp [exitTo]
    exact ⟨_, a₁, w₁, hq, fun k' hk => .head h0 stepR_scope (harr.1 k' (by rw [hx]; exact hk)),
      fun hr' hk => let ⟨k₁, h1, h2⟩ := harr.2 hr' (by rw [hx]; exact hk); ⟨k₁, h1, .head h0 stepR_scope h2⟩⟩
  | goto l => exact absurd hq (hg _ _ _)
  | ret => exact ⟨_, a₁, w₁, hq, .of_steps (.one h0 stepR_scope) harr⟩
  | panic ch => exact ⟨_, a₁, w₁, hq, .of_steps (.one h0 stepR_scope) harr⟩
  | outgrown => exact ⟨_, a₁, w₁, hq, .of_steps (.one h0 stepR_scope) harr⟩
namespace Eng
open Go.RowKit
theorem WC.scope {c : Cx} {B : List (Nat × Kont)} {env : Env} {w : World} {N : Kont} {x : Code} (h : WC c B x env w N) : WC c B (.scope x) env w N := fun a ho => wpIn_scope (h a ho) fun _ _ _ hq => hq

theorem flatAt : ∀ (css : List (List Value)) (n : Nat), (∀ cs ∈ css, cs.length = n) → ∀ (i : Nat) (hi : i < css.length) (j : Nat) (u : Value), css[i][j]? = some u → css.flatten[i * n + j]? = some u
  | cs :: r, n, hl, 0, _, j, u, hu => by
    have hj : j < cs.length := by
      rcases Nat.lt_or_ge j cs.length with h' | h'
      · exact h'
      · simp [List.getElem?_eq_none h'] at hu
    simp only [List.flatten_cons, Nat.zero_mul, Nat.zero_add]
    rw [List.getElem?_append_left hj]
    simpa using hu
  | cs :: r, n, hl, i + 1, hi, j, u, hu => by
    have h0 := hl cs (by simp)
    simp only [List.flatten_cons]
    rw [List.getElem?_append_right (by rw [h0, Nat.add_mul]; omega), h0]
    have : (i + 1) * n + j - n = i * n + j := by rw [Nat.add_mul]; omega
    rw [this]
    exact flatAt r n (fun c hc => hl c (by simp [hc])) i (by simpa using hi) j u (by simpa using hu)
/-- A slice of a row of one's own, anywhere in it. -/
def OwnA (w : World) (e : TypeId) (size : Nat) (v : Value) (n : Nat) (xs : List Value) : Prop :=
  xs.length = n * size ∧
  ((n = 0 ∧ ∃ A, v = .slice A 0 0) ∨
   ∃ g o cap cur fz, v = .slice (some ⟨g, o, none⟩) n cap ∧ w.heap[g]? = some (.cells cur e fz) ∧ (fz.1 < fz.2 → cur.size ≤ fz.1) ∧ n ≤ cap ∧ cap ≤ maxLen ∧ cur.size = o + cap * size ∧ (cur.toList.drop o).take (n * size) = xs ∧ 0 < cap)
section
variable {w w' : World} {e : TypeId} {size : Nat} {v : Value} {n : Nat} {xs : List Value}
theorem Own.any {base : Nat} (h : Own w base e size v n xs) : OwnA w e size v n xs := by
  refine ⟨h.1, ?_⟩
  rcases h.2 with hn | ⟨g, cap, cur, fz, rfl, hb, h1, h2, h3, h4, h5, h6, h7⟩
  · exact .inl hn
  · exact .inr ⟨g, 0, cap, cur, fz, rfl, h1, h2, h3, h4, by omega, by simpa using h6, h7⟩
theorem OwnA.lt (h : OwnA w e size v n xs) : ∀ k, v.rowOf = some k → k < w.heap.size := by
  intro k hk
  rcases h.2 with ⟨_, A, rfl⟩ | ⟨g, o, cap, cur, fz, rfl, hg, _, _, _, _, _, h0⟩
  · rw [rowOf_zero] at hk; cases hk
  · rw [rowOf_slice h0] at hk
    injection hk with hk
    subst hk
    exact (Array.getElem?_eq_some_iff.1 hg).1
theorem OwnA.keepB (h : OwnA w e size v n xs) (hk : ∀ k, v.rowOf = some k → w'.heap[k]? = w.heap[k]?) : OwnA w' e size v n xs := by
  refine ⟨h.1, ?_⟩
  rcases h.2 with hn | ⟨g, o, cap, cur, fz, rfl, hg, h1, h2, h3, h4, h5, h0⟩
  · exact .inl hn
  · exact .inr ⟨g, o, cap, cur, fz, rfl, by rw [hk g (rowOf_slice h0)]; exact hg, h1, h2, h3, h4, h5, h0⟩
theorem OwnA.formA (h : OwnA w e size v n xs) : ∃ A c, v = .slice A n c ∧ n ≤ c ∧ c ≤ maxLen := by
  rcases h.2 with ⟨rfl, A, rfl⟩ | ⟨g, o, cap, cur, fz, rfl, _, _, h1, h2, _⟩
  · exact ⟨A, 0, rfl, by simp, by simp⟩
  · exact ⟨_, cap, rfl, h1, h2⟩
theorem OwnA.cells (h : OwnA w e size v n xs) {g o m c : Nat} (hv : v = .slice (some ⟨g, o, none⟩) m c) (h0 : 0 < c) : cellsAt w ⟨g, o, none⟩ xs := by
  intro j u hu
  rcases h.2 with ⟨_, A, h1⟩ | ⟨g', o', cap, cur, fz, h1, hg, _, _, _, _, htake, hc⟩
  · rw [hv] at h1
    injection h1 with h2 h3 h4
    omega
  · rw [hv] at h1
    injection h1 with h2 h3 h4
    injection h2 with h2
    injection h2 with h2 h5 h6
    subst h2 h5
    rw [add_lit, cell_of_row w g _ cur e fz hg]
    rw [← htake, List.getElem?_take] at hu
    split at hu
    · rw [List.getElem?_drop] at hu
      simpa using hu
    · cases hu
/-- What is left behind the first k. -/
theorem OwnA.from (h : OwnA w e size v n xs) {k : Nat} (hk : k ≤ n) : OwnA w e size (subV v k n size) (n - k) (xs.drop (k * size)) := by
  refine ⟨by rw [List.length_drop, h.1, Nat.sub_mul], ?_⟩
  rcases h.2 with ⟨rfl, A, rfl⟩ | ⟨g, o, cap, cur, fz, rfl, hg, h1, h2, h3, h4, h5, h0⟩
  · have : k = 0 := by omega
    subst this
    exact .inl ⟨by simp, A, by simp [subV]⟩
  · rcases Nat.eq_or_lt_of_le (Nat.le_trans hk h2) with h6 | h6
    · subst h6
      exact .inl ⟨by omega, some ⟨g, o, none⟩, by simp [subV]; omega⟩
    · refine .inr ⟨g, o + k * size, cap - k, cur, fz, ?_, hg, h1, by omega, by omega, ?_, ?_, by omega⟩
      · simp only [subV]
        rw [if_neg (by omega)]
        simp [add_lit]
      · have : cap * size = k * size + (cap - k) * size := by rw [← Nat.add_mul]; congr 1; omega
        omega
      · rw [← h5, List.drop_take, List.drop_drop, Nat.sub_mul]
theorem OwnA.rdFlat {α : Type} {n' : Nat} {enc : α → List Value} {ok : α → Prop} {h0 : ∀ x, (enc x).length = n'} {h1 : ∀ x, ∀ u ∈ enc x, u.oneCell' = true} {l : List α} (hsm : l.length ≤ 140737488355328) (h : OwnA w e n' v l.length (l.flatMap enc)) (hok : ∀ x ∈ l, ok x) :
    RdS (Shape.flat n' enc ok h0 h1) w.heap.size w v l := by
  refine ⟨?_, ?_, ?_, hsm⟩
  · obtain ⟨A, c, rfl, hc, hm⟩ := h.formA
    refine ⟨A, c, rfl, hc, hm, fun a ha hl => ?_⟩
    subst ha
    exact h.lt a.block (rowOf_slice (by omega))
  · intro i x hi
    have hil : i < l.length := (List.getElem?_eq_some_iff.1 hi).1
    refine ⟨enc x, ?_, rfl, hok x (List.mem_of_getElem? hi)⟩
    rcases h.2 with ⟨h2, _⟩ | ⟨g, o, cap, cur, fz, rfl, hg, _, _, _, _, _, hc⟩
    · omega
    · have hcell := h.cells rfl hc
      intro j u hu
      have hx : (l.map enc)[i]? = some (enc x) := by rw [List.getElem?_map, hi]; rfl
      have hil' : i < (l.map enc).length := by simpa using hil
      have hf := flatAt (l.map enc) n' (fun cs hcs => by obtain ⟨y, _, rfl⟩ := List.mem_map.1 hcs; exact h0 y) i hil' j u (by
        rw [List.getElem?_eq_getElem hil'] at hx
        injection hx with hx
        rw [hx]; exact hu)
      rw [← List.flatMap_def] at hf
      have := hcell _ u hf
      rw [show (Shape.flat n' enc ok h0 h1).size = n' from rfl]
      simpa only [elemA, add_lit, Nat.add_assoc] using this
  · intro hl
    rcases h.2 with ⟨h2, _⟩ | ⟨g, o, cap, cur, fz, rfl, _⟩
    · omega
    · exact ⟨_, _, rfl⟩
end
section
variable {P : Program} {w : World}
theorem run_append_tail {t u ty e : TypeId} {size by_ : Nat} {z : List Value} (ht : slT P t = some (e, size, by_, z)) {v x : Value} {n m : Nat} {xs news : List Value} (hown : OwnA w e size v n xs) (hs : Src P w u size x m news)
    (h63 : n + m ≤ maxLen) (hby : (n + m) * by_ ≤ 140737488355328) :
    ∃ v' w', (Builtin.append_ #[t, u] ty #[v, x]).run P w = .ok v' w' ∧ OwnA w' e size v' (n + m) (xs ++ news) ∧ w.grownBy w' v.rowOf ∧ (v'.rowOf = v.rowOf ∨ v'.rowOf = some w.heap.size) := by
  rcases hown.2 with ⟨rfl, A, rfl⟩ | ⟨g, o, cap, cur, fz, rfl, hg, hfz, hnc, hcm, hcs, htake, hcp⟩
  · have hx : xs = [] := List.eq_nil_of_length_eq_zero (by simpa using hown.1)
    subst hx
    obtain ⟨v', w', h1, h2, h3, h4⟩ := run_append_gen (P := P) (w := w) (ty := ty) ht (Own.zero w 0 e size A) hs h63 hby (Nat.zero_le _)
    exact ⟨v', w', h1, h2.any, h3, h4⟩
  · obtain ⟨hu, inf, zv, hi, hsz, hb, hz, hc, hl⟩ := slT_spec ht
    subst hsz
    subst hb
    have hsmall : n + m ≤ 9223372036854775807 := by simp only [maxLen] at h63; omega
    have hlen : (xs ++ news).length = (n + m) * inf.size := by rw [List.length_append, hown.1, hs.len, Nat.add_mul]
    have hzs : zv.cells.size = inf.size := by rw [hc]; simpa using hl
    have hinfz : ∀ W : World, (zeroValue e).run P W = .ok zv W := fun W => by simp [zeroValue, typeInfo, hi, hz]
    by_cases hroom : n + m ≤ cap
    · have hfit : n * inf.size + news.length ≤ cap * inf.size := by rw [hs.len, ← Nat.add_mul]; exact Nat.mul_le_mul_right _ hroom
      have hfit2 : o + n * inf.size + news.length ≤ cur.size := by omega
      refine ⟨_, _, ?_, ⟨hlen, .inr ⟨g, o, cap, _, fz, rfl, setRow_heap w g cur (cur.toList.take (o + n * inf.size) ++ news ++ cur.toList.drop (o + n * inf.size + news.length)).toArray e _ hg, ?_, hroom, hcm, ?_, ?_, hcp⟩⟩,
        ⟨rfl, rfl, rfl, by simp, fun k _ hk => setRow_other w g k _ (fun e => hk (by rw [rowOf_slice hcp, e]))⟩, .inl (by rw [rowOf_slice hcp, rowOf_slice hcp])⟩
      · have h1 := hs.cells w rfl
        have hst := run_storeCells_fz (P := P) g (o + n * inf.size) e fz news 0 cur w hg hfz (by simpa using hfit2) hs.one
        simp only [Nat.add_zero] at hst
        rcases hs.kind with ⟨e', hud⟩ | hud <;> simp [Builtin.append_, run_underlying hu, run_underlying hud, sizeOf, typeInfo, hi, hs.lenOf, hroom, h1, add_lit, hst]
      · intro h
        have := hfz h
        simp only [List.size_toArray, List.length_append, List.length_take, List.length_drop, Array.length_toList]
        omega
      · simp only [List.size_toArray, List.length_append, List.length_take, List.length_drop, Array.length_toList]
        omega
      · have e0 : (cur.toList.take (o + n * inf.size)).drop o = xs := by rw [List.drop_take, Nat.add_sub_cancel_left]; exact htake
        have e1 : (cur.toList.take (o + n * inf.size) ++ news ++ cur.toList.drop (o + n * inf.size + news.length)).toArray.toList.drop o = xs ++ news ++ cur.toList.drop (o + n * inf.size + news.length) := by
          show List.drop o (_ ++ _ ++ _) = _
          have hlo : o ≤ (cur.toList.take (o + n * inf.size)).length := by
            simp only [List.length_take, Array.length_toList]; omega
          rw [List.append_assoc, List.drop_append_of_le_length hlo, e0, List.append_assoc]
        rw [e1, ← hlen]
        exact List.take_left
    · have old : cap < n + m := by omega
      have hgr : OwnA (w.drew.alloc (.cells (xs.toArray ++ news.toArray ++ Builtin.zeroCells zv.cells (grownCap w (n + m) cap e - (n + m))) e)) e inf.size (.slice (some ⟨w.heap.size, 0, none⟩) (n + m) (grownCap w (n + m) cap e)) (n + m) (xs ++ news) ∧
          w.grownBy (w.drew.alloc (.cells (xs.toArray ++ news.toArray ++ Builtin.zeroCells zv.cells (grownCap w (n + m) cap e - (n + m))) e)) (Value.rowOf (.slice (some ⟨g, o, none⟩) n cap)) := by
        have hge := grownCap_ge w (n + m) cap e
        have hcm2 : grownCap w (n + m) cap e ≤ maxLen := grownCap_le_maxLen w (n + m) cap e h63
        refine ⟨⟨hlen, .inr ⟨w.heap.size, 0, _, _, (0, 0), rfl, heap_alloc_new w.drew _, fun h => by simp at h, hge, hcm2, ?_, ?_, by omega⟩⟩, ⟨rfl, rfl, rfl, by simp, fun k hk _ => by rw [Below.heap_alloc w.drew _ k (by simpa using hk)]; rfl⟩⟩
        · simp only [Array.size_append, List.size_toArray, size_zeroCells, hzs, hown.1, hs.len, ← Nat.add_mul, Nat.zero_add]
          congr 1
          omega
        · simp only [Array.toList_append, List.append_assoc, List.drop_zero]
          rw [← List.append_assoc, ← hlen]
          exact List.take_left
      have hge0 := grownCap_ge w (n + m) cap e
      refine ⟨_, _, ?_, hgr.1, hgr.2, .inr (rowOf_slice (by omega))⟩
      have h1 := hs.cells w.drew rfl
      have hfo := run_firstCells_some (P := P) w.drew inf.size n ⟨g, o, none⟩ n cap xs hown.1 (hown.cells rfl hcp)
      have h63' : ¬ (9223372036854775807 < (n : Int) + (m : Int)) := by omega
      have h48' : ¬ (281474976710656 < Builtin.nextslicecap (n + m) cap * inf.bytes) := by
        have := growslice_fits (need := n + m) (old := cap) (by omega) hby
        omega
      rcases hs.kind with ⟨e', hud⟩ | hud <;> simp [Builtin.append_, run_underlying hu, run_underlying hud, sizeOf, typeInfo, hi, hs.lenOf, hroom, h63', h48', hinfz, hfo, h1, Question.forced, newRow, grownCap] <;> (rw [← Array.append_assoc]; simp)
end
/-- .. of a colour. -/
structure TailC (c : Nat → Nat) (w : World) (i : Nat) (e : TypeId) (size : Nat) (v : Value) (n : Nat) (xs : List Value) : Prop where
  own : OwnA w e size v n xs
  col : ∀ k, v.rowOf = some k → c k = i
section
variable {c c' : Nat → Nat} {w w' W w0 : World} {i : Nat} {e : TypeId} {size : Nat} {v : Value} {n : Nat} {xs : List Value} {I J : List Nat}
theorem OwnC.tail (h : OwnC c w i e size v n xs) : TailC c w i e size v n xs := ⟨h.own.any, h.col⟩
theorem TailC.mv (h : TailC c w i e size v n xs) (m : Mv c w c' w' I) (hi : hasC I i = false := by rfl) : TailC c' w' i e size v n xs :=
  ⟨h.own.keepB fun k hk => m.block k (h.own.lt k hk) (by rw [h.col k hk]; exact hi), fun k hk => (m.col k (h.own.lt k hk)).trans (h.col k hk)⟩
theorem TailC.kp (h : TailC c w0 i e size v n xs) (hW : Kp c w0 J W) (hi : hasC J i = false) : TailC c W i e size v n xs :=
  ⟨h.own.keepB fun k hk => hW.2 k (h.own.lt k hk) (by rw [h.col k hk]; exact hi), h.col⟩
theorem rowOf_subV {v : Value} {lo hi sz k : Nat} (h : (subV v lo hi sz).rowOf = some k) : v.rowOf = some k := by
  cases v with
  | slice A m cp =>
    simp only [subV] at h
    by_cases hc : cp = lo
    · subst hc
      rw [if_pos rfl, Nat.sub_self, rowOf_zero] at h; cases h
    · rw [if_neg hc] at h
      cases A with
      | none => simp [Value.rowOf] at h
      | some a =>
        by_cases h0 : cp = 0
        · subst h0
          rw [Nat.zero_sub, rowOf_zero] at h; cases h
        · have hcp : 0 < cp := by omega
          rw [rowOf_slice hcp]
          by_cases h1 : cp - lo = 0
          · rw [h1, rowOf_zero] at h; cases h
          · rw [Option.map_some, rowOf_slice (by omega), add_block] at h
            exact h
  | _ => exact h
theorem TailC.from (h : TailC c w i e size v n xs) {k : Nat} (hk : k ≤ n) : TailC c w i e size (subV v k n size) (n - k) (xs.drop (k * size)) := ⟨h.own.from hk, fun j hj => h.col j (rowOf_subV hj)⟩
theorem TailC.rest {α : Type} {enc : α → List Value} {d : α} {t : List α} (h : TailC c w i e size v (d :: t).length ((d :: t).flatMap enc)) (he : (enc d).length = size) : TailC c w i e size (subV v (1 : Int).toNat (d :: t).length size) t.length (t.flatMap enc) := by
  have := h.from (k := 1) (by simp)
  rw [List.flatMap_cons, Nat.one_mul, ← he, List.drop_left] at this
  rw [← he]
  simpa using this
theorem TailC.foot (h : TailC c w i e size v n xs) : FtC (fun w' => OwnA w' e size v n xs) c w [i] := fun w' hs hk =>
  h.own.keepB fun k hv => hk k (by show hasC [i] (c k) = true; rw [h.col k hv]; simp [hasC]) (h.own.lt k hv)
theorem TailC.rdFlat {α : Type} {n' : Nat} {enc : α → List Value} {ok : α → Prop} {h0 : ∀ x, (enc x).length = n'} {h1 : ∀ x, ∀ u ∈ enc x, u.oneCell' = true} {l : List α}
    (h : TailC c w i e n' v l.length (l.flatMap enc)) (hsm : l.length ≤ 140737488355328) (hok : ∀ x ∈ l, ok x) : RdC (Shape.flat n' enc ok h0 h1) c w [i] v l := fun w' hs hk =>
  OwnA.rdFlat hsm (h.foot w' hs hk) hok
theorem TailC.cellsV (h : TailC c w i e size v n xs) : v.cells = #[v] := by obtain ⟨A, cp, rfl, _⟩ := h.own.formA; rfl
theorem TailC.oneC (h : TailC c w i e size v n xs) : v.oneCell' = true := by obtain ⟨A, cp, rfl, _⟩ := h.own.formA; rfl
variable {P : Program} {env : Env} {ty : TypeId}
theorem Eff.appendT {s x : Operand} {t u e : TypeId} {size by_ : Nat} {z : List Value} (ht : slT P t = some (e, size, by_, z)) {i : Nat} {v xv : Value} {n m : Nat} {xs news : List Value}
    (hs : evO env s = some v) (hx : evO env x = some xv) (hown : TailC c w i e size v n xs) (hsrc : Src P w u size xv m news) (h63 : n + m ≤ maxLen) (hby : (n + m) * by_ ≤ 140737488355328) :
    Eff P env w (.call ⟨.builtin .append, #[s, x], #[t, u]⟩) ty (fun v' w' => ∃ c', Mv c w c' w' [i] ∧ TailC c' w' i e size v' (n + m) (xs ++ news)) :=
  Eff.of_run fun _ a ho d pos after g => by
    obtain ⟨v', w', h1, h2, h3, h4⟩ := run_append_tail (P := P) (w := w) (ty := ty) ht hown.own hsrc h63 hby
    obtain ⟨c', hm, hx2⟩ := Mv.grown c i h3 hown.col
    refine ⟨v', w', by simp [execOp, resolve, invoke, builtin, ho.eval hs, ho.eval hx, h1], c', hm, h2, fun k hk => ?_⟩
    rcases h4 with e1 | e1
    · rw [e1] at hk
      rw [hm.col k (hown.own.lt k hk)]
      exact hown.col k hk
    · rw [hk] at e1; injection e1 with e1
      exact hx2 k (Nat.le_of_eq e1.symm)
end
end Eng
end Go
