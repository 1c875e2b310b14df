/- Slices of rows of one's own that begin anywhere in the row; labels' scopes. | Frames: how both sides spell one. | Frames behind each other, in plain Lean. | Frames, in plain Lean: a record is read from its bytes; a frame is found where it stands. | Readers of bytes. | How readers' states follow the parsing. | What a record's taking has in memory. | Taking a record's field: the program's. | Which record bytes are: the program. | Which record bytes are: the page. | The frame that a text begins with: the program. | The frames that a text begins with: the page. | Frames, in plain Lean: cut off anywhere, or with one bit turned. | The frames that a text begins with: the program's iterator. | The frames that a text begins with: the program. | Calls that turn some colours, and no others. | Rows of one's own: parts, parts read as a source, elements put in, clear, copy, more zero values. No condition. -/
import Derived.Lib.Overlaps
import Derived.Test.YthlfolpcmcejkaaRC2
set_option linter.unusedSimpArgs false
set_option linter.unusedVariables false
set_option maxRecDepth 100000
namespace Go
section
variable {P : Program} {b : Frame} {a : Act} {k : List Item} {cs : List Frame} {w : World}
theorem stepR_scope {c : Code} : step P (lone (b.atR a (.code (.scope c) :: k)) cs w) = .next (lone (b.atR a (.code c :: .inScope c :: k)) cs w) :=
  step_lone_go (by simp [stepG, stepG.exec, Frame.atR])
theorem stepR_inScope {c : Code} : step P (lone (b.atR a (.inScope c :: k)) cs w) = .next (lone (b.atR a k) cs w) :=
  step_lone_go (by simp [stepG, stepG.exec, Frame.atR])
end
theorem wpIn_scope {F : Fence} {n : Nat} {P : Program} {Q : Exit → Act → World → Prop} {a : Act} {w : World} {c : Code} (h : c.wpIn F n P Q a w) (hg : ∀ l a w, ¬ Q (.goto l) a w) : (Code.scope c).wpIn F n P Q a w := by
  intro b k cs hro hb hr
  have h0 : (lone (b.atR a (.code (.scope c) :: k)) cs w).fenced P F := fenced_calm hb hr rfl
  obtain ⟨e, a₁, w₁, hq, harr⟩ := h b (.inScope c :: k) cs hro hb hr
  cases e with
  | normal => exact ⟨.normal, a₁, w₁, hq, .head h0 stepR_scope (StepsIn.trans harr (.one (fenced_calm hb hr rfl) stepR_inScope))⟩
  | exit id =>
    have hx : exitTo id (.inScope c :: k) = exitTo id k := by simp [exitTo]
    exact ⟨_, a₁, w₁, hq, fun k' hk => .head h0 stepR_scope (harr.1 k' (by rw [hx]; exact hk)),
      fun hr' hk => let ⟨k₁, h1, h2⟩ := harr.2 hr' (by rw [hx]; exact hk); ⟨k₁, h1, .head h0 stepR_scope h2⟩⟩
  | goto l => exact absurd hq (hg _ _ _)
  | ret => exact ⟨_, a₁, w₁, hq, .of_steps (.one h0 stepR_scope) harr⟩
  | panic ch => exact ⟨_, a₁, w₁, hq, .of_steps (.one h0 stepR_scope) harr⟩
  | outgrown => exact ⟨_, a₁, w₁, hq, .of_steps (.one h0 stepR_scope) harr⟩
namespace Eng
open Go.RowKit
theorem WC.scope {c : Cx} {B : List (Nat × Kont)} {env : Env} {w : World} {N : Kont} {x : Code} (h : WC c B x env w N) : WC c B (.scope x) env w N := fun a ho => wpIn_scope (h a ho) fun _ _ _ hq => hq

theorem flatAt : ∀ (css : List (List Value)) (n : Nat), (∀ cs ∈ css, cs.length = n) → ∀ (i : Nat) (hi : i < css.length) (j : Nat) (u : Value), css[i][j]? = some u → css.flatten[i * n + j]? = some u
  | cs :: r, n, hl, 0, _, j, u, hu => by
    have hj : j < cs.length := by
      rcases Nat.lt_or_ge j cs.length with h' | h'
      · exact h'
      · simp [List.getElem?_eq_none h'] at hu
    simp only [List.flatten_cons, Nat.zero_mul, Nat.zero_add]
    rw [List.getElem?_append_left hj]
    simpa using hu
  | cs :: r, n, hl, i + 1, hi, j, u, hu => by
    have h0 := hl cs (by simp)
    simp only [List.flatten_cons]
    rw [List.getElem?_append_right (by rw [h0, Nat.add_mul]; omega), h0]
    have : (i + 1) * n + j - n = i * n + j := by rw [Nat.add_mul]; omega
    rw [this]
    exact flatAt r n (fun c hc => hl c (by simp [hc])) i (by simpa using hi) j u (by simpa using hu)
/-- A slice of a row of one's own, anywhere in it. -/
def OwnA (w : World) (e : TypeId) (size : Nat) (v : Value) (n : Nat) (xs : List Value) : Prop :=
  xs.length = n * size ∧
  ((n = 0 ∧ ∃ A, v = .slice A 0 0) ∨
   ∃ g o cap cur fz, v = .slice (some ⟨g, o, none⟩) n cap ∧ w.heap[g]? = some (.cells cur e fz) ∧ (fz.1 < fz.2 → cur.size ≤ fz.1) ∧ n ≤ cap ∧ cap ≤ maxLen ∧ cur.size = o + cap * size ∧ (cur.toList.drop o).take (n * size) = xs ∧ 0 < cap)
section
variable {w w' : World} {e : TypeId} {size : Nat} {v : Value} {n : Nat} {xs : List Value}
theorem Own.any {base : Nat} (h : Own w base e size v n xs) : OwnA w e size v n xs := by
  refine ⟨h.1, ?_⟩
  rcases h.2 with hn | ⟨g, cap, cur, fz, rfl, hb, h1, h2, h3, h4, h5, h6, h7⟩
  · exact .inl hn
  · exact .inr ⟨g, 0, cap, cur, fz, rfl, h1, h2, h3, h4, by omega, by simpa using h6, h7⟩
theorem OwnA.lt (h : OwnA w e size v n xs) : ∀ k, v.rowOf = some k → k < w.heap.size := by
  intro k hk
  rcases h.2 with ⟨_, A, rfl⟩ | ⟨g, o, cap, cur, fz, rfl, hg, _, _, _, _, _, h0⟩
  · rw [rowOf_zero] at hk; cases hk
  · rw [rowOf_slice h0] at hk
    injection hk with hk
    subst hk
    exact (Array.getElem?_eq_some_iff.1 hg).1
theorem OwnA.keepB (h : OwnA w e size v n xs) (hk : ∀ k, v.rowOf = some k → w'.heap[k]? = w.heap[k]?) : OwnA w' e size v n xs := by
  refine ⟨h.1, ?_⟩
  rcases h.2 with hn | ⟨g, o, cap, cur, fz, rfl, hg, h1, h2, h3, h4, h5, h0⟩
  · exact .inl hn
  · exact .inr ⟨g, o, cap, cur, fz, rfl, by rw [hk g (rowOf_slice h0)]; exact hg, h1, h2, h3, h4, h5, h0⟩
theorem OwnA.formA (h : OwnA w e size v n xs) : ∃ A c, v = .slice A n c ∧ n ≤ c ∧ c ≤ maxLen := by
  rcases h.2 with ⟨rfl, A, rfl⟩ | ⟨g, o, cap, cur, fz, rfl, _, _, h1, h2, _⟩
  · exact ⟨A, 0, rfl, by simp, by simp⟩
  · exact ⟨_, cap, rfl, h1, h2⟩
theorem OwnA.cells (h : OwnA w e size v n xs) {g o m c : Nat} (hv : v = .slice (some ⟨g, o, none⟩) m c) (h0 : 0 < c) : cellsAt w ⟨g, o, none⟩ xs := by
  intro j u hu
  rcases h.2 with ⟨_, A, h1⟩ | ⟨g', o', cap, cur, fz, h1, hg, _, _, _, _, htake, hc⟩
  · rw [hv] at h1
    injection h1 with h2 h3 h4
    omega
  · rw [hv] at h1
    injection h1 with h2 h3 h4
    injection h2 with h2
    injection h2 with h2 h5 h6
    subst h2 h5
    rw [add_lit, cell_of_row w g _ cur e fz hg]
    rw [← htake, List.getElem?_take] at hu
    split at hu
    · rw [List.getElem?_drop] at hu
      simpa using hu
    · cases hu
/-- What is left behind the first k. -/
theorem OwnA.from (h : OwnA w e size v n xs) {k : Nat} (hk : k ≤ n) : OwnA w e size (subV v k n size) (n - k) (xs.drop (k * size)) := by
  refine ⟨by rw [List.length_drop, h.1, Nat.sub_mul], ?_⟩
  rcases h.2 with ⟨rfl, A, rfl⟩ | ⟨g, o, cap, cur, fz, rfl, hg, h1, h2, h3, h4, h5, h0⟩
  · have : k = 0 := by omega
    subst this
    exact .inl ⟨by simp, A, by simp [subV]⟩
  · rcases Nat.eq_or_lt_of_le (Nat.le_trans hk h2) with h6 | h6
    · subst h6
      exact .inl ⟨by omega, some ⟨g, o, none⟩, by simp [subV]; omega⟩
    · refine .inr ⟨g, o + k * size, cap - k, cur, fz, ?_, hg, h1, by omega, by omega, ?_, ?_, by omega⟩
      · simp only [subV]
        rw [if_neg (by omega)]
        simp [add_lit]
      · have : cap * size = k * size + (cap - k) * size := by rw [← Nat.add_mul]; congr 1; omega
        omega
      · rw [← h5, List.drop_take, List.drop_drop, Nat.sub_mul]
theorem OwnA.rdFlat {α : Type} {n' : Nat} {enc : α → List Value} {ok : α → Prop} {h0 : ∀ x, (enc x).length = n'} {h1 : ∀ x, ∀ u ∈ enc x, u.oneCell' = true} {l : List α} (hsm : l.length ≤ 140737488355328) (h : OwnA w e n' v l.length (l.flatMap enc)) (hok : ∀ x ∈ l, ok x) :
    RdS (Shape.flat n' enc ok h0 h1) w.heap.size w v l := by
  refine ⟨?_, ?_, ?_, hsm⟩
  · obtain ⟨A, c, rfl, hc, hm⟩ := h.formA
    refine ⟨A, c, rfl, hc, hm, fun a ha hl => ?_⟩
    subst ha
    exact h.lt a.block (rowOf_slice (by omega))
  · intro i x hi
    have hil : i < l.length := (List.getElem?_eq_some_iff.1 hi).1
    refine ⟨enc x, ?_, rfl, hok x (List.mem_of_getElem? hi)⟩
    rcases h.2 with ⟨h2, _⟩ | ⟨g, o, cap, cur, fz, rfl, hg, _, _, _, _, _, hc⟩
    · omega
    · have hcell := h.cells rfl hc
      intro j u hu
      have hx : (l.map enc)[i]? = some (enc x) := by rw [List.getElem?_map, hi]; rfl
      have hil' : i < (l.map enc).length := by simpa using hil
      have hf := flatAt (l.map enc) n' (fun cs hcs => by obtain ⟨y, _, rfl⟩ := List.mem_map.1 hcs; exact h0 y) i hil' j u (by
        rw [List.getElem?_eq_getElem hil'] at hx
        injection hx with hx
        rw [hx]; exact hu)
      rw [← List.flatMap_def] at hf
      have := hcell _ u hf
      rw [show (Shape.flat n' enc ok h0 h1).size = n' from rfl]
      simpa only [elemA, add_lit, Nat.add_assoc] using this
  · intro hl
    rcases h.2 with ⟨h2, _⟩ | ⟨g, o, cap, cur, fz, rfl, _⟩
    · omega
    · exact ⟨_, _, rfl⟩
end
section
variable {P : Program} {w : World}
theorem run_append_tail {t u ty e : TypeId} {size by_ : Nat} {z : List Value} (ht : slT P t = some (e, size, by_, z)) {v x : Value} {n m : Nat} {xs news : List Value} (hown : OwnA w e size v n xs) (hs : Src P w u size x m news)
    (h63 : n + m ≤ maxLen) (hby : (n + m) * by_ ≤ 140737488355328) :
    ∃ v' w', (Builtin.append_ #[t, u] ty #[v, x]).run P w = .ok v' w' ∧ OwnA w' e size v' (n + m) (xs ++ news) ∧ w.grownBy w' v.rowOf ∧ (v'.rowOf = v.rowOf ∨ v'.rowOf = some w.heap.size) := by
  rcases hown.2 with ⟨rfl, A, rfl⟩ | ⟨g, o, cap, cur, fz, rfl, hg, hfz, hnc, hcm, hcs, htake, hcp⟩
  · have hx : xs = [] := List.eq_nil_of_length_eq_zero (by simpa using hown.1)
    subst hx
    obtain ⟨v', w', h1, h2, h3, h4⟩ := run_append_gen (P := P) (w := w) (ty := ty) ht (Own.zero w 0 e size A) hs h63 hby (Nat.zero_le _)
    exact ⟨v', w', h1, h2.any, h3, h4⟩
  · obtain ⟨hu, inf, zv, hi, hsz, hb, hz, hc, hl⟩ := slT_spec ht
    subst hsz
    subst hb
    have hsmall : n + m ≤ 9223372036854775807 := by simp only [maxLen] at h63; omega
    have hlen : (xs ++ news).length = (n + m) * inf.size := by rw [List.length_append, hown.1, hs.len, Nat.add_mul]
    have hzs : zv.cells.size = inf.size := by rw [hc]; simpa using hl
    have hinfz : ∀ W : World, (zeroValue e).run P W = .ok zv W := fun W => by simp [zeroValue, typeInfo, hi, hz]
    by_cases hroom : n + m ≤ cap
    · have hfit : n * inf.size + news.length ≤ cap * inf.size := by rw [hs.len, ← Nat.add_mul]; exact Nat.mul_le_mul_right _ hroom
      have hfit2 : o + n * inf.size + news.length ≤ cur.size := by omega
      refine ⟨_, _, ?_, ⟨hlen, .inr ⟨g, o, cap, _, fz, rfl, setRow_heap w g cur (cur.toList.take (o + n * inf.size) ++ news ++ cur.toList.drop (o + n * inf.size + news.length)).toArray e _ hg, ?_, hroom, hcm, ?_, ?_, hcp⟩⟩,
        ⟨rfl, rfl, rfl, by simp, fun k _ hk => setRow_other w g k _ (fun e => hk (by rw [rowOf_slice hcp, e]))⟩, .inl (by rw [rowOf_slice hcp, rowOf_slice hcp])⟩
      · have h1 := hs.cells w rfl
        have hst := run_storeCells_fz (P := P) g (o + n * inf.size) e fz news 0 cur w hg hfz (by simpa using hfit2) hs.one
        simp only [Nat.add_zero] at hst
        rcases hs.kind with ⟨e', hud⟩ | hud <;> simp [Builtin.append_, run_underlying hu, run_underlying hud, sizeOf, typeInfo, hi, hs.lenOf, hroom, h1, add_lit, hst]
      · intro h
        have := hfz h
        simp only [List.size_toArray, List.length_append, List.length_take, List.length_drop, Array.length_toList]
        omega
      · simp only [List.size_toArray, List.length_append, List.length_take, List.length_drop, Array.length_toList]
        omega
      · have e0 : (cur.toList.take (o + n * inf.size)).drop o = xs := by rw [List.drop_take, Nat.add_sub_cancel_left]; exact htake
        have e1 : (cur.toList.take (o + n * inf.size) ++ news ++ cur.toList.drop (o + n * inf.size + news.length)).toArray.toList.drop o = xs ++ news ++ cur.toList.drop (o + n * inf.size + news.length) := by
          show List.drop o (_ ++ _ ++ _) = _
          have hlo : o ≤ (cur.toList.take (o + n * inf.size)).length := by
            simp only [List.length_take, Array.length_toList]; omega
          rw [List.append_assoc, List.drop_append_of_le_length hlo, e0, List.append_assoc]
        rw [e1, ← hlen]
        exact List.take_left
    · have old : cap < n + m := by omega
      have hgr : OwnA (w.drew.alloc (.cells (xs.toArray ++ news.toArray ++ Builtin.zeroCells zv.cells (grownCap w (n + m) cap e - (n + m))) e)) e inf.size (.slice (some ⟨w.heap.size, 0, none⟩) (n + m) (grownCap w (n + m) cap e)) (n + m) (xs ++ news) ∧
          w.grownBy (w.drew.alloc (.cells (xs.toArray ++ news.toArray ++ Builtin.zeroCells zv.cells (grownCap w (n + m) cap e - (n + m))) e)) (Value.rowOf (.slice (some ⟨g, o, none⟩) n cap)) := by
        have hge := grownCap_ge w (n + m) cap e
        have hcm2 : grownCap w (n + m) cap e ≤ maxLen := grownCap_le_maxLen w (n + m) cap e h63
        refine ⟨⟨hlen, .inr ⟨w.heap.size, 0, _, _, (0, 0), rfl, heap_alloc_new w.drew _, fun h => by simp at h, hge, hcm2, ?_, ?_, by omega⟩⟩, ⟨rfl, rfl, rfl, by simp, fun k hk _ => by rw [Below.heap_alloc w.drew _ k (by simpa using hk)]; rfl⟩⟩
        · simp only [Array.size_append, List.size_toArray, size_zeroCells, hzs, hown.1, hs.len, ← Nat.add_mul, Nat.zero_add]
          congr 1
          omega
        · simp only [Array.toList_append, List.append_assoc, List.drop_zero]
          rw [← List.append_assoc, ← hlen]
          exact List.take_left
      have hge0 := grownCap_ge w (n + m) cap e
      refine ⟨_, _, ?_, hgr.1, hgr.2, .inr (rowOf_slice (by omega))⟩
      have h1 := hs.cells w.drew rfl
      have hfo := run_firstCells_some (P := P) w.drew inf.size n ⟨g, o, none⟩ n cap xs hown.1 (hown.cells rfl hcp)
      have h63' : ¬ (9223372036854775807 < (n : Int) + (m : Int)) := by omega
      have h48' : ¬ (281474976710656 < Builtin.nextslicecap (n + m) cap * inf.bytes) := by
        have := growslice_fits (need := n + m) (old := cap) (by omega) hby
        omega
      rcases hs.kind with ⟨e', hud⟩ | hud <;> simp [Builtin.append_, run_underlying hu, run_underlying hud, sizeOf, typeInfo, hi, hs.lenOf, hroom, h63', h48', hinfz, hfo, h1, Question.forced, newRow, grownCap] <;> (rw [← Array.append_assoc]; simp)
end
/-- .. of a colour. -/
structure TailC (c : Nat → Nat) (w : World) (i : Nat) (e : TypeId) (size : Nat) (v : Value) (n : Nat) (xs : List Value) : Prop where
  own : OwnA w e size v n xs
  col : ∀ k, v.rowOf = some k → c k = i
section
variable {c c' : Nat → Nat} {w w' W w0 : World} {i : Nat} {e : TypeId} {size : Nat} {v : Value} {n : Nat} {xs : List Value} {I J : List Nat}
theorem OwnC.tail (h : OwnC c w i e size v n xs) : TailC c w i e size v n xs := ⟨h.own.any, h.col⟩
theorem TailC.mv (h : TailC c w i e size v n xs) (m : Mv c w c' w' I) (hi : hasC I i = false := by rfl) : TailC c' w' i e size v n xs :=
  ⟨h.own.keepB fun k hk => m.block k (h.own.lt k hk) (by rw [h.col k hk]; exact hi), fun k hk => (m.col k (h.own.lt k hk)).trans (h.col k hk)⟩
theorem TailC.kp (h : TailC c w0 i e size v n xs) (hW : Kp c w0 J W) (hi : hasC J i = false) : TailC c W i e size v n xs :=
  ⟨h.own.keepB fun k hk => hW.2 k (h.own.lt k hk) (by rw [h.col k hk]; exact hi), h.col⟩
theorem rowOf_subV {v : Value} {lo hi sz k : Nat} (h : (subV v lo hi sz).rowOf = some k) : v.rowOf = some k := by
  cases v with
  | slice A m cp =>
    simp only [subV] at h
    by_cases hc : cp = lo
    · subst hc
      rw [if_pos rfl, Nat.sub_self, rowOf_zero] at h; cases h
    · rw [if_neg hc] at h
      cases A with
      | none => simp [Value.rowOf] at h
      | some a =>
        by_cases h0 : cp = 0
        · subst h0
          rw [Nat.zero_sub, rowOf_zero] at h; cases h
        · have hcp : 0 < cp := by omega
          rw [rowOf_slice hcp]
          by_cases h1 : cp - lo = 0
          · rw [h1, rowOf_zero] at h; cases h
          · rw [Option.map_some, rowOf_slice (by omega), add_block] at h
            exact h
  | _ => exact h
theorem TailC.from (h : TailC c w i e size v n xs) {k : Nat} (hk : k ≤ n) : TailC c w i e size (subV v k n size) (n - k) (xs.drop (k * size)) := ⟨h.own.from hk, fun j hj => h.col j (rowOf_subV hj)⟩
theorem TailC.rest {α : Type} {enc : α → List Value} {d : α} {t : List α} (h : TailC c w i e size v (d :: t).length ((d :: t).flatMap enc)) (he : (enc d).length = size) : TailC c w i e size (subV v (1 : Int).toNat (d :: t).length size) t.length (t.flatMap enc) := by
  have := h.from (k := 1) (by simp)
  rw [List.flatMap_cons, Nat.one_mul, ← he, List.drop_left] at this
  rw [← he]
  simpa using this
theorem TailC.foot (h : TailC c w i e size v n xs) : FtC (fun w' => OwnA w' e size v n xs) c w [i] := fun w' hs hk =>
  h.own.keepB fun k hv => hk k (by show hasC [i] (c k) = true; rw [h.col k hv]; simp [hasC]) (h.own.lt k hv)
theorem TailC.rdFlat {α : Type} {n' : Nat} {enc : α → List Value} {ok : α → Prop} {h0 : ∀ x, (enc x).length = n'} {h1 : ∀ x, ∀ u ∈ enc x, u.oneCell' = true} {l : List α}
    (h : TailC c w i e n' v l.length (l.flatMap enc)) (hsm : l.length ≤ 140737488355328) (hok : ∀ x ∈ l, ok x) : RdC (Shape.flat n' enc ok h0 h1) c w [i] v l := fun w' hs hk =>
  OwnA.rdFlat hsm (h.foot w' hs hk) hok
theorem TailC.cellsV (h : TailC c w i e size v n xs) : v.cells = #[v] := by obtain ⟨A, cp, rfl, _⟩ := h.own.formA; rfl
theorem TailC.oneC (h : TailC c w i e size v n xs) : v.oneCell' = true := by obtain ⟨A, cp, rfl, _⟩ := h.own.formA; rfl
variable {P : Program} {env : Env} {ty : TypeId}
theorem Eff.appendT {s x : Operand} {t u e : TypeId} {size by_ : Nat} {z : List Value} (ht : slT P t = some (e, size, by_, z)) {i : Nat} {v xv : Value} {n m : Nat} {xs news : List Value}
    (hs : evO env s = some v) (hx : evO env x = some xv) (hown : TailC c w i e size v n xs) (hsrc : Src P w u size xv m news) (h63 : n + m ≤ maxLen) (hby : (n + m) * by_ ≤ 140737488355328) :
    Eff P env w (.call ⟨.builtin .append, #[s, x], #[t, u]⟩) ty (fun v' w' => ∃ c', Mv c w c' w' [i] ∧ TailC c' w' i e size v' (n + m) (xs ++ news)) :=
  Eff.of_run fun _ a ho d pos after g => by
    obtain ⟨v', w', h1, h2, h3, h4⟩ := run_append_tail (P := P) (w := w) (ty := ty) ht hown.own hsrc h63 hby
    obtain ⟨c', hm, hx2⟩ := Mv.grown c i h3 hown.col
    refine ⟨v', w', by simp [execOp, resolve, invoke, builtin, ho.eval hs, ho.eval hx, h1], c', hm, h2, fun k hk => ?_⟩
    rcases h4 with e1 | e1
    · rw [e1] at hk
      rw [hm.col k (hown.own.lt k hk)]
      exact hown.col k hk
    · rw [hk] at e1; injection e1 with e1
      exact hx2 k (Nat.le_of_eq e1.symm)
end
end Eng
end Go

namespace Silo
open Go Go.Eng
def frameS (r : Rec) (n : Int) : List UInt8 := frameH r n ++ be 8 (crc (frameH r n) : Nat)
theorem bytes_len {r : Rec} (h : mayB r = true) : 1 ≤ (bytesOf r).length ∧ (bytesOf r).length ≤ 9000 := by
  obtain ⟨_, _, s1, s2, s3, s4, _⟩ := may_small h
  have h1 := A1_len r
  have h0 : 1 ≤ (A1 r).length := by simp [A1, be_length]
  have h2 : (bN r).length ≤ 41 := by unfold bN; split <;> simp [be_length]; omega
  have h3 : (bL r).length ≤ 8004 := by unfold bL; split <;> simp only [List.length_append, be_length, flat4_len, List.length_nil] <;> omega
  have h4 : (bS r).length ≤ 113 := by unfold bS; split <;> simp only [List.length_append, be_length, flat44_len, List.length_nil] <;> omega
  simp only [bytesOf, A4, A3, A2, List.length_append]
  omega
theorem frameH_len (r : Rec) (n : Int) : (frameH r n).length = 7 + (bytesOf r).length := by simp [frameH, be_length]; omega
theorem frameS_len (r : Rec) (n : Int) : (frameS r n).length = 15 + (bytesOf r).length := by simp [frameS, frameH_len, be_length]; omega
end Silo
namespace Go.Proofs.Ythlfolpcmcejkaa
open Go Go.Eng Go.RowKit Silo TryT

theorem qframe_ok {w : World} {cs : List Value} {r : Rec} {n : Int} (h : RdRec w cs r) (hm : mayB r = true) : Calls Try.prog 31 #[.agg cs.toArray, I n] w (Ret fun v w' => Below w.heap.size w w' ∧ v = St (frameS r n)) := by
  obtain ⟨vl, vs, rfl, hl, hs, hq⟩ := h
  have hK : Old w w := Old.refl w
  have o1 := hl.oneC
  have o2 := hs.oneC
  have hbl := bytes_len hm
  have hhl := frameH_len r n
  obtain ⟨k1, k8, _⟩ := may_small hm
  refine enter (n := 21) (res := #[.tmp 4]) Try.func31 rfl rfl rfl rfl ?_
  refine cseq <| cg ?_
  refine ve (Eff.box rfl) ?_
  rintro _ w1 ⟨b2, rfl, hn2⟩
  have hk1 := hn2.below
  replace hl := hl.up hk1; replace hs := hs.up hk1; replace hK := hK.up hk1
  have hb2 := hn2.blk
  refine za rfl <| cnil <| cseq <| cg <| vq (Val.loadBN agg31 rfl hb2 rfl) ?_
  refine ve (Eff.call pf19 rfl (bytes_ok (r := r) (cs := [I r.kind, I r.id, St r.name, St r.digest, vl, vs]) ⟨vl, vs, rfl, hl, hs, hq⟩ ⟨k1, k8⟩)) ?_
  rintro v8 w2 ⟨hk2, rfl⟩
  replace hl := hl.up hk2; replace hs := hs.up hk2; replace hK := hK.up hk2; replace hb2 := hb2.up hk2
  refine za rfl <| cnil <| cseq <| cg <| zm rfl <| vq (Val.slen Try.underlying9 rfl) ?_
  refine ve (Eff.call pf46 rfl (high_ok ((bytesOf r).length : Nat) 3 (by decide))) ?_
  rintro v11 w3 ⟨hk3, rfl⟩
  replace hl := hl.up hk3; replace hs := hs.up hk3; replace hK := hK.up hk3; replace hb2 := hb2.up hk3
  refine zm rfl ?_
  refine ve (Eff.call pf47 rfl (number4_ok n)) ?_
  rintro v13 w4 ⟨hk4, rfl⟩
  replace hl := hl.up hk4; replace hs := hs.up hk4; replace hK := hK.up hk4; replace hb2 := hb2.up hk4
  refine vq (Val.sadd rfl rfl (by simp [be_length])) <| zm rfl <| vq (Val.sadd rfl rfl (by simp [be_length]; omega)) <| za rfl <| cnil <| cseq ?_
  rw [show be 3 ((bytesOf r).length : Nat) ++ be 4 n ++ bytesOf r = frameH r n from rfl]
  refine cg <| zm rfl <| zm rfl ?_
  refine ve (Eff.call pf56 rfl (ssum_ok (s := frameH r n) (by omega))) ?_
  rintro v19 w5 ⟨hk5, rfl⟩
  replace hl := hl.up hk5; replace hs := hs.up hk5; replace hK := hK.up hk5; replace hb2 := hb2.up hk5
  refine vq (Val.sadd rfl rfl (by simp [be_length]; omega)) <| za rfl <| cnil ?_
  refine WC.ret1 rfl rfl ?_
  exact ⟨hK, rfl⟩

theorem put_c {c : Nat → Nat} {w : World} {i m : Nat} {v : Value} {l : List UInt8} (ho : OwnC c w i 5 1 v m (bytesV l)) (n size : Int) (h0 : 0 ≤ size) (h8 : size ≤ 8) (hm : m ≤ 1099511627776) :
    Calls Try.prog 66 #[v, .int .u64 n, I size] w (Ret fun v' w' => ∃ c', Mv c w c' w' [i] ∧ OwnC c' w' i 5 1 v' (m + size.toNat) (bytesV (l ++ be size.toNat n))) := by
  refine (put_g ho.own (Nat.zero_le _) n size h0 h8 hm).mono fun e w' he => ?_
  obtain ⟨v', rfl, hk, ho'⟩ := he
  obtain ⟨c', hm', hx⟩ := Mv.grown c i hk.grown ho.col
  refine ⟨_, rfl, c', hm', ho', fun k hk' => ?_⟩
  rcases hk.at_ with e | ⟨j, e, hj⟩
  · rw [e] at hk'
    rw [hm'.col k (ho.own.lt k hk').2]
    exact ho.col k hk'
  · rw [e] at hk'
    cases hk'
    exact hx _ hj
theorem rput_c {c : Nat → Nat} {w : World} {i m : Nat} {v : Value} {l : List UInt8} (ho : OwnC c w i 5 1 v m (bytesV l)) (n : Int) (hm : m ≤ 1099511627776) :
    Calls Try.prog 63 #[v, I n] w (Ret fun v' w' => ∃ c', Mv c w c' w' [i] ∧ OwnC c' w' i 5 1 v' (m + 4) (bytesV (l ++ be 4 n))) := by
  refine (rput_g ho.own (Nat.zero_le _) n hm).mono fun e w' he => ?_
  obtain ⟨v', rfl, hk, ho'⟩ := he
  obtain ⟨c', hm', hx⟩ := Mv.grown c i hk.grown ho.col
  refine ⟨_, rfl, c', hm', ho', fun k hk' => ?_⟩
  rcases hk.at_ with e | ⟨j, e, hj⟩
  · rw [e] at hk'
    rw [hm'.col k (ho.own.lt k hk').2]
    exact ho.col k hk'
  · rw [e] at hk'
    cases hk'
    exact hx _ hj

theorem framed_ok {w : World} {cs : List Value} {r : Rec} {n : Int} (h : RdRec w cs r) (hm : mayB r = true) : Calls Try.prog 55 #[.agg cs.toArray, I n] w (Ret fun v w' => Below w.heap.size w w' ∧ v = St (frameS r n)) := by
  obtain ⟨vl, vs, rfl, hl, hs, hq⟩ := h
  have o1 := hl.oneC
  have o2 := hs.oneC
  have hbl := bytes_len hm
  have hhl := frameH_len r n
  obtain ⟨_, _, s1, s2, s3, s4, s5, s6⟩ := may_small hm
  obtain ⟨c, hO, hc⟩ := OldC.start w
  replace hl : RdC intS c w [0] vl r.list := Rd.toC hl (fun k hk => by simp [hc, hasC])
  replace hs : RdC slotS c w [0] vs r.slots := Rd.toC hs (fun k hk => by simp [hc, hasC])
  clear hc
  refine enter (n := 23) (res := #[.tmp 4]) Try.func55 rfl rfl rfl rfl ?_
  refine cseq <| cg ?_
  refine ve (Eff.boxC c 102 rfl) ?_
  rintro _ w1 ⟨b2, c1, rfl, hM1, hb2⟩
  replace hO := hO.mv hM1; replace hl := hl.mv hM1; replace hs := hs.mv hM1
  refine za rfl <| cnil <| cseq <| cg <| vq (Val.loadBN agg31 rfl hb2.blk rfl) ?_
  refine ve (Eff.pureC c1 1 (Eff.call pf45 rfl (spelt_ok (r := r) (cs := [I r.kind, I r.id, St r.name, St r.digest, vl, vs]) ⟨vl, vs, rfl, hl.now, hs.now, hq⟩ (by omega) (by omega) (by omega) (by omega) s5 s6))) ?_
  rintro v8 w2 ⟨c2, hM2, hx2, rfl⟩
  replace hO := hO.mv hM2; replace hl := hl.mv hM2; replace hs := hs.mv hM2; replace hb2 := hb2.mv hM2
  refine za rfl <| cnil <| cseq <| cg <| zm rfl <| vq (Val.slen Try.underlying9 rfl) <| vq (Val.convToU64 Try.underlying3 Try.underlying94 rfl (by omega) (by omega)) ?_
  refine ve (Eff.call pf66 rfl (put_c (i := 9) (l := []) (OwnC.nil c2 w2 9 5 1) ((bytesOf r).length : Nat) 3 (by decide) (by decide) (by decide))) ?_
  rintro v12 w3 ⟨c3, hM3, ho⟩
  replace hO := hO.mv hM3; replace hl := hl.mv hM3; replace hs := hs.mv hM3; replace hb2 := hb2.mv hM3
  refine zm rfl ?_
  refine ve (Eff.call pf63 rfl (rput_c ho n (by simp))) ?_
  rintro v14 w4 ⟨c4, hM4, ho⟩
  replace hO := hO.mv hM4; replace hl := hl.mv hM4; replace hs := hs.mv hM4; replace hb2 := hb2.mv hM4
  refine zm rfl ?_
  refine ve (Eff.appendC sl38 rfl rfl ho (Src.str Try.underlying9) mxl oms) ?_
  rintro v16 w5 ⟨c5, hM5, hOq⟩
  replace hO := hO.mv hM5; replace hl := hl.mv hM5; replace hs := hs.mv hM5; replace hb2 := hb2.mv hM5
  replace ho := hOq
  rw [show ((bytesOf r).map fun b => Value.int .u8 b.toNat) = bytesV (bytesOf r) from rfl, ← bytesV_append] at ho
  rw [show [] ++ be (3 : Int).toNat ((bytesOf r).length : Nat) ++ be 4 n ++ bytesOf r = frameH r n from rfl] at ho
  refine za rfl <| cnil <| cseq <| cg <| zm rfl <| zm rfl <| vq (Val.ofBytes Try.underlying38 Try.underlying9 Try.underlying5 rfl ho.own) ?_
  refine ve (Eff.pureC c5 1 (Eff.call pf67 rfl (cof_ok (s := frameH r n) (by omega)))) ?_
  rintro v20 w6 ⟨c6, hM6, hx6, rfl⟩
  replace hO := hO.mv hM6; replace hl := hl.mv hM6; replace hs := hs.mv hM6; replace hb2 := hb2.mv hM6; replace ho := ho.mv hM6
  refine ve (Eff.call pf66 rfl (put_c ho (crc (frameH r n) : Nat) 8 (by decide) (by decide) (by simp; omega))) ?_
  rintro v21 w7 ⟨c7, hM7, ho⟩
  replace hO := hO.mv hM7; replace hl := hl.mv hM7; replace hs := hs.mv hM7; replace hb2 := hb2.mv hM7
  refine vq (Val.ofBytes Try.underlying38 Try.underlying9 Try.underlying5 rfl ho.own) <| za rfl <| cnil ?_
  refine WC.ret1 rfl rfl ?_
  exact ⟨hO.below, rfl⟩

theorem rnumber_ok {w : World} (n : Int) : Calls Try.prog 54 #[I n] w (Ret fun v w' => Below w.heap.size w w' ∧ v = .bool (numB n)) := by
  have hK : Old w w := Old.refl w
  refine enter (n := 9) (res := #[.tmp 2]) Try.func54 rfl rfl rfl rfl ?_
  refine cseq <| cg <| za rfl <| cnil <| cseq <| cg <| zm rfl <| vq (Val.geq rfl rfl) <| zm rfl ?_
  apply WR.sc true 2 _ (fun w' => w = w')
  case hl | hg | hu | hv | hs | hoff | hd => rfl
  case hF => exact fun _ => rfl
  case hT =>
   intro hq5
   try simp only [tstS] at hq5
   simp only [List.take_succ_cons, List.take_zero]
   refine WR.on rfl rfl ?_
   refine zm rfl ?_
   refine WR.on rfl rfl ?_
   refine vq (Val.leq rfl rfl) ?_
   exact WR.nil ⟨rfl, Sub.drop _ 2 _ rfl rfl, rfl⟩
  rintro _ rfl
  refine za rfl <| cnil ?_
  refine WC.ret1 rfl rfl ?_
  exact ⟨hK, rfl⟩
theorem rframe_ok {w : World} {cs : List Value} {r : Rec} {n : Int} (h : RdRec w cs r) : Calls Try.prog 29 #[.agg cs.toArray, I n] w (Ret fun v w' => Below w.heap.size w w' ∧ v = .tuple #[St (if mayB r && numB n then frameS r n else []), I (if mayB r && numB n then 0 else 1)]) := by
  obtain ⟨vl, vs, rfl, hl, hs, hq⟩ := h
  have hK : Old w w := Old.refl w
  have o1 := hl.oneC
  have o2 := hs.oneC
  refine enter (n := 17) (res := #[.tmp 4, .tmp 5]) Try.func29 rfl rfl rfl rfl ?_
  refine cseq <| cg ?_
  refine ve (Eff.box rfl) ?_
  rintro _ w1 ⟨b2, rfl, hn2⟩
  have hk1 := hn2.below
  replace hl := hl.up hk1; replace hs := hs.up hk1; replace hK := hK.up hk1
  have hb2 := hn2.blk
  refine za rfl <| za rfl <| cnil <| cseq <| cseq <| cg <| vq (Val.loadBN agg31 rfl hb2 rfl) ?_
  refine ve (Eff.call pf44 rfl (may_ok (r := r) (cs := [I r.kind, I r.id, St r.name, St r.digest, vl, vs]) ⟨vl, vs, rfl, hl, hs, hq⟩)) ?_
  rintro v7 w2 ⟨hk2, rfl⟩
  replace hl := hl.up hk2; replace hs := hs.up hk2; replace hK := hK.up hk2; replace hb2 := hb2.up hk2
  refine vq (Val.not rfl) <| zm rfl ?_
  apply WR.sc false 3 (!numB n) (fun w' => Below w2.heap.size w2 w')
  case hl | hg | hu | hv | hs | hoff | hd => rfl
  case hF => exact fun _ => Below.refl _ _
  case hT =>
   intro hq7
   try simp only [tstS] at hq7
   simp only [List.take_succ_cons, List.take_zero]
   have hKsc7 : Old w2 w2 := Old.refl _
   refine WR.on rfl rfl ?_
   refine zm rfl ?_
   refine WR.on rfl rfl ?_
   refine ve (Eff.call pf54 rfl (rnumber_ok n)) ?_
   rintro v11 w3 ⟨hk3, rfl⟩
   replace hl := hl.up hk3; replace hs := hs.up hk3; replace hK := hK.up hk3; replace hb2 := hb2.up hk3; replace hKsc7 := hKsc7.up hk3
   refine WR.on rfl rfl ?_
   refine vq (Val.not rfl) ?_
   exact WR.nil ⟨rfl, Sub.drop _ 3 _ rfl rfl, hKsc7⟩
  intro w4 hk4
  replace hl := hl.up hk4; replace hs := hs.up hk4; replace hK := hK.up hk4; replace hb2 := hb2.up hk4
  refine cnil ?_
  refine WC.cond rfl (fun hc1 => ?_) (fun hc1 => ?_)
  ·try simp only [tstS] at hc1
   refine cseq <| cg <| za rfl <| za rfl <| cnil ?_
   refine WC.ret2 rfl rfl rfl ?_
   have e : (mayB r && numB n) = false := by
     cases h1 : mayB r <;> cases h2 : numB n <;> simp [h1, h2] at hc1 ⊢
   exact ⟨hK, by rw [e]; rfl⟩
  ·try simp only [tstS] at hc1
   refine cskip <| cseq ?_
   have e : (mayB r && numB n) = true := by
     cases h1 : mayB r <;> cases h2 : numB n <;> simp [h1, h2] at hc1 ⊢
   have hm : mayB r = true := by rw [Bool.and_eq_true] at e; exact e.1
   refine cg <| vq (Val.loadBN agg31 rfl hb2 rfl) <| zm rfl ?_
   refine ve (Eff.call pf55 rfl (framed_ok (r := r) (cs := [I r.kind, I r.id, St r.name, St r.digest, vl, vs]) ⟨vl, vs, rfl, hl, hs, hq⟩ hm)) ?_
   rintro v16 w5 ⟨hk5, rfl⟩
   replace hl := hl.up hk5; replace hs := hs.up hk5; replace hK := hK.up hk5; replace hb2 := hb2.up hk5
   refine za rfl <| za rfl <| cnil ?_
   refine WC.ret2 rfl rfl rfl ?_
   exact ⟨hK, by rw [e]; rfl⟩
end Go.Proofs.Ythlfolpcmcejkaa

namespace Silo
open Go Go.Eng
theorem beNat_be : ∀ (s n : Nat), beNat (be s (n : Int)) = n % 256 ^ s
  | 0, n => by simp [be, beNat, Nat.mod_one]
  | s + 1, n => by
    have e : ((n : Int) / 256) = ((n / 256 : Nat) : Int) := by omega
    have hu : (u8I (n : Int)).toNat = n % 256 := by
      unfold u8I
      have h1 : ((n : Int) % 256).toNat = n % 256 := by omega
      rw [h1, UInt8.toNat_ofNat']
      omega
    rw [be_snoc, beNat_snoc, e, beNat_be s (n / 256), hu, Nat.pow_succ, Nat.mul_comm (256 ^ s) 256, Nat.mod_mul]
    omega
theorem crc_lt (s : List UInt8) : crc s < 18446744073709551616 := inv64_lt _
/-- The frame that a text begins with: its record, number, size. -/
def takeF (s : List UInt8) : Option (Rec × Nat × Nat) :=
  if s.length < 15 then none
  else if s.length < 15 + beNat (s.take 3) then none
  else if beNat ((s.drop (7 + beNat (s.take 3))).take 8) = crc (s.take (7 + beNat (s.take 3))) then
    match takeSpec plain ((s.drop 7).take (beNat (s.take 3))) with
    | none => none
    | some r => if beNat ((s.drop 3).take 4) ≤ 1073741824 then some (r, beNat ((s.drop 3).take 4), 15 + beNat (s.take 3)) else none
  else none
/-- The page asks for the frame itself; that is asking for the sum. -/
theorem frame_sum {s : List UInt8} {r : Rec} (hl : 15 + beNat (s.take 3) ≤ s.length) (ht : takeSpec plain ((s.drop 7).take (beNat (s.take 3))) = some r) :
    frameS r (beNat ((s.drop 3).take 4) : Nat) = s.take (15 + beNat (s.take 3)) ↔ beNat ((s.drop (7 + beNat (s.take 3))).take 8) = crc (s.take (7 + beNat (s.take 3))) := by
  obtain ⟨n, hn⟩ : ∃ n, n = beNat (s.take 3) := ⟨_, rfl⟩
  obtain ⟨hb, _⟩ := take_bytes ht
  rw [← hn] at hl ht hb ⊢
  have hbl : (bytesOf r).length = n := by rw [hb, List.length_take, List.length_drop]; omega
  have e3 : be 3 (n : Int) = s.take 3 := by
    have := be_beNat (s.take 3)
    rw [← hn, List.length_take, Nat.min_eq_left (by omega)] at this
    exact this
  have e4 : be 4 ((beNat ((s.drop 3).take 4) : Nat) : Int) = (s.drop 3).take 4 := by
    have := be_beNat ((s.drop 3).take 4)
    rw [show ((s.drop 3).take 4).length = 4 by rw [List.length_take, List.length_drop]; omega] at this
    exact this
  have eH : frameH r (beNat ((s.drop 3).take 4) : Nat) = s.take (7 + n) := by
    rw [frameH, hbl, e3, e4, hb]
    have e7 : s.take (3 + 4 + n) = s.take 3 ++ (s.drop 3).take 4 ++ (s.drop (3 + 4)).take n := by rw [List.take_add, List.take_add]
    exact e7.symm
  have eT : s.take (15 + n) = s.take (7 + n) ++ (s.drop (7 + n)).take 8 := by
    rw [show 15 + n = (7 + n) + 8 by omega, List.take_add]
  rw [frameS, eH, eT, List.append_cancel_left_eq]
  have hc := crc_lt (s.take (7 + n))
  have ht8 : ((s.drop (7 + n)).take 8).length = 8 := by rw [List.length_take, List.length_drop]; omega
  constructor
  · intro h
    rw [← h, beNat_be, Nat.mod_eq_of_lt (by simpa using hc)]
  · intro h
    rw [← h]
    have := be_beNat ((s.drop (7 + n)).take 8)
    rw [ht8] at this
    exact this
theorem takeF_size {s : List UInt8} {r : Rec} {k z : Nat} (h : takeF s = some (r, k, z)) : 15 ≤ z ∧ z ≤ s.length ∧ mayB r = true ∧ k ≤ 1073741824 := by
  unfold takeF at h
  split at h
  · cases h
  · split at h
    · cases h
    · split at h
      · cases ht : takeSpec plain ((s.drop 7).take (beNat (s.take 3))) with
        | none => rw [ht] at h; cases h
        | some r' =>
          rw [ht] at h
          dsimp only at h
          split at h
          · simp only [Option.some.injEq, Prod.mk.injEq] at h
            obtain ⟨rfl, rfl, rfl⟩ := h
            exact ⟨by omega, by omega, (take_bytes ht).2, by assumption⟩
          · cases h
      · cases h
/-- The frames that a text begins with. -/
def framesG : Nat → List UInt8 → List Rec → Nat → Nat → List Rec × Nat × Nat
  | 0, _, l, first, bytes => (l, first, bytes)
  | f + 1, s, l, first, bytes => match takeF s with
    | none => (l, first, bytes)
    | some (r, k, z) =>
      if k = (if l = [] then k else first) + l.length then framesG f (s.drop z) (l ++ [r]) (if l = [] then k else first) (bytes + z)
      else (l, first, bytes)
def framesS (s : List UInt8) : List Rec × Nat × Nat := framesG (s.length + 1) s [] 0 0
theorem framesG_fuel : ∀ (f g : Nat) (s : List UInt8) (l : List Rec) (first bytes : Nat), s.length < f → s.length < g → framesG f s l first bytes = framesG g s l first bytes
  | 0, _, _, _, _, _, h, _ => absurd h (Nat.not_lt_zero _)
  | _, 0, _, _, _, _, _, h => absurd h (Nat.not_lt_zero _)
  | f + 1, g + 1, s, l, first, bytes, hf, hg => by
    unfold framesG
    cases ht : takeF s with
    | none => rfl
    | some x =>
      obtain ⟨r, k, z⟩ := x
      have := takeF_size ht
      have hrec := framesG_fuel f g (s.drop z) (l ++ [r]) (if l = [] then k else first) (bytes + z) (by rw [List.length_drop]; omega) (by rw [List.length_drop]; omega)
      dsimp only
      rw [hrec]
end Silo

namespace Silo
open Go Go.Eng
theorem pTake_app {n : Nat} {a t : List UInt8} (h : a.length = n) : pTake n (a ++ t) = some (a, t) := by
  unfold pTake
  rw [if_pos (by rw [List.length_append]; omega), List.take_append_of_le_length (by omega), List.take_of_length_le (by omega), List.drop_append_of_le_length (by omega), List.drop_eq_nil_of_le (by omega), List.nil_append]
theorem pNum_app {n : Int} {t : List UInt8} (h0 : 0 ≤ n) (h1 : n < 4294967296) : pNum plain (be 4 n ++ t) = some (n, t) := by
  obtain ⟨m, rfl⟩ := Int.eq_ofNat_of_zero_le h0
  rw [pNum, pTake_app (be_length _ _)]
  have e : beNat (be 4 (m : Int)) = m := by rw [beNat_be, Nat.mod_eq_of_lt (by omega)]
  simp only [Option.map_some]
  show some (((beNat (be 4 (m : Int)) : Nat) : Int), t) = _
  rw [e]
theorem pNum_minusApp {n : Int} {t : List UInt8} (h0 : -1 ≤ n) (h1 : n < 12) : pNum minus (be 4 n ++ t) = some (n, t) := by
  rw [pNum, pTake_app (be_length _ _)]
  simp only [Option.map_some, Option.some.injEq, Prod.mk.injEq, and_true]
  rcases Int.lt_or_le n 0 with h | h
  · have : n = -1 := by omega
    subst this; decide
  · obtain ⟨m, rfl⟩ := Int.eq_ofNat_of_zero_le h
    have e : beNat (be 4 (m : Int)) = m := by rw [beNat_be, Nat.mod_eq_of_lt (by omega)]
    rw [show beNat (be 4 ((m : Nat) : Int)) = m from e, minus, if_neg (by omega)]
theorem pList_app : ∀ (l : List Int) (t : List UInt8), (∀ x ∈ l, numB x = true) → pList plain l.length (l.flatMap (be 4) ++ t) = some (l, t)
  | [], t, _ => rfl
  | x :: l, t, h => by
    have hx := h x (by simp)
    simp only [numB, Bool.and_eq_true, decide_eq_true_eq] at hx
    rw [List.length_cons, pList, List.flatMap_cons, List.append_assoc, pNum_app hx.1 (by omega)]
    simp only [Option.bind_some]
    rw [pList_app l t fun y hy => h y (by simp [hy])]
    rfl
theorem pSlots_app : ∀ (l : List (Int × Int)) (t : List UInt8), (∀ x ∈ l, slotBad x = false) → pSlots plain minus l.length (l.flatMap be44 ++ t) = some (l, t)
  | [], t, _ => rfl
  | x :: l, t, h => by
    have hx := h x (by simp)
    simp only [slotBad, Bool.or_eq_false_iff, decide_eq_false_iff_not] at hx
    rw [List.length_cons, pSlots, List.flatMap_cons, be44, List.append_assoc, List.append_assoc, pNum_minusApp (by omega) (by omega)]
    simp only [Option.bind_some]
    rw [pNum_app (by omega) (by omega)]
    simp only [Option.bind_some]
    rw [pSlots_app l t fun y hy => h y (by simp [hy])]
    rfl
theorem beNatF1 {m : Nat} (h : m < 256) : beNat (be 1 (m : Int)) = m := by rw [beNat_be, Nat.mod_eq_of_lt (by omega)]
theorem beNatF4 {m : Nat} (h : m < 4294967296) : beNat (be 4 (m : Int)) = m := by rw [beNat_be, Nat.mod_eq_of_lt (by omega)]
theorem gI (r : Rec) {i : Int} {t : List UInt8} (h : numB i = true) : pField plain 105 (r, be 4 i ++ t) = some ({ r with id := i }, t) := by
  simp only [numB, Bool.and_eq_true, decide_eq_true_eq] at h
  simp only [pField]
  rw [pNum_app h.1 (by omega)]; rfl
theorem gN (r : Rec) {n t : List UInt8} (h : n.length < 256) : pField plain 110 (r, be 1 (n.length : Nat) ++ (n ++ t)) = some ({ r with name := n }, t) := by
  simp only [pField]
  rw [pTake_app (be_length _ _)]
  simp only [Option.bind_some]
  rw [beNatF1 h, pTake_app rfl]; rfl
theorem gD (r : Rec) {d t : List UInt8} (h : d.length = 32) : pField plain 100 (r, d ++ t) = some ({ r with digest := d }, t) := by
  simp only [pField]
  rw [pTake_app h]; rfl
theorem gL (r : Rec) {l : List Int} {t : List UInt8} (h : ∀ x ∈ l, numB x = true) (hl : l.length ≤ 2000) (h0 : r.list = []) : pField plain 108 (r, be 4 (l.length : Nat) ++ (l.flatMap (be 4) ++ t)) = some ({ r with list := l }, t) := by
  simp only [pField]
  rw [pTake_app (be_length _ _)]
  simp only [Option.bind_some]
  rw [beNatF4 (by omega), pList_app l t h]
  simp [h0]
theorem gS (r : Rec) {l : List (Int × Int)} {t : List UInt8} (h : ∀ x ∈ l, slotBad x = false) (hl : l.length ≤ 14) (h0 : r.slots = []) : pField plain 115 (r, be 1 (l.length : Nat) ++ (l.flatMap be44 ++ t)) = some ({ r with slots := l }, t) := by
  simp only [pField]
  rw [pTake_app (be_length _ _)]
  simp only [Option.bind_some]
  rw [beNatF1 (by omega), pSlots_app l t h]
  simp [h0]
/-- A record is read from its bytes. -/
theorem bytes_take {r : Rec} (h : mayB r = true) : takeSpec plain (bytesOf r) = some r := by
  obtain ⟨k1, k8, s1, s2, s3, s4, _⟩ := may_small h
  obtain ⟨_, hw, hi, hN, hD, _, _, _, hL, hS⟩ := (mayB_iff r).1 h
  obtain ⟨wI, wN, wD, wL, wS⟩ := (want_iff r).1 hw
  clear hw
  obtain ⟨k, i, n, d, l, s⟩ := r
  dsimp only at *
  have hk : k = 1 ∨ k = 2 ∨ k = 3 ∨ k = 4 ∨ k = 5 ∨ k = 6 ∨ k = 7 ∨ k = 8 := by omega
  have t0 : ∀ t : List UInt8, t = t ++ [] := fun t => (List.append_nil t).symm
  have hE : ∀ r, mayB r = true → pEnd (r, []) = some r := fun r hr => by simp [pEnd, hr]
  rcases hk with rfl | rfl | rfl | rfl | rfl | rfl | rfl | rfl
  · have wN := wN.resolve_left (by decide); have wD := wD.resolve_left (by decide); have wL := wL.resolve_left (by decide)
    subst wN wD wL
    have e : bytesOf ⟨1, i, [], [], [], s⟩ = 1 :: (be 4 i ++ (be 1 (s.length : Nat) ++ (s.flatMap be44 ++ []))) := by simp [bytesOf, A4, A3, A2, A1, bI, bN, bL, bS, hasB, fieldsB, be, u8I]
    rw [e]
    show (pFields plain [105, 115] (rec0 1, _)).bind pEnd = _
    simp only [pFields, List.foldlM_cons, List.foldlM_nil]
    rw [show (105 : UInt8).toNat = 105 from rfl, show (115 : UInt8).toNat = 115 from rfl]
    simp only [gI (rec0 1) hi, gS ({ rec0 1 with id := i }) hS s4 rfl, Option.bind_eq_bind, Option.bind_some]
    exact hE _ h
  · have wN := wN.resolve_left (by decide); have wD := wD.resolve_left (by decide)
    subst wN wD
    have e : bytesOf ⟨2, i, [], [], l, s⟩ = 2 :: (be 4 i ++ (be 4 (l.length : Nat) ++ (l.flatMap (be 4) ++ (be 1 (s.length : Nat) ++ (s.flatMap be44 ++ []))))) := by simp [bytesOf, A4, A3, A2, A1, bI, bN, bL, bS, hasB, fieldsB, be, u8I]
    rw [e]
    show (pFields plain [105, 108, 115] (rec0 2, _)).bind pEnd = _
    simp only [pFields, List.foldlM_cons, List.foldlM_nil]
    rw [show (105 : UInt8).toNat = 105 from rfl, show (108 : UInt8).toNat = 108 from rfl, show (115 : UInt8).toNat = 115 from rfl]
    simp only [gI (rec0 2) hi, gL ({ rec0 2 with id := i }) hL s3 rfl, gS ({ rec0 2 with id := i, list := l }) hS s4 rfl, Option.bind_eq_bind, Option.bind_some]
    exact hE _ h
  · have wN := wN.resolve_left (by decide); have wD := wD.resolve_left (by decide); have wL := wL.resolve_left (by decide); have wS := wS.resolve_left (by decide)
    subst wN wD wL wS
    have e : bytesOf ⟨3, i, [], [], [], []⟩ = 3 :: (be 4 i ++ []) := by simp [bytesOf, A4, A3, A2, A1, bI, bN, bL, bS, hasB, fieldsB, be, u8I]
    rw [e]
    show (pFields plain [105] (rec0 3, be 4 i ++ [])).bind pEnd = some _
    simp only [pFields, List.foldlM_cons, List.foldlM_nil]
    rw [show (105 : UInt8).toNat = 105 from rfl]
    simp only [gI (rec0 3) hi, Option.bind_eq_bind, Option.bind_some]
    exact hE _ h
  · have wN := wN.resolve_left (by decide); have wS := wS.resolve_left (by decide)
    have hD := hD (by decide)
    subst wN wS
    have e : bytesOf ⟨4, i, [], d, l, []⟩ = 4 :: (be 4 i ++ (d ++ (be 4 (l.length : Nat) ++ (l.flatMap (be 4) ++ [])))) := by simp [bytesOf, A4, A3, A2, A1, bI, bN, bL, bS, hasB, fieldsB, be, u8I]
    rw [e]
    show (pFields plain [105, 100, 108] (rec0 4, _)).bind pEnd = _
    simp only [pFields, List.foldlM_cons, List.foldlM_nil]
    rw [show (105 : UInt8).toNat = 105 from rfl, show (108 : UInt8).toNat = 108 from rfl, show (100 : UInt8).toNat = 100 from rfl]
    simp only [gI (rec0 4) hi, gD ({ rec0 4 with id := i }) (show d.length = 32 by omega), gL ({ rec0 4 with id := i, digest := d }) hL s3 rfl, Option.bind_eq_bind, Option.bind_some]
    exact hE _ h
  · have wN := wN.resolve_left (by decide); have wS := wS.resolve_left (by decide)
    have hD := hD (by decide)
    subst wN wS
    have e : bytesOf ⟨5, i, [], d, l, []⟩ = 5 :: (be 4 i ++ (d ++ (be 4 (l.length : Nat) ++ (l.flatMap (be 4) ++ [])))) := by simp [bytesOf, A4, A3, A2, A1, bI, bN, bL, bS, hasB, fieldsB, be, u8I]
    rw [e]
    show (pFields plain [105, 100, 108] (rec0 5, _)).bind pEnd = _
    simp only [pFields, List.foldlM_cons, List.foldlM_nil]
    rw [show (105 : UInt8).toNat = 105 from rfl, show (108 : UInt8).toNat = 108 from rfl, show (100 : UInt8).toNat = 100 from rfl]
    simp only [gI (rec0 5) hi, gD ({ rec0 5 with id := i }) (show d.length = 32 by omega), gL ({ rec0 5 with id := i, digest := d }) hL s3 rfl, Option.bind_eq_bind, Option.bind_some]
    exact hE _ h
  · have wI := wI.resolve_left (by decide); have wN := wN.resolve_left (by decide); have wL := wL.resolve_left (by decide); have wS := wS.resolve_left (by decide)
    have hD := hD (by decide)
    subst wI wN wL wS
    have e : bytesOf ⟨6, 0, [], d, [], []⟩ = 6 :: (d ++ []) := by simp [bytesOf, A4, A3, A2, A1, bI, bN, bL, bS, hasB, fieldsB, be, u8I]
    rw [e]
    show (pFields plain [100] (rec0 6, _)).bind pEnd = _
    simp only [pFields, List.foldlM_cons, List.foldlM_nil]
    rw [show (100 : UInt8).toNat = 100 from rfl]
    simp only [gD (rec0 6) (show d.length = 32 by omega), Option.bind_eq_bind, Option.bind_some]
    exact hE _ h
  · have wI := wI.resolve_left (by decide); have wL := wL.resolve_left (by decide); have wS := wS.resolve_left (by decide)
    have hD := hD (by decide)
    subst wI wL wS
    have e : bytesOf ⟨7, 0, n, d, [], []⟩ = 7 :: (be 1 (n.length : Nat) ++ (n ++ (d ++ []))) := by simp [bytesOf, A4, A3, A2, A1, bI, bN, bL, bS, hasB, fieldsB, be, u8I]
    rw [e]
    show (pFields plain [110, 100] (rec0 7, _)).bind pEnd = _
    simp only [pFields, List.foldlM_cons, List.foldlM_nil]
    rw [show (100 : UInt8).toNat = 100 from rfl, show (110 : UInt8).toNat = 110 from rfl]
    simp only [gN (rec0 7) (show n.length < 256 by omega), gD ({ rec0 7 with name := n }) (show d.length = 32 by omega), Option.bind_eq_bind, Option.bind_some]
    exact hE _ h
  · have wI := wI.resolve_left (by decide); have wD := wD.resolve_left (by decide); have wL := wL.resolve_left (by decide); have wS := wS.resolve_left (by decide)
    subst wI wD wL wS
    have e : bytesOf ⟨8, 0, n, [], [], []⟩ = 8 :: (be 1 (n.length : Nat) ++ (n ++ [])) := by simp [bytesOf, A4, A3, A2, A1, bI, bN, bL, bS, hasB, fieldsB, be, u8I]
    rw [e]
    show (pFields plain [110] (rec0 8, _)).bind pEnd = _
    simp only [pFields, List.foldlM_cons, List.foldlM_nil]
    rw [show (110 : UInt8).toNat = 110 from rfl]
    simp only [gN (rec0 8) (show n.length < 256 by omega), Option.bind_eq_bind, Option.bind_some]
    exact hE _ h
end Silo

namespace Go.Proofs.Ythlfolpcmcejkaa
open Go Go.Eng Go.RowKit Silo TryT

theorem ptake_ok {w : World} {b : Nat} {s : List UInt8} {bad : Bool} (hb : Blk w b [St s, .bool bad] 72) (n : Int) (h0 : 0 ≤ n) (hs : s.length ≤ 140737488355328) :
    Calls Try.prog 65 #[.pointer (some ⟨b, 0, none⟩), I n] w (Ret fun v w' => w.grownBy w' (some b) ∧ v = St (tkT s bad n) ∧ Blk w' b [St (tkS s bad n), .bool (tkBad s bad n)] 72) := by
  have hg : w.grownBy w (some b) := grown_refl _ _
  refine enter (n := 38) (res := #[.tmp 4]) Try.func65 rfl rfl rfl rfl ?_
  refine cseq <| cg <| za rfl <| cnil <| cseq <| cseq <| cg <| zm rfl <| vq (Val.nilCheck rfl) ?_
  refine vq (Val.fieldAddr fld72_1 rfl) <| vq (Val.loadB scl4 rfl hb rfl) <| zm rfl ?_
  apply WR.sc false 7 _ (fun w' => w = w')
  case hl | hg | hu | hv | hs | hoff | hd => rfl
  case hF => exact fun _ => rfl
  case hT =>
   intro hq12
   try simp only [tstS] at hq12
   simp only [List.take_succ_cons, List.take_zero]
   refine WR.on rfl rfl ?_
   refine zm rfl ?_
   refine WR.on rfl rfl ?_
   refine zm rfl ?_
   refine WR.on rfl rfl ?_
   refine vq (Val.nilCheck rfl) ?_
   refine WR.on rfl rfl ?_
   refine vq (Val.fieldAddr fld72_0 rfl) ?_
   refine WR.on rfl rfl ?_
   refine vq (Val.loadB scl9 rfl hb rfl) ?_
   refine WR.on rfl rfl ?_
   refine vq (Val.slen Try.underlying9 rfl) ?_
   refine WR.on rfl rfl ?_
   refine vq (Val.gtr rfl rfl) ?_
   exact WR.nil ⟨rfl, Sub.drop _ 7 _ rfl rfl, rfl⟩
  rintro _ rfl
  refine cnil ?_
  refine WC.cond rfl (fun hc1 => ?_) (fun hc1 => ?_)
  ·skip
   refine cseq <| cg <| zm rfl <| vq (Val.nilCheck rfl) <| vq (Val.fieldAddr fld72_1 rfl) ?_
   refine WR.eff_ (Eff.storeB scl4 rfl rfl ra ra hb rfl) ?_
   intro _ w1 hS1
   replace hb := hS1.blk
   replace hg := hS1.grown
   refine cnil <| cseq <| cg <| za rfl <| cnil ?_
   refine WC.ret1 rfl rfl ?_
   have e : tkBad s bad n = true := hc1
   refine ⟨hg, by rw [tkT, e]; rfl, ?_⟩
   rw [tkS, e]; exact hb
  ·skip
   refine cskip <| cseq ?_
   have e : tkBad s bad n = false := hc1
   have hlt : n ≤ s.length := by
     simp only [tkBad, Bool.or_eq_false_iff, decide_eq_false_iff_not] at e; omega
   have ebad : bad = false := by
     simp only [tkBad, Bool.or_eq_false_iff] at e; exact e.1
   refine cg <| zm rfl <| vq (Val.nilCheck rfl) <| vq (Val.fieldAddr fld72_0 rfl) <| vq (Val.loadB scl9 rfl hb rfl) <| zm rfl <| vq (Val.ssliceTo Try.underlying9 rfl rfl side side) <| za rfl <| cnil ?_
   refine cseq <| cg <| zm rfl <| zm rfl <| vq (Val.nilCheck rfl) <| vq (Val.fieldAddr fld72_0 rfl) <| vq (Val.loadB scl9 rfl hb rfl) <| zm rfl <| vq (Val.ssliceFrom Try.underlying9 rfl rfl side side) ?_
   refine vq (Val.nilCheck rfl) <| vq (Val.fieldAddr fld72_0 rfl) ?_
   refine WR.eff_ (Eff.storeB scl9 rfl rfl ra ra hb rfl) ?_
   intro _ w2 hS2
   replace hb := hS2.blk
   replace hg := hS2.grown
   refine cnil <| cseq <| cg <| zm rfl <| za rfl <| cnil ?_
   refine WC.ret1 rfl rfl ?_
   refine ⟨hg, by rw [tkT, e]; rfl, ?_⟩
   subst ebad
   rw [tkS, e]; exact hb

theorem qtake_ok {w : World} {b : Nat} {s : List UInt8} {bad : Bool} (hb : Blk w b [St s, .bool bad] 77) (n : Int) (h0 : 0 ≤ n) (hs : s.length ≤ 140737488355328) :
    Calls Try.prog 52 #[.pointer (some ⟨b, 0, none⟩), I n] w (Ret fun v w' => w.grownBy w' (some b) ∧ v = St (tkT s bad n) ∧ Blk w' b [St (tkS s bad n), .bool (tkBad s bad n)] 77) := by
  have hg : w.grownBy w (some b) := grown_refl _ _
  refine enter (n := 38) (res := #[.tmp 4]) Try.func52 rfl rfl rfl rfl ?_
  refine cseq <| cg <| za rfl <| cnil <| cseq <| cseq <| cg <| zm rfl <| vq (Val.nilCheck rfl) ?_
  refine vq (Val.fieldAddr fld77_1 rfl) <| vq (Val.loadB scl4 rfl hb rfl) <| zm rfl ?_
  apply WR.sc false 7 _ (fun w' => w = w')
  case hl | hg | hu | hv | hs | hoff | hd => rfl
  case hF => exact fun _ => rfl
  case hT =>
   intro hq12
   try simp only [tstS] at hq12
   simp only [List.take_succ_cons, List.take_zero]
   refine WR.on rfl rfl ?_
   refine zm rfl ?_
   refine WR.on rfl rfl ?_
   refine zm rfl ?_
   refine WR.on rfl rfl ?_
   refine vq (Val.nilCheck rfl) ?_
   refine WR.on rfl rfl ?_
   refine vq (Val.fieldAddr fld77_0 rfl) ?_
   refine WR.on rfl rfl ?_
   refine vq (Val.loadB scl9 rfl hb rfl) ?_
   refine WR.on rfl rfl ?_
   refine vq (Val.slen Try.underlying9 rfl) ?_
   refine WR.on rfl rfl ?_
   refine vq (Val.gtr rfl rfl) ?_
   exact WR.nil ⟨rfl, Sub.drop _ 7 _ rfl rfl, rfl⟩
  rintro _ rfl
  refine cnil ?_
  refine WC.cond rfl (fun hc1 => ?_) (fun hc1 => ?_)
  ·skip
   refine cseq <| cg <| zm rfl <| vq (Val.nilCheck rfl) <| vq (Val.fieldAddr fld77_1 rfl) ?_
   refine WR.eff_ (Eff.storeB scl4 rfl rfl ra ra hb rfl) ?_
   intro _ w1 hS1
   replace hb := hS1.blk
   replace hg := hS1.grown
   refine cnil <| cseq <| cg <| za rfl <| cnil ?_
   refine WC.ret1 rfl rfl ?_
   have e : tkBad s bad n = true := hc1
   refine ⟨hg, by rw [tkT, e]; rfl, ?_⟩
   rw [tkS, e]; exact hb
  ·skip
   refine cskip <| cseq ?_
   have e : tkBad s bad n = false := hc1
   have hlt : n ≤ s.length := by
     simp only [tkBad, Bool.or_eq_false_iff, decide_eq_false_iff_not] at e; omega
   have ebad : bad = false := by
     simp only [tkBad, Bool.or_eq_false_iff] at e; exact e.1
   refine cg <| zm rfl <| vq (Val.nilCheck rfl) <| vq (Val.fieldAddr fld77_0 rfl) <| vq (Val.loadB scl9 rfl hb rfl) <| zm rfl <| vq (Val.ssliceTo Try.underlying9 rfl rfl side side) <| za rfl <| cnil ?_
   refine cseq <| cg <| zm rfl <| zm rfl <| vq (Val.nilCheck rfl) <| vq (Val.fieldAddr fld77_0 rfl) <| vq (Val.loadB scl9 rfl hb rfl) <| zm rfl <| vq (Val.ssliceFrom Try.underlying9 rfl rfl side side) ?_
   refine vq (Val.nilCheck rfl) <| vq (Val.fieldAddr fld77_0 rfl) ?_
   refine WR.eff_ (Eff.storeB scl9 rfl rfl ra ra hb rfl) ?_
   intro _ w2 hS2
   replace hb := hS2.blk
   replace hg := hS2.grown
   refine cnil <| cseq <| cg <| zm rfl <| za rfl <| cnil ?_
   refine WC.ret1 rfl rfl ?_
   refine ⟨hg, by rw [tkT, e]; rfl, ?_⟩
   subst ebad
   rw [tkS, e]; exact hb

theorem pnumber_ok {w : World} {b : Nat} {s : List UInt8} {bad : Bool} (hb : Blk w b [St s, .bool bad] 72) (n : Int) (h0 : 0 ≤ n) (h7 : n ≤ 7) (hs : s.length ≤ 140737488355328) :
    Calls Try.prog 64 #[.pointer (some ⟨b, 0, none⟩), I n] w (Ret fun v w' => w.grownBy w' (some b) ∧ v = I (minus (beNat (tkT s bad n))) ∧ Blk w' b [St (tkS s bad n), .bool (tkBad s bad n)] 72) := by
  have hl := tkT_len s bad n
  have hlt := beNat_lt (tkT s bad n)
  have hp : 256 ^ (tkT s bad n).length ≤ 256 ^ 7 := Nat.pow_le_pow_right (by decide) (by omega)
  refine enter (n := 14) (res := #[.tmp 4]) Try.func64 rfl rfl rfl rfl ?_
  refine cseq <| cg <| za rfl <| cnil <| cseq <| cg <| zm rfl <| zm rfl ?_
  refine ve (Eff.call pf65 rfl (ptake_ok hb n h0 hs)) ?_
  rintro _ w1 ⟨hg, rfl, hb1⟩
  refine ve (Eff.call pf75 rfl (number_ok' _ (by omega))) ?_
  rintro _ w2 ⟨hk2, rfl⟩
  replace hb1 := hb1.up hk2; replace hg := grown_trans hg (.inl rfl) (grown_of_below hk2 _)
  refine za rfl <| cnil <| cseq <| cseq <| cg <| zm rfl <| vq (Val.eql rfl rfl) <| cnil ?_
  refine WC.cond rfl (fun hc2 => ?_) (fun hc2 => ?_)
  ·try simp only [tstS] at hc2
   refine cseq <| cg <| za rfl <| cnil ?_
   refine WC.ret1 rfl rfl ?_
   exact ⟨hg, by rw [minus, if_pos (by omega)], hb1⟩
  ·try simp only [tstS] at hc2
   refine cskip <| cseq <| cg <| zm rfl <| vq (Val.convTo64 Try.underlying94 Try.underlying3 rfl (by omega) (by omega)) <| za rfl <| cnil ?_
   refine WC.ret1 rfl rfl ?_
   exact ⟨hg, by rw [minus, if_neg (by omega)], hb1⟩

theorem qNumber_ok {w : World} (l : List UInt8) (hl : l.length ≤ 6) :
    Calls Try.prog 36 #[St l] w (Ret fun v' w' => Below w.heap.size w w' ∧ v' = I (beNat l : Nat)) := by
  refine enter (n := 19) (res := #[.tmp 2]) Try.func36 rfl rfl rfl rfl ?_
  refine cseq <| cg <| za rfl <| cnil <| cseq <| cg <| za rfl <| cnil <| cseq ?_
  refine cseq <| cg <| za rfl <| cnil <| cblock ?_
  refine WC.loop (σ := Nat) (fun k => [(0, St l), (4, I k), (3, I (beNat (l.take k) : Nat))]) (fun k w' => k ≤ l.length ∧ w' = w) (fun k => l.length - k) 0 subs ⟨by omega, rfl⟩ ?_
  rintro k wl ⟨hk, rfl⟩
  refine cseq <| cseq <| cg <| zm rfl <| zm rfl <| vq (Val.slen Try.underlying9 rfl) <| vq (Val.lss rfl rfl) <| cnil ?_
  refine WC.cond rfl (fun hc3 => ?_) (fun hc3 => ?_)
  ·try simp only [tstS] at hc3
   have hkl : k < l.length := by omega
   have hlt := beNat_lt (l.take k)
   have hlt2 : beNat (l.take k) < 36028797018963968 := by
     rw [take_len hk] at hlt
     have : 256 ^ k ≤ 256 ^ 6 := Nat.pow_le_pow_right (by decide) (by omega)
     omega
   refine cskip <| cseq <| cblock <| cg <| zm rfl <| vq (Val.shl8_i64 rfl rfl hlt2) <| zm rfl <| zm rfl <| vq (Val.sindex Try.underlying9 rfl rfl (by omega) (List.getElem?_eq_getElem hkl)) ?_
   refine vq (Val.convU8 Try.underlying5 Try.underlying3 rfl) <| vq (Val.or256_i64 rfl rfl hlt2 l[k].toNat_lt) <| za rfl <| cnil <| cg <| zm rfl <| vq (Val.addI rfl rfl side side) <| za rfl <| cnil ?_
   have e1 : beNat (l.take (k + 1)) = beNat (l.take k) * 256 + l[k].toNat := by rw [List.take_succ_eq_append_getElem hkl, beNat_snoc]
   refine ⟨k + 1, ?_, ⟨hkl, rfl⟩, by omega⟩
   rw [e1]
   repeat (first | exact Sub.nil _ | refine Sub.cons rfl ?_ | refine Sub.consM rfl ?_)
  ·try simp only [tstS] at hc3
   refine WC.exit rfl ?_
   refine cseq <| cg <| zm rfl <| za rfl <| cnil ?_
   refine WC.ret1 rfl rfl ?_
   exact ⟨Below.refl _ _, by rw [List.take_of_length_le (by omega)]⟩

theorem qnumber_ok {w : World} {b : Nat} {s : List UInt8} {bad : Bool} (hb : Blk w b [St s, .bool bad] 77) (hs : s.length ≤ 140737488355328) :
    Calls Try.prog 53 #[.pointer (some ⟨b, 0, none⟩)] w (Ret fun v w' => w.grownBy w' (some b) ∧ v = I (beNat (tkT s bad 4) : Nat) ∧ Blk w' b [St (tkS s bad 4), .bool (tkBad s bad 4)] 77) := by
  have hl := tkT_len s bad 4
  refine enter (n := 6) (res := #[.tmp 2]) Try.func53 rfl rfl rfl rfl ?_
  refine cseq <| cg <| za rfl <| cnil <| cseq <| cg <| zm rfl ?_
  refine ve (Eff.call pf52 rfl (qtake_ok hb 4 (by decide) hs)) ?_
  rintro _ w1 ⟨hg, rfl, hb1⟩
  refine ve (Eff.call pf36 rfl (qNumber_ok _ (by omega))) ?_
  rintro _ w2 ⟨hk2, rfl⟩
  replace hb1 := hb1.up hk2; replace hg := grown_trans hg (.inl rfl) (grown_of_below hk2 _)
  refine za rfl <| cnil ?_
  refine WC.ret1 rfl rfl ?_
  exact ⟨hg, rfl, hb1⟩
end Go.Proofs.Ythlfolpcmcejkaa

namespace Silo
open Go Go.Eng

/-- A reader's state and the record so far: what the parsing has told. -/
def Rel (o : Option (Rec × List UInt8)) (s : List UInt8) (bad : Bool) (p : Rec) : Prop := (bad = true ∧ o = none) ∨ (bad = false ∧ o = some (p, s))
theorem tkBad_true (s : List UInt8) (n : Int) : tkBad s true n = true := rfl
theorem tk_cases (s : List UInt8) (n : Nat) : (tkBad s false n = true ∧ pTake n s = none) ∨ (tkBad s false n = false ∧ pTake n s = some (tkT s false n, tkS s false n) ∧ n ≤ s.length ∧ (tkS s false n).length + n = s.length) := by
  unfold tkT tkS pTake
  rcases Nat.lt_or_ge s.length n with h | h
  · have e : tkBad s false n = true := by simp [tkBad]; omega
    exact .inl ⟨e, by rw [if_neg (by omega)]⟩
  · have e : tkBad s false n = false := by simp [tkBad]; omega
    refine .inr ⟨e, by rw [if_pos h, e]; rfl, h, ?_⟩
    rw [e]; simp; omega
theorem tk_num (φ : Nat → Int) (s : List UInt8) : (tkBad s false 4 = true ∧ pNum φ s = none) ∨ (tkBad s false 4 = false ∧ pNum φ s = some (φ (beNat (tkT s false 4)), tkS s false 4) ∧ (tkS s false 4).length + 4 = s.length) := by
  unfold pNum
  rcases tk_cases s 4 with ⟨h1, h2⟩ | ⟨h1, h2, _, h3⟩
  · exact .inl ⟨h1, by rw [h2]; rfl⟩
  · exact .inr ⟨h1, by rw [h2]; rfl, h3⟩

theorem rel_id {φ : Nat → Int} {o : Option (Rec × List UInt8)} {s : List UInt8} {bad : Bool} {p : Rec} (h : Rel o s bad p) : Rel (o.bind (pField φ 105)) (tkS s bad 4) (tkBad s bad 4) { p with id := φ (beNat (tkT s bad 4)) } := by
  rcases h with ⟨rfl, rfl⟩ | ⟨rfl, rfl⟩
  · exact .inl ⟨rfl, rfl⟩
  · rcases tk_num φ s with ⟨h1, h2⟩ | ⟨h1, h2, _⟩
    · exact .inl ⟨h1, by simp [pField, h2]⟩
    · exact .inr ⟨h1, by simp [pField, h2]⟩
theorem rel_dig {φ : Nat → Int} {o : Option (Rec × List UInt8)} {s : List UInt8} {bad : Bool} {p : Rec} (h : Rel o s bad p) : Rel (o.bind (pField φ 100)) (tkS s bad 32) (tkBad s bad 32) { p with digest := tkT s bad 32 } := by
  rcases h with ⟨rfl, rfl⟩ | ⟨rfl, rfl⟩
  · exact .inl ⟨rfl, rfl⟩
  · rcases tk_cases s 32 with ⟨h1, h2⟩ | ⟨h1, h2, _⟩
    · exact .inl ⟨h1, by simp [pField, h2]⟩
    · exact .inr ⟨h1, by simp only [Option.bind_some, pField, h2, Option.map_some]; rfl⟩
theorem rel_name {φ : Nat → Int} {o : Option (Rec × List UInt8)} {s : List UInt8} {bad : Bool} {p : Rec} (h : Rel o s bad p) :
    Rel (o.bind (pField φ 110)) (tkS (tkS s bad 1) (tkBad s bad 1) (beNat (tkT s bad 1))) (tkBad (tkS s bad 1) (tkBad s bad 1) (beNat (tkT s bad 1))) { p with name := tkT (tkS s bad 1) (tkBad s bad 1) (beNat (tkT s bad 1)) } := by
  rcases h with ⟨rfl, rfl⟩ | ⟨rfl, rfl⟩
  · exact .inl ⟨rfl, rfl⟩
  · rcases tk_cases s 1 with ⟨h1, h2⟩ | ⟨h1, h2, _⟩
    · have h1' : tkBad s false 1 = true := h1
      exact .inl ⟨by rw [h1']; rfl, by simp [pField, h2]⟩
    · have h1' : tkBad s false 1 = false := h1
      have h2' : pTake 1 s = some (tkT s false 1, tkS s false 1) := h2
      rw [h1']
      rcases tk_cases (tkS s false 1) (beNat (tkT s false 1)) with ⟨h3, h4⟩ | ⟨h3, h4, _⟩
      · exact .inl ⟨h3, by simp [pField, h2', h4]⟩
      · exact .inr ⟨h3, by simp [pField, h2', h4]⟩

/-! ### Lists -/
def LJ (φ : Nat → Int) (T : Option (Rec × List UInt8)) (N : Nat) (s : List UInt8) (bad : Bool) (p : Rec) : Prop :=
  (bad = true ∧ T = none) ∨ (bad = false ∧ T = (pList φ N s).map fun z => ({ p with list := p.list ++ z.1 }, z.2))
theorem lj_init {φ : Nat → Int} {o : Option (Rec × List UInt8)} {s : List UInt8} {bad : Bool} {p : Rec} (h : Rel o s bad p) : LJ φ (o.bind (pField φ 108)) (beNat (tkT s bad 4)) (tkS s bad 4) (tkBad s bad 4) p := by
  rcases h with ⟨rfl, rfl⟩ | ⟨rfl, rfl⟩
  · exact .inl ⟨rfl, rfl⟩
  · rcases tk_cases s 4 with ⟨h1, h2⟩ | ⟨h1, h2, _⟩
    · exact .inl ⟨h1, by simp [pField, h2]⟩
    · exact .inr ⟨h1, by simp only [Option.bind_some, pField, h2]; rfl⟩
theorem lj_step {φ : Nat → Int} {T : Option (Rec × List UInt8)} {N : Nat} {s : List UInt8} {p : Rec} (h : LJ φ T (N + 1) s false p) :
    LJ φ T N (tkS s false 4) (tkBad s false 4) { p with list := p.list ++ [φ (beNat (tkT s false 4))] } := by
  rcases h with ⟨h, _⟩ | ⟨_, h⟩
  · cases h
  · rcases tk_num φ s with ⟨h1, h2⟩ | ⟨h1, h2, _⟩
    · exact .inl ⟨h1, by rw [h]; simp [pList, h2]⟩
    · refine .inr ⟨h1, ?_⟩
      rw [h]
      simp only [pList, h2, Option.bind_some, Option.map_map]
      congr 1
      funext z; simp
theorem lj_exit {φ : Nat → Int} {T : Option (Rec × List UInt8)} {s : List UInt8} {bad : Bool} {p : Rec} {N : Nat} (h : LJ φ T N s bad p) (h0 : bad = false → N = 0) : Rel T s bad p := by
  rcases h with ⟨h, h'⟩ | ⟨h, h'⟩
  · exact .inl ⟨h, h'⟩
  · refine .inr ⟨h, ?_⟩
    rw [h', h0 h]; simp [pList]

/-! ### Slots -/
def SJ (φ : Nat → Int) (T : Option (Rec × List UInt8)) (N : Nat) (s : List UInt8) (bad : Bool) (p : Rec) : Prop :=
  (bad = true ∧ T = none) ∨ (bad = false ∧ T = (pSlots φ minus N s).map fun z => ({ p with slots := p.slots ++ z.1 }, z.2))
theorem sj_init {φ : Nat → Int} {o : Option (Rec × List UInt8)} {s : List UInt8} {bad : Bool} {p : Rec} (h : Rel o s bad p) : SJ φ (o.bind (pField φ 115)) (beNat (tkT s bad 1)) (tkS s bad 1) (tkBad s bad 1) p := by
  rcases h with ⟨rfl, rfl⟩ | ⟨rfl, rfl⟩
  · exact .inl ⟨rfl, rfl⟩
  · rcases tk_cases s 1 with ⟨h1, h2⟩ | ⟨h1, h2, _⟩
    · exact .inl ⟨h1, by simp [pField, h2]⟩
    · exact .inr ⟨h1, by simp only [Option.bind_some, pField, h2]; rfl⟩
theorem sj_step {φ : Nat → Int} {T : Option (Rec × List UInt8)} {N : Nat} {s : List UInt8} {p : Rec} (h : SJ φ T (N + 1) s false p) :
    SJ φ T N (tkS (tkS s false 4) (tkBad s false 4) 4) (tkBad (tkS s false 4) (tkBad s false 4) 4) { p with slots := p.slots ++ [(minus (beNat (tkT s false 4)), φ (beNat (tkT (tkS s false 4) (tkBad s false 4) 4)))] } := by
  rcases h with ⟨h, _⟩ | ⟨_, h⟩
  · cases h
  · rcases tk_num minus s with ⟨h1, h2⟩ | ⟨h1, h2, _⟩
    · exact .inl ⟨by rw [h1]; rfl, by rw [h]; simp [pSlots, h2]⟩
    · rw [h1]
      rcases tk_num φ (tkS s false 4) with ⟨h3, h4⟩ | ⟨h3, h4, _⟩
      · exact .inl ⟨h3, by rw [h]; simp [pSlots, h2, h4]⟩
      · refine .inr ⟨h3, ?_⟩
        rw [h]
        simp only [pSlots, h2, h4, Option.bind_some, Option.map_map]
        congr 1
        funext z; simp
theorem sj_exit {φ : Nat → Int} {T : Option (Rec × List UInt8)} {s : List UInt8} {bad : Bool} {p : Rec} {N : Nat} (h : SJ φ T N s bad p) (h0 : bad = false → N = 0) : Rel T s bad p := by
  rcases h with ⟨h, h'⟩ | ⟨h, h'⟩
  · exact .inl ⟨h, h'⟩
  · refine .inr ⟨h, ?_⟩
    rw [h', h0 h]; simp [pSlots]
theorem tk4_len {s : List UInt8} (h : tkBad s false 4 = false) : (tkS s false 4).length + 4 = s.length := by
  rcases tk_cases s 4 with ⟨h1, _⟩ | ⟨_, _, _, h2⟩
  · rw [show tkBad s false 4 = true from h1] at h; cases h
  · exact h2
theorem minus_lt {n : Nat} (h : n < 4294967296) : minus n = n ∨ (minus n = -1 ∧ n = 4294967295) := by
  unfold minus; split
  · exact .inr ⟨rfl, by assumption⟩
  · exact .inl rfl
theorem minus_small {n : Nat} (h : n < 256) : minus n = n := by unfold minus; rw [if_neg (by omega)]
theorem beNat4 (s : List UInt8) (bad : Bool) : beNat (tkT s bad 4) < 4294967296 := by
  have h1 := beNat_lt (tkT s bad 4)
  have h2 := tkT_len s bad 4
  have : 256 ^ (tkT s bad 4).length ≤ 256 ^ 4 := Nat.pow_le_pow_right (by decide) (by omega)
  omega
theorem beNat1 (s : List UInt8) (bad : Bool) : beNat (tkT s bad 1) < 256 := by
  have h1 := beNat_lt (tkT s bad 1)
  have h2 := tkT_len s bad 1
  have : 256 ^ (tkT s bad 1).length ≤ 256 ^ 1 := Nat.pow_le_pow_right (by decide) (by omega)
  omega
theorem pFields_step (φ : Nat → Int) (l : List UInt8) (x : Rec × List UInt8) (j : Nat) (hj : j < l.length) : pFields φ (l.take (j + 1)) x = (pFields φ (l.take j) x).bind (pField φ l[j].toNat) := by
  rw [List.take_succ_eq_append_getElem hj]
  simp only [pFields, List.foldlM_append, List.foldlM_cons, List.foldlM_nil]
  cases List.foldlM (fun x c => pField φ c.toNat x) x (List.take j l) with
  | none => rfl
  | some y =>
    show ((pField φ l[j].toNat y).bind fun z => some z) = pField φ l[j].toNat y
    cases pField φ l[j].toNat y <;> rfl
theorem take_end {o : Option (Rec × List UInt8)} {s : List UInt8} {bad : Bool} {p : Rec} (h : Rel o s bad p) : o.bind pEnd = if bad = false ∧ s = [] ∧ mayB p = true then some p else none := by
  rcases h with ⟨rfl, rfl⟩ | ⟨rfl, rfl⟩
  · simp
  · simp [pEnd]
theorem fieldsB_len (k : Int) : (fieldsB k).length ≤ 3 := by
  unfold fieldsB
  repeat' split
  all_goals decide
/-! ### The page's order of the fields -/
def q0 (k : Int) (s : List UInt8) : Option (Rec × List UInt8) := some (rec0 k, s)
def qStep (φ : Nat → Int) (k : Int) (c : Nat) (o : Option (Rec × List UInt8)) : Option (Rec × List UInt8) := if hasB k c then o.bind (pField φ c) else o
theorem qStep_T {φ : Nat → Int} {k : Int} {c : Nat} {o : Option (Rec × List UInt8)} (h : hasB k c = true) : qStep φ k c o = o.bind (pField φ c) := by rw [qStep, h]; rfl
theorem qStep_F {φ : Nat → Int} {k : Int} {c : Nat} {o : Option (Rec × List UInt8)} (h : hasB k c = false) : qStep φ k c o = o := by rw [qStep, h]; rfl
def q5 (φ : Nat → Int) (k : Int) (s : List UInt8) : Option (Rec × List UInt8) := qStep φ k 115 (qStep φ k 108 (qStep φ k 100 (qStep φ k 110 (qStep φ k 105 (q0 k s)))))
theorem q5_eq (φ : Nat → Int) {k : Int} (h : 1 ≤ k ∧ k ≤ 8) (s : List UInt8) : pFields φ (fieldsB k) (rec0 k, s) = q5 φ k s := by
  have : k = 1 ∨ k = 2 ∨ k = 3 ∨ k = 4 ∨ k = 5 ∨ k = 6 ∨ k = 7 ∨ k = 8 := by omega
  have bs : ∀ o : Option (Rec × List UInt8), (o.bind fun z => some z) = o := fun o => by cases o <;> rfl
  rcases this with rfl | rfl | rfl | rfl | rfl | rfl | rfl | rfl <;>
    simp [pFields, q5, qStep, q0, fieldsB, hasB, bs, Option.bind_assoc]
theorem beNat_one (k : UInt8) : beNat [k] = k.toNat := by simp [beNat]
theorem takeSpec_kind {φ : Nat → Int} {k : UInt8} {s : List UInt8} (h : ¬ (1 ≤ (k.toNat : Int) ∧ (k.toNat : Int) ≤ 8)) : takeSpec φ (k :: s) = none := by
  have e : fieldsB (k.toNat : Int) = [] := by
    unfold fieldsB
    repeat' split
    all_goals first | rfl | (exfalso; omega)
  have hm : mayB (rec0 (k.toNat : Int)) = false := by
    have : kindBad (rec0 (k.toNat : Int)) = true := by
      have h' : ((k.toNat : Int) < 1) ∨ 8 < (k.toNat : Int) := by omega
      unfold kindBad; simp only [Bool.or_eq_true]; exact h'.imp decide_eq_true decide_eq_true
    simp [mayB, this]
  simp [takeSpec, e, pFields, pEnd, hm]
end Silo

namespace Go.Proofs.Ythlfolpcmcejkaa
open Go Go.Eng Go.RowKit Silo TryT

abbrev TX : TypeId := 31
abbrev TI : TypeId := 3
abbrev TSl : TypeId := 66
abbrev cellsX (p : Rec) (vl vs : Value) : List Value := [I p.kind, I p.id, St p.name, St p.digest, vl, vs]
abbrev flatL (l : List Int) : List Value := l.flatMap fun x => [I x]
abbrev flatS (l : List (Int × Int)) : List Value := l.flatMap fun x => [I x.1, I x.2]

/-- A reader and the record that is being taken. -/
structure XS (TR : TypeId) (K : Nat → Prop) (w0 w : World) (base bR bX : Nat) (s : List UInt8) (bad : Bool) (p : Rec) (vl vs : Value) : Prop where
  hK : Below base w0 w
  hBw : base ≤ w.heap.size
  hbR : base ≤ bR
  hbX : base ≤ bX
  ne : bR ≠ bX
  R : Blk w bR [St s, .bool bad] TR
  X : Blk w bX (cellsX p vl vs) TX
  L : Own w base TI 1 vl p.list.length (flatL p.list)
  S : Own w base TSl 2 vs p.slots.length (flatS p.slots)
  neL : ∀ k, vl.rowOf = some k → k ≠ bR ∧ k ≠ bX
  neS : ∀ k, vs.rowOf = some k → k ≠ bR ∧ k ≠ bX
  neLS : ∀ k, vl.rowOf = some k → vs.rowOf ≠ some k
  hF : ∀ k, K k → k < w0.heap.size ∧ w.heap[k]? = w0.heap[k]?
  hKR : ¬ K bR
  hKX : ¬ K bX
  hKL : ∀ k, vl.rowOf = some k → ¬ K k
  hKS : ∀ k, vs.rowOf = some k → ¬ K k
  okK : Go.Eng.Int64 p.kind
  okI : Go.Eng.Int64 p.id
  okN : p.name.length ≤ 1073741824
  okD : p.digest.length ≤ 1073741824
  okL : ∀ x ∈ p.list, Go.Eng.Int64 x
  okS : ∀ x ∈ p.slots, Go.Eng.Int64 x.1 ∧ Go.Eng.Int64 x.2

section
variable {TR : TypeId} {K : Nat → Prop} {w0 w w' w'' : World} {base bR bX : Nat} {s s' : List UInt8} {bad bad' : Bool} {p : Rec} {vl vs v' : Value}
theorem XS.up (h : XS TR K w0 w base bR bX s bad p vl vs) (hk : Below w.heap.size w w') : XS TR K w0 w' base bR bX s bad p vl vs :=
  { h with hK := h.hK.trans (hk.mono h.hBw), hBw := Nat.le_trans h.hBw hk.size, R := h.R.up hk, X := h.X.up hk, L := h.L.up hk, S := h.S.up hk
           hF := fun k hk' => ⟨(h.hF k hk').1, by rw [hk.block k (Nat.lt_of_lt_of_le (h.hF k hk').1 h.hK.size), (h.hF k hk').2]⟩ }
theorem XS.rd (h : XS TR K w0 w base bR bX s bad p vl vs) (hg : w.grownBy w' (some bR)) (hR : Blk w' bR [St s', .bool bad'] TR) : XS TR K w0 w' base bR bX s' bad' p vl vs :=
  have hb : Below base w w' := below_of_grown hg h.hBw (fun k e => by injection e with e; have := h.hbR; omega)
  { h with
    hK := h.hK.trans hb, hBw := Nat.le_trans h.hBw hb.size, R := hR
    X := h.X.grown hg (fun e => h.ne (by injection e))
    L := h.L.grown hg (fun k hk e => (h.neL k hk).1 (by injection e with e; exact e.symm))
    S := h.S.grown hg (fun k hk e => (h.neS k hk).1 (by injection e with e; exact e.symm))
    hF := fun k hk' => ⟨(h.hF k hk').1, by rw [hg.block k (Nat.lt_of_lt_of_le (h.hF k hk').1 h.hK.size) (fun e => by injection e with e; subst e; exact h.hKR hk'), (h.hF k hk').2]⟩ }
theorem XS.other {b : Nat} {cs : List Value} {T : TypeId} (h : XS TR K w0 w base bR bX s bad p vl vs) (hS : Stored w w' b cs T) (h1 : b ≠ bR) (h2 : b ≠ bX) (h3 : ∀ k, vl.rowOf = some k → k ≠ b) (h4 : ∀ k, vs.rowOf = some k → k ≠ b) (h5 : base ≤ b) (h6 : ¬ K b) : XS TR K w0 w' base bR bX s bad p vl vs :=
  have hb : Below base w w' := Blk.store_below hS h5 h.hBw
  { h with
    hK := h.hK.trans hb, hBw := Nat.le_trans h.hBw hb.size
    R := h.R.grown hS.grown (fun e => h1 (by injection e))
    X := h.X.grown hS.grown (fun e => h2 (by injection e))
    L := h.L.grown hS.grown (fun k hk e => h3 k hk (by injection e with e; exact e.symm))
    S := h.S.grown hS.grown (fun k hk e => h4 k hk (by injection e with e; exact e.symm))
    hF := fun k hk' => ⟨(h.hF k hk').1, by rw [hS.grown.block k (Nat.lt_of_lt_of_le (h.hF k hk').1 h.hK.size) (fun e => by injection e with e; subst e; exact h6 hk'), (h.hF k hk').2]⟩ }
theorem XS.upd {p' : Rec} (h : XS TR K w0 w base bR bX s bad p vl vs) (hS : Stored w w' bX (cellsX p' vl vs) TX) (hl : p'.list = p.list) (hs : p'.slots = p.slots) (hi : Go.Eng.Int64 p'.id) (hk : Go.Eng.Int64 p'.kind)
    (hn : p'.name.length ≤ 1073741824) (hd : p'.digest.length ≤ 1073741824) : XS TR K w0 w' base bR bX s bad p' vl vs :=
  have hb : Below base w w' := Blk.store_below hS h.hbX h.hBw
  { hK := h.hK.trans hb, hBw := Nat.le_trans h.hBw hb.size, hbR := h.hbR, hbX := h.hbX, ne := h.ne
    R := h.R.grown hS.grown (fun e => h.ne (by injection e with e; exact e.symm)), X := hS.blk
    L := by rw [hl]; exact h.L.grown hS.grown (fun k hk e => (h.neL k hk).2 (by injection e with e; exact e.symm))
    S := by rw [hs]; exact h.S.grown hS.grown (fun k hk e => (h.neS k hk).2 (by injection e with e; exact e.symm))
    hF := fun k hk' => ⟨(h.hF k hk').1, by rw [hS.grown.block k (Nat.lt_of_lt_of_le (h.hF k hk').1 h.hK.size) (fun e => by injection e with e; subst e; exact h.hKX hk'), (h.hF k hk').2]⟩
    hKR := h.hKR, hKX := h.hKX, hKL := h.hKL, hKS := h.hKS
    neL := h.neL, neS := h.neS, neLS := h.neLS, okK := hk, okI := hi, okN := hn, okD := hd, okL := by rw [hl]; exact h.okL, okS := by rw [hs]; exact h.okS }
theorem XS.appL {x : Int} (h : XS TR K w0 w base bR bX s bad p vl vs) (hA : App w w' base TI 1 vl v' (p.list.length + 1) (flatL p.list ++ [I x])) (hS : Stored w' w'' bX (cellsX p v' vs) TX) (hx : Go.Eng.Int64 x) :
    XS TR K w0 w'' base bR bX s bad { p with list := p.list ++ [x] } v' vs :=
  have hb1 : Below base w w' := below_of_grown hA.grown h.hBw (fun k hk => (h.L.lt k hk).1)
  have hb2 : Below base w' w'' := Blk.store_below hS h.hbX (Nat.le_trans h.hBw hb1.size)
  have hrow : ∀ k, v'.rowOf = some k → vl.rowOf = some k ∨ k = w.heap.size := fun k hk => by
    rcases hA.at_ with e | e
    · exact .inl (e ▸ hk)
    · rw [hk] at e; injection e with e; exact .inr e
  have hR := h.R.lt
  have hX := h.X.lt
  { h with
    hK := (h.hK.trans hb1).trans hb2, hBw := Nat.le_trans h.hBw (Nat.le_trans hb1.size hb2.size)
    R := (h.R.grown hA.grown (fun e => (h.neL bR e).1 rfl)).grown hS.grown (fun e => h.ne (by injection e with e; exact e.symm))
    X := hS.blk
    L := by
      have hL : Own w'' base TI 1 v' (p.list.length + 1) (flatL p.list ++ [I x]) := hA.own.grown hS.grown (fun k hk e => by
        injection e with e
        rcases hrow k hk with h1 | h1
        · exact (h.neL k h1).2 e.symm
        · omega)
      simpa [flatL] using hL
    S := (h.S.grown hA.grown (fun k hk e => h.neLS k e hk)).grown hS.grown (fun k hk e => (h.neS k hk).2 (by injection e with e; exact e.symm))
    neL := fun k hk => by
      rcases hrow k hk with h1 | h1
      · exact h.neL k h1
      · exact ⟨by omega, by omega⟩
    neLS := fun k hk e => by
      rcases hrow k hk with h1 | h1
      · exact h.neLS k h1 e
      · have := (h.S.lt k e).2; omega
    hF := fun k hk' => ⟨(h.hF k hk').1, by
      have hlt := Nat.lt_of_lt_of_le (h.hF k hk').1 h.hK.size
      rw [hS.grown.block k (Nat.lt_of_lt_of_le hlt hb1.size) (fun e => by injection e with e; subst e; exact h.hKX hk'), hA.grown.block k hlt (fun e => h.hKL k e.symm hk'), (h.hF k hk').2]⟩
    hKL := fun k hk => by
      rcases hrow k hk with h1 | h1
      · exact h.hKL k h1
      · intro hk'; have := (h.hF k hk').1; have := h.hK.size; omega
    okL := fun y hy => by
      rcases List.mem_append.1 hy with hy | hy
      · exact h.okL y hy
      · rw [List.mem_singleton.1 hy]; exact hx }
theorem XS.appS {x : Int × Int} (h : XS TR K w0 w base bR bX s bad p vl vs) (hA : App w w' base TSl 2 vs v' (p.slots.length + 1) (flatS p.slots ++ [I x.1, I x.2])) (hS : Stored w' w'' bX (cellsX p vl v') TX) (hx : Go.Eng.Int64 x.1 ∧ Go.Eng.Int64 x.2) :
    XS TR K w0 w'' base bR bX s bad { p with slots := p.slots ++ [x] } vl v' :=
  have hb1 : Below base w w' := below_of_grown hA.grown h.hBw (fun k hk => (h.S.lt k hk).1)
  have hb2 : Below base w' w'' := Blk.store_below hS h.hbX (Nat.le_trans h.hBw hb1.size)
  have hrow : ∀ k, v'.rowOf = some k → vs.rowOf = some k ∨ k = w.heap.size := fun k hk => by
    rcases hA.at_ with e | e
    · exact .inl (e ▸ hk)
    · rw [hk] at e; injection e with e; exact .inr e
  have hR := h.R.lt
  have hX := h.X.lt
  { h with
    hK := (h.hK.trans hb1).trans hb2, hBw := Nat.le_trans h.hBw (Nat.le_trans hb1.size hb2.size)
    R := (h.R.grown hA.grown (fun e => (h.neS bR e).1 rfl)).grown hS.grown (fun e => h.ne (by injection e with e; exact e.symm))
    X := hS.blk
    S := by
      have hL : Own w'' base TSl 2 v' (p.slots.length + 1) (flatS p.slots ++ [I x.1, I x.2]) := hA.own.grown hS.grown (fun k hk e => by
        injection e with e
        rcases hrow k hk with h1 | h1
        · exact (h.neS k h1).2 e.symm
        · omega)
      simpa [flatS] using hL
    L := (h.L.grown hA.grown (fun k hk e => h.neLS k hk e)).grown hS.grown (fun k hk e => (h.neL k hk).2 (by injection e with e; exact e.symm))
    neS := fun k hk => by
      rcases hrow k hk with h1 | h1
      · exact h.neS k h1
      · exact ⟨by omega, by omega⟩
    neLS := fun k hk e => by
      rcases hrow k e with h1 | h1
      · exact h.neLS k hk h1
      · have := (h.L.lt k hk).2; omega
    hF := fun k hk' => ⟨(h.hF k hk').1, by
      have hlt := Nat.lt_of_lt_of_le (h.hF k hk').1 h.hK.size
      rw [hS.grown.block k (Nat.lt_of_lt_of_le hlt hb1.size) (fun e => by injection e with e; subst e; exact h.hKX hk'), hA.grown.block k hlt (fun e => h.hKS k e.symm hk'), (h.hF k hk').2]⟩
    hKS := fun k hk => by
      rcases hrow k hk with h1 | h1
      · exact h.hKS k h1
      · intro hk'; have := (h.hF k hk').1; have := h.hK.size; omega
    okS := fun y hy => by
      rcases List.mem_append.1 hy with hy | hy
      · exact h.okS y hy
      · rw [List.mem_singleton.1 hy]; exact hx }
/-- After a change at one other block: the same, from the new world on, that block to be kept. -/
theorem XS.step {b : Nat} (h : XS TR K w0 w base bR bX s bad p vl vs) (hg : w.grownBy w' (some b)) (hb : b < w.heap.size) (h1 : b ≠ bR) (h2 : b ≠ bX) (h3 : ∀ k, vl.rowOf = some k → k ≠ b) (h4 : ∀ k, vs.rowOf = some k → k ≠ b) (h5 : base ≤ b) : XS TR (fun k => k = b) w' w' base bR bX s bad p vl vs :=
  have hbl : Below base w w' := below_of_grown hg h.hBw (fun k e => by injection e with e; omega)
  { h with
    hK := Below.refl _ _, hBw := Nat.le_trans h.hBw hbl.size
    R := h.R.grown hg (fun e => h1 (by injection e))
    X := h.X.grown hg (fun e => h2 (by injection e))
    L := h.L.grown hg (fun k hk e => h3 k hk (by injection e with e; exact e.symm))
    S := h.S.grown hg (fun k hk e => h4 k hk (by injection e with e; exact e.symm))
    hF := fun k hk => ⟨by rw [hk]; exact Nat.lt_of_lt_of_le hb hbl.size, rfl⟩
    hKR := fun e => h1 e.symm, hKX := fun e => h2 e.symm, hKL := h3, hKS := h4 }
theorem XS.rdRec (h : XS TR K w0 w base bR bX s bad p vl vs) (h1 : p.list.length ≤ 140737488355328) (h2 : p.slots.length ≤ 140737488355328) : RdRec w (cellsX p vl vs) p :=
  ⟨vl, vs, rfl, h.L.rdInts h.okL h1, rdSlots h.S h.okS h2, h.okK, h.okI, by have := h.okN; omega, by have := h.okD; omega⟩
theorem XS.mk0 {k : Int} (hBw : base ≤ w.heap.size) (hbR : base ≤ bR) (hbX : base ≤ bX) (ne : bR ≠ bX) (R : Blk w bR [St s, .bool bad] TR) (X : Blk w bX [I k, I 0, St [], St [], .slice none 0 0, .slice none 0 0] TX) (hk : Go.Eng.Int64 k) :
    XS TR (fun _ => False) w w base bR bX s bad (rec0 k) (.slice none 0 0) (.slice none 0 0) :=
  { hK := Below.refl _ _, hBw := hBw, hbR := hbR, hbX := hbX, ne := ne, R := R, X := X, L := Own.nil _ _ _ _, S := Own.nil _ _ _ _
    neL := fun k hk => by simp [Value.rowOf] at hk
    neS := fun k hk => by simp [Value.rowOf] at hk
    neLS := fun k hk => by simp [Value.rowOf] at hk
    hF := fun k hk => hk.elim, hKR := id, hKX := id
    hKL := fun k hk => by simp [Value.rowOf] at hk
    hKS := fun k hk => by simp [Value.rowOf] at hk
    okK := hk, okI := ⟨by simp [rec0], by simp [rec0]⟩, okN := by simp [rec0], okD := by simp [rec0], okL := by simp [rec0], okS := by simp [rec0] }
end
end Go.Proofs.Ythlfolpcmcejkaa

namespace Go.Proofs.Ythlfolpcmcejkaa
open Go Go.Eng Go.RowKit Silo TryT

theorem minus_i64 {n : Nat} (h : n < 4294967296) : Go.Eng.Int64 (minus n) := by
  rcases minus_lt h with e | ⟨e, _⟩
  · rw [e]; exact ⟨by omega, by omega⟩
  · rw [e]; exact ⟨by decide, by decide⟩

theorem taken_ok {K : Nat → Prop} {w : World} {base bR bX : Nat} {s : List UInt8} {bad : Bool} {p : Rec} {vl vs : Value} {o : Option (Rec × List UInt8)} {L m c : Nat} (h : XS 72 K w w base bR bX s bad p vl vs) (hr : Rel o s bad p)
    (hL : s.length ≤ L) (hLb : L ≤ 1073741824) (hm1 : p.list.length ≤ m) (hm2 : p.slots.length ≤ m) (hmb : m ≤ 17179869184) :
    Calls Try.prog 51 #[.pointer (some ⟨bR, 0, none⟩), .pointer (some ⟨bX, 0, none⟩), .int .i32 c] w (Ret fun _ w' => ∃ s' bad' p' vl' vs', XS 72 K w w' base bR bX s' bad' p' vl' vs' ∧ Rel (o.bind (pField minus c)) s' bad' p' ∧ s'.length ≤ L ∧ p'.list.length ≤ m + L + 1 ∧ p'.slots.length ≤ m + L + 1) := by
  refine enter (n := 90) (res := #[]) Try.func51 rfl rfl rfl rfl ?_
  refine cseq <| cg <| zm rfl <| cnil <| cblock <| cseq <| cg <| vq (Val.eql rfl rfl) <| za rfl ?_
  refine cnil ?_
  refine WC.cond rfl (fun hc1 => ?_) (fun hc1 => ?_)
  ·try simp only [tstS] at hc1
   obtain rfl : c = 105 := by omega
   refine cg <| zm rfl <| zm rfl ?_
   refine ve (Eff.call pf64 rfl (pnumber_ok h.R 4 (by decide) (by decide) (by omega))) ?_
   rintro _ w1 ⟨hg, rfl, hR⟩
   replace h := h.rd hg hR
   refine vq (Val.nilCheck rfl) ?_
   first | refine vq (Val.fieldAddr fld31_1 rfl) ?_ | refine vq (Val.fieldAddrP fld31_1 rfl) ?_
   refine WR.eff_ (Eff.storeB scl3 rfl rfl rfl rfl h.X rfl) ?_
   rintro _ w2 hS
   have h2 := h.upd (p' := { p with id := minus (beNat (tkT s bad 4)) }) hS rfl rfl (minus_i64 (beNat4 _ _)) h.okK h.okN h.okD
   refine cnil ?_
   refine ⟨_, _, rfl, rfl, ?_⟩
   exact ⟨rfl, _, _, _, _, _, h2, rel_id hr, Nat.le_trans (tkS_len _ _ _) hL, by simp; omega, by simp; omega⟩
  ·try simp only [tstS] at hc1
   refine cseq <| cg <| vq (Val.eql rfl rfl) <| za rfl <| cnil ?_
   refine WC.cond rfl (fun hc3 => ?_) (fun hc3 => ?_)
   ·try simp only [tstS] at hc3
    obtain rfl : c = 110 := by omega
    refine cg <| zm rfl <| zm rfl <| zm rfl ?_
    refine ve (Eff.call pf64 rfl (pnumber_ok h.R 1 (by decide) (by decide) (by omega))) ?_
    rintro _ w1 ⟨hg, rfl, hR⟩
    replace h := h.rd hg hR
    have hl1 := tkS_len s bad 1
    rw [minus_small (beNat1 s bad)]
    refine ve (Eff.call pf65 rfl (ptake_ok h.R _ (by omega) (by omega))) ?_
    rintro _ w2 ⟨hg, rfl, hR⟩
    replace h := h.rd hg hR
    have hl2 := tkS_len (tkS s bad 1) (tkBad s bad 1) (beNat (tkT s bad 1))
    have hl3 := tkT_len2 (tkS s bad 1) (tkBad s bad 1) (beNat (tkT s bad 1))
    refine vq (Val.nilCheck rfl) ?_
    first | refine vq (Val.fieldAddr fld31_2 rfl) ?_ | refine vq (Val.fieldAddrP fld31_2 rfl) ?_
    refine WR.eff_ (Eff.storeB scl9 rfl rfl rfl rfl h.X rfl) ?_
    rintro _ w3 hS
    have h2 := h.upd (p' := { p with name := tkT (tkS s bad 1) (tkBad s bad 1) (beNat (tkT s bad 1)) }) hS rfl rfl h.okI h.okK (by simp; omega) h.okD
    refine cnil ?_
    refine ⟨_, _, rfl, rfl, ?_⟩
    exact ⟨rfl, _, _, _, _, _, h2, rel_name hr, by omega, by simp; omega, by simp; omega⟩
   ·try simp only [tstS] at hc3
    refine cseq <| cg <| vq (Val.eql rfl rfl) <| za rfl <| cnil ?_
    refine WC.cond rfl (fun hc5 => ?_) (fun hc5 => ?_)
    ·try simp only [tstS] at hc5
     obtain rfl : c = 100 := by omega
     refine cg <| zm rfl <| zm rfl ?_
     refine ve (Eff.call pf65 rfl (ptake_ok h.R 32 (by decide) (by omega))) ?_
     rintro _ w1 ⟨hg, rfl, hR⟩
     replace h := h.rd hg hR
     have hl2 := tkS_len s bad 32
     have hl3 := tkT_len2 s bad 32
     refine vq (Val.nilCheck rfl) ?_
     first | refine vq (Val.fieldAddr fld31_3 rfl) ?_ | refine vq (Val.fieldAddrP fld31_3 rfl) ?_
     refine WR.eff_ (Eff.storeB scl9 rfl rfl rfl rfl h.X rfl) ?_
     rintro _ w2 hS
     have h2 := h.upd (p' := { p with digest := tkT s bad 32 }) hS rfl rfl h.okI h.okK h.okN (by simp; omega)
     refine cnil ?_
     refine ⟨_, _, rfl, rfl, ?_⟩
     exact ⟨rfl, _, _, _, _, _, h2, rel_dig hr, by omega, by simp; omega, by simp; omega⟩
    ·try simp only [tstS] at hc5
     refine cseq <| cg <| vq (Val.eql rfl rfl) <| za rfl <| cnil ?_
     refine WC.cond rfl (fun hc7 => ?_) (fun hc7 => ?_)
     ·try simp only [tstS] at hc7
      obtain rfl : c = 108 := by omega
      refine cseq <| cg <| zm rfl ?_
      refine ve (Eff.call pf64 rfl (pnumber_ok h.R 4 (by decide) (by decide) (by omega))) ?_
      rintro _ w1 ⟨hg, rfl, hR⟩
      replace h := h.rd hg hR
      have hl2 := tkS_len s bad 4
      have hb4 := beNat4 s bad
      refine za rfl <| cnil <| cblock ?_
      have hj0 := lj_init (φ := minus) hr
      generalize o.bind (pField minus 108) = T at hj0 ⊢
      refine WC.loop (σ := Int × Nat × List UInt8 × Bool × Rec × Value) (fun st => [(0, .pointer (some ⟨bR, 0, none⟩)), (1, .pointer (some ⟨bX, 0, none⟩)), (6, I st.1)]) (fun st w' => XS 72 K w w' base bR bX st.2.2.1 st.2.2.2.1 st.2.2.2.2.1 st.2.2.2.2.2 vs ∧ LJ minus T st.2.1 st.2.2.1 st.2.2.2.1 st.2.2.2.2.1 ∧ (st.2.2.2.1 = false → (st.1 = st.2.1 ∨ (st.1 < 0 ∧ st.2.2.1.length < 4 * st.2.1)) ∧ -1 - (L : Int) + st.2.2.1.length ≤ st.1 ∧ st.2.2.2.2.1.list.length + st.2.2.1.length ≤ m + L) ∧ st.1 ≤ 4294967295 ∧ st.2.2.1.length ≤ L ∧ st.2.2.2.2.1.list.length ≤ m + L + 1 ∧ st.2.2.2.2.1.slots.length ≤ m) (fun st => bif st.2.2.2.1 then 0 else st.2.2.1.length + 1) (minus (beNat (tkT s bad 4)), beNat (tkT s bad 4), tkS s bad 4, tkBad s bad 4, p, vl) subs ⟨h, hj0, fun _ => by rcases minus_lt hb4 with e | ⟨e, e'⟩ <;> (refine ⟨?_, ?_, ?_⟩ <;> (dsimp only; omega)), by rcases minus_lt hb4 with e | ⟨e, e'⟩ <;> (dsimp only; omega), by dsimp only; omega, by dsimp only; omega, hm2⟩ ?_
      clear h hr hL hl2 hb4 hj0 hm1 hm2 hR hg s bad p vl
      rintro ⟨n, N, s, bad, p, vl⟩ wl ⟨h, hj, hJ, hn, hL, hm1, hm2⟩
      dsimp only at h hj hJ hn hL hm1 hm2 ⊢
      have hbR := h.R
      refine cseq <| cseq ?_
      skip
      refine cg <| zm rfl <| vq (Val.neq rfl rfl) <| zm rfl ?_
      apply WR.sc true 5 _ (fun w' => wl = w')
      case hl | hg | hu | hv | hs | hoff | hd => rfl
      case hF => exact fun _ => rfl
      case hT =>
       intro hq8
       try simp only [tstS] at hq8
       simp only [List.take_succ_cons, List.take_zero]
       refine WR.on rfl rfl ?_
       refine zm rfl ?_
       refine WR.on rfl rfl ?_
       refine vq (Val.nilCheck rfl) ?_
       refine WR.on rfl rfl ?_
       refine vq (Val.fieldAddr fld72_1 rfl) ?_
       refine WR.on rfl rfl ?_
       refine vq (Val.loadB scl4 rfl hbR rfl) ?_
       refine WR.on rfl rfl ?_
       refine vq (Val.not rfl) ?_
       exact WR.nil ⟨rfl, Sub.drop _ 5 _ rfl rfl, rfl⟩
      rintro _ rfl
      refine cnil ?_
      refine WC.cond rfl (fun hc9 => ?_) (fun hc9 => ?_)
      ·try simp only [tstS] at hc9
       obtain ⟨hn0, hb0⟩ := hc9
       subst hb0
       obtain ⟨hJ1, hJ2, hJ3⟩ := hJ rfl
       clear hbR
       refine cskip <| cseq <| cblock ?_
       refine WC.regionD (fun W => Blk W bX (cellsX p vl vs) TX) [0, 0, 0, 0, 1, 0, 2, 2, 2, 0, 0, 3] [0, 1, 2, 3, 4, 5, 6, 7, 8, 9, 10, 11] mixed (by kernel_rfl) ?_
       replace h := h.up (Below.refl _ _).drew
       have hC := h.X
       generalize wl.drew = wd at h hC ⊢
       refine zdm rfl rfl <| zdm rfl rfl <| vd rfl (fun _ => Val.nilCheck rfl) <| vd rfl (fun _ => Val.fieldAddr fld31_4 rfl) <| qc rfl rfl rfl hC (fun W hW => Val.loadB scl24 rfl hW rfl) rfl <| zdm rfl rfl ?_
       refine WD.eff rfl rfl rfl (Eff.call pf64 rfl (pnumber_ok h.R 4 (by decide) (by decide) (by omega))) rfl ?_
       rintro _ wn ⟨hg, rfl, hR⟩
       refine ⟨fun hC => hC.grown hg (fun e => h.ne (by injection e)), ?_⟩
       replace h := h.rd hg hR
       refine WD.eff rfl rfl rfl (Eff.build1 sl24 rfl rfl rfl rfl rfl) rfl ?_
       rintro _ wb ⟨b55, rfl, hnb⟩
       refine ⟨fun hC => hC.up hnb.below, ?_⟩
       replace h := h.up hnb.below
       refine WD.eff rfl rfl rfl (Eff.append sl24 rfl rfl h.L (Src.cellsAt Try.underlying24 hnb.blk.cellsAt rfl ones) (by rw [maxLen_eq]; omega) (by omega) h.hBw) rfl ?_
       intro v56 wa hA
       refine ⟨fun hC => hC.grown hA.grown (fun e => (h.neL bX e).2 rfl), ?_⟩
       have hXa := h.X.grown hA.grown (fun e => (h.neL bX e).2 rfl)
       refine vd rfl (fun _ => Val.nilCheck rfl) <| vd rfl (fun _ => Val.fieldAddr fld31_4 rfl) ?_
       refine WD.wild rfl rfl rfl (Eff.storeB scl24 rfl rfl hA.own.cellsV hA.own.oneC hXa rfl) ?_
       rintro _ ws hS
       have h2 := h.appL (x := minus (beNat (tkT s false 4))) hA hS (minus_i64 (beNat4 _ _))
       refine WD.nil ?_
       refine cg <| zm rfl <| vq (Val.subI rfl rfl side side) <| za rfl <| cnil ?_
       obtain ⟨M, rfl⟩ : ∃ M, N = M + 1 := ⟨N - 1, by omega⟩
       have hl2 := tkS_len s false 4
       refine ⟨(n - 1, M, tkS s false 4, tkBad s false 4, { p with list := p.list ++ [minus (beNat (tkT s false 4))] }, v56), subs, ⟨h2, lj_step hj, ?_, ?_, ?_, ?_, ?_⟩, ?_⟩
       · intro hb; have := tk4_len hb; dsimp only at hb ⊢; simp only [List.length_append, List.length_singleton]; omega
       · dsimp only; omega
       · dsimp only; omega
       · dsimp only; simp only [List.length_append, List.length_singleton]; omega
       · exact hm2
       · cases e : tkBad s false 4
         · have := tk4_len e; simp only [e, cond_false]; omega
         · simp only [e, cond_true, cond_false]; omega
      ·try simp only [tstS] at hc9
       refine WC.exit rfl ?_
       refine ⟨_, _, rfl, rfl, ?_⟩
       rw [Bool.and_eq_false_iff] at hc9
       simp only [Bool.not_eq_false', decide_eq_false_iff_not] at hc9
       exact ⟨rfl, _, _, _, _, _, h, lj_exit hj (fun hb => by subst hb; have := hJ rfl; simp at hc9; omega), hL, hm1, by omega⟩
     ·try simp only [tstS] at hc7
      refine cseq <| cg <| vq (Val.eql rfl rfl) <| za rfl <| cnil ?_
      refine WC.cond rfl (fun hc12 => ?_) (fun hc12 => ?_)
      ·try simp only [tstS] at hc12
       obtain rfl : c = 115 := by omega
       refine cseq <| cg <| zm rfl ?_
       refine ve (Eff.call pf64 rfl (pnumber_ok h.R 1 (by decide) (by decide) (by omega))) ?_
       rintro _ w1 ⟨hg, rfl, hR⟩
       replace h := h.rd hg hR
       have hl2 := tkS_len s bad 1
       have hb4 := beNat1 s bad
       rw [minus_small hb4]
       refine za rfl <| cnil <| cblock ?_
       have hj0 := sj_init (φ := minus) hr
       generalize o.bind (pField minus 115) = T at hj0 ⊢
       refine WC.loop (σ := Nat × List UInt8 × Bool × Rec × Value) (fun st => [(0, .pointer (some ⟨bR, 0, none⟩)), (1, .pointer (some ⟨bX, 0, none⟩)), (7, I st.1)]) (fun st w' => XS 72 K w w' base bR bX st.2.1 st.2.2.1 st.2.2.2.1 vl st.2.2.2.2 ∧ SJ minus T st.1 st.2.1 st.2.2.1 st.2.2.2.1 ∧ st.1 ≤ 255 ∧ st.2.1.length ≤ L ∧ st.2.2.2.1.slots.length + st.1 ≤ m + 255 ∧ st.2.2.2.1.list.length ≤ m ∧ (st.2.2.1 = false → st.2.2.2.1.slots.length + st.2.1.length ≤ m + L) ∧ st.2.2.2.1.slots.length ≤ m + L + 1) (fun st => st.1) (beNat (tkT s bad 1), tkS s bad 1, tkBad s bad 1, p, vs) subs ⟨h, hj0, by dsimp only; omega, by dsimp only; omega, by dsimp only; omega, hm1, fun _ => by dsimp only; omega, by dsimp only; omega⟩ ?_
       clear h hr hL hl2 hb4 hj0 hm1 hm2 hR hg s bad p vs
       rintro ⟨N, s, bad, p, vs⟩ wl ⟨h, hj, hn, hL, hm2, hm1, hJ, hm3⟩
       dsimp only at h hj hn hL hm1 hm2 hJ hm3 ⊢
       have hbR := h.R
       refine cseq <| cseq ?_
       skip
       refine cg <| zm rfl <| vq (Val.gtr rfl rfl) <| zm rfl ?_
       apply WR.sc true 5 _ (fun w' => wl = w')
       case hl | hg | hu | hv | hs | hoff | hd => rfl
       case hF => exact fun _ => rfl
       case hT =>
        intro hq8
        try simp only [tstS] at hq8
        simp only [List.take_succ_cons, List.take_zero]
        refine WR.on rfl rfl ?_
        refine zm rfl ?_
        refine WR.on rfl rfl ?_
        refine vq (Val.nilCheck rfl) ?_
        refine WR.on rfl rfl ?_
        refine vq (Val.fieldAddr fld72_1 rfl) ?_
        refine WR.on rfl rfl ?_
        refine vq (Val.loadB scl4 rfl hbR rfl) ?_
        refine WR.on rfl rfl ?_
        refine vq (Val.not rfl) ?_
        exact WR.nil ⟨rfl, Sub.drop _ 5 _ rfl rfl, rfl⟩
       rintro _ rfl
       refine cnil ?_
       refine WC.cond rfl (fun hc14 => ?_) (fun hc14 => ?_)
       ·try simp only [tstS] at hc14
        obtain ⟨hn0, hb0⟩ := hc14
        subst hb0
        replace hJ := hJ rfl
        clear hbR
        have hl2 := tkS_len s false 4
        have hl3 := tkS_len (tkS s false 4) (tkBad s false 4) 4
        refine cskip <| cseq <| cblock <| cseq <| cg <| zm rfl ?_
        refine ve (Eff.call pf64 rfl (pnumber_ok h.R 4 (by decide) (by decide) (by omega))) ?_
        rintro _ w5 ⟨hg, rfl, hR⟩
        replace h := h.rd hg hR
        refine vq (Val.build (cells := #[I (minus (beNat (tkT s false 4))), I 0]) rfl (by kernel_rfl)) ?_
        refine ve (Eff.alloc zero66) ?_
        rintro _ w6 ⟨b8, rfl, hn8⟩
        have hRlt := h.R.lt
        have hXlt := h.X.lt
        have hbse := h.hbR
        have h8e := hn8.at_
        have h8L : ∀ k, vl.rowOf = some k → k ≠ b8 := fun k hk => by have := (h.L.lt k hk).2; omega
        have h8S : ∀ k, vs.rowOf = some k → k ≠ b8 := fun k hk => by have := (h.S.lt k hk).2; omega
        have h8K : ¬ K b8 := fun hk => by have := (h.hF b8 hk).1; have := h.hK.size; omega
        replace h := h.up hn8.below
        have hb8 := hn8.blk
        refine WR.eff_ (Eff.storeBN agg66 rfl rfl hb8 rfl rfl ones) ?_
        intro _ w7 hS7
        replace h := h.other hS7 (by omega) (by omega) (fun k hk e => h8L k hk e) (fun k hk e => h8S k hk e) (by omega) h8K
        replace hb8 := hS7.blk
        refine cnil <| cseq <| cg <| zm rfl ?_
        refine ve (Eff.call pf64 rfl (pnumber_ok h.R 4 (by decide) (by decide) (by omega))) ?_
        rintro _ w8 ⟨hg, rfl, hR⟩
        replace hb8 := hb8.grown hg (fun e => by injection e with e; omega)
        replace h := h.rd hg hR
        refine vq (Val.fieldAddr fld66_1 rfl) ?_
        refine WR.eff_ (Eff.storeB scl3 rfl rfl rfl rfl hb8 rfl) ?_
        rintro _ w9 hS9
        replace h := h.other hS9 (by omega) (by omega) (fun k hk e => h8L k hk e) (fun k hk e => h8S k hk e) (by omega) h8K
        replace hb8 : Blk w9 b8 [I (minus (beNat (tkT s false 4))), I (minus (beNat (tkT (tkS s false 4) (tkBad s false 4) 4)))] 66 := hS9.blk
        refine cnil ?_
        refine WC.regionD (fun W => Blk W bX (cellsX p vl vs) TX ∧ Blk W b8 [I (minus (beNat (tkT s false 4))), I (minus (beNat (tkT (tkS s false 4) (tkBad s false 4) 4)))] 66) [0, 0, 0, 0, 1, 1, 2, 2, 0, 0, 3] [0, 1, 2, 3, 4, 5, 6, 7, 8, 9, 10] mixed (by kernel_rfl) ?_
        replace h := h.up (Below.refl _ _).drew
        replace hb8 := hb8.up (Below.refl _ _).drew
        have hC := And.intro h.X hb8
        generalize w9.drew = wd at h hb8 hC ⊢
        refine zdm rfl rfl <| zdm rfl rfl <| vd rfl (fun _ => Val.nilCheck rfl) <| vd rfl (fun _ => Val.fieldAddr fld31_5 rfl) <| qc rfl rfl rfl hC (fun W hW => Val.loadB scl29 rfl hW.1 rfl) rfl <| qc rfl rfl rfl hC (fun W hW => Val.loadBN agg66 rfl hW.2 rfl) rfl ?_
        refine WD.eff rfl rfl rfl (Eff.build1 sl29 rfl rfl rfl rfl rfl) rfl ?_
        rintro _ wb ⟨b55, rfl, hnb⟩
        refine ⟨fun hC => ⟨hC.1.up hnb.below, hC.2.up hnb.below⟩, ?_⟩
        replace h := h.up hnb.below
        refine WD.eff rfl rfl rfl (Eff.append sl29 rfl rfl h.S (Src.cellsAt Try.underlying29 hnb.blk.cellsAt rfl ones) (by rw [maxLen_eq]; omega) (by omega) h.hBw) rfl ?_
        intro v56 wa hA
        refine ⟨fun hC => ⟨hC.1.grown hA.grown (fun e => (h.neS bX e).2 rfl), hC.2.grown hA.grown (fun e => h8S b8 e rfl)⟩, ?_⟩
        have hXa := h.X.grown hA.grown (fun e => (h.neS bX e).2 rfl)
        refine vd rfl (fun _ => Val.nilCheck rfl) <| vd rfl (fun _ => Val.fieldAddr fld31_5 rfl) ?_
        refine WD.wild rfl rfl rfl (Eff.storeB scl29 rfl rfl hA.own.cellsV hA.own.oneC hXa rfl) ?_
        rintro _ ws hS
        have h2 := h.appS (x := (minus (beNat (tkT s false 4)), minus (beNat (tkT (tkS s false 4) (tkBad s false 4) 4)))) hA hS ⟨minus_i64 (beNat4 _ _), minus_i64 (beNat4 _ _)⟩
        refine WD.nil ?_
        refine cg <| zm rfl <| vq (Val.subI rfl rfl side side) <| za rfl <| cnil ?_
        obtain ⟨M, rfl⟩ : ∃ M, N = M + 1 := ⟨N - 1, by omega⟩
        rw [show ((M + 1 : Nat) : Int) - 1 = (M : Int) by omega]
        refine ⟨(M, tkS (tkS s false 4) (tkBad s false 4) 4, tkBad (tkS s false 4) (tkBad s false 4) 4, { p with slots := p.slots ++ [(minus (beNat (tkT s false 4)), minus (beNat (tkT (tkS s false 4) (tkBad s false 4) 4)))] }, v56), subs, ⟨h2, sj_step hj, ?_, ?_, ?_, ?_, ?_, ?_⟩, ?_⟩
        · dsimp only; omega
        · dsimp only; omega
        · dsimp only; simp only [List.length_append, List.length_singleton]; omega
        · exact hm1
        · intro hb
          dsimp only at hb ⊢
          simp only [List.length_append, List.length_singleton]
          have e1 : tkBad s false 4 = false := by
            cases e : tkBad s false 4
            · rfl
            · rw [e] at hb; cases hb
          have := tk4_len e1; omega
        · dsimp only; simp only [List.length_append, List.length_singleton]; omega
        · dsimp only; omega
       ·try simp only [tstS] at hc14
        refine WC.exit rfl ?_
        refine ⟨_, _, rfl, rfl, ?_⟩
        rw [Bool.and_eq_false_iff] at hc14
        simp only [Bool.not_eq_false', decide_eq_false_iff_not] at hc14
        exact ⟨rfl, _, _, _, _, _, h, sj_exit hj (fun hb => by subst hb; simp at hc14; omega), hL, by omega, hm3⟩
      ·try simp only [tstS] at hc12
       refine cskip ?_
       refine ⟨_, _, rfl, rfl, ?_⟩
       have e : pField minus c = fun x => some x := by
         funext x; unfold pField; split <;> first | rfl | omega
       exact ⟨rfl, _, _, _, _, _, h, by rw [e]; cases o <;> exact hr, hL, by omega, by omega⟩
end Go.Proofs.Ythlfolpcmcejkaa

namespace Go.Proofs.Ythlfolpcmcejkaa
open Go Go.Eng Go.RowKit Silo TryT

theorem rdRec0 (w : World) : RdRec w [I 0, I 0, St [], St [], .slice none 0 0, .slice none 0 0] (rec0 0) :=
  ⟨_, _, rfl, RdS.nil _ _ _, RdS.nil _ _ _, ⟨by simp [rec0], by simp [rec0]⟩, ⟨by simp [rec0], by simp [rec0]⟩, by simp [rec0], by simp [rec0]⟩

/-- A record whose lists are one's own. -/
def RecO (w : World) (base : Nat) (cs : List Value) (r : Rec) : Prop := ∃ vl vs, cs = [I r.kind, I r.id, St r.name, St r.digest, vl, vs] ∧ Own w base TI 1 vl r.list.length (flatL r.list) ∧ Own w base TSl 2 vs r.slots.length (flatS r.slots) ∧
  (Go.Eng.Int64 r.kind ∧ Go.Eng.Int64 r.id ∧ r.name.length ≤ 140737488355328 ∧ r.digest.length ≤ 140737488355328) ∧ (∀ x ∈ r.list, Go.Eng.Int64 x) ∧ (∀ x ∈ r.slots, Go.Eng.Int64 x.1 ∧ Go.Eng.Int64 x.2) ∧ r.list.length ≤ 140737488355328 ∧ r.slots.length ≤ 140737488355328
theorem RecO.rd {w : World} {base : Nat} {cs : List Value} {r : Rec} (h : RecO w base cs r) : RdRec w cs r := by
  obtain ⟨vl, vs, rfl, a, b, ⟨k1, k2, k3, k4⟩, k5, k6, k7, k8⟩ := h
  exact ⟨vl, vs, rfl, a.rdInts k5 k7, rdSlots b k6 k8, k1, k2, k3, k4⟩
theorem recO0 (w : World) (base : Nat) : RecO w base [I 0, I 0, St [], St [], .slice none 0 0, .slice none 0 0] (rec0 0) :=
  ⟨_, _, rfl, Own.nil _ _ _ _, Own.nil _ _ _ _, ⟨⟨by simp [rec0], by simp [rec0]⟩, ⟨by simp [rec0], by simp [rec0]⟩, by simp [rec0], by simp [rec0]⟩, (fun _ h => by cases h), (fun _ h => by cases h), by simp [rec0], by simp [rec0]⟩

theorem take_own {w : World} (s : List UInt8) (hs : s.length ≤ 1073741824) :
    Calls Try.prog 23 #[St s] w (Ret fun v w' => Below w.heap.size w w' ∧ ∃ cs, v = .tuple #[.agg cs.toArray, I (if (takeSpec minus s).isSome then 0 else 7)] ∧ RecO w' w.heap.size cs ((takeSpec minus s).getD (rec0 0))) := by
  have hK : Old w w := Old.refl w
  refine enter (n := 47) (res := #[.cell 2 31, .tmp 3]) Try.func23 rfl rfl rfl rfl ?_
  refine cseq <| cg ?_
  refine ve (Eff.alloc zero31) ?_
  rintro _ w1 ⟨b2, rfl, hn2⟩
  have hk1 := hn2.below
  replace hK := hK.up hk1
  have hb2 := hn2.blk
  refine za rfl <| cnil <| cseq <| cseq ?_
  have hb2e := hn2.at_
  obtain ⟨B, hB⟩ : ∃ B, B = w1.heap.size := ⟨_, rfl⟩
  have hBw : B ≤ w1.heap.size := Nat.le_of_eq hB
  replace hb2 := hb2.fix; replace hK := Old.fix hK
  rw [← hB] at hb2 hK
  refine cg <| zm rfl <| vq (Val.seq_ rfl rfl) <| cnil ?_
  refine WC.cond rfl (fun hc1 => ?_) (fun hc1 => ?_)
  ·try simp only [tstS] at hc1
   have hs0 : s = [] := by simpa using hc1
   refine cseq <| cg <| vq (Val.build (cells := #[I 0, I 0, St [], St [], .slice none 0 0, .slice none 0 0]) rfl (by kernel_rfl)) ?_
   refine WR.eff_ (Eff.storeBN agg31 rfl rfl hb2.2 rfl rfl ones) ?_
   intro _ w2 hS
   have hbz := hS.blk
   have hKz : Below w.heap.size w w2 := hK.1.trans (Blk.store_below hS (by omega) hK.1.size)
   refine za rfl <| cnil ?_
   refine WC.retR2 rfl (RVal.cellN agg31 rfl hbz rfl) (RVal.tmp rfl) ?_
   subst hs0
   exact ⟨hKz, _, rfl, recO0 _ _⟩
  ·try simp only [tstS] at hc1
   obtain ⟨kb, s, rfl⟩ : ∃ k r, s = k :: r := by
     cases s with
     | nil => simp at hc1
     | cons k r => exact ⟨k, r, rfl⟩
   have hsl : s.length ≤ 1073741823 := by simp at hs; omega
   refine cskip <| cseq ?_
   refine WC.mono (N := fun e w' => ∃ b18 b4, Sub [(4000000, .tuple #[]), (2, .pointer (some ⟨b2, 0, none⟩)), (4, .pointer (some ⟨b4, 0, none⟩)), (5, .pointer (some ⟨b18, 0, none⟩))] e ∧ Blk w' b18 [St s, .bool false] 72 ∧ Blk w' b4 [I kb.toNat, I 0, St [], St [], .slice none 0 0, .slice none 0 0] TX ∧ B ≤ b18 ∧ B ≤ b4 ∧ b18 ≠ b4 ∧ BlkB B w' b2 [I 0, I 0, St [], St [], .slice none 0 0, .slice none 0 0] TX ∧ OldB B w w' ∧ B ≤ w'.heap.size) ?_ ?_
   · refine WC.regionT (fun _ => True) [0, 0, 0, 0, 0, 0, 0, 2, 2, 3, 0] (.quiet 0 (.quiet 1 (.quiet 2 (.quiet 3 (.quiet 4 (.quiet 5 (.quiet 6 (.two 7 (.one 8 (.one 9 (.quiet 10 .nil))) 8 (.two 7 (.one 9 (.quiet 10 .nil)) 9 (.one 7 (.quiet 10 .nil)))))))))) ) mixed (by kernel_rfl) ?_
     have hd : Below B w1 w1.drew := (Below.refl _ _).drew
     replace hb2 := hb2.upB (hd); replace hK := hK.upB (hd); replace hBw := Nat.le_trans hBw (hd).size
     generalize w1.drew = wd at hd hb2 hK hBw ⊢
     refine WT.val rfl rfl rfl (fun _ => Val.move rfl) rfl ?_
     refine WT.val rfl rfl rfl (fun _ => Val.sindex Try.underlying9 rfl rfl (by decide) rfl) rfl ?_
     refine WT.val rfl rfl rfl (fun _ => Val.convU8 Try.underlying5 Try.underlying3 rfl) rfl ?_
     refine WT.val rfl rfl rfl (fun _ => Val.build (cells := #[I kb.toNat, I 0, St [], St [], .slice none 0 0, .slice none 0 0]) rfl (by kernel_rfl)) rfl ?_
     refine WT.val rfl rfl rfl (fun _ => Val.move rfl) rfl ?_
     refine WT.val rfl rfl rfl (fun _ => Val.ssliceFrom Try.underlying9 rfl rfl (by decide) (by simp; omega)) rfl ?_
     refine WT.val rfl rfl rfl (fun _ => Val.build (cells := #[St s, .bool false]) rfl (by kernel_rfl)) rfl ?_
     refine WT.two ?_ ?_
     · refine WS.eff rfl rfl rfl (Eff.box rfl) rfl ?_; rintro _ wx ⟨b18, rfl, hn18⟩; refine ⟨fun _ => trivial, ?_⟩; have hb18 := hn18.blk; have hlt18 := hb18.lt; have hat18 := hn18.at_
       have hge18 : B ≤ b18 := by omega
       replace hb2 := hb2.upB (hn18.below.mono hBw); replace hK := hK.upB (hn18.below.mono hBw); replace hBw := Nat.le_trans hBw (hn18.below.mono hBw).size
       refine WT.one ?_
       refine WS.eff rfl rfl rfl (Eff.alloc zero31) rfl ?_; rintro _ wy ⟨b4, rfl, hn4⟩; refine ⟨fun _ => trivial, ?_⟩; have hb4 := hn4.blk; have hlt4 := hb4.lt; have hat4 := hn4.at_
       have hge4 : B ≤ b4 := by omega
       have hne : b18 ≠ b4 := by omega
       replace hb2 := hb2.upB (hn4.below.mono hBw); replace hK := hK.upB (hn4.below.mono hBw); replace hBw := Nat.le_trans hBw (hn4.below.mono hBw).size
       replace hb18 := hb18.up hn4.below
       refine WT.one ?_
       refine WS.wild rfl rfl rfl (Eff.storeBN agg31 rfl rfl hb4 rfl rfl ones) ?_; intro _ wz hS; replace hb4 := hS.blk
       replace hb18 := hb18.grown hS.grown (fun e => hne (by injection e with e; exact e.symm))
       replace hb2 := hb2.upB (Blk.store_below hS hge4 hBw); replace hK := hK.upB (Blk.store_below hS hge4 hBw); replace hBw := Nat.le_trans hBw (Blk.store_below hS hge4 hBw).size
       refine WT.val rfl rfl rfl (fun _ => Val.assign rfl) rfl (WT.nil ?_); exact ⟨b18, b4, subs, hb18, hb4, hge18, hge4, hne, hb2, hK, hBw⟩
     · refine WS.eff rfl rfl rfl (Eff.alloc zero31) rfl ?_; rintro _ wy ⟨b4, rfl, hn4⟩; refine ⟨fun _ => trivial, ?_⟩; have hb4 := hn4.blk; have hlt4 := hb4.lt; have hat4 := hn4.at_
       have hge4 : B ≤ b4 := by omega
       replace hb2 := hb2.upB (hn4.below.mono hBw); replace hK := hK.upB (hn4.below.mono hBw); replace hBw := Nat.le_trans hBw (hn4.below.mono hBw).size
       refine WT.two ?_ ?_
       · refine WS.eff rfl rfl rfl (Eff.box rfl) rfl ?_; rintro _ wx ⟨b18, rfl, hn18⟩; refine ⟨fun _ => trivial, ?_⟩; have hb18 := hn18.blk; have hlt18 := hb18.lt; have hat18 := hn18.at_
         have hge18 : B ≤ b18 := by omega
         have hne : b18 ≠ b4 := by omega
         replace hb2 := hb2.upB (hn18.below.mono hBw); replace hK := hK.upB (hn18.below.mono hBw); replace hBw := Nat.le_trans hBw (hn18.below.mono hBw).size
         replace hb4 := hb4.up hn18.below
         refine WT.one ?_
         refine WS.wild rfl rfl rfl (Eff.storeBN agg31 rfl rfl hb4 rfl rfl ones) ?_; intro _ wz hS; replace hb4 := hS.blk
         replace hb18 := hb18.grown hS.grown (fun e => hne (by injection e with e; exact e.symm))
         replace hb2 := hb2.upB (Blk.store_below hS hge4 hBw); replace hK := hK.upB (Blk.store_below hS hge4 hBw); replace hBw := Nat.le_trans hBw (Blk.store_below hS hge4 hBw).size
         refine WT.val rfl rfl rfl (fun _ => Val.assign rfl) rfl (WT.nil ?_); exact ⟨b18, b4, subs, hb18, hb4, hge18, hge4, hne, hb2, hK, hBw⟩
       · refine WS.wild rfl rfl rfl (Eff.storeBN agg31 rfl rfl hb4 rfl rfl ones) ?_; intro _ wz hS; replace hb4 := hS.blk
         replace hb2 := hb2.upB (Blk.store_below hS hge4 hBw); replace hK := hK.upB (Blk.store_below hS hge4 hBw); replace hBw := Nat.le_trans hBw (Blk.store_below hS hge4 hBw).size
         have hlt4 := hb4.lt
         refine WT.one ?_
         refine WS.eff rfl rfl rfl (Eff.box rfl) rfl ?_; rintro _ wx ⟨b18, rfl, hn18⟩; refine ⟨fun _ => trivial, ?_⟩; have hb18 := hn18.blk; have hlt18 := hb18.lt; have hat18 := hn18.at_
         have hge18 : B ≤ b18 := by omega
         have hne : b18 ≠ b4 := by omega
         replace hb2 := hb2.upB (hn18.below.mono hBw); replace hK := hK.upB (hn18.below.mono hBw); replace hBw := Nat.le_trans hBw (hn18.below.mono hBw).size
         replace hb4 := hb4.up hn18.below
         refine WT.val rfl rfl rfl (fun _ => Val.assign rfl) rfl (WT.nil ?_); exact ⟨b18, b4, subs, hb18, hb4, hge18, hge4, hne, hb2, hK, hBw⟩
   clear hb2 hK hBw
   rintro _ wq ⟨b18, b4, hsub, hb18, hb4, hge18, hge4, hne4_b18, hb2, hK, hBw⟩
   refine WC.sub hsub ?_
   clear hsub
   refine cseq <| cseq <| cg <| vq (Val.fieldAddr fld31_0 rfl) <| vq (Val.loadB scl3 rfl hb4 rfl) ?_
   refine ve (Eff.call pf50 rfl (fields_ok kb.toNat)) ?_
   rintro v21 w2 ⟨hk2, rfl⟩
   replace hb2 := hb2.upB (hk2.mono hBw); replace hK := hK.upB (hk2.mono hBw); replace hb18 := hb18.up hk2; replace hb4 := hb4.up hk2; replace hBw := Nat.le_trans hBw hk2.size
   have h0 := XS.mk0 (s := s) (bad := false) hBw hge18 hge4 hne4_b18 hb18 hb4 ⟨by omega, by have := kb.toNat_lt; omega⟩
   refine ve (Eff.rangeStr Try.underlying9 rfl) ?_
   rintro _ wr ⟨hkr, b22, rfl, hb22, hit⟩
   have hBb : B ≤ b22 := by omega
   have h2R : b22 ≠ b18 := by have := h0.R.lt; omega
   have h2X : b22 ≠ b4 := by have := h0.X.lt; omega
   replace h0 := h0.up hkr
   replace hb2 := hb2.upB (hkr.mono hBw); replace hK := hK.upB (hkr.mono hBw); replace hBw := Nat.le_trans hBw hkr.size
   replace hb22 : b22 < wr.heap.size := hit.lt
   have hin : ∃ w0, XS 72 (fun k => k = b22) w0 wr B b18 b4 s false (rec0 kb.toNat) (.slice none 0 0) (.slice none 0 0) := ⟨_, h0.step (grown_refl _ _) hb22 h2R h2X (fun k hk => by simp [Value.rowOf] at hk) (fun k hk => by simp [Value.rowOf] at hk) hBb⟩
   have hl3 := fieldsB_len kb.toNat
   refine cnil <| cblock ?_
   clear h0
   refine WC.loop (σ := Nat × List UInt8 × Bool × Rec × Value × Value) (fun _ => [(2, .pointer (some ⟨b2, 0, none⟩)), (4, .pointer (some ⟨b4, 0, none⟩)), (5, .pointer (some ⟨b18, 0, none⟩)), (22, .pointer (some ⟨b22, 0, none⟩))]) (fun st w' => (∃ w0, XS 72 (fun k => k = b22) w0 w' B b18 b4 st.2.1 st.2.2.1 st.2.2.2.1 st.2.2.2.2.1 st.2.2.2.2.2) ∧ Iter w' b22 (fieldsB kb.toNat) st.1 ∧ BlkB B w' b2 [I 0, I 0, St [], St [], .slice none 0 0, .slice none 0 0] TX ∧ OldB B w w' ∧ B ≤ w'.heap.size ∧ st.1 ≤ (fieldsB kb.toNat).length ∧ Rel (pFields minus ((fieldsB kb.toNat).take st.1) (rec0 kb.toNat, s)) st.2.1 st.2.2.1 st.2.2.2.1 ∧ st.2.1.length ≤ s.length ∧ st.2.2.2.1.list.length ≤ st.1 * (s.length + 1) ∧ st.2.2.2.1.slots.length ≤ st.1 * (s.length + 1)) (fun st => (fieldsB kb.toNat).length - st.1) (0, s, false, rec0 kb.toNat, .slice none 0 0, .slice none 0 0) subs ⟨hin, hit, hb2, hK, hBw, by simp, .inr ⟨rfl, rfl⟩, by simp, by simp [rec0], by simp [rec0]⟩ ?_
   clear hit hb2 hK hBw hin hb22
   rintro ⟨j, t, bad, p, vl, vs⟩ wl ⟨⟨w0, h⟩, hit, hb2, hK, hBw, hj, hrel, htl, hm1, hm2⟩
   dsimp only at h hit hj hrel htl hm1 hm2 ⊢
   have hb18 := h.R
   have hb4 := h.X
   refine cseq <| cg ?_
   refine ve (Eff.nextStr rfl hit (fieldsB_ascii _)) ?_
   rintro _ w3 ⟨hg3, rfl, hi3⟩
   replace h := h.step hg3 hit.lt h2R h2X h.hKL h.hKS hBb
   have hk3 : Below B wl w3 := below_of_grown hg3 hBw (by simp; omega)
   replace hb2 := hb2.upB hk3; replace hK := hK.upB hk3; replace hBw := Nat.le_trans hBw hk3.size
   replace hb18 := h.R; replace hb4 := h.X
   refine vq (Val.nextOk rfl) <| cnil <| cseq ?_
   refine WC.cond rfl (fun hc5 => ?_) (fun hc5 => ?_)
   ·try simp only [tstS] at hc5
    replace hit := hi3 hc5
    refine cskip <| cblock <| cseq <| cg <| vq (Val.nextC rfl hc5) <| za rfl <| cnil <| cg <| zm rfl ?_
    refine zm rfl ?_
    have hm3 : j * (s.length + 1) ≤ 3 * (s.length + 1) := Nat.mul_le_mul_right _ (by omega)
    refine ve (Eff.call pf51 rfl (taken_ok h hrel htl (by omega) hm1 hm2 (by omega))) ?_
    rintro _ w4 ⟨t', bad', p', vl', vs', h', hrel', htl', hm1', hm2'⟩
    have hit' : Iter w4 b22 (fieldsB kb.toNat) (j + 1) := (h'.hF b22 rfl).2.trans hit
    have hk4 : Below B w3 w4 := h'.hK
    replace hb2 := hb2.upB hk4; replace hK := hK.upB hk4; replace hBw := Nat.le_trans hBw hk4.size
    refine cnil ?_
    exact ⟨(j + 1, t', bad', p', vl', vs'), subs, ⟨⟨_, h'⟩, hit', hb2, hK, hBw, hc5, by rw [pFields_step _ _ _ _ hc5]; exact hrel', htl', by rw [Nat.succ_mul]; omega, by rw [Nat.succ_mul]; omega⟩, by dsimp only; omega⟩
   ·try simp only [tstS] at hc5
    refine WC.exit rfl ?_
    refine cseq <| cseq ?_
    have hm3 : j * (s.length + 1) ≤ 3 * (s.length + 1) := Nat.mul_le_mul_right _ (by omega)
    have hj' : j = (fieldsB kb.toNat).length := by omega
    subst hj'
    rw [List.take_of_length_le (Nat.le_refl _)] at hrel
    have hend := take_end hrel
    refine cg <| zm rfl <| vq (Val.nilCheck rfl) <| vq (Val.fieldAddr fld72_1 rfl) <| vq (Val.loadB scl4 rfl hb18 rfl) <| zm rfl ?_
    apply WR.sc false 5 _ (fun w' => w3 = w')
    case hl | hg | hu | hv | hs | hoff | hd => rfl
    case hF => exact fun _ => rfl
    case hT =>
     intro hq10
     try simp only [tstS] at hq10
     simp only [List.take_succ_cons, List.take_zero]
     refine WR.on rfl rfl ?_
     refine zm rfl ?_
     refine WR.on rfl rfl ?_
     refine vq (Val.nilCheck rfl) ?_
     refine WR.on rfl rfl ?_
     refine vq (Val.fieldAddr fld72_0 rfl) ?_
     refine WR.on rfl rfl ?_
     refine vq (Val.loadB scl9 rfl hb18 rfl) ?_
     refine WR.on rfl rfl ?_
     refine vq (Val.sne rfl rfl) ?_
     exact WR.nil ⟨rfl, Sub.drop _ 5 _ rfl rfl, rfl⟩
    rintro _ rfl
    refine zm rfl ?_
    apply WR.sc false 3 (!mayB p) (fun w' => Below w3.heap.size w3 w')
    case hl | hg | hu | hv | hs | hoff | hd => rfl
    case hF => exact fun _ => Below.refl _ _
    case hT =>
     intro hq15
     try simp only [tstS] at hq15
     simp only [List.take_succ_cons, List.take_zero]
     have hKsc15 : Old w3 w3 := Old.refl _
     refine WR.on rfl rfl ?_
     refine vq (Val.loadBN agg31 rfl hb4 rfl) ?_
     refine WR.on rfl rfl ?_
     refine ve (Eff.call pf44 rfl (may_ok (h.rdRec (by omega) (by omega)))) ?_
     rintro v42 w3 ⟨hk3, rfl⟩
     replace hb2 := hb2.upB (hk3.mono hBw); replace hK := hK.upB (hk3.mono hBw); replace h := h.up hk3; replace hb18 := hb18.up hk3; replace hb4 := hb4.up hk3; replace hKsc15 := hKsc15.up hk3; replace hBw := Nat.le_trans hBw hk3.size
     refine WR.on rfl rfl ?_
     refine vq (Val.not rfl) ?_
     exact WR.nil ⟨rfl, Sub.drop _ 3 _ rfl rfl, hKsc15⟩
    intro w4 hk4
    replace hb2 := hb2.upB (hk4.mono hBw); replace hK := hK.upB (hk4.mono hBw); replace h := h.up hk4; replace hb18 := hb18.up hk4; replace hb4 := hb4.up hk4; replace hBw := Nat.le_trans hBw hk4.size
    refine cnil ?_
    refine WC.cond rfl (fun hc8 => ?_) (fun hc8 => ?_)
    ·skip
     refine cseq <| cg <| vq (Val.build (cells := #[I 0, I 0, St [], St [], .slice none 0 0, .slice none 0 0]) rfl (by kernel_rfl)) ?_
     refine WR.eff_ (Eff.storeBN agg31 rfl rfl hb2.2 rfl rfl ones) ?_
     intro _ wz hS
     have hbz := hS.blk
     have hKz : Below w.heap.size w wz := hK.1.trans (Blk.store_below hS (by omega) hK.1.size)
     refine za rfl <| cnil ?_
     refine WC.retR2 rfl (RVal.cellN agg31 rfl hbz rfl) (RVal.tmp rfl) ?_
     have e : takeSpec minus (kb :: s) = none := by
       simp only [takeSpec]
       rw [hend, if_neg]
       rintro ⟨rfl, rfl, e⟩
       rw [e] at hc8; simp at hc8
     rw [e]
     exact ⟨hKz, _, rfl, recO0 _ _⟩
    ·skip
     refine cskip <| cseq <| cg <| vq (Val.loadBN agg31 rfl hb4 rfl) ?_
     have o1 := h.L.oneC
     have o2 := h.S.oneC
     have hne2 : b2 < b18 := Nat.lt_of_lt_of_le hb2.1 hge18
     refine WR.eff_ (Eff.storeBN agg31 rfl rfl hb2.2 rfl rfl ones) ?_
     intro _ wz hS
     have hbz := hS.blk
     have hKz : Below w.heap.size w wz := hK.1.trans (Blk.store_below hS (by omega) hK.1.size)
     have hrd : RecO wz w.heap.size (cellsX p vl vs) p := ⟨vl, vs, rfl, (h.L.grown hS.grown (fun k hk e => by have := (h.L.lt k hk).1; have := hb2.1; injection e with e; omega)).base_le (by have := hk1.size; omega), (h.S.grown hS.grown (fun k hk e => by have := (h.S.lt k hk).1; have := hb2.1; injection e with e; omega)).base_le (by have := hk1.size; omega), ⟨h.okK, h.okI, by have := h.okN; omega, by have := h.okD; omega⟩, h.okL, h.okS, by omega, by omega⟩
     refine za rfl <| cnil ?_
     refine WC.retR2 rfl (RVal.cellN agg31 rfl hbz rfl) (RVal.tmp rfl) ?_
     have e : takeSpec minus (kb :: s) = some p := by
       simp only [takeSpec]
       rw [hend, if_pos]
       revert hc8
       cases bad <;> cases t <;> cases mayB p <;> simp
     rw [e]
     exact ⟨hKz, _, rfl, hrd⟩
theorem take_ok {w : World} (s : List UInt8) (hs : s.length ≤ 1073741824) :
    Calls Try.prog 23 #[St s] w (Ret fun v w' => Below w.heap.size w w' ∧ ∃ cs, v = .tuple #[.agg cs.toArray, I (if (takeSpec minus s).isSome then 0 else 7)] ∧ RdRec w' cs ((takeSpec minus s).getD (rec0 0))) := by
  refine (take_own s hs).mono fun e w' he => ?_
  obtain ⟨v, rfl, hb, cs, rfl, h⟩ := he
  exact ⟨_, rfl, hb, cs, rfl, h.rd⟩
end Go.Proofs.Ythlfolpcmcejkaa

namespace Go.Proofs.Ythlfolpcmcejkaa
open Go Go.Eng Go.RowKit Silo TryT

theorem qtake_own {w : World} (s0 : List UInt8) (hs : s0.length ≤ 1073741824) :
    Calls Try.prog 24 #[St s0] w (Ret fun v w' => Below w.heap.size w w' ∧ ∃ cs, v = .tuple #[.agg cs.toArray, .bool (takeSpec plain s0).isSome] ∧ RecO w' w.heap.size cs ((takeSpec plain s0).getD (rec0 0))) := by
  have hK : Old w w := Old.refl w
  refine enter (n := 124) (res := #[.cell 2 31, .tmp 3]) Try.func24 rfl rfl rfl rfl ?_
  refine cseq <| cg ?_
  refine ve (Eff.alloc zero31) ?_
  rintro _ w1 ⟨b2, rfl, hn2⟩
  have hk1 := hn2.below
  replace hK := hK.up hk1
  have hb2 := hn2.blk
  refine za rfl <| cnil <| cseq ?_
  have hb2e := hn2.at_
  obtain ⟨B, hB⟩ : ∃ B, B = w1.heap.size := ⟨_, rfl⟩
  have hBw : B ≤ w1.heap.size := Nat.le_of_eq hB
  replace hb2 := hb2.fix; replace hK := Old.fix hK
  rw [← hB] at hb2 hK
  refine cg <| zm rfl <| vq (Val.build (cells := #[St s0, .bool false]) rfl (by kernel_rfl)) ?_
  refine ve (Eff.box rfl) ?_
  rintro _ w2 ⟨b14, rfl, hn14⟩
  have hk2 := hn14.below
  have hge14 : B ≤ b14 := by rw [hn14.at_]; exact hBw
  replace hb2 := hb2.upB (hk2.mono hBw); replace hK := hK.upB (hk2.mono hBw); replace hBw := Nat.le_trans hBw hk2.size
  have hb14 := hn14.blk
  refine za rfl <| cnil <| cseq <| cg <| zm rfl ?_
  have hlt14 := hb14.lt
  refine ve (Eff.call pf52 rfl (qtake_ok hb14 1 (by decide) (by omega))) ?_
  rintro _ wa ⟨hg, rfl, hR⟩
  have hka : Below B _ wa := below_of_grown hg hBw (by simp; omega)
  replace hb2 := hb2.upB hka; replace hK := hK.upB hka; replace hBw := Nat.le_trans hBw hka.size
  clear hb14
  have hb14 := hR
  have hl1 := tkT_len s0 false 1
  have hl2 := tkS_len s0 false 1
  have hlt3_b14 := hb14.lt
  refine ve (Eff.call pf36 rfl (qNumber_ok _ (by omega))) ?_
  rintro v17 w3 ⟨hk3, rfl⟩
  replace hb2 := hb2.upB (hk3.mono hBw); replace hK := hK.upB (hk3.mono hBw); replace hb14 := hb14.up hk3; replace hBw := Nat.le_trans hBw hk3.size
  refine vq (Val.build (cells := #[I (beNat (tkT s0 false 1) : Nat), I 0, St [], St [], .slice none 0 0, .slice none 0 0]) rfl (by kernel_rfl)) ?_
  refine ve (Eff.alloc zero31) ?_
  rintro _ w4 ⟨b5, rfl, hn5⟩
  have hk4 := hn5.below
  have hge5 : B ≤ b5 := by rw [hn5.at_]; exact hBw
  have hne5_b14 : b14 ≠ b5 := by have := hb14.lt; have := hn5.at_; omega
  replace hb2 := hb2.upB (hk4.mono hBw); replace hK := hK.upB (hk4.mono hBw); replace hb14 := hb14.up hk4; replace hBw := Nat.le_trans hBw hk4.size
  have hb5 := hn5.blk
  refine WR.eff_ (Eff.storeBN agg31 rfl rfl hb5 rfl rfl ones) ?_
  intro _ w5 hS5
  have hk5 : Below B _ _ := Blk.store_below hS5 hge5 hBw
  replace hb14 := hb14.grown hS5.grown (by simp; omega)
  replace hb2 := hb2.upB hk5; replace hK := hK.upB hk5; replace hBw := Nat.le_trans hBw hk5.size
  replace hb5 := hS5.blk
  refine cnil <| cseq <| cseq <| cg <| zm rfl <| vq (Val.nilCheck rfl) <| vq (Val.fieldAddr fld77_1 rfl) <| vq (Val.loadB scl4 rfl hb14 rfl) <| zm rfl ?_
  apply WR.sc false 4 (!(decide ((1 : Int) ≤ (beNat (tkT s0 false 1) : Nat)) && decide (((beNat (tkT s0 false 1) : Nat) : Int) ≤ 8))) (fun w' => Below w5.heap.size w5 w')
  case hl | hg | hu | hv | hs | hoff | hd => rfl
  case hF => exact fun _ => Below.refl _ _
  case hT =>
   intro hq9
   try simp only [tstS] at hq9
   simp only [List.take_succ_cons, List.take_zero]
   have hKsc9 : Old w5 w5 := Old.refl _
   refine WR.on rfl rfl ?_
   refine vq (Val.fieldAddr fld31_0 rfl) ?_
   refine WR.on rfl rfl ?_
   refine vq (Val.loadB scl3 rfl hb5 rfl) ?_
   refine WR.on rfl rfl ?_
   have hlt6_b14 := hb14.lt
   have hlt6_b5 := hb5.lt
   refine ve (Eff.call pf41 rfl (between_ok _ _ _)) ?_
   rintro v26 w6 ⟨hk6, rfl⟩
   replace hb2 := hb2.upB (hk6.mono hBw); replace hK := hK.upB (hk6.mono hBw); replace hb14 := hb14.up hk6; replace hb5 := hb5.up hk6; replace hKsc9 := hKsc9.up hk6; replace hBw := Nat.le_trans hBw hk6.size
   refine WR.on rfl rfl ?_
   refine vq (Val.not rfl) ?_
   exact WR.nil ⟨rfl, Sub.drop _ 4 _ rfl rfl, hKsc9⟩
  intro w7 hk7
  replace hb2 := hb2.upB (hk7.mono hBw); replace hK := hK.upB (hk7.mono hBw); replace hb14 := hb14.up hk7; replace hb5 := hb5.up hk7; replace hBw := Nat.le_trans hBw hk7.size
  refine cnil ?_
  refine WC.cond rfl (fun hc3 => ?_) (fun hc3 => ?_)
  ·skip
   refine cseq <| cg <| vq (Val.build (cells := #[I 0, I 0, St [], St [], .slice none 0 0, .slice none 0 0]) rfl (by kernel_rfl)) ?_
   refine WR.eff_ (Eff.storeBN agg31 rfl rfl hb2.2 rfl rfl ones) ?_
   intro _ wz hS
   have hbz := hS.blk
   have hKz : Below w.heap.size w wz := hK.1.trans (Blk.store_below hS (by omega) hK.1.size)
   refine za rfl <| cnil ?_
   refine WC.retR2 rfl (RVal.cellN agg31 rfl hbz rfl) (RVal.tmp rfl) ?_
   have e : takeSpec plain s0 = none := by
     cases s0 with
     | nil => rfl
     | cons k s =>
       refine takeSpec_kind fun hk => ?_
       have e1 : tkBad (k :: s) false 1 = false := by simp [tkBad]; omega
       have e2 : tkT (k :: s) false 1 = [k] := by rw [tkT, e1]; rfl
       rw [e1, e2, beNat_one] at hc3
       simp [hk.1, hk.2] at hc3
   rw [e]
   exact ⟨hKz, _, rfl, recO0 _ _⟩
  ·skip
   obtain ⟨kb, rest, rfl, hk18, e1, e2, e3⟩ : ∃ k s, s0 = k :: s ∧ (1 ≤ (k.toNat : Int) ∧ (k.toNat : Int) ≤ 8) ∧ tkBad s0 false 1 = false ∧ tkT s0 false 1 = [k] ∧ tkS s0 false 1 = s := by
     cases s0 with
     | nil => simp [tkBad] at hc3
     | cons k s =>
       have e1 : tkBad (k :: s) false 1 = false := by simp [tkBad]; omega
       have e2 : tkT (k :: s) false 1 = [k] := by rw [tkT, e1]; rfl
       have e3 : tkS (k :: s) false 1 = s := by rw [tkS, e1]; rfl
       rw [e1, e2, beNat_one] at hc3
       simp only [cond_false, Bool.or_eq_false_iff, Bool.not_eq_false', Bool.and_eq_true, decide_eq_true_eq] at hc3
       exact ⟨k, s, rfl, hc3.2, e1, e2, e3⟩
   clear hc3
   rw [e1, e3] at hb14
   rw [e2, beNat_one] at hb5 ⊢
   have hsl0 : rest.length ≤ 1073741823 := by simp at hs; omega
   refine cskip <| cseq <| cg <| vq (Val.fieldAddr fld31_0 rfl) <| vq (Val.loadB scl3 rfl hb5 rfl) ?_
   have hlt8_b14 := hb14.lt
   have hlt8_b5 := hb5.lt
   refine ve (Eff.call pf42 rfl (fieldsU_ok _ (by omega) hk18.2)) ?_
   rintro v32 w8 ⟨hk8, rfl⟩
   replace hb2 := hb2.upB (hk8.mono hBw); replace hK := hK.upB (hk8.mono hBw); replace hb14 := hb14.up hk8; replace hb5 := hb5.up hk8; replace hBw := Nat.le_trans hBw hk8.size
   refine za rfl <| cnil <| cseq <| cseq ?_
   have h := XS.mk0 (TR := 77) hBw hge14 hge5 hne5_b14 hb14 hb5 ⟨by omega, by omega⟩
   have hrel : Rel (q0 kb.toNat rest) rest false (rec0 kb.toNat) := .inr ⟨rfl, rfl⟩
   obtain ⟨L, hLe⟩ : ∃ L, L = rest.length := ⟨_, rfl⟩
   have hL30 : L ≤ 1073741823 := by omega
   have hsl : rest.length ≤ L := by omega
   have hm1 : (rec0 kb.toNat).list.length ≤ 0 := by simp [rec0]
   have hm2 : (rec0 kb.toNat).slots.length ≤ 0 := by simp [rec0]
   clear hb14 hb5
   obtain ⟨s, hse⟩ : ∃ s, s = rest := ⟨_, rfl⟩
   obtain ⟨bad, hbade⟩ : ∃ bad, bad = false := ⟨_, rfl⟩
   obtain ⟨p, hpe⟩ : ∃ p, p = rec0 (kb.toNat : Int) := ⟨_, rfl⟩
   obtain ⟨vl, hvle⟩ : ∃ v, v = Value.slice none 0 0 := ⟨_, rfl⟩
   obtain ⟨vs, hvse⟩ : ∃ v, v = Value.slice none 0 0 := ⟨_, rfl⟩
   have h : XS 77 (fun _ => False) w8 w8 B b14 b5 s bad p vl vs := by subst hse hbade hpe hvle hvse; exact h
   have hrel : Rel (q0 kb.toNat rest) s bad p := by subst hse hbade hpe; exact hrel
   have hsl : s.length ≤ L := by subst hse; exact hsl
   have hm1 : p.list.length ≤ 0 := by subst hpe; exact hm1
   have hm2 : p.slots.length ≤ 0 := by subst hpe; exact hm2
   clear hse hbade hpe hvle hvse
   have hbR := h.R; have hbX := h.X
   refine cg <| zm rfl ?_
   refine ve (Eff.call pf43 rfl (hasI_ok kb.toNat)) ?_
   rintro v34 w9 ⟨hk9, rfl⟩
   replace h := h.up hk9; replace hbR := hbR.up hk9; replace hbX := hbX.up hk9
   refine cnil ?_
   refine WC.mono (N := fun e w' => ∃ s bad p vl vs, Sub [(4000000, .tuple #[]), (2, .pointer (some ⟨b2, 0, none⟩)), (4, .pointer (some ⟨b14, 0, none⟩)), (5, .pointer (some ⟨b5, 0, none⟩)), (6, St (fieldsU kb.toNat))] e ∧ XS 77 (fun _ => False) w8 w' B b14 b5 s bad p vl vs ∧ Rel (qStep plain kb.toNat 105 (q0 kb.toNat rest)) s bad p ∧ s.length ≤ L ∧ p.list.length ≤ 0 ∧ p.slots.length ≤ 0) ?_ ?_
   ·refine WC.cond rfl (fun hc6 => ?_) (fun hc6 => ?_)
    ·try simp only [tstS] at hc6
     refine cg <| zm rfl ?_
     refine ve (Eff.call pf53 rfl (qnumber_ok h.R (by omega))) ?_
     rintro _ wn ⟨hg, rfl, hR⟩
     replace h := h.rd hg hR; replace hbR := h.R; replace hbX := h.X
     refine vq (Val.fieldAddr fld31_1 rfl) ?_
     refine WR.eff_ (Eff.storeB scl3 rfl rfl rfl rfl h.X rfl) ?_
     rintro _ ws hS
     have hb4 := beNat4 s bad
     have h2 := h.upd (p' := { p with id := plain (beNat (tkT s bad 4)) }) hS rfl rfl ⟨by simp only [plain]; omega, by simp only [plain]; omega⟩ h.okK h.okN h.okD
     refine cnil ?_
     exact ⟨_, _, _, _, _, subs, h2, by rw [qStep_T (c := 105) hc6]; exact rel_id hrel, Nat.le_trans (tkS_len _ _ _) hsl, hm1, hm2⟩
    ·try simp only [tstS] at hc6
     refine cskip ?_
     exact ⟨s, bad, p, vl, vs, subs, h, by rw [qStep_F (c := 105) hc6]; exact hrel, hsl, (by omega), (by omega)⟩
   ·skip
    clear h hbR hbX hrel hsl hm1 hm2 s bad p vl vs
    rintro _ wc6 ⟨s, bad, p, vl, vs, hsub, h, hrel, hsl, hm1, hm2⟩
    refine WC.sub hsub ?_
    clear hsub
    have hbR := h.R; have hbX := h.X
    refine cseq <| cseq <| cg <| zm rfl ?_
    refine ve (Eff.call pf43 rfl (hasN_ok kb.toNat)) ?_
    rintro v39 w10 ⟨hk10, rfl⟩
    replace h := h.up hk10; replace hbR := hbR.up hk10; replace hbX := hbX.up hk10
    refine cnil ?_
    refine WC.mono (N := fun e w' => ∃ s bad p vl vs, Sub [(4000000, .tuple #[]), (2, .pointer (some ⟨b2, 0, none⟩)), (4, .pointer (some ⟨b14, 0, none⟩)), (5, .pointer (some ⟨b5, 0, none⟩)), (6, St (fieldsU kb.toNat))] e ∧ XS 77 (fun _ => False) w8 w' B b14 b5 s bad p vl vs ∧ Rel (qStep plain kb.toNat 110 (qStep plain kb.toNat 105 (q0 kb.toNat rest))) s bad p ∧ s.length ≤ L ∧ p.list.length ≤ 0 ∧ p.slots.length ≤ 0) ?_ ?_
    ·refine WC.cond rfl (fun hc8 => ?_) (fun hc8 => ?_)
     ·try simp only [tstS] at hc8
      refine cg <| zm rfl <| zm rfl ?_
      refine ve (Eff.call pf52 rfl (qtake_ok h.R 1 (by decide) (by omega))) ?_
      rintro _ wn ⟨hg, rfl, hR⟩
      replace h := h.rd hg hR; replace hbR := h.R; replace hbX := h.X
      have hl1 := tkT_len s bad 1
      have hl2 := tkS_len s bad 1
      refine ve (Eff.call pf36 rfl (qNumber_ok _ (by omega))) ?_
      rintro v43 w11 ⟨hk11, rfl⟩
      replace h := h.up hk11; replace hbR := hbR.up hk11; replace hbX := hbX.up hk11
      refine ve (Eff.call pf52 rfl (qtake_ok h.R _ (by omega) (by omega))) ?_
      rintro _ wm ⟨hg, rfl, hR⟩
      replace h := h.rd hg hR; replace hbR := h.R; replace hbX := h.X
      have hl3 := tkS_len (tkS s bad 1) (tkBad s bad 1) (beNat (tkT s bad 1))
      have hl4 := tkT_len2 (tkS s bad 1) (tkBad s bad 1) (beNat (tkT s bad 1))
      refine vq (Val.fieldAddr fld31_2 rfl) ?_
      refine WR.eff_ (Eff.storeB scl9 rfl rfl rfl rfl h.X rfl) ?_
      rintro _ ws hS
      have h2 := h.upd (p' := { p with name := tkT (tkS s bad 1) (tkBad s bad 1) (beNat (tkT s bad 1)) }) hS rfl rfl h.okI h.okK (by simp; omega) h.okD
      refine cnil ?_
      exact ⟨_, _, _, _, _, subs, h2, by rw [qStep_T (c := 110) hc8]; exact rel_name hrel, by omega, hm1, hm2⟩
     ·try simp only [tstS] at hc8
      refine cskip ?_
      exact ⟨s, bad, p, vl, vs, subs, h, by rw [qStep_F (c := 110) hc8]; exact hrel, hsl, (by omega), (by omega)⟩
    ·skip
     clear h hbR hbX hrel hsl hm1 hm2 s bad p vl vs
     rintro _ wc8 ⟨s, bad, p, vl, vs, hsub, h, hrel, hsl, hm1, hm2⟩
     refine WC.sub hsub ?_
     clear hsub
     have hbR := h.R; have hbX := h.X
     refine cseq <| cseq <| cg <| zm rfl ?_
     refine ve (Eff.call pf43 rfl (hasD_ok kb.toNat)) ?_
     rintro v47 w12 ⟨hk12, rfl⟩
     replace h := h.up hk12; replace hbR := hbR.up hk12; replace hbX := hbX.up hk12
     refine cnil ?_
     refine WC.mono (N := fun e w' => ∃ s bad p vl vs, Sub [(4000000, .tuple #[]), (2, .pointer (some ⟨b2, 0, none⟩)), (4, .pointer (some ⟨b14, 0, none⟩)), (5, .pointer (some ⟨b5, 0, none⟩)), (6, St (fieldsU kb.toNat))] e ∧ XS 77 (fun _ => False) w8 w' B b14 b5 s bad p vl vs ∧ Rel (qStep plain kb.toNat 100 (qStep plain kb.toNat 110 (qStep plain kb.toNat 105 (q0 kb.toNat rest)))) s bad p ∧ s.length ≤ L ∧ p.list.length ≤ 0 ∧ p.slots.length ≤ 0) ?_ ?_
     ·refine WC.cond rfl (fun hc10 => ?_) (fun hc10 => ?_)
      ·try simp only [tstS] at hc10
       refine cg <| zm rfl ?_
       refine ve (Eff.call pf52 rfl (qtake_ok h.R 32 (by decide) (by omega))) ?_
       rintro _ wn ⟨hg, rfl, hR⟩
       replace h := h.rd hg hR; replace hbR := h.R; replace hbX := h.X
       have hl1 := tkT_len2 s bad 32
       refine vq (Val.fieldAddr fld31_3 rfl) ?_
       refine WR.eff_ (Eff.storeB scl9 rfl rfl rfl rfl h.X rfl) ?_
       rintro _ ws hS
       have h2 := h.upd (p' := { p with digest := tkT s bad 32 }) hS rfl rfl h.okI h.okK h.okN (by simp; omega)
       refine cnil ?_
       exact ⟨_, _, _, _, _, subs, h2, by rw [qStep_T (c := 100) hc10]; exact rel_dig hrel, Nat.le_trans (tkS_len _ _ _) hsl, hm1, hm2⟩
      ·try simp only [tstS] at hc10
       refine cskip ?_
       exact ⟨s, bad, p, vl, vs, subs, h, by rw [qStep_F (c := 100) hc10]; exact hrel, hsl, (by omega), (by omega)⟩
     ·skip
      clear h hbR hbX hrel hsl hm1 hm2 s bad p vl vs
      rintro _ wc10 ⟨s, bad, p, vl, vs, hsub, h, hrel, hsl, hm1, hm2⟩
      refine WC.sub hsub ?_
      clear hsub
      have hbR := h.R; have hbX := h.X
      refine cseq <| cseq <| cg <| zm rfl ?_
      refine ve (Eff.call pf43 rfl (hasL_ok kb.toNat)) ?_
      rintro v52 w13 ⟨hk13, rfl⟩
      replace h := h.up hk13; replace hbR := hbR.up hk13; replace hbX := hbX.up hk13
      refine cnil ?_
      refine WC.mono (N := fun e w' => ∃ s bad p vl vs, Sub [(4000000, .tuple #[]), (2, .pointer (some ⟨b2, 0, none⟩)), (4, .pointer (some ⟨b14, 0, none⟩)), (5, .pointer (some ⟨b5, 0, none⟩)), (6, St (fieldsU kb.toNat))] e ∧ XS 77 (fun _ => False) w8 w' B b14 b5 s bad p vl vs ∧ Rel (qStep plain kb.toNat 108 (qStep plain kb.toNat 100 (qStep plain kb.toNat 110 (qStep plain kb.toNat 105 (q0 kb.toNat rest))))) s bad p ∧ s.length ≤ L ∧ p.list.length ≤ L + 1 ∧ p.slots.length ≤ 0) ?_ ?_
      ·refine WC.cond rfl (fun hc12 => ?_) (fun hc12 => ?_)
       ·try simp only [tstS] at hc12
        refine cseq <| cg <| zm rfl ?_
        refine ve (Eff.call pf53 rfl (qnumber_ok h.R (by omega))) ?_
        rintro _ wn ⟨hg, rfl, hR⟩
        replace h := h.rd hg hR; replace hbR := h.R; replace hbX := h.X
        have hl2 := tkS_len s bad 4
        have hb4 := beNat4 s bad
        refine za rfl <| cnil <| cseq <| cg <| za rfl <| cnil <| cblock ?_
        have hj0 := lj_init (φ := plain) hrel
        have hq : qStep plain kb.toNat 108 (qStep plain kb.toNat 100 (qStep plain kb.toNat 110 (qStep plain kb.toNat 105 (q0 kb.toNat rest)))) = (qStep plain kb.toNat 100 (qStep plain kb.toNat 110 (qStep plain kb.toNat 105 (q0 kb.toNat rest)))).bind (pField plain 108) := qStep_T (c := 108) hc12
        rw [← hq] at hj0
        clear hq
        generalize hT : qStep plain kb.toNat 108 (qStep plain kb.toNat 100 (qStep plain kb.toNat 110 (qStep plain kb.toNat 105 (q0 kb.toNat rest)))) = T at hj0
        generalize hNe : beNat (tkT s bad 4) = n0 at hj0 hb4 ⊢
        refine WC.loop (σ := Nat × List UInt8 × Bool × Rec × Value) (fun st => [(2, .pointer (some ⟨b2, 0, none⟩)), (4, .pointer (some ⟨b14, 0, none⟩)), (5, .pointer (some ⟨b5, 0, none⟩)), (6, St (fieldsU kb.toNat)), (7, I n0), (8, I st.1)]) (fun st w' => XS 77 (fun _ => False) w8 w' B b14 b5 st.2.1 st.2.2.1 st.2.2.2.1 st.2.2.2.2 vs ∧ LJ plain T (n0 - st.1) st.2.1 st.2.2.1 st.2.2.2.1 ∧ st.1 ≤ n0 ∧ st.2.1.length ≤ L ∧ (st.2.2.1 = false → st.2.2.2.1.list.length + st.2.1.length ≤ L) ∧ st.2.2.2.1.list.length ≤ L + 1 ∧ st.2.2.2.1.slots.length ≤ 0) (fun st => n0 - st.1) (0, tkS s bad 4, tkBad s bad 4, p, vl) subs ⟨h, hj0, by simp, by dsimp only; omega, fun _ => by dsimp only; omega, by dsimp only; omega, hm2⟩ ?_
        clear h hbR hbX hrel hsl hm1 hm2 hj0 hl2 hR hg hNe s bad p vl
        rintro ⟨i, s, bad, p, vl⟩ wl ⟨h, hj, hi, hsl, hJ, hm1, hm2⟩
        dsimp only at h hj hi hsl hJ hm1 hm2 ⊢
        have hbR := h.R; have hbX := h.X
        refine cseq <| cseq ?_
        skip
        refine cg <| zm rfl <| zm rfl <| vq (Val.lss rfl rfl) <| zm rfl ?_
        apply WR.sc true 5 _ (fun w' => wl = w')
        case hl | hg | hu | hv | hs | hoff | hd => rfl
        case hF => exact fun _ => rfl
        case hT =>
         intro hq9
         try simp only [tstS] at hq9
         simp only [List.take_succ_cons, List.take_zero]
         refine WR.on rfl rfl ?_
         refine zm rfl ?_
         refine WR.on rfl rfl ?_
         refine vq (Val.nilCheck rfl) ?_
         refine WR.on rfl rfl ?_
         refine vq (Val.fieldAddr fld77_1 rfl) ?_
         refine WR.on rfl rfl ?_
         refine vq (Val.loadB scl4 rfl hbR rfl) ?_
         refine WR.on rfl rfl ?_
         refine vq (Val.not rfl) ?_
         exact WR.nil ⟨rfl, Sub.drop _ 5 _ rfl rfl, rfl⟩
        rintro _ rfl
        refine cnil ?_
        refine WC.cond rfl (fun hc15 => ?_) (fun hc15 => ?_)
        ·try simp only [tstS] at hc15
         obtain ⟨hn0, hb0⟩ := hc15
         subst hb0
         replace hJ := hJ rfl
         clear hbR hbX
         refine cskip <| cseq <| cblock ?_
         refine WC.regionD (fun W => Blk W b5 (cellsX p vl vs) TX) [0, 1, 0, 2, 2, 2, 0, 3] [0, 1, 2, 3, 4, 5, 6, 7] mixed (by kernel_rfl) ?_
         replace h := h.up (Below.refl _ _).drew
         have hC := h.X
         generalize wl.drew = wd at h hC ⊢
         refine vd rfl (fun _ => Val.fieldAddr fld31_4 rfl) <| qc rfl rfl rfl hC (fun W hW => Val.loadB scl24 rfl hW rfl) rfl <| zdm rfl rfl ?_
         refine WD.eff rfl rfl rfl (Eff.call pf53 rfl (qnumber_ok h.R (by omega))) rfl ?_
         rintro _ wn2 ⟨hg, rfl, hR⟩
         refine ⟨fun hC => hC.grown hg (fun e => h.ne (by injection e)), ?_⟩
         replace h := h.rd hg hR
         refine WD.eff rfl rfl rfl (Eff.build1 sl24 rfl rfl rfl rfl rfl) rfl ?_
         rintro _ wb ⟨b55, rfl, hnb⟩
         refine ⟨fun hC => hC.up hnb.below, ?_⟩
         replace h := h.up hnb.below
         refine WD.eff rfl rfl rfl (Eff.append sl24 rfl rfl h.L (Src.cellsAt Try.underlying24 hnb.blk.cellsAt rfl ones) (by rw [maxLen_eq]; omega) (by omega) h.hBw) rfl ?_
         intro v56 wa2 hA
         refine ⟨fun hC => hC.grown hA.grown (fun e => (h.neL b5 e).2 rfl), ?_⟩
         have hXa := h.X.grown hA.grown (fun e => (h.neL b5 e).2 rfl)
         refine vd rfl (fun _ => Val.fieldAddr fld31_4 rfl) ?_
         refine WD.wild rfl rfl rfl (Eff.storeB scl24 rfl rfl hA.own.cellsV hA.own.oneC hXa rfl) ?_
         rintro _ ws hS
         have hb4' := beNat4 s false
         have h2 := h.appL (x := plain (beNat (tkT s false 4))) hA hS ⟨by simp only [plain]; omega, by simp only [plain]; omega⟩
         refine WD.nil ?_
         refine cg <| zm rfl <| vq (Val.addI rfl rfl side side) <| za rfl <| cnil ?_
         have hl2 := tkS_len s false 4
         rw [show n0 - i = (n0 - (i + 1)) + 1 by omega] at hj
         refine ⟨(i + 1, tkS s false 4, tkBad s false 4, { p with list := p.list ++ [plain (beNat (tkT s false 4))] }, v56), subs, ⟨h2, lj_step hj, ?_, ?_, ?_, ?_, hm2⟩, ?_⟩
         · dsimp only; omega
         · dsimp only; omega
         · intro hb; have := tk4_len hb; dsimp only at hb ⊢; simp only [List.length_append, List.length_singleton]; omega
         · dsimp only; simp only [List.length_append, List.length_singleton]; omega
         · dsimp only; omega
        ·try simp only [tstS] at hc15
         refine WC.exit rfl ?_
         rw [Bool.and_eq_false_iff] at hc15
         simp only [Bool.not_eq_false', decide_eq_false_iff_not] at hc15
         exact ⟨_, _, _, _, _, subs, h, lj_exit hj (fun hb => by subst hb; simp at hc15; omega), hsl, hm1, hm2⟩
       ·try simp only [tstS] at hc12
        refine cskip ?_
        exact ⟨s, bad, p, vl, vs, subs, h, by rw [qStep_F (c := 108) hc12]; exact hrel, hsl, (by omega), (by omega)⟩
      ·skip
       clear h hbR hbX hrel hsl hm1 hm2 s bad p vl vs
       rintro _ wc12 ⟨s, bad, p, vl, vs, hsub, h, hrel, hsl, hm1, hm2⟩
       refine WC.sub hsub ?_
       clear hsub
       have hbR := h.R; have hbX := h.X
       refine cseq <| cseq <| cg <| zm rfl ?_
       refine ve (Eff.call pf43 rfl (hasS_ok kb.toNat)) ?_
       rintro v75 w14 ⟨hk14, rfl⟩
       replace h := h.up hk14; replace hbR := hbR.up hk14; replace hbX := hbX.up hk14
       refine cnil ?_
       refine WC.mono (N := fun e w' => ∃ s bad p vl vs, Sub [(4000000, .tuple #[]), (2, .pointer (some ⟨b2, 0, none⟩)), (4, .pointer (some ⟨b14, 0, none⟩)), (5, .pointer (some ⟨b5, 0, none⟩)), (6, St (fieldsU kb.toNat))] e ∧ XS 77 (fun _ => False) w8 w' B b14 b5 s bad p vl vs ∧ Rel (qStep plain kb.toNat 115 (qStep plain kb.toNat 108 (qStep plain kb.toNat 100 (qStep plain kb.toNat 110 (qStep plain kb.toNat 105 (q0 kb.toNat rest)))))) s bad p ∧ s.length ≤ L ∧ p.list.length ≤ L + 1 ∧ p.slots.length ≤ L + 1) ?_ ?_
       ·refine WC.cond rfl (fun hc18 => ?_) (fun hc18 => ?_)
        ·try simp only [tstS] at hc18
         refine cseq <| cg <| zm rfl ?_
         refine ve (Eff.call pf52 rfl (qtake_ok h.R 1 (by decide) (by omega))) ?_
         rintro _ wn ⟨hg, rfl, hR⟩
         replace h := h.rd hg hR; replace hbR := h.R; replace hbX := h.X
         have hl1 := tkT_len s bad 1
         have hl2 := tkS_len s bad 1
         have hb4 := beNat1 s bad
         refine ve (Eff.call pf36 rfl (qNumber_ok _ (by omega))) ?_
         rintro v78 w15 ⟨hk15, rfl⟩
         replace h := h.up hk15; replace hbR := hbR.up hk15; replace hbX := hbX.up hk15
         refine za rfl <| cnil <| cseq <| cg <| za rfl <| cnil <| cblock ?_
         have hj0 := sj_init (φ := plain) hrel
         have hq : qStep plain kb.toNat 115 (qStep plain kb.toNat 108 (qStep plain kb.toNat 100 (qStep plain kb.toNat 110 (qStep plain kb.toNat 105 (q0 kb.toNat rest))))) = (qStep plain kb.toNat 108 (qStep plain kb.toNat 100 (qStep plain kb.toNat 110 (qStep plain kb.toNat 105 (q0 kb.toNat rest))))).bind (pField plain 115) := qStep_T (c := 115) hc18
         rw [← hq] at hj0
         clear hq
         generalize hT : qStep plain kb.toNat 115 (qStep plain kb.toNat 108 (qStep plain kb.toNat 100 (qStep plain kb.toNat 110 (qStep plain kb.toNat 105 (q0 kb.toNat rest))))) = T at hj0
         generalize hNe : beNat (tkT s bad 1) = n0 at hj0 hb4 ⊢
         refine WC.loop (σ := Nat × List UInt8 × Bool × Rec × Value) (fun st => [(2, .pointer (some ⟨b2, 0, none⟩)), (4, .pointer (some ⟨b14, 0, none⟩)), (5, .pointer (some ⟨b5, 0, none⟩)), (6, St (fieldsU kb.toNat)), (9, I n0), (10, I st.1)]) (fun st w' => XS 77 (fun _ => False) w8 w' B b14 b5 st.2.1 st.2.2.1 st.2.2.2.1 vl st.2.2.2.2 ∧ SJ plain T (n0 - st.1) st.2.1 st.2.2.1 st.2.2.2.1 ∧ st.1 ≤ n0 ∧ st.2.1.length ≤ L ∧ (st.2.2.1 = false → st.2.2.2.1.slots.length + st.2.1.length ≤ L) ∧ st.2.2.2.1.slots.length ≤ L + 1 ∧ st.2.2.2.1.list.length ≤ L + 1) (fun st => n0 - st.1) (0, tkS s bad 1, tkBad s bad 1, p, vs) subs ⟨h, hj0, by simp, by dsimp only; omega, fun _ => by dsimp only; omega, by dsimp only; omega, hm1⟩ ?_
         clear h hbR hbX hrel hsl hm1 hm2 hj0 hl1 hl2 hR hg hNe s bad p vs
         rintro ⟨i, s, bad, p, vs⟩ wl ⟨h, hj, hi, hsl, hJ, hm2, hm1⟩
         dsimp only at h hj hi hsl hJ hm1 hm2 ⊢
         have hbR := h.R; have hbX := h.X
         refine cseq <| cseq ?_
         skip
         refine cg <| zm rfl <| zm rfl <| vq (Val.lss rfl rfl) <| zm rfl ?_
         apply WR.sc true 5 _ (fun w' => wl = w')
         case hl | hg | hu | hv | hs | hoff | hd => rfl
         case hF => exact fun _ => rfl
         case hT =>
          intro hq9
          try simp only [tstS] at hq9
          simp only [List.take_succ_cons, List.take_zero]
          refine WR.on rfl rfl ?_
          refine zm rfl ?_
          refine WR.on rfl rfl ?_
          refine vq (Val.nilCheck rfl) ?_
          refine WR.on rfl rfl ?_
          refine vq (Val.fieldAddr fld77_1 rfl) ?_
          refine WR.on rfl rfl ?_
          refine vq (Val.loadB scl4 rfl hbR rfl) ?_
          refine WR.on rfl rfl ?_
          refine vq (Val.not rfl) ?_
          exact WR.nil ⟨rfl, Sub.drop _ 5 _ rfl rfl, rfl⟩
         rintro _ rfl
         refine cnil ?_
         refine WC.cond rfl (fun hc21 => ?_) (fun hc21 => ?_)
         ·try simp only [tstS] at hc21
          obtain ⟨hn0, hb0⟩ := hc21
          subst hb0
          replace hJ := hJ rfl
          clear hbR hbX
          have hl2 := tkS_len s false 4
          have hl3 := tkS_len (tkS s false 4) (tkBad s false 4) 4
          have hb4a := beNat4 s false
          have hb4b := beNat4 (tkS s false 4) (tkBad s false 4)
          refine cskip <| cseq <| cblock <| cseq <| cg <| zm rfl ?_
          refine ve (Eff.call pf53 rfl (qnumber_ok h.R (by omega))) ?_
          rintro _ w5 ⟨hg, rfl, hR⟩
          replace h := h.rd hg hR
          refine zm rfl ?_
          refine ve (Eff.call pf53 rfl (qnumber_ok h.R (by omega))) ?_
          rintro _ w6 ⟨hg, rfl, hR⟩
          replace h := h.rd hg hR
          refine vq (Val.build (cells := #[I (beNat (tkT s false 4) : Nat), I (beNat (tkT (tkS s false 4) (tkBad s false 4) 4) : Nat)]) rfl (by kernel_rfl)) ?_
          refine ve (Eff.alloc zero66) ?_
          rintro _ w7 ⟨b11, rfl, hn11⟩
          have hRlt := h.R.lt
          have hXlt := h.X.lt
          have hbse := h.hbR
          have h8e := hn11.at_
          have h8L : ∀ k, vl.rowOf = some k → k ≠ b11 := fun k hk => by have := (h.L.lt k hk).2; omega
          have h8S : ∀ k, vs.rowOf = some k → k ≠ b11 := fun k hk => by have := (h.S.lt k hk).2; omega
          replace h := h.up hn11.below
          have hb11 := hn11.blk
          refine WR.eff_ (Eff.storeBN agg66 rfl rfl hb11 rfl rfl ones) ?_
          intro _ w88 hS7
          replace h := h.other hS7 (by omega) (by omega) (fun k hk e => h8L k hk e) (fun k hk e => h8S k hk e) (by omega) id
          replace hb11 := hS7.blk
          refine cnil <| cseq <| cseq <| cg <| vq (Val.fieldAddr fld66_0 rfl) <| vq (Val.loadB scl3 rfl hb11 rfl) <| vq (Val.eql rfl rfl) <| cnil ?_
          refine WC.cond rfl (fun hc24 => ?_) (fun hc24 => ?_)
          ·try simp only [tstS] at hc24
           refine cg <| vq (Val.fieldAddr fld66_0 rfl) ?_
           refine WR.eff_ (Eff.storeB scl3 rfl rfl rfl rfl hb11 rfl) ?_
           rintro _ w9 hS9
           replace h := h.other hS9 (by omega) (by omega) (fun k hk e => h8L k hk e) (fun k hk e => h8S k hk e) (by omega) id
           replace hb11 : Blk w9 b11 [I (minus (beNat (tkT s false 4))), I (beNat (tkT (tkS s false 4) (tkBad s false 4) 4) : Nat)] 66 := by rw [show minus (beNat (tkT s false 4)) = -1 by rw [minus, if_pos (by omega)]]; exact hS9.blk
           refine cnil ?_
           have hbX := h.X
           refine cg <| vq (Val.fieldAddr fld31_5 rfl) <| vq (Val.loadB scl29 rfl hbX rfl) <| vq (Val.loadBN agg66 rfl hb11 rfl) ?_
           refine ve (Eff.build1 sl29 rfl rfl rfl rfl rfl) ?_
           rintro _ wb ⟨b55, rfl, hnb⟩
           replace h := h.up hnb.below
           refine ve (Eff.append sl29 rfl rfl h.S (Src.cellsAt Try.underlying29 hnb.blk.cellsAt rfl ones) (by rw [maxLen_eq]; omega) (by omega) h.hBw) ?_
           intro v56 wa2 hA
           have hXa := h.X.grown hA.grown (fun e => (h.neS b5 e).2 rfl)
           refine vq (Val.fieldAddr fld31_5 rfl) ?_
           refine WR.eff_ (Eff.storeB scl29 rfl rfl hA.own.cellsV hA.own.oneC hXa rfl) ?_
           rintro _ ws hS
           have h2 := h.appS (x := (minus (beNat (tkT s false 4)), plain (beNat (tkT (tkS s false 4) (tkBad s false 4) 4)))) hA hS ⟨minus_i64 (beNat4 _ _), ⟨by simp only [plain]; omega, by simp only [plain]; omega⟩⟩
           refine cnil <| cg <| zm rfl <| vq (Val.addI rfl rfl side side) <| za rfl <| cnil ?_
           rw [show n0 - i = (n0 - (i + 1)) + 1 by omega] at hj
           refine ⟨(i + 1, tkS (tkS s false 4) (tkBad s false 4) 4, tkBad (tkS s false 4) (tkBad s false 4) 4, { p with slots := p.slots ++ [(minus (beNat (tkT s false 4)), plain (beNat (tkT (tkS s false 4) (tkBad s false 4) 4)))] }, v56), subs, ⟨h2, sj_step hj, ?_, ?_, ?_, ?_, hm1⟩, ?_⟩
           · dsimp only; omega
           · dsimp only; omega
           · intro hb
             dsimp only at hb ⊢
             simp only [List.length_append, List.length_singleton]
             have e1 : tkBad s false 4 = false := by
               cases e : tkBad s false 4
               · rfl
               · rw [e] at hb; cases hb
             have := tk4_len e1; omega
           · dsimp only; simp only [List.length_append, List.length_singleton]; omega
           · dsimp only; omega
          ·try simp only [tstS] at hc24
           replace hb11 : Blk w88 b11 [I (minus (beNat (tkT s false 4))), I (beNat (tkT (tkS s false 4) (tkBad s false 4) 4) : Nat)] 66 := by rw [show minus (beNat (tkT s false 4)) = (beNat (tkT s false 4) : Nat) by rw [minus, if_neg (by omega)]]; exact hb11
           refine cskip ?_
           have hbX := h.X
           refine cg <| vq (Val.fieldAddr fld31_5 rfl) <| vq (Val.loadB scl29 rfl hbX rfl) <| vq (Val.loadBN agg66 rfl hb11 rfl) ?_
           refine ve (Eff.build1 sl29 rfl rfl rfl rfl rfl) ?_
           rintro _ wb ⟨b55, rfl, hnb⟩
           replace h := h.up hnb.below
           refine ve (Eff.append sl29 rfl rfl h.S (Src.cellsAt Try.underlying29 hnb.blk.cellsAt rfl ones) (by rw [maxLen_eq]; omega) (by omega) h.hBw) ?_
           intro v56 wa2 hA
           have hXa := h.X.grown hA.grown (fun e => (h.neS b5 e).2 rfl)
           refine vq (Val.fieldAddr fld31_5 rfl) ?_
           refine WR.eff_ (Eff.storeB scl29 rfl rfl hA.own.cellsV hA.own.oneC hXa rfl) ?_
           rintro _ ws hS
           have h2 := h.appS (x := (minus (beNat (tkT s false 4)), plain (beNat (tkT (tkS s false 4) (tkBad s false 4) 4)))) hA hS ⟨minus_i64 (beNat4 _ _), ⟨by simp only [plain]; omega, by simp only [plain]; omega⟩⟩
           refine cnil <| cg <| zm rfl <| vq (Val.addI rfl rfl side side) <| za rfl <| cnil ?_
           rw [show n0 - i = (n0 - (i + 1)) + 1 by omega] at hj
           refine ⟨(i + 1, tkS (tkS s false 4) (tkBad s false 4) 4, tkBad (tkS s false 4) (tkBad s false 4) 4, { p with slots := p.slots ++ [(minus (beNat (tkT s false 4)), plain (beNat (tkT (tkS s false 4) (tkBad s false 4) 4)))] }, v56), subs, ⟨h2, sj_step hj, ?_, ?_, ?_, ?_, hm1⟩, ?_⟩
           · dsimp only; omega
           · dsimp only; omega
           · intro hb
             dsimp only at hb ⊢
             simp only [List.length_append, List.length_singleton]
             have e1 : tkBad s false 4 = false := by
               cases e : tkBad s false 4
               · rfl
               · rw [e] at hb; cases hb
             have := tk4_len e1; omega
           · dsimp only; simp only [List.length_append, List.length_singleton]; omega
           · dsimp only; omega
         ·try simp only [tstS] at hc21
          refine WC.exit rfl ?_
          rw [Bool.and_eq_false_iff] at hc21
          simp only [Bool.not_eq_false', decide_eq_false_iff_not] at hc21
          exact ⟨_, _, _, _, _, subs, h, sj_exit hj (fun hb => by subst hb; simp at hc21; omega), hsl, hm1, hm2⟩
        ·try simp only [tstS] at hc18
         refine cskip ?_
         exact ⟨s, bad, p, vl, vs, subs, h, by rw [qStep_F (c := 115) hc18]; exact hrel, hsl, (by omega), (by omega)⟩
       ·skip
        clear h hbR hbX hrel hsl hm1 hm2 s bad p vl vs
        rintro _ wc18 ⟨s, bad, p, vl, vs, hsub, h, hrel, hsl, hm1, hm2⟩
        refine WC.sub hsub ?_
        clear hsub
        have hbR := h.R; have hbX := h.X
        refine cseq <| cseq ?_
        have hspec : takeSpec plain (kb :: rest) = if bad = false ∧ s = [] ∧ mayB p = true then some p else none := by
          rw [← take_end hrel]
          show (pFields plain (fieldsB kb.toNat) (rec0 kb.toNat, rest)).bind pEnd = _
          rw [q5_eq plain hk18]; rfl
        refine cg <| zm rfl <| vq (Val.nilCheck rfl) <| vq (Val.fieldAddr fld77_1 rfl) <| vq (Val.loadB scl4 rfl hbR rfl) <| zm rfl ?_
        apply WR.sc false 5 _ (fun w' => wc18 = w')
        case hl | hg | hu | hv | hs | hoff | hd => rfl
        case hF => exact fun _ => rfl
        case hT =>
         intro hq10
         try simp only [tstS] at hq10
         simp only [List.take_succ_cons, List.take_zero]
         refine WR.on rfl rfl ?_
         refine zm rfl ?_
         refine WR.on rfl rfl ?_
         refine vq (Val.nilCheck rfl) ?_
         refine WR.on rfl rfl ?_
         refine vq (Val.fieldAddr fld77_0 rfl) ?_
         refine WR.on rfl rfl ?_
         refine vq (Val.loadB scl9 rfl hbR rfl) ?_
         refine WR.on rfl rfl ?_
         refine vq (Val.sne rfl rfl) ?_
         exact WR.nil ⟨rfl, Sub.drop _ 5 _ rfl rfl, rfl⟩
        rintro _ rfl
        refine zm rfl ?_
        apply WR.sc false 3 (!mayB p) (fun w' => Below wc18.heap.size wc18 w')
        case hl | hg | hu | hv | hs | hoff | hd => rfl
        case hF => exact fun _ => Below.refl _ _
        case hT =>
         intro hq15
         try simp only [tstS] at hq15
         simp only [List.take_succ_cons, List.take_zero]
         have hKsc15 : Old wc18 wc18 := Old.refl _
         refine WR.on rfl rfl ?_
         refine vq (Val.loadBN agg31 rfl hbX rfl) ?_
         refine WR.on rfl rfl ?_
         refine ve (Eff.call pf17 rfl (record_ok (h.rdRec (by omega) (by omega)))) ?_
         rintro v119 w16 ⟨hk16, rfl⟩
         replace h := h.up hk16; replace hbR := hbR.up hk16; replace hbX := hbX.up hk16; replace hKsc15 := hKsc15.up hk16
         refine WR.on rfl rfl ?_
         refine vq (Val.not rfl) ?_
         exact WR.nil ⟨rfl, Sub.drop _ 3 _ rfl rfl, hKsc15⟩
        intro w17 hk17
        replace h := h.up hk17; replace hbR := hbR.up hk17; replace hbX := hbX.up hk17
        refine cnil ?_
        refine WC.cond rfl (fun hc27 => ?_) (fun hc27 => ?_)
        ·skip
         refine cseq <| cg <| vq (Val.build (cells := #[I 0, I 0, St [], St [], .slice none 0 0, .slice none 0 0]) rfl (by kernel_rfl)) ?_
         have hb2' := hb2.upB h.hK
         have hK' := hK.upB h.hK
         refine WR.eff_ (Eff.storeBN agg31 rfl rfl hb2'.2 rfl rfl ones) ?_
         intro _ wz hS
         have hbz := hS.blk
         have hKz : Below w.heap.size w wz := hK'.1.trans (Blk.store_below hS (by omega) hK'.1.size)
         refine za rfl <| cnil ?_
         refine WC.retR2 rfl (RVal.cellN agg31 rfl hbz rfl) (RVal.tmp rfl) ?_
         have e : takeSpec plain (kb :: rest) = none := by
           rw [hspec, if_neg]
           rintro ⟨rfl, rfl, e⟩
           rw [e] at hc27; simp at hc27
         rw [e]
         exact ⟨hKz, _, rfl, recO0 _ _⟩
        ·skip
         refine cskip <| cseq <| cg <| vq (Val.loadBN agg31 rfl hbX rfl) ?_
         have hb2' := hb2.upB h.hK
         have hK' := hK.upB h.hK
         have o1 := h.L.oneC
         have o2 := h.S.oneC
         refine WR.eff_ (Eff.storeBN agg31 rfl rfl hb2'.2 rfl rfl ones) ?_
         intro _ wz hS
         have hbz := hS.blk
         have hKz : Below w.heap.size w wz := hK'.1.trans (Blk.store_below hS (by omega) hK'.1.size)
         have hrd : RecO wz w.heap.size (cellsX p vl vs) p := ⟨vl, vs, rfl, (h.L.grown hS.grown (fun k hk e => by have := (h.L.lt k hk).1; have := hb2.1; injection e with e; omega)).base_le (by have := hk1.size; omega), (h.S.grown hS.grown (fun k hk e => by have := (h.S.lt k hk).1; have := hb2.1; injection e with e; omega)).base_le (by have := hk1.size; omega), ⟨h.okK, h.okI, by have := h.okN; omega, by have := h.okD; omega⟩, h.okL, h.okS, by omega, by omega⟩
         refine za rfl <| cnil ?_
         refine WC.retR2 rfl (RVal.cellN agg31 rfl hbz rfl) (RVal.tmp rfl) ?_
         have e : takeSpec plain (kb :: rest) = some p := by
           rw [hspec, if_pos]
           revert hc27
           cases bad <;> cases s <;> cases mayB p <;> simp
         rw [e]
         exact ⟨hKz, _, rfl, hrd⟩
theorem qtakeRec_ok {w : World} (s0 : List UInt8) (hs : s0.length ≤ 1073741824) :
    Calls Try.prog 24 #[St s0] w (Ret fun v w' => Below w.heap.size w w' ∧ ∃ cs, v = .tuple #[.agg cs.toArray, .bool (takeSpec plain s0).isSome] ∧ RdRec w' cs ((takeSpec plain s0).getD (rec0 0))) := by
  refine (qtake_own s0 hs).mono fun e w' he => ?_
  obtain ⟨v, rfl, hb, cs, rfl, h⟩ := he
  exact ⟨_, rfl, hb, cs, rfl, h.rd⟩
end Go.Proofs.Ythlfolpcmcejkaa

namespace Silo
open Go Go.Eng
theorem beNat_le3 {l : List UInt8} (h : l.length ≤ 3) : beNat l < 16777216 := by
  have := beNat_lt l
  have : 256 ^ l.length ≤ 256 ^ 3 := Nat.pow_le_pow_right (by decide) h
  omega
theorem beNat_le4 {l : List UInt8} (h : l.length ≤ 4) : beNat l < 4294967296 := by
  have := beNat_lt l
  have : 256 ^ l.length ≤ 256 ^ 4 := Nat.pow_le_pow_right (by decide) h
  omega
end Silo
namespace Go.Eng
open Go Go.RowKit
theorem OwnC.fromOldQ {c : Nat → Nat} {w w' : World} {i n size : Nat} {e : TypeId} {u : Value} {xs : List Value} (hO : OldC w c w') (h : OwnC c w' i e size u n xs) (hi : i ≠ 0) : Own w' w.heap.size e size u n xs := by
  obtain ⟨hl, h1⟩ := h.own
  refine ⟨hl, ?_⟩
  rcases h1 with h1 | ⟨g, cap, cur, fz, rfl, hb, h2, h3, h4, h5, h6, h7, h8⟩
  · exact .inl h1
  · refine .inr ⟨g, cap, cur, fz, rfl, ?_, h2, h3, h4, h5, h6, h7, h8⟩
    rcases Nat.lt_or_ge g w.heap.size with hg | hg
    · have h9 := hO.col g hg
      rw [h.col g (rowOf_slice h8)] at h9
      exact (hi h9).elim
    · exact hg
end Go.Eng
namespace Go.Proofs.Ythlfolpcmcejkaa
open Go Go.Eng Go.RowKit Silo TryT

theorem number8_ok {w : World} (l : List UInt8) (hl : l.length ≤ 8) :
    Calls Try.prog 75 #[St l] w (Ret fun v' w' => Below w.heap.size w w' ∧ v' = U64 (beNat l)) := by
  refine enter (n := 18) (res := #[.tmp 2]) Try.func75 rfl rfl rfl rfl ?_
  refine cseq <| cg <| za rfl <| cnil <| cseq <| cseq <| cg <| zm rfl <| vq (Val.slen Try.underlying9 rfl) ?_
  refine zm rfl <| cnil <| cblock ?_
  refine WC.loop (σ := Nat) (fun k => [(0, St l), (2, U64 (beNat (l.take k))), (5, I l.length), (6, I k)]) (fun k w' => k ≤ l.length ∧ w' = w) (fun k => l.length - k) 0 subs ⟨by omega, rfl⟩ ?_
  rintro k wl ⟨hk, rfl⟩
  refine cseq <| cg <| vq (Val.lss rfl rfl) <| cnil <| cseq ?_
  refine WC.cond rfl (fun hc2 => ?_) (fun hc2 => ?_)
  ·try simp only [tstS] at hc2
   have hkl : k < l.length := by omega
   have hlt := beNat_lt (l.take k)
   have hlt2 : beNat (l.take k) < 72057594037927936 := by
     rw [take_len hk] at hlt
     have : 256 ^ k ≤ 256 ^ 7 := Nat.pow_le_pow_right (by decide) (by omega)
     omega
   refine cskip <| cseq <| cblock <| cseq <| cg <| zm rfl <| za rfl <| cnil <| cg ?_
   refine zm rfl <| vq (Val.shl8_u64 rfl rfl hlt2) <| zm rfl <| zm rfl <| vq (Val.sindex Try.underlying9 rfl rfl (by omega) (show l[((k : Nat) : Int).toNat]? = some l[k] by rw [Int.toNat_natCast]; exact List.getElem?_eq_getElem hkl)) <| vq (Val.convU8u64 Try.underlying5 Try.underlying94 rfl) <| vq (Val.or256_u64 rfl rfl hlt2 l[k].toNat_lt) <| za rfl <| cnil ?_
   refine cg <| vq (Val.addI rfl rfl side side) <| zm rfl <| cnil ?_
   have e1 : beNat (l.take (k + 1)) = beNat (l.take k) * 256 + l[k].toNat := by rw [List.take_succ_eq_append_getElem hkl, beNat_snoc]
   refine ⟨k + 1, ?_, ⟨hkl, rfl⟩, by omega⟩
   rw [e1]
   repeat (first | exact Sub.nil _ | refine Sub.cons rfl ?_ | refine Sub.consM rfl ?_)
  ·try simp only [tstS] at hc2
   refine WC.exit rfl ?_
   refine cseq <| cg <| zm rfl <| za rfl <| cnil ?_
   refine WC.ret1 rfl rfl ?_
   exact ⟨Below.refl _ _, by rw [List.take_of_length_le (by omega)]⟩

set_option maxHeartbeats 1000000 in
theorem ftaken_ok {w : World} {s : List UInt8} (hs : s.length ≤ 1073741824) : Calls Try.prog 70 #[St s] w (Ret fun v w' => Below w.heap.size w w' ∧ ∃ cs r' f1 f2, v = .tuple #[.agg cs.toArray, .agg #[I f1, I f2], .bool (takeF s).isSome] ∧ RecO w' w.heap.size cs r' ∧ ∀ r (k z : Nat), takeF s = some (r, k, z) → r' = r ∧ f1 = k ∧ f2 = z) := by
  obtain ⟨c, hO, hc⟩ := OldC.start w
  clear hc
  have hn3 := beNat_le3 (l := s.take 3) (by rw [List.length_take]; omega)
  have hk4 := beNat_le4 (l := (s.drop 3).take 4) (by rw [List.length_take]; omega)
  obtain ⟨n, hn⟩ : ∃ n, n = beNat (s.take 3) := ⟨_, rfl⟩
  obtain ⟨k, hkk⟩ : ∃ k, k = beNat ((s.drop 3).take 4) := ⟨_, rfl⟩
  rw [← hn] at hn3
  rw [← hkk] at hk4
  refine enter (n := 65) (res := #[.cell 2 31, .cell 3 86, .tmp 4]) Try.func70 rfl rfl rfl rfl ?_
  refine cseq <| cg ?_
  refine ve (Eff.allocC c 102 zero31) ?_
  rintro _ w1 ⟨b2, c1, rfl, hM1, hb2⟩
  replace hO := hO.mv hM1
  refine ve (Eff.allocC c1 103 zero86) ?_
  rintro _ w2 ⟨b3, c2, rfl, hM2, hb3⟩
  replace hO := hO.mv hM2; replace hb2 := hb2.mv hM2
  refine za rfl <| cnil <| cseq <| cseq <| cg <| zm rfl <| vq (Val.slen Try.underlying9 rfl) <| vq (Val.lss rfl rfl) <| cnil ?_
  refine WC.cond rfl (fun hc1 => ?_) (fun hc1 => ?_)
  ·try simp only [tstS] at hc1
   refine cseq ?_
   refine WC.regionD (Kp c2 w2 [102]) [2, 1, 2, 3, 0] [1, 0, 2, 3, 4] mixed (by kernel_rfl) ?_
   have hM3 := Mv.drew c2 w2 []
   have hCw := Mv.drew c2 w2 [102]
   generalize w2.drew = w3 at hM3 hCw ⊢
   have hb20 := hb2
   have hb30 := hb3
   replace hO := hO.mv hM3; replace hb2 := hb2.mv hM3; replace hb3 := hb3.mv hM3
   refine vc rfl hCw.kp (fun W hW => Val.loadBN agg86 rfl (hb30.kp hW rfl).blk rfl) ?_
   refine WD.eff rfl rfl rfl (Eff.val (Val.loadBN agg31 rfl hb2.blk rfl)) rfl ?_
   rintro _ _ ⟨rfl, rfl⟩
   refine ⟨id, ?_⟩
   refine WD.eff_ rfl rfl rfl (Eff.storeNC agg31 rfl rfl hb2 rfl rfl ones) ?_
   rintro _ w4 ⟨hS, hM4⟩
   refine ⟨fun hC => hC.step hCw hM4 rfl, ?_⟩
   replace hCw := hCw.tr hM4 rfl
   replace hO := hO.mv hM4; replace hb3 := hb3.mv hM4
   replace hb2 := hS
   refine WD.wild rfl rfl rfl (Eff.storeNC agg86 rfl rfl hb3 rfl rfl ones) ?_
   rintro _ w5 ⟨hS, hM5⟩
   try replace hCw := hCw.tr hM5 rfl
   replace hO := hO.mv hM5; replace hb2 := hb2.mv hM5
   replace hb3 := hS
   refine zda rfl rfl ?_
   refine WD.nil ?_
   clear hb20 hb30
   clear hCw
   refine WC.retR3 rfl (RVal.cellN agg31 rfl hb2.blk rfl) (RVal.cellN agg86 rfl hb3.blk rfl) (RVal.tmp rfl) ?_
   have e : takeF s = none := by rw [takeF, if_pos (by omega)]
   rw [e]
   exact ⟨hO.below, _, rec0 0, 0, 0, rfl, recO0 _ _, fun _ _ _ h => by cases h⟩
  ·try simp only [tstS] at hc1
   have h15 : 15 ≤ s.length := by omega
   refine cskip <| cseq <| cg <| zm rfl <| vq (Val.ssliceTo Try.underlying9 rfl rfl side side) ?_
   refine ve (Eff.pureC c2 1 (Eff.call pf75 rfl (number8_ok (s.take 3) (by rw [List.length_take]; omega)))) ?_
   rintro v14 w6 ⟨c6, hM6, hx6, rfl⟩
   replace hO := hO.mv hM6; replace hb2 := hb2.mv hM6; replace hb3 := hb3.mv hM6
   rw [← hn]
   refine vq (Val.convTo64 Try.underlying94 Try.underlying3 rfl (by omega) (by omega)) <| za rfl <| cnil <| cseq <| cseq ?_
   obtain ⟨x, hx⟩ : ∃ x, x = crc (s.take (7 + n)) := ⟨_, rfl⟩
   obtain ⟨y, hy⟩ : ∃ y, y = beNat ((s.drop (7 + n)).take 8) := ⟨_, rfl⟩
   refine WC.regionD (Kp c6 w6 []) [0, 0, 0, 0, 0, 0, 0, 0, 0, 0, 0, 0, 0, 0, 2, 0, 0, 0, 0, 2, 0, 0] [0, 1, 2, 3, 4, 5, 6, 7, 8, 9, 10, 11, 12, 13, 15, 16, 17, 18, 14, 19, 20, 21] mixed (by kernel_rfl) ?_
   have hM7 := Mv.drew c6 w6 []
   have hCw := Mv.drew c6 w6 []
   generalize w6.drew = w7 at hM7 hCw ⊢
   have hb20 := hb2
   have hb30 := hb3
   replace hO := hO.mv hM7; replace hb2 := hb2.mv hM7; replace hb3 := hb3.mv hM7
   refine zdm rfl rfl <| vd rfl (fun _ => Val.slen Try.underlying9 rfl) <| zdm rfl rfl <| vd rfl (fun _ => Val.addI rfl rfl side side) <| vd rfl (fun _ => Val.addI rfl rfl side side) <| vd rfl (fun _ => Val.lss rfl rfl) <| zdm rfl rfl ?_
   apply WD.sc false 14 (!decide ((y : Int) = (x : Int))) (fun w' => ∃ c', Acc c6 w7 [] c' w')
   case hl | hi | hk | hg | hu | hv | hs | hoff | hd => rfl
   case hC => exact hCw.kp
   case hF => exact fun _ => ⟨_, Acc.refl _ _ _⟩
   case hT =>
    intro hq21
    try simp only [tstS] at hq21
    simp only [List.take_succ_cons, List.take_zero]
    have hKsc21 := Acc.refl c6 w7 []
    refine zdm rfl rfl <| zdm rfl rfl <| vd rfl (fun _ => Val.addI rfl rfl side side) <| zdm rfl rfl <| vd rfl (fun _ => Val.addI rfl rfl side side) <| vd rfl (fun _ => Val.addI rfl rfl side side) <| vd rfl (fun _ => Val.sslice Try.underlying9 rfl rfl rfl (by omega) (by omega) (by omega)) ?_
    rw [show ((7 : Int) + (n : Int)).toNat = 7 + n by omega, show ((7 : Int) + (n : Int) + 8).toNat - (7 + n) = 8 by omega]
    refine zdm rfl rfl <| zdm rfl rfl <| vd rfl (fun _ => Val.addI rfl rfl side side) <| vd rfl (fun _ => Val.ssliceTo Try.underlying9 rfl rfl (by omega) (by omega)) ?_
    rw [show ((7 : Int) + (n : Int)).toNat = 7 + n by omega]
    refine WD.eff rfl rfl rfl (Eff.pureC c6 1 (Eff.call pf75 rfl (number8_ok ((s.drop (7 + n)).take 8) (by rw [List.length_take]; omega)))) rfl ?_
    rintro v30 w8 ⟨c8, hM8, hx8, rfl⟩
    refine ⟨fun hC => hC.step hCw hM8 rfl, ?_⟩
    replace hCw := hCw.tr hM8 rfl
    replace hO := hO.mv hM8; replace hb2 := hb2.mv hM8; replace hb3 := hb3.mv hM8; replace hKsc21 := hKsc21.mv hM8
    rw [← hy]
    refine WD.eff rfl rfl rfl (Eff.pureC c8 1 (Eff.call pf67 rfl (cof_ok (s := s.take (7 + n)) (by rw [List.length_take]; omega)))) rfl ?_
    rintro v35 w9 ⟨c9, hM9, hx9, rfl⟩
    refine ⟨fun hC => hC.step hCw hM9 rfl, ?_⟩
    replace hCw := hCw.tr hM9 rfl
    replace hO := hO.mv hM9; replace hb2 := hb2.mv hM9; replace hb3 := hb3.mv hM9; replace hKsc21 := hKsc21.mv hM9
    rw [← hx]
    refine vd rfl (fun _ => Val.neq rfl rfl) ?_
    exact WD.nil ⟨rfl, Sub.drop _ 14 _ rfl rfl, _, hKsc21⟩
   rintro w10 ⟨c10, ⟨hM10⟩⟩
   replace hCw := hCw.tr hM10 rfl
   replace hO := hO.mv hM10; replace hb2 := hb2.mv hM10; replace hb3 := hb3.mv hM10
   refine WD.nil ?_
   clear hb20 hb30
   clear hCw
   refine WC.cond rfl (fun hc4 => ?_) (fun hc4 => ?_)
   ·try simp only [tstS] at hc4
    refine cseq ?_
    refine WC.regionD (Kp c10 w10 [102]) [2, 1, 2, 3, 0] [1, 0, 2, 3, 4] mixed (by kernel_rfl) ?_
    have hM11 := Mv.drew c10 w10 []
    have hCw := Mv.drew c10 w10 [102]
    generalize w10.drew = w11 at hM11 hCw ⊢
    have hb20 := hb2
    have hb30 := hb3
    replace hO := hO.mv hM11; replace hb2 := hb2.mv hM11; replace hb3 := hb3.mv hM11
    refine vc rfl hCw.kp (fun W hW => Val.loadBN agg86 rfl (hb30.kp hW rfl).blk rfl) ?_
    refine WD.eff rfl rfl rfl (Eff.val (Val.loadBN agg31 rfl hb2.blk rfl)) rfl ?_
    rintro _ _ ⟨rfl, rfl⟩
    refine ⟨id, ?_⟩
    refine WD.eff_ rfl rfl rfl (Eff.storeNC agg31 rfl rfl hb2 rfl rfl ones) ?_
    rintro _ w12 ⟨hS, hM12⟩
    refine ⟨fun hC => hC.step hCw hM12 rfl, ?_⟩
    replace hCw := hCw.tr hM12 rfl
    replace hO := hO.mv hM12; replace hb3 := hb3.mv hM12
    replace hb2 := hS
    refine WD.wild rfl rfl rfl (Eff.storeNC agg86 rfl rfl hb3 rfl rfl ones) ?_
    rintro _ w13 ⟨hS, hM13⟩
    try replace hCw := hCw.tr hM13 rfl
    replace hO := hO.mv hM13; replace hb2 := hb2.mv hM13
    replace hb3 := hS
    refine zda rfl rfl ?_
    refine WD.nil ?_
    clear hb20 hb30
    clear hCw
    refine WC.retR3 rfl (RVal.cellN agg31 rfl hb2.blk rfl) (RVal.cellN agg86 rfl hb3.blk rfl) (RVal.tmp rfl) ?_
    have e : takeF s = none := by
      rw [takeF, if_neg (by omega)]
      by_cases h1 : s.length < 15 + beNat (s.take 3)
      · rw [if_pos h1]
      · rw [if_neg h1, if_neg]
        rw [← hn] at h1 ⊢
        rw [← hx, ← hy]
        intro h2
        simp [h2] at hc4
        omega
    rw [e]
    exact ⟨hO.below, _, rec0 0, 0, 0, rfl, recO0 _ _, fun _ _ _ h => by cases h⟩
   ·try simp only [tstS] at hc4
    have hzl : 15 + n ≤ s.length := by simp at hc4; omega
    have hxy : y = x := by simp at hc4; omega
    clear hc4
    refine cskip <| cseq <| cg <| zm rfl <| vq (Val.sslice Try.underlying9 rfl rfl rfl (by omega) (by omega) (by omega)) ?_
    rw [show (7 : Int).toNat - (3 : Int).toNat = 4 from rfl, show (3 : Int).toNat = 3 from rfl]
    refine ve (Eff.pureC c10 1 (Eff.call pf75 rfl (number8_ok ((s.drop 3).take 4) (by rw [List.length_take]; omega)))) ?_
    rintro v42 w14 ⟨c14, hM14, hx14, rfl⟩
    replace hO := hO.mv hM14; replace hb2 := hb2.mv hM14; replace hb3 := hb3.mv hM14
    rw [← hkk]
    refine vq (Val.convTo64 Try.underlying94 Try.underlying3 rfl (by omega) (by omega)) <| zm rfl <| vq (Val.addI rfl rfl side side) <| vq (Val.addI rfl rfl side side) <| vq (Val.build (cells := #[I k, I ((7 : Int) + (n : Int) + 8)]) rfl (by kernel_rfl)) ?_
    refine WR.eff_ (Eff.storeNC agg86 rfl rfl hb3 rfl rfl ones) ?_
    rintro _ w15 ⟨hS, hM15⟩
    replace hO := hO.mv hM15; replace hb2 := hb2.mv hM15
    replace hb3 := hS
    refine cnil <| cseq <| cg <| zm rfl <| zm rfl <| vq (Val.addI rfl rfl side side) <| vq (Val.sslice Try.underlying9 rfl rfl rfl (by omega) (by omega) (by omega)) ?_
    rw [show ((7 : Int) + (n : Int)).toNat - (7 : Int).toNat = n by omega, show (7 : Int).toNat = 7 from rfl]
    refine ve (Eff.pureC c14 5 (Eff.call pf23 rfl (take_own ((s.drop 7).take n) (by rw [List.length_take, List.length_drop]; omega)))) ?_
    rintro v53 w16 ⟨c16, hM16, hx16, ⟨cs, rfl, vl, vs, rfl, ol, os, ok1, ok2, ok3, ok4, ok5⟩⟩
    replace hO := hO.mv hM16; replace hb2 := hb2.mv hM16; replace hb3 := hb3.mv hM16
    replace ol := ol.toC hx16
    replace os := os.toC hx16
    have p1 := ol.oneC; have p2 := os.oneC
    rw [takeSpec_same] at ol os ok1 ok2 ok3 ok4 ok5 ⊢
    have hf : takeF s = match takeSpec plain ((s.drop 7).take n) with | none => none | some r => if k ≤ 1073741824 then some (r, k, 15 + n) else none := by
      rw [takeF, if_neg (by omega), ← hn, if_neg (by omega), ← hx, ← hy, if_pos hxy, ← hkk] <;> (cases takeSpec plain ((s.drop 7).take n) <;> rfl)
    generalize takeSpec plain ((s.drop 7).take n) = T at ol os ok1 ok2 ok3 ok4 ok5 hf ⊢
    refine zm rfl <| vq (Val.extract rfl rfl) <| vq (Val.extract rfl rfl) ?_
    refine WR.eff_ (Eff.storeNC agg31 rfl rfl hb2 rfl rfl ones) ?_
    rintro _ w17 ⟨hS, hM17⟩
    replace hO := hO.mv hM17; replace hb3 := hb3.mv hM17; replace ol := ol.mv hM17; replace os := os.mv hM17
    replace hb2 := hS
    refine za rfl <| cnil <| cseq ?_
    obtain ⟨q, hq⟩ : ∃ q, q = T.getD (rec0 0) := ⟨_, rfl⟩
    rw [← hq] at hb2 ol os ok1 ok2 ok3 ok4 ok5 ⊢
    have hM18 := Mv.drew c16 w17 []
    refine WC.regionD (fun W => Blk W b2 [I q.kind, I q.id, St q.name, St q.digest, vl, vs] 31 ∧ Blk W b3 [I k, I ((7 : Int) + (n : Int) + 8)] 86) [1, 1, 0, 0, 0, 0, 1, 2, 0, 2, 3, 0] [0, 1, 2, 3, 4, 5, 6, 7, 8, 9, 10, 11] mixed (by kernel_rfl) ?_
    replace hO := hO.mv hM18; replace hb2 := hb2.mv hM18; replace hb3 := hb3.mv hM18; replace ol := ol.mv hM18; replace os := os.mv hM18
    generalize w17.drew = w18 at hM18 hO hb2 hb3 ol os ⊢
    refine vc rfl ⟨hb2.blk, hb3.blk⟩ (fun W hW => Val.loadBN agg31 rfl hW.1 rfl) ?_
    refine vc rfl ⟨hb2.blk, hb3.blk⟩ (fun W hW => Val.loadBN agg86 rfl hW.2 rfl) ?_
    refine zdm rfl rfl ?_
    refine vd rfl (fun _ => Val.eql rfl rfl) ?_
    refine zdm rfl rfl ?_
    apply WD.sc true 3 (numB (k : Int)) (fun w' => ∃ c', Acc c16 w18 [] c' w')
    case hl | hi | hk | hg | hu | hv | hs | hoff | hd => rfl
    case hC => exact ⟨hb2.blk, hb3.blk⟩
    case hF => exact fun _ => ⟨_, Acc.refl _ _ _⟩
    case hT =>
      intro hq8
      simp only [List.take_succ_cons, List.take_zero]
      have hA := Acc.refl c16 w18 []
      refine vd rfl (fun _ => Val.fieldAddr fld86_0 rfl) ?_
      refine vc rfl ⟨hb2.blk, hb3.blk⟩ (fun W hW => Val.loadB scl3 rfl hW.2 rfl) ?_
      refine WD.eff rfl rfl rfl (Eff.pureC c16 1 (Eff.call pf54 rfl (rnumber_ok (k : Int)))) rfl ?_
      rintro v63 w19 ⟨c19, hM19, hx19, rfl⟩
      refine ⟨fun _ => ⟨(hb2.mv hM19).blk, (hb3.mv hM19).blk⟩, ?_⟩
      exact WD.nil ⟨rfl, Sub.drop _ 3 _ rfl rfl, _, hA.mv hM19⟩
    rintro w20 ⟨c20, ⟨hM20⟩⟩
    replace hO := hO.mv hM20; replace hb2 := hb2.mv hM20; replace hb3 := hb3.mv hM20; replace ol := ol.mv hM20; replace os := os.mv hM20
    refine WD.eff_ rfl rfl rfl (Eff.storeNC agg31 rfl rfl hb2 rfl rfl ones) ?_
    rintro _ w21 ⟨hS, hM21⟩
    replace hO := hO.mv hM21; replace hb3 := hb3.mv hM21; replace ol := ol.mv hM21; replace os := os.mv hM21
    replace hb2 := hS
    refine ⟨fun _ => ⟨hb2.blk, hb3.blk⟩, ?_⟩
    refine WD.wild rfl rfl rfl (Eff.storeNC agg86 rfl rfl hb3 rfl rfl ones) ?_
    rintro _ w22 ⟨hS3, hM22⟩
    replace hO := hO.mv hM22; replace hb2 := hb2.mv hM22; replace ol := ol.mv hM22; replace os := os.mv hM22
    replace hb3 := hS3
    refine zda rfl rfl ?_
    refine WD.nil ?_
    refine WC.retR3 rfl (RVal.cellN agg31 rfl hb2.blk rfl) (RVal.cellN agg86 rfl hb3.blk rfl) (RVal.tmp rfl) ?_
    have hnb : numB (k : Int) = decide (k ≤ 1073741824) := by
      unfold numB
      rw [Bool.eq_iff_iff, Bool.and_eq_true, decide_eq_true_eq, decide_eq_true_eq, decide_eq_true_eq]; omega
    have hv : (takeF s).isSome = (T.isSome && decide (k ≤ 1073741824)) := by
      rw [hf]
      cases T with
      | none => rfl
      | some r => dsimp only; by_cases h : k ≤ 1073741824 <;> simp [h]
    rw [hv]
    refine ⟨hO.below, _, q, (k : Int), (7 : Int) + (n : Int) + 8, ?_, ⟨vl, vs, rfl, ol.fromOldQ hO (by decide), os.fromOldQ hO (by decide), ok1, ok2, ok3, ok4, ok5⟩, ?_⟩
    · rw [hnb]
      cases T <;> rfl
    · intro r k' z h
      rw [hf] at h
      cases T with
      | none => cases h
      | some r' =>
        dsimp only at h
        split at h
        · simp only [Option.some.injEq, Prod.mk.injEq] at h
          obtain ⟨rfl, rfl, rfl⟩ := h
          exact ⟨hq, rfl, by omega⟩
        · cases h
end Go.Proofs.Ythlfolpcmcejkaa

namespace Silo
open Go Go.Eng
theorem takeF_no {u : List UInt8} (h : ¬ 15 ≤ u.length ∨ u.length < 15 + beNat (u.take 3) ∨ 1073741824 < beNat ((u.drop 3).take 4) ∨ takeSpec plain ((u.drop 7).take (beNat (u.take 3))) = none) : takeF u = none := by
  unfold takeF
  split
  · rfl
  · split
    · rfl
    · split
      · cases ht : takeSpec plain ((u.drop 7).take (beNat (u.take 3))) with
        | none => rfl
        | some r =>
          dsimp only
          rw [if_neg]
          rcases h with h | h | h | h
          · omega
          · omega
          · omega
          · rw [ht] at h; cases h
      · rfl
theorem takeF_is {u : List UInt8} {r : Rec} (h1 : 15 + beNat (u.take 3) ≤ u.length) (h2 : beNat ((u.drop 3).take 4) ≤ 1073741824) (h3 : takeSpec plain ((u.drop 7).take (beNat (u.take 3))) = some r) :
    takeF u = if frameS r (beNat ((u.drop 3).take 4) : Nat) = u.take (15 + beNat (u.take 3)) then some (r, beNat ((u.drop 3).take 4), 15 + beNat (u.take 3)) else none := by
  have hs := frame_sum h1 h3
  rw [takeF, if_neg (by omega), if_neg (by omega)]
  by_cases hc : frameS r (beNat ((u.drop 3).take 4) : Nat) = u.take (15 + beNat (u.take 3))
  · rw [if_pos (hs.1 hc), if_pos hc, h3]
    dsimp only
    rw [if_pos h2]
  · rw [if_neg (fun e => hc (hs.2 e)), if_neg hc]
theorem framesG_stop {f : Nat} {u : List UInt8} {l : List Rec} {first bytes : Nat} (h : takeF u = none ∨ (l ≠ [] ∧ beNat ((u.drop 3).take 4) ≠ first + l.length)) : framesG (f + 1) u l first bytes = (l, first, bytes) := by
  unfold framesG
  cases ht : takeF u with
  | none => rfl
  | some x =>
    obtain ⟨r, k, z⟩ := x
    dsimp only
    rcases h with h | ⟨hl, hk⟩
    · rw [ht] at h; cases h
    · have ek : k = beNat ((u.drop 3).take 4) := by
        unfold takeF at ht
        split at ht
        · cases ht
        · split at ht
          · cases ht
          · split at ht
            · cases hq : takeSpec plain ((u.drop 7).take (beNat (u.take 3))) with
              | none => rw [hq] at ht; cases ht
              | some r' =>
                rw [hq] at ht
                dsimp only at ht
                split at ht
                · simp only [Option.some.injEq, Prod.mk.injEq] at ht
                  exact ht.2.1.symm
                · cases ht
            · cases ht
      rw [if_neg]
      rw [if_neg hl, ek]; exact hk
theorem framesG_go {f : Nat} {u : List UInt8} {l : List Rec} {first bytes k z : Nat} {r : Rec} (h : takeF u = some (r, k, z)) (hk : l = [] ∨ k = first + l.length) : framesG (f + 1) u l first bytes = framesG f (u.drop z) (l ++ [r]) (if l = [] then k else first) (bytes + z) := by
  rw [framesG, h]
  dsimp only
  rw [if_pos]
  rcases hk with rfl | e
  · simp
  · by_cases hl : l = []
    · subst hl; simp
    · rw [if_neg hl]; exact e
end Silo
namespace Go.Proofs.Ythlfolpcmcejkaa
open Go Go.Eng Go.RowKit Silo TryT

/-- Records whose lists are one's own, cell by cell. -/
def EachO (c : Nat → Nat) (w : World) (css : List (List Value)) (l : List Rec) : Prop := css.length = l.length ∧ ∀ (k : Nat) cs x, css[k]? = some cs → l[k]? = some x → ∃ vl vs, cs = [I x.kind, I x.id, St x.name, St x.digest, vl, vs] ∧ OwnC c w 5 TI 1 vl x.list.length (flatL x.list) ∧ OwnC c w 5 TSl 2 vs x.slots.length (flatS x.slots) ∧
  (Go.Eng.Int64 x.kind ∧ Go.Eng.Int64 x.id ∧ x.name.length ≤ 140737488355328 ∧ x.digest.length ≤ 140737488355328) ∧ (∀ y ∈ x.list, Go.Eng.Int64 y) ∧ (∀ y ∈ x.slots, Go.Eng.Int64 y.1 ∧ Go.Eng.Int64 y.2) ∧ x.list.length ≤ 140737488355328 ∧ x.slots.length ≤ 140737488355328
theorem EachO.mv {c c' : Nat → Nat} {w w' : World} {I : List Nat} {css : List (List Value)} {l : List Rec} (h : EachO c w css l) (m : Mv c w c' w' I) (hi : hasC I 5 = false := by rfl) : EachO c' w' css l := ⟨h.1, fun k cs x h1 h2 => by
  obtain ⟨vl, vs, e, a, b, r⟩ := h.2 k cs x h1 h2
  exact ⟨vl, vs, e, a.mv m hi, b.mv m hi, r⟩⟩
theorem eachO0 (c : Nat → Nat) (w : World) : EachO c w [] [] := ⟨rfl, fun k cs x h => by simp at h⟩
theorem EachO.snoc {c : Nat → Nat} {w : World} {css : List (List Value)} {l : List Rec} {x : Rec} {vl vs : Value} (h : EachO c w css l) (a : OwnC c w 5 TI 1 vl x.list.length (flatL x.list)) (b : OwnC c w 5 TSl 2 vs x.slots.length (flatS x.slots))
    (r : (Go.Eng.Int64 x.kind ∧ Go.Eng.Int64 x.id ∧ x.name.length ≤ 140737488355328 ∧ x.digest.length ≤ 140737488355328) ∧ (∀ y ∈ x.list, Go.Eng.Int64 y) ∧ (∀ y ∈ x.slots, Go.Eng.Int64 y.1 ∧ Go.Eng.Int64 y.2) ∧ x.list.length ≤ 140737488355328 ∧ x.slots.length ≤ 140737488355328) :
    EachO c w (css ++ [[I x.kind, I x.id, St x.name, St x.digest, vl, vs]]) (l ++ [x]) := by
  refine ⟨by simp [h.1], fun k cs y h1 h2 => ?_⟩
  rcases Nat.lt_trichotomy k css.length with hk | hk | hk
  · rw [List.getElem?_append_left hk] at h1
    rw [List.getElem?_append_left (by rw [← h.1]; exact hk)] at h2
    exact h.2 k cs y h1 h2
  · subst hk
    rw [List.getElem?_append_right (Nat.le_refl _), Nat.sub_self] at h1
    rw [h.1, List.getElem?_append_right (Nat.le_refl _), Nat.sub_self] at h2
    simp only [List.getElem?_cons_zero, Option.some.injEq] at h1 h2
    subst h1; subst h2
    exact ⟨vl, vs, rfl, a, b, r⟩
  · rw [List.getElem?_eq_none (by simp; omega)] at h1; cases h1

set_option maxHeartbeats 2000000 in
theorem qframes_ok {w : World} {s : List UInt8} (hs : s.length ≤ 1073741824) : Calls Try.prog 33 #[St s] w (Ret fun v w' => Below w.heap.size w w' ∧ ∃ c' vl css, v = .tuple #[vl, I ((framesS s).2.1 : Nat), I ((framesS s).2.2 : Nat)] ∧ OwnC c' w' 7 TX 6 vl (framesS s).1.length css.flatten ∧ EachO c' w' css (framesS s).1 ∧ OldC w c' w') := by
  obtain ⟨c, hO, hc⟩ := OldC.start w
  clear hc
  refine enter (n := 96) (res := #[.tmp 2, .tmp 3, .tmp 4]) Try.func33 rfl rfl rfl rfl ?_
  refine cseq <| cg <| za rfl <| za rfl <| za rfl <| cnil <| cseq <| cg <| za rfl ?_
  refine cnil <| cseq <| cg <| za rfl <| za rfl <| cnil <| cseq ?_
  refine WC.mono (N := (fun e w' => ∃ (c' : Nat → Nat) (vl : Value) (css : List (List Value)) (l : List Rec) (first pos : Nat), Sub [(4000000, .tuple #[]), (5, vl), (6, I first), (7, I pos)] e ∧ OldC w c' w' ∧ OwnC c' w' 7 TX 6 vl l.length css.flatten ∧ EachO c' w' css l ∧ framesS s = (l, first, pos))) ?_ ?_
  ·refine cblock ?_
   refine WC.loop (σ := Value × List Rec × Nat × Nat) (fun st => [(0, St s), (5, st.1), (6, I st.2.2.1), (7, I st.2.2.2)]) (fun st w' => ∃ c' css, OldC w c' w' ∧ OwnC c' w' 7 TX 6 st.1 st.2.1.length css.flatten ∧ EachO c' w' css st.2.1 ∧ st.2.2.2 ≤ s.length ∧ st.2.1.length ≤ st.2.2.2 ∧ st.2.2.1 ≤ 1073741824 ∧ framesS s = framesG (s.length - st.2.2.2 + 1) (s.drop st.2.2.2) st.2.1 st.2.2.1 st.2.2.2) (fun st => s.length - st.2.2.2) (.slice none 0 0, [], 0, 0) subs ⟨_, [], hO, OwnC.nil _ _ _ _ _, eachO0 _ _, by simp, by simp, by simp, rfl⟩ ?_
   clear hO
   rintro ⟨vl, l, first, pos⟩ wl ⟨cl, css, hO, ho, he, hp, hlp, hf, hfr⟩
   dsimp only at ho he hp hlp hf hfr ⊢
   obtain ⟨u, hu⟩ : ∃ u, u = s.drop pos := ⟨_, rfl⟩
   have hul : u.length = s.length - pos := by rw [hu, List.length_drop]
   rw [← hu] at hfr
   have p1 := ho.oneC
   refine cseq <| cseq <| cg <| zm rfl <| vq (Val.slen Try.underlying9 rfl) <| zm rfl <| vq (Val.subI rfl rfl side side) <| vq (Val.geq rfl rfl) <| cnil ?_
   refine WC.cond rfl (fun hc3 => ?_) (fun hc3 => ?_)
   ·try simp only [tstS] at hc3
    have h15 : 15 ≤ u.length := by omega
    obtain ⟨n, hn⟩ : ∃ n, n = beNat (u.take 3) := ⟨_, rfl⟩
    obtain ⟨k, hk⟩ : ∃ k, k = beNat ((u.drop 3).take 4) := ⟨_, rfl⟩
    have hn3 := beNat_le3 (l := u.take 3) (by rw [List.length_take]; omega)
    have hk4 := beNat_le4 (l := (u.drop 3).take 4) (by rw [List.length_take]; omega)
    rw [← hn] at hn3
    rw [← hk] at hk4
    refine cskip <| cblock <| cseq <| cg <| zm rfl <| zm rfl <| zm rfl <| vq (Val.addI rfl rfl side side) <| vq (Val.sslice Try.underlying9 rfl rfl rfl (by omega) (by omega) (by omega)) ?_
    rw [Int.toNat_natCast, show ((pos : Int) + 3).toNat - pos = 3 by omega, ← hu]
    refine ve (Eff.pureC cl 1 (Eff.call pf36 rfl (qNumber_ok (u.take 3) (by rw [List.length_take]; omega)))) ?_
    rintro v22 w1 ⟨c1, hM1, hx1, rfl⟩
    replace hO := hO.mv hM1; replace ho := ho.mv hM1; replace he := he.mv hM1
    rw [← hn]
    refine za rfl <| cnil <| cseq <| cg <| zm rfl <| zm rfl <| vq (Val.addI rfl rfl side side) <| zm rfl <| vq (Val.addI rfl rfl side side) ?_
    refine vq (Val.sslice Try.underlying9 rfl rfl rfl (by omega) (by omega) (by omega)) ?_
    rw [show ((pos : Int) + 3).toNat = pos + 3 by omega, show ((pos : Int) + 7).toNat - (pos + 3) = 4 by omega, ← List.drop_drop, ← hu]
    refine ve (Eff.pureC c1 1 (Eff.call pf36 rfl (qNumber_ok ((u.drop 3).take 4) (by rw [List.length_take]; omega)))) ?_
    rintro v29 w2 ⟨c2, hM2, hx2, rfl⟩
    replace hO := hO.mv hM2; replace ho := ho.mv hM2; replace he := he.mv hM2
    rw [← hk]
    refine za rfl <| cnil <| cseq <| cseq <| cg <| zm rfl <| vq (Val.slen Try.underlying9 rfl) <| zm rfl <| vq (Val.subI rfl rfl side side) ?_
    refine zm rfl <| vq (Val.addI rfl rfl side side) <| vq (Val.lss rfl rfl) <| zm rfl ?_
    apply WR.sc false 2 _ (fun w' => w2 = w')
    case hl | hg | hu | hv | hs | hoff | hd => rfl
    case hF => exact fun _ => rfl
    case hT =>
     intro hq10
     try simp only [tstS] at hq10
     simp only [List.take_succ_cons, List.take_zero]
     refine WR.on rfl rfl ?_
     refine zm rfl ?_
     refine WR.on rfl rfl ?_
     refine vq (Val.gtr rfl rfl) ?_
     exact WR.nil ⟨rfl, Sub.drop _ 2 _ rfl rfl, rfl⟩
    rintro _ rfl
    refine zm rfl ?_
    apply WR.sc false 11 _ (fun w' => w2 = w')
    case hl | hg | hu | hv | hs | hoff | hd => rfl
    case hF => exact fun _ => rfl
    case hT =>
     intro hq23
     try simp only [tstS] at hq23
     simp only [List.take_succ_cons, List.take_zero]
     refine WR.on rfl rfl ?_
     refine zm rfl ?_
     refine WR.on rfl rfl ?_
     refine vq (Val.olen sl22 ho rfl) ?_
     refine WR.on rfl rfl ?_
     refine vq (Val.gtr rfl rfl) ?_
     refine WR.on rfl rfl ?_
     refine zm rfl ?_
     apply WR.sc true 6 _ (fun w' => w2 = w')
     case hl | hg | hu | hv | hs | hoff | hd => rfl
     case hF => exact fun _ => rfl
     case hT =>
      intro hq22
      try simp only [tstS] at hq22
      simp only [List.take_succ_cons, List.take_zero]
      refine WR.on rfl rfl ?_
      refine zm rfl ?_
      refine WR.on rfl rfl ?_
      refine zm rfl ?_
      refine WR.on rfl rfl ?_
      refine zm rfl ?_
      refine WR.on rfl rfl ?_
      refine vq (Val.olen sl22 ho rfl) ?_
      refine WR.on rfl rfl ?_
      refine vq (Val.addI rfl rfl side side) ?_
      refine WR.on rfl rfl ?_
      refine vq (Val.neq rfl rfl) ?_
      exact WR.nil ⟨rfl, Sub.drop _ 6 _ rfl rfl, rfl⟩
     rintro _ rfl
     exact WR.nil ⟨rfl, Sub.drop _ 5 _ rfl rfl, rfl⟩
    rintro _ rfl
    refine cnil ?_
    refine WC.cond rfl (fun hc6 => ?_) (fun hc6 => ?_)
    ·try simp only [tstS] at hc6
     refine WC.exit rfl ?_
     have e : framesS s = (l, first, pos) := by
       rw [hfr]
       by_cases h1 : u.length < 15 + n
       · exact framesG_stop (.inl (takeF_no (.inr (.inl (by rw [← hn]; exact h1)))))
       · by_cases h2 : 1073741824 < k
         · exact framesG_stop (.inl (takeF_no (.inr (.inr (.inl (by rw [← hk]; exact h2))))))
         · have h3 : 0 < l.length ∧ k ≠ first + l.length := by omega
           exact framesG_stop (.inr ⟨fun e => by rw [e] at h3; exact absurd h3.1 (by simp), by rw [← hk]; exact h3.2⟩)
     exact ⟨_, vl, css, l, first, pos, subs, hO, ho, he, e⟩
    ·try simp only [tstS] at hc6
     have hz : 15 + n ≤ u.length := by omega
     have hk2 : k ≤ 1073741824 := by omega
     have hlk : l = [] ∨ k = first + l.length := by
       by_cases h0 : l.length = 0
       · exact .inl (List.eq_nil_of_length_eq_zero h0)
       · right
         have h1 : 0 < (l.length : Int) := by omega
         have h6 := hc6.2
         simp [h1] at h6
         omega
     refine cskip <| cseq <| cg <| zm rfl <| zm rfl <| vq (Val.addI rfl rfl side side) <| zm rfl <| vq (Val.addI rfl rfl side side) <| zm rfl ?_
     refine vq (Val.addI rfl rfl side side) <| vq (Val.sslice Try.underlying9 rfl rfl rfl (by omega) (by omega) (by omega)) ?_
     rw [show ((pos : Int) + 7).toNat = pos + 7 by omega, show ((pos : Int) + 7 + (n : Int)).toNat - (pos + 7) = n by omega, ← List.drop_drop, ← hu]
     refine ve (Eff.pureC c2 5 (Eff.call pf24 rfl (qtake_own ((u.drop 7).take n) (by rw [List.length_take, List.length_drop]; omega)))) ?_
     rintro v63 w3 ⟨c3, hM3, hx3, ⟨cs, rfl, xl, xs, rfl, ol, os, okk⟩⟩
     replace hO := hO.mv hM3; replace ho := ho.mv hM3; replace he := he.mv hM3
     replace ol := ol.toC hx3
     replace os := os.toC hx3
     have p2 := ol.oneC; have p3 := os.oneC
     obtain ⟨T, hT⟩ : ∃ T, T = takeSpec plain ((u.drop 7).take n) := ⟨_, rfl⟩
     rw [← hT] at ol os okk ⊢
     obtain ⟨q, hq⟩ : ∃ q, q = T.getD (rec0 0) := ⟨_, rfl⟩
     rw [← hq] at ol os okk ⊢
     refine zm rfl <| vq (Val.extract rfl rfl) <| vq (Val.extract rfl rfl) ?_
     refine ve (Eff.allocC c3 110 zero31) ?_
     rintro _ w4 ⟨b10, c4, rfl, hM4, hb10⟩
     replace hO := hO.mv hM4; replace ho := ho.mv hM4; replace he := he.mv hM4; replace ol := ol.mv hM4; replace os := os.mv hM4
     refine WR.eff_ (Eff.storeNC agg31 rfl rfl hb10 rfl rfl ones) ?_
     rintro _ w5 ⟨hS, hM5⟩
     replace hO := hO.mv hM5; replace ho := ho.mv hM5; replace he := he.mv hM5; replace ol := ol.mv hM5; replace os := os.mv hM5
     replace hb10 := hS
     refine za rfl <| cnil <| cseq <| cseq ?_
     refine WC.regionD (Kp c4 w5 []) [0, 0, 0, 1, 0, 2, 0, 0, 0, 0, 0, 0, 0, 0, 0] [0, 1, 2, 3, 4, 6, 7, 8, 9, 10, 11, 12, 5, 13, 14] mixed (by kernel_rfl) ?_
     have hM6 := Mv.drew c4 w5 []
     have hCw := Mv.drew c4 w5 []
     generalize w5.drew = w6 at hM6 hCw ⊢
     have hb100 := hb10
     replace hO := hO.mv hM6; replace ho := ho.mv hM6; replace he := he.mv hM6; replace ol := ol.mv hM6; replace os := os.mv hM6; replace hb10 := hb10.mv hM6
     refine zdm rfl rfl <| vd rfl (fun _ => Val.not rfl) <| zdm rfl rfl ?_
     apply WD.sc false 11 (!(frameS q (k : Nat) == u.take (15 + n))) (fun w' => ∃ c', Acc c4 w6 [] c' w')
     case hl | hi | hk | hg | hu | hv | hs | hoff | hd => rfl
     case hC => exact hCw.kp
     case hF => exact fun _ => ⟨_, Acc.refl _ _ _⟩
     case hT =>
      intro hq14
      try simp only [tstS] at hq14
      simp only [List.take_succ_cons, List.take_zero]
      obtain ⟨r, hr⟩ : ∃ r, T = some r := Option.isSome_iff_exists.1 (by simpa using hq14)
      have hqr : q = r := by rw [hq, hr]; rfl
      have hm : mayB q = true := by rw [hqr]; rw [hr] at hT; exact (take_bytes hT.symm).2
      obtain ⟨ok1, ok2, ok3, ok4, ok5⟩ := id okk
      have hrd : RdRec _ [I q.kind, I q.id, St q.name, St q.digest, xl, xs] q := ⟨xl, xs, rfl, ol.own.rdInts ok2 ok4, rdSlots os.own ok3 ok5, ok1.1, ok1.2.1, ok1.2.2.1, ok1.2.2.2⟩
      have hKsc14 := Acc.refl c4 w6 []
      refine vc rfl hCw.kp (fun W hW => Val.loadBN agg31 rfl (hb100.kp hW rfl).blk rfl) <| zdm rfl rfl <| zdm rfl rfl <| zdm rfl rfl <| zdm rfl rfl <| vd rfl (fun _ => Val.addI rfl rfl side side) <| zdm rfl rfl <| vd rfl (fun _ => Val.addI rfl rfl side side) <| vd rfl (fun _ => Val.sslice Try.underlying9 rfl rfl rfl (by omega) (by omega) (by omega)) ?_
      rw [Int.toNat_natCast, show ((pos : Int) + 15 + (n : Int)).toNat - pos = 15 + n by omega, ← hu]
      refine WD.eff rfl rfl rfl (Eff.pureC c4 1 (Eff.call pf31 rfl (qframe_ok (n := (k : Nat)) hrd hm))) rfl ?_
      rintro v71 w7 ⟨c7, hM7, hx7, rfl⟩
      refine ⟨fun hC => hC.step hCw hM7 rfl, ?_⟩
      replace hCw := hCw.tr hM7 rfl
      replace hO := hO.mv hM7; replace ho := ho.mv hM7; replace he := he.mv hM7; replace ol := ol.mv hM7; replace os := os.mv hM7; replace hb10 := hb10.mv hM7; replace hKsc14 := hKsc14.mv hM7
      refine vd rfl (fun _ => Val.sne rfl rfl) ?_
      exact WD.nil ⟨rfl, Sub.drop _ 11 _ rfl rfl, _, hKsc14⟩
     rintro w8 ⟨c8, ⟨hM8⟩⟩
     replace hCw := hCw.tr hM8 rfl
     replace hO := hO.mv hM8; replace ho := ho.mv hM8; replace he := he.mv hM8; replace ol := ol.mv hM8; replace os := os.mv hM8; replace hb10 := hb10.mv hM8
     refine WD.nil ?_
     clear hb100
     clear hCw
     refine WC.cond rfl (fun hc8 => ?_) (fun hc8 => ?_)
     ·try simp only [tstS] at hc8
      refine WC.exit rfl ?_
      have e : framesS s = (l, first, pos) := by
        rw [hfr]
        cases hTT : T with
        | none => exact framesG_stop (.inl (takeF_no (.inr (.inr (.inr (by rw [← hn, ← hT, hTT]))))))
        | some r =>
          have hqr : q = r := by rw [hq, hTT]; rfl
          refine framesG_stop (.inl ?_)
          rw [takeF_is (r := r) (by rw [← hn]; exact hz) (by rw [← hk]; exact hk2) (by rw [← hn, ← hT, hTT]), ← hn, ← hk, if_neg]
          intro h
          rw [hqr, hTT, h] at hc8
          simp at hc8
      exact ⟨_, vl, css, l, first, pos, subs, hO, ho, he, e⟩
     ·try simp only [tstS] at hc8
      obtain ⟨r, hr⟩ : ∃ r, T = some r := by
        cases hTT : T with
        | none => rw [hTT] at hc8; simp at hc8
        | some r => exact ⟨r, rfl⟩
      have hqr : q = r := by rw [hq, hr]; rfl
      have htk : takeF u = some (q, k, 15 + n) := by
        have hfe : frameS r (k : Nat) = u.take (15 + n) := by
          rw [hqr, hr] at hc8
          simpa using hc8
        rw [takeF_is (r := r) (by rw [← hn]; exact hz) (by rw [← hk]; exact hk2) (by rw [← hn, ← hT, hr]), ← hn, ← hk, if_pos hfe, hqr]
      have hgo := framesG_go (f := s.length - pos) (first := first) (bytes := pos) htk hlk
      have hfu := framesG_fuel (s.length - pos) (s.length - (pos + 15 + n) + 1) (u.drop (15 + n)) (l ++ [q]) (if l = [] then k else first) (pos + (15 + n)) (by rw [List.length_drop]; omega) (by rw [List.length_drop]; omega)
      have hdd : u.drop (15 + n) = s.drop (pos + 15 + n) := by rw [hu, List.drop_drop]; congr 1; omega
      rw [hgo, hfu, hdd, ← Nat.add_assoc] at hfr
      have he2 := he.snoc ol os okk
      replace he := he2
      refine cskip <| cseq <| cseq <| cg <| zm rfl <| vq (Val.olen sl22 ho rfl) <| vq (Val.eql rfl rfl) <| cnil ?_
      refine WC.cond rfl (fun hc9 => ?_) (fun hc9 => ?_)
      ·try simp only [tstS] at hc9
       refine cg <| zm rfl <| za rfl <| cnil <| cseq <| cg <| zm rfl <| vq (Val.loadBN agg31 rfl hb10.blk rfl) ?_
       refine ve (Eff.build1C c8 187 sl22 rfl rfl rfl rfl rfl) ?_
       rintro _ w9 ⟨b87, c9, rfl, hM9, hb87⟩
       replace hO := hO.mv hM9; replace ho := ho.mv hM9; replace he := he.mv hM9; replace ol := ol.mv hM9; replace os := os.mv hM9; replace hb10 := hb10.mv hM9
       refine ve (Eff.appendC sl22 rfl rfl ho (Src.cellsAt Try.underlying22 hb87.blk.cellsAt rfl ones) mxl oms) ?_
       rintro v88 w10 ⟨c10, hM10, hOq⟩
       clear hb87
       replace hO := hO.mv hM10; replace he := he.mv hM10; replace ol := ol.mv hM10; replace os := os.mv hM10; replace hb10 := hb10.mv hM10
       replace ho := hOq
       refine za rfl <| cnil <| cg <| zm rfl <| vq (Val.addI rfl rfl side side) <| zm rfl <| vq (Val.addI rfl rfl side side) <| za rfl <| cnil ?_
       have hcf : (css ++ [[I q.kind, I q.id, St q.name, St q.digest, xl, xs]]).flatten = css.flatten ++ [I q.kind, I q.id, St q.name, St q.digest, xl, xs] := by simp
       have hll : (l ++ [q]).length = l.length + 1 := by simp
       first
       | (have h0 : l = [] := List.eq_nil_of_length_eq_zero (by omega)); (rw [if_pos h0] at hfr); exact ⟨(_, l ++ [q], k, pos + 15 + n), subs, ⟨_, css ++ [[I q.kind, I q.id, St q.name, St q.digest, xl, xs]], hO, by dsimp only; rw [hcf, hll]; exact ho, he, by dsimp only; omega, by dsimp only; omega, hk2, hfr⟩, by dsimp only; omega⟩
       | (have h0 : ¬ l = [] := fun e => by rw [e] at hc9; simp at hc9); (rw [if_neg h0] at hfr); exact ⟨(_, l ++ [q], first, pos + 15 + n), subs, ⟨_, css ++ [[I q.kind, I q.id, St q.name, St q.digest, xl, xs]], hO, by dsimp only; rw [hcf, hll]; exact ho, he, by dsimp only; omega, by dsimp only; omega, hf, hfr⟩, by dsimp only; omega⟩
      ·try simp only [tstS] at hc9
       refine cskip <| cseq <| cg <| zm rfl <| vq (Val.loadBN agg31 rfl hb10.blk rfl) ?_
       refine ve (Eff.build1C c8 187 sl22 rfl rfl rfl rfl rfl) ?_
       rintro _ w11 ⟨b87, c11, rfl, hM11, hb87⟩
       replace hO := hO.mv hM11; replace ho := ho.mv hM11; replace he := he.mv hM11; replace ol := ol.mv hM11; replace os := os.mv hM11; replace hb10 := hb10.mv hM11
       refine ve (Eff.appendC sl22 rfl rfl ho (Src.cellsAt Try.underlying22 hb87.blk.cellsAt rfl ones) mxl oms) ?_
       rintro v88 w12 ⟨c12, hM12, hOq⟩
       clear hb87
       replace hO := hO.mv hM12; replace he := he.mv hM12; replace ol := ol.mv hM12; replace os := os.mv hM12; replace hb10 := hb10.mv hM12
       replace ho := hOq
       refine za rfl <| cnil <| cg <| zm rfl <| vq (Val.addI rfl rfl side side) <| zm rfl <| vq (Val.addI rfl rfl side side) <| za rfl <| cnil ?_
       have hcf : (css ++ [[I q.kind, I q.id, St q.name, St q.digest, xl, xs]]).flatten = css.flatten ++ [I q.kind, I q.id, St q.name, St q.digest, xl, xs] := by simp
       have hll : (l ++ [q]).length = l.length + 1 := by simp
       first
       | (have h0 : l = [] := List.eq_nil_of_length_eq_zero (by omega)); (rw [if_pos h0] at hfr); exact ⟨(_, l ++ [q], k, pos + 15 + n), subs, ⟨_, css ++ [[I q.kind, I q.id, St q.name, St q.digest, xl, xs]], hO, by dsimp only; rw [hcf, hll]; exact ho, he, by dsimp only; omega, by dsimp only; omega, hk2, hfr⟩, by dsimp only; omega⟩
       | (have h0 : ¬ l = [] := fun e => by rw [e] at hc9; simp at hc9); (rw [if_neg h0] at hfr); exact ⟨(_, l ++ [q], first, pos + 15 + n), subs, ⟨_, css ++ [[I q.kind, I q.id, St q.name, St q.digest, xl, xs]], hO, by dsimp only; rw [hcf, hll]; exact ho, he, by dsimp only; omega, by dsimp only; omega, hf, hfr⟩, by dsimp only; omega⟩
   ·try simp only [tstS] at hc3
    refine WC.exit rfl ?_
    have e : framesS s = (l, first, pos) := by rw [hfr]; exact framesG_stop (.inl (takeF_no (.inl (by omega))))
    exact ⟨_, vl, css, l, first, pos, subs, hO, ho, he, e⟩
  ·skip
   rintro e9 w9 ⟨c9, vl, css, l, first, pos, hsub, hO, ho, he, e⟩
   refine WC.sub hsub ?_
   clear hsub e9
   refine cseq <| cg <| zm rfl <| zm rfl <| zm rfl <| za rfl <| za rfl <| za rfl <| cnil ?_
   refine WC.ret3 rfl rfl rfl rfl ?_
   rw [e]
   exact ⟨hO.below, c9, vl, css, rfl, ho, he, hO⟩
end Go.Proofs.Ythlfolpcmcejkaa

namespace Silo
open Go Go.Eng
def flen (r : Rec) : Nat := 15 + (bytesOf r).length
def EL (l : List Rec) : Nat := (l.map flen).sum
/-- Frames behind each other, numbered. -/
def catF : List Rec → Nat → List UInt8
  | [], _ => []
  | r :: l, n => frameS r (n : Nat) ++ catF l (n + 1)
theorem EL_cons (r : Rec) (l : List Rec) : EL (r :: l) = flen r + EL l := rfl
theorem catF_len : ∀ (l : List Rec) (n : Nat), (catF l n).length = EL l
  | [], _ => rfl
  | r :: l, n => by rw [catF, List.length_append, frameS_len, catF_len l, EL_cons, flen]
theorem catF_app : ∀ (a b : List Rec) (n : Nat), catF (a ++ b) n = catF a n ++ catF b (n + a.length)
  | [], b, n => rfl
  | r :: a, b, n => by
    rw [List.cons_append, catF, catF, catF_app a b, List.append_assoc, List.length_cons, Nat.add_assoc n 1, Nat.add_comm 1]
theorem catF_split (l : List Rec) (n w : Nat) (hw : w ≤ l.length) : catF l n = catF (l.take w) n ++ catF (l.drop w) (n + w) := by
  have := catF_app (l.take w) (l.drop w) n
  rw [List.take_append_drop, List.length_take, Nat.min_eq_left hw] at this
  exact this
theorem EL_take_succ {l : List Rec} {w : Nat} (hw : w < l.length) : EL (l.take (w + 1)) = EL (l.take w) + flen l[w] := by
  rw [EL, EL, List.take_succ_eq_append_getElem hw, List.map_append, List.sum_append]; simp
/-- A frame's parts, where something follows. -/
theorem frame_parts {r : Rec} {k : Nat} {x t : List UInt8} (h : mayB r = true) (hx : x.length = flen r) (h3 : x.take 3 = be 3 ((bytesOf r).length : Nat)) : beNat ((x ++ t).take 3) = (bytesOf r).length ∧ (x ++ t).take (15 + (bytesOf r).length) = x ∧ 15 + (bytesOf r).length ≤ (x ++ t).length := by
  have hl := bytes_len h
  unfold flen at hx
  refine ⟨?_, ?_, by rw [List.length_append]; omega⟩
  · rw [List.take_append_of_le_length (by omega), h3, beNat_be, Nat.mod_eq_of_lt (by omega)]
  · rw [List.take_append_of_le_length (by omega), List.take_of_length_le (by omega)]
theorem frame_take3 (r : Rec) (k : Int) : (frameS r k).take 3 = be 3 ((bytesOf r).length : Nat) := by
  rw [frameS, frameH, List.append_assoc, List.append_assoc, List.take_append_of_le_length (by rw [be_length]; omega), List.take_of_length_le (by rw [be_length]; omega)]
theorem frame_num {r : Rec} {k : Nat} {t : List UInt8} (hk : k < 4294967296) : beNat (((frameS r (k : Nat) ++ t).drop 3).take 4) = k := by
  have e : ((frameS r (k : Nat) ++ t).drop 3).take 4 = be 4 (k : Nat) := by
    rw [frameS, frameH, List.append_assoc, List.append_assoc, List.append_assoc, List.drop_append, List.drop_eq_nil_of_le (by rw [be_length]; omega), be_length, List.nil_append, List.drop_zero, List.take_append_of_le_length (by rw [be_length]; omega), List.take_of_length_le (by rw [be_length]; omega)]
  rw [e, beNatF4 hk]
theorem frame_bytes {r : Rec} {k : Int} {t : List UInt8} : ((frameS r k ++ t).drop 7).take (bytesOf r).length = bytesOf r := by
  have e : frameS r k ++ t = (be 3 ((bytesOf r).length : Nat) ++ be 4 k) ++ (bytesOf r ++ (be 8 (crc (frameH r k) : Nat) ++ t)) := by simp [frameS, frameH, List.append_assoc]
  rw [e, List.drop_append, List.drop_eq_nil_of_le (by simp [be_length]), List.nil_append, show (be 3 ((bytesOf r).length : Nat) ++ be 4 k).length = 7 by simp [be_length], Nat.sub_self, List.drop_zero, List.take_append_of_le_length (Nat.le_refl _), List.take_of_length_le (Nat.le_refl _)]
/-- A frame is found where it stands. -/
theorem takeF_frame {r : Rec} {k : Nat} {t : List UInt8} (h : mayB r = true) (hk : k ≤ 1073741824) : takeF (frameS r (k : Nat) ++ t) = some (r, k, flen r) := by
  obtain ⟨p1, p2, p3⟩ := frame_parts (k := k) (t := t) h (frameS_len r (k : Nat)) (frame_take3 r _)
  have p4 := frame_num (r := r) (t := t) (show k < 4294967296 by omega)
  have p5 := frame_bytes (r := r) (k := (k : Nat)) (t := t)
  rw [takeF_is (r := r) (by rw [p1]; exact p3) (by rw [p4]; exact hk) (by rw [p1, p5]; exact bytes_take h), p4, p1, p2, if_pos rfl, flen]
/-- .. and not where it is cut off. -/
theorem takeF_cut {r : Rec} {k : Nat} {t : List UInt8} {m : Nat} (h : mayB r = true) (hm : m < flen r) : takeF ((frameS r (k : Nat) ++ t).take m) = none := by
  have hl := bytes_len h
  have hfl := frameS_len r (k : Nat)
  have hlen : ((frameS r (k : Nat) ++ t).take m).length = m := by unfold flen at hm; rw [List.length_take, List.length_append]; omega
  rcases Nat.lt_or_ge m 15 with h15 | h15
  · exact takeF_no (.inl (by omega))
  · refine takeF_no (.inr (.inl ?_))
    have e : ((frameS r (k : Nat) ++ t).take m).take 3 = be 3 ((bytesOf r).length : Nat) := by
      rw [List.take_take, Nat.min_eq_left (by omega), List.take_append_of_le_length (by omega)]
      exact frame_take3 r _
    rw [hlen, e, beNat_be, Nat.mod_eq_of_lt (by omega)]
    exact hm
theorem takeF_nil : takeF [] = none := takeF_no (.inl (by simp))
/-- All whole frames are told, where what follows is none. -/
theorem framesG_stopAt {rest : List UInt8} (hr : takeF rest = none) : ∀ (l : List Rec) (f : Nat) (a : List Rec) (first bytes nxt : Nat), (∀ r ∈ l, mayB r = true) → nxt + l.length ≤ 1073741824 → (a = [] ∨ nxt = first + a.length) → l.length < f →
    framesG f (catF l nxt ++ rest) a first bytes = (a ++ l, if a = [] ∧ l ≠ [] then nxt else first, bytes + EL l)
  | [], f + 1, a, first, bytes, nxt, _, _, _, _ => by
    rw [catF, List.nil_append, framesG_stop (.inl hr)]
    simp [EL]
  | r :: l, f + 1, a, first, bytes, nxt, hm, hn, ha, hf => by
    have hmr := hm r (by simp)
    rw [List.length_cons] at hn hf
    rw [catF, List.append_assoc, framesG_go (takeF_frame hmr (by omega)) ha, List.drop_append, List.drop_eq_nil_of_le (by rw [frameS_len, flen]; omega), List.nil_append, frameS_len, flen, Nat.sub_self, List.drop_zero]
    rw [framesG_stopAt hr l f (a ++ [r]) _ _ (nxt + 1) (fun x hx => hm x (by simp [hx])) (by omega) (.inr ?_) (by omega)]
    · simp only [List.append_assoc, List.singleton_append, EL_cons, flen, Prod.mk.injEq, true_and]
      refine ⟨?_, by omega⟩
      have : a ++ [r] ≠ [] := by simp
      rw [if_neg (fun h => by simp at h)]
      by_cases h0 : a = []
      · rw [if_pos h0, if_pos ⟨h0, by simp⟩]
      · rw [if_neg h0, if_neg fun h => h0 h.1]
    · rw [List.length_append, List.length_singleton]
      rcases ha with rfl | ha
      · rw [if_pos rfl]; simp
      · by_cases h0 : a = []
        · subst h0; rw [if_pos rfl]; simp
        · rw [if_neg h0]; omega
  | _, 0, _, _, _, _, _, _, _, hf => absurd hf (Nat.not_lt_zero _)
theorem framesS_stopAt {l : List Rec} {rest : List UInt8} (hr : takeF rest = none) (hm : ∀ r ∈ l, mayB r = true) (hl : l.length ≤ 1000000) : framesS (catF l 7 ++ rest) = (l, if l = [] then 0 else 7, EL l) := by
  have h1 : l.length ≤ (catF l 7 ++ rest).length := by
    rw [List.length_append, catF_len]
    have : ∀ l : List Rec, l.length ≤ EL l := fun l => by
      induction l with
      | nil => simp [EL]
      | cons r l ih => rw [EL_cons, List.length_cons, flen]; omega
    have := this l; omega
  rw [framesS, framesG_stopAt hr l _ [] 0 0 7 hm (by omega) (.inl rfl) (by omega)]
  by_cases h0 : l = [] <;> simp [h0]
/-- Cut off anywhere. -/
theorem frames_cut {l : List Rec} {n w : Nat} (hm : ∀ r ∈ l, mayB r = true) (hl : l.length ≤ 1000000) (hw : w ≤ l.length) (h1 : EL (l.take w) ≤ n) (h2 : w = l.length ∨ n < EL (l.take (w + 1))) :
    framesS ((catF l 7).take n) = (l.take w, if w = 0 then 0 else 7, EL (l.take w)) := by
  have hs := catF_split l 7 w hw
  have hln : (catF (l.take w) 7).length = EL (l.take w) := catF_len _ _
  rw [hs, List.take_append, List.take_of_length_le (by omega), hln]
  have hr : takeF ((catF (l.drop w) (7 + w)).take (n - EL (l.take w))) = none := by
    rcases Nat.lt_or_ge w l.length with h | h
    · rw [List.drop_eq_getElem_cons h, catF]
      rcases h2 with h2 | h2
      · omega
      · rw [EL_take_succ h] at h2
        exact takeF_cut (hm _ (List.getElem_mem h)) (by omega)
    · rw [List.drop_eq_nil_of_le h, catF, List.take_nil]; exact takeF_nil
  rw [framesS_stopAt hr (fun r hr => hm r (List.mem_of_mem_take hr)) (by rw [List.length_take]; omega)]
  congr 2
  by_cases h0 : w = 0
  · subst h0; simp
  · rw [if_neg h0, if_neg]
    intro h
    have := congrArg List.length h
    rw [List.length_take, List.length_nil] at this
    omega
/-! ### One bit turned -/
theorem xor_cancel {a b x : Nat} (h : a ^^^ x = b ^^^ x) : a = b := by
  have := congrArg (· ^^^ x) h
  simpa [Nat.xor_assoc] using this
theorem crcT_inj {x y : Nat} (hx : x < 18446744073709551616) (hy : y < 18446744073709551616) (h : crcT x = crcT y) : x = y := by
  have key : ∀ a b : Nat, a < 9223372036854775808 → b < 9223372036854775808 → a ^^^ 14514072000185962306 ≠ b := fun a b ha hb e => by
    have h1 : a ^^^ b = 14514072000185962306 := by
      rw [← e, ← Nat.xor_assoc, Nat.xor_self, Nat.zero_xor]
    have h2 : a ^^^ b < 2 ^ 63 := Nat.xor_lt_two_pow (n := 63) (by omega) (by omega)
    omega
  unfold crcT at h
  split at h <;> split at h
  · have := xor_cancel h; omega
  · exact (key (x / 2) (y / 2) (by omega) (by omega) h).elim
  · exact (key (y / 2) (x / 2) (by omega) (by omega) h.symm).elim
  · omega
theorem crcN_inj : ∀ (k : Nat) {x y : Nat}, x < 18446744073709551616 → y < 18446744073709551616 → crcN k x = crcN k y → x = y
  | 0, _, _, _, _, h => h
  | k + 1, _, _, hx, hy, h => crcN_inj k hx hy (crcT_inj (crcN_lt k hx) (crcN_lt k hy) h)
theorem crcB_state {x y : Nat} {b : UInt8} (hx : x < 18446744073709551616) (hy : y < 18446744073709551616) (h : crcB x b = crcB y b) : x = y :=
  xor_cancel (crcN_inj 8 (xor_byte_lt b hx) (xor_byte_lt b hy) h)
theorem crcB_byte {x : Nat} {a b : UInt8} (hx : x < 18446744073709551616) (h : crcB x a = crcB x b) : a = b := by
  have h1 := crcN_inj 8 (xor_byte_lt a hx) (xor_byte_lt b hx) h
  rw [Nat.xor_comm x, Nat.xor_comm x] at h1
  exact UInt8.toNat_inj.1 (xor_cancel h1)
theorem crcL_state : ∀ (s : List UInt8) {x y : Nat}, x < 18446744073709551616 → y < 18446744073709551616 → crcL x s = crcL y s → x = y
  | [], _, _, _, _, h => h
  | b :: s, _, _, hx, hy, h => crcB_state hx hy (crcL_state s (crcB_lt b hx) (crcB_lt b hy) h)
theorem crcL_set : ∀ (s : List UInt8) (q : Nat) {x : Nat} {b : UInt8} (hq : q < s.length), x < 18446744073709551616 → crcL x (s.set q b) = crcL x s → b = s[q]
  | a :: s, 0, x, b, _, hx, h => crcB_byte hx (crcL_state s (crcB_lt b hx) (crcB_lt a hx) h)
  | a :: s, q + 1, x, b, hq, hx, h => crcL_set s q (by simpa using hq) (crcB_lt a hx) h
theorem crc_set {s : List UInt8} {q : Nat} {b : UInt8} (hq : q < s.length) (h : crc (s.set q b) = crc s) : b = s[q] := by
  have h0 := inv64_lt 0
  have h1 := crcL_lt (s.set q b) h0
  have h2 := crcL_lt s h0
  refine crcL_set s q hq h0 ?_
  unfold crc at h
  generalize crcL (inv64 0) (s.set q b) = x at h1 h
  generalize crcL (inv64 0) s = y at h2 h
  unfold inv64 at h
  omega
theorem takeF_turned {r : Rec} {k : Nat} {t : List UInt8} {q : Nat} {b : UInt8} (h : mayB r = true) (h3 : 3 ≤ q) (hq : q < (frameS r (k : Nat)).length) (hb : b ≠ (frameS r (k : Nat))[q]) : takeF ((frameS r (k : Nat)).set q b ++ t) = none := by
  have hl := bytes_len h
  have hfl := frameS_len r (k : Nat)
  have hhl := frameH_len r (k : Nat)
  have e3 : ((frameS r (k : Nat)).set q b).take 3 = be 3 ((bytesOf r).length : Nat) := by
    rw [List.take_set_of_le h3]; exact frame_take3 r _
  obtain ⟨p1, p2, p3⟩ := frame_parts (k := k) (x := (frameS r (k : Nat)).set q b) (t := t) h (by rw [List.length_set, hfl, flen]) e3
  have eu : ((frameS r (k : Nat)).set q b ++ t).take (7 + (bytesOf r).length) = ((frameS r (k : Nat)).set q b).take (7 + (bytesOf r).length) := by
    rw [List.take_append_of_le_length (by rw [List.length_set]; omega)]
  have ev : (((frameS r (k : Nat)).set q b ++ t).drop (7 + (bytesOf r).length)).take 8 = ((frameS r (k : Nat)).set q b).drop (7 + (bytesOf r).length) := by
    rw [List.drop_append_of_le_length (by rw [List.length_set]; omega), List.take_append_of_le_length (by rw [List.length_drop, List.length_set]; omega), List.take_of_length_le (by rw [List.length_drop, List.length_set]; omega)]
  rw [takeF, if_neg (by omega), p1, if_neg (by omega), eu, ev, if_neg]
  have hc := crc_lt (frameH r (k : Nat))
  rcases Nat.lt_or_ge q (7 + (bytesOf r).length) with hlt | hge
  · have e1 : ((frameS r (k : Nat)).set q b).take (7 + (bytesOf r).length) = (frameH r (k : Nat)).set q b := by
      rw [frameS, List.set_append_left (h := by omega), List.take_append_of_le_length (by rw [List.length_set]; omega), List.take_of_length_le (by rw [List.length_set]; omega)]
    have e2 : ((frameS r (k : Nat)).set q b).drop (7 + (bytesOf r).length) = be 8 (crc (frameH r (k : Nat)) : Nat) := by
      rw [frameS, List.set_append_left (h := by omega), List.drop_append, List.drop_eq_nil_of_le (by rw [List.length_set]; omega), List.length_set, hhl, Nat.sub_self, List.drop_zero, List.nil_append]
    rw [e1, e2, beNat_be, Nat.mod_eq_of_lt (by simpa using hc)]
    intro e
    have := crc_set (s := frameH r (k : Nat)) (q := q) (by omega) e.symm
    refine hb ?_
    rw [this]
    simp only [frameS]
    rw [List.getElem_append_left (by omega)]
  · have e1 : ((frameS r (k : Nat)).set q b).take (7 + (bytesOf r).length) = frameH r (k : Nat) := by
      rw [frameS, List.set_append_right (h := by omega), List.take_append_of_le_length (by omega), List.take_of_length_le (by omega)]
    have e2 : ((frameS r (k : Nat)).set q b).drop (7 + (bytesOf r).length) = (be 8 (crc (frameH r (k : Nat)) : Nat)).set (q - (7 + (bytesOf r).length)) b := by
      rw [frameS, List.set_append_right (h := by omega), List.drop_append, List.drop_eq_nil_of_le (by omega), hhl, Nat.sub_self, List.drop_zero, List.nil_append]
    rw [e1, e2]
    intro e
    have h8 := be_beNat ((be 8 (crc (frameH r (k : Nat)) : Nat)).set (q - (7 + (bytesOf r).length)) b)
    rw [List.length_set, be_length, e] at h8
    refine hb ?_
    have hj : q - (7 + (bytesOf r).length) < (be 8 (crc (frameH r (k : Nat)) : Nat)).length := by rw [be_length]; omega
    have h9 : ((be 8 (crc (frameH r (k : Nat)) : Nat)).set (q - (7 + (bytesOf r).length)) b)[q - (7 + (bytesOf r).length)]'(by rw [List.length_set]; exact hj) = b := List.getElem_set_self _
    simp only [frameS]
    rw [List.getElem_append_right (by omega)]
    simp only [hhl]
    exact h9.symm.trans (List.getElem_of_eq h8.symm _)
/-- One byte turned behind a frame's length. -/
theorem frames_turned {l : List Rec} {p w : Nat} {b : UInt8} (hm : ∀ r ∈ l, mayB r = true) (hl : l.length ≤ 1000000) (hw : w < l.length) (h1 : EL (l.take w) + 3 ≤ p) (h2 : p < EL (l.take (w + 1))) (hp : p < (catF l 7).length) (hb : b ≠ (catF l 7)[p]) :
    (framesS ((catF l 7).set p b)).1 = l.take w := by
  have hs := catF_split l 7 w (Nat.le_of_lt hw)
  have hln : (catF (l.take w) 7).length = EL (l.take w) := catF_len _ _
  have hfl := frameS_len l[w] ((7 + w : Nat) : Int)
  rw [EL_take_succ hw, flen] at h2
  have e : (catF l 7).set p b = catF (l.take w) 7 ++ ((frameS l[w] ((7 + w : Nat) : Int)).set (p - EL (l.take w)) b ++ catF (l.drop (w + 1)) (7 + w + 1)) := by
    rw [hs, List.set_append_right (h := by omega), hln, List.drop_eq_getElem_cons hw, catF, List.set_append_left (h := by omega)]
  have hb2 : b ≠ (frameS l[w] ((7 + w : Nat) : Int))[p - EL (l.take w)]'(by omega) := fun h => hb (by
    rw [h]
    simp only [hs]
    rw [List.getElem_append_right (by omega)]
    simp only [hln, List.drop_eq_getElem_cons hw, catF]
    rw [List.getElem_append_left (by omega)])
  rw [e, framesS_stopAt (takeF_turned (hm _ (List.getElem_mem hw)) (by omega) (by omega) hb2) (fun r hr => hm r (List.mem_of_mem_take hr)) (by rw [List.length_take]; omega)]
end Silo

namespace Go.Proofs.Ythlfolpcmcejkaa
open Go Go.Eng Go.RowKit Silo TryT

/-- A record whose lists are one's own. -/
def RecQ (c : Nat → Nat) (w : World) (cs : List Value) (x : Rec) : Prop := ∃ vl vs, cs = [I x.kind, I x.id, St x.name, St x.digest, vl, vs] ∧ OwnC c w 5 TI 1 vl x.list.length (flatL x.list) ∧ OwnC c w 5 TSl 2 vs x.slots.length (flatS x.slots) ∧
  ((Go.Eng.Int64 x.kind ∧ Go.Eng.Int64 x.id ∧ x.name.length ≤ 140737488355328 ∧ x.digest.length ≤ 140737488355328) ∧ (∀ y ∈ x.list, Go.Eng.Int64 y) ∧ (∀ y ∈ x.slots, Go.Eng.Int64 y.1 ∧ Go.Eng.Int64 y.2) ∧ x.list.length ≤ 140737488355328 ∧ x.slots.length ≤ 140737488355328)
theorem RecQ.mv {c c' : Nat → Nat} {w w' : World} {I : List Nat} {cs : List Value} {x : Rec} (h : RecQ c w cs x) (m : Mv c w c' w' I) (hi : hasC I 5 = false := by rfl) : RecQ c' w' cs x := by
  obtain ⟨vl, vs, e, a, b, r⟩ := h
  exact ⟨vl, vs, e, a.mv m hi, b.mv m hi, r⟩
theorem EachO.snocQ {c : Nat → Nat} {w : World} {css : List (List Value)} {l : List Rec} {x : Rec} {cs : List Value} (h : EachO c w css l) (a : RecQ c w cs x) : EachO c w (css ++ [cs]) (l ++ [x]) := by
  obtain ⟨vl, vs, rfl, a1, a2, r⟩ := a
  exact h.snoc a1 a2 r
/-- What the iterator hands out: a record's cells, and what they stand for. -/
abbrev FrX := List Value × Rec × Nat × Nat
def endF (l : List FrX) : Nat := (l.map fun x => x.2.2.2).sum
theorem endF_snoc (l : List FrX) (cs : List Value) (q : Rec) (k z : Nat) : endF (l ++ [(cs, q, k, z)]) = endF l + z := by simp [endF]
def QF (s : List UInt8) (pre : List FrX) (x : FrX) (d : Nat → Nat) (A : World) : Prop := takeF (s.drop (endF pre)) = some (x.2.1, x.2.2.1, x.2.2.2) ∧ RecQ d A x.1 x.2.1 ∧ (mayB x.2.1 = true ∧ x.2.2.1 ≤ 1073741824 ∧ endF pre + x.2.2.2 ≤ s.length)
def FinF (s : List UInt8) (L : List FrX) : Prop := takeF (s.drop (endF L)) = none

set_option maxHeartbeats 1000000 in
theorem walk_iter {w0 : World} {c0 : Nat → Nat} {b1 : Nat} {s : List UInt8} (hs : s.length ≤ 1073741824) (hb1 : BlkC c0 w0 70 b1 [St s] 9) :
    IterQ Try.prog 69 [.pointer (some ⟨b1, 0, none⟩)] (fun x : FrX => [.agg x.1.toArray, .agg #[I x.2.2.1, I x.2.2.2]]) [70, 53, 54] [] (QF s) (FinF s) c0 w0 := by
  intro l J Jx c1 W K hM hK hJi hJxi hy hJ0
  have hN : ∀ i ∈ [70, 53, 54], hasC K i = false := fun i hi => apart_of hK (by simpa using hi)
  replace hb1 := hb1.mv hM (hN 70 (by simp))
  have hJ : JC (J []) [70, 53, 54] c1 W := ⟨hJ0, fun _ _ _ _ h m => hJi _ _ _ _ _ h m⟩
  clear hM hN hK
  show Calls _ _ [_, _].toArray _ _
  refine enter (n := 25) (res := #[]) Try.func69 rfl rfl rfl rfl ?_
  refine cblock ?_
  refine WC.loop (σ := List FrX) (fun st => [(0, .func (.yield l) #[] #[]), (1, .pointer (some ⟨b1, 0, none⟩))]) (fun st w' => ∃ c', BlkC c' w' 70 b1 [St (s.drop (endF st))] 9 ∧ JC (J st) [70, 53, 54] c' w' ∧ endF st ≤ s.length) (fun st => s.length - endF st) [] subs ⟨_, hb1, hJ, by simp [endF]⟩ ?_
  clear hb1 hJ
  rintro pre wl ⟨cl, hb1, hJ, hp⟩
  obtain ⟨u, hu⟩ : ∃ u, u = s.drop (endF pre) := ⟨_, rfl⟩
  have hul : u.length = s.length - endF pre := by rw [hu, List.length_drop]
  rw [← hu] at hb1
  refine cblock <| cseq <| cg <| vq (Val.loadB scl9 rfl hb1.blk rfl) ?_
  refine ve (Eff.pureC cl 5 (Eff.call pf70 rfl (ftaken_ok (s := u) (by omega)))) ?_
  rintro v8 w1 ⟨c1, hM1, hx1, ⟨cs, q, f1, f2, rfl, ⟨vl, vs, rfl, ol, os, okk⟩, hq⟩⟩
  replace hb1 := hb1.mv hM1; replace hJ := hJ.mv hM1
  replace ol := ol.toC hx1
  replace os := os.toC hx1
  have p2 := ol.oneC; have p3 := os.oneC
  refine zm rfl <| vq (Val.extract rfl rfl) <| vq (Val.extract rfl rfl) <| vq (Val.extract rfl rfl) ?_
  refine ve (Eff.allocC c1 53 zero31) ?_
  rintro _ w2 ⟨b3, c2, rfl, hM2, hb3⟩
  replace hb1 := hb1.mv hM2; replace hJ := hJ.mv hM2; replace ol := ol.mv hM2; replace os := os.mv hM2
  refine ve (Eff.allocC c2 54 zero86) ?_
  rintro _ w3 ⟨b4, c3, rfl, hM3, hb4⟩
  replace hb1 := hb1.mv hM3; replace hJ := hJ.mv hM3; replace ol := ol.mv hM3; replace os := os.mv hM3; replace hb3 := hb3.mv hM3
  refine WR.eff_ (Eff.storeNC agg31 rfl rfl hb3 rfl rfl ones) ?_
  rintro _ w4 ⟨hS, hM4⟩
  replace hb1 := hb1.mv hM4; replace hJ := hJ.mv hM4; replace ol := ol.mv hM4; replace os := os.mv hM4; replace hb4 := hb4.mv hM4
  replace hb3 := hS
  refine WR.eff_ (Eff.storeNC agg86 rfl rfl hb4 rfl rfl ones) ?_
  rintro _ w5 ⟨hS, hM5⟩
  replace hb1 := hb1.mv hM5; replace hJ := hJ.mv hM5; replace ol := ol.mv hM5; replace os := os.mv hM5; replace hb3 := hb3.mv hM5
  replace hb4 := hS
  refine za rfl <| cnil <| cseq <| cseq ?_
  rcases hT : takeF u with _ | ⟨r, k, z⟩
  · rw [Option.isSome_none]
    refine cg <| zm rfl <| vq (Val.not rfl) <| zm rfl ?_
    apply WR.sc false 5 true (fun w' => w5 = w')
    case hl | hg | hu | hv | hs | hoff | hd => rfl
    case hF => exact fun _ => rfl
    case hT => exact fun h => absurd h (by decide)
    rintro _ rfl
    refine cnil ?_
    refine WC.cond rfl (fun _ => ?_) (fun h => absurd h (by decide))
    refine WC.ret0 rfl ?_
    exact ⟨_, .inl ⟨pre, by rw [FinF, ← hu]; exact hT, hJ.now⟩⟩
  rw [Option.isSome_some]
  obtain ⟨rfl, rfl, rfl⟩ := hq r k z hT
  obtain ⟨z1, z2, z3, z4⟩ := takeF_size hT
  refine cg <| zm rfl <| vq (Val.not rfl) <| zm rfl ?_
  refine WR.onEq rfl rfl rfl ?_
  refine zm rfl ?_
  refine WR.onEq rfl rfl rfl ?_
  refine vq (Val.loadBN agg31 rfl hb3.blk rfl) ?_
  refine WR.onEq rfl rfl rfl ?_
  refine vq (Val.loadBN agg86 rfl hb4.blk rfl) ?_
  refine WR.onEq rfl rfl rfl ?_
  obtain ⟨K2, hK2, hyA⟩ := hy pre ([I q.kind, I q.id, St q.name, St q.digest, vl, vs], q, k, z) _ _ hJ.now ⟨by rw [← hu]; exact hT, ⟨vl, vs, rfl, ol, os, okk⟩, z3, z4, by dsimp only; omega⟩
  refine ve (Eff.yieldB rfl rfl hyA) ?_
  rintro _ wY ⟨b, cY, rfl, hMY, hyT, hyF⟩
  replace hb1 := hb1.mv hMY (apart_of hK2 (by simp)); replace hb3 := hb3.mv hMY (apart_of hK2 (by simp)); replace hb4 := hb4.mv hMY (apart_of hK2 (by simp))
  clear hJ hyA
  refine WR.onEq rfl rfl rfl ?_
  refine vq (Val.not rfl) ?_
  refine WR.pickOn (by rfl) rfl rfl rfl ?_
  refine cnil ?_
  refine WC.cond rfl (fun hc1 => ?_) (fun hc1 => ?_)
  ·try simp only [tstS] at hc1
   skip
   refine WC.ret0 rfl ?_
   exact ⟨_, .inr ⟨_, hyF hc1⟩⟩
  ·try simp only [tstS] at hc1
   have hJ : JC (J (pre ++ [([I q.kind, I q.id, St q.name, St q.digest, vl, vs], q, k, z)])) [70, 53, 54] cY wY := ⟨hyT hc1, fun _ _ _ _ h m => hJi _ _ _ _ _ h m⟩
   clear hyT hyF hMY
   refine cskip <| cg <| vq (Val.loadB scl9 rfl hb1.blk rfl) <| vq (Val.fieldAddr fld86_1 rfl) <| vq (Val.loadB scl3 rfl hb4.blk rfl) <| vq (Val.ssliceFrom Try.underlying9 rfl rfl side side) ?_
   refine WR.eff_ (Eff.storeC scl9 rfl rfl ra ra hb1 rfl) ?_
   rintro _ w6 ⟨hS, hM6⟩
   replace hb3 := hb3.mv hM6; replace hb4 := hb4.mv hM6; replace hJ := hJ.mv hM6
   replace hb1 := hS
   refine cnil ?_
   exact ⟨pre ++ [_], subs, ⟨_, by rw [endF_snoc, ← List.drop_drop, ← hu]; exact hb1, hJ, by rw [endF_snoc]; omega⟩, by rw [endF_snoc]; omega⟩
end Go.Proofs.Ythlfolpcmcejkaa

namespace Go.Proofs.Ythlfolpcmcejkaa
open Go Go.Eng Go.RowKit Silo TryT

theorem walk_ok {w : World} {s : List UInt8} :
    Calls Try.prog 57 #[St s] w (Ret fun u w' => Below w.heap.size w w' ∧ ∃ b1, u = .func (.func 69) #[] #[.pointer (some ⟨b1, 0, none⟩)] ∧ w.heap.size ≤ b1 ∧ Blk w' b1 [St s] 9) := by
  obtain ⟨c, hO, hc⟩ := OldC.start w
  clear hc
  refine enter (n := 4) (res := #[.tmp 2]) Try.func57 rfl rfl rfl rfl ?_
  refine cseq <| cg ?_
  refine ve (Eff.box1C c 101 rfl ra) ?_
  rintro _ w1 ⟨b1, c1, rfl, hM1, hb1⟩
  replace hO := hO.mv hM1
  refine za rfl <| cnil <| cseq <| cg <| vq (Val.makeFunc rfl) <| za rfl <| cnil ?_
  refine WC.ret1 rfl rfl ?_
  refine ⟨hO.below, _, rfl, ?_, hb1.blk⟩
  rcases Nat.lt_or_ge b1 w.heap.size with h | h
  · have := hO.col _ h; rw [hb1.col] at this; cases this
  · exact h

theorem framesG_stop2 {f : Nat} {u : List UInt8} {l : List Rec} {first bytes k z : Nat} {r : Rec} (h : takeF u = some (r, k, z)) (hl : l ≠ []) (hk : k ≠ first + l.length) : framesG (f + 1) u l first bytes = (l, first, bytes) := by
  rw [framesG, h]
  dsimp only
  rw [if_neg (by simp [hl, hk])]
theorem _root_.Go.Eng.OldC.acc {w0 w : World} {c : Nat → Nat} (_ : OldC w0 c w) (K : List Nat) : Acc c w K c w := Acc.refl _ _ _
/-- What the program's loop knows between two frames. -/
structure FrI (w : World) (s : List UInt8) (pre : List FrX) (d : Nat → Nat) (A : World) (b2 b3 b4 : Nat) (first : Nat) : Prop where
  hO : OldC w d A
  row : ∃ vl css, BlkC d A 102 b2 [vl] 22 ∧ OwnC d A 7 TX 6 vl pre.length css.flatten ∧ EachO d A css (pre.map fun x => x.2.1)
  hb3 : BlkC d A 103 b3 [I first] 3
  hb4 : BlkC d A 104 b4 [I (endF pre)] 3
  hf : first ≤ 1073741824
  hp : endF pre ≤ s.length
  hl : pre.length ≤ endF pre
  hfr : framesS s = framesG (s.length - endF pre + 1) (s.drop (endF pre)) (pre.map fun x => x.2.1) first (endF pre)
theorem FrI.mv {w w1 w2 : World} {s : List UInt8} {pre : List FrX} {d d' : Nat → Nat} {b2 b3 b4 first : Nat} {I : List Nat} (h : FrI w s pre d w1 b2 b3 b4 first) (m : Mv d w1 d' w2 I) (h0 : hasC I 0 = false := by rfl) (h2 : hasC I 102 = false := by rfl) (h3 : hasC I 103 = false := by rfl) (h4 : hasC I 104 = false := by rfl) (h7 : hasC I 7 = false := by rfl) (h5 : hasC I 5 = false := by rfl) : FrI w s pre d' w2 b2 b3 b4 first :=
  ⟨h.hO.mv m h0, let ⟨vl, css, a, b, e⟩ := h.row; ⟨vl, css, a.mv m h2, b.mv m h7, e.mv m h5⟩, h.hb3.mv m h3, h.hb4.mv m h4, h.hf, h.hp, h.hl, h.hfr⟩
/-- What it knows behind the loop. -/
def FrE (w : World) (s : List UInt8) (d : Nat → Nat) (A : World) (b2 b3 b4 : Nat) : Prop := ∃ vl css l first bytes, OldC w d A ∧ BlkC d A 102 b2 [vl] 22 ∧ OwnC d A 7 TX 6 vl l.length css.flatten ∧ EachO d A css l ∧ BlkC d A 103 b3 [I (first : Nat)] 3 ∧ BlkC d A 104 b4 [I (bytes : Nat)] 3 ∧ framesS s = (l, first, bytes)
theorem FrE.mv {w w1 w2 : World} {s : List UInt8} {d d' : Nat → Nat} {b2 b3 b4 : Nat} {I : List Nat} (h : FrE w s d w1 b2 b3 b4) (m : Mv d w1 d' w2 I) (h0 : hasC I 0 = false := by rfl) (h2 : hasC I 102 = false := by rfl) (h3 : hasC I 103 = false := by rfl) (h4 : hasC I 104 = false := by rfl) (h7 : hasC I 7 = false := by rfl) (h5 : hasC I 5 = false := by rfl) : FrE w s d' w2 b2 b3 b4 := by
  obtain ⟨vl, css, l, first, bytes, a1, a2, a3, a4, a5, a6, e⟩ := h
  exact ⟨vl, css, l, first, bytes, a1.mv m h0, a2.mv m h2, a3.mv m h7, a4.mv m h5, a5.mv m h3, a6.mv m h4, e⟩

set_option maxHeartbeats 2000000 in
theorem frames_ok {w : World} {s : List UInt8} (hs : s.length ≤ 1073741824) : Calls Try.prog 32 #[St s] w (Ret fun v w' => Below w.heap.size w w' ∧ ∃ c' vl css, v = .tuple #[vl, I ((framesS s).2.1 : Nat), I ((framesS s).2.2 : Nat)] ∧ OwnC c' w' 7 TX 6 vl (framesS s).1.length css.flatten ∧ EachO c' w' css (framesS s).1 ∧ OldC w c' w') := by
  obtain ⟨c, hO, hc⟩ := OldC.start w
  clear hc
  refine enter (n := 34) (res := #[.cell 2 22, .cell 3 3, .cell 4 3]) Try.func32 rfl rfl rfl rfl ?_
  refine cseq <| cg ?_
  refine ve (Eff.allocC c 102 zero22) ?_
  rintro _ w1 ⟨b2, c1, rfl, hM1, hb2⟩
  replace hO := hO.mv hM1
  refine ve (Eff.allocC c1 103 zero3) ?_
  rintro _ w2 ⟨b3, c2, rfl, hM2, hb3⟩
  replace hO := hO.mv hM2; replace hb2 := hb2.mv hM2
  refine ve (Eff.allocC c2 104 zero3) ?_
  rintro _ w3 ⟨b4, c3, rfl, hM3, hb4⟩
  replace hO := hO.mv hM3; replace hb2 := hb2.mv hM3; replace hb3 := hb3.mv hM3
  refine cnil <| cseq <| cseq <| cg <| zm rfl ?_
  refine ve (Eff.pureC c3 70 (Eff.call pf57 rfl (walk_ok (s := s)))) ?_
  rintro v8 w4 ⟨c4, hM4, hx4, ⟨p1, rfl, hg1, hB1⟩⟩
  replace hO := hO.mv hM4; replace hb2 := hb2.mv hM4; replace hb3 := hb3.mv hM4; replace hb4 := hb4.mv hM4
  have hp1 : BlkC c4 w4 70 p1 [St s] 9 := ⟨hB1, hx4 _ hg1⟩
  refine cnil ?_
  refine WC.mono (N := (fun e w' => ∃ d D, Sub [(4000000, .tuple #[I' D]), (2, .pointer (some ⟨b2, 0, none⟩)), (3, .pointer (some ⟨b3, 0, none⟩)), (4, .pointer (some ⟨b4, 0, none⟩))] e ∧ FrE w s d w' b2 b3 b4 ∧ DefC d w' D)) ?_ ?_
  ·refine cblock ?_
   refine WC.rangeFuncQ (α := FrX) (encs := fun x => [.agg x.1.toArray, .agg #[I x.2.2.1, I x.2.2.2]]) (κ := [70, 53, 54]) (F := []) (Q := QF s) (Fin := FinF s)
     (fun pre d A => ∃ first, FrI w s pre d A b2 b3 b4 first) [(0, fun _ d A => FrE w s d A b2 b3 b4)] (fun _ _ _ => False) [102, 103, 104, 105, 106, 7] rfl rfl pf69 (walk_iter hs hp1) rfl (fun _ => rfl) (by simp) rfl
     (fun _ d A d' B ⟨f, h⟩ m => ⟨f, h.mv m⟩) (fun p hp => by simp only [List.mem_singleton] at hp; subst hp; exact fun _ d A d' B h m => h.mv m) (fun s d A d' B h _ => h.elim)
     ⟨0, hO, ⟨_, [], hb2, OwnC.nil _ _ _ _ _, eachO0 _ _⟩, hb3, hb4, by omega, by simp [endF], by simp [endF], rfl⟩ ?_ ?_ ?_ ?_
   ·clear hO hb2 hb3 hb4 hp1 hB1
    rintro l pre ⟨cs, r, k, z⟩ d A ⟨first, hO, ⟨vl, css, hb2, ho, he⟩, hb3, hb4, hf, hp, hl, hfr⟩ ⟨hT, hR, hm, hk, hz⟩
    dsimp only at hT hR hm hk hz
    have hzz := takeF_size hT
    obtain ⟨ul, us, rfl, hi1, hi2, hi3⟩ := hR
    obtain ⟨lr, hlr⟩ : ∃ lr, lr = pre.map fun x => x.2.1 := ⟨_, rfl⟩
    have hlen : lr.length = pre.length := by rw [hlr, List.length_map]
    rw [← hlr] at he hfr
    have hA := Acc.refl d A [102, 103, 104, 105, 106, 7]
    have ox := ho.oneC; have cx := ho.cellsV; have ou1 := hi1.oneC; have ou2 := hi2.oneC
    refine cseq <| cg ?_
    refine ve (Eff.allocC d 105 zero31) ?_
    rintro _ w5 ⟨b5, c5, rfl, hM5, hb5⟩
    replace hO := hO.mv hM5; replace hb2 := hb2.mv hM5; replace ho := ho.mv hM5; replace he := he.mv hM5; replace hb3 := hb3.mv hM5; replace hb4 := hb4.mv hM5; replace hi1 := hi1.mv hM5; replace hi2 := hi2.mv hM5; replace hA := hA.mv hM5
    refine WR.eff_ (Eff.storeNC agg31 rfl rfl hb5 rfl rfl ones) ?_
    rintro _ w6 ⟨hS, hM6⟩
    replace hO := hO.mv hM6; replace hb2 := hb2.mv hM6; replace ho := ho.mv hM6; replace he := he.mv hM6; replace hb3 := hb3.mv hM6; replace hb4 := hb4.mv hM6; replace hi1 := hi1.mv hM6; replace hi2 := hi2.mv hM6; replace hA := hA.mv hM6
    replace hb5 := hS
    refine cnil <| cg ?_
    refine ve (Eff.allocC c5 106 zero86) ?_
    rintro _ w7 ⟨b6, c7, rfl, hM7, hb6⟩
    replace hO := hO.mv hM7; replace hb2 := hb2.mv hM7; replace ho := ho.mv hM7; replace he := he.mv hM7; replace hb3 := hb3.mv hM7; replace hb4 := hb4.mv hM7; replace hi1 := hi1.mv hM7; replace hi2 := hi2.mv hM7; replace hA := hA.mv hM7; replace hb5 := hb5.mv hM7
    refine WR.eff_ (Eff.storeNC agg86 rfl rfl hb6 rfl rfl ones) ?_
    rintro _ w8 ⟨hS, hM8⟩
    replace hO := hO.mv hM8; replace hb2 := hb2.mv hM8; replace ho := ho.mv hM8; replace he := he.mv hM8; replace hb3 := hb3.mv hM8; replace hb4 := hb4.mv hM8; replace hi1 := hi1.mv hM8; replace hi2 := hi2.mv hM8; replace hA := hA.mv hM8; replace hb5 := hb5.mv hM8
    replace hb6 := hS
    refine cnil ?_
    refine ⟨_, hA, ?_⟩
    intro A2 hM2
    replace hO := hO.mv hM2; replace hb2 := hb2.mv hM2; replace ho := ho.mv hM2; replace he := he.mv hM2; replace hb3 := hb3.mv hM2; replace hb4 := hb4.mv hM2; replace hi1 := hi1.mv hM2; replace hi2 := hi2.mv hM2; replace hb5 := hb5.mv hM2; replace hb6 := hb6.mv hM2
    replace hb5 : BlkC _ _ 105 b5 [I r.kind, I r.id, St r.name, St r.digest, ul, us] 31 := hb5
    replace hb6 : BlkC _ _ 106 b6 [I (k : Nat), I (z : Nat)] 86 := hb6
    have hA := hO.acc [102, 103, 104, 105, 106, 7]
    refine cblock <| cseq <| cseq <| cg <| vq (Val.loadB scl22 rfl hb2.blk rfl) ?_
    first | refine vq (Val.rdlen sl22 (by assumption) rfl) ?_ | refine vq (Val.sllen Try.underlying22 rfl) ?_ | refine vq (Val.olen sl22 (by assumption) rfl) ?_ | refine vq (Val.rdlenC sl22 (by assumption) rfl) ?_
    refine vq (Val.eql rfl rfl) <| cnil ?_
    refine WC.cond rfl (fun hc4 => ?_) (fun hc4 => ?_)
    ·try simp only [tstS] at hc4
     refine cg <| vq (Val.fieldAddr fld86_0 rfl) <| vq (Val.loadB scl3 rfl hb6.blk rfl) ?_
     refine WR.eff_ (Eff.storeC scl3 rfl rfl ra ra hb3 rfl) ?_
     rintro _ w9 ⟨hS, hM9⟩
     replace hO := hO.mv hM9; replace hb2 := hb2.mv hM9; replace ho := ho.mv hM9; replace he := he.mv hM9; replace hb4 := hb4.mv hM9; replace hi1 := hi1.mv hM9; replace hi2 := hi2.mv hM9; replace hb5 := hb5.mv hM9; replace hb6 := hb6.mv hM9; replace hA := hA.mv hM9
     replace hb3 := hS
     refine cnil <| cseq <| cseq <| cg <| vq (Val.fieldAddr fld86_0 rfl) <| vq (Val.loadB scl3 rfl hb6.blk rfl) <| vq (Val.loadB scl3 rfl hb3.blk rfl) <| vq (Val.loadB scl22 rfl hb2.blk rfl) ?_
     first | refine vq (Val.rdlen sl22 (by assumption) rfl) ?_ | refine vq (Val.sllen Try.underlying22 rfl) ?_ | refine vq (Val.olen sl22 (by assumption) rfl) ?_ | refine vq (Val.rdlenC sl22 (by assumption) rfl) ?_
     refine vq (Val.addI rfl rfl side side) <| vq (Val.neq rfl rfl) <| cnil ?_
     refine WC.cond rfl (fun hc6 => ?_) (fun hc6 => ?_)
     ·try simp only [tstS] at hc6
      refine WC.exit rfl ?_
      first
      | (exfalso; omega)
      | (have e : framesS s = (lr, first, endF pre) := by rw [hfr]; exact framesG_stop2 hT (fun e => by rw [e] at hlen; simp at hlen; omega) (by omega)); exact ⟨_, hA, vl, css, lr, first, endF pre, hO, hb2, by rw [hlen]; exact ho, he, hb3, hb4, e⟩
     ·try simp only [tstS] at hc6
      refine cskip ?_
      refine WC.mono (N := (fun _ w9 => ∃ d', Acc c7 A2 [102, 103, 104, 105, 106, 7] d' w9 ∧ ∃ f9, FrI w s (pre ++ [([I r.kind, I r.id, St r.name, St r.digest, ul, us], r, k, z)]) d' w9 b2 b3 b4 f9)) ?_ ?_
      ·refine WC.regionT (Kp c7 w9 [7, 102]) [2, 1, 2, 2, 1, 0, 1, 0, 2, 3] (.quiet 1 (.quiet 4 (.quiet 5 (.quiet 6 (.quiet 7 (.two 0 (.one 2 (.one 3 (.one 8 (.one 9 .nil)))) 2 (.one 0 (.one 3 (.one 8 (.one 9 .nil)))))))))) mixed (by kernel_rfl) ?_
       have hM10 := Mv.drew c7 w9 []
       have hCw := Mv.drew c7 w9 [7, 102]
       generalize w9.drew = w10 at hM10 hCw ⊢
       have hb20 := hb2
       have hb30 := hb3
       have hb40 := hb4
       have hb50 := hb5
       have hb60 := hb6
       replace hO := hO.mv hM10; replace hb2 := hb2.mv hM10; replace ho := ho.mv hM10; replace he := he.mv hM10; replace hb3 := hb3.mv hM10; replace hb4 := hb4.mv hM10; replace hi1 := hi1.mv hM10; replace hi2 := hi2.mv hM10; replace hb5 := hb5.mv hM10; replace hb6 := hb6.mv hM10; replace hA := hA.mv hM10
       refine WT.valC rfl rfl rfl hCw.kp (fun W hW => Val.loadBN agg31 rfl (hb50.kp hW rfl).blk rfl) rfl ?_
       refine WT.valC rfl rfl rfl hCw.kp (fun W hW => Val.loadB scl3 rfl (hb40.kp hW rfl).blk rfl) rfl ?_
       refine WT.val rfl rfl rfl (fun _ => Val.fieldAddr fld86_1 rfl) rfl ?_
       refine WT.valC rfl rfl rfl hCw.kp (fun W hW => Val.loadB scl3 rfl (hb60.kp hW rfl).blk rfl) rfl ?_
       refine WT.val rfl rfl rfl (fun _ => Val.addI rfl rfl side side) rfl ?_
       refine WT.two ?_ ?_
       ·refine WS.eff rfl rfl rfl (Eff.val (Val.loadB scl22 rfl hb2.blk rfl)) rfl ?_
        rintro _ _ ⟨rfl, rfl⟩
        refine ⟨id, ?_⟩
        refine WT.one ?_
        refine WS.eff rfl rfl rfl (Eff.build1C c7 125 sl22 rfl rfl rfl rfl rfl) rfl ?_
        rintro _ w11 ⟨b25, c11, rfl, hM11, hb25⟩
        refine ⟨fun hC => hC.step hCw hM11 rfl, ?_⟩
        replace hCw := hCw.tr hM11 rfl
        replace hO := hO.mv hM11; replace hb2 := hb2.mv hM11; replace ho := ho.mv hM11; replace he := he.mv hM11; replace hb3 := hb3.mv hM11; replace hb4 := hb4.mv hM11; replace hi1 := hi1.mv hM11; replace hi2 := hi2.mv hM11; replace hb5 := hb5.mv hM11; replace hb6 := hb6.mv hM11; replace hA := hA.mv hM11
        refine WT.one ?_
        refine WS.eff rfl rfl rfl (Eff.appendC sl22 rfl rfl ho (Src.cellsAt Try.underlying22 hb25.blk.cellsAt rfl ones) mxl oms) rfl ?_
        rintro v26 w12 ⟨c12, hM12, hOq⟩
        refine ⟨fun hC => hC.step hCw hM12 rfl, ?_⟩
        replace hCw := hCw.tr hM12 rfl
        clear hb25
        replace hO := hO.mv hM12; replace hb2 := hb2.mv hM12; replace he := he.mv hM12; replace hb3 := hb3.mv hM12; replace hb4 := hb4.mv hM12; replace hi1 := hi1.mv hM12; replace hi2 := hi2.mv hM12; replace hb5 := hb5.mv hM12; replace hb6 := hb6.mv hM12; replace hA := hA.mv hM12
        replace ho := hOq
        have ox2 := ho.oneC; have cx2 := ho.cellsV
        refine WT.one ?_
        refine WS.eff_ rfl rfl rfl (Eff.storeC scl22 rfl rfl ra ra hb2 rfl) ?_
        rintro _ w13 ⟨hS, hM13⟩
        refine ⟨fun hC => hC.step hCw hM13 rfl, ?_⟩
        replace hCw := hCw.tr hM13 rfl
        replace hO := hO.mv hM13; replace ho := ho.mv hM13; replace he := he.mv hM13; replace hb3 := hb3.mv hM13; replace hb4 := hb4.mv hM13; replace hi1 := hi1.mv hM13; replace hi2 := hi2.mv hM13; replace hb5 := hb5.mv hM13; replace hb6 := hb6.mv hM13; replace hA := hA.mv hM13
        replace hb2 := hS
        refine WT.one ?_
        refine WS.wild rfl rfl rfl (Eff.storeC scl3 rfl rfl ra ra hb4 rfl) ?_
        rintro _ w14 ⟨hS, hM14⟩
        try replace hCw := hCw.tr hM14 rfl
        replace hO := hO.mv hM14; replace hb2 := hb2.mv hM14; replace ho := ho.mv hM14; replace he := he.mv hM14; replace hb3 := hb3.mv hM14; replace hi1 := hi1.mv hM14; replace hi2 := hi2.mv hM14; replace hb5 := hb5.mv hM14; replace hb6 := hb6.mv hM14; replace hA := hA.mv hM14
        replace hb4 := hS
        refine WT.nil ?_
        have hcf : (css ++ [[I r.kind, I r.id, St r.name, St r.digest, ul, us]]).flatten = css.flatten ++ [I r.kind, I r.id, St r.name, St r.digest, ul, us] := by simp
        have hll : ((pre ++ [([I r.kind, I r.id, St r.name, St r.digest, ul, us], r, k, z)]) : List FrX).length = pre.length + 1 := by simp
        have hml : ((pre ++ [([I r.kind, I r.id, St r.name, St r.digest, ul, us], r, k, z)]) : List FrX).map (fun x => x.2.1) = lr ++ [r] := by simp [hlr]
        have hlk : lr = [] ∨ k = first + lr.length := by
          by_cases h0 : lr.length = 0
          · exact .inl (List.eq_nil_of_length_eq_zero h0)
          · right; omega
        have hgo := framesG_go (f := s.length - endF pre) (first := first) (bytes := endF pre) hT hlk
        have hfu := framesG_fuel (s.length - endF pre) (s.length - (endF pre + z) + 1) ((s.drop (endF pre)).drop z) (lr ++ [r]) (if lr = [] then k else first) (endF pre + z) (by rw [List.length_drop, List.length_drop]; omega) (by rw [List.length_drop, List.length_drop]; omega)
        rw [hgo, hfu, List.drop_drop] at hfr
        have he2 := he.snoc hi1 hi2 hi3
        refine ⟨_, hA, (if lr = [] then k else first), hO, ⟨_, css ++ [[I r.kind, I r.id, St r.name, St r.digest, ul, us]], hb2, by rw [hcf, hll]; exact ho, by rw [hml]; exact he2⟩, ?_, by rw [endF_snoc, Int.natCast_add]; exact hb4, by split <;> omega, by rw [endF_snoc]; omega, by rw [endF_snoc, hll]; omega, by rw [endF_snoc, hml]; exact hfr⟩
        first
        | (rw [if_pos (List.eq_nil_of_length_eq_zero (by omega))]; exact hb3)
        | (rw [if_neg (fun e => by rw [e] at hlen; simp at hlen; omega)]; exact hb3)
       ·refine WS.eff rfl rfl rfl (Eff.build1C c7 125 sl22 rfl rfl rfl rfl rfl) rfl ?_
        rintro _ w15 ⟨b25, c15, rfl, hM15, hb25⟩
        refine ⟨fun hC => hC.step hCw hM15 rfl, ?_⟩
        replace hCw := hCw.tr hM15 rfl
        replace hO := hO.mv hM15; replace hb2 := hb2.mv hM15; replace ho := ho.mv hM15; replace he := he.mv hM15; replace hb3 := hb3.mv hM15; replace hb4 := hb4.mv hM15; replace hi1 := hi1.mv hM15; replace hi2 := hi2.mv hM15; replace hb5 := hb5.mv hM15; replace hb6 := hb6.mv hM15; replace hA := hA.mv hM15
        refine WT.one ?_
        refine WS.eff rfl rfl rfl (Eff.val (Val.loadB scl22 rfl hb2.blk rfl)) rfl ?_
        rintro _ _ ⟨rfl, rfl⟩
        refine ⟨id, ?_⟩
        refine WT.one ?_
        refine WS.eff rfl rfl rfl (Eff.appendC sl22 rfl rfl ho (Src.cellsAt Try.underlying22 hb25.blk.cellsAt rfl ones) mxl oms) rfl ?_
        rintro v26 w16 ⟨c16, hM16, hOq⟩
        refine ⟨fun hC => hC.step hCw hM16 rfl, ?_⟩
        replace hCw := hCw.tr hM16 rfl
        clear hb25
        replace hO := hO.mv hM16; replace hb2 := hb2.mv hM16; replace he := he.mv hM16; replace hb3 := hb3.mv hM16; replace hb4 := hb4.mv hM16; replace hi1 := hi1.mv hM16; replace hi2 := hi2.mv hM16; replace hb5 := hb5.mv hM16; replace hb6 := hb6.mv hM16; replace hA := hA.mv hM16
        replace ho := hOq
        have ox2 := ho.oneC; have cx2 := ho.cellsV
        refine WT.one ?_
        refine WS.eff_ rfl rfl rfl (Eff.storeC scl22 rfl rfl ra ra hb2 rfl) ?_
        rintro _ w17 ⟨hS, hM17⟩
        refine ⟨fun hC => hC.step hCw hM17 rfl, ?_⟩
        replace hCw := hCw.tr hM17 rfl
        replace hO := hO.mv hM17; replace ho := ho.mv hM17; replace he := he.mv hM17; replace hb3 := hb3.mv hM17; replace hb4 := hb4.mv hM17; replace hi1 := hi1.mv hM17; replace hi2 := hi2.mv hM17; replace hb5 := hb5.mv hM17; replace hb6 := hb6.mv hM17; replace hA := hA.mv hM17
        replace hb2 := hS
        refine WT.one ?_
        refine WS.wild rfl rfl rfl (Eff.storeC scl3 rfl rfl ra ra hb4 rfl) ?_
        rintro _ w18 ⟨hS, hM18⟩
        try replace hCw := hCw.tr hM18 rfl
        replace hO := hO.mv hM18; replace hb2 := hb2.mv hM18; replace ho := ho.mv hM18; replace he := he.mv hM18; replace hb3 := hb3.mv hM18; replace hi1 := hi1.mv hM18; replace hi2 := hi2.mv hM18; replace hb5 := hb5.mv hM18; replace hb6 := hb6.mv hM18; replace hA := hA.mv hM18
        replace hb4 := hS
        refine WT.nil ?_
        have hcf : (css ++ [[I r.kind, I r.id, St r.name, St r.digest, ul, us]]).flatten = css.flatten ++ [I r.kind, I r.id, St r.name, St r.digest, ul, us] := by simp
        have hll : ((pre ++ [([I r.kind, I r.id, St r.name, St r.digest, ul, us], r, k, z)]) : List FrX).length = pre.length + 1 := by simp
        have hml : ((pre ++ [([I r.kind, I r.id, St r.name, St r.digest, ul, us], r, k, z)]) : List FrX).map (fun x => x.2.1) = lr ++ [r] := by simp [hlr]
        have hlk : lr = [] ∨ k = first + lr.length := by
          by_cases h0 : lr.length = 0
          · exact .inl (List.eq_nil_of_length_eq_zero h0)
          · right; omega
        have hgo := framesG_go (f := s.length - endF pre) (first := first) (bytes := endF pre) hT hlk
        have hfu := framesG_fuel (s.length - endF pre) (s.length - (endF pre + z) + 1) ((s.drop (endF pre)).drop z) (lr ++ [r]) (if lr = [] then k else first) (endF pre + z) (by rw [List.length_drop, List.length_drop]; omega) (by rw [List.length_drop, List.length_drop]; omega)
        rw [hgo, hfu, List.drop_drop] at hfr
        have he2 := he.snoc hi1 hi2 hi3
        refine ⟨_, hA, (if lr = [] then k else first), hO, ⟨_, css ++ [[I r.kind, I r.id, St r.name, St r.digest, ul, us]], hb2, by rw [hcf, hll]; exact ho, by rw [hml]; exact he2⟩, ?_, by rw [endF_snoc, Int.natCast_add]; exact hb4, by split <;> omega, by rw [endF_snoc]; omega, by rw [endF_snoc, hll]; omega, by rw [endF_snoc, hml]; exact hfr⟩
        first
        | (rw [if_pos (List.eq_nil_of_length_eq_zero (by omega))]; exact hb3)
        | (rw [if_neg (fun e => by rw [e] at hlen; simp at hlen; omega)]; exact hb3)
      ·skip
       rintro e9 w9 h9
       exact h9
    ·try simp only [tstS] at hc4
     refine cskip <| cseq <| cseq <| cg <| vq (Val.fieldAddr fld86_0 rfl) <| vq (Val.loadB scl3 rfl hb6.blk rfl) <| vq (Val.loadB scl3 rfl hb3.blk rfl) <| vq (Val.loadB scl22 rfl hb2.blk rfl) ?_
     first | refine vq (Val.rdlen sl22 (by assumption) rfl) ?_ | refine vq (Val.sllen Try.underlying22 rfl) ?_ | refine vq (Val.olen sl22 (by assumption) rfl) ?_ | refine vq (Val.rdlenC sl22 (by assumption) rfl) ?_
     refine vq (Val.addI rfl rfl side side) <| vq (Val.neq rfl rfl) <| cnil ?_
     refine WC.cond rfl (fun hc6 => ?_) (fun hc6 => ?_)
     ·try simp only [tstS] at hc6
      refine WC.exit rfl ?_
      first
      | (exfalso; omega)
      | (have e : framesS s = (lr, first, endF pre) := by rw [hfr]; exact framesG_stop2 hT (fun e => by rw [e] at hlen; simp at hlen; omega) (by omega)); exact ⟨_, hA, vl, css, lr, first, endF pre, hO, hb2, by rw [hlen]; exact ho, he, hb3, hb4, e⟩
     ·try simp only [tstS] at hc6
      refine cskip ?_
      refine WC.mono (N := (fun _ w9 => ∃ d', Acc c7 A2 [102, 103, 104, 105, 106, 7] d' w9 ∧ ∃ f9, FrI w s (pre ++ [([I r.kind, I r.id, St r.name, St r.digest, ul, us], r, k, z)]) d' w9 b2 b3 b4 f9)) ?_ ?_
      ·refine WC.regionT (Kp c7 A2 [7, 102]) [2, 1, 2, 2, 1, 0, 1, 0, 2, 3] (.quiet 1 (.quiet 4 (.quiet 5 (.quiet 6 (.quiet 7 (.two 0 (.one 2 (.one 3 (.one 8 (.one 9 .nil)))) 2 (.one 0 (.one 3 (.one 8 (.one 9 .nil)))))))))) mixed (by kernel_rfl) ?_
       have hM19 := Mv.drew c7 A2 []
       have hCw := Mv.drew c7 A2 [7, 102]
       generalize A2.drew = w19 at hM19 hCw ⊢
       have hb20 := hb2
       have hb30 := hb3
       have hb40 := hb4
       have hb50 := hb5
       have hb60 := hb6
       replace hO := hO.mv hM19; replace hb2 := hb2.mv hM19; replace ho := ho.mv hM19; replace he := he.mv hM19; replace hb3 := hb3.mv hM19; replace hb4 := hb4.mv hM19; replace hi1 := hi1.mv hM19; replace hi2 := hi2.mv hM19; replace hb5 := hb5.mv hM19; replace hb6 := hb6.mv hM19; replace hA := hA.mv hM19
       refine WT.valC rfl rfl rfl hCw.kp (fun W hW => Val.loadBN agg31 rfl (hb50.kp hW rfl).blk rfl) rfl ?_
       refine WT.valC rfl rfl rfl hCw.kp (fun W hW => Val.loadB scl3 rfl (hb40.kp hW rfl).blk rfl) rfl ?_
       refine WT.val rfl rfl rfl (fun _ => Val.fieldAddr fld86_1 rfl) rfl ?_
       refine WT.valC rfl rfl rfl hCw.kp (fun W hW => Val.loadB scl3 rfl (hb60.kp hW rfl).blk rfl) rfl ?_
       refine WT.val rfl rfl rfl (fun _ => Val.addI rfl rfl side side) rfl ?_
       refine WT.two ?_ ?_
       ·refine WS.eff rfl rfl rfl (Eff.val (Val.loadB scl22 rfl hb2.blk rfl)) rfl ?_
        rintro _ _ ⟨rfl, rfl⟩
        refine ⟨id, ?_⟩
        refine WT.one ?_
        refine WS.eff rfl rfl rfl (Eff.build1C c7 125 sl22 rfl rfl rfl rfl rfl) rfl ?_
        rintro _ w20 ⟨b25, c20, rfl, hM20, hb25⟩
        refine ⟨fun hC => hC.step hCw hM20 rfl, ?_⟩
        replace hCw := hCw.tr hM20 rfl
        replace hO := hO.mv hM20; replace hb2 := hb2.mv hM20; replace ho := ho.mv hM20; replace he := he.mv hM20; replace hb3 := hb3.mv hM20; replace hb4 := hb4.mv hM20; replace hi1 := hi1.mv hM20; replace hi2 := hi2.mv hM20; replace hb5 := hb5.mv hM20; replace hb6 := hb6.mv hM20; replace hA := hA.mv hM20
        refine WT.one ?_
        refine WS.eff rfl rfl rfl (Eff.appendC sl22 rfl rfl ho (Src.cellsAt Try.underlying22 hb25.blk.cellsAt rfl ones) mxl oms) rfl ?_
        rintro v26 w21 ⟨c21, hM21, hOq⟩
        refine ⟨fun hC => hC.step hCw hM21 rfl, ?_⟩
        replace hCw := hCw.tr hM21 rfl
        clear hb25
        replace hO := hO.mv hM21; replace hb2 := hb2.mv hM21; replace he := he.mv hM21; replace hb3 := hb3.mv hM21; replace hb4 := hb4.mv hM21; replace hi1 := hi1.mv hM21; replace hi2 := hi2.mv hM21; replace hb5 := hb5.mv hM21; replace hb6 := hb6.mv hM21; replace hA := hA.mv hM21
        replace ho := hOq
        have ox2 := ho.oneC; have cx2 := ho.cellsV
        refine WT.one ?_
        refine WS.eff_ rfl rfl rfl (Eff.storeC scl22 rfl rfl ra ra hb2 rfl) ?_
        rintro _ w22 ⟨hS, hM22⟩
        refine ⟨fun hC => hC.step hCw hM22 rfl, ?_⟩
        replace hCw := hCw.tr hM22 rfl
        replace hO := hO.mv hM22; replace ho := ho.mv hM22; replace he := he.mv hM22; replace hb3 := hb3.mv hM22; replace hb4 := hb4.mv hM22; replace hi1 := hi1.mv hM22; replace hi2 := hi2.mv hM22; replace hb5 := hb5.mv hM22; replace hb6 := hb6.mv hM22; replace hA := hA.mv hM22
        replace hb2 := hS
        refine WT.one ?_
        refine WS.wild rfl rfl rfl (Eff.storeC scl3 rfl rfl ra ra hb4 rfl) ?_
        rintro _ w23 ⟨hS, hM23⟩
        try replace hCw := hCw.tr hM23 rfl
        replace hO := hO.mv hM23; replace hb2 := hb2.mv hM23; replace ho := ho.mv hM23; replace he := he.mv hM23; replace hb3 := hb3.mv hM23; replace hi1 := hi1.mv hM23; replace hi2 := hi2.mv hM23; replace hb5 := hb5.mv hM23; replace hb6 := hb6.mv hM23; replace hA := hA.mv hM23
        replace hb4 := hS
        refine WT.nil ?_
        have hcf : (css ++ [[I r.kind, I r.id, St r.name, St r.digest, ul, us]]).flatten = css.flatten ++ [I r.kind, I r.id, St r.name, St r.digest, ul, us] := by simp
        have hll : ((pre ++ [([I r.kind, I r.id, St r.name, St r.digest, ul, us], r, k, z)]) : List FrX).length = pre.length + 1 := by simp
        have hml : ((pre ++ [([I r.kind, I r.id, St r.name, St r.digest, ul, us], r, k, z)]) : List FrX).map (fun x => x.2.1) = lr ++ [r] := by simp [hlr]
        have hlk : lr = [] ∨ k = first + lr.length := by
          by_cases h0 : lr.length = 0
          · exact .inl (List.eq_nil_of_length_eq_zero h0)
          · right; omega
        have hgo := framesG_go (f := s.length - endF pre) (first := first) (bytes := endF pre) hT hlk
        have hfu := framesG_fuel (s.length - endF pre) (s.length - (endF pre + z) + 1) ((s.drop (endF pre)).drop z) (lr ++ [r]) (if lr = [] then k else first) (endF pre + z) (by rw [List.length_drop, List.length_drop]; omega) (by rw [List.length_drop, List.length_drop]; omega)
        rw [hgo, hfu, List.drop_drop] at hfr
        have he2 := he.snoc hi1 hi2 hi3
        refine ⟨_, hA, (if lr = [] then k else first), hO, ⟨_, css ++ [[I r.kind, I r.id, St r.name, St r.digest, ul, us]], hb2, by rw [hcf, hll]; exact ho, by rw [hml]; exact he2⟩, ?_, by rw [endF_snoc, Int.natCast_add]; exact hb4, by split <;> omega, by rw [endF_snoc]; omega, by rw [endF_snoc, hll]; omega, by rw [endF_snoc, hml]; exact hfr⟩
        first
        | (rw [if_pos (List.eq_nil_of_length_eq_zero (by omega))]; exact hb3)
        | (rw [if_neg (fun e => by rw [e] at hlen; simp at hlen; omega)]; exact hb3)
       ·refine WS.eff rfl rfl rfl (Eff.build1C c7 125 sl22 rfl rfl rfl rfl rfl) rfl ?_
        rintro _ w24 ⟨b25, c24, rfl, hM24, hb25⟩
        refine ⟨fun hC => hC.step hCw hM24 rfl, ?_⟩
        replace hCw := hCw.tr hM24 rfl
        replace hO := hO.mv hM24; replace hb2 := hb2.mv hM24; replace ho := ho.mv hM24; replace he := he.mv hM24; replace hb3 := hb3.mv hM24; replace hb4 := hb4.mv hM24; replace hi1 := hi1.mv hM24; replace hi2 := hi2.mv hM24; replace hb5 := hb5.mv hM24; replace hb6 := hb6.mv hM24; replace hA := hA.mv hM24
        refine WT.one ?_
        refine WS.eff rfl rfl rfl (Eff.val (Val.loadB scl22 rfl hb2.blk rfl)) rfl ?_
        rintro _ _ ⟨rfl, rfl⟩
        refine ⟨id, ?_⟩
        refine WT.one ?_
        refine WS.eff rfl rfl rfl (Eff.appendC sl22 rfl rfl ho (Src.cellsAt Try.underlying22 hb25.blk.cellsAt rfl ones) mxl oms) rfl ?_
        rintro v26 w25 ⟨c25, hM25, hOq⟩
        refine ⟨fun hC => hC.step hCw hM25 rfl, ?_⟩
        replace hCw := hCw.tr hM25 rfl
        clear hb25
        replace hO := hO.mv hM25; replace hb2 := hb2.mv hM25; replace he := he.mv hM25; replace hb3 := hb3.mv hM25; replace hb4 := hb4.mv hM25; replace hi1 := hi1.mv hM25; replace hi2 := hi2.mv hM25; replace hb5 := hb5.mv hM25; replace hb6 := hb6.mv hM25; replace hA := hA.mv hM25
        replace ho := hOq
        have ox2 := ho.oneC; have cx2 := ho.cellsV
        refine WT.one ?_
        refine WS.eff_ rfl rfl rfl (Eff.storeC scl22 rfl rfl ra ra hb2 rfl) ?_
        rintro _ w26 ⟨hS, hM26⟩
        refine ⟨fun hC => hC.step hCw hM26 rfl, ?_⟩
        replace hCw := hCw.tr hM26 rfl
        replace hO := hO.mv hM26; replace ho := ho.mv hM26; replace he := he.mv hM26; replace hb3 := hb3.mv hM26; replace hb4 := hb4.mv hM26; replace hi1 := hi1.mv hM26; replace hi2 := hi2.mv hM26; replace hb5 := hb5.mv hM26; replace hb6 := hb6.mv hM26; replace hA := hA.mv hM26
        replace hb2 := hS
        refine WT.one ?_
        refine WS.wild rfl rfl rfl (Eff.storeC scl3 rfl rfl ra ra hb4 rfl) ?_
        rintro _ w27 ⟨hS, hM27⟩
        try replace hCw := hCw.tr hM27 rfl
        replace hO := hO.mv hM27; replace hb2 := hb2.mv hM27; replace ho := ho.mv hM27; replace he := he.mv hM27; replace hb3 := hb3.mv hM27; replace hi1 := hi1.mv hM27; replace hi2 := hi2.mv hM27; replace hb5 := hb5.mv hM27; replace hb6 := hb6.mv hM27; replace hA := hA.mv hM27
        replace hb4 := hS
        refine WT.nil ?_
        have hcf : (css ++ [[I r.kind, I r.id, St r.name, St r.digest, ul, us]]).flatten = css.flatten ++ [I r.kind, I r.id, St r.name, St r.digest, ul, us] := by simp
        have hll : ((pre ++ [([I r.kind, I r.id, St r.name, St r.digest, ul, us], r, k, z)]) : List FrX).length = pre.length + 1 := by simp
        have hml : ((pre ++ [([I r.kind, I r.id, St r.name, St r.digest, ul, us], r, k, z)]) : List FrX).map (fun x => x.2.1) = lr ++ [r] := by simp [hlr]
        have hlk : lr = [] ∨ k = first + lr.length := by
          by_cases h0 : lr.length = 0
          · exact .inl (List.eq_nil_of_length_eq_zero h0)
          · right; omega
        have hgo := framesG_go (f := s.length - endF pre) (first := first) (bytes := endF pre) hT hlk
        have hfu := framesG_fuel (s.length - endF pre) (s.length - (endF pre + z) + 1) ((s.drop (endF pre)).drop z) (lr ++ [r]) (if lr = [] then k else first) (endF pre + z) (by rw [List.length_drop, List.length_drop]; omega) (by rw [List.length_drop, List.length_drop]; omega)
        rw [hgo, hfu, List.drop_drop] at hfr
        have he2 := he.snoc hi1 hi2 hi3
        refine ⟨_, hA, (if lr = [] then k else first), hO, ⟨_, css ++ [[I r.kind, I r.id, St r.name, St r.digest, ul, us]], hb2, by rw [hcf, hll]; exact ho, by rw [hml]; exact he2⟩, ?_, by rw [endF_snoc, Int.natCast_add]; exact hb4, by split <;> omega, by rw [endF_snoc]; omega, by rw [endF_snoc, hll]; omega, by rw [endF_snoc, hml]; exact hfr⟩
        first
        | (rw [if_pos (List.eq_nil_of_length_eq_zero (by omega))]; exact hb3)
        | (rw [if_neg (fun e => by rw [e] at hlen; simp at hlen; omega)]; exact hb3)
      ·skip
       rintro e9 w9 h9
       exact h9
   ·clear hO hb2 hb3 hb4 hp1 hB1
    rintro L D d B hF ⟨first, hO, ⟨vl, css, hb2, ho, he⟩, hb3, hb4, hf, hp, hl, hfr⟩ hD
    exact ⟨d, D, subs, ⟨vl, css, _, first, endF L, hO, hb2, by rw [List.length_map]; exact ho, he, hb3, hb4, by rw [hfr]; exact framesG_stop (.inl hF)⟩, hD⟩
   ·intro p hp D pre d B h hD
    simp only [List.mem_singleton] at hp; subst hp
    exact ⟨_, rfl, d, D, subs, h, hD⟩
   ·exact fun _ _ _ _ h => h.elim
  ·skip
   rintro e9 w9 ⟨c9, D, hsub, ⟨vl, css, l, first, bytes, hO, hb2, ho, he, hb3, hb4, e⟩, hD⟩
   refine WC.sub hsub ?_
   clear hsub e9
   have ox := ho.oneC; have cx := ho.cellsV
   refine cseq ?_
   have hM10 := Mv.drew c9 w9 []
   refine WC.regionD (fun W => Blk W b2 [vl] 22 ∧ Blk W b3 [I first] 3 ∧ Blk W b4 [I bytes] 3) [1, 1, 1, 2, 2, 3] [0, 1, 2, 3, 4, 5] mixed (by kernel_rfl) ?_
   replace hO := hO.mv hM10; replace hb2 := hb2.mv hM10; replace ho := ho.mv hM10; replace he := he.mv hM10; replace hb3 := hb3.mv hM10; replace hb4 := hb4.mv hM10; replace hD := hD.mv hM10
   generalize w9.drew = w10 at hM10 hO hb2 ho he hb3 hb4 hD ⊢
   refine vc rfl ⟨hb2.blk, hb3.blk, hb4.blk⟩ (fun W hW => Val.loadB scl22 rfl hW.1 rfl) ?_
   refine vc rfl ⟨hb2.blk, hb3.blk, hb4.blk⟩ (fun W hW => Val.loadB scl3 rfl hW.2.1 rfl) ?_
   refine vc rfl ⟨hb2.blk, hb3.blk, hb4.blk⟩ (fun W hW => Val.loadB scl3 rfl hW.2.2 rfl) ?_
   refine WD.eff_ rfl rfl rfl (Eff.storeC scl22 rfl rfl ra ra hb2 rfl) ?_
   rintro _ w11 ⟨hS, hM11⟩
   replace hO := hO.mv hM11; replace ho := ho.mv hM11; replace he := he.mv hM11; replace hb3 := hb3.mv hM11; replace hb4 := hb4.mv hM11; replace hD := hD.mv hM11
   replace hb2 : BlkC _ _ 102 b2 [vl] 22 := hS
   refine ⟨fun _ => ⟨hb2.blk, hb3.blk, hb4.blk⟩, ?_⟩
   refine WD.eff_ rfl rfl rfl (Eff.storeC scl3 rfl rfl ra ra hb3 rfl) ?_
   rintro _ w12 ⟨hS2, hM12⟩
   replace hO := hO.mv hM12; replace ho := ho.mv hM12; replace he := he.mv hM12; replace hb2 := hb2.mv hM12; replace hb4 := hb4.mv hM12; replace hD := hD.mv hM12
   replace hb3 : BlkC _ _ 103 b3 [I first] 3 := hS2
   refine ⟨fun _ => ⟨hb2.blk, hb3.blk, hb4.blk⟩, ?_⟩
   refine WD.wild rfl rfl rfl (Eff.storeC scl3 rfl rfl ra ra hb4 rfl) ?_
   rintro _ w13 ⟨hS3, hM13⟩
   replace hO := hO.mv hM13; replace ho := ho.mv hM13; replace he := he.mv hM13; replace hb2 := hb2.mv hM13; replace hb3 := hb3.mv hM13; replace hD := hD.mv hM13
   replace hb4 : BlkC _ _ 104 b4 [I bytes] 3 := hS3
   refine WD.nil ?_
   obtain ⟨hTk, hMTk⟩ := hD.take
   replace hO := hO.mv hMTk; replace hb2 := hb2.mv hMTk; replace ho := ho.mv hMTk; replace he := he.mv hMTk; replace hb3 := hb3.mv hMTk; replace hb4 := hb4.mv hMTk
   refine WC.retMR3 rfl rfl hTk (RVal.cell1 scl22 rfl hb2.blk rfl) (RVal.cell1 scl3 rfl hb3.blk rfl) (RVal.cell1 scl3 rfl hb4.blk rfl) ?_
   rw [e]
   exact ⟨hO.below, _, vl, css, rfl, ho, he, hO⟩
end Go.Proofs.Ythlfolpcmcejkaa

namespace Go.Eng
open Go Go.RowKit
/-- The colours J as they are; all others are 0. -/
def mask (c : Nat → Nat) (J : List Nat) : Nat → Nat := fun k => if hasC J (c k) then c k else 0
theorem mask_in {c : Nat → Nat} {J : List Nat} {k : Nat} (h : hasC J (c k) = true) : mask c J k = c k := by simp [mask, h]
theorem mask_out {c : Nat → Nat} {J : List Nat} {k : Nat} (h : hasC J (c k) = false) : mask c J k = 0 := by simp [mask, h]
/-- What was there at the start, but for the colours J. -/
structure OldJ (c0 : Nat → Nat) (w0 : World) (J : List Nat) (c : Nat → Nat) (w : World) : Prop where
  os : w.os = w0.os
  tape : w.tape = w0.tape
  output : w.output = w0.output
  size : w0.heap.size ≤ w.heap.size
  col : ∀ k, k < w0.heap.size → c k = mask c0 J k
  block : ∀ k, k < w0.heap.size → hasC J (c0 k) = false → w.heap[k]? = w0.heap[k]?
section
variable {c0 c c' : Nat → Nat} {w0 w w' : World} {I J K : List Nat}
theorem OldJ.start (c0 : Nat → Nat) (w0 : World) (J : List Nat) : OldJ c0 w0 J (mask c0 J) w0 := ⟨rfl, rfl, rfl, Nat.le_refl _, fun _ _ => rfl, fun _ _ _ => rfl⟩
theorem OldJ.mv (h : OldJ c0 w0 J c w) (m : Mv c w c' w' I) (hi : hasC I 0 = false := by rfl) : OldJ c0 w0 J c' w' :=
  ⟨m.os.trans h.os, m.tape.trans h.tape, m.output.trans h.output, Nat.le_trans h.size m.size, fun k hk => (m.col k (Nat.lt_of_lt_of_le hk h.size)).trans (h.col k hk),
   fun k hk hj => (m.block k (Nat.lt_of_lt_of_le hk h.size) (by rw [h.col k hk, mask_out hj]; exact hi)).trans (h.block k hk hj)⟩
theorem OldJ.kp (h : OldJ c0 w0 J c w) {W : World} (hW : Kp c w I W) (hi : hasC I 0 = false) (ho : W.os = w.os) (ht : W.tape = w.tape) (hp : W.output = w.output) : OldJ c0 w0 J c W :=
  ⟨ho.trans h.os, ht.trans h.tape, hp.trans h.output, Nat.le_trans h.size hW.1, h.col,
   fun k hk hj => (hW.2 k (Nat.lt_of_lt_of_le hk h.size) (by rw [h.col k hk, mask_out hj]; exact hi)).trans (h.block k hk hj)⟩
/-- The colours told outside. -/
def back (c0 : Nat → Nat) (w0 : World) (c : Nat → Nat) : Nat → Nat := fun k => if k < w0.heap.size then c0 k else c k
theorem back_col (h : OldJ c0 w0 J c w) {k i : Nat} (hi : hasC J i = true) (h0 : i ≠ 0) (hk : c k = i) : back c0 w0 c k = i := by
  unfold back
  split
  · rename_i hlt
    rw [h.col k hlt] at hk
    unfold mask at hk
    split at hk
    · exact hk
    · exact absurd hk.symm h0
  · exact hk
theorem OldJ.out (h : OldJ c0 w0 J c w) : Mv c0 w0 (back c0 w0 c) w J := ⟨h.os, h.tape, h.output, h.size, fun k hk => by simp [back, hk], h.block⟩
theorem BlkC.out {i b : Nat} {cs : List Value} {t : TypeId} (hb : BlkC c w i b cs t) (h : OldJ c0 w0 J c w) (hi : (Nat.blt 0 i && hasC J i) = true) : BlkC (back c0 w0 c) w i b cs t := by
  rw [Bool.and_eq_true] at hi
  exact ⟨hb.blk, back_col h hi.2 (by have := Nat.le_of_ble_eq_true hi.1; omega) hb.col⟩
theorem OwnC.out {i : Nat} {e : TypeId} {size n : Nat} {v : Value} {xs : List Value} (ho : OwnC c w i e size v n xs) (h : OldJ c0 w0 J c w) (hi : (Nat.blt 0 i && hasC J i) = true) : OwnC (back c0 w0 c) w i e size v n xs := by
  rw [Bool.and_eq_true] at hi
  exact ⟨ho.own, fun k hk => back_col h hi.2 (by have := Nat.le_of_ble_eq_true hi.1; omega) (ho.col k hk)⟩
/-- The colours told outside, where a new row takes an old one's colour. -/
theorem OldJ.outN (h : OldJ c0 w0 J c w) {i j : Nat} (hj : (Nat.blt 0 j && !hasC J j) = true) : ∃ c'', Mv c0 w0 c'' w J ∧ ∀ {e : TypeId} {size n : Nat} {v : Value} {xs : List Value}, OwnC c w j e size v n xs → OwnC c'' w i e size v n xs := by
  rw [Bool.and_eq_true, Bool.not_eq_true'] at hj
  have hj0 : 0 < j := Nat.le_of_ble_eq_true hj.1
  refine ⟨fun k => if k < w0.heap.size then c0 k else if c k = j then i else c k, ⟨h.os, h.tape, h.output, h.size, fun k hk => by simp [hk], h.block⟩, fun {e size n v xs} ho => ⟨ho.own, fun k hk => ?_⟩⟩
  have hck := ho.col k hk
  have hge : ¬ k < w0.heap.size := fun hlt => by
    rw [h.col k hlt] at hck
    unfold mask at hck
    split at hck
    · rename_i hh
      rw [hck, hj.2] at hh; cases hh
    · omega
  show (if k < w0.heap.size then c0 k else if c k = j then i else c k) = i
  rw [if_neg hge, if_pos hck]
theorem BlkC.inn0 {i b : Nat} {cs : List Value} {t : TypeId} (hb : BlkC c w i b cs t) (hi : hasC J i = false) : BlkC (mask c J) w 0 b cs t :=
  ⟨hb.blk, by rw [mask_out (by rw [hb.col]; exact hi)]⟩
theorem BlkC.inn {i b : Nat} {cs : List Value} {t : TypeId} (hb : BlkC c w i b cs t) (hi : hasC J i = true) : BlkC (mask c J) w i b cs t :=
  ⟨hb.blk, by rw [mask_in (by rw [hb.col]; exact hi)]; exact hb.col⟩
theorem OwnC.inn {i : Nat} {e : TypeId} {size n : Nat} {v : Value} {xs : List Value} (ho : OwnC c w i e size v n xs) (hi : hasC J i = true) : OwnC (mask c J) w i e size v n xs :=
  ⟨ho.own, fun k hk => by rw [mask_in (by rw [ho.col k hk]; exact hi)]; exact ho.col k hk⟩
theorem apart_out {K J : List Nat} (h : apartC K J = true) {i : Nat} (hk : hasC K i = true) : hasC J i = false := hasC_of_apart h hk
theorem FtC.inn {Φ : World → Prop} (h : FtC Φ c w K) (ha : apartC K J = true) : FtC Φ (mask c J) w [0] := Foot.mono h fun k _ hk => by
  show hasC [0] (mask c J k) = true
  rw [mask_out (apart_out ha hk)]; rfl
theorem CelC.inn {p : Addr} {cs : List Value} (h : CelC c w K p cs) (ha : apartC K J = true) : CelC (mask c J) w [0] p cs :=
  ⟨h.cel, by rw [mask_out (apart_out ha h.col)]; rfl⟩
end
end Go.Eng

namespace Go.Eng
open Go Go.RowKit Go.Lib
section
variable {P : Program} {c : Nat → Nat} {w : World} {i : Nat} {e : TypeId} {size : Nat} {v : Value} {n : Nat} {xs : List Value}
theorem OwnA.src (h : OwnA w e size v n xs) {u e' : TypeId} (hu : P.underlying u = some (.slice e')) (h1 : ∀ y ∈ xs, y.oneCell' = true) : Src P w u size v n xs := by
  have hl := h.1
  rcases h.2 with ⟨rfl, A, rfl⟩ | ⟨g, o, cap, cur, fz, rfl, hg, hfz, hnc, hcm, hcs, htake, hcp⟩
  · have hx : xs = [] := List.eq_nil_of_length_eq_zero (by simpa using hl)
    subst hx
    refine ⟨.inl ⟨_, hu⟩, fun W => by cases A <;> simp [Builtin.lenOf], fun W _ => ?_, by simp, by simp⟩
    cases A with
    | none => exact run_firstCells_none (P := P) W size 0 0 0
    | some a => simpa using run_firstCells_some (P := P) W size 0 a 0 0 [] (by simp) (fun j y hy => by simp at hy)
  · exact Src.cellsAt hu (h.cells rfl hcp) hl h1
theorem OwnC.srcFrom (h : OwnC c w i e size v n xs) {u e' : TypeId} (hu : P.underlying u = some (.slice e')) (h1 : ∀ y ∈ xs, y.oneCell' = true) {k : Nat} (hk : k ≤ n) : Src P w u size (subV v k n size) (n - k) (xs.drop (k * size)) :=
  (h.own.any.from hk).src hu fun y hy => h1 y (List.mem_of_mem_drop hy)
/-- The head of a row of one's own. -/
theorem OwnC.to (h : OwnC c w i e size v n xs) {k : Nat} (hk : k ≤ n) : OwnC c w i e size (subV v 0 k size) k (xs.take (k * size)) := by
  have hle : k * size ≤ n * size := Nat.mul_le_mul_right _ hk
  refine ⟨⟨by rw [List.length_take, h.own.1]; omega, ?_⟩, fun j hj => h.col j (rowOf_subV hj)⟩
  rcases h.own.2 with ⟨rfl, A, rfl⟩ | ⟨g, cap, cur, fz, rfl, hb, hg, hfz, hnc, hcm, hcs, htake, hcp⟩
  · have : k = 0 := by omega
    subst this
    exact .inl ⟨rfl, A, by simp [subV]⟩
  · refine .inr ⟨g, cap, cur, fz, ?_, hb, hg, hfz, by omega, hcm, hcs, ?_, hcp⟩
    · simp [subV, add_lit]
    · rw [← htake, List.take_take, Nat.min_eq_left hle]
/-- .. and more of it than is known. -/
theorem OwnC.wide {A : Option Addr} {cap k : Nat} (h : OwnC c w i e size (.slice A n cap) n xs) (hc : n + k ≤ cap) : ∃ ys, ys.length = k * size ∧ OwnC c w i e size (subV (.slice A n cap) 0 (n + k) size) (n + k) (xs ++ ys) := by
  have hl := h.own.1
  rcases h.own.2 with ⟨rfl, A', he⟩ | ⟨g, cap', cur, fz, he, hb, hg, hfz, hnc, hcm, hcs, htake, hcp⟩
  · injection he with h1 h2 h3
    subst h3
    have : k = 0 := by omega
    subst this
    have hx : xs = [] := List.eq_nil_of_length_eq_zero (by simpa using hl)
    subst hx
    refine ⟨[], by simp, ⟨⟨by simp, .inl ⟨by omega, A, by simp [subV]⟩⟩, fun j hj => h.col j (rowOf_subV hj)⟩⟩
  · injection he with h1 h2 h3
    subst h1 h3
    have hm : (n + k) * size = n * size + k * size := Nat.add_mul _ _ _
    have hle : (n + k) * size ≤ cap * size := Nat.mul_le_mul_right _ hc
    have hcl : cur.toList.length = cap * size := by simpa using hcs
    refine ⟨(cur.toList.drop (n * size)).take (k * size), by rw [List.length_take, List.length_drop, hcl]; omega, ⟨⟨?_, .inr ⟨g, cap, cur, fz, ?_, hb, hg, hfz, hc, hcm, hcs, ?_, hcp⟩⟩, fun j hj => h.col j (rowOf_subV hj)⟩⟩
    · rw [List.length_append, hl, List.length_take, List.length_drop, hcl]; omega
    · simp [subV, add_lit]
    · rw [hm, List.take_add, htake]
end
section
variable {P : Program} {env : Env} {ty : TypeId} {c : Nat → Nat} {w : World} {i : Nat} {e : TypeId} {size : Nat} {v : Value} {n : Nat} {xs : List Value}
/-- Cells put into a row of one's own. -/
theorem OwnC.put (h : OwnC c w i e size v n xs) {o : Nat} {news : List Value} (hn : 0 < n) (ho : o + news.length ≤ n * size) (h1 : ∀ y ∈ news, y.oneCell' = true) :
    ∃ g cap w', v = .slice (some ⟨g, 0, none⟩) n cap ∧ (storeCells ⟨g, o, none⟩ news).run P w = .ok () w' ∧ OwnC c w' i e size v n (xs.take o ++ news ++ xs.drop (o + news.length)) ∧ Mv c w c w' [i] := by
  rcases h.own.2 with ⟨rfl, A, rfl⟩ | ⟨g, cap, cur, fz, rfl, hb, hg, hfz, hnc, hcm, hcs, htake, hcp⟩
  · omega
  have hle : n * size ≤ cap * size := Nat.mul_le_mul_right _ hnc
  have hcl : cur.toList.length = cap * size := by simpa using hcs
  have hst := run_storeCells_fz (P := P) g o e fz news 0 cur w hg hfz (by omega) h1
  simp only [Nat.add_zero] at hst
  have hxl := h.own.1
  refine ⟨g, cap, _, rfl, hst, ⟨⟨?_, .inr ⟨g, cap, _, fz, rfl, hb, setRow_heap w g cur _ e fz hg, ?_, hnc, hcm, ?_, ?_, hcp⟩⟩, h.col⟩, ?_⟩
  · simp only [List.length_append, List.length_take, List.length_drop, hxl]; omega
  · intro hf
    have := hfz hf
    simp only [List.size_toArray, List.length_append, List.length_take, List.length_drop, hcl]; omega
  · simp only [List.size_toArray, List.length_append, List.length_take, List.length_drop, hcl]; omega
  · rw [← htake]
    show (cur.toList.take o ++ news ++ cur.toList.drop (o + news.length)).take (n * size) = _
    rw [List.take_append, List.take_append, List.take_take, List.take_take, List.length_append, List.length_take, hcl, List.drop_take]
    rw [Nat.min_eq_left (show o ≤ cap * size by omega), Nat.min_eq_right (show o ≤ n * size by omega), Nat.min_eq_left (show o ≤ n * size by omega)]
    rw [List.take_of_length_le (show news.length ≤ n * size - o by omega), Nat.sub_add_eq]
  · refine ⟨rfl, rfl, rfl, by simp [World.setRow], fun _ _ => rfl, fun k _ hk => setRow_other w g k _ (fun e => ?_)⟩
    rw [e] at hk
    have hcg := h.col g (rowOf_slice hcp)
    rw [hcg] at hk; simp [hasC] at hk
/-- A struct stored into a row of one's own. -/
theorem Eff.storeON {t : TypeId} {x y : Operand} {j : Nat} {cs : List Value} (ht : aggT P t = some size) (hown : OwnC c w i e size v n xs) (hj : j < n) (hx : evO env x = some (.pointer (some (elemA v size j)))) (hy : evO env y = some (.agg cs.toArray)) (hl : cs.length = size) (h1 : ∀ y ∈ cs, y.oneCell' = true) :
    Eff P env w (.store t x y) ty (fun _ w' => ∃ c', Mv c w c' w' [i] ∧ OwnC c' w' i e size v n (xs.take (j * size) ++ cs ++ xs.drop ((j + 1) * size))) :=
  Eff.of_skip fun _ a ho d pos after g => by
    obtain ⟨_, inf, hinf, hsz⟩ := run_isAgg_agg (w := w) ht
    have hjn : (j + 1) * size ≤ n * size := Nat.mul_le_mul_right _ hj
    have hj1 : (j + 1) * size = j * size + size := by rw [Nat.add_mul, Nat.one_mul]
    obtain ⟨g', cap, w', rfl, hst, h2, h3⟩ := hown.put (P := P) (o := j * size) (news := cs) (by omega) (by omega) h1
    rw [hl, ← hj1] at h2
    refine ⟨w', ?_, c, h3, h2⟩
    simp only [execOp, Instr.storeAt, storeVar, ho.eval hx, ho.eval hy, Instr.sureAddr, Sem.run_bind, Sem.run_pure, Result.andThen_ok, sizeOf, typeInfo, program, Sem.run, hinf, Value.cells, List.size_toArray, hl, hsz]
    simp [elemA, add_lit, hst]
/-- One cell stored into it. -/
theorem Eff.storeOF {t : TypeId} {x y : Operand} {j : Nat} {u : Value} {g n' cap' : Nat} (ht : sclT P t = true) (hown : OwnC c w i e size v n xs) (hv : v = .slice (some ⟨g, 0, none⟩) n' cap') (hj : j < n * size) (hx : evO env x = some (.pointer (some ⟨g, j, none⟩))) (hy : evO env y = some u) (hu : u.cells = #[u]) (h1 : u.oneCell' = true) :
    Eff P env w (.store t x y) ty (fun _ w' => ∃ c', Mv c w c' w' [i] ∧ OwnC c' w' i e size v n (xs.set j u)) :=
  Eff.of_skip fun _ a ho d pos after g2 => by
    obtain ⟨inf, hinf, hsz⟩ := size_scl ht
    have hn : 0 < n := by
      rcases Nat.eq_zero_or_pos n with h | h
      · rw [h, Nat.zero_mul] at hj; omega
      · exact h
    obtain ⟨g', cap, w', hv2, hst, h2, h3⟩ := hown.put (P := P) (o := j) (news := [u]) hn (by simp; omega) (by simpa using h1)
    rw [hv] at hv2
    injection hv2 with hg _ _
    injection hg with hg
    injection hg with hg _ _
    subst hg
    have hxl := hown.own.1
    have hset : xs.take j ++ [u] ++ xs.drop (j + [u].length) = xs.set j u := by
      rw [List.set_eq_take_append_cons_drop, if_pos (by omega)]; simp
    rw [hset] at h2
    refine ⟨w', ?_, c, h3, h2⟩
    simp only [storeCells, Sem.run_bind, Sem.run_pure] at hst
    have key : ∀ r : Result Unit, (r.andThen fun _ w => .ok () w) = .ok () w' → (r.andThen fun _ w => .ok Next.skip w) = .ok Next.skip w' := fun r h => by
      cases r <;> simp_all [Result.andThen]
    have hst2 := key _ hst
    simp only [execOp, Instr.storeAt, storeVar, ho.eval hx, ho.eval hy, Instr.sureAddr, Sem.run_bind, Sem.run_pure, Result.andThen_ok, sizeOf, typeInfo, program, Sem.run, hinf, hu, hsz]
    simpa [storeCells] using hst2
/-- copy(v[a:], s). -/
theorem Eff.copyO {t t2 : TypeId} {by_ : Nat} {z : List Value} {x y : Operand} {a m : Nat} {sv : Value} {news : List Value} (ht : slT P t = some (e, size, by_, z)) (hown : OwnC c w i e size v n xs) (hn : 0 < n) (ha : a ≤ n) (hx : evO env x = some (subV v a n size)) (hy : evO env y = some sv)
    (hlen : ∀ W : World, (Builtin.lenOf sv).run P W = .ok m W) (hfc : ∀ W : World, W.heap = w.heap → (Builtin.firstCells size (Nat.min m (n - a)) sv).run P W = .ok news.toArray W) (hnl : news.length = Nat.min m (n - a) * size) (h1 : ∀ y ∈ news, y.oneCell' = true) :
    Eff P env w (.call ⟨.builtin .copy, #[x, y], #[t, t2]⟩) ty (fun _ w' => ∃ c', Mv c w c' w' [i] ∧ OwnC c' w' i e size v n (xs.take (a * size) ++ news ++ xs.drop (a * size + news.length))) :=
  Eff.of_run fun _ ac ho d pos after g => by
    obtain ⟨hu, inf, zv, hi, hs, hb', hz', hc', hl'⟩ := slT_spec ht
    have hmn : Nat.min m (n - a) * size ≤ (n - a) * size := Nat.mul_le_mul_right _ (Nat.min_le_right _ _)
    have hna : a * size + (n - a) * size = n * size := by rw [← Nat.add_mul]; congr 1; omega
    obtain ⟨g', cap, w', rfl, hst, h2, h3⟩ := hown.put (P := P) (o := a * size) (news := news) hn (by omega) h1
    have hf := hfc w rfl
    refine ⟨I ((Nat.min m (n - a) : Nat) : Int), w', ?_, c, h3, h2⟩
    by_cases hca : cap = a
    · have hna0 : n - a = 0 := by
        have := hown.own.len
        obtain ⟨A, cp, he, h4, _⟩ := this
        injection he with _ _ he
        omega
      have hm0 : Nat.min m (n - a) = 0 := by rw [hna0]; exact Nat.min_zero m
      have hn0 : news = [] := List.eq_nil_of_length_eq_zero (by rw [hnl, hm0, Nat.zero_mul])
      subst hn0
      have hw : w' = w := by simp [storeCells] at hst; exact hst.symm
      subst hw
      rw [hm0] at hf
      simp [execOp, resolve, invoke, builtin, Builtin.copy_, ho.eval hx, ho.eval hy, run_underlying hu, sizeOf, typeInfo, hi, hs, hlen, subV, hca, hna0, hf, goInt, storeCells]
    · simp [execOp, resolve, invoke, builtin, Builtin.copy_, ho.eval hx, ho.eval hy, run_underlying hu, sizeOf, typeInfo, hi, hs, hlen, subV, hca, hf, hst, goInt, add_lit]
theorem zero_one {z : Array Value} {n : Nat} (h : ∀ y ∈ z.toList, y.oneCell' = true) {y : Value} (hy : y ∈ (Builtin.zeroCells z n).toList) : y.oneCell' = true := by
  unfold Builtin.zeroCells at hy
  simp only [Array.toList_map, List.mem_map, Array.toList_range, List.mem_range] at hy
  obtain ⟨i, hi, rfl⟩ := hy
  have hz : 0 < z.size := by
    rcases Nat.eq_zero_or_pos z.size with h | h
    · rw [h, Nat.mul_zero] at hi; omega
    · exact h
  have hm := Nat.mod_lt i hz
  rw [getElem!_pos z _ hm]
  exact h _ (by simp)
/-- clear of what lies behind the head of a row of one's own. -/
theorem Eff.clearO {t : TypeId} {by_ : Nat} {z : List Value} {x : Operand} {A : Option Addr} {cap lo hi : Nat} (ht : slT P t = some (e, size, by_, z)) (h1 : ∀ y ∈ z, y.oneCell' = true) (hown : OwnC c w i e size (.slice A n cap) n xs) (hx : evO env x = some (subV (.slice A n cap) lo hi size)) (h0 : n ≤ lo) (h2 : lo ≤ hi) (h3 : hi ≤ cap) :
    Eff P env w (.call ⟨.builtin .clear, #[x], #[t]⟩) ty (fun _ w' => ∃ c', Mv c w c' w' [i] ∧ OwnC c' w' i e size (.slice A n cap) n xs) :=
  Eff.of_run fun _ ac ho d pos after g => by
    obtain ⟨hu, inf, zv, hi', hs, hb', hz', hc', hl'⟩ := slT_spec ht
    rcases Nat.eq_or_lt_of_le h2 with h4 | h4
    · subst h4
      refine ⟨.tuple #[], w, ?_, c, Mv.refl _ _ _, hown⟩
      have hsub : subV (.slice A n cap) lo lo size = .slice (if cap = lo then A else A.map (·.add (lo * size))) 0 (cap - lo) := by simp [subV]
      rw [hsub] at hx
      generalize (if cap = lo then A else A.map (·.add (lo * size))) = B at hx
      cases B <;> simp [execOp, resolve, invoke, builtin, Builtin.clear_, ho.eval hx, run_underlying hu]
    · rcases hown.own.2 with ⟨_, A', he⟩ | ⟨g, cap', cur, fz, he, hb2, hg, hfz, hnc, hcm, hcs, htake, hcp⟩
      · injection he with _ _ he; omega
      injection he with hA _ hcap
      subst hA hcap
      obtain ⟨ys, hyl, hw⟩ := hown.wide (k := hi - n) (by omega)
      have hhn : n + (hi - n) = hi := by omega
      rw [hhn] at hw
      have hsub : subV (.slice (some ⟨g, 0, none⟩) n cap) 0 hi size = .slice (some ⟨g, 0, none⟩) hi cap := by simp [subV, add_lit]
      rw [hsub] at hw
      have hzs : zv.cells.size = size := by rw [hc']; simpa using hl'
      have hzc : (Builtin.zeroCells zv.cells (hi - lo)).toList.length = (hi - lo) * size := by
        rw [Array.length_toList, size_zeroCells, hzs]
      have hls : lo * size + (hi - lo) * size = hi * size := by rw [← Nat.add_mul]; congr 1; omega
      have hnl : n * size ≤ lo * size := Nat.mul_le_mul_right _ h0
      obtain ⟨g', cp, w', hv, hst, h5, h6⟩ := hw.put (P := P) (o := lo * size) (news := (Builtin.zeroCells zv.cells (hi - lo)).toList) (by omega) (by omega) (fun y hy => zero_one (by rw [hc']; simpa using h1) hy)
      injection hv with hg' _ _
      injection hg' with hg'
      injection hg' with hg' _ _
      subst hg'
      have h7 := h5.to (k := n) (by omega)
      have hsub2 : subV (.slice (some ⟨g, 0, none⟩) hi cap) 0 n size = .slice (some ⟨g, 0, none⟩) n cap := by simp [subV, add_lit]
      rw [hsub2] at h7
      have hxl := hown.own.1
      have hx2 : ((xs ++ ys).take (lo * size) ++ (Builtin.zeroCells zv.cells (hi - lo)).toList ++ (xs ++ ys).drop (lo * size + (Builtin.zeroCells zv.cells (hi - lo)).toList.length)).take (n * size) = xs := by
        rw [List.append_assoc, List.take_append_of_le_length (by rw [List.length_take, List.length_append, hxl, hyl, ← Nat.add_mul, hhn]; omega), List.take_take, Nat.min_eq_left hnl, ← hxl, List.take_left]
      rw [hx2] at h7
      refine ⟨.tuple #[], w', ?_, c, h6, h7⟩
      have hsub3 : subV (.slice (some ⟨g, 0, none⟩) n cap) lo hi size = .slice (some ⟨g, lo * size, none⟩) (hi - lo) (cap - lo) := by
        simp [subV, add_lit, show ¬ cap = lo by omega]
      rw [hsub3] at hx
      have hne : hi - lo ≠ 0 := by omega
      have hzv : (zeroValue e).run P w = .ok zv w := by simp [zeroValue, typeInfo, hi', hz']
      obtain ⟨d0, hd0⟩ : ∃ d0, hi - lo = d0 + 1 := ⟨hi - lo - 1, by omega⟩
      rw [hd0] at hx hst
      simp [execOp, resolve, invoke, builtin, Builtin.clear_, ho.eval hx, run_underlying hu, hzv, hst]
/-- so many zero values more, where there is no room: a new row. -/
theorem Eff.appendZC {t tn : TypeId} {by_ : Nat} {z : List Value} {x y : Operand} {A : Option Addr} {cap : Nat} {kq kn : IntKind} {k : Int} (j : Nat) (ht : slT P t = some (e, size, by_, z)) (htn : P.underlying tn = some (.int kn)) (hsz : 0 < size) (hown : OwnC c w i e size (.slice A n cap) n xs) (hx : evO env x = some (.slice A n cap)) (hy : evO env y = some (.int kq k))
    (h0 : 0 < k) (hg : (cap : Int) < n + k) (hm : (n : Int) + k ≤ 1048576) (hby : 1048576 * by_ ≤ 140737488355328) :
    Eff P env w (.call ⟨.builtin .append, #[x, y], #[t, tn]⟩) ty (fun v' w' => ∃ c', Mv c w c' w' [] ∧ ∃ G ys, ys.length = k.toNat * size ∧ v' = .slice (some ⟨w.heap.size, 0, none⟩) (n + k.toNat) G ∧ OwnC c' w' j e size v' (n + k.toNat) (xs ++ ys)) :=
  Eff.of_run fun _ ac ho d pos after g => by
    obtain ⟨m, rfl⟩ := Int.eq_ofNat_of_zero_le (Int.le_of_lt h0)
    obtain ⟨hu, inf, zv, hi, hss, hb', hz', hc, hl⟩ := slT_spec ht
    subst hss hb'
    have hnm : (n + m) * inf.bytes ≤ 1048576 * inf.bytes := Nat.mul_le_mul_right _ (by omega)
    have hmm : m * inf.bytes ≤ (n + m) * inf.bytes := Nat.mul_le_mul_right _ (by omega)
    have hxl := hown.own.1
    have hold : (Builtin.firstCells inf.size n (.slice A n cap)).run P w.drew = .ok xs.toArray w.drew := by
      rcases hown.own.2 with ⟨rfl, A', he⟩ | ⟨g, cap', cur, fz, he, hb2, hg2, hfz, hnc, hcm, hcs, htake, hcp⟩
      · have hx0 : xs = [] := List.eq_nil_of_length_eq_zero (by simpa using hxl)
        subst hx0
        injection he with _ _ he
        subst he
        cases A with
        | none => exact run_firstCells_none (P := P) w.drew inf.size 0 0 0
        | some a => simpa using run_firstCells_some (P := P) w.drew inf.size 0 a 0 0 [] (by simp) (fun j y hy => by simp at hy)
      · injection he with hA _ hcap
        subst hA hcap
        exact run_firstCells_some (P := P) w.drew inf.size n ⟨g, 0, none⟩ n cap xs hxl (hown.own.cells (rowOf_slice hcp))
    have hr := Lib.run_append_grow_zeros (P := P) w t tn ty e inf zv kq kn hu htn hi hz' A n cap xs hold m (by omega) hsz (by omega) (by omega) (by omega) (growslice_fits (by omega) (by omega))
    have hge := grownCap_ge w (n + m) cap e
    have hle := grownCap_le_maxLen w (n + m) cap e (by unfold maxLen; omega)
    have hzs : zv.cells.size = inf.size := by rw [hc]; simpa using hl
    have hbel : Below w.heap.size w (w.drew.alloc (.cells (xs.toArray ++ Builtin.zeroCells zv.cells m ++ Builtin.zeroCells zv.cells (grownCap w (n + m) cap e - (n + m))) e)) := (Below.refl _ _).drew.alloc (Nat.le_refl _) _
    obtain ⟨c', hM, hcx⟩ := Mv.pure c j hbel
    have hzl : (Builtin.zeroCells zv.cells m).toList.length = m * inf.size := by rw [Array.length_toList, size_zeroCells, hzs]
    refine ⟨_, _, by simp only [execOp, resolve, invoke, builtin, List.map_toArray, List.map_cons, List.map_nil, ho.eval hx, ho.eval hy, hr, Sem.run_bind, Result.andThen_ok, Sem.run_pure]; rfl, c', hM, grownCap w (n + m) cap e, (Builtin.zeroCells zv.cells m).toList, by rw [Array.length_toList, size_zeroCells, hzs]; rfl, rfl, ⟨?_, fun j hj => ?_⟩⟩
    · refine ⟨by rw [List.length_append, hzl, hxl, Nat.add_mul]; rfl, .inr ⟨w.heap.size, _, _, (0, 0), rfl, Nat.zero_le _, heap_alloc_new w.drew _, fun h => by simp at h, hge, hle, ?_, ?_, by omega⟩⟩
      · simp only [Array.size_append, List.size_toArray, size_zeroCells, hzs, hxl, ← Nat.add_mul]
        congr 1
        omega
      · have hlen : (xs ++ (Builtin.zeroCells zv.cells m).toList).length = (n + m) * inf.size := by rw [List.length_append, hzl, hxl, Nat.add_mul]
        simp only [Array.toList_append, Int.toNat_natCast]
        rw [← hlen]
        exact List.take_left
    · refine hcx j ?_
      rw [rowOf_slice (show 0 < grownCap w (n + m) cap e by omega)] at hj
      injection hj with hj
      exact Nat.le_of_eq hj
end
end Go.Eng
