/- Data in memory: shapes, slices that are read, rows that a call owns; append, stores, new slices. No condition. -/
import Derived.Test.YtjddnaefmikccaaOps
set_option linter.unusedSimpArgs false
set_option linter.unusedVariables false
namespace Go.Eng
open Go Go.RowKit

/-- How one value of a Lean type lies in cells; B: it lies below that block. -/
structure Shape (α : Type) where
  size : Nat
  rd : Nat → World → List Value → α → Prop
  len : ∀ {B : Nat} {w : World} {cs : List Value} {x : α}, rd B w cs x → cs.length = size
  keep : ∀ {B : Nat} {w w' : World} {cs : List Value} {x : α}, (∀ k, k < B → w'.heap[k]? = w.heap[k]?) → rd B w cs x → rd B w' cs x
  mono : ∀ {B B' : Nat} {w : World} {cs : List Value} {x : α}, B ≤ B' → rd B w cs x → rd B' w cs x
  one : ∀ {B : Nat} {w : World} {cs : List Value} {x : α}, rd B w cs x → ∀ u ∈ cs, u.oneCell' = true

/-- Plain data: the cells are a function of it. -/
def Shape.flat {α : Type} (n : Nat) (enc : α → List Value) (ok : α → Prop) (h : ∀ x, (enc x).length = n) (h1 : ∀ x, ∀ u ∈ enc x, u.oneCell' = true) : Shape α where
  size := n
  rd := fun _ _ cs x => cs = enc x ∧ ok x
  len := fun h0 => by rw [h0.1]; exact h _
  keep := fun _ h0 => h0
  mono := fun _ h0 => h0
  one := fun h0 => by rw [h0.1]; exact h1 _

def Int64 (n : Int) : Prop := -9223372036854775808 ≤ n ∧ n ≤ 9223372036854775807
def intS : Shape Int := Shape.flat 1 (fun n => [I n]) Int64 (fun _ => rfl) (fun _ u hu => by simp at hu; subst hu; rfl)
def strS : Shape (List UInt8) := Shape.flat 1 (fun l => [St l]) (fun l => l.length ≤ 140737488355328) (fun _ => rfl) (fun _ u hu => by simp at hu; subst hu; rfl)
def byteS : Shape UInt8 := Shape.flat 1 (fun b => [.int .u8 b.toNat]) (fun _ => True) (fun _ => rfl) (fun _ u hu => by simp at hu; subst hu; rfl)
def boolS : Shape Bool := Shape.flat 1 (fun b => [.bool b]) (fun _ => True) (fun _ => rfl) (fun _ u hu => by simp at hu; subst hu; rfl)

theorem add_add (a : Addr) (i j : Nat) : (a.add i).add j = a.add (i + j) := by
  unfold Addr.add
  by_cases hi : i = 0 <;> by_cases hj : j = 0 <;> simp [hi, hj, Nat.add_assoc]
theorem add_block (a : Addr) (n : Nat) : (a.add n).block = a.block := by unfold Addr.add; split <;> rfl
theorem add_zero (a : Addr) : a.add 0 = a := by simp [Addr.add]

/-- Where a slice's element lies. -/
def elemA : Value → Nat → Nat → Addr
  | .slice (some a) _ _, size, i => a.add (i * size)
  | _, _, _ => default

theorem cellsAt.keep {w w' : World} {p : Addr} {cs : List Value} (h : cellsAt w p cs) (hk : w'.heap[p.block]? = w.heap[p.block]?) : cellsAt w' p cs := fun j v hv => by
  rw [← h j v hv]
  exact World.cell?_of_block (by rw [add_block]; exact hk)
theorem cellsAt.block {w : World} {p : Addr} {cs : List Value} (h : cellsAt w p cs) (h0 : 0 < cs.length) : p.block < w.heap.size := by
  have := World.block_lt_of_cell? w _ (h 0 cs[0] (List.getElem?_eq_getElem h0))
  rwa [add_block] at this

/-- A slice reads as a list. -/
structure RdS {α : Type} (s : Shape α) (B : Nat) (w : World) (v : Value) (l : List α) : Prop where
  form : ∃ A c, v = .slice A l.length c ∧ l.length ≤ c ∧ c ≤ maxLen ∧ (∀ a, A = some a → 0 < l.length → a.block < B)
  elem : ∀ i x, l[i]? = some x → ∃ cs, cellsAt w (elemA v s.size i) cs ∧ s.rd B w cs x
  addr : 0 < l.length → ∃ a c, v = .slice (some a) l.length c
  small : l.length ≤ 140737488355328

section
variable {α : Type} {s : Shape α} {B B' : Nat} {w w' : World} {v : Value} {l : List α}

theorem RdS.lenI (h : RdS s B w v l) : l.length ≤ maxLen := by obtain ⟨A, c, _, h1, h2, _⟩ := h.form; omega
theorem RdS.lenN (h : RdS s B w v l) : l.length ≤ 9223372036854775807 := by have := h.lenI; simpa [maxLen] using this
theorem RdS.blockA (h : RdS s B w v l) {i : Nat} (hi : i < l.length) : (elemA v s.size i).block < B := by
  obtain ⟨a, c, rfl⟩ := h.addr (by omega)
  obtain ⟨A, c', he, _, _, hb⟩ := h.form
  injection he with he
  subst he
  simp only [elemA, add_block]
  exact hb a rfl (by omega)
theorem RdS.at (h : RdS s B w v l) {i : Nat} {x : α} (hi : l[i]? = some x) : ∃ cs, cellsAt w (elemA v s.size i) cs ∧ s.rd B w cs x := h.elem i x hi
theorem RdS.keep (h : RdS s B w v l) (hk : ∀ k, k < B → w'.heap[k]? = w.heap[k]?) : RdS s B w' v l :=
  ⟨h.form, fun i x hi => by
    obtain ⟨cs, h1, h2⟩ := h.elem i x hi
    have hlt : i < l.length := by
      rcases Nat.lt_or_ge i l.length with h' | h'
      · exact h'
      · rw [List.getElem?_eq_none h'] at hi; cases hi
    exact ⟨cs, h1.keep (hk _ (h.blockA hlt)), s.keep hk h2⟩, h.addr, h.small⟩
theorem RdS.below (h : RdS s B w v l) (hk : Below B w w') : RdS s B w' v l := h.keep hk.block
theorem RdS.kept (h : RdS s B w v l) (hk : Below w.heap.size w w') (hB : B ≤ w.heap.size) : RdS s B w' v l := h.keep fun k hkB => hk.block k (by omega)
theorem RdS.mono (h : RdS s B w v l) (hB : B ≤ B') : RdS s B' w v l :=
  ⟨by obtain ⟨A, c, h1, h2, h3, h4⟩ := h.form; exact ⟨A, c, h1, h2, h3, fun a ha h0 => Nat.lt_of_lt_of_le (h4 a ha h0) hB⟩,
   fun i x hi => by obtain ⟨cs, h1, h2⟩ := h.elem i x hi; exact ⟨cs, h1, s.mono hB h2⟩, h.addr, h.small⟩
theorem RdS.oneC (h : RdS s B w v l) : v.oneCell' = true := by obtain ⟨A, c, rfl, _⟩ := h.form; rfl
theorem RdS.cellsV (h : RdS s B w v l) : v.cells = #[v] := by obtain ⟨A, c, rfl, _⟩ := h.form; rfl
theorem RdS.nil (s : Shape α) (B : Nat) (w : World) : RdS s B w (.slice none 0 0) [] :=
  ⟨⟨none, 0, rfl, by simp, by simp, fun a ha => by cases ha⟩, fun i x hi => by simp at hi, fun h => by simp at h, by simp⟩

/-- A slice as one cell of something. -/
def Shape.slice (s : Shape α) : Shape (List α) where
  size := 1
  rd := fun B w cs l => ∃ v, cs = [v] ∧ RdS s B w v l
  len := fun ⟨v, h, _⟩ => by rw [h]; rfl
  keep := fun hk ⟨v, h, hr⟩ => ⟨v, h, hr.keep hk⟩
  mono := fun hB ⟨v, h, hr⟩ => ⟨v, h, hr.mono hB⟩
  one := fun ⟨v, h, hr⟩ u hu => by obtain ⟨A, c, rfl, _⟩ := hr.form; subst h; simp at hu; subst hu; rfl
end

section vals
variable {P : Program} {env : Env} {w : World} {ty : TypeId} {α : Type} {s : Shape α} {B : Nat} {v : Value} {l : List α}

theorem Val.rdlen {wr : World} {x : Operand} {t e : TypeId} {sz by_ : Nat} {z : List Value} (ht : slT P t = some (e, sz, by_, z)) (hr : RdS s B wr v l) (hx : evO env x = some v) : Val P env w (.call ⟨.builtin .len, #[x], #[t]⟩) ty (I l.length) := by
  obtain ⟨A, c, rfl, _⟩ := hr.form
  exact Val.sllen (slT_spec ht).1 hx

theorem run_indexAt {t e : TypeId} {sz by_ : Nat} {z : List Value} (ht : slT P t = some (e, sz, by_, z)) {a : Addr} {n c : Nat} {k : IntKind} {i : Int} (h0 : 0 ≤ i) (h1 : i < n) :
    (Instr.indexAt t (.slice (some a) n c) (.int k i)).run P w = .ok (.pointer (some (a.add (i.toNat * sz)))) w := by
  obtain ⟨hu, inf, zv, hi, hs, hb, hz, hc, hl⟩ := slT_spec ht
  obtain ⟨m, rfl⟩ := Int.eq_ofNat_of_zero_le h0
  have h2 : m < n := by omega
  simp [Instr.indexAt, asIntOf, run_underlying hu, sizeOf, typeInfo, hi, hs, h2]
/-- &l[i], l read. -/
theorem Val.indexAddr {wr : World} {x y : Operand} {t e : TypeId} {sz by_ : Nat} {z : List Value} {k : IntKind} {i : Int} (ht : slT P t = some (e, sz, by_, z)) (hr : RdS s B wr v l) (hs : s.size = sz) (hx : evO env x = some v) (hy : evO env y = some (.int k i))
    (h0 : 0 ≤ i) (h1 : i < l.length) : Val P env w (.indexAddr t x y) ty (.pointer (some (elemA v s.size i.toNat))) := fun _ a ho d pos after g => by
  obtain ⟨ad, c, rfl⟩ := hr.addr (by omega)
  subst hs
  simp [execOp, ho.eval hx, ho.eval hy, run_indexAt ht h0 h1, elemA]
end vals

/-! ### Rows of the call's own -/
/-- The row that a slice may be written in: none where it has no room. -/
def _root_.Go.Value.rowOf : Value → Option Nat
  | .slice (some a) _ c => bif Nat.beq c 0 then none else some a.block
  | _ => none
theorem rowOf_slice {a : Addr} {n c : Nat} (h : 0 < c) : (Value.slice (some a) n c).rowOf = some a.block := by
  have hb : Nat.beq c 0 = false := by
    cases hb : Nat.beq c 0 with
    | false => rfl
    | true => have := Nat.eq_of_beq_eq_true hb; omega
  simp only [Value.rowOf, hb, cond_false]
theorem rowOf_zero {A : Option Addr} {n : Nat} : (Value.slice A n 0).rowOf = none := by cases A <;> rfl
/-- A slice that the call owns: nil, or at the head of a block from 'base' on, whose cells begin with xs. -/
def Own (w : World) (base : Nat) (e : TypeId) (size : Nat) (v : Value) (n : Nat) (xs : List Value) : Prop :=
  xs.length = n * size ∧
  ((n = 0 ∧ ∃ A, v = .slice A 0 0) ∨
   ∃ g cap cur fz, v = .slice (some ⟨g, 0, none⟩) n cap ∧ base ≤ g ∧ w.heap[g]? = some (.cells cur e fz) ∧ (fz.1 < fz.2 → cur.size ≤ fz.1) ∧ n ≤ cap ∧ cap ≤ maxLen ∧ cur.size = cap * size ∧ cur.toList.take (n * size) = xs ∧ 0 < cap)
theorem ownIn {w : World} {base : Nat} {e : TypeId} {size : Nat} {v : Value} {n : Nat} {xs : List Value} (h : ∃ g cap cur fz, v = .slice (some ⟨g, 0, none⟩) n cap ∧ base ≤ g ∧ w.heap[g]? = some (.cells cur e fz) ∧ (fz.1 < fz.2 → cur.size ≤ fz.1) ∧ n ≤ cap ∧ cap ≤ maxLen ∧ cur.size = cap * size ∧ cur.toList.take (n * size) = xs) :
    (n = 0 ∧ ∃ A, v = .slice A 0 0) ∨
   ∃ g cap cur fz, v = .slice (some ⟨g, 0, none⟩) n cap ∧ base ≤ g ∧ w.heap[g]? = some (.cells cur e fz) ∧ (fz.1 < fz.2 → cur.size ≤ fz.1) ∧ n ≤ cap ∧ cap ≤ maxLen ∧ cur.size = cap * size ∧ cur.toList.take (n * size) = xs ∧ 0 < cap := by
  obtain ⟨g, cap, cur, fz, rfl, h1, h2, h3, h4, h5, h6, h7⟩ := h
  rcases Nat.eq_zero_or_pos cap with h0 | h0
  · subst h0
    have : n = 0 := by omega
    subst this
    exact .inl ⟨rfl, _, rfl⟩
  · exact .inr ⟨g, cap, cur, fz, rfl, h1, h2, h3, h4, h5, h6, h7, h0⟩

section own
variable {w w' : World} {base : Nat} {e : TypeId} {size : Nat} {v : Value} {n : Nat} {xs : List Value}

theorem Own.nil (w : World) (base : Nat) (e : TypeId) (size : Nat) : Own w base e size (.slice none 0 0) 0 [] := ⟨by simp, .inl ⟨rfl, _, rfl⟩⟩
theorem Own.zero (w : World) (base : Nat) (e : TypeId) (size : Nat) (A : Option Addr) : Own w base e size (.slice A 0 0) 0 [] := ⟨by simp, .inl ⟨rfl, _, rfl⟩⟩
theorem Own.lt (h : Own w base e size v n xs) : ∀ k, v.rowOf = some k → base ≤ k ∧ k < w.heap.size := by
  intro k hk
  rcases h.2 with ⟨_, A, rfl⟩ | ⟨g, cap, cur, fz, rfl, hb, hg, _, _, _, _, _, h0⟩
  · rw [rowOf_zero] at hk; cases hk
  · rw [rowOf_slice h0] at hk
    injection hk with hk
    subst hk
    exact ⟨hb, (Array.getElem?_eq_some_iff.1 hg).1⟩
theorem Own.keepB (h : Own w base e size v n xs) (hk : ∀ k, v.rowOf = some k → w'.heap[k]? = w.heap[k]?) : Own w' base e size v n xs := by
  refine ⟨h.1, ?_⟩
  rcases h.2 with hn | ⟨g, cap, cur, fz, rfl, hb, hg, h1, h2, h3, h4, h5, h0⟩
  · exact .inl hn
  · exact .inr ⟨g, cap, cur, fz, rfl, hb, by rw [hk g (rowOf_slice h0)]; exact hg, h1, h2, h3, h4, h5, h0⟩
theorem Own.kept (h : Own w base e size v n xs) (hk : Below w.heap.size w w') : Own w' base e size v n xs := h.keepB fun k hv => hk.block k (h.lt k hv).2
theorem Own.base_le (h : Own w base e size v n xs) {b : Nat} (hb : b ≤ base) : Own w b e size v n xs := by
  refine ⟨h.1, ?_⟩
  rcases h.2 with hn | ⟨g, cap, cur, fz, rfl, hb', r⟩
  · exact .inl hn
  · exact .inr ⟨g, cap, cur, fz, rfl, by omega, r⟩
theorem Own.len (h : Own w base e size v n xs) : ∃ A c, v = .slice A n c ∧ n ≤ c ∧ c ≤ maxLen := by
  rcases h.2 with ⟨rfl, A, rfl⟩ | ⟨g, cap, cur, fz, rfl, _, _, _, h1, h2, _⟩
  · exact ⟨A, 0, rfl, by simp, by simp⟩
  · exact ⟨_, cap, rfl, h1, h2⟩
theorem Own.oneC (h : Own w base e size v n xs) : v.oneCell' = true := by obtain ⟨A, c, rfl, _⟩ := h.len; rfl
theorem Own.cellsV (h : Own w base e size v n xs) : v.cells = #[v] := by obtain ⟨A, c, rfl, _⟩ := h.len; rfl
theorem Own.cells (h : Own w base e size v n xs) {g : Nat} (hg : v.rowOf = some g) : cellsAt w ⟨g, 0, none⟩ xs := by
  intro j u hu
  rcases h.2 with ⟨_, A, rfl⟩ | ⟨g', cap, cur, fz, rfl, _, hgg, _, _, _, _, htake, h0⟩
  · rw [rowOf_zero] at hg; cases hg
  · rw [rowOf_slice h0] at hg
    injection hg with hg
    subst hg
    rw [add_lit, cell_of_row w g' _ cur e fz hgg]
    rw [← htake, List.getElem?_take] at hu
    split at hu
    · simpa using hu
    · cases hu

/-- A row of one's own reads as a list, where its cells are those of the elements. -/
theorem Own.rd {α : Type} {s : Shape α} {l : List α} {css : List (List Value)} (hsm : l.length ≤ 140737488355328) (h : Own w base e s.size v l.length xs) (hx : xs = css.flatten) (hc : css.length = l.length)
    (he : ∀ (i : Nat) cs x, css[i]? = some cs → l[i]? = some x → s.rd w.heap.size w cs x) : RdS s w.heap.size w v l := by
  have hlen : ∀ cs ∈ css, cs.length = s.size := by
    intro cs hcs
    obtain ⟨i, hi, rfl⟩ := List.mem_iff_getElem.1 hcs
    exact s.len (he i css[i] (l[i]'(by omega)) (List.getElem?_eq_getElem hi) (List.getElem?_eq_getElem (by omega)))
  refine ⟨?_, ?_, ?_, hsm⟩
  · rcases h.2 with ⟨h0, A, rfl⟩ | ⟨g, cap, cur, fz, rfl, hb, hg, _, h1, h2, _⟩
    · exact ⟨A, 0, by rw [h0], by omega, by simp, fun a ha h1 => by omega⟩
    · refine ⟨_, cap, rfl, h1, h2, fun a ha _ => ?_⟩
      injection ha with ha
      subst ha
      exact (Array.getElem?_eq_some_iff.1 hg).1
  · intro i x hi
    have hil : i < l.length := by
      rcases Nat.lt_or_ge i l.length with h' | h'
      · exact h'
      · rw [List.getElem?_eq_none h'] at hi; cases hi
    have hic : i < css.length := by omega
    refine ⟨css[i], ?_, he i _ x (List.getElem?_eq_getElem hic) hi⟩
    rcases h.2 with ⟨h0, A, rfl⟩ | ⟨g, cap, cur, fz, rfl, hb, hg, _, _, _, _, _, hcp⟩
    · omega
    · have hcell := h.cells (g := g) (rowOf_slice hcp)
      intro j u hu
      simp only [elemA, add_add]
      refine hcell _ u ?_
      rw [hx]
      have hj : j < s.size := by
        rw [← hlen css[i] (List.getElem_mem hic)]
        rcases Nat.lt_or_ge j css[i].length with h' | h'
        · exact h'
        · rw [List.getElem?_eq_none h'] at hu; cases hu
      exact flatten_at css s.size hlen i hic j u hu
  · intro h0
    rcases h.2 with ⟨h1, _⟩ | ⟨g, cap, cur, fz, rfl, _⟩
    · omega
    · exact ⟨_, _, rfl⟩
where
  flatten_at : ∀ (css : List (List Value)) (n : Nat), (∀ cs ∈ css, cs.length = n) → ∀ (i : Nat) (hi : i < css.length) (j : Nat) (u : Value), css[i][j]? = some u → css.flatten[i * n + j]? = some u
    | cs :: r, n, hl, 0, _, j, u, hu => by
      have hj : j < cs.length := by
        rcases Nat.lt_or_ge j cs.length with h' | h'
        · exact h'
        · simp [List.getElem?_eq_none h'] at hu
      simp only [List.flatten_cons, Nat.zero_mul, Nat.zero_add]
      rw [List.getElem?_append_left hj]
      simpa using hu
    | cs :: r, n, hl, i + 1, hi, j, u, hu => by
      have h0 := hl cs (by simp)
      simp only [List.flatten_cons]
      rw [List.getElem?_append_right (by rw [h0, Nat.add_mul]; omega), h0]
      have : (i + 1) * n + j - n = i * n + j := by rw [Nat.add_mul]; omega
      rw [this]
      exact flatten_at r n (fun c hc => hl c (by simp [hc])) i (by simpa using hi) j u (by simpa using hu)

theorem Own.rdFlat {α : Type} {n' : Nat} {enc : α → List Value} {ok : α → Prop} {h0 : ∀ x, (enc x).length = n'} {h1 : ∀ x, ∀ u ∈ enc x, u.oneCell' = true} {l : List α} (hsm : l.length ≤ 140737488355328) (h : Own w base e n' v l.length (l.flatMap enc)) (hok : ∀ x ∈ l, ok x) :
    RdS (Shape.flat n' enc ok h0 h1) w.heap.size w v l := by
  refine Own.rd (s := Shape.flat n' enc ok h0 h1) (css := l.map enc) hsm h (by rw [List.flatMap_def]) (by simp) ?_
  intro i cs x hi hx
  rw [List.getElem?_map, hx] at hi
  simp at hi
  exact ⟨hi.symm, hok x (List.mem_of_getElem? hx)⟩
end own

/-! ### append -/
/-- What is appended: how many, which cells. -/
structure Src (P : Program) (w : World) (u : TypeId) (size : Nat) (x : Value) (m : Nat) (news : List Value) : Prop where
  kind : (∃ e', P.underlying u = some (.slice e')) ∨ P.underlying u = some .string
  lenOf : ∀ W : World, (Builtin.lenOf x).run P W = .ok m W
  cells : ∀ W : World, W.heap = w.heap → (Builtin.firstCells size m x).run P W = .ok news.toArray W
  len : news.length = m * size
  one : ∀ y ∈ news, y.oneCell' = true

section app
variable {P : Program} {w : World}

theorem Src.cellsAt {u e' : TypeId} {size : Nat} {a : Addr} {m c : Nat} {news : List Value} (hu : P.underlying u = some (.slice e')) (hc : cellsAt w a news) (hl : news.length = m * size) (h1 : ∀ y ∈ news, y.oneCell' = true) :
    Src P w u size (.slice (some a) m c) m news :=
  ⟨.inl ⟨_, hu⟩, fun W => by simp [Builtin.lenOf], fun W hW => run_firstCells_some (P := P) W size m a m c news hl (fun j y hy => by
    have := hc j y hy
    simpa [World.cell?, hW] using this), hl, h1⟩
theorem Src.empty {u e' : TypeId} {size : Nat} {c : Nat} (hu : P.underlying u = some (.slice e')) : Src P w u size (.slice none 0 c) 0 [] :=
  ⟨.inl ⟨_, hu⟩, fun W => by simp [Builtin.lenOf], fun W hW => by simp [Builtin.firstCells], by simp, by simp⟩
theorem Src.str {u : TypeId} {l : List UInt8} (hu : P.underlying u = some .string) : Src P w u 1 (St l) l.length (l.map fun b => Value.int .u8 b.toNat) :=
  ⟨.inr hu, fun W => by simp [Builtin.lenOf, size_mk], fun W hW => by
    simp only [Builtin.firstCells]
    rw [extract_mk]
    simp [Sem.run_pure, Sem.run], by simp, fun y hy => by
      obtain ⟨b, _, rfl⟩ := List.mem_map.1 hy
      rfl⟩
theorem Src.rd {α : Type} {s : Shape α} {B : Nat} {v : Value} {l : List α} {u e' : TypeId} {css : List (List Value)} (hu : P.underlying u = some (.slice e')) (h : RdS s B w v l) (hc : css.length = l.length)
    (he : ∀ (i : Nat) cs, css[i]? = some cs → cs.length = s.size ∧ (∀ y ∈ cs, y.oneCell' = true) ∧ Eng.cellsAt w (elemA v s.size i) cs) : Src P w u s.size v l.length css.flatten := by
  have hlen : ∀ cs ∈ css, cs.length = s.size := fun cs hcs => by
    obtain ⟨i, hi, rfl⟩ := List.mem_iff_getElem.1 hcs
    exact (he i _ (List.getElem?_eq_getElem hi)).1
  have hfl : ∀ (css : List (List Value)), (∀ cs ∈ css, cs.length = s.size) → css.flatten.length = css.length * s.size := by
    intro css
    induction css with
    | nil => simp
    | cons c r ih => intro h; simp [ih fun x hx => h x (by simp [hx]), h c (by simp), Nat.add_mul]; omega
  have hone : ∀ y ∈ css.flatten, y.oneCell' = true := fun y hy => by
    obtain ⟨cs, hcs, hy⟩ := List.mem_flatten.1 hy
    obtain ⟨i, hi, rfl⟩ := List.mem_iff_getElem.1 hcs
    exact (he i _ (List.getElem?_eq_getElem hi)).2.1 y hy
  rcases Nat.eq_zero_or_pos l.length with h0 | h0
  · obtain ⟨A, c, rfl, _⟩ := h.form
    have : css = [] := List.eq_nil_of_length_eq_zero (by omega)
    subst this
    rw [h0]
    exact ⟨.inl ⟨_, hu⟩, fun W => by simp [Builtin.lenOf], fun W hW => by cases A <;> simp [Builtin.firstCells, loadCells, loadCellsFrom], by simp, by simp⟩
  · obtain ⟨a, c, rfl⟩ := h.addr h0
    refine Src.cellsAt hu ?_ (by rw [hfl css hlen, hc]) hone
    have key : ∀ (css : List (List Value)) (a : Addr), (∀ cs ∈ css, cs.length = s.size) → (∀ (i : Nat) cs, css[i]? = some cs → Eng.cellsAt w (a.add (i * s.size)) cs) → Eng.cellsAt w a css.flatten := by
      intro css
      induction css with
      | nil => intro a _ _ j y hy; simp at hy
      | cons c0 r ih =>
        intro a hl hA j y hy
        simp only [List.flatten_cons] at hy
        rcases Nat.lt_or_ge j c0.length with hj | hj
        · rw [List.getElem?_append_left hj] at hy
          have := hA 0 c0 rfl j y hy
          simpa [add_zero] using this
        · rw [List.getElem?_append_right hj] at hy
          have h1 := ih (a.add s.size) (fun c hc => hl c (by simp [hc])) (fun i cs hi => by
            have := hA (i + 1) cs (by simpa using hi)
            rw [add_add]
            rwa [Nat.add_mul, Nat.one_mul, Nat.add_comm] at this) (j - c0.length) y hy
          rw [hl c0 (by simp)] at h1 hj
          rw [add_add] at h1
          rwa [show s.size + (j - s.size) = j by omega] at h1
    exact key css a hlen fun i cs hi => by simpa [elemA] using (he i cs hi).2.2

theorem run_storeCells_fz (g o : Nat) (t : TypeId) (fz : Nat × Nat) : ∀ (vs : List Value) (i : Nat) (cur : Array Value) (w : World), w.heap[g]? = some (.cells cur t fz) → (fz.1 < fz.2 → cur.size ≤ fz.1) → o + i + vs.length ≤ cur.size → (∀ v ∈ vs, v.oneCell' = true) →
    (storeCells ⟨g, o, none⟩ vs i).run P w = .ok () (w.setRow g (cur.toList.take (o + i) ++ vs ++ cur.toList.drop (o + i + vs.length)).toArray)
  | [], i, cur, w, hg, _, _, _ => by
    simp only [storeCells, List.append_nil, List.length_nil, Nat.add_zero, List.take_append_drop, Array.toArray_toList]
    rw [setRow_self w g cur t fz hg]
    rfl
  | v :: rest, i, cur, w, hg, hf, hl, h1 => by
    have hi : o + i < cur.size := by simp at hl; omega
    have hcell : w.cell? ⟨g, o + i, none⟩ = some cur[o + i] := by simp [World.cell?, hg, hi]
    have hfro : w.frozen? ⟨g, o + i, none⟩ = false := by
      obtain ⟨lo, hi'⟩ := fz
      simp [World.frozen?, hg]
      intro h1
      rcases Nat.lt_or_ge lo hi' with h2 | h2
      · have := hf h2; simp at this; omega
      · omega
    have hst : (store ((⟨g, o, none⟩ : Addr).add i) v).run P w = .ok () (w.setRow g (cur.setIfInBounds (o + i) v)) := by
      rw [add_lit, run_store P w _ v _ (h1 v (by simp)), hcell]
      simp [hfro, setCell_eq_setRow w g (o + i) cur t fz v hg]
    have ih := run_storeCells_fz g o t fz rest (i + 1) (cur.setIfInBounds (o + i) v) (w.setRow g (cur.setIfInBounds (o + i) v)) (setRow_heap w g cur _ t _ hg) (by simpa using hf) (by simp at hl ⊢; omega) (fun x hx => h1 x (by simp [hx]))
    simp only [storeCells, Sem.run_bind, hst, Result.andThen_ok, ih, setRow_setRow]
    congr 3
    have e := list_seg_step cur.toList (o + i) v rest (by simp at hl ⊢; omega)
    simpa [Array.toList_setIfInBounds, Nat.add_assoc] using e

/-- What an append, or a store into a row of one's own, may have turned: that row. -/
theorem run_append_gen {t u ty e : TypeId} {size by_ : Nat} {z : List Value} (ht : slT P t = some (e, size, by_, z)) {base : Nat} {v x : Value} {n m : Nat} {xs news : List Value} (hown : Own w base e size v n xs) (hs : Src P w u size x m news)
    (h63 : n + m ≤ maxLen) (hby : (n + m) * by_ ≤ 140737488355328) (hbase : base ≤ w.heap.size) :
    ∃ v' w', (Builtin.append_ #[t, u] ty #[v, x]).run P w = .ok v' w' ∧ Own w' base e size v' (n + m) (xs ++ news) ∧ w.grownBy w' v.rowOf ∧ (v'.rowOf = v.rowOf ∨ v'.rowOf = some w.heap.size) := by
  obtain ⟨hu, inf, zv, hi, hsz, hb, hz, hc, hl⟩ := slT_spec ht
  subst hsz
  subst hb
  have hsmall : n + m ≤ 9223372036854775807 := by simp only [maxLen] at h63; omega
  have hlen : (xs ++ news).length = (n + m) * inf.size := by rw [List.length_append, hown.1, hs.len, Nat.add_mul]
  have hzs : zv.cells.size = inf.size := by rw [hc]; simpa using hl
  have grown : ∀ (old : Nat), old < n + m → ∀ (row : Option Nat),
      Own (w.drew.alloc (.cells (xs.toArray ++ news.toArray ++ Builtin.zeroCells zv.cells (grownCap w (n + m) old e - (n + m))) e)) base e inf.size
        (.slice (some ⟨w.heap.size, 0, none⟩) (n + m) (grownCap w (n + m) old e)) (n + m) (xs ++ news) ∧
      w.grownBy (w.drew.alloc (.cells (xs.toArray ++ news.toArray ++ Builtin.zeroCells zv.cells (grownCap w (n + m) old e - (n + m))) e)) row := by
    intro old ho row
    have hge := grownCap_ge w (n + m) old e
    have hcm : grownCap w (n + m) old e ≤ maxLen := grownCap_le_maxLen w (n + m) old e h63
    refine ⟨⟨hlen, ownIn ⟨w.heap.size, _, _, (0, 0), rfl, hbase, heap_alloc_new w.drew _, fun h => by simp at h, hge, hcm, ?_, ?_⟩⟩, ⟨rfl, rfl, rfl, by simp, fun k hk _ => by rw [Below.heap_alloc w.drew _ k (by simpa using hk)]; rfl⟩⟩
    · simp only [Array.size_append, List.size_toArray, size_zeroCells, hzs, hown.1, hs.len, ← Nat.add_mul]
      congr 1
      omega
    · simp only [Array.toList_append, List.append_assoc]
      rw [← List.append_assoc, ← hlen]
      exact List.take_left
  have hinfz : ∀ W : World, (zeroValue e).run P W = .ok zv W := fun W => by simp [zeroValue, typeInfo, hi, hz]
  rcases hown.2 with ⟨rfl, A, rfl⟩ | ⟨g, cap, cur, fz, rfl, hbg, hg, hfz, hnc, hcm, hcs, htake, hcp⟩
  · have hx : xs = [] := List.eq_nil_of_length_eq_zero (by simpa using hown.1)
    subst hx
    by_cases hm : m = 0
    · subst hm
      have hn : news = [] := List.eq_nil_of_length_eq_zero (by simpa using hs.len)
      subst hn
      refine ⟨.slice A 0 0, w, ?_, Own.zero w base e inf.size A, ⟨rfl, rfl, rfl, Nat.le_refl _, fun _ _ _ => rfl⟩, .inl rfl⟩
      have h1 := hs.cells w rfl
      rcases hs.kind with ⟨e', hud⟩ | hud <;> cases A <;> simp [Builtin.append_, run_underlying hu, run_underlying hud, sizeOf, typeInfo, hi, hs.lenOf, h1, storeCells]
    · have hgr := grown 0 (by omega) (Value.rowOf (.slice A 0 0))
      simp only [Nat.zero_add, List.nil_append] at hgr ⊢
      have hge0 := grownCap_ge w m 0 e
      refine ⟨_, _, ?_, hgr.1, hgr.2, .inr (rowOf_slice (by omega))⟩
      have h1 := hs.cells w.drew rfl
      have h63' : ¬ (9223372036854775807 < (m : Int)) := by omega
      have h48' : ¬ (281474976710656 < Builtin.nextslicecap m 0 * inf.bytes) := by
        have := growslice_fits (need := 0 + m) (old := 0) (by omega) hby
        simp only [Nat.zero_add] at this
        omega
      have h0 : (Builtin.firstCells inf.size 0 (.slice A 0 0)).run P w.drew = .ok #[] w.drew := by
        cases A with
        | none => exact run_firstCells_none (P := P) w.drew inf.size 0 0 0
        | some a => simpa using run_firstCells_some (P := P) w.drew inf.size 0 a 0 0 [] (by simp) (fun j y hy => by simp at hy)
      rcases hs.kind with ⟨e', hud⟩ | hud <;> simp [Builtin.append_, run_underlying hu, run_underlying hud, sizeOf, typeInfo, hi, hs.lenOf, hm, h63', h48', hinfz, h0, h1, Question.forced, newRow, grownCap]
  · by_cases hroom : n + m ≤ cap
    · have hfit : n * inf.size + news.length ≤ cur.size := by rw [hs.len, hcs, ← Nat.add_mul]; exact Nat.mul_le_mul_right _ hroom
      refine ⟨_, _, ?_, ⟨hlen, ownIn ⟨g, cap, _, fz, rfl, hbg, setRow_heap w g cur (cur.toList.take (n * inf.size) ++ news ++ cur.toList.drop (n * inf.size + news.length)).toArray e _ hg, ?_, hroom, hcm, ?_, ?_⟩⟩,
        ⟨rfl, rfl, rfl, by simp, fun k _ hk => setRow_other w g k _ (fun e => hk (by rw [rowOf_slice hcp, e]))⟩, .inl (by rw [rowOf_slice hcp, rowOf_slice hcp])⟩
      · have h1 := hs.cells w rfl
        have hst := run_storeCells_fz (P := P) g (n * inf.size) e fz news 0 cur w hg hfz (by simpa using hfit) hs.one
        simp only [Nat.add_zero] at hst
        rcases hs.kind with ⟨e', hud⟩ | hud <;> simp [Builtin.append_, run_underlying hu, run_underlying hud, sizeOf, typeInfo, hi, hs.lenOf, hroom, h1, add_lit, hst]
      · intro h
        have := hfz h
        simp only [List.size_toArray, List.length_append, List.length_take, List.length_drop, Array.length_toList]
        omega
      · simp only [List.size_toArray, List.length_append, List.length_take, List.length_drop, Array.length_toList]
        omega
      · rw [htake, ← hlen]
        exact List.take_left
    · have hgr := grown cap (by omega) (Value.rowOf (.slice (some ⟨g, 0, none⟩) n cap))
      have hge0 := grownCap_ge w (n + m) cap e
      refine ⟨_, _, ?_, hgr.1, hgr.2, .inr (rowOf_slice (by omega))⟩
      have h1 := hs.cells w.drew rfl
      have hfo := run_firstCells_some (P := P) w.drew inf.size n ⟨g, 0, none⟩ n cap xs hown.1 (hown.cells (g := g) (rowOf_slice hcp))
      have h63' : ¬ (9223372036854775807 < (n : Int) + (m : Int)) := by omega
      have h48' : ¬ (281474976710656 < Builtin.nextslicecap (n + m) cap * inf.bytes) := by
        have := growslice_fits (need := n + m) (old := cap) (by omega) hby
        omega
      rcases hs.kind with ⟨e', hud⟩ | hud <;> simp [Builtin.append_, run_underlying hu, run_underlying hud, sizeOf, typeInfo, hi, hs.lenOf, hroom, h63', h48', hinfz, hfo, h1, Question.forced, newRow, grownCap] <;> (rw [← Array.append_assoc]; simp)
end app
end Go.Eng
