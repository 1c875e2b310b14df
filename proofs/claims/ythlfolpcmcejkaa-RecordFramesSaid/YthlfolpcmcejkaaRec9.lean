/- What a record's taking has in memory. No condition. -/
import Derived.Test.YthlfolpcmcejkaaRec8
import Derived.Test.YthlfolpcmcejkaaTakeLoops
set_option linter.unusedSimpArgs false
set_option linter.unusedVariables false
set_option maxRecDepth 100000
namespace Go.Proofs.Ythlfolpcmcejkaa
open Go Go.Eng Go.RowKit Silo TryT

abbrev TX : TypeId := 31
abbrev TI : TypeId := 3
abbrev TSl : TypeId := 66
abbrev cellsX (p : Rec) (vl vs : Value) : List Value := [I p.kind, I p.id, St p.name, St p.digest, vl, vs]
abbrev flatL (l : List Int) : List Value := l.flatMap fun x => [I x]
abbrev flatS (l : List (Int × Int)) : List Value := l.flatMap fun x => [I x.1, I x.2]

/-- A reader and the record that is being taken. -/
structure XS (TR : TypeId) (K : Nat → Prop) (w0 w : World) (base bR bX : Nat) (s : List UInt8) (bad : Bool) (p : Rec) (vl vs : Value) : Prop where
  hK : Below base w0 w
  hBw : base ≤ w.heap.size
  hbR : base ≤ bR
  hbX : base ≤ bX
  ne : bR ≠ bX
  R : Blk w bR [St s, .bool bad] TR
  X : Blk w bX (cellsX p vl vs) TX
  L : Own w base TI 1 vl p.list.length (flatL p.list)
  S : Own w base TSl 2 vs p.slots.length (flatS p.slots)
  neL : ∀ k, vl.rowOf = some k → k ≠ bR ∧ k ≠ bX
  neS : ∀ k, vs.rowOf = some k → k ≠ bR ∧ k ≠ bX
  neLS : ∀ k, vl.rowOf = some k → vs.rowOf ≠ some k
  hF : ∀ k, K k → k < w0.heap.size ∧ w.heap[k]? = w0.heap[k]?
  hKR : ¬ K bR
  hKX : ¬ K bX
  hKL : ∀ k, vl.rowOf = some k → ¬ K k
  hKS : ∀ k, vs.rowOf = some k → ¬ K k
  okK : Go.Eng.Int64 p.kind
  okI : Go.Eng.Int64 p.id
  okN : p.name.length ≤ 1073741824
  okD : p.digest.length ≤ 1073741824
  okL : ∀ x ∈ p.list, Go.Eng.Int64 x
  okS : ∀ x ∈ p.slots, Go.Eng.Int64 x.1 ∧ Go.Eng.Int64 x.2

section
variable {TR : TypeId} {K : Nat → Prop} {w0 w w' w'' : World} {base bR bX : Nat} {s s' : List UInt8} {bad bad' : Bool} {p : Rec} {vl vs v' : Value}
theorem XS.up (h : XS TR K w0 w base bR bX s bad p vl vs) (hk : Below w.heap.size w w') : XS TR K w0 w' base bR bX s bad p vl vs :=
  { h with hK := h.hK.trans (hk.mono h.hBw), hBw := Nat.le_trans h.hBw hk.size, R := h.R.up hk, X := h.X.up hk, L := h.L.up hk, S := h.S.up hk
           hF := fun k hk' => ⟨(h.hF k hk').1, by rw [hk.block k (Nat.lt_of_lt_of_le (h.hF k hk').1 h.hK.size), (h.hF k hk').2]⟩ }
theorem XS.rd (h : XS TR K w0 w base bR bX s bad p vl vs) (hg : w.grownBy w' (some bR)) (hR : Blk w' bR [St s', .bool bad'] TR) : XS TR K w0 w' base bR bX s' bad' p vl vs :=
  have hb : Below base w w' := below_of_grown hg h.hBw (fun k e => by injection e with e; have := h.hbR; omega)
  { h with
    hK := h.hK.trans hb, hBw := Nat.le_trans h.hBw hb.size, R := hR
    X := h.X.grown hg (fun e => h.ne (by injection e))
    L := h.L.grown hg (fun k hk e => (h.neL k hk).1 (by injection e with e; exact e.symm))
    S := h.S.grown hg (fun k hk e => (h.neS k hk).1 (by injection e with e; exact e.symm))
    hF := fun k hk' => ⟨(h.hF k hk').1, by rw [hg.block k (Nat.lt_of_lt_of_le (h.hF k hk').1 h.hK.size) (fun e => by injection e with e; subst e; exact h.hKR hk'), (h.hF k hk').2]⟩ }
theorem XS.other {b : Nat} {cs : List Value} {T : TypeId} (h : XS TR K w0 w base bR bX s bad p vl vs) (hS : Stored w w' b cs T) (h1 : b ≠ bR) (h2 : b ≠ bX) (h3 : ∀ k, vl.rowOf = some k → k ≠ b) (h4 : ∀ k, vs.rowOf = some k → k ≠ b) (h5 : base ≤ b) (h6 : ¬ K b) : XS TR K w0 w' base bR bX s bad p vl vs :=
  have hb : Below base w w' := Blk.store_below hS h5 h.hBw
  { h with
    hK := h.hK.trans hb, hBw := Nat.le_trans h.hBw hb.size
    R := h.R.grown hS.grown (fun e => h1 (by injection e))
    X := h.X.grown hS.grown (fun e => h2 (by injection e))
    L := h.L.grown hS.grown (fun k hk e => h3 k hk (by injection e with e; exact e.symm))
    S := h.S.grown hS.grown (fun k hk e => h4 k hk (by injection e with e; exact e.symm))
    hF := fun k hk' => ⟨(h.hF k hk').1, by rw [hS.grown.block k (Nat.lt_of_lt_of_le (h.hF k hk').1 h.hK.size) (fun e => by injection e with e; subst e; exact h6 hk'), (h.hF k hk').2]⟩ }
theorem XS.upd {p' : Rec} (h : XS TR K w0 w base bR bX s bad p vl vs) (hS : Stored w w' bX (cellsX p' vl vs) TX) (hl : p'.list = p.list) (hs : p'.slots = p.slots) (hi : Go.Eng.Int64 p'.id) (hk : Go.Eng.Int64 p'.kind)
    (hn : p'.name.length ≤ 1073741824) (hd : p'.digest.length ≤ 1073741824) : XS TR K w0 w' base bR bX s bad p' vl vs :=
  have hb : Below base w w' := Blk.store_below hS h.hbX h.hBw
  { hK := h.hK.trans hb, hBw := Nat.le_trans h.hBw hb.size, hbR := h.hbR, hbX := h.hbX, ne := h.ne
    R := h.R.grown hS.grown (fun e => h.ne (by injection e with e; exact e.symm)), X := hS.blk
    L := by rw [hl]; exact h.L.grown hS.grown (fun k hk e => (h.neL k hk).2 (by injection e with e; exact e.symm))
    S := by rw [hs]; exact h.S.grown hS.grown (fun k hk e => (h.neS k hk).2 (by injection e with e; exact e.symm))
    hF := fun k hk' => ⟨(h.hF k hk').1, by rw [hS.grown.block k (Nat.lt_of_lt_of_le (h.hF k hk').1 h.hK.size) (fun e => by injection e with e; subst e; exact h.hKX hk'), (h.hF k hk').2]⟩
    hKR := h.hKR, hKX := h.hKX, hKL := h.hKL, hKS := h.hKS
    neL := h.neL, neS := h.neS, neLS := h.neLS, okK := hk, okI := hi, okN := hn, okD := hd, okL := by rw [hl]; exact h.okL, okS := by rw [hs]; exact h.okS }
theorem XS.appL {x : Int} (h : XS TR K w0 w base bR bX s bad p vl vs) (hA : App w w' base TI 1 vl v' (p.list.length + 1) (flatL p.list ++ [I x])) (hS : Stored w' w'' bX (cellsX p v' vs) TX) (hx : Go.Eng.Int64 x) :
    XS TR K w0 w'' base bR bX s bad { p with list := p.list ++ [x] } v' vs :=
  have hb1 : Below base w w' := below_of_grown hA.grown h.hBw (fun k hk => (h.L.lt k hk).1)
  have hb2 : Below base w' w'' := Blk.store_below hS h.hbX (Nat.le_trans h.hBw hb1.size)
  have hrow : ∀ k, v'.rowOf = some k → vl.rowOf = some k ∨ k = w.heap.size := fun k hk => by
    rcases hA.at_ with e | e
    · exact .inl (e ▸ hk)
    · rw [hk] at e; injection e with e; exact .inr e
  have hR := h.R.lt
  have hX := h.X.lt
  { h with
    hK := (h.hK.trans hb1).trans hb2, hBw := Nat.le_trans h.hBw (Nat.le_trans hb1.size hb2.size)
    R := (h.R.grown hA.grown (fun e => (h.neL bR e).1 rfl)).grown hS.grown (fun e => h.ne (by injection e with e; exact e.symm))
    X := hS.blk
    L := by
      have hL : Own w'' base TI 1 v' (p.list.length + 1) (flatL p.list ++ [I x]) := hA.own.grown hS.grown (fun k hk e => by
        injection e with e
        rcases hrow k hk with h1 | h1
        · exact (h.neL k h1).2 e.symm
        · omega)
      simpa [flatL] using hL
    S := (h.S.grown hA.grown (fun k hk e => h.neLS k e hk)).grown hS.grown (fun k hk e => (h.neS k hk).2 (by injection e with e; exact e.symm))
    neL := fun k hk => by
      rcases hrow k hk with h1 | h1
      · exact h.neL k h1
      · exact ⟨by omega, by omega⟩
    neLS := fun k hk e => by
      rcases hrow k hk with h1 | h1
      · exact h.neLS k h1 e
      · have := (h.S.lt k e).2; omega
    hF := fun k hk' => ⟨(h.hF k hk').1, by
      have hlt := Nat.lt_of_lt_of_le (h.hF k hk').1 h.hK.size
      rw [hS.grown.block k (Nat.lt_of_lt_of_le hlt hb1.size) (fun e => by injection e with e; subst e; exact h.hKX hk'), hA.grown.block k hlt (fun e => h.hKL k e.symm hk'), (h.hF k hk').2]⟩
    hKL := fun k hk => by
      rcases hrow k hk with h1 | h1
      · exact h.hKL k h1
      · intro hk'; have := (h.hF k hk').1; have := h.hK.size; omega
    okL := fun y hy => by
      rcases List.mem_append.1 hy with hy | hy
      · exact h.okL y hy
      · rw [List.mem_singleton.1 hy]; exact hx }
theorem XS.appS {x : Int × Int} (h : XS TR K w0 w base bR bX s bad p vl vs) (hA : App w w' base TSl 2 vs v' (p.slots.length + 1) (flatS p.slots ++ [I x.1, I x.2])) (hS : Stored w' w'' bX (cellsX p vl v') TX) (hx : Go.Eng.Int64 x.1 ∧ Go.Eng.Int64 x.2) :
    XS TR K w0 w'' base bR bX s bad { p with slots := p.slots ++ [x] } vl v' :=
  have hb1 : Below base w w' := below_of_grown hA.grown h.hBw (fun k hk => (h.S.lt k hk).1)
  have hb2 : Below base w' w'' := Blk.store_below hS h.hbX (Nat.le_trans h.hBw hb1.size)
  have hrow : ∀ k, v'.rowOf = some k → vs.rowOf = some k ∨ k = w.heap.size := fun k hk => by
    rcases hA.at_ with e | e
    · exact .inl (e ▸ hk)
    · rw [hk] at e; injection e with e; exact .inr e
  have hR := h.R.lt
  have hX := h.X.lt
  { h with
    hK := (h.hK.trans hb1).trans hb2, hBw := Nat.le_trans h.hBw (Nat.le_trans hb1.size hb2.size)
    R := (h.R.grown hA.grown (fun e => (h.neS bR e).1 rfl)).grown hS.grown (fun e => h.ne (by injection e with e; exact e.symm))
    X := hS.blk
    S := by
      have hL : Own w'' base TSl 2 v' (p.slots.length + 1) (flatS p.slots ++ [I x.1, I x.2]) := hA.own.grown hS.grown (fun k hk e => by
        injection e with e
        rcases hrow k hk with h1 | h1
        · exact (h.neS k h1).2 e.symm
        · omega)
      simpa [flatS] using hL
    L := (h.L.grown hA.grown (fun k hk e => h.neLS k hk e)).grown hS.grown (fun k hk e => (h.neL k hk).2 (by injection e with e; exact e.symm))
    neS := fun k hk => by
      rcases hrow k hk with h1 | h1
      · exact h.neS k h1
      · exact ⟨by omega, by omega⟩
    neLS := fun k hk e => by
      rcases hrow k e with h1 | h1
      · exact h.neLS k hk h1
      · have := (h.L.lt k hk).2; omega
    hF := fun k hk' => ⟨(h.hF k hk').1, by
      have hlt := Nat.lt_of_lt_of_le (h.hF k hk').1 h.hK.size
      rw [hS.grown.block k (Nat.lt_of_lt_of_le hlt hb1.size) (fun e => by injection e with e; subst e; exact h.hKX hk'), hA.grown.block k hlt (fun e => h.hKS k e.symm hk'), (h.hF k hk').2]⟩
    hKS := fun k hk => by
      rcases hrow k hk with h1 | h1
      · exact h.hKS k h1
      · intro hk'; have := (h.hF k hk').1; have := h.hK.size; omega
    okS := fun y hy => by
      rcases List.mem_append.1 hy with hy | hy
      · exact h.okS y hy
      · rw [List.mem_singleton.1 hy]; exact hx }
/-- After a change at one other block: the same, from the new world on, that block to be kept. -/
theorem XS.step {b : Nat} (h : XS TR K w0 w base bR bX s bad p vl vs) (hg : w.grownBy w' (some b)) (hb : b < w.heap.size) (h1 : b ≠ bR) (h2 : b ≠ bX) (h3 : ∀ k, vl.rowOf = some k → k ≠ b) (h4 : ∀ k, vs.rowOf = some k → k ≠ b) (h5 : base ≤ b) : XS TR (fun k => k = b) w' w' base bR bX s bad p vl vs :=
  have hbl : Below base w w' := below_of_grown hg h.hBw (fun k e => by injection e with e; omega)
  { h with
    hK := Below.refl _ _, hBw := Nat.le_trans h.hBw hbl.size
    R := h.R.grown hg (fun e => h1 (by injection e))
    X := h.X.grown hg (fun e => h2 (by injection e))
    L := h.L.grown hg (fun k hk e => h3 k hk (by injection e with e; exact e.symm))
    S := h.S.grown hg (fun k hk e => h4 k hk (by injection e with e; exact e.symm))
    hF := fun k hk => ⟨by rw [hk]; exact Nat.lt_of_lt_of_le hb hbl.size, rfl⟩
    hKR := fun e => h1 e.symm, hKX := fun e => h2 e.symm, hKL := h3, hKS := h4 }
theorem XS.rdRec (h : XS TR K w0 w base bR bX s bad p vl vs) (h1 : p.list.length ≤ 140737488355328) (h2 : p.slots.length ≤ 140737488355328) : RdRec w (cellsX p vl vs) p :=
  ⟨vl, vs, rfl, h.L.rdInts h.okL h1, rdSlots h.S h.okS h2, h.okK, h.okI, by have := h.okN; omega, by have := h.okD; omega⟩
theorem XS.mk0 {k : Int} (hBw : base ≤ w.heap.size) (hbR : base ≤ bR) (hbX : base ≤ bX) (ne : bR ≠ bX) (R : Blk w bR [St s, .bool bad] TR) (X : Blk w bX [I k, I 0, St [], St [], .slice none 0 0, .slice none 0 0] TX) (hk : Go.Eng.Int64 k) :
    XS TR (fun _ => False) w w base bR bX s bad (rec0 k) (.slice none 0 0) (.slice none 0 0) :=
  { hK := Below.refl _ _, hBw := hBw, hbR := hbR, hbX := hbX, ne := ne, R := R, X := X, L := Own.nil _ _ _ _, S := Own.nil _ _ _ _
    neL := fun k hk => by simp [Value.rowOf] at hk
    neS := fun k hk => by simp [Value.rowOf] at hk
    neLS := fun k hk => by simp [Value.rowOf] at hk
    hF := fun k hk => hk.elim, hKR := id, hKX := id
    hKL := fun k hk => by simp [Value.rowOf] at hk
    hKS := fun k hk => by simp [Value.rowOf] at hk
    okK := hk, okI := ⟨by simp [rec0], by simp [rec0]⟩, okN := by simp [rec0], okD := by simp [rec0], okL := by simp [rec0], okS := by simp [rec0] }
end
end Go.Proofs.Ythlfolpcmcejkaa
