/- Arguments opened: acts on disks; their script. No condition. -/
import Derived.Test.YtjddnaefmikccaaOpen
import Derived.Test.YtjddnaefmikccaaAl0
set_option linter.unusedSimpArgs false
set_option linter.unusedVariables false
namespace Go.Eng
open Go Go.RowKit
section
variable {H : Type} {enc : TypeId × Value → H} {P : Program} {W : World} {base : Nat} {sp : Nat → Bool} {held : Bool}
theorem opens_act {e eI : TypeId} {f0 f1 f2 f3 f4 f5 : Field} (he : P.underlying e = some (.struct #[f0, f1, f2, f3, f4, f5])) (o : [f0.offset, f1.offset, f2.offset, f3.offset, f4.offset, f5.offset] = [0, 1, 2, 3, 4, 5])
    (t0 : P.underlying f0.type = some (.int .i64)) (t1 : P.underlying f1.type = some (.int .i64)) (t2 : P.underlying f2.type = some (.int .i64)) (t3 : P.underlying f3.type = some (.int .i64)) (t4 : P.underlying f4.type = some .string) (t5 : P.underlying f5.type = some (.slice eI))
    (c : [P.cellsOf f0.type, P.cellsOf f1.type, P.cellsOf f2.type, P.cellsOf f3.type, P.cellsOf f4.type, P.cellsOf f5.type] = [1, 1, 1, 1, 1, 1]) (ce : P.cellsOf e = 6)
    (hI : Opens enc P W base sp held intS (fun _ => True) eI) (cI : P.cellsOf eI = 1) (bI : 1 ≤ P.bytesOf eI) : Opens enc P W base sp held Silo.actS (fun _ => True) e := fun n cs y h hw => by
  obtain ⟨xs, n', rfl, rfl, hlen, hxs, hf⟩ := DataW.trod_struct he h
  rw [ce] at hlen
  have hx6 : xs.length = 6 := hxs
  simp only [List.cons.injEq, and_true] at o c
  obtain ⟨o0, o1, o2, o3, o4, o5⟩ := o
  obtain ⟨c0, c1, c2, c3, c4, c5⟩ := c
  have h0 := hf 0 f0 rfl
  have h1 := hf 1 f1 rfl
  have h2 := hf 2 f2 rfl
  have h3 := hf 3 f3 rfl
  have h4 := hf 4 f4 rfl
  have h5 := hf 5 f5 rfl
  match cs, hlen, xs, hx6, h0, h1, h2, h3, h4, h5, hw with
  | [a0, a1, a2, a3, a4, a5], _, [x0, x1, x2, x3, x4, x5], _, h0, h1, h2, h3, h4, h5, hw =>
    rw [o0, c0] at h0
    rw [o1, c1] at h1
    rw [o2, c2] at h2
    rw [o3, c3] at h3
    rw [o4, c4] at h4
    rw [o5, c5] at h5
    have hwe : ∀ x ∈ DataW.weightsEach P [f0.type, f1.type, f2.type, f3.type, f4.type, f5.type] [x0.1, x1.1, x2.1, x3.1, x4.1, x5.1], x ≤ reachBytes := fun x hx => hw x (by simp only [DataW.weights, he]; exact hx)
    obtain ⟨k0, e0, w0⟩ := trod_i64 t0 h0
    obtain ⟨k1, e1, w1⟩ := trod_i64 t1 h1
    obtain ⟨k2, e2, w2⟩ := trod_i64 t2 h2
    obtain ⟨k3, e3, w3⟩ := trod_i64 t3 h3
    obtain ⟨l4, e4, w4⟩ := trod_str t4 h4 (fun x hx => hwe x (DataW.weights_mem_each (j := 4) rfl rfl x hx))
    have e0' : a0 = I k0 := by simpa using e0
    have e1' : a1 = I k1 := by simpa using e1
    have e2' : a2 = I k2 := by simpa using e2
    have e3' : a3 = I k3 := by simpa using e3
    have e4' : a4 = St l4 := by simpa using e4
    obtain ⟨l5, r5, _⟩ := open_rd (v := a5) t5 (s := intS) (cI.trans rfl) (by decide) bI hI h5 (fun x hx => hwe x (DataW.weights_mem_each (j := 5) rfl rfl x hx))
    exact ⟨⟨k0, k1, k2, k3, l4, l5⟩, ⟨a5, by rw [e0', e1', e2', e3', e4'], r5, ⟨w0, w1, w2, w3⟩, by dsimp only; omega⟩, trivial⟩
theorem open_acts {t eA : TypeId} {f0 f1 f2 : Field} {v : Value} {d : DataW H} {ps : List MemPlace} (ht : P.underlying t = some (.struct #[f0, f1, f2])) (o : [f0.offset, f1.offset, f2.offset] = [0, 1, 2]) (c : [P.cellsOf f0.type, P.cellsOf f1.type, P.cellsOf f2.type] = [1, 1, 1]) (ct : P.cellsOf t = 3)
    (t0 : P.underlying f0.type = some (.int .i64)) (t1 : P.underlying f1.type = some (.int .i64)) (t2 : P.underlying f2.type = some (.slice eA)) (hA : Opens enc P W base sp held Silo.actS (fun _ => True) eA)
    (cA : P.cellsOf eA = 6) (bA : 1 ≤ P.bytesOf eA)
    (hval : Value.okWide P W .any base t v) (h : DataW.Trod enc P W base sp held t v d ps) (hw : ∀ x ∈ DataW.weights P t d, x ≤ reachBytes) :
    ∃ a b vL L, v = .agg #[I a, I b, vL] ∧ Int64 a ∧ Int64 b ∧ Rd Silo.actS W vL L ∧ L.length * P.bytesOf eA ≤ 140737488351232 := by
  unfold Value.okWide at hval
  rw [ht] at hval
  obtain ⟨⟨cs⟩, rfl, hsz, _⟩ := hval
  obtain ⟨fuel, h⟩ := h
  obtain ⟨xs, n', rfl, hd, hlen, hxs, hf⟩ := DataW.trod_struct ht h
  have hd1 : d = .agg (xs.map (·.1)) := (Prod.mk.inj hd).1
  subst hd1
  rw [ct] at hlen
  have hx3 : xs.length = 3 := hxs
  simp only [List.cons.injEq, and_true] at o c
  obtain ⟨o0, o1, o2⟩ := o
  obtain ⟨c0, c1, c2⟩ := c
  have h0 := hf 0 f0 rfl
  have h1 := hf 1 f1 rfl
  have h2 := hf 2 f2 rfl
  have hlen' : cs.length = 3 := hlen
  simp only [Value.cells] at h0 h1 h2
  match cs, hlen', xs, hx3, h0, h1, h2, hw with
  | [a0, a1, a2], _, [x0, x1, x2], _, h0, h1, h2, hw =>
    rw [o0, c0] at h0
    rw [o1, c1] at h1
    rw [o2, c2] at h2
    have hwe : ∀ x ∈ DataW.weightsEach P [f0.type, f1.type, f2.type] [x0.1, x1.1, x2.1], x ≤ reachBytes := fun x hx => hw x (by simp only [DataW.weights, ht]; exact hx)
    obtain ⟨k0, e0, w0⟩ := trod_i64 t0 h0
    obtain ⟨k1, e1, w1⟩ := trod_i64 t1 h1
    have e0' : a0 = I k0 := by simpa using e0
    have e1' : a1 = I k1 := by simpa using e1
    obtain ⟨L, r2, _, z2⟩ := open_rd (v := a2) t2 (s := Silo.actS) (cA.trans rfl) (by decide) bA hA h2 (fun x hx => hwe x (DataW.weights_mem_each (j := 2) rfl rfl x hx))
    exact ⟨k0, k1, a2, L, by rw [e0', e1'], w0, w1, r2, z2⟩
end
end Go.Eng
