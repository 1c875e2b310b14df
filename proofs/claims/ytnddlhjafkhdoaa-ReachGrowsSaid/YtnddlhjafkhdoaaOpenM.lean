/- Arguments opened: manifests; two slices in a struct. No condition. -/
import Derived.Test.YtnddlhjafkhdoaaOpen
import Derived.Test.YtnddlhjafkhdoaaManPlain
set_option linter.unusedSimpArgs false
set_option linter.unusedVariables false
namespace Go.Eng
open Go Go.RowKit
section
variable {H : Type} {enc : TypeId × Value → H} {P : Program} {W : World} {base : Nat} {sp : Nat → Bool} {held : Bool}
theorem opens_man {e eS : TypeId} {f0 f1 f2 : Field} (he : P.underlying e = some (.struct #[f0, f1, f2])) (o : [f0.offset, f1.offset, f2.offset] = [0, 1, 2])
    (t0 : P.underlying f0.type = some (.int .i64)) (t1 : P.underlying f1.type = some (.slice eS)) (t2 : P.underlying f2.type = some (.slice eS))
    (c : [P.cellsOf f0.type, P.cellsOf f1.type, P.cellsOf f2.type] = [1, 1, 1]) (ce : P.cellsOf e = 3)
    (hS : Opens enc P W base sp held strS (fun l => l.length ≤ 140737488351232) eS) (cS : P.cellsOf eS = 1) (bS : 1 ≤ P.bytesOf eS) : Opens enc P W base sp held Silo.manS (fun _ => True) e := fun n cs y h hw => by
  obtain ⟨xs, n', rfl, rfl, hlen, hxs, hf⟩ := DataW.trod_struct he h
  rw [ce] at hlen
  have hx3 : xs.length = 3 := hxs
  simp only [List.cons.injEq, and_true] at o c
  obtain ⟨o0, o1, o2⟩ := o
  obtain ⟨c0, c1, c2⟩ := c
  have h0 := hf 0 f0 rfl
  have h1 := hf 1 f1 rfl
  have h2 := hf 2 f2 rfl
  match cs, hlen, xs, hx3, h0, h1, h2, hw with
  | [a0, a1, a2], _, [x0, x1, x2], _, h0, h1, h2, hw =>
    rw [o0, c0] at h0
    rw [o1, c1] at h1
    rw [o2, c2] at h2
    have hwe : ∀ x ∈ DataW.weightsEach P [f0.type, f1.type, f2.type] [x0.1, x1.1, x2.1], x ≤ reachBytes := fun x hx => hw x (by simp only [DataW.weights, he]; exact hx)
    obtain ⟨k0, e0, w0⟩ := trod_i64 t0 h0
    have e0' : a0 = I k0 := by simpa using e0
    obtain ⟨l4, r4, _⟩ := open_rd (v := a1) t1 (s := strS) (cS.trans rfl) (by decide) bS hS h1 (fun x hx => hwe x (DataW.weights_mem_each (j := 1) rfl rfl x hx))
    obtain ⟨l5, r5, _⟩ := open_rd (v := a2) t2 (s := strS) (cS.trans rfl) (by decide) bS hS h2 (fun x hx => hwe x (DataW.weights_mem_each (j := 2) rfl rfl x hx))
    exact ⟨⟨k0, l4, l5⟩, ⟨a1, a2, by rw [e0'], r4, r5, w0⟩, trivial⟩
/-- A struct of two slices. -/
theorem open_two {α β : Type} {sA : Shape α} {sB : Shape β} {okA : α → Prop} {okB : β → Prop} {t eA eB : TypeId} {f0 f1 : Field} {v : Value} {d : DataW H} {ps : List MemPlace} (ht : P.underlying t = some (.struct #[f0, f1])) (o : [f0.offset, f1.offset] = [0, 1]) (c : [P.cellsOf f0.type, P.cellsOf f1.type] = [1, 1]) (ct : P.cellsOf t = 2)
    (t0 : P.underlying f0.type = some (.slice eA)) (t1 : P.underlying f1.type = some (.slice eB)) (hA : Opens enc P W base sp held sA okA eA) (hB : Opens enc P W base sp held sB okB eB)
    (cA : P.cellsOf eA = sA.size) (cB : P.cellsOf eB = sB.size) (zA : 0 < sA.size) (zB : 0 < sB.size) (bA : 1 ≤ P.bytesOf eA) (bB : 1 ≤ P.bytesOf eB)
    (hval : Value.okWide P W .any base t v) (h : DataW.Trod enc P W base sp held t v d ps) (hw : ∀ x ∈ DataW.weights P t d, x ≤ reachBytes) :
    ∃ vA vB A B, v = .agg #[vA, vB] ∧ Rd sA W vA A ∧ Rd sB W vB B ∧ (∀ x ∈ A, okA x) ∧ (∀ x ∈ B, okB x) ∧ A.length * P.bytesOf eA ≤ 140737488351232 ∧ B.length * P.bytesOf eB ≤ 140737488351232 := by
  unfold Value.okWide at hval
  rw [ht] at hval
  obtain ⟨⟨cs⟩, rfl, hsz, _⟩ := hval
  obtain ⟨fuel, h⟩ := h
  obtain ⟨xs, n', rfl, hd, hlen, hxs, hf⟩ := DataW.trod_struct ht h
  have hd1 : d = .agg (xs.map (·.1)) := (Prod.mk.inj hd).1
  subst hd1
  rw [ct] at hlen
  have hx2 : xs.length = 2 := hxs
  simp only [List.cons.injEq, and_true] at o c
  obtain ⟨o0, o1⟩ := o
  obtain ⟨c0, c1⟩ := c
  have h0 := hf 0 f0 rfl
  have h1 := hf 1 f1 rfl
  have hlen' : cs.length = 2 := hlen
  simp only [Value.cells] at h0 h1
  match cs, hlen', xs, hx2, h0, h1, hw with
  | [a0, a1], _, [x0, x1], _, h0, h1, hw =>
    rw [o0, c0] at h0
    rw [o1, c1] at h1
    have hwe : ∀ x ∈ DataW.weightsEach P [f0.type, f1.type] [x0.1, x1.1], x ≤ reachBytes := fun x hx => hw x (by simp only [DataW.weights, ht]; exact hx)
    obtain ⟨A, r0, ok0, z0⟩ := open_rd (v := a0) t0 (s := sA) cA zA bA hA h0 (fun x hx => hwe x (DataW.weights_mem_each (j := 0) rfl rfl x hx))
    obtain ⟨B, r1, ok1, z1⟩ := open_rd (v := a1) t1 (s := sB) cB zB bB hB h1 (fun x hx => hwe x (DataW.weights_mem_each (j := 1) rfl rfl x hx))
    exact ⟨a0, a1, A, B, rfl, r0, r1, ok0, ok1, z0, z1⟩
end
end Go.Eng
