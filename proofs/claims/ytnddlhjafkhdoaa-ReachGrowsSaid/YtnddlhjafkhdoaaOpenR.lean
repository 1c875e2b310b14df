/- Arguments opened: things; slices in slices. No condition. -/
import Derived.Test.YtnddlhjafkhdoaaOpenM
import Derived.Test.YtnddlhjafkhdoaaReachPlain
set_option linter.unusedSimpArgs false
set_option linter.unusedVariables false
namespace Go.Eng
open Go Go.RowKit
section
variable {H : Type} {enc : TypeId × Value → H} {P : Program} {W : World} {base : Nat} {sp : Nat → Bool} {held : Bool}
theorem opens_slice {α : Type} {s : Shape α} {ok : α → Prop} {t e : TypeId} (ht : P.underlying t = some (.slice e)) (hc : P.cellsOf e = s.size) (hs0 : 0 < s.size) (hb : 1 ≤ P.bytesOf e) (he : Opens enc P W base sp held s ok e) : Opens enc P W base sp held s.slice (fun _ => True) t := fun n cs y h hw => by
  obtain ⟨v, rfl⟩ := trod_one ht h
  obtain ⟨l, r, _⟩ := open_rd ht hc hs0 hb he h hw
  exact ⟨l, ⟨v, rfl, r⟩, trivial⟩
theorem opens_thg {e : TypeId} {f0 f1 f2 : Field} (he : P.underlying e = some (.struct #[f0, f1, f2])) (o : [f0.offset, f1.offset, f2.offset] = [0, 1, 2])
    (t0 : P.underlying f0.type = some .string) (t1 : P.underlying f1.type = some .string) (t2 : P.underlying f2.type = some .bool)
    (c : [P.cellsOf f0.type, P.cellsOf f1.type, P.cellsOf f2.type] = [1, 1, 1]) (ce : P.cellsOf e = 3) : Opens enc P W base sp held Silo.thgS (fun _ => True) e := fun n cs y h hw => by
  obtain ⟨xs, n', rfl, rfl, hlen, hxs, hf⟩ := DataW.trod_struct he h
  rw [ce] at hlen
  have hx3 : xs.length = 3 := hxs
  simp only [List.cons.injEq, and_true] at o c
  obtain ⟨o0, o1, o2⟩ := o
  obtain ⟨c0, c1, c2⟩ := c
  have h0 := hf 0 f0 rfl
  have h1 := hf 1 f1 rfl
  have h2 := hf 2 f2 rfl
  match cs, hlen, xs, hx3, h0, h1, h2, hw with
  | [a0, a1, a2], _, [x0, x1, x2], _, h0, h1, h2, hw =>
    rw [o0, c0] at h0
    rw [o1, c1] at h1
    rw [o2, c2] at h2
    have hwe : ∀ x ∈ DataW.weightsEach P [f0.type, f1.type, f2.type] [x0.1, x1.1, x2.1], x ≤ reachBytes := fun x hx => hw x (by simp only [DataW.weights, he]; exact hx)
    obtain ⟨l0, e0, w0⟩ := trod_str t0 h0 (fun x hx => hwe x (DataW.weights_mem_each (j := 0) rfl rfl x hx))
    obtain ⟨l1, e1, w1⟩ := trod_str t1 h1 (fun x hx => hwe x (DataW.weights_mem_each (j := 1) rfl rfl x hx))
    obtain ⟨b, e2, _⟩ := DataW.trod_bool t2 h2
    have e0' : a0 = St l0 := by simpa using e0
    have e1' : a1 = St l1 := by simpa using e1
    have e2' : a2 = .bool b := by simpa using e2
    exact ⟨⟨l0, l1, b⟩, ⟨by rw [e0', e1', e2'], by dsimp only; omega, by dsimp only; omega⟩, trivial⟩
end
end Go.Eng
