/- Arguments opened: slices of whatever shape, out of the form's reading. No condition. -/
import Derived.Test.YtjddnaefmikccaaRecSh
import Derived.ProofKit
import Derived.SizedLaws
set_option linter.unusedSimpArgs false
set_option linter.unusedVariables false
namespace Go.Eng
open Go Go.RowKit

section
variable {H : Type} {enc : TypeId × Value → H} {P : Program} {W : World} {base : Nat} {sp : Nat → Bool} {held : Bool}

/-- What an element's reading gives. -/
def Opens (enc : TypeId × Value → H) (P : Program) (W : World) (base : Nat) (sp : Nat → Bool) (held : Bool) {α : Type} (s : Shape α) (ok : α → Prop) (e : TypeId) : Prop :=
  ∀ n cs y, DataW.trod enc P W base sp held n e cs = some y → (∀ x ∈ DataW.weights P e y.1, x ≤ reachBytes) → ∃ x, s.rd W.heap.size W cs x ∧ ok x

theorem weightsAll_mem {P : Program} {e : TypeId} : ∀ {l : List (DataW H)} {d : DataW H}, d ∈ l → ∀ n ∈ d.weights P e, n ∈ DataW.weightsAll P e l
  | x :: r, d, hd, n, hn => by
    simp only [DataW.weightsAll, List.mem_append]
    rcases List.mem_cons.1 hd with rfl | hd
    · exact .inl hn
    · exact .inr (weightsAll_mem hd n hn)

theorem open_rd {α : Type} {s : Shape α} {ok : α → Prop} {t e : TypeId} {n : Nat} {v : Value} {y : DataW H × List MemPlace} (ht : P.underlying t = some (.slice e)) (hc : P.cellsOf e = s.size) (hs0 : 0 < s.size) (hb : 1 ≤ P.bytesOf e) (he : Opens enc P W base sp held s ok e)
    (h : DataW.trod enc P W base sp held n t [v] = some y) (hw : ∀ x ∈ DataW.weights P t y.1, x ≤ reachBytes) : ∃ l, RdS s W.heap.size W v l ∧ (∀ x ∈ l, ok x) ∧ l.length * P.bytesOf e ≤ 140737488351232 := by
  rcases DataW.trod_slice ht h with ⟨h0, _⟩ | ⟨a, len, cap, elems, rest, n', _, h0, rfl, _, hl, hm, hlen, hel, _, _⟩
  · have : v = .slice none 0 0 := by simpa using h0
    subst this
    exact ⟨[], RdS.nil _ _ _, by simp, by simp⟩
  · have : v = .slice (some a) len cap := by simpa using h0
    subst this
    have hwt : (elems.length + rest.length) * P.bytesOf e ≤ reachBytes ∧ ∀ d ∈ elems, ∀ x ∈ DataW.weights P e d.1, x ≤ reachBytes := by
      constructor
      · have := hw (((elems.map (·.1)).length + (rest.map (·.1)).length) * P.bytesOf e) (by simp only [DataW.weights, ht, List.mem_cons]; exact Or.inl trivial)
        simpa using this
      · intro d hd x hx
        refine hw x ?_
        simp only [DataW.weights, ht, List.mem_cons, List.mem_append]
        exact .inr (.inl (weightsAll_mem (List.mem_map.2 ⟨d, hd, rfl⟩) x hx))
    have hcap : len ≤ 140737488351232 := by
      have h1 := hwt.1
      have h2 : (elems.length + rest.length) * 1 ≤ (elems.length + rest.length) * P.bytesOf e := Nat.mul_le_mul_left _ hb
      simp only [reachBytes] at h1
      omega
    have key : ∀ i, i < len → ∃ (x : α), (∃ (cs : List Value), cellsAt W (a.add (i * s.size)) cs ∧ s.rd W.heap.size W cs x) ∧ ok x := by
      intro i hi
      have h1 := hel i hi
      rw [List.getElem?_eq_getElem (by omega)] at h1
      obtain ⟨cs, hcs, htr⟩ := Option.bind_eq_some_iff.1 h1
      obtain ⟨_, hlc, hcell⟩ := World.cells?_some hcs
      obtain ⟨x, hx, hok⟩ := he _ cs _ htr (hwt.2 _ (List.getElem_mem _))
      refine ⟨x, ⟨cs, fun j u hj => ?_, hx⟩, hok⟩
      have hjl : j < cs.length := by
        rcases Nat.lt_or_ge j cs.length with h' | h'
        · exact h'
        · rw [List.getElem?_eq_none h'] at hj; cases hj
      rw [← hc, hcell j (by omega)]
      exact hj
    refine ⟨List.ofFn fun i : Fin len => (key i i.2).choose, ⟨?_, ?_, ?_, ?_⟩, ?_, ?_⟩
    · refine ⟨some a, cap, by rw [List.length_ofFn], by rw [List.length_ofFn]; exact hl, hm, fun b hb' h0 => ?_⟩
      injection hb' with hb'
      subst hb'
      rw [List.length_ofFn] at h0
      obtain ⟨x, ⟨cs, hca, hx⟩, _⟩ := key 0 h0
      have hl2 := s.len hx
      have := hca.block (by omega)
      rwa [add_block] at this
    · intro i x hi
      have hil : i < len := by
        rcases Nat.lt_or_ge i len with h' | h'
        · exact h'
        · rw [List.getElem?_eq_none (by rw [List.length_ofFn]; exact h')] at hi; cases hi
      rw [List.getElem?_eq_getElem (by rw [List.length_ofFn]; exact hil)] at hi
      simp only [List.getElem_ofFn, Option.some.injEq] at hi
      subst hi
      exact (key i hil).choose_spec.1
    · intro _; exact ⟨a, cap, by rw [List.length_ofFn]⟩
    · rw [List.length_ofFn]; omega
    · intro x hx
      rw [List.mem_ofFn] at hx
      obtain ⟨i, rfl⟩ := hx
      exact (key i i.2).choose_spec.2
    · rw [List.length_ofFn]
      have h1 := hwt.1
      have h2 : len * P.bytesOf e ≤ (elems.length + rest.length) * P.bytesOf e := Nat.mul_le_mul_right _ (by omega)
      simp only [reachBytes] at h1
      omega

theorem opens_int {e : TypeId} (he : P.underlying e = some (.int .i64)) : Opens enc P W base sp held intS (fun _ => True) e := fun n cs y h _ => by
  obtain ⟨k, rfl, _, hw⟩ := DataW.trod_int he h
  have h2 : -9223372036854775808 ≤ k ∧ k ≤ 9223372036854775807 := by simpa [Lit.wf, IntKind.min, IntKind.max, IntKind.signed, IntKind.bits] using hw
  exact ⟨k, ⟨rfl, h2⟩, trivial⟩
theorem opens_str {e : TypeId} (he : P.underlying e = some .string) : Opens enc P W base sp held strS (fun l => l.length ≤ 140737488351232) e := fun n cs y h hw => by
  obtain ⟨s, rfl, rfl, _⟩ := DataW.trod_string he h
  have := hw s.data.toList.length (by simp [DataW.weights])
  simp only [reachBytes] at this
  exact ⟨s.data.toList, ⟨rfl, by omega⟩, by omega⟩

theorem trod_i64 {e : TypeId} {n : Nat} {cs : List Value} {y : DataW H × List MemPlace} (he : P.underlying e = some (.int .i64)) (h : DataW.trod enc P W base sp held n e cs = some y) : ∃ k, cs = [I k] ∧ Int64 k := by
  obtain ⟨k, rfl, _, hw⟩ := DataW.trod_int he h
  have h2 : -9223372036854775808 ≤ k ∧ k ≤ 9223372036854775807 := by simpa [Lit.wf, IntKind.min, IntKind.max, IntKind.signed, IntKind.bits] using hw
  exact ⟨k, rfl, h2⟩

theorem opens_slot {e : TypeId} {f0 f1 : Field} (he : P.underlying e = some (.struct #[f0, f1])) (o0 : f0.offset = 0) (o1 : f1.offset = 1) (t0 : P.underlying f0.type = some (.int .i64)) (t1 : P.underlying f1.type = some (.int .i64))
    (c0 : P.cellsOf f0.type = 1) (c1 : P.cellsOf f1.type = 1) (ce : P.cellsOf e = 2) : Opens enc P W base sp held Silo.slotS (fun _ => True) e := fun n cs y h _ => by
  obtain ⟨xs, n', rfl, rfl, hlen, hxs, hf⟩ := DataW.trod_struct he h
  rw [ce] at hlen
  have h0 := hf 0 f0 rfl
  have h1 := hf 1 f1 rfl
  have hx2 : xs.length = 2 := hxs
  match cs, hlen, xs, hx2, h0, h1 with
  | [a, b], _, [x0, x1], _, h0, h1 =>
    rw [o0, c0] at h0
    rw [o1, c1] at h1
    obtain ⟨k0, e0, w0⟩ := trod_i64 t0 h0
    obtain ⟨k1, e1, w1⟩ := trod_i64 t1 h1
    have e0' : a = I k0 := by simpa using e0
    have e1' : b = I k1 := by simpa using e1
    exact ⟨(k0, k1), ⟨by rw [e0', e1'], w0, w1⟩, trivial⟩

theorem trod_str {e : TypeId} {n : Nat} {cs : List Value} {y : DataW H × List MemPlace} (he : P.underlying e = some .string) (h : DataW.trod enc P W base sp held n e cs = some y) (hw : ∀ x ∈ DataW.weights P e y.1, x ≤ reachBytes) : ∃ l, cs = [St l] ∧ l.length ≤ 140737488351232 := by
  obtain ⟨s, rfl, rfl, _⟩ := DataW.trod_string he h
  have := hw s.data.toList.length (by simp [DataW.weights])
  exact ⟨s.data.toList, rfl, by simp only [reachBytes] at this; omega⟩

theorem trod_one {t e : TypeId} {n : Nat} {cs : List Value} {y : DataW H × List MemPlace} (ht : P.underlying t = some (.slice e)) (h : DataW.trod enc P W base sp held n t cs = some y) : ∃ v, cs = [v] := by
  rcases DataW.trod_slice ht h with ⟨h0, _⟩ | ⟨a, len, cap, _, _, _, _, h0, _⟩
  · exact ⟨_, h0⟩
  · exact ⟨_, h0⟩

theorem opens_rec {e eI eS : TypeId} {f0 f1 f2 f3 f4 f5 : Field} (he : P.underlying e = some (.struct #[f0, f1, f2, f3, f4, f5])) (o : [f0.offset, f1.offset, f2.offset, f3.offset, f4.offset, f5.offset] = [0, 1, 2, 3, 4, 5])
    (t0 : P.underlying f0.type = some (.int .i64)) (t1 : P.underlying f1.type = some (.int .i64)) (t2 : P.underlying f2.type = some .string) (t3 : P.underlying f3.type = some .string) (t4 : P.underlying f4.type = some (.slice eI)) (t5 : P.underlying f5.type = some (.slice eS))
    (c : [P.cellsOf f0.type, P.cellsOf f1.type, P.cellsOf f2.type, P.cellsOf f3.type, P.cellsOf f4.type, P.cellsOf f5.type] = [1, 1, 1, 1, 1, 1]) (ce : P.cellsOf e = 6)
    (hI : Opens enc P W base sp held intS (fun _ => True) eI) (hS : Opens enc P W base sp held Silo.slotS (fun _ => True) eS) (cI : P.cellsOf eI = 1) (cS : P.cellsOf eS = 2) (bI : 1 ≤ P.bytesOf eI) (bS : 1 ≤ P.bytesOf eS) : Opens enc P W base sp held Silo.recS (fun r => r.name.length ≤ 140737488351232) e := fun n cs y h hw => by
  obtain ⟨xs, n', rfl, rfl, hlen, hxs, hf⟩ := DataW.trod_struct he h
  rw [ce] at hlen
  have hx6 : xs.length = 6 := hxs
  simp only [List.cons.injEq, and_true] at o c
  obtain ⟨o0, o1, o2, o3, o4, o5⟩ := o
  obtain ⟨c0, c1, c2, c3, c4, c5⟩ := c
  have h0 := hf 0 f0 rfl
  have h1 := hf 1 f1 rfl
  have h2 := hf 2 f2 rfl
  have h3 := hf 3 f3 rfl
  have h4 := hf 4 f4 rfl
  have h5 := hf 5 f5 rfl
  match cs, hlen, xs, hx6, h0, h1, h2, h3, h4, h5, hw with
  | [a0, a1, a2, a3, a4, a5], _, [x0, x1, x2, x3, x4, x5], _, h0, h1, h2, h3, h4, h5, hw =>
    rw [o0, c0] at h0
    rw [o1, c1] at h1
    rw [o2, c2] at h2
    rw [o3, c3] at h3
    rw [o4, c4] at h4
    rw [o5, c5] at h5
    have hwe : ∀ x ∈ DataW.weightsEach P [f0.type, f1.type, f2.type, f3.type, f4.type, f5.type] [x0.1, x1.1, x2.1, x3.1, x4.1, x5.1], x ≤ reachBytes := fun x hx => hw x (by simp only [DataW.weights, he]; exact hx)
    obtain ⟨k0, e0, w0⟩ := trod_i64 t0 h0
    obtain ⟨k1, e1, w1⟩ := trod_i64 t1 h1
    obtain ⟨l2, e2, w2⟩ := trod_str t2 h2 (fun x hx => hwe x (DataW.weights_mem_each (j := 2) rfl rfl x hx))
    obtain ⟨l3, e3, w3⟩ := trod_str t3 h3 (fun x hx => hwe x (DataW.weights_mem_each (j := 3) rfl rfl x hx))
    have e0' : a0 = I k0 := by simpa using e0
    have e1' : a1 = I k1 := by simpa using e1
    have e2' : a2 = St l2 := by simpa using e2
    have e3' : a3 = St l3 := by simpa using e3
    obtain ⟨l4, r4, _⟩ := open_rd (v := a4) t4 (s := intS) (cI.trans rfl) (by decide) bI hI h4 (fun x hx => hwe x (DataW.weights_mem_each (j := 4) rfl rfl x hx))
    obtain ⟨l5, r5, _⟩ := open_rd (v := a5) t5 (s := Silo.slotS) (cS.trans rfl) (by decide) bS hS h5 (fun x hx => hwe x (DataW.weights_mem_each (j := 5) rfl rfl x hx))
    exact ⟨⟨k0, k1, l2, l3, l4, l5⟩, ⟨a4, a5, by rw [e0', e1', e2', e3'], r4, r5, w0, w1, by dsimp only; omega, by dsimp only; omega⟩, w2⟩

theorem open_ask {t eR eS eN : TypeId} {f0 f1 f2 : Field} {v : Value} {d : DataW H} {ps : List MemPlace} (ht : P.underlying t = some (.struct #[f0, f1, f2])) (o : [f0.offset, f1.offset, f2.offset] = [0, 1, 2]) (c : [P.cellsOf f0.type, P.cellsOf f1.type, P.cellsOf f2.type] = [1, 1, 1]) (ct : P.cellsOf t = 3)
    (t0 : P.underlying f0.type = some (.slice eR)) (t1 : P.underlying f1.type = some (.slice eS)) (t2 : P.underlying f2.type = some (.slice eN)) (hR : Opens enc P W base sp held Silo.recS (fun r => r.name.length ≤ 140737488351232) eR) (hS : Opens enc P W base sp held strS (fun l => l.length ≤ 140737488351232) eS) (hN : Opens enc P W base sp held intS (fun _ => True) eN)
    (cR : P.cellsOf eR = 6) (cS : P.cellsOf eS = 1) (cN : P.cellsOf eN = 1) (bR : 1 ≤ P.bytesOf eR) (bS : 1 ≤ P.bytesOf eS) (bN : 1 ≤ P.bytesOf eN)
    (hval : Value.okWide P W .any base t v) (h : DataW.Trod enc P W base sp held t v d ps) (hw : ∀ x ∈ DataW.weights P t d, x ≤ reachBytes) :
    ∃ vR vS vN R S N, v = .agg #[vR, vS, vN] ∧ Rd Silo.recS W vR R ∧ Rd strS W vS S ∧ Rd intS W vN N ∧ (∀ r ∈ R, r.name.length ≤ 140737488351232) ∧ R.length * P.bytesOf eR ≤ 140737488351232 := by
  unfold Value.okWide at hval
  rw [ht] at hval
  obtain ⟨⟨cs⟩, rfl, hsz, _⟩ := hval
  obtain ⟨fuel, h⟩ := h
  obtain ⟨xs, n', rfl, hd, hlen, hxs, hf⟩ := DataW.trod_struct ht h
  have hd1 : d = .agg (xs.map (·.1)) := (Prod.mk.inj hd).1
  subst hd1
  rw [ct] at hlen
  have hx3 : xs.length = 3 := hxs
  simp only [List.cons.injEq, and_true] at o c
  obtain ⟨o0, o1, o2⟩ := o
  obtain ⟨c0, c1, c2⟩ := c
  have h0 := hf 0 f0 rfl
  have h1 := hf 1 f1 rfl
  have h2 := hf 2 f2 rfl
  have hlen' : cs.length = 3 := hlen
  simp only [Value.cells] at h0 h1 h2
  match cs, hlen', xs, hx3, h0, h1, h2, hw with
  | [a0, a1, a2], _, [x0, x1, x2], _, h0, h1, h2, hw =>
    rw [o0, c0] at h0
    rw [o1, c1] at h1
    rw [o2, c2] at h2
    have hwe : ∀ x ∈ DataW.weightsEach P [f0.type, f1.type, f2.type] [x0.1, x1.1, x2.1], x ≤ reachBytes := fun x hx => hw x (by simp only [DataW.weights, ht]; exact hx)
    obtain ⟨R, r0, ok0, z0⟩ := open_rd (v := a0) t0 (s := Silo.recS) (cR.trans rfl) (by decide) bR hR h0 (fun x hx => hwe x (DataW.weights_mem_each (j := 0) rfl rfl x hx))
    obtain ⟨S, r1, _⟩ := open_rd (v := a1) t1 (s := strS) (cS.trans rfl) (by decide) bS hS h1 (fun x hx => hwe x (DataW.weights_mem_each (j := 1) rfl rfl x hx))
    obtain ⟨N, r2, _⟩ := open_rd (v := a2) t2 (s := intS) (cN.trans rfl) (by decide) bN hN h2 (fun x hx => hwe x (DataW.weights_mem_each (j := 2) rfl rfl x hx))
    exact ⟨a0, a1, a2, R, S, N, rfl, r0, r1, r2, ok0, z0⟩
end
end Go.Eng
