/- Records as they lie in memory. | Arguments opened: slices of whatever shape, out of the form's reading. | Arguments of the laws on records, opened. | Which records may be: the page's and the program's forms are one. | Which record bytes are, in plain Lean. | Walks of the small functions of the records' layer. | Copies, comparisons, weights of records. | Fields, closures, weights. | Whether a record may be: both sides. | The bytes of records: both sides. | Frames, in plain Lean: a record's bytes tell it alone. | More operations: appending zero values, cap, slices as slices. | Drawn regions: short circuits. | Lists of texts: copies, comparisons, weights; numbers. | Sums: in plain Lean, and as the program and the page reckon them. | The bytes of records: the program's. | Bytes and Check of a record. No condition. -/
import Derived.ProofKit
import Derived.SizedLaws
import Derived.Test.YthlfolpcmcejkaaRows
import Derived.Below
import Derived.Lib.AppendZerosOnto
import Derived.Test.YthlfolpcmcejkaaRC1
set_option linter.unusedSimpArgs false
set_option linter.unusedVariables false
set_option maxRecDepth 100000
namespace Silo
open Go Go.Eng Go.RowKit

structure Rec where
  kind : Int
  id : Int
  name : List UInt8
  digest : List UInt8
  list : List Int
  slots : List (Int × Int)
  deriving DecidableEq

def slotS : Shape (Int × Int) := Shape.flat 2 (fun p => [I p.1, I p.2]) (fun p => Go.Eng.Int64 p.1 ∧ Go.Eng.Int64 p.2) (fun _ => rfl) (fun _ u hu => by simp at hu; rcases hu with rfl | rfl <;> rfl)

def recS : Shape Rec where
  size := 6
  rd := fun B w cs r => ∃ vl vs, cs = [I r.kind, I r.id, St r.name, St r.digest, vl, vs] ∧ RdS intS B w vl r.list ∧ RdS slotS B w vs r.slots ∧ Go.Eng.Int64 r.kind ∧ Go.Eng.Int64 r.id ∧ r.name.length ≤ 140737488355328 ∧ r.digest.length ≤ 140737488355328
  len := fun ⟨_, _, h, _⟩ => by rw [h]; rfl
  keep := fun hk ⟨vl, vs, h, h1, h2, h3⟩ => ⟨vl, vs, h, h1.keep hk, h2.keep hk, h3⟩
  mono := fun hB ⟨vl, vs, h, h1, h2, h3⟩ => ⟨vl, vs, h, h1.mono hB, h2.mono hB, h3⟩
  one := fun ⟨vl, vs, h, h1, h2, _⟩ u hu => by
    obtain ⟨A, c, rfl, _⟩ := h1.form
    obtain ⟨A', c', rfl, _⟩ := h2.form
    subst h
    simp at hu
    rcases hu with rfl | rfl | rfl | rfl | rfl | rfl <;> rfl

/-- A record as a struct's cells, in the present world. -/
def RdRec (w : World) (cs : List Value) (r : Rec) : Prop := recS.rd w.heap.size w cs r
theorem RdRec.up {w w' : World} {cs : List Value} {r : Rec} (h : RdRec w cs r) (hk : Below w.heap.size w w') : RdRec w' cs r := recS.mono hk.size (recS.keep hk.block h)

/-- How much records are. -/
def recW (r : Rec) : Nat := r.name.length + r.digest.length + r.list.length + r.slots.length
def recsW (l : List Rec) : Nat := l.length + (l.map recW).sum
def textsW (l : List (List UInt8)) : Nat := l.length + (l.map List.length).sum
theorem sum_take_succ {α : Type} (f : α → Nat) {l : List α} {k : Nat} (h : k < l.length) : ((l.take (k + 1)).map f).sum = ((l.take k).map f).sum + f l[k] := by
  rw [List.take_succ_eq_append_getElem h, List.map_append]; simp
theorem sum_mem_le {α : Type} (f : α → Nat) {l : List α} {x : α} (h : x ∈ l) : f x ≤ (l.map f).sum := by
  induction l with
  | nil => simp at h
  | cons y r ih =>
    simp only [List.map_cons, List.sum_cons]
    rcases List.mem_cons.1 h with rfl | h
    · omega
    · have := ih h; omega

/-- A sum that stops where it is great. -/
def stopSum (n : Nat) : List Nat → Nat
  | [] => n
  | x :: r => if n < 1048576 then stopSum (n + x) r else n
theorem stopSum_ge {n : Nat} (h : ¬ n < 1048576) : ∀ l : List Nat, stopSum n l = n
  | [] => rfl
  | x :: r => by simp [stopSum, h]
theorem stopSum_small : ∀ (l : List Nat) (n : Nat), stopSum n l < 1048576 → stopSum n l = n + l.sum
  | [], n, _ => by simp [stopSum]
  | x :: r, n, h => by
    unfold stopSum at h ⊢
    split
    · rename_i hn; rw [if_pos hn] at h; rw [stopSum_small r _ h]; simp; omega
    · rename_i hn; rw [if_neg hn] at h; omega
theorem stopSum_step {α : Type} (f : α → Nat) {l : List α} {k n : Nat} (hk : k < l.length) (hn : n < 1048576) : stopSum n ((l.drop k).map f) = stopSum (n + f l[k]) ((l.drop (k + 1)).map f) := by
  rw [List.drop_eq_getElem_cons hk]
  simp only [List.map_cons, stopSum, if_pos hn]

/-- A number brought within bounds. -/
def within (i n : Int) : Int := (i % 18446744073709551616) % n
theorem within_lo (i n : Int) (h : 0 < n) : 0 ≤ within i n := Int.emod_nonneg _ (by omega)
theorem within_hi (i n : Int) (h : 0 < n) : within i n < n := Int.emod_lt_of_pos _ h

/-- Which fields a kind names: i ID, n Name, d Digest, l List, s Slots. -/
def fieldsB (k : Int) : List UInt8 :=
  if k = 1 then [105, 115] else if k = 2 then [105, 108, 115] else if k = 3 then [105] else if k = 4 then [105, 100, 108] else if k = 5 then [105, 100, 108]
  else if k = 6 then [100] else if k = 7 then [110, 100] else if k = 8 then [110] else []
def hasB (k : Int) (c : Int) : Bool := (fieldsB k).any fun b => decide ((b.toNat : Int) = c)
theorem fieldsB_ascii (k : Int) : ∀ c ∈ fieldsB k, c.toNat < 128 := by
  intro c hc
  unfold fieldsB at hc
  repeat' split at hc
  all_goals (simp at hc; try rcases hc with rfl | rfl | rfl) <;> first | decide | (rcases hc with rfl | rfl <;> decide) | (subst hc; decide)
theorem rdSlots {w : World} {base : Nat} {e : TypeId} {v : Value} {l : List (Int × Int)} (h : Own w base e 2 v l.length (l.flatMap fun x => [I x.1, I x.2])) (hok : ∀ x ∈ l, Go.Eng.Int64 x.1 ∧ Go.Eng.Int64 x.2) (hsm : l.length ≤ 140737488355328) : RdS slotS w.heap.size w v l := Own.rdFlat hsm h hok
end Silo

namespace Go.Eng
open Go Go.RowKit

section
variable {H : Type} {enc : TypeId × Value → H} {P : Program} {W : World} {base : Nat} {sp : Nat → Bool} {held : Bool}

/-- What an element's reading gives. -/
def Opens (enc : TypeId × Value → H) (P : Program) (W : World) (base : Nat) (sp : Nat → Bool) (held : Bool) {α : Type} (s : Shape α) (ok : α → Prop) (e : TypeId) : Prop :=
  ∀ n cs y, DataW.trod enc P W base sp held n e cs = some y → (∀ x ∈ DataW.weights P e y.1, x ≤ reachBytes) → ∃ x, s.rd W.heap.size W cs x ∧ ok x

theorem weightsAll_mem {P : Program} {e : TypeId} : ∀ {l : List (DataW H)} {d : DataW H}, d ∈ l → ∀ n ∈ d.weights P e, n ∈ DataW.weightsAll P e l
  | x :: r, d, hd, n, hn => by
    simp only [DataW.weightsAll, List.mem_append]
    rcases List.mem_cons.1 hd with rfl | hd
    · exact .inl hn
    · exact .inr (weightsAll_mem hd n hn)

theorem open_rd {α : Type} {s : Shape α} {ok : α → Prop} {t e : TypeId} {n : Nat} {v : Value} {y : DataW H × List MemPlace} (ht : P.underlying t = some (.slice e)) (hc : P.cellsOf e = s.size) (hs0 : 0 < s.size) (hb : 1 ≤ P.bytesOf e) (he : Opens enc P W base sp held s ok e)
    (h : DataW.trod enc P W base sp held n t [v] = some y) (hw : ∀ x ∈ DataW.weights P t y.1, x ≤ reachBytes) : ∃ l, RdS s W.heap.size W v l ∧ (∀ x ∈ l, ok x) ∧ l.length * P.bytesOf e ≤ 140737488351232 := by
  rcases DataW.trod_slice ht h with ⟨h0, _⟩ | ⟨a, len, cap, elems, rest, n', _, h0, rfl, _, hl, hm, hlen, hel, _, _⟩
  · have : v = .slice none 0 0 := by simpa using h0
    subst this
    exact ⟨[], RdS.nil _ _ _, by simp, by simp⟩
  · have : v = .slice (some a) len cap := by simpa using h0
    subst this
    have hwt : (elems.length + rest.length) * P.bytesOf e ≤ reachBytes ∧ ∀ d ∈ elems, ∀ x ∈ DataW.weights P e d.1, x ≤ reachBytes := by
      constructor
      · have := hw (((elems.map (·.1)).length + (rest.map (·.1)).length) * P.bytesOf e) (by simp only [DataW.weights, ht, List.mem_cons]; exact Or.inl trivial)
        simpa using this
      · intro d hd x hx
        refine hw x ?_
        simp only [DataW.weights, ht, List.mem_cons, List.mem_append]
        exact .inr (.inl (weightsAll_mem (List.mem_map.2 ⟨d, hd, rfl⟩) x hx))
    have hcap : len ≤ 140737488351232 := by
      have h1 := hwt.1
      have h2 : (elems.length + rest.length) * 1 ≤ (elems.length + rest.length) * P.bytesOf e := Nat.mul_le_mul_left _ hb
      simp only [reachBytes] at h1
      omega
    have key : ∀ i, i < len → ∃ (x : α), (∃ (cs : List Value), cellsAt W (a.add (i * s.size)) cs ∧ s.rd W.heap.size W cs x) ∧ ok x := by
      intro i hi
      have h1 := hel i hi
      rw [List.getElem?_eq_getElem (by omega)] at h1
      obtain ⟨cs, hcs, htr⟩ := Option.bind_eq_some_iff.1 h1
      obtain ⟨_, hlc, hcell⟩ := World.cells?_some hcs
      obtain ⟨x, hx, hok⟩ := he _ cs _ htr (hwt.2 _ (List.getElem_mem _))
      refine ⟨x, ⟨cs, fun j u hj => ?_, hx⟩, hok⟩
      have hjl : j < cs.length := by
        rcases Nat.lt_or_ge j cs.length with h' | h'
        · exact h'
        · rw [List.getElem?_eq_none h'] at hj; cases hj
      rw [← hc, hcell j (by omega)]
      exact hj
    refine ⟨List.ofFn fun i : Fin len => (key i i.2).choose, ⟨?_, ?_, ?_, ?_⟩, ?_, ?_⟩
    · refine ⟨some a, cap, by rw [List.length_ofFn], by rw [List.length_ofFn]; exact hl, hm, fun b hb' h0 => ?_⟩
      injection hb' with hb'
      subst hb'
      rw [List.length_ofFn] at h0
      obtain ⟨x, ⟨cs, hca, hx⟩, _⟩ := key 0 h0
      have hl2 := s.len hx
      have := hca.block (by omega)
      rwa [add_block] at this
    · intro i x hi
      have hil : i < len := by
        rcases Nat.lt_or_ge i len with h' | h'
        · exact h'
        · rw [List.getElem?_eq_none (by rw [List.length_ofFn]; exact h')] at hi; cases hi
      rw [List.getElem?_eq_getElem (by rw [List.length_ofFn]; exact hil)] at hi
      simp only [List.getElem_ofFn, Option.some.injEq] at hi
      subst hi
      exact (key i hil).choose_spec.1
    · intro _; exact ⟨a, cap, by rw [List.length_ofFn]⟩
    · rw [List.length_ofFn]; omega
    · intro x hx
      rw [List.mem_ofFn] at hx
      obtain ⟨i, rfl⟩ := hx
      exact (key i i.2).choose_spec.2
    · rw [List.length_ofFn]
      have h1 := hwt.1
      have h2 : len * P.bytesOf e ≤ (elems.length + rest.length) * P.bytesOf e := Nat.mul_le_mul_right _ (by omega)
      simp only [reachBytes] at h1
      omega

theorem opens_int {e : TypeId} (he : P.underlying e = some (.int .i64)) : Opens enc P W base sp held intS (fun _ => True) e := fun n cs y h _ => by
  obtain ⟨k, rfl, _, hw⟩ := DataW.trod_int he h
  have h2 : -9223372036854775808 ≤ k ∧ k ≤ 9223372036854775807 := by simpa [Lit.wf, IntKind.min, IntKind.max, IntKind.signed, IntKind.bits] using hw
  exact ⟨k, ⟨rfl, h2⟩, trivial⟩
theorem opens_str {e : TypeId} (he : P.underlying e = some .string) : Opens enc P W base sp held strS (fun l => l.length ≤ 140737488351232) e := fun n cs y h hw => by
  obtain ⟨s, rfl, rfl, _⟩ := DataW.trod_string he h
  have := hw s.data.toList.length (by simp [DataW.weights])
  simp only [reachBytes] at this
  exact ⟨s.data.toList, ⟨rfl, by omega⟩, by omega⟩

theorem trod_i64 {e : TypeId} {n : Nat} {cs : List Value} {y : DataW H × List MemPlace} (he : P.underlying e = some (.int .i64)) (h : DataW.trod enc P W base sp held n e cs = some y) : ∃ k, cs = [I k] ∧ Int64 k := by
  obtain ⟨k, rfl, _, hw⟩ := DataW.trod_int he h
  have h2 : -9223372036854775808 ≤ k ∧ k ≤ 9223372036854775807 := by simpa [Lit.wf, IntKind.min, IntKind.max, IntKind.signed, IntKind.bits] using hw
  exact ⟨k, rfl, h2⟩

theorem opens_slot {e : TypeId} {f0 f1 : Field} (he : P.underlying e = some (.struct #[f0, f1])) (o0 : f0.offset = 0) (o1 : f1.offset = 1) (t0 : P.underlying f0.type = some (.int .i64)) (t1 : P.underlying f1.type = some (.int .i64))
    (c0 : P.cellsOf f0.type = 1) (c1 : P.cellsOf f1.type = 1) (ce : P.cellsOf e = 2) : Opens enc P W base sp held Silo.slotS (fun _ => True) e := fun n cs y h _ => by
  obtain ⟨xs, n', rfl, rfl, hlen, hxs, hf⟩ := DataW.trod_struct he h
  rw [ce] at hlen
  have h0 := hf 0 f0 rfl
  have h1 := hf 1 f1 rfl
  have hx2 : xs.length = 2 := hxs
  match cs, hlen, xs, hx2, h0, h1 with
  | [a, b], _, [x0, x1], _, h0, h1 =>
    rw [o0, c0] at h0
    rw [o1, c1] at h1
    obtain ⟨k0, e0, w0⟩ := trod_i64 t0 h0
    obtain ⟨k1, e1, w1⟩ := trod_i64 t1 h1
    have e0' : a = I k0 := by simpa using e0
    have e1' : b = I k1 := by simpa using e1
    exact ⟨(k0, k1), ⟨by rw [e0', e1'], w0, w1⟩, trivial⟩

theorem trod_str {e : TypeId} {n : Nat} {cs : List Value} {y : DataW H × List MemPlace} (he : P.underlying e = some .string) (h : DataW.trod enc P W base sp held n e cs = some y) (hw : ∀ x ∈ DataW.weights P e y.1, x ≤ reachBytes) : ∃ l, cs = [St l] ∧ l.length ≤ 140737488351232 := by
  obtain ⟨s, rfl, rfl, _⟩ := DataW.trod_string he h
  have := hw s.data.toList.length (by simp [DataW.weights])
  exact ⟨s.data.toList, rfl, by simp only [reachBytes] at this; omega⟩

theorem trod_one {t e : TypeId} {n : Nat} {cs : List Value} {y : DataW H × List MemPlace} (ht : P.underlying t = some (.slice e)) (h : DataW.trod enc P W base sp held n t cs = some y) : ∃ v, cs = [v] := by
  rcases DataW.trod_slice ht h with ⟨h0, _⟩ | ⟨a, len, cap, _, _, _, _, h0, _⟩
  · exact ⟨_, h0⟩
  · exact ⟨_, h0⟩

theorem opens_rec {e eI eS : TypeId} {f0 f1 f2 f3 f4 f5 : Field} (he : P.underlying e = some (.struct #[f0, f1, f2, f3, f4, f5])) (o : [f0.offset, f1.offset, f2.offset, f3.offset, f4.offset, f5.offset] = [0, 1, 2, 3, 4, 5])
    (t0 : P.underlying f0.type = some (.int .i64)) (t1 : P.underlying f1.type = some (.int .i64)) (t2 : P.underlying f2.type = some .string) (t3 : P.underlying f3.type = some .string) (t4 : P.underlying f4.type = some (.slice eI)) (t5 : P.underlying f5.type = some (.slice eS))
    (c : [P.cellsOf f0.type, P.cellsOf f1.type, P.cellsOf f2.type, P.cellsOf f3.type, P.cellsOf f4.type, P.cellsOf f5.type] = [1, 1, 1, 1, 1, 1]) (ce : P.cellsOf e = 6)
    (hI : Opens enc P W base sp held intS (fun _ => True) eI) (hS : Opens enc P W base sp held Silo.slotS (fun _ => True) eS) (cI : P.cellsOf eI = 1) (cS : P.cellsOf eS = 2) (bI : 1 ≤ P.bytesOf eI) (bS : 1 ≤ P.bytesOf eS) : Opens enc P W base sp held Silo.recS (fun r => r.name.length ≤ 140737488351232) e := fun n cs y h hw => by
  obtain ⟨xs, n', rfl, rfl, hlen, hxs, hf⟩ := DataW.trod_struct he h
  rw [ce] at hlen
  have hx6 : xs.length = 6 := hxs
  simp only [List.cons.injEq, and_true] at o c
  obtain ⟨o0, o1, o2, o3, o4, o5⟩ := o
  obtain ⟨c0, c1, c2, c3, c4, c5⟩ := c
  have h0 := hf 0 f0 rfl
  have h1 := hf 1 f1 rfl
  have h2 := hf 2 f2 rfl
  have h3 := hf 3 f3 rfl
  have h4 := hf 4 f4 rfl
  have h5 := hf 5 f5 rfl
  match cs, hlen, xs, hx6, h0, h1, h2, h3, h4, h5, hw with
  | [a0, a1, a2, a3, a4, a5], _, [x0, x1, x2, x3, x4, x5], _, h0, h1, h2, h3, h4, h5, hw =>
    rw [o0, c0] at h0
    rw [o1, c1] at h1
    rw [o2, c2] at h2
    rw [o3, c3] at h3
    rw [o4, c4] at h4
    rw [o5, c5] at h5
    have hwe : ∀ x ∈ DataW.weightsEach P [f0.type, f1.type, f2.type, f3.type, f4.type, f5.type] [x0.1, x1.1, x2.1, x3.1, x4.1, x5.1], x ≤ reachBytes := fun x hx => hw x (by simp only [DataW.weights, he]; exact hx)
    obtain ⟨k0, e0, w0⟩ := trod_i64 t0 h0
    obtain ⟨k1, e1, w1⟩ := trod_i64 t1 h1
    obtain ⟨l2, e2, w2⟩ := trod_str t2 h2 (fun x hx => hwe x (DataW.weights_mem_each (j := 2) rfl rfl x hx))
    obtain ⟨l3, e3, w3⟩ := trod_str t3 h3 (fun x hx => hwe x (DataW.weights_mem_each (j := 3) rfl rfl x hx))
    have e0' : a0 = I k0 := by simpa using e0
    have e1' : a1 = I k1 := by simpa using e1
    have e2' : a2 = St l2 := by simpa using e2
    have e3' : a3 = St l3 := by simpa using e3
    obtain ⟨l4, r4, _⟩ := open_rd (v := a4) t4 (s := intS) (cI.trans rfl) (by decide) bI hI h4 (fun x hx => hwe x (DataW.weights_mem_each (j := 4) rfl rfl x hx))
    obtain ⟨l5, r5, _⟩ := open_rd (v := a5) t5 (s := Silo.slotS) (cS.trans rfl) (by decide) bS hS h5 (fun x hx => hwe x (DataW.weights_mem_each (j := 5) rfl rfl x hx))
    exact ⟨⟨k0, k1, l2, l3, l4, l5⟩, ⟨a4, a5, by rw [e0', e1', e2', e3'], r4, r5, w0, w1, by dsimp only; omega, by dsimp only; omega⟩, w2⟩

theorem open_ask {t eR eS eN : TypeId} {f0 f1 f2 : Field} {v : Value} {d : DataW H} {ps : List MemPlace} (ht : P.underlying t = some (.struct #[f0, f1, f2])) (o : [f0.offset, f1.offset, f2.offset] = [0, 1, 2]) (c : [P.cellsOf f0.type, P.cellsOf f1.type, P.cellsOf f2.type] = [1, 1, 1]) (ct : P.cellsOf t = 3)
    (t0 : P.underlying f0.type = some (.slice eR)) (t1 : P.underlying f1.type = some (.slice eS)) (t2 : P.underlying f2.type = some (.slice eN)) (hR : Opens enc P W base sp held Silo.recS (fun r => r.name.length ≤ 140737488351232) eR) (hS : Opens enc P W base sp held strS (fun l => l.length ≤ 140737488351232) eS) (hN : Opens enc P W base sp held intS (fun _ => True) eN)
    (cR : P.cellsOf eR = 6) (cS : P.cellsOf eS = 1) (cN : P.cellsOf eN = 1) (bR : 1 ≤ P.bytesOf eR) (bS : 1 ≤ P.bytesOf eS) (bN : 1 ≤ P.bytesOf eN)
    (hval : Value.okWide P W .any base t v) (h : DataW.Trod enc P W base sp held t v d ps) (hw : ∀ x ∈ DataW.weights P t d, x ≤ reachBytes) :
    ∃ vR vS vN R S N, v = .agg #[vR, vS, vN] ∧ Rd Silo.recS W vR R ∧ Rd strS W vS S ∧ Rd intS W vN N ∧ (∀ r ∈ R, r.name.length ≤ 140737488351232) ∧ R.length * P.bytesOf eR ≤ 140737488351232 := by
  unfold Value.okWide at hval
  rw [ht] at hval
  obtain ⟨⟨cs⟩, rfl, hsz, _⟩ := hval
  obtain ⟨fuel, h⟩ := h
  obtain ⟨xs, n', rfl, hd, hlen, hxs, hf⟩ := DataW.trod_struct ht h
  have hd1 : d = .agg (xs.map (·.1)) := (Prod.mk.inj hd).1
  subst hd1
  rw [ct] at hlen
  have hx3 : xs.length = 3 := hxs
  simp only [List.cons.injEq, and_true] at o c
  obtain ⟨o0, o1, o2⟩ := o
  obtain ⟨c0, c1, c2⟩ := c
  have h0 := hf 0 f0 rfl
  have h1 := hf 1 f1 rfl
  have h2 := hf 2 f2 rfl
  have hlen' : cs.length = 3 := hlen
  simp only [Value.cells] at h0 h1 h2
  match cs, hlen', xs, hx3, h0, h1, h2, hw with
  | [a0, a1, a2], _, [x0, x1, x2], _, h0, h1, h2, hw =>
    rw [o0, c0] at h0
    rw [o1, c1] at h1
    rw [o2, c2] at h2
    have hwe : ∀ x ∈ DataW.weightsEach P [f0.type, f1.type, f2.type] [x0.1, x1.1, x2.1], x ≤ reachBytes := fun x hx => hw x (by simp only [DataW.weights, ht]; exact hx)
    obtain ⟨R, r0, ok0, z0⟩ := open_rd (v := a0) t0 (s := Silo.recS) (cR.trans rfl) (by decide) bR hR h0 (fun x hx => hwe x (DataW.weights_mem_each (j := 0) rfl rfl x hx))
    obtain ⟨S, r1, _⟩ := open_rd (v := a1) t1 (s := strS) (cS.trans rfl) (by decide) bS hS h1 (fun x hx => hwe x (DataW.weights_mem_each (j := 1) rfl rfl x hx))
    obtain ⟨N, r2, _⟩ := open_rd (v := a2) t2 (s := intS) (cN.trans rfl) (by decide) bN hN h2 (fun x hx => hwe x (DataW.weights_mem_each (j := 2) rfl rfl x hx))
    exact ⟨a0, a1, a2, R, S, N, rfl, r0, r1, r2, ok0, z0⟩
end
end Go.Eng

namespace Go.Proofs.Ythlfolpcmcejkaa
open Go Go.Eng Go.ChangeShapes Go.WideShapes Go.ChangeAt Go.RowKit

section
variable {H : Type} {enc : TypeId × Value → H} {P : Program}
theorem post_of_below {f : Func} {s : ChangeSpec} {apart fresh handsOn again : Bool} {W W' : World} {args : Array Value} {v : Value} {ds gs : List (DataW H)} {before pa pv : List MemPlace}
    (hW : DataW.Whole enc P f.params.toList s.vars apart W args.toList ds gs before)
    (hres : ∀ (b : Nat) (sp : Nat → Bool) (hd : Bool), DataW.TrodAll enc P W' b sp hd f.resultTypes.toList (v.resultList f.resultTypes.size) (s.fn H (ds ++ gs)).results [])
    (hargs : ∀ sp : Nat → Bool, (∀ p ∈ before, sp p.block = true) → DataW.TrodAll enc P W' 0 sp true f.params.toList args.toList (s.fn H (ds ++ gs)).args pa)
    (hvars : ∀ sp : Nat → Bool, (∀ p ∈ before, sp p.block = true) → DataW.TrodVars enc P W' sp s.vars (s.fn H (ds ++ gs)).vars pv)
    (hps : before = pa ++ pv) (hb : Below W.heap.size W W')
    (hok : ∀ (j : Nat) (t : TypeId) (r : Value), f.resultTypes[j]? = some t → (v.resultList f.resultTypes.size)[j]? = some r → Value.okWide P W' .any 0 t r) :
    s.post enc P f apart fresh handsOn again W args v W' := by
  have hlt : ∀ p ∈ before, p.block < W.heap.size := fun p hp => hW.lt p hp
  have hold : ∀ p ∈ before, (fun b => decide (b < W.heap.size)) p.block = true := fun p hp => by simpa using hlt p hp
  refine ⟨ds, gs, before, [], pa, pv, hW, hres _ _ _, hargs _ hold, hvars _ hold, World.keptBut_mono (fun p hp => ⟨hp, ?_⟩) (hb.frame (· ∈ before)), fun _ => ?_⟩
  · rw [hps, List.mem_append] at hp
    exact Or.inr hp
  · obtain ⟨_, _, _, _, _, hz, hn⟩ := hW
    refine ⟨hok, _, _, ([] ++ pa) ++ pv, ⟨[] ++ pa, pv, trodAll_append (hargs _ (fun _ _ => rfl)) (hres _ _ _), hvars _ (fun _ _ => rfl), rfl, ?_, ?_⟩, ?_⟩
    · intro b off hp
      have hin : MemPlace.cell b off ∈ before := by rw [hps]; simpa using hp
      rw [hb.frozen (hlt _ hin)]
      exact hz b off hin
    · intro ha
      have := hn ha
      rw [hps] at this
      simpa using this
    · intro p hp _
      rw [hps]
      simpa using hp
end

theorem own : ownKnob Try.prog.godebug = none := by kernel_rfl
theorem laidOut : laidOutB Try.prog = true := by kernel_rfl
theorem cells_int : Try.prog.cellsOf 3 = 1 := by kernel_rfl
theorem cells_str : Try.prog.cellsOf 9 = 1 := by kernel_rfl
theorem cells_slot : Try.prog.cellsOf 66 = 2 := by kernel_rfl
theorem cells_rec : Try.prog.cellsOf 31 = 6 := by kernel_rfl
theorem cells_ask : Try.prog.cellsOf 26 = 3 := by kernel_rfl
theorem cells_lR : Try.prog.cellsOf 22 = 1 := by kernel_rfl
theorem cells_lS : Try.prog.cellsOf 23 = 1 := by kernel_rfl
theorem cells_lN : Try.prog.cellsOf 24 = 1 := by kernel_rfl
theorem cells_lP : Try.prog.cellsOf 29 = 1 := by kernel_rfl
theorem bytes_int : 1 ≤ Try.prog.bytesOf 3 := of_decide_eq_true (by kernel_rfl)
theorem bytes_str : 1 ≤ Try.prog.bytesOf 9 := of_decide_eq_true (by kernel_rfl)
theorem bytes_slot : 1 ≤ Try.prog.bytesOf 66 := of_decide_eq_true (by kernel_rfl)
theorem bytes_rec : 1 ≤ Try.prog.bytesOf 31 := of_decide_eq_true (by kernel_rfl)

theorem ask_open {H : Type} {enc : TypeId × Value → H} {W : World} {base : Nat} {sp : Nat → Bool} {held : Bool} {v : Value} {d : DataW H} {ps : List MemPlace}
    (hval : Value.okWide Try.prog W .any base 26 v) (h : DataW.Trod enc Try.prog W base sp held 26 v d ps) (hw : ∀ x ∈ DataW.weights Try.prog 26 d, x ≤ reachBytes) :
    ∃ vR vS vN R S N, v = .agg #[vR, vS, vN] ∧ Rd Silo.recS W vR R ∧ Rd strS W vS S ∧ Rd intS W vN N ∧ (∀ r ∈ R, r.name.length ≤ 140737488351232) ∧ R.length * 96 ≤ 140737488351232 := by
  have := open_ask Try.underlying26 rfl (by rw [cells_lR, cells_lS, cells_lN]) cells_ask Try.underlying22 Try.underlying23 Try.underlying24
    (opens_rec Try.underlying31 rfl Try.underlying3 Try.underlying3 Try.underlying9 Try.underlying9 Try.underlying24 Try.underlying29 (by rw [cells_int, cells_str, cells_lN, cells_lP]) cells_rec
      (opens_int Try.underlying3) (opens_slot Try.underlying66 rfl rfl Try.underlying3 Try.underlying3 cells_int cells_int cells_slot) cells_int cells_slot bytes_int bytes_slot)
    (opens_str Try.underlying9) (opens_int Try.underlying3) cells_rec cells_str cells_int bytes_rec bytes_str bytes_int hval h hw
  rwa [show Try.prog.bytesOf 31 = 96 by kernel_rfl] at this
end Go.Proofs.Ythlfolpcmcejkaa

namespace Silo
open Go Go.Eng
def numB (n : Int) : Bool := decide (0 ≤ n) && decide (n ≤ 1073741824)
/-- Which slot may not be. -/
def slotBad (p : Int × Int) : Bool := decide (p.1 < -1) || decide (12 ≤ p.1) || decide (p.2 < 0) || decide (64 ≤ p.2)

def wantI (r : Rec) : Int := if hasB r.kind 105 then r.id else 0
def wantN (r : Rec) : List UInt8 := if hasB r.kind 110 then r.name else []
def wantD (r : Rec) : List UInt8 := if hasB r.kind 100 then r.digest else []
def wantL (r : Rec) : List Int := if hasB r.kind 108 then r.list else []
def wantS (r : Rec) : List (Int × Int) := if hasB r.kind 115 then r.slots else []
def want (r : Rec) : Rec := ⟨r.kind, wantI r, wantN r, wantD r, wantL r, wantS r⟩

def kindBad (r : Rec) : Bool := decide (r.kind < 1) || decide (8 < r.kind)
/-- The page's four tests between. -/
def refBad (r : Rec) : Bool :=
  !decide (r = want r) || !numB r.id || (hasB r.kind 110 && !(decide (1 ≤ (r.name.length : Int)) && decide ((r.name.length : Int) ≤ 40))) || (hasB r.kind 100 && !decide ((r.digest.length : Int) = 32)) ||
    decide (2000 < (r.list.length : Int)) || (decide (r.kind = 2) && !decide ((r.list.length : Int) = 2)) || (hasB r.kind 115 && !(decide (1 ≤ (r.slots.length : Int)) && decide ((r.slots.length : Int) ≤ 14)))
/-- Whether a record may be. -/
def mayB (r : Rec) : Bool := !kindBad r && !refBad r && r.list.all numB && r.slots.all (fun p => !slotBad p)

/-- The program's tests. -/
def progBad1 (r : Rec) : Bool := (hasB r.kind 105 && !numB r.id) || (hasB r.kind 110 && (decide ((r.name.length : Int) < 1) || decide (40 < (r.name.length : Int)))) || (hasB r.kind 100 && !decide ((r.digest.length : Int) = 32))
def listP (r : Rec) : Bool := !(decide (r.kind = 2) && !decide ((r.list.length : Int) = 2)) && (decide ((r.list.length : Int) ≤ 2000) && !(r.list.any fun n => !numB n))
def placesP (l : List (Int × Int)) : Bool := decide (1 ≤ (l.length : Int)) && decide ((l.length : Int) ≤ 14) && !(l.any slotBad)
def progBad2 (r : Rec) : Bool := (hasB r.kind 108 && !listP r) || (hasB r.kind 115 && !placesP r.slots)
def progEnd (r : Rec) : Bool := (hasB r.kind 105 || decide (r.id = 0)) && (hasB r.kind 110 || (r.name == [])) && (hasB r.kind 100 || (r.digest == [])) && (hasB r.kind 108 || decide ((r.list.length : Int) = 0)) && (hasB r.kind 115 || decide ((r.slots.length : Int) = 0))

theorem len0 {α : Type} (l : List α) : ((l.length : Int) = 0) ↔ l = [] := by cases l <;> simp; omega
theorem want_iff (r : Rec) : r = want r ↔ (hasB r.kind 105 = true ∨ r.id = 0) ∧ (hasB r.kind 110 = true ∨ r.name = []) ∧ (hasB r.kind 100 = true ∨ r.digest = []) ∧ (hasB r.kind 108 = true ∨ r.list = []) ∧ (hasB r.kind 115 = true ∨ r.slots = []) := by
  obtain ⟨k, i, n, d, l, s⟩ := r
  simp only [want, wantI, wantN, wantD, wantL, wantS, Rec.mk.injEq, true_and]
  cases hasB k 105 <;> cases hasB k 110 <;> cases hasB k 100 <;> cases hasB k 108 <;> cases hasB k 115 <;> simp
theorem has2 {k : Int} (h : k = 2) : hasB k 108 = true := by subst h; decide
theorem listP_iff (r : Rec) : listP r = true ↔ (r.kind = 2 → (r.list.length : Int) = 2) ∧ (r.list.length : Int) ≤ 2000 ∧ ∀ x ∈ r.list, numB x = true := by
  simp only [listP, Bool.and_eq_true, Bool.not_eq_true', Bool.and_eq_false_iff, decide_eq_false_iff_not, Bool.not_eq_false', decide_eq_true_eq, List.any_eq_false, Bool.not_eq_true, Bool.not_eq_false]
  constructor
  · rintro ⟨h1, h2, h3⟩; exact ⟨fun e => h1.resolve_left (fun n => n e), h2, h3⟩
  · rintro ⟨h1, h2, h3⟩; exact ⟨(Decidable.em (r.kind = 2)).symm.imp id h1, h2, h3⟩
theorem placesP_iff (l : List (Int × Int)) : placesP l = true ↔ (1 ≤ (l.length : Int) ∧ (l.length : Int) ≤ 14) ∧ ∀ x ∈ l, slotBad x = false := by
  simp only [placesP, Bool.and_eq_true, Bool.not_eq_true', decide_eq_true_eq, List.any_eq_false, Bool.not_eq_true]
theorem mayB_iff (r : Rec) : mayB r = true ↔ kindBad r = false ∧ r = want r ∧ numB r.id = true ∧ (hasB r.kind 110 = true → 1 ≤ (r.name.length : Int) ∧ (r.name.length : Int) ≤ 40) ∧ (hasB r.kind 100 = true → (r.digest.length : Int) = 32) ∧
    (r.list.length : Int) ≤ 2000 ∧ (r.kind = 2 → (r.list.length : Int) = 2) ∧ (hasB r.kind 115 = true → 1 ≤ (r.slots.length : Int) ∧ (r.slots.length : Int) ≤ 14) ∧ (∀ x ∈ r.list, numB x = true) ∧ (∀ x ∈ r.slots, slotBad x = false) := by
  simp only [mayB, refBad, Bool.and_eq_true, Bool.not_eq_true', Bool.or_eq_false_iff, Bool.and_eq_false_iff, decide_eq_false_iff_not, Bool.not_eq_false', decide_eq_true_eq, List.all_eq_true, Int.not_lt, and_assoc]
  refine and_congr_right fun _ => and_congr_right fun _ => and_congr_right fun _ => and_congr ?_ (and_congr ?_ (and_congr_right fun _ => and_congr ?_ (and_congr ?_ Iff.rfl)))
  · cases hasB r.kind 110 <;> simp
  · cases hasB r.kind 100 <;> simp
  · by_cases h : r.kind = 2 <;> simp [h]
  · cases hasB r.kind 115 <;> simp
theorem numB_zero : numB 0 = true := by decide
theorem mayB_prog (r : Rec) : mayB r = (!kindBad r && !progBad1 r && !progBad2 r && progEnd r) := by
  rw [Bool.eq_iff_iff, mayB_iff, want_iff]
  simp only [progBad1, progBad2, progEnd, Bool.and_eq_true, Bool.not_eq_true', Bool.or_eq_false_iff, Bool.and_eq_false_iff, decide_eq_false_iff_not, Bool.not_eq_false', decide_eq_true_eq, beq_iff_eq, Bool.or_eq_true, listP_iff, placesP_iff, len0, and_assoc, Int.not_lt]
  have hk := @has2 r.kind
  constructor
  · rintro ⟨h0, hI, hN, hD, hL, hS, h1, h2, h3, h4, h5, h6, h7, h8⟩
    refine ⟨h0, .inr h1, ?_, ?_, .inr ⟨h5, h4, h7⟩, ?_, hI, hN, hD, hL, hS⟩
    · cases e : hasB r.kind 110
      · exact .inl rfl
      · exact .inr (h2 e)
    · cases e : hasB r.kind 100
      · exact .inl rfl
      · exact .inr (h3 e)
    · cases e : hasB r.kind 115
      · exact .inl rfl
      · have := h6 e; exact .inr ⟨this.1, this.2, h8⟩
  · rintro ⟨h0, h1, h2, h3, h4, h5, hI, hN, hD, hL, hS⟩
    have h4' : (r.kind = 2 → (r.list.length : Int) = 2) ∧ (r.list.length : Int) ≤ 2000 ∧ ∀ x ∈ r.list, numB x = true := by
      rcases h4 with h4 | h4
      · rcases hL with hL | hL
        · rw [h4] at hL; exact absurd hL (by decide)
        · exact ⟨fun e => by rw [has2 e] at h4; exact absurd h4 (by decide), by simp [hL], by simp [hL]⟩
      · exact h4
    refine ⟨h0, hI, hN, hD, hL, hS, ?_, ?_, ?_, h4'.2.1, h4'.1, ?_, h4'.2.2, ?_⟩
    · rcases h1 with h1 | h1
      · rcases hI with hI | hI
        · rw [h1] at hI; exact absurd hI (by decide)
        · rw [hI]; exact numB_zero
      · exact h1
    · intro e; rcases h2 with h2 | h2
      · rw [e] at h2; exact absurd h2 (by decide)
      · exact h2
    · intro e; rcases h3 with h3 | h3
      · rw [e] at h3; exact absurd h3 (by decide)
      · exact h3
    · intro e; rcases h5 with h5 | h5
      · rw [e] at h5; exact absurd h5 (by decide)
      · exact ⟨h5.1, h5.2.1⟩
    · rcases h5 with h5 | h5
      · rcases hS with hS | hS
        · rw [h5] at hS; exact absurd hS (by decide)
        · simp [hS]
      · exact h5.2.2
end Silo

namespace Silo
open Go Go.Eng

/-- What a reader does. -/
def tkBad (s : List UInt8) (bad : Bool) (n : Int) : Bool := bad || decide ((s.length : Int) < n)
def tkS (s : List UInt8) (bad : Bool) (n : Int) : List UInt8 := bif tkBad s bad n then s else s.drop n.toNat
def tkT (s : List UInt8) (bad : Bool) (n : Int) : List UInt8 := bif tkBad s bad n then [] else s.take n.toNat
theorem tkT_len (s : List UInt8) (bad : Bool) (n : Int) : (tkT s bad n).length ≤ n.toNat := by
  unfold tkT; cases tkBad s bad n <;> simp; omega
theorem tkS_len (s : List UInt8) (bad : Bool) (n : Int) : (tkS s bad n).length ≤ s.length := by
  unfold tkS; cases tkBad s bad n <;> simp
theorem tkT_len2 (s : List UInt8) (bad : Bool) (n : Int) : (tkT s bad n).length ≤ s.length := by
  unfold tkT; cases tkBad s bad n <;> simp; omega

/-- Parsing: nothing once there is too little. -/
def pTake (n : Nat) (s : List UInt8) : Option (List UInt8 × List UInt8) := if n ≤ s.length then some (s.take n, s.drop n) else none
def pNum (φ : Nat → Int) (s : List UInt8) : Option (Int × List UInt8) := (pTake 4 s).map fun x => (φ (beNat x.1), x.2)
def pList (φ : Nat → Int) : Nat → List UInt8 → Option (List Int × List UInt8)
  | 0, s => some ([], s)
  | n + 1, s => (pNum φ s).bind fun x => (pList φ n x.2).map fun y => (x.1 :: y.1, y.2)
def pSlots (φ : Nat → Int) (ψ : Nat → Int) : Nat → List UInt8 → Option (List (Int × Int) × List UInt8)
  | 0, s => some ([], s)
  | n + 1, s => (pNum ψ s).bind fun x => (pNum φ x.2).bind fun y => (pSlots φ ψ n y.2).map fun z => ((x.1, y.1) :: z.1, z.2)
/-- minus one, where all bits are set -/
def minus (n : Nat) : Int := if n = 4294967295 then -1 else n
def plain (n : Nat) : Int := n

def pField (φ : Nat → Int) (c : Nat) (x : Rec × List UInt8) : Option (Rec × List UInt8) :=
  match c with
  | 105 => (pNum φ x.2).map fun y => ({ x.1 with id := y.1 }, y.2)
  | 110 => (pTake 1 x.2).bind fun y => (pTake (beNat y.1) y.2).map fun z => ({ x.1 with name := z.1 }, z.2)
  | 100 => (pTake 32 x.2).map fun y => ({ x.1 with digest := y.1 }, y.2)
  | 108 => (pTake 4 x.2).bind fun y => (pList φ (beNat y.1) y.2).map fun z => ({ x.1 with list := x.1.list ++ z.1 }, z.2)
  | 115 => (pTake 1 x.2).bind fun y => (pSlots φ minus (beNat y.1) y.2).map fun z => ({ x.1 with slots := x.1.slots ++ z.1 }, z.2)
  | _ => some x
def rec0 (k : Int) : Rec := ⟨k, 0, [], [], [], []⟩
def pFields (φ : Nat → Int) (l : List UInt8) (x : Rec × List UInt8) : Option (Rec × List UInt8) := l.foldlM (fun x c => pField φ c.toNat x) x
def pEnd (x : Rec × List UInt8) : Option Rec := if x.2 = [] ∧ mayB x.1 = true then some x.1 else none
/-- Which record bytes are, if they are one's. -/
def takeSpec (φ : Nat → Int) : List UInt8 → Option Rec
  | [] => none
  | k :: s => (pFields φ (fieldsB k.toNat) (rec0 k.toNat, s)).bind pEnd

/-! ### Both ways to read a number tell the same records -/
def mI (n : Int) : Int := if n = 4294967295 then -1 else n
def mRec (r : Rec) : Rec := { r with id := mI r.id, list := r.list.map mI, slots := r.slots.map fun p => (p.1, mI p.2) }
def mX (x : Rec × List UInt8) : Rec × List UInt8 := (mRec x.1, x.2)
theorem mI_plain (n : Nat) : mI (plain n) = minus n := by unfold mI plain minus; split <;> split <;> omega
theorem pNum_m (s : List UInt8) : pNum minus s = (pNum plain s).map fun x => (mI x.1, x.2) := by
  unfold pNum
  cases pTake 4 s <;> simp [mI_plain]
theorem pList_m : ∀ (n : Nat) (s : List UInt8), pList minus n s = (pList plain n s).map fun x => (x.1.map mI, x.2)
  | 0, s => rfl
  | n + 1, s => by
    simp only [pList, pNum_m]
    cases pNum plain s with
    | none => rfl
    | some x =>
      simp only [Option.map_some, Option.bind_some, pList_m n]
      cases pList plain n x.2 <;> simp
theorem pSlots_m : ∀ (n : Nat) (s : List UInt8), pSlots minus minus n s = (pSlots plain minus n s).map fun x => (x.1.map fun p => (p.1, mI p.2), x.2)
  | 0, s => rfl
  | n + 1, s => by
    simp only [pSlots]
    cases pNum minus s with
    | none => rfl
    | some x =>
      simp only [Option.bind_some, pNum_m x.2]
      cases pNum plain x.2 with
      | none => rfl
      | some y =>
        simp only [Option.map_some, Option.bind_some, pSlots_m n]
        cases pSlots plain minus n y.2 <;> simp
theorem pField_m (c : Nat) (x : Rec × List UInt8) : pField minus c (mX x) = (pField plain c x).map mX := by
  unfold pField
  split
  · simp only [mX, pNum_m]; cases pNum plain x.2 <;> simp [mRec, mX]
  · simp only [mX]; cases pTake 1 x.2 with
    | none => rfl
    | some y => simp only [Option.bind_some]; cases pTake (beNat y.1) y.2 <;> simp [mRec, mX]
  · simp only [mX]; cases pTake 32 x.2 <;> simp [mRec, mX]
  · simp only [mX]; cases pTake 4 x.2 with
    | none => rfl
    | some y => simp only [Option.bind_some, pList_m]; cases pList plain (beNat y.1) y.2 <;> simp [mRec, mX]
  · simp only [mX]; cases pTake 1 x.2 with
    | none => rfl
    | some y => simp only [Option.bind_some, pSlots_m]; cases pSlots plain minus (beNat y.1) y.2 <;> simp [mRec, mX]
  · simp [mX]
theorem pFields_m : ∀ (l : List UInt8) (x : Rec × List UInt8), pFields minus l (mX x) = (pFields plain l x).map mX
  | [], x => rfl
  | c :: l, x => by
    simp only [pFields, List.foldlM_cons, pField_m]
    cases h : pField plain c.toNat x with
    | none => rfl
    | some y => simpa [pFields] using pFields_m l y
theorem mI_num {n : Int} (h : numB n = true) : mI n = n := by
  simp only [numB, Bool.and_eq_true, decide_eq_true_eq] at h
  unfold mI; split <;> omega
theorem num_mI {n : Int} (h : numB (mI n) = true) : mI n = n := by
  unfold mI at h ⊢; split <;> rename_i e
  · simp [e, numB] at h
  · rfl
theorem mI_slot {p : Int × Int} (h : slotBad p = false) : mI p.2 = p.2 := by
  simp only [slotBad, Bool.or_eq_false_iff, decide_eq_false_iff_not] at h
  unfold mI; split <;> omega
theorem slot_mI {p : Int × Int} (h : slotBad (p.1, mI p.2) = false) : mI p.2 = p.2 := by
  unfold mI at h ⊢; split <;> rename_i e
  · simp [e, slotBad] at h
  · rfl
theorem mRec_may {r : Rec} (h : mayB r = true) : mRec r = r := by
  obtain ⟨_, _, h1, _, _, _, _, _, h2, h3⟩ := (mayB_iff r).1 h
  cases r with
  | mk k i n d l s =>
    simp only [mRec, Rec.mk.injEq, true_and, and_true]
    refine ⟨mI_num h1, ?_, ?_⟩
    · exact (List.map_congr_left (g := id) fun x hx => mI_num (h2 x hx)).trans (List.map_id _)
    · exact (List.map_congr_left (g := id) fun x hx => by show (x.1, mI x.2) = x; rw [mI_slot (h3 x hx)]).trans (List.map_id _)
theorem may_mRec {r : Rec} (h : mayB (mRec r) = true) : mRec r = r := by
  obtain ⟨_, _, h1, _, _, _, _, _, h2, h3⟩ := (mayB_iff _).1 h
  cases r with
  | mk k i n d l s =>
    simp only [mRec] at h1 h2 h3
    simp only [mRec, Rec.mk.injEq, true_and, and_true]
    refine ⟨num_mI h1, ?_, ?_⟩
    · exact (List.map_congr_left (g := id) fun x hx => num_mI (h2 _ (List.mem_map.2 ⟨x, hx, rfl⟩))).trans (List.map_id _)
    · exact (List.map_congr_left (g := id) fun x hx => by show (x.1, mI x.2) = x; rw [slot_mI (h3 _ (List.mem_map.2 ⟨x, hx, rfl⟩))]).trans (List.map_id _)
theorem pEnd_m (x : Rec × List UInt8) : pEnd (mX x) = pEnd x := by
  obtain ⟨r, s⟩ := x
  show pEnd (mRec r, s) = pEnd (r, s)
  by_cases h : mayB r = true
  · rw [mRec_may h]
  · have h' : ¬ mayB (mRec r) = true := fun e => h (by rw [← may_mRec e]; exact e)
    simp [pEnd, h, h']
theorem takeSpec_same (s : List UInt8) : takeSpec minus s = takeSpec plain s := by
  cases s with
  | nil => rfl
  | cons k s =>
    have h0 : (rec0 (k.toNat : Int), s) = mX (rec0 k.toNat, s) := by simp [mX, mRec, rec0, mI]
    show (pFields minus (fieldsB k.toNat) (rec0 k.toNat, s)).bind pEnd = (pFields plain (fieldsB k.toNat) (rec0 k.toNat, s)).bind pEnd
    rw [show pFields minus (fieldsB k.toNat) (rec0 k.toNat, s) = pFields minus (fieldsB k.toNat) (mX (rec0 k.toNat, s)) by rw [← h0], pFields_m]
    cases pFields plain (fieldsB k.toNat) (rec0 k.toNat, s) with
    | none => rfl
    | some x => exact pEnd_m x
end Silo

namespace Go.Proofs.Ythlfolpcmcejkaa
open Go Go.Eng Go.RowKit Silo TryT

theorem num_ok {w : World} (n most : Int) : Calls Try.prog 30 #[I n, I most] w (Ret fun v w' => Below w.heap.size w w' ∧ v = .bool (decide (0 ≤ n) && decide (n ≤ most))) := by
  refine enter (n := 12) (res := #[.tmp 4]) Try.func30 rfl rfl rfl rfl ?_
  refine cseq <| cg <| za rfl <| cnil <| cseq <| cg <| zm rfl <| vq (Val.geq rfl rfl) <| zm rfl ?_
  apply WR.sc true 3 _ (fun w' => w = w')
  case hl | hg | hu | hv | hs | hoff | hd => rfl
  case hF => exact fun _ => rfl
  case hT =>
   intro hq6
   try simp only [tstS] at hq6
   simp only [List.take_succ_cons, List.take_zero]
   refine WR.on rfl rfl ?_
   refine zm rfl ?_
   refine WR.on rfl rfl ?_
   refine zm rfl ?_
   refine WR.on rfl rfl ?_
   refine vq (Val.leq rfl rfl) ?_
   exact WR.nil ⟨rfl, Sub.drop _ 3 _ rfl rfl, rfl⟩
  rintro _ rfl
  refine za rfl <| cnil ?_
  refine WC.ret1 rfl rfl ?_
  exact ⟨Below.refl _ _, rfl⟩

theorem between_ok {w : World} (n low high : Int) : Calls Try.prog 41 #[I n, I low, I high] w (Ret fun v w' => Below w.heap.size w w' ∧ v = .bool (decide (low ≤ n) && decide (n ≤ high))) := by
  refine enter (n := 15) (res := #[.tmp 6]) Try.func41 rfl rfl rfl rfl ?_
  refine cseq <| cg <| za rfl <| cnil <| cseq <| cg <| zm rfl <| zm rfl <| vq (Val.geq rfl rfl) ?_
  refine zm rfl ?_
  apply WR.sc true 3 _ (fun w' => w = w')
  case hl | hg | hu | hv | hs | hoff | hd => rfl
  case hF => exact fun _ => rfl
  case hT =>
   intro hq7
   try simp only [tstS] at hq7
   simp only [List.take_succ_cons, List.take_zero]
   refine WR.on rfl rfl ?_
   refine zm rfl ?_
   refine WR.on rfl rfl ?_
   refine zm rfl ?_
   refine WR.on rfl rfl ?_
   refine vq (Val.leq rfl rfl) ?_
   exact WR.nil ⟨rfl, Sub.drop _ 3 _ rfl rfl, rfl⟩
  rintro _ rfl
  refine za rfl <| cnil ?_
  refine WC.ret1 rfl rfl ?_
  exact ⟨Below.refl _ _, rfl⟩

theorem errnum_ok {w : World} (n : Int) : Calls Try.prog 20 #[I n] w (Ret fun v w' => Below w.heap.size w w' ∧ v = I n) := by
  refine enter (n := 4) (res := #[.tmp 2]) Try.func20 rfl rfl rfl rfl ?_
  refine cseq <| cg <| za rfl <| cnil <| cseq <| cg <| zm rfl <| za rfl <| cnil ?_
  refine WC.ret1 rfl rfl ?_
  exact ⟨Below.refl _ _, rfl⟩

theorem number_ok {w : World} (n : Int) : Calls Try.prog 54 #[I n] w (Ret fun v w' => Below w.heap.size w w' ∧ v = .bool (decide (0 ≤ n) && decide (n ≤ 1073741824))) := by
  refine enter (n := 9) (res := #[.tmp 2]) Try.func54 rfl rfl rfl rfl ?_
  refine cseq <| cg <| za rfl <| cnil <| cseq <| cg <| zm rfl <| vq (Val.geq rfl rfl) <| zm rfl ?_
  apply WR.sc true 2 _ (fun w' => w = w')
  case hl | hg | hu | hv | hs | hoff | hd => rfl
  case hF => exact fun _ => rfl
  case hT =>
   intro hq5
   try simp only [tstS] at hq5
   simp only [List.take_succ_cons, List.take_zero]
   refine WR.on rfl rfl ?_
   refine zm rfl ?_
   refine WR.on rfl rfl ?_
   refine vq (Val.leq rfl rfl) ?_
   exact WR.nil ⟨rfl, Sub.drop _ 2 _ rfl rfl, rfl⟩
  rintro _ rfl
  refine za rfl <| cnil ?_
  refine WC.ret1 rfl rfl ?_
  exact ⟨Below.refl _ _, rfl⟩

theorem put_ok {w : World} {base m : Nat} {v : Value} {l : List UInt8} (hown : Own w base 5 1 v m (bytesV l)) (hBw : base ≤ w.heap.size) (n size : Int) (h0 : 0 ≤ size) (h8 : size ≤ 8) (hm : m ≤ 1099511627776) :
    Calls Try.prog 66 #[v, .int .u64 n, I size] w (Ret fun v' w' => Below base w w' ∧ Own w' base 5 1 v' (m + size.toNat) (bytesV (l ++ be size.toNat n))) := by
  obtain ⟨s, rfl⟩ := Int.eq_ofNat_of_zero_le h0
  have hs : s ≤ 8 := by omega
  have hK : Below base w w := Below.refl _ _
  refine enter (n := 23) (res := #[.tmp 6]) Try.func66 rfl rfl rfl rfl ?_
  refine cseq <| cg <| za rfl <| cnil <| cseq <| cseq <| cg <| zm rfl <| vq (Val.subI rfl rfl side side) ?_
  refine za rfl <| cnil <| cblock ?_
  refine WC.loop (σ := Nat × Value) (fun st => [(0, st.2), (1, .int .u64 n), (2, I s), (7, I ((st.1 : Int) - 1))]) (fun st w' => Own w' base 5 1 st.2 (m + (s - st.1)) (bytesV (l ++ (be s n).take (s - st.1))) ∧ st.1 ≤ s ∧ Below base w w' ∧ base ≤ w'.heap.size) (fun st => st.1) (s, v) subs ⟨by simpa using hown, Nat.le_refl _, hK, hBw⟩ ?_
  rintro ⟨k, v⟩ wl ⟨ho, hk, hK, hBw⟩
  dsimp only at ho hk ⊢
  refine cseq <| cseq <| cg <| zm rfl <| vq (Val.geq rfl rfl) <| cnil ?_
  refine WC.cond rfl (fun hc2 => ?_) (fun hc2 => ?_)
  ·try simp only [tstS] at hc2
   obtain ⟨j, rfl⟩ : ∃ j, k = j + 1 := ⟨k - 1, by omega⟩
   have ej : ((j + 1 : Nat) : Int) - 1 = (j : Int) := by omega
   rw [ej]
   refine cskip <| cseq <| cblock <| cg <| zm rfl <| zm rfl <| zm rfl <| vq (Val.mulI rfl rfl side side) <| vq (Val.shr rfl rfl side (by simp [IntKind.bits] <;> omega)) ?_
   refine vq (Val.convToU8I Try.underlying94 Try.underlying5 rfl) ?_
   refine ve (Eff.build1 sl38 rfl rfl rfl rfl rfl) ?_
   rintro _ w1 ⟨b20, rfl, hn20⟩
   have hk1 := hn20.below
   replace hK := hK.upB (hk1.mono hBw); replace ho := ho.up hk1; replace hBw := Nat.le_trans hBw hk1.size
   refine ve (Eff.append sl38 rfl rfl ho (Src.cellsAt Try.underlying38 hn20.blk.cellsAt rfl ones) mxl oms hBw) ?_
   intro v21 w2 hA21
   have hk2 := hA21.belowB ho hBw
   replace hK := hK.upB hk2; replace hBw := Nat.le_trans hBw hk2.size
   replace ho := hA21.own
   have e1 : bytesV (l ++ (be s n).take (s - (j + 1))) ++ [Value.int .u8 (u8I (n / 2 ^ (8 * (j : Int)).toNat)).toNat] = bytesV (l ++ (be s n).take (s - j)) := by
     have : (8 * (j : Int)).toNat = 8 * j := by omega
     rw [be_take_step s j n hk, this, pow8]; simp [bytesV]
   rw [e1, show m + (s - (j + 1)) + 1 = m + (s - j) by omega] at ho
   refine za rfl <| cnil <| cg <| zm rfl <| vq (Val.subI rfl rfl side side) <| za rfl <| cnil ?_
   exact ⟨(j, v21), subs, ⟨ho, by omega, hK, hBw⟩, by simp⟩
  ·try simp only [tstS] at hc2
   refine WC.exit rfl ?_
   refine cseq <| cg <| zm rfl <| za rfl <| cnil ?_
   refine WC.ret1 rfl rfl ?_
   have : k = 0 := by omega
   subst this
   refine ⟨hK, ?_⟩
   rw [Nat.sub_zero, be_take_all] at ho
   simpa using ho

theorem rput_ok {w : World} {base m : Nat} {v : Value} {l : List UInt8} (hown : Own w base 5 1 v m (bytesV l)) (hBw : base ≤ w.heap.size) (n : Int) (hm : m ≤ 1099511627776) :
    Calls Try.prog 63 #[v, I n] w (Ret fun v' w' => Below base w w' ∧ Own w' base 5 1 v' (m + 4) (bytesV (l ++ be 4 n))) := by
  have h1 : 0 ≤ n % 4294967296 := Int.emod_nonneg _ (by decide)
  have h2 : n % 4294967296 < 4294967296 := Int.emod_lt_of_pos _ (by decide)
  have e1 : be 4 (n % 4294967296) = be 4 n := be_congr 4 _ _ (by show n % 4294967296 % 4294967296 = n % 4294967296; exact Int.emod_emod_of_dvd _ ⟨1, rfl⟩)
  refine enter (n := 10) (res := #[.tmp 4]) Try.func63 rfl rfl rfl rfl ?_
  refine cseq <| cg <| za rfl <| cnil <| cseq <| cg <| zm rfl <| zm rfl <| vq (Val.convToU32 Try.underlying3 Try.underlying103 rfl) ?_
  refine vq (Val.convToU64 Try.underlying103 Try.underlying94 rfl side side) ?_
  refine ve (Eff.call pf66 rfl (put_ok hown hBw (n % 4294967296) 4 (by decide) (by decide) hm)) ?_
  rintro v9 w1 ⟨hk, ho⟩
  refine za rfl <| cnil ?_
  refine WC.ret1 rfl rfl ?_
  rw [← e1]
  exact ⟨hk, ho⟩

theorem number_ok' {w : World} (l : List UInt8) (hl : l.length ≤ 7) :
    Calls Try.prog 75 #[St l] w (Ret fun v' w' => Below w.heap.size w w' ∧ v' = .int .u64 (beNat l : Nat)) := by
  refine enter (n := 18) (res := #[.tmp 2]) Try.func75 rfl rfl rfl rfl ?_
  refine cseq <| cg <| za rfl <| cnil <| cseq <| cseq <| cg <| zm rfl <| vq (Val.slen Try.underlying9 rfl) ?_
  refine zm rfl <| cnil <| cblock ?_
  refine WC.loop (σ := Nat) (fun k => [(0, St l), (5, I l.length), (6, I k), (2, .int .u64 (beNat (l.take k) : Nat))]) (fun k w' => k ≤ l.length ∧ w' = w) (fun k => l.length - k) 0 subs ⟨by omega, rfl⟩ ?_
  rintro k wl ⟨hk, rfl⟩
  refine cseq <| cg <| vq (Val.lss rfl rfl) <| cnil <| cseq ?_
  refine WC.cond rfl (fun hc2 => ?_) (fun hc2 => ?_)
  ·try simp only [tstS] at hc2
   have hkl : k < l.length := by omega
   have hlt := beNat_lt (l.take k)
   have hlt2 : beNat (l.take k) < 72057594037927936 := by
     rw [take_len hk] at hlt
     have : 256 ^ k ≤ 256 ^ 7 := Nat.pow_le_pow_right (by decide) (by omega)
     omega
   refine cskip <| cseq <| cblock <| cseq <| cg <| zm rfl <| za rfl <| cnil <| cg ?_
   refine zm rfl <| vq (Val.shl8_u64 rfl rfl hlt2) <| zm rfl <| zm rfl <| vq (Val.sindex Try.underlying9 rfl rfl (by omega) (List.getElem?_eq_getElem hkl)) <| vq (Val.convU8u64 Try.underlying5 Try.underlying94 rfl) <| vq (Val.or256_u64 rfl rfl hlt2 l[k].toNat_lt) <| za rfl <| cnil ?_
   refine cg <| vq (Val.addI rfl rfl side side) <| zm rfl <| cnil ?_
   have e1 : beNat (l.take (k + 1)) = beNat (l.take k) * 256 + l[k].toNat := by rw [List.take_succ_eq_append_getElem hkl, beNat_snoc]
   refine ⟨k + 1, ?_, ⟨hkl, rfl⟩, by omega⟩
   rw [e1]
   repeat (first | exact Sub.nil _ | refine Sub.cons rfl ?_ | refine Sub.consM rfl ?_)
  ·try simp only [tstS] at hc2
   refine WC.exit rfl ?_
   refine cseq <| cg <| zm rfl <| za rfl <| cnil ?_
   refine WC.ret1 rfl rfl ?_
   exact ⟨Below.refl _ _, by rw [List.take_of_length_le (by omega)]⟩

end Go.Proofs.Ythlfolpcmcejkaa

namespace Go.Proofs.Ythlfolpcmcejkaa
open Go Go.Eng Go.RowKit Silo TryT

theorem extSlotList {p q : Int × Int} : (p.1 = q.1 ∧ p.2 = q.2) ↔ p = q := ⟨fun h => Prod.ext h.1 h.2, fun h => by rw [h]; exact ⟨rfl, rfl⟩⟩

theorem copyNumbers_ok {w : World} {v : Value} {l : List Int} (h1 : Rd intS w v l) (hl : l.length ≤ 1048576) :
    Calls Try.prog 39 #[v] w (Ret fun v' w' => Below w.heap.size w w' ∧ Own w' w.heap.size 3 1 v' l.length (l.flatMap fun x => [I x])) := by
  obtain ⟨B, hB⟩ : ∃ B, B = w.heap.size := ⟨_, rfl⟩
  have hBw : B ≤ w.heap.size := Nat.le_of_eq hB
  have hK : Below B w w := Below.refl _ _
  unfold Rd at h1
  rw [← hB] at h1 ⊢
  refine enter (n := 19) (res := #[.tmp 2]) Try.func39 rfl rfl rfl rfl ?_
  refine cseq <| cg <| za rfl <| cnil <| cseq <| cg <| za rfl <| cnil <| cseq ?_
  refine cseq <| cg <| za rfl <| cnil <| cblock ?_
  refine WC.loop (σ := Nat × Value) (fun st => [(0, v), (3, st.2), (4, I st.1)]) (fun st w' => RdS intS B w' v l ∧ Below B w w' ∧ B ≤ w'.heap.size ∧ st.1 ≤ l.length ∧ Own w' B 3 1 st.2 st.1 ((l.take st.1).flatMap fun x => [I x])) (fun st => l.length - st.1) (0, .slice none 0 0) subs ⟨h1, hK, hBw, by simp, Own.nil _ _ _ _⟩ ?_
  rintro ⟨k, vm⟩ wl ⟨h1, hK, hBw, hk, ho⟩
  dsimp only at hk ho ⊢
  refine cseq <| cseq <| cg <| zm rfl <| zm rfl ?_
  first | refine vq (Val.rdlen sl24 (by assumption) rfl) ?_ | refine vq (Val.sllen Try.underlying24 rfl) ?_
  refine vq (Val.lss rfl rfl) <| cnil ?_
  refine WC.cond rfl (fun hc3 => ?_) (fun hc3 => ?_)
  ·try simp only [tstS] at hc3
   have ka : k < l.length := by omega
   obtain ⟨cs1, hc14, rfl, ok1⟩ := h1.elB ka
   replace hc14 := hc14.toCel hBw
   refine cskip <| cseq <| cblock <| cg <| zm rfl <| zm rfl <| zm rfl <| vq (Val.indexAddr sl24 (by assumption) rfl rfl rfl side side) <| vq (Val.loadE1 scl3 rfl hc14) ?_
   refine ve (Eff.build1 sl24 rfl rfl rfl rfl rfl) ?_
   rintro _ w1 ⟨b16, rfl, hn16⟩
   have hk1 := hn16.below
   replace h1 := h1.upB (hk1.mono hBw); replace hK := hK.upB (hk1.mono hBw); replace ho := ho.up hk1; replace hBw := Nat.le_trans hBw hk1.size
   refine ve (Eff.append sl24 rfl rfl ho (Src.cellsAt Try.underlying24 hn16.blk.cellsAt rfl ones) mxl oms hBw) ?_
   intro v17 w2 hA17
   have hk2 := hA17.belowB ho hBw
   replace h1 := h1.upB hk2; replace hK := hK.upB hk2; replace hBw := Nat.le_trans hBw hk2.size
   replace ho := hA17.own
   refine za rfl <| cnil <| cg <| zm rfl <| vq (Val.addI rfl rfl side side) <| za rfl <| cnil ?_
   exact ⟨(k + 1, v17), subs, ⟨h1, hK, hBw, ka, by rw [take_succ_flatMap _ ka]; exact ho⟩, by simp; omega⟩
  ·try simp only [tstS] at hc3
   refine WC.exit rfl ?_
   refine cseq <| cg <| zm rfl <| za rfl <| cnil ?_
   refine WC.ret1 rfl rfl ?_
   exact ⟨hK, by
     have : k = l.length := by omega
     subst this
     rwa [List.take_of_length_le (Nat.le_refl _)] at ho⟩

theorem copyStrings_ok {w : World} {v : Value} {l : List (List UInt8)} (h1 : Rd strS w v l) (hl : l.length ≤ 1048576) :
    Calls Try.prog 15 #[v] w (Ret fun v' w' => Below w.heap.size w w' ∧ Own w' w.heap.size 9 1 v' l.length (l.flatMap fun x => [St x])) := by
  obtain ⟨B, hB⟩ : ∃ B, B = w.heap.size := ⟨_, rfl⟩
  have hBw : B ≤ w.heap.size := Nat.le_of_eq hB
  have hK : Below B w w := Below.refl _ _
  unfold Rd at h1
  rw [← hB] at h1 ⊢
  refine enter (n := 19) (res := #[.tmp 2]) Try.func15 rfl rfl rfl rfl ?_
  refine cseq <| cg <| za rfl <| cnil <| cseq <| cg <| za rfl <| cnil <| cseq ?_
  refine cseq <| cg <| za rfl <| cnil <| cblock ?_
  refine WC.loop (σ := Nat × Value) (fun st => [(0, v), (3, st.2), (4, I st.1)]) (fun st w' => RdS strS B w' v l ∧ Below B w w' ∧ B ≤ w'.heap.size ∧ st.1 ≤ l.length ∧ Own w' B 9 1 st.2 st.1 ((l.take st.1).flatMap fun x => [St x])) (fun st => l.length - st.1) (0, .slice none 0 0) subs ⟨h1, hK, hBw, by simp, Own.nil _ _ _ _⟩ ?_
  rintro ⟨k, vm⟩ wl ⟨h1, hK, hBw, hk, ho⟩
  dsimp only at hk ho ⊢
  refine cseq <| cseq <| cg <| zm rfl <| zm rfl ?_
  first | refine vq (Val.rdlen sl23 (by assumption) rfl) ?_ | refine vq (Val.sllen Try.underlying23 rfl) ?_
  refine vq (Val.lss rfl rfl) <| cnil ?_
  refine WC.cond rfl (fun hc3 => ?_) (fun hc3 => ?_)
  ·try simp only [tstS] at hc3
   have ka : k < l.length := by omega
   obtain ⟨cs1, hc14, rfl, ok1⟩ := h1.elB ka
   replace hc14 := hc14.toCel hBw
   refine cskip <| cseq <| cblock <| cg <| zm rfl <| zm rfl <| zm rfl <| vq (Val.indexAddr sl23 (by assumption) rfl rfl rfl side side) <| vq (Val.loadE1 scl9 rfl hc14) ?_
   refine ve (Eff.build1 sl23 rfl rfl rfl rfl rfl) ?_
   rintro _ w1 ⟨b16, rfl, hn16⟩
   have hk1 := hn16.below
   replace h1 := h1.upB (hk1.mono hBw); replace hK := hK.upB (hk1.mono hBw); replace ho := ho.up hk1; replace hBw := Nat.le_trans hBw hk1.size
   refine ve (Eff.append sl23 rfl rfl ho (Src.cellsAt Try.underlying23 hn16.blk.cellsAt rfl ones) mxl oms hBw) ?_
   intro v17 w2 hA17
   have hk2 := hA17.belowB ho hBw
   replace h1 := h1.upB hk2; replace hK := hK.upB hk2; replace hBw := Nat.le_trans hBw hk2.size
   replace ho := hA17.own
   refine za rfl <| cnil <| cg <| zm rfl <| vq (Val.addI rfl rfl side side) <| za rfl <| cnil ?_
   exact ⟨(k + 1, v17), subs, ⟨h1, hK, hBw, ka, by rw [take_succ_flatMap _ ka]; exact ho⟩, by simp; omega⟩
  ·try simp only [tstS] at hc3
   refine WC.exit rfl ?_
   refine cseq <| cg <| zm rfl <| za rfl <| cnil ?_
   refine WC.ret1 rfl rfl ?_
   exact ⟨hK, by
     have : k = l.length := by omega
     subst this
     rwa [List.take_of_length_le (Nat.le_refl _)] at ho⟩

theorem copySlotList_ok {w : World} {v : Value} {l : List (Int × Int)} (h1 : Rd slotS w v l) (hl : l.length ≤ 1048576) :
    Calls Try.prog 40 #[v] w (Ret fun v' w' => Below w.heap.size w w' ∧ Own w' w.heap.size 66 2 v' l.length (l.flatMap fun x => [I x.1, I x.2])) := by
  obtain ⟨B, hB⟩ : ∃ B, B = w.heap.size := ⟨_, rfl⟩
  have hBw : B ≤ w.heap.size := Nat.le_of_eq hB
  have hK : Below B w w := Below.refl _ _
  unfold Rd at h1
  rw [← hB] at h1 ⊢
  refine enter (n := 19) (res := #[.tmp 2]) Try.func40 rfl rfl rfl rfl ?_
  refine cseq <| cg <| za rfl <| cnil <| cseq <| cg <| za rfl <| cnil <| cseq ?_
  refine cseq <| cg <| za rfl <| cnil <| cblock ?_
  refine WC.loop (σ := Nat × Value) (fun st => [(0, v), (3, st.2), (4, I st.1)]) (fun st w' => RdS slotS B w' v l ∧ Below B w w' ∧ B ≤ w'.heap.size ∧ st.1 ≤ l.length ∧ Own w' B 66 2 st.2 st.1 ((l.take st.1).flatMap fun x => [I x.1, I x.2])) (fun st => l.length - st.1) (0, .slice none 0 0) subs ⟨h1, hK, hBw, by simp, Own.nil _ _ _ _⟩ ?_
  rintro ⟨k, vm⟩ wl ⟨h1, hK, hBw, hk, ho⟩
  dsimp only at hk ho ⊢
  refine cseq <| cseq <| cg <| zm rfl <| zm rfl ?_
  first | refine vq (Val.rdlen sl29 (by assumption) rfl) ?_ | refine vq (Val.sllen Try.underlying29 rfl) ?_
  refine vq (Val.lss rfl rfl) <| cnil ?_
  refine WC.cond rfl (fun hc3 => ?_) (fun hc3 => ?_)
  ·try simp only [tstS] at hc3
   have ka : k < l.length := by omega
   obtain ⟨cs1, hc14, rfl, ok1⟩ := h1.elB ka
   replace hc14 := hc14.toCel hBw
   refine cskip <| cseq <| cblock <| cg <| zm rfl <| zm rfl <| zm rfl <| vq (Val.indexAddr sl29 (by assumption) rfl rfl rfl side side) <| vq (Val.loadE agg66 rfl hc14 rfl) ?_
   refine ve (Eff.build1 sl29 rfl rfl rfl rfl rfl) ?_
   rintro _ w1 ⟨b16, rfl, hn16⟩
   have hk1 := hn16.below
   replace h1 := h1.upB (hk1.mono hBw); replace hK := hK.upB (hk1.mono hBw); replace ho := ho.up hk1; replace hBw := Nat.le_trans hBw hk1.size
   refine ve (Eff.append sl29 rfl rfl ho (Src.cellsAt Try.underlying29 hn16.blk.cellsAt rfl ones) mxl oms hBw) ?_
   intro v17 w2 hA17
   have hk2 := hA17.belowB ho hBw
   replace h1 := h1.upB hk2; replace hK := hK.upB hk2; replace hBw := Nat.le_trans hBw hk2.size
   replace ho := hA17.own
   refine za rfl <| cnil <| cg <| zm rfl <| vq (Val.addI rfl rfl side side) <| za rfl <| cnil ?_
   exact ⟨(k + 1, v17), subs, ⟨h1, hK, hBw, ka, by rw [take_succ_flatMap _ ka]; exact ho⟩, by simp; omega⟩
  ·try simp only [tstS] at hc3
   refine WC.exit rfl ?_
   refine cseq <| cg <| zm rfl <| za rfl <| cnil ?_
   refine WC.ret1 rfl rfl ?_
   exact ⟨hK, by
     have : k = l.length := by omega
     subst this
     rwa [List.take_of_length_le (Nat.le_refl _)] at ho⟩

theorem eqNumbers_ok {w : World} {v1 v2 : Value} {a b : List Int} (h1 : Rd intS w v1 a) (h2 : Rd intS w v2 b) :
    Calls Try.prog 48 #[v1, v2] w (Ret fun v w' => Below w.heap.size w w' ∧ v = .bool (decide (a = b))) := by
  have hK : Old w w := Old.refl w
  have la := h1.lenN
  refine enter (n := 26) (res := #[.tmp 4]) Try.func48 rfl rfl rfl rfl ?_
  refine cseq <| cg <| za rfl <| cnil <| cseq <| cseq <| cg <| zm rfl ?_
  first | refine vq (Val.rdlen sl24 (by assumption) rfl) ?_ | refine vq (Val.sllen Try.underlying24 rfl) ?_
  refine zm rfl ?_
  first | refine vq (Val.rdlen sl24 (by assumption) rfl) ?_ | refine vq (Val.sllen Try.underlying24 rfl) ?_
  refine vq (Val.neq rfl rfl) <| cnil ?_
  refine WC.cond rfl (fun hc1 => ?_) (fun hc1 => ?_)
  ·try simp only [tstS] at hc1
   have : a ≠ b := fun e => by subst e; omega
   refine cseq <| cg <| za rfl <| cnil ?_
   refine WC.ret1 rfl rfl ?_
   exact ⟨hK, by simp [this]⟩
  ·try simp only [tstS] at hc1
   refine cskip <| cseq <| cseq <| cg <| za rfl <| cnil <| cblock ?_
   refine WC.loop (σ := Nat) (fun k => [(0, v1), (1, v2), (5, I k)]) (fun k w' => Rd intS w' v1 a ∧ Rd intS w' v2 b ∧ Old w w' ∧ k ≤ a.length ∧ a.take k = b.take k) (fun k => a.length - k) 0 subs ⟨h1, h2, hK, by omega, rfl⟩ ?_
   rintro k wl ⟨h1, h2, hK, hk, he⟩
   have hln : a.length = b.length := by omega
   refine cseq <| cseq <| cg <| zm rfl <| zm rfl ?_
   first | refine vq (Val.rdlen sl24 (by assumption) rfl) ?_ | refine vq (Val.sllen Try.underlying24 rfl) ?_
   refine vq (Val.lss rfl rfl) <| cnil ?_
   refine WC.cond rfl (fun hc4 => ?_) (fun hc4 => ?_)
   ·try simp only [tstS] at hc4
    have ka : k < a.length := by omega
    have kb : k < b.length := by omega
    obtain ⟨cs1, hc19, rfl, ok1⟩ := h1.el ka
    obtain ⟨cs2, hc23, rfl, ok2⟩ := h2.el kb
    refine cskip <| cseq <| cblock <| cseq ?_
    refine WC.regionD (Below wl.heap.size wl) [0, 0, 0, 1, 0, 0, 0, 1, 0] [0, 1, 2, 3, 4, 5, 6, 7, 8] mixed (by kernel_rfl) ?_
    have hk1 : Below wl.heap.size wl wl.drew := (Below.refl _ _).drew
    have hCw : Below wl.heap.size wl wl.drew := (Below.refl _ _).drew
    generalize wl.drew = w1 at hk1 hCw ⊢
    replace h1 := h1.up hk1; replace h2 := h2.up hk1; replace hK := hK.up hk1
    refine zdm rfl rfl <| zdm rfl rfl <| vd rfl (fun _ => Val.indexAddr sl24 (by assumption) rfl rfl rfl side side) <| qc rfl rfl rfl hCw (fun W hW => Val.loadE1 scl3 rfl (hc19.up hW)) rfl <| zdm rfl rfl <| zdm rfl rfl <| vd rfl (fun _ => Val.indexAddr sl24 (by assumption) rfl rfl rfl side side) <| qc rfl rfl rfl hCw (fun W hW => Val.loadE1 scl3 rfl (hc23.up hW)) rfl <| vd rfl (fun _ => Val.neq rfl rfl) ?_
    refine WD.nil ?_
    clear hCw
    refine WC.cond rfl (fun hc6 => ?_) (fun hc6 => ?_)
    ·try simp only [tstS] at hc6
     replace hc6 : a[k] ≠ b[k] := by simpa using hc6
     refine cseq <| cg <| za rfl <| cnil ?_
     refine WC.ret1 rfl rfl ?_
     exact ⟨hK, by simp [take_ne ka kb hc6]⟩
    ·try simp only [tstS] at hc6
     replace hc6 : a[k] = b[k] := by simpa using hc6
     refine cskip <| cg <| zm rfl <| vq (Val.addI rfl rfl side side) <| za rfl <| cnil ?_
     exact ⟨k + 1, subs, ⟨h1, h2, hK, ka, take_step ka kb he hc6⟩, by omega⟩
   ·try simp only [tstS] at hc4
    refine WC.exit rfl ?_
    refine cseq <| cg <| za rfl <| cnil ?_
    refine WC.ret1 rfl rfl ?_
    exact ⟨hK, by simp [take_all he (by omega) (by omega)]⟩

theorem eqSlotList_ok {w : World} {v1 v2 : Value} {a b : List (Int × Int)} (h1 : Rd slotS w v1 a) (h2 : Rd slotS w v2 b) :
    Calls Try.prog 49 #[v1, v2] w (Ret fun v w' => Below w.heap.size w w' ∧ v = .bool (decide (a = b))) := by
  have hK : Old w w := Old.refl w
  have la := h1.lenN
  refine enter (n := 26) (res := #[.tmp 4]) Try.func49 rfl rfl rfl rfl ?_
  refine cseq <| cg <| za rfl <| cnil <| cseq <| cseq <| cg <| zm rfl ?_
  first | refine vq (Val.rdlen sl29 (by assumption) rfl) ?_ | refine vq (Val.sllen Try.underlying29 rfl) ?_
  refine zm rfl ?_
  first | refine vq (Val.rdlen sl29 (by assumption) rfl) ?_ | refine vq (Val.sllen Try.underlying29 rfl) ?_
  refine vq (Val.neq rfl rfl) <| cnil ?_
  refine WC.cond rfl (fun hc1 => ?_) (fun hc1 => ?_)
  ·try simp only [tstS] at hc1
   have : a ≠ b := fun e => by subst e; omega
   refine cseq <| cg <| za rfl <| cnil ?_
   refine WC.ret1 rfl rfl ?_
   exact ⟨hK, by simp [this]⟩
  ·try simp only [tstS] at hc1
   refine cskip <| cseq <| cseq <| cg <| za rfl <| cnil <| cblock ?_
   refine WC.loop (σ := Nat) (fun k => [(0, v1), (1, v2), (5, I k)]) (fun k w' => Rd slotS w' v1 a ∧ Rd slotS w' v2 b ∧ Old w w' ∧ k ≤ a.length ∧ a.take k = b.take k) (fun k => a.length - k) 0 subs ⟨h1, h2, hK, by omega, rfl⟩ ?_
   rintro k wl ⟨h1, h2, hK, hk, he⟩
   have hln : a.length = b.length := by omega
   refine cseq <| cseq <| cg <| zm rfl <| zm rfl ?_
   first | refine vq (Val.rdlen sl29 (by assumption) rfl) ?_ | refine vq (Val.sllen Try.underlying29 rfl) ?_
   refine vq (Val.lss rfl rfl) <| cnil ?_
   refine WC.cond rfl (fun hc4 => ?_) (fun hc4 => ?_)
   ·try simp only [tstS] at hc4
    have ka : k < a.length := by omega
    have kb : k < b.length := by omega
    obtain ⟨cs1, hc19, rfl, ok1⟩ := h1.el ka
    obtain ⟨cs2, hc23, rfl, ok2⟩ := h2.el kb
    refine cskip <| cseq <| cblock <| cseq ?_
    refine WC.regionD (Below wl.heap.size wl) [0, 0, 0, 1, 0, 0, 0, 1, 0] [0, 1, 2, 3, 4, 5, 6, 7, 8] mixed (by kernel_rfl) ?_
    have hk1 : Below wl.heap.size wl wl.drew := (Below.refl _ _).drew
    have hCw : Below wl.heap.size wl wl.drew := (Below.refl _ _).drew
    generalize wl.drew = w1 at hk1 hCw ⊢
    replace h1 := h1.up hk1; replace h2 := h2.up hk1; replace hK := hK.up hk1
    refine zdm rfl rfl <| zdm rfl rfl <| vd rfl (fun _ => Val.indexAddr sl29 (by assumption) rfl rfl rfl side side) <| qc rfl rfl rfl hCw (fun W hW => Val.loadE agg66 rfl (hc19.up hW) rfl) rfl <| zdm rfl rfl <| zdm rfl rfl <| vd rfl (fun _ => Val.indexAddr sl29 (by assumption) rfl rfl rfl side side) <| qc rfl rfl rfl hCw (fun W hW => Val.loadE agg66 rfl (hc23.up hW) rfl) rfl <| vd rfl (fun _ => Val.stne flat66 rfl rfl rfl (by simp [sameKinds])) ?_
    refine WD.nil ?_
    clear hCw
    refine WC.cond rfl (fun hc6 => ?_) (fun hc6 => ?_)
    ·try simp only [tstS] at hc6
     replace hc6 : a[k] ≠ b[k] := by intro e; simp [e, cellsEq, cellEq] at hc6
     refine cseq <| cg <| za rfl <| cnil ?_
     refine WC.ret1 rfl rfl ?_
     exact ⟨hK, by simp [take_ne ka kb hc6]⟩
    ·try simp only [tstS] at hc6
     replace hc6 : a[k] = b[k] := by simpa [cellsEq, cellEq, toList_mk, extSlotList] using hc6
     refine cskip <| cg <| zm rfl <| vq (Val.addI rfl rfl side side) <| za rfl <| cnil ?_
     exact ⟨k + 1, subs, ⟨h1, h2, hK, ka, take_step ka kb he hc6⟩, by omega⟩
   ·try simp only [tstS] at hc4
    refine WC.exit rfl ?_
    refine cseq <| cg <| za rfl <| cnil ?_
    refine WC.ret1 rfl rfl ?_
    exact ⟨hK, by simp [take_all he (by omega) (by omega)]⟩

theorem within_ok {w : World} (i n : Int) (hi : Go.Eng.Int64 i) (h0 : 0 < n) (h1 : n ≤ 9223372036854775807) : Calls Try.prog 27 #[I i, I n] w (Ret fun v w' => Below w.heap.size w w' ∧ v = I (within i n)) := by
  have e1 : IntKind.u64.wrap i = i % 18446744073709551616 := by simp [IntKind.wrap, IntKind.signed, IntKind.bits]
  have e2 : 0 ≤ i % 18446744073709551616 := Int.emod_nonneg _ (by decide)
  have e3 := within_lo i n h0
  have e4 := within_hi i n h0
  refine enter (n := 11) (res := #[.tmp 4]) Try.func27 rfl rfl rfl rfl ?_
  refine cseq <| cg <| za rfl <| cnil <| cseq <| cg <| zm rfl <| vq (Val.convInt Try.underlying3 Try.underlying79 rfl) <| zm rfl ?_
  refine vq (Val.convToU64 Try.underlying3 Try.underlying79 rfl side side) <| vq (Val.rem rfl rfl (by omega)) ?_
  have e5 : (IntKind.u64.wrap i).tmod n = within i n := by rw [e1, Int.tmod_eq_emod_of_nonneg e2]; rfl
  rw [e5]
  refine vq (Val.convTo64 Try.underlying79 Try.underlying3 rfl (by omega) (by omega)) <| za rfl <| cnil ?_
  refine WC.ret1 rfl rfl ?_
  exact ⟨Below.refl _ _, rfl⟩

theorem eqRecord_ok {w : World} {ca cb : List Value} {a b : Rec} (h1 : RdRec w ca a) (h2 : RdRec w cb b) :
    Calls Try.prog 22 #[.agg ca.toArray, .agg cb.toArray] w (Ret fun v w' => Below w.heap.size w w' ∧ v = .bool (decide (a = b))) := by
  obtain ⟨vl1, vs1, rfl, hl1, hs1, _⟩ := h1
  obtain ⟨vl2, vs2, rfl, hl2, hs2, _⟩ := h2
  have hK : Old w w := Old.refl w
  refine enter (n := 45) (res := #[.tmp 4]) Try.func22 rfl rfl rfl rfl ?_
  refine cseq <| cg ?_
  refine ve (Eff.box rfl) ?_
  rintro _ w1 ⟨b2, rfl, hn2⟩
  have hk1 := hn2.below
  replace hl1 := hl1.up hk1; replace hs1 := hs1.up hk1; replace hl2 := hl2.up hk1; replace hs2 := hs2.up hk1; replace hK := hK.up hk1
  have hb2 := hn2.blk
  refine ve (Eff.box rfl) ?_
  rintro _ w2 ⟨b3, rfl, hn3⟩
  have hk2 := hn3.below
  replace hl1 := hl1.up hk2; replace hs1 := hs1.up hk2; replace hl2 := hl2.up hk2; replace hs2 := hs2.up hk2; replace hK := hK.up hk2; replace hb2 := hb2.up hk2
  have hb3 := hn3.blk
  refine za rfl <| cnil <| cseq <| cg <| vq (Val.fieldAddr fld31_0 rfl) <| vq (Val.loadB scl3 rfl hb2 rfl) <| vq (Val.fieldAddr fld31_0 rfl) <| vq (Val.loadB scl3 rfl hb3 rfl) <| vq (Val.eql rfl rfl) ?_
  refine zm rfl ?_
  apply WR.sc true 5 _ (fun w' => w2 = w')
  case hl | hg | hu | hv | hs | hoff | hd => rfl
  case hF => exact fun _ => rfl
  case hT =>
   intro hq11
   try simp only [tstS] at hq11
   simp only [List.take_succ_cons, List.take_zero]
   refine WR.on rfl rfl ?_
   refine vq (Val.fieldAddr fld31_1 rfl) ?_
   refine WR.on rfl rfl ?_
   refine vq (Val.loadB scl3 rfl hb2 rfl) ?_
   refine WR.on rfl rfl ?_
   refine vq (Val.fieldAddr fld31_1 rfl) ?_
   refine WR.on rfl rfl ?_
   refine vq (Val.loadB scl3 rfl hb3 rfl) ?_
   refine WR.on rfl rfl ?_
   refine vq (Val.eql rfl rfl) ?_
   exact WR.nil ⟨rfl, Sub.drop _ 5 _ rfl rfl, rfl⟩
  rintro _ rfl
  refine zm rfl ?_
  apply WR.sc true 5 _ (fun w' => w2 = w')
  case hl | hg | hu | hv | hs | hoff | hd => rfl
  case hF => exact fun _ => rfl
  case hT =>
   intro hq18
   try simp only [tstS] at hq18
   simp only [List.take_succ_cons, List.take_zero]
   refine WR.on rfl rfl ?_
   refine vq (Val.fieldAddr fld31_2 rfl) ?_
   refine WR.on rfl rfl ?_
   refine vq (Val.loadB scl9 rfl hb2 rfl) ?_
   refine WR.on rfl rfl ?_
   refine vq (Val.fieldAddr fld31_2 rfl) ?_
   refine WR.on rfl rfl ?_
   refine vq (Val.loadB scl9 rfl hb3 rfl) ?_
   refine WR.on rfl rfl ?_
   refine vq (Val.seq_ rfl rfl) ?_
   exact WR.nil ⟨rfl, Sub.drop _ 5 _ rfl rfl, rfl⟩
  rintro _ rfl
  refine zm rfl ?_
  apply WR.sc true 5 _ (fun w' => w2 = w')
  case hl | hg | hu | hv | hs | hoff | hd => rfl
  case hF => exact fun _ => rfl
  case hT =>
   intro hq25
   try simp only [tstS] at hq25
   simp only [List.take_succ_cons, List.take_zero]
   refine WR.on rfl rfl ?_
   refine vq (Val.fieldAddr fld31_3 rfl) ?_
   refine WR.on rfl rfl ?_
   refine vq (Val.loadB scl9 rfl hb2 rfl) ?_
   refine WR.on rfl rfl ?_
   refine vq (Val.fieldAddr fld31_3 rfl) ?_
   refine WR.on rfl rfl ?_
   refine vq (Val.loadB scl9 rfl hb3 rfl) ?_
   refine WR.on rfl rfl ?_
   refine vq (Val.seq_ rfl rfl) ?_
   exact WR.nil ⟨rfl, Sub.drop _ 5 _ rfl rfl, rfl⟩
  rintro _ rfl
  refine zm rfl ?_
  apply WR.sc true 5 (decide (a.list = b.list)) (fun w' => Below w2.heap.size w2 w')
  case hl | hg | hu | hv | hs | hoff | hd => rfl
  case hF => exact fun _ => Below.refl _ _
  case hT =>
   intro hq32
   try simp only [tstS] at hq32
   simp only [List.take_succ_cons, List.take_zero]
   have hKsc32 : Old w2 w2 := Old.refl _
   refine WR.on rfl rfl ?_
   refine vq (Val.fieldAddr fld31_4 rfl) ?_
   refine WR.on rfl rfl ?_
   refine vq (Val.loadB scl24 rfl hb2 rfl) ?_
   refine WR.on rfl rfl ?_
   refine vq (Val.fieldAddr fld31_4 rfl) ?_
   refine WR.on rfl rfl ?_
   refine vq (Val.loadB scl24 rfl hb3 rfl) ?_
   refine WR.on rfl rfl ?_
   refine ve (Eff.call pf48 rfl (eqNumbers_ok hl1 hl2)) ?_
   rintro v36 w3 ⟨hk3, rfl⟩
   replace hl1 := hl1.up hk3; replace hs1 := hs1.up hk3; replace hl2 := hl2.up hk3; replace hs2 := hs2.up hk3; replace hK := hK.up hk3; replace hb2 := hb2.up hk3; replace hb3 := hb3.up hk3; replace hKsc32 := hKsc32.up hk3
   exact WR.nil ⟨rfl, Sub.drop _ 5 _ rfl rfl, hKsc32⟩
  intro w4 hk4
  replace hl1 := hl1.up hk4; replace hs1 := hs1.up hk4; replace hl2 := hl2.up hk4; replace hs2 := hs2.up hk4; replace hK := hK.up hk4; replace hb2 := hb2.up hk4; replace hb3 := hb3.up hk4
  refine zm rfl ?_
  apply WR.sc true 5 (decide (a.slots = b.slots)) (fun w' => Below w4.heap.size w4 w')
  case hl | hg | hu | hv | hs | hoff | hd => rfl
  case hF => exact fun _ => Below.refl _ _
  case hT =>
   intro hq39
   try simp only [tstS] at hq39
   simp only [List.take_succ_cons, List.take_zero]
   have hKsc39 : Old w4 w4 := Old.refl _
   refine WR.on rfl rfl ?_
   refine vq (Val.fieldAddr fld31_5 rfl) ?_
   refine WR.on rfl rfl ?_
   refine vq (Val.loadB scl29 rfl hb2 rfl) ?_
   refine WR.on rfl rfl ?_
   refine vq (Val.fieldAddr fld31_5 rfl) ?_
   refine WR.on rfl rfl ?_
   refine vq (Val.loadB scl29 rfl hb3 rfl) ?_
   refine WR.on rfl rfl ?_
   refine ve (Eff.call pf49 rfl (eqSlotList_ok hs1 hs2)) ?_
   rintro v43 w5 ⟨hk5, rfl⟩
   replace hl1 := hl1.up hk5; replace hs1 := hs1.up hk5; replace hl2 := hl2.up hk5; replace hs2 := hs2.up hk5; replace hK := hK.up hk5; replace hb2 := hb2.up hk5; replace hb3 := hb3.up hk5; replace hKsc39 := hKsc39.up hk5
   exact WR.nil ⟨rfl, Sub.drop _ 5 _ rfl rfl, hKsc39⟩
  intro w6 hk6
  replace hl1 := hl1.up hk6; replace hs1 := hs1.up hk6; replace hl2 := hl2.up hk6; replace hs2 := hs2.up hk6; replace hK := hK.up hk6; replace hb2 := hb2.up hk6; replace hb3 := hb3.up hk6
  refine za rfl <| cnil ?_
  refine WC.ret1 rfl rfl ?_
  exact ⟨hK, by congr 1; rw [Bool.eq_iff_iff]; cases a; cases b; simp [and_assoc]⟩

theorem copyRecord_ok {w : World} {ca : List Value} {a : Rec} (h1 : RdRec w ca a) (hn : a.list.length ≤ 1048576) (hm : a.slots.length ≤ 1048576) :
    Calls Try.prog 16 #[.agg ca.toArray] w (Ret fun v w' => Below w.heap.size w w' ∧ ∃ cs, v = .agg cs.toArray ∧ RdRec w' cs a) := by
  obtain ⟨vl, vs, rfl, hl, hs, hq⟩ := h1
  have o1 := hl.oneC
  have o2 := hs.oneC
  obtain ⟨B, hB⟩ : ∃ B, B = w.heap.size := ⟨_, rfl⟩
  have hBw : B ≤ w.heap.size := Nat.le_of_eq hB
  have hK : Below B w w := Below.refl _ _
  rw [← hB] at hl hs ⊢
  refine enter (n := 14) (res := #[.cell 2 31]) Try.func16 rfl rfl rfl rfl ?_
  refine cseq <| cg ?_
  refine ve (Eff.box rfl) ?_
  rintro _ w1 ⟨b1, rfl, hn1⟩
  have hk1 := hn1.below
  have hge1 : B ≤ b1 := by rw [hn1.at_]; exact hBw
  replace hl := hl.upB (hk1.mono hBw); replace hs := hs.upB (hk1.mono hBw); replace hK := hK.upB (hk1.mono hBw); replace hBw := Nat.le_trans hBw hk1.size
  have hb1 := hn1.blk
  refine ve (Eff.alloc zero31) ?_
  rintro _ w2 ⟨b2, rfl, hn2⟩
  have hk2 := hn2.below
  have hge2 : B ≤ b2 := by rw [hn2.at_]; exact hBw
  have hne2_b1 : b1 ≠ b2 := by have := hb1.lt; have := hn2.at_; omega
  replace hl := hl.upB (hk2.mono hBw); replace hs := hs.upB (hk2.mono hBw); replace hK := hK.upB (hk2.mono hBw); replace hb1 := hb1.up hk2; replace hBw := Nat.le_trans hBw hk2.size
  have hb2 := hn2.blk
  refine cnil <| cseq <| cg <| vq (Val.loadBN agg31 rfl hb1 rfl) ?_
  refine ve (Eff.alloc zero31) ?_
  rintro _ w3 ⟨b3, rfl, hn3⟩
  have hk3 := hn3.below
  have hge3 : B ≤ b3 := by rw [hn3.at_]; exact hBw
  have hne3_b1 : b1 ≠ b3 := by have := hb1.lt; have := hn3.at_; omega
  have hne3_b2 : b2 ≠ b3 := by have := hb2.lt; have := hn3.at_; omega
  replace hl := hl.upB (hk3.mono hBw); replace hs := hs.upB (hk3.mono hBw); replace hK := hK.upB (hk3.mono hBw); replace hb1 := hb1.up hk3; replace hb2 := hb2.up hk3; replace hBw := Nat.le_trans hBw hk3.size
  have hb3 := hn3.blk
  refine WR.eff_ (Eff.storeBN agg31 rfl rfl hb3 rfl rfl ones) ?_
  intro _ w4 hS4
  have hk4 : Below B _ _ := Blk.store_below hS4 hge3 hBw
  replace hb1 := hb1.grown hS4.grown (by simp; omega)
  replace hb2 := hb2.grown hS4.grown (by simp; omega)
  replace hl := hl.upB hk4; replace hs := hs.upB hk4; replace hK := hK.upB hk4; replace hBw := Nat.le_trans hBw hk4.size
  replace hb3 := hS4.blk
  refine cnil <| cseq <| cg <| vq (Val.fieldAddr fld31_4 rfl) <| vq (Val.loadB scl24 rfl hb1 rfl) ?_
  have hlt5_b1 := hb1.lt
  have hlt5_b2 := hb2.lt
  have hlt5_b3 := hb3.lt
  refine ve (Eff.call pf39 rfl (copyNumbers_ok (hl.mono hBw) hn)) ?_
  rintro v7 w5 ⟨hk5, ho7⟩
  replace hl := hl.upB (hk5.mono hBw); replace hs := hs.upB (hk5.mono hBw); replace hK := hK.upB (hk5.mono hBw); replace hb1 := hb1.up hk5; replace hb2 := hb2.up hk5; replace hb3 := hb3.up hk5; replace hBw := Nat.le_trans hBw hk5.size
  have c7 := ho7.cellsV; have o7 := ho7.oneC
  refine vq (Val.fieldAddr fld31_4 rfl) ?_
  refine WR.eff_ (Eff.storeB scl24 rfl rfl ra ra hb3 rfl) ?_
  intro _ w6 hS6
  have hk6 : Below B _ _ := Blk.store_below hS6 hge3 hBw
  replace hb1 := hb1.grown hS6.grown (by simp; omega)
  replace hb2 := hb2.grown hS6.grown (by simp; omega)
  replace ho7 := ho7.grown hS6.grown (fun k hk e => by have := (ho7.lt k hk).1; simp at e; omega)
  replace hl := hl.upB hk6; replace hs := hs.upB hk6; replace hK := hK.upB hk6; replace hBw := Nat.le_trans hBw hk6.size
  replace hb3 := hS6.blk
  refine cnil <| cseq <| cg <| vq (Val.fieldAddr fld31_5 rfl) <| vq (Val.loadB scl29 rfl hb1 rfl) ?_
  have hlt7_b1 := hb1.lt
  have hlt7_b2 := hb2.lt
  have hlt7_b3 := hb3.lt
  refine ve (Eff.call pf40 rfl (copySlotList_ok (hs.mono hBw) hm)) ?_
  rintro v11 w7 ⟨hk7, ho11⟩
  replace hl := hl.upB (hk7.mono hBw); replace hs := hs.upB (hk7.mono hBw); replace hK := hK.upB (hk7.mono hBw); replace hb1 := hb1.up hk7; replace hb2 := hb2.up hk7; replace hb3 := hb3.up hk7; replace ho7 := ho7.up hk7; replace hBw := Nat.le_trans hBw hk7.size
  have c11 := ho11.cellsV; have o11 := ho11.oneC
  refine vq (Val.fieldAddr fld31_5 rfl) ?_
  refine WR.eff_ (Eff.storeB scl29 rfl rfl ra ra hb3 rfl) ?_
  intro _ w8 hS8
  have hk8 : Below B _ _ := Blk.store_below hS8 hge3 hBw
  replace hb1 := hb1.grown hS8.grown (by simp; omega)
  replace hb2 := hb2.grown hS8.grown (by simp; omega)
  replace ho7 := ho7.grown hS8.grown (fun k hk e => by have := (ho7.lt k hk).1; simp at e; omega)
  replace ho11 := ho11.grown hS8.grown (fun k hk e => by have := (ho11.lt k hk).1; simp at e; omega)
  replace hl := hl.upB hk8; replace hs := hs.upB hk8; replace hK := hK.upB hk8; replace hBw := Nat.le_trans hBw hk8.size
  replace hb3 := hS8.blk
  refine cnil <| cseq <| cg <| vq (Val.loadBN agg31 rfl hb3 rfl) ?_
  refine WR.eff_ (Eff.storeBN agg31 rfl rfl hb2 rfl rfl ones) ?_
  intro _ w9 hS9
  have hk9 : Below B _ _ := Blk.store_below hS9 hge2 hBw
  replace hb1 := hb1.grown hS9.grown (by simp; omega)
  replace hb3 := hb3.grown hS9.grown (by simp; omega)
  replace ho7 := ho7.grown hS9.grown (fun k hk e => by have := (ho7.lt k hk).1; simp at e; omega)
  replace ho11 := ho11.grown hS9.grown (fun k hk e => by have := (ho11.lt k hk).1; simp at e; omega)
  replace hl := hl.upB hk9; replace hs := hs.upB hk9; replace hK := hK.upB hk9; replace hBw := Nat.le_trans hBw hk9.size
  replace hb2 := hS9.blk
  refine cnil ?_
  refine WC.retR1 rfl (RVal.cellN agg31 rfl hb2 rfl) ?_
  refine ⟨hK, _, rfl, _, _, rfl, ?_, ?_, hq⟩
  · exact ho7.rdInts hl.okFlat hl.small
  · exact rdSlots ho11 hs.okFlat hs.small

theorem texts_ok {w : World} {v : Value} {l : List (List UInt8)} (h1 : Rd strS w v l) :
    Calls Try.prog 38 #[v] w (Ret fun v' w' => Below w.heap.size w w' ∧ v' = I (stopSum l.length (l.map List.length) : Nat)) := by
  have hK : Old w w := Old.refl w
  have hsm := h1.small
  refine enter (n := 25) (res := #[.tmp 2]) Try.func38 rfl rfl rfl rfl ?_
  refine cseq <| cg <| za rfl <| cnil <| cseq <| cg <| zm rfl ?_
  first | refine vq (Val.rdlen sl23 (by assumption) rfl) ?_ | refine vq (Val.sllen Try.underlying23 rfl) ?_
  refine za rfl <| cnil <| cseq <| cseq <| cg <| za rfl <| cnil <| cblock ?_
  refine WC.loop (σ := Nat) (fun k => [(0, v), (3, I ((l.length + ((l.take k).map List.length).sum : Nat) : Int)), (4, I k)]) (fun k w' => Rd strS w' v l ∧ Old w w' ∧ k ≤ l.length ∧ l.length + ((l.take k).map List.length).sum ≤ 9000000000000000000 ∧ stopSum l.length (l.map List.length) = stopSum (l.length + ((l.take k).map List.length).sum) ((l.drop k).map List.length)) (fun k => l.length - k) 0 (by simp only [List.take_zero, List.map_nil, List.sum_nil, Nat.add_zero]; repeat (first | exact Sub.nil _ | refine Sub.cons rfl ?_ | refine Sub.consM rfl ?_)) ⟨h1, hK, by omega, by simp; omega, by simp⟩ ?_
  rintro k wl ⟨h1, hK, hk, hn, hst⟩
  refine cseq <| cseq <| cg <| zm rfl <| zm rfl ?_
  first | refine vq (Val.rdlen sl23 (by assumption) rfl) ?_ | refine vq (Val.sllen Try.underlying23 rfl) ?_
  refine vq (Val.lss rfl rfl) <| zm rfl ?_
  apply WR.sc true 2 _ (fun w' => wl = w')
  case hl | hg | hu | hv | hs | hoff | hd => rfl
  case hF => exact fun _ => rfl
  case hT =>
   intro hq7
   try simp only [tstS] at hq7
   simp only [List.take_succ_cons, List.take_zero]
   refine WR.on rfl rfl ?_
   refine zm rfl ?_
   refine WR.on rfl rfl ?_
   refine vq (Val.lss rfl rfl) ?_
   exact WR.nil ⟨rfl, Sub.drop _ 2 _ rfl rfl, rfl⟩
  rintro _ rfl
  refine cnil ?_
  refine WC.cond rfl (fun hc3 => ?_) (fun hc3 => ?_)
  ·try simp only [tstS] at hc3
   obtain ⟨hc3, hc3'⟩ := hc3
   have ka : k < l.length := by omega
   obtain ⟨cs1, hc20, rfl, ok1⟩ := h1.el ka
   refine cskip <| cseq <| cblock <| cg <| zm rfl <| zm rfl <| zm rfl <| vq (Val.indexAddr sl23 (by assumption) rfl rfl rfl side side) <| vq (Val.loadE1 scl9 rfl hc20) ?_
   refine vq (Val.slen Try.underlying9 rfl) <| vq (Val.addI rfl rfl side side) <| za rfl <| cnil <| cg <| zm rfl <| vq (Val.addI rfl rfl side side) <| za rfl <| cnil ?_
   refine ⟨k + 1, ?_, ⟨h1, hK, ka, ?_, by rw [hst, stopSum_step _ ka (by omega), sum_take_succ _ ka, Nat.add_assoc]⟩, by omega⟩
   · rw [sum_take_succ _ ka, show ((l.length + (((l.take k).map List.length).sum + l[k].length) : Nat) : Int) = ((l.length + ((l.take k).map List.length).sum : Nat) : Int) + (l[k].length : Int) by omega]; repeat (first | exact Sub.nil _ | refine Sub.cons rfl ?_ | refine Sub.consM rfl ?_)
   · rw [sum_take_succ _ ka]; omega
  ·try simp only [tstS] at hc3
   refine WC.exit rfl ?_
   refine cseq <| cg <| zm rfl <| za rfl <| cnil ?_
   refine WC.ret1 rfl rfl ?_
   refine ⟨hK, ?_⟩
   rw [Bool.and_eq_false_iff] at hc3
   simp only [decide_eq_false_iff_not] at hc3
   rcases Nat.lt_or_ge k l.length with h | h
   · rw [hst, stopSum_ge (by omega)]
   · rw [hst, List.drop_of_length_le h]; rfl

theorem recordsWeight_ok {w : World} {v : Value} {l : List Rec} (h1 : Rd recS w v l) :
    Calls Try.prog 37 #[v] w (Ret fun v' w' => Below w.heap.size w w' ∧ v' = I (stopSum l.length (l.map recW) : Nat)) := by
  have hK : Old w w := Old.refl w
  have hsm := h1.small
  refine enter (n := 47) (res := #[.tmp 2]) Try.func37 rfl rfl rfl rfl ?_
  refine cseq <| cg <| za rfl <| cnil <| cseq <| cg <| zm rfl ?_
  first | refine vq (Val.rdlen sl22 (by assumption) rfl) ?_ | refine vq (Val.sllen Try.underlying22 rfl) ?_
  refine za rfl <| cnil <| cseq <| cseq <| cg <| za rfl <| cnil <| cblock ?_
  refine WC.loop (σ := Nat) (fun k => [(0, v), (3, I ((l.length + ((l.take k).map recW).sum : Nat) : Int)), (4, I k)]) (fun k w' => Rd recS w' v l ∧ Old w w' ∧ k ≤ l.length ∧ l.length + ((l.take k).map recW).sum ≤ 9000000000000000000 ∧ stopSum l.length (l.map recW) = stopSum (l.length + ((l.take k).map recW).sum) ((l.drop k).map recW)) (fun k => l.length - k) 0 (by simp only [List.take_zero, List.map_nil, List.sum_nil, Nat.add_zero]; repeat (first | exact Sub.nil _ | refine Sub.cons rfl ?_ | refine Sub.consM rfl ?_)) ⟨h1, hK, by omega, by simp; omega, by simp⟩ ?_
  rintro k wl ⟨h1, hK, hk, hn, hst⟩
  refine cseq <| cseq <| cg <| zm rfl <| zm rfl ?_
  first | refine vq (Val.rdlen sl22 (by assumption) rfl) ?_ | refine vq (Val.sllen Try.underlying22 rfl) ?_
  refine vq (Val.lss rfl rfl) <| zm rfl ?_
  apply WR.sc true 2 _ (fun w' => wl = w')
  case hl | hg | hu | hv | hs | hoff | hd => rfl
  case hF => exact fun _ => rfl
  case hT =>
   intro hq7
   try simp only [tstS] at hq7
   simp only [List.take_succ_cons, List.take_zero]
   refine WR.on rfl rfl ?_
   refine zm rfl ?_
   refine WR.on rfl rfl ?_
   refine vq (Val.lss rfl rfl) ?_
   exact WR.nil ⟨rfl, Sub.drop _ 2 _ rfl rfl, rfl⟩
  rintro _ rfl
  refine cnil ?_
  refine WC.cond rfl (fun hc3 => ?_) (fun hc3 => ?_)
  ·try simp only [tstS] at hc3
   obtain ⟨hc3, hc3'⟩ := hc3
   have ka : k < l.length := by omega
   obtain ⟨cs1, hc20, ⟨vl, vs, rfl, hl, hs, hq⟩⟩ := h1.el ka
   have hls := hl.small; have hss := hs.small
   refine cskip <| cseq <| cblock ?_
   refine WC.regionD (Below wl.heap.size wl) [0, 0, 0, 0, 0, 1, 0, 0, 0, 0, 0, 0, 1, 0, 0, 0, 0, 0, 0, 1, 0, 0, 0, 0, 0, 0, 1, 0, 0, 0] [0, 1, 2, 3, 4, 5, 6, 7, 8, 9, 10, 11, 12, 13, 14, 15, 16, 17, 18, 19, 20, 21, 22, 23, 24, 25, 26, 27, 28, 29] mixed (by kernel_rfl) ?_
   have hk1 : Below wl.heap.size wl wl.drew := (Below.refl _ _).drew
   have hCw : Below wl.heap.size wl wl.drew := (Below.refl _ _).drew
   generalize wl.drew = w1 at hk1 hCw ⊢
   have hc200 := hc20
   replace h1 := h1.up hk1; replace hK := hK.up hk1; replace hc20 := hc20.up hk1; replace hl := hl.up hk1; replace hs := hs.up hk1
   refine zdm rfl rfl <| zdm rfl rfl <| zdm rfl rfl <| vd rfl (fun _ => Val.indexAddr sl22 (by assumption) rfl rfl rfl side side) <| vd rfl (fun _ => Val.fieldAddrP fld31_2 rfl) <| qc rfl rfl rfl hCw (fun W hW => Val.loadEf scl9 rfl (hc200.up hW) rfl) rfl <| vd rfl (fun _ => Val.slen Try.underlying9 rfl) <| vd rfl (fun _ => Val.addI rfl rfl side side) <| zdm rfl rfl ?_
   refine zdm rfl rfl <| vd rfl (fun _ => Val.indexAddr sl22 (by assumption) rfl rfl rfl side side) <| vd rfl (fun _ => Val.fieldAddrP fld31_3 rfl) <| qc rfl rfl rfl hCw (fun W hW => Val.loadEf scl9 rfl (hc200.up hW) rfl) rfl <| vd rfl (fun _ => Val.slen Try.underlying9 rfl) <| vd rfl (fun _ => Val.addI rfl rfl side side) <| zdm rfl rfl <| zdm rfl rfl <| vd rfl (fun _ => Val.indexAddr sl22 (by assumption) rfl rfl rfl side side) ?_
   refine vd rfl (fun _ => Val.fieldAddrP fld31_4 rfl) <| qc rfl rfl rfl hCw (fun W hW => Val.loadEf scl24 rfl (hc200.up hW) rfl) rfl ?_
   first | refine vd rfl (fun _ => Val.rdlen sl24 (by assumption) rfl) ?_ | refine vd rfl (fun _ => Val.sllen Try.underlying24 rfl) ?_
   refine vd rfl (fun _ => Val.addI rfl rfl side side) <| zdm rfl rfl <| zdm rfl rfl <| vd rfl (fun _ => Val.indexAddr sl22 (by assumption) rfl rfl rfl side side) <| vd rfl (fun _ => Val.fieldAddrP fld31_5 rfl) <| qc rfl rfl rfl hCw (fun W hW => Val.loadEf scl29 rfl (hc200.up hW) rfl) rfl ?_
   first | refine vd rfl (fun _ => Val.rdlen sl29 (by assumption) rfl) ?_ | refine vd rfl (fun _ => Val.sllen Try.underlying29 rfl) ?_
   refine vd rfl (fun _ => Val.addI rfl rfl side side) <| zda rfl rfl ?_
   refine WD.nil ?_
   clear hc200
   clear hCw
   refine cg <| zm rfl <| vq (Val.addI rfl rfl side side) <| za rfl <| cnil ?_
   refine ⟨k + 1, ?_, ⟨h1, hK, ka, ?_, by rw [hst, stopSum_step _ ka (by omega), sum_take_succ _ ka, Nat.add_assoc]⟩, by omega⟩
   · have e : recW l[k] = l[k].name.length + l[k].digest.length + l[k].list.length + l[k].slots.length := rfl
     have e2 : ((l.length + (((l.take k).map recW).sum + recW l[k]) : Nat) : Int) = ((l.length + ((l.take k).map recW).sum : Nat) : Int) + (l[k].name.length : Int) + (l[k].digest.length : Int) + (l[k].list.length : Int) + (l[k].slots.length : Int) := by omega
     rw [sum_take_succ _ ka, e2]
     repeat (first | exact Sub.nil _ | refine Sub.cons rfl ?_ | refine Sub.consM rfl ?_)
   · have e : recW l[k] = l[k].name.length + l[k].digest.length + l[k].list.length + l[k].slots.length := rfl
     rw [sum_take_succ _ ka]; omega
  ·try simp only [tstS] at hc3
   refine WC.exit rfl ?_
   refine cseq <| cg <| zm rfl <| za rfl <| cnil ?_
   refine WC.ret1 rfl rfl ?_
   refine ⟨hK, ?_⟩
   rw [Bool.and_eq_false_iff] at hc3
   simp only [decide_eq_false_iff_not] at hc3
   rcases Nat.lt_or_ge k l.length with h | h
   · rw [hst, stopSum_ge (by omega)]
   · rw [hst, List.drop_of_length_le h]; rfl

end Go.Proofs.Ythlfolpcmcejkaa

namespace Go.Proofs.Ythlfolpcmcejkaa
open Go Go.Eng Go.RowKit Silo TryT

theorem heavy_ok {w : World} {vR vS vN : Value} {R : List Rec} {S : List (List UInt8)} {N : List Int} (h1 : Rd recS w vR R) (h2 : Rd strS w vS S) (h3 : Rd intS w vN N) :
    Calls Try.prog 14 #[.agg #[vR, vS, vN]] w (Ret fun v w' => Below w.heap.size w w' ∧ v = .bool (decide ((3000 : Int) < (stopSum R.length (R.map recW) : Nat)) || decide ((4000 : Int) < (stopSum S.length (S.map List.length) : Nat)) || decide ((100 : Int) < (N.length : Nat)))) := by
  have hK : Old w w := Old.refl w
  have o1 := h1.oneC
  have o2 := h2.oneC
  have o3 := h3.oneC
  refine enter (n := 19) (res := #[.tmp 2]) Try.func14 rfl rfl rfl rfl ?_
  refine cseq <| cg ?_
  refine ve (Eff.box rfl) ?_
  rintro _ w1 ⟨b1, rfl, hn1⟩
  have hk1 := hn1.below
  replace h1 := h1.up hk1; replace h2 := h2.up hk1; replace h3 := h3.up hk1; replace hK := hK.up hk1
  have hb1 := hn1.blk
  refine za rfl <| cnil <| cseq <| cg <| vq (Val.fieldAddr fld26_0 rfl) <| vq (Val.loadB scl22 rfl hb1 rfl) ?_
  refine ve (Eff.call pf37 rfl (recordsWeight_ok h1)) ?_
  rintro v5 w2 ⟨hk2, rfl⟩
  replace h1 := h1.up hk2; replace h2 := h2.up hk2; replace h3 := h3.up hk2; replace hK := hK.up hk2; replace hb1 := hb1.up hk2
  refine vq (Val.gtr rfl rfl) <| zm rfl ?_
  apply WR.sc false 4 (decide ((4000 : Int) < (stopSum S.length (S.map List.length) : Nat))) (fun w' => Below w2.heap.size w2 w')
  case hl | hg | hu | hv | hs | hoff | hd => rfl
  case hF => exact fun _ => Below.refl _ _
  case hT =>
   intro hq9
   try simp only [tstS] at hq9
   simp only [List.take_succ_cons, List.take_zero]
   have hKsc9 : Old w2 w2 := Old.refl _
   refine WR.on rfl rfl ?_
   refine vq (Val.fieldAddr fld26_1 rfl) ?_
   refine WR.on rfl rfl ?_
   refine vq (Val.loadB scl23 rfl hb1 rfl) ?_
   refine WR.on rfl rfl ?_
   refine ve (Eff.call pf38 rfl (texts_ok h2)) ?_
   rintro v10 w3 ⟨hk3, rfl⟩
   replace h1 := h1.up hk3; replace h2 := h2.up hk3; replace h3 := h3.up hk3; replace hK := hK.up hk3; replace hb1 := hb1.up hk3; replace hKsc9 := hKsc9.up hk3
   refine WR.on rfl rfl ?_
   refine vq (Val.gtr rfl rfl) ?_
   exact WR.nil ⟨rfl, Sub.drop _ 4 _ rfl rfl, hKsc9⟩
  intro w4 hk4
  replace h1 := h1.up hk4; replace h2 := h2.up hk4; replace h3 := h3.up hk4; replace hK := hK.up hk4; replace hb1 := hb1.up hk4
  refine zm rfl ?_
  apply WR.sc false 4 (decide ((100 : Int) < (N.length : Nat))) (fun w' => Below w4.heap.size w4 w')
  case hl | hg | hu | hv | hs | hoff | hd => rfl
  case hF => exact fun _ => Below.refl _ _
  case hT =>
   intro hq15
   try simp only [tstS] at hq15
   simp only [List.take_succ_cons, List.take_zero]
   have hKsc15 : Old w4 w4 := Old.refl _
   refine WR.on rfl rfl ?_
   refine vq (Val.fieldAddr fld26_2 rfl) ?_
   refine WR.on rfl rfl ?_
   refine vq (Val.loadB scl24 rfl hb1 rfl) ?_
   refine WR.on rfl rfl ?_
   first | refine vq (Val.rdlen sl24 (by assumption) rfl) ?_ | refine vq (Val.sllen Try.underlying24 rfl) ?_
   refine WR.on rfl rfl ?_
   refine vq (Val.gtr rfl rfl) ?_
   exact WR.nil ⟨rfl, Sub.drop _ 4 _ rfl rfl, hKsc15⟩
  intro w5 hk5
  replace h1 := h1.up hk5; replace h2 := h2.up hk5; replace h3 := h3.up hk5; replace hK := hK.up hk5; replace hb1 := hb1.up hk5
  refine za rfl <| cnil ?_
  refine WC.ret1 rfl rfl ?_
  exact ⟨hK, rfl⟩

theorem fields_ok {w : World} (k : Int) : Calls Try.prog 50 #[I k] w (Ret fun v w' => Below w.heap.size w w' ∧ v = St (fieldsB k)) := by
  refine enter (n := 19) (res := #[.tmp 2]) Try.func50 rfl rfl rfl rfl ?_
  refine cseq <| cg <| za rfl <| cnil <| cseq <| cseq <| cg <| zm rfl <| cnil ?_
  refine cblock <| cseq <| cg <| vq (Val.eql rfl rfl) <| za rfl <| cnil ?_
  refine WC.cond rfl (fun hc2 => ?_) (fun hc2 => ?_)
  ·try simp only [tstS] at hc2
   refine cseq <| cg <| za rfl <| cnil ?_
   refine WC.ret1 rfl rfl ?_
   exact ⟨Below.refl _ _, by subst hc2; rfl⟩
  ·try simp only [tstS] at hc2
   refine cseq <| cg <| vq (Val.eql rfl rfl) <| za rfl <| cnil ?_
   refine WC.cond rfl (fun hc4 => ?_) (fun hc4 => ?_)
   ·try simp only [tstS] at hc4
    refine cseq <| cg <| za rfl <| cnil ?_
    refine WC.ret1 rfl rfl ?_
    exact ⟨Below.refl _ _, by subst hc4; rfl⟩
   ·try simp only [tstS] at hc4
    refine cseq <| cg <| vq (Val.eql rfl rfl) <| za rfl <| cnil ?_
    refine WC.cond rfl (fun hc6 => ?_) (fun hc6 => ?_)
    ·try simp only [tstS] at hc6
     refine cseq <| cg <| za rfl <| cnil ?_
     refine WC.ret1 rfl rfl ?_
     exact ⟨Below.refl _ _, by subst hc6; rfl⟩
    ·try simp only [tstS] at hc6
     refine cseq <| cseq <| cg <| vq (Val.eql rfl rfl) <| za rfl <| cnil ?_
     refine WC.cond rfl (fun hc8 => ?_) (fun hc8 => ?_)
     ·try simp only [tstS] at hc8
      refine cskip ?_
      refine WC.cond rfl (fun hc8 => ?_) (fun hc8 => ?_)
      ·try simp only [tstS] at hc8
       refine cseq <| cg <| za rfl <| cnil ?_
       refine WC.ret1 rfl rfl ?_
       exact ⟨Below.refl _ _, by first | (subst hc8; rfl) | (subst hc9; rfl)⟩
      ·try simp only [tstS] at hc8
       refine cseq <| cg <| vq (Val.eql rfl rfl) <| za rfl <| cnil ?_
       refine WC.cond rfl (fun hc11 => ?_) (fun hc11 => ?_)
       ·try simp only [tstS] at hc11
        refine cseq <| cg <| za rfl <| cnil ?_
        refine WC.ret1 rfl rfl ?_
        exact ⟨Below.refl _ _, by first | (subst hc11; rfl) | (exfalso; omega)⟩
       ·try simp only [tstS] at hc11
        refine cseq <| cg <| vq (Val.eql rfl rfl) <| za rfl <| cnil ?_
        refine WC.cond rfl (fun hc13 => ?_) (fun hc13 => ?_)
        ·try simp only [tstS] at hc13
         refine cseq <| cg <| za rfl <| cnil ?_
         refine WC.ret1 rfl rfl ?_
         exact ⟨Below.refl _ _, by first | (subst hc13; rfl) | (exfalso; omega)⟩
        ·try simp only [tstS] at hc13
         refine cseq <| cg <| vq (Val.eql rfl rfl) <| za rfl <| cnil ?_
         refine WC.cond rfl (fun hc15 => ?_) (fun hc15 => ?_)
         ·try simp only [tstS] at hc15
          refine cseq <| cg <| za rfl <| cnil ?_
          refine WC.ret1 rfl rfl ?_
          exact ⟨Below.refl _ _, by first | (subst hc15; rfl) | (exfalso; omega)⟩
         ·try simp only [tstS] at hc15
          refine cskip <| cseq <| cg <| za rfl <| cnil ?_
          refine WC.ret1 rfl rfl ?_
          exact ⟨Below.refl _ _, by first | (exfalso; omega) | simp [fieldsB, *]⟩
     ·try simp only [tstS] at hc8
      refine cg <| vq (Val.eql rfl rfl) <| za rfl <| cnil ?_
      refine WC.cond rfl (fun hc9 => ?_) (fun hc9 => ?_)
      ·try simp only [tstS] at hc9
       refine cseq <| cg <| za rfl <| cnil ?_
       refine WC.ret1 rfl rfl ?_
       exact ⟨Below.refl _ _, by first | (subst hc8; rfl) | (subst hc9; rfl)⟩
      ·try simp only [tstS] at hc9
       refine cseq <| cg <| vq (Val.eql rfl rfl) <| za rfl <| cnil ?_
       refine WC.cond rfl (fun hc11 => ?_) (fun hc11 => ?_)
       ·try simp only [tstS] at hc11
        refine cseq <| cg <| za rfl <| cnil ?_
        refine WC.ret1 rfl rfl ?_
        exact ⟨Below.refl _ _, by first | (subst hc11; rfl) | (exfalso; omega)⟩
       ·try simp only [tstS] at hc11
        refine cseq <| cg <| vq (Val.eql rfl rfl) <| za rfl <| cnil ?_
        refine WC.cond rfl (fun hc13 => ?_) (fun hc13 => ?_)
        ·try simp only [tstS] at hc13
         refine cseq <| cg <| za rfl <| cnil ?_
         refine WC.ret1 rfl rfl ?_
         exact ⟨Below.refl _ _, by first | (subst hc13; rfl) | (exfalso; omega)⟩
        ·try simp only [tstS] at hc13
         refine cseq <| cg <| vq (Val.eql rfl rfl) <| za rfl <| cnil ?_
         refine WC.cond rfl (fun hc15 => ?_) (fun hc15 => ?_)
         ·try simp only [tstS] at hc15
          refine cseq <| cg <| za rfl <| cnil ?_
          refine WC.ret1 rfl rfl ?_
          exact ⟨Below.refl _ _, by first | (subst hc15; rfl) | (exfalso; omega)⟩
         ·try simp only [tstS] at hc15
          refine cskip <| cseq <| cg <| za rfl <| cnil ?_
          refine WC.ret1 rfl rfl ?_
          exact ⟨Below.refl _ _, by first | (exfalso; omega) | simp [fieldsB, *]⟩

theorem hasB_none {k c : Int} {j : Nat} (h : ∀ x ∈ (fieldsB k).take j, (x.toNat : Int) ≠ c) (hj : (fieldsB k).length ≤ j) : hasB k c = false := by
  rw [List.take_of_length_le hj] at h
  simp only [hasB, List.any_eq_false, decide_eq_true_eq]
  exact h
theorem hasB_some {k c : Int} {j : Nat} (hj : j < (fieldsB k).length) (h : ((fieldsB k)[j].toNat : Int) = c) : hasB k c = true := by
  simp only [hasB, List.any_eq_true, decide_eq_true_eq]
  exact ⟨_, List.getElem_mem hj, h⟩
theorem take_ne_step {l : List UInt8} {c : Int} {j : Nat} (h : ∀ x ∈ l.take j, (x.toNat : Int) ≠ c) (hj : j < l.length) (hn : (l[j].toNat : Int) ≠ c) : ∀ x ∈ l.take (j + 1), (x.toNat : Int) ≠ c := by
  rw [List.take_succ_eq_append_getElem hj]
  intro x hx
  rcases List.mem_append.1 hx with hx | hx
  · exact h x hx
  · rw [List.mem_singleton.1 hx]; exact hn

theorem has_ok {w : World} (k c : Int) : Calls Try.prog 60 #[I k, .int .i32 c] w (Ret fun v w' => Below w.heap.size w w' ∧ v = .bool (hasB k c)) := by
  obtain ⟨B, hB⟩ : ∃ B, B = w.heap.size := ⟨_, rfl⟩
  have hK : Below B w w := Below.refl _ _
  have hBw : B ≤ w.heap.size := Nat.le_of_eq hB
  rw [← hB]
  refine enter (n := 16) (res := #[.tmp 4]) Try.func60 rfl rfl rfl rfl ?_
  refine cseq <| cg <| za rfl <| cnil <| cseq <| cseq <| cg <| zm rfl ?_
  refine ve (Eff.call pf50 rfl (fields_ok k)) ?_
  rintro v8 w1 ⟨hk1, rfl⟩
  replace hK := hK.upB (hk1.mono hBw); replace hBw := Nat.le_trans hBw hk1.size
  refine ve (Eff.rangeStr Try.underlying9 rfl) ?_
  rintro _ w2 ⟨hk2, b, rfl, hb, hit⟩
  have hBb : B ≤ b := by omega
  clear hb
  replace hK := hK.upB (hk2.mono hBw); replace hBw := Nat.le_trans hBw hk2.size
  refine cnil <| cblock ?_
  refine WC.loop (σ := Nat) (fun j => [(0, I k), (1, .int .i32 c), (9, .pointer (some ⟨b, 0, none⟩))]) (fun j w' => Iter w' b (fieldsB k) j ∧ Below B w w' ∧ B ≤ w'.heap.size ∧ j ≤ (fieldsB k).length ∧ ∀ x ∈ (fieldsB k).take j, (x.toNat : Int) ≠ c) (fun j => (fieldsB k).length - j) 0 subs ⟨hit, hK, hBw, by omega, by simp⟩ ?_
  rintro j wl ⟨hit, hK, hBw, hj, hne⟩
  refine cseq ?_
  skip
  refine cg ?_
  refine ve (Eff.nextStr rfl hit (fieldsB_ascii k)) ?_
  rintro _ w3 ⟨hg3, rfl, hi3⟩
  have hk3 : Below B wl w3 := below_of_grown hg3 hBw (by simp; omega)
  replace hK := hK.upB hk3; replace hBw := Nat.le_trans hBw hk3.size
  refine vq (Val.nextOk rfl) <| cnil <| cseq ?_
  refine WC.cond rfl (fun hc2 => ?_) (fun hc2 => ?_)
  ·try simp only [tstS] at hc2
   replace hit := hi3 hc2
   refine cskip <| cblock <| cseq <| cg <| vq (Val.nextC rfl hc2) <| za rfl <| cnil <| cseq <| cg ?_
   refine zm rfl <| zm rfl <| vq (Val.eql rfl rfl) <| cnil ?_
   refine WC.cond rfl (fun hc4 => ?_) (fun hc4 => ?_)
   ·try simp only [tstS] at hc4
    refine cseq <| cg <| za rfl <| cnil ?_
    refine WC.ret1 rfl rfl ?_
    exact ⟨hK, by rw [hasB_some hc2 hc4]⟩
   ·try simp only [tstS] at hc4
    refine cskip ?_
    exact ⟨j + 1, subs, ⟨hit, hK, hBw, hc2, take_ne_step hne hc2 hc4⟩, by omega⟩
  ·try simp only [tstS] at hc2
   refine WC.exit rfl ?_
   refine cseq <| cg <| za rfl <| cnil ?_
   refine WC.ret1 rfl rfl ?_
   exact ⟨hK, by rw [hasB_none hne (by omega)]⟩

def fieldsU (k : Int) : List UInt8 := (fieldsB k).map (· - 32)
def hasU (l : List UInt8) (c : Int) : Bool := l.any fun b => decide ((b.toNat : Int) = c)
theorem hasU_fields (k : Int) : hasU (fieldsU k) 73 = hasB k 105 ∧ hasU (fieldsU k) 78 = hasB k 110 ∧ hasU (fieldsU k) 68 = hasB k 100 ∧ hasU (fieldsU k) 76 = hasB k 108 ∧ hasU (fieldsU k) 83 = hasB k 115 := by
  unfold fieldsU hasB fieldsB
  repeat' split
  all_goals decide
theorem hasU_none {l : List UInt8} {c : Int} {j : Nat} (h : ∀ x ∈ l.take j, (x.toNat : Int) ≠ c) (hj : l.length ≤ j) : hasU l c = false := by
  rw [List.take_of_length_le hj] at h
  simp only [hasU, List.any_eq_false, decide_eq_true_eq]
  exact h
theorem hasU_some {l : List UInt8} {c : Int} {j : Nat} (hj : j < l.length) (h : (l[j].toNat : Int) = c) : hasU l c = true := by
  simp only [hasU, List.any_eq_true, decide_eq_true_eq]
  exact ⟨_, List.getElem_mem hj, h⟩

theorem fieldsU_ok {w : World} (k : Int) (h0 : 0 ≤ k) (h8 : k ≤ 8) : Calls Try.prog 42 #[I k] w (Ret fun v w' => Below w.heap.size w w' ∧ v = St (fieldsU k)) := by
  have hcell : ([St [], St [73, 83], St [73, 76, 83], St [73], St [73, 68, 76], St [73, 68, 76], St [68], St [78, 68], St [78]] : List Value)[k.toNat * 1]? = some (St (fieldsU k)) := by
    have : k = 0 ∨ k = 1 ∨ k = 2 ∨ k = 3 ∨ k = 4 ∨ k = 5 ∨ k = 6 ∨ k = 7 ∨ k = 8 := by omega
    rcases this with rfl | rfl | rfl | rfl | rfl | rfl | rfl | rfl | rfl <;> rfl
  have hK : Old w w := Old.refl w
  refine enter (n := 9) (res := #[.tmp 2]) Try.func42 rfl rfl rfl rfl ?_
  refine cseq <| cg <| za rfl <| cnil <| cseq <| cg ?_
  refine ve (Eff.buildSlice sl23 rfl rfl rfl (by simp [Value.cells]) rfl rfl) ?_
  rintro _ w1 ⟨b4, rfl, hn4⟩
  have hk1 := hn4.below
  replace hK := hK.up hk1
  refine za rfl <| cnil <| cseq <| cg <| zm rfl <| zm rfl <| vq (Val.indexLit sl23 rfl rfl h0 (by omega)) ?_
  have hb9 : Blk w1 b4 [St [], St [73, 83], St [73, 76, 83], St [73], St [73, 68, 76], St [73, 68, 76], St [68], St [78, 68], St [78]] _ := hn4.blk
  refine vq (Val.loadB scl9 rfl hb9 hcell) <| za rfl <| cnil ?_
  refine WC.ret1 rfl rfl ?_
  exact ⟨hK, rfl⟩

theorem hasU_ok {w : World} (l : List UInt8) (c : Int) (hl : l.length ≤ 140737488355328) : Calls Try.prog 43 #[St l, .int .u8 c] w (Ret fun v w' => Below w.heap.size w w' ∧ v = .bool (hasU l c)) := by
  refine enter (n := 17) (res := #[.tmp 4]) Try.func43 rfl rfl rfl rfl ?_
  refine cseq <| cg <| za rfl <| cnil <| cseq <| cseq <| cg <| za rfl <| cnil ?_
  refine cblock ?_
  refine WC.loop (σ := Nat) (fun k => [(0, St l), (1, .int .u8 c), (5, I k)]) (fun k w' => k ≤ l.length ∧ w' = w ∧ ∀ x ∈ l.take k, (x.toNat : Int) ≠ c) (fun k => l.length - k) 0 subs ⟨by omega, rfl, by simp⟩ ?_
  rintro k wl ⟨hk, rfl, hne⟩
  refine cseq <| cseq <| cg <| zm rfl <| zm rfl <| vq (Val.slen Try.underlying9 rfl) <| vq (Val.lss rfl rfl) <| cnil ?_
  refine WC.cond rfl (fun hc2 => ?_) (fun hc2 => ?_)
  ·try simp only [tstS] at hc2
   have hkl : k < l.length := by omega
   refine cskip <| cseq <| cblock <| cseq <| cg <| zm rfl <| zm rfl <| vq (Val.sindex Try.underlying9 rfl rfl (by omega) (List.getElem?_eq_getElem hkl)) <| zm rfl ?_
   refine vq (Val.eql rfl rfl) <| cnil ?_
   refine WC.cond rfl (fun hc4 => ?_) (fun hc4 => ?_)
   ·try simp only [tstS] at hc4
    refine cseq <| cg <| za rfl <| cnil ?_
    refine WC.ret1 rfl rfl ?_
    exact ⟨Below.refl _ _, by rw [hasU_some hkl hc4]⟩
   ·try simp only [tstS] at hc4
    refine cskip <| cg <| zm rfl <| vq (Val.addI rfl rfl side side) <| za rfl <| cnil ?_
    exact ⟨k + 1, subs, ⟨hkl, rfl, take_ne_step hne hkl hc4⟩, by omega⟩
  ·try simp only [tstS] at hc2
   refine WC.exit rfl ?_
   refine cseq <| cg <| za rfl <| cnil ?_
   refine WC.ret1 rfl rfl ?_
   exact ⟨Below.refl _ _, by rw [hasU_none hne (by omega)]⟩

theorem list1_ok {w : World} (n : Int) : Calls Try.prog 72 #[I n] w (Ret fun v w' => Below w.heap.size w w' ∧ v = .bool (!(decide (0 ≤ n) && decide (n ≤ 1073741824)))) := by
  have hK : Old w w := Old.refl w
  refine enter (n := 6) (res := #[.tmp 2]) Try.func72 rfl rfl rfl rfl ?_
  refine cseq <| cg <| za rfl <| cnil <| cseq <| cg <| zm rfl ?_
  refine ve (Eff.call pf54 rfl (number_ok n)) ?_
  rintro v4 w1 ⟨hk1, rfl⟩
  replace hK := hK.up hk1
  refine vq (Val.not rfl) <| za rfl <| cnil ?_
  refine WC.ret1 rfl rfl ?_
  exact ⟨hK, rfl⟩

theorem places1_ok {w : World} (p : Int × Int) : Calls Try.prog 73 #[.agg #[I p.1, I p.2]] w (Ret fun v w' => Below w.heap.size w w' ∧ v = .bool (slotBad p)) := by
  have hK : Old w w := Old.refl w
  refine enter (n := 21) (res := #[.tmp 2]) Try.func73 rfl rfl rfl rfl ?_
  refine cseq <| cg ?_
  refine ve (Eff.box rfl) ?_
  rintro _ w1 ⟨b1, rfl, hn1⟩
  have hk1 := hn1.below
  replace hK := hK.up hk1
  have hb1 := hn1.blk
  refine za rfl <| cnil <| cseq <| cg <| vq (Val.fieldAddr fld66_0 rfl) <| vq (Val.loadB scl3 rfl hb1 rfl) <| vq (Val.lss rfl rfl) <| zm rfl ?_
  apply WR.sc false 3 _ (fun w' => w1 = w')
  case hl | hg | hu | hv | hs | hoff | hd => rfl
  case hF => exact fun _ => rfl
  case hT =>
   intro hq7
   try simp only [tstS] at hq7
   simp only [List.take_succ_cons, List.take_zero]
   refine WR.on rfl rfl ?_
   refine vq (Val.fieldAddr fld66_0 rfl) ?_
   refine WR.on rfl rfl ?_
   refine vq (Val.loadB scl3 rfl hb1 rfl) ?_
   refine WR.on rfl rfl ?_
   refine vq (Val.geq rfl rfl) ?_
   exact WR.nil ⟨rfl, Sub.drop _ 3 _ rfl rfl, rfl⟩
  rintro _ rfl
  refine zm rfl ?_
  apply WR.sc false 3 _ (fun w' => w1 = w')
  case hl | hg | hu | hv | hs | hoff | hd => rfl
  case hF => exact fun _ => rfl
  case hT =>
   intro hq12
   try simp only [tstS] at hq12
   simp only [List.take_succ_cons, List.take_zero]
   refine WR.on rfl rfl ?_
   refine vq (Val.fieldAddr fld66_1 rfl) ?_
   refine WR.on rfl rfl ?_
   refine vq (Val.loadB scl3 rfl hb1 rfl) ?_
   refine WR.on rfl rfl ?_
   refine vq (Val.lss rfl rfl) ?_
   exact WR.nil ⟨rfl, Sub.drop _ 3 _ rfl rfl, rfl⟩
  rintro _ rfl
  refine zm rfl ?_
  apply WR.sc false 3 _ (fun w' => w1 = w')
  case hl | hg | hu | hv | hs | hoff | hd => rfl
  case hF => exact fun _ => rfl
  case hT =>
   intro hq17
   try simp only [tstS] at hq17
   simp only [List.take_succ_cons, List.take_zero]
   refine WR.on rfl rfl ?_
   refine vq (Val.fieldAddr fld66_1 rfl) ?_
   refine WR.on rfl rfl ?_
   refine vq (Val.loadB scl3 rfl hb1 rfl) ?_
   refine WR.on rfl rfl ?_
   refine vq (Val.geq rfl rfl) ?_
   exact WR.nil ⟨rfl, Sub.drop _ 3 _ rfl rfl, rfl⟩
  rintro _ rfl
  refine za rfl <| cnil ?_
  refine WC.ret1 rfl rfl ?_
  exact ⟨hK, rfl⟩

theorem any_step {α : Type} {q : α → Bool} {l : List α} {j : Nat} (h : ∀ x ∈ l.take j, q x = false) (hj : j < l.length) (hn : q l[j] = false) : ∀ x ∈ l.take (j + 1), q x = false := by
  rw [List.take_succ_eq_append_getElem hj]
  intro x hx
  rcases List.mem_append.1 hx with hx | hx
  · exact h x hx
  · rw [List.mem_singleton.1 hx]; exact hn
theorem any_none {α : Type} {q : α → Bool} {l : List α} {j : Nat} (h : ∀ x ∈ l.take j, q x = false) (hj : l.length ≤ j) : l.any q = false := by
  rw [List.take_of_length_le hj] at h
  simp only [List.any_eq_false]
  intro x hx; rw [h x hx]; decide

theorem indexInt_ok {w : World} {v : Value} {l : List Int} {f : FuncId} {q : Int → Bool} (h1 : Rd intS w v l) (hf : plainFn Try.prog f = true) (hq : ∀ (w : World) (x : Int), Calls Try.prog f #[I x] w (Ret fun v w' => Below w.heap.size w w' ∧ v = .bool (q x))) :
    Calls Try.prog 77 #[v, .func (.func f) #[] #[]] w (Ret fun v' w' => Below w.heap.size w w' ∧ ∃ i : Int, v' = I i ∧ decide (0 ≤ i) = l.any q) := by
  have hsm := h1.small
  have hK : Old w w := Old.refl w
  refine enter (n := 19) (res := #[.tmp 4]) Try.func77 rfl rfl rfl rfl ?_
  refine cseq <| cg <| za rfl <| cnil <| cseq <| cseq <| cg <| zm rfl ?_
  first | refine vq (Val.rdlen sl24 (by assumption) rfl) ?_ | refine vq (Val.sllen Try.underlying24 rfl) ?_
  refine zm rfl <| cnil <| cblock ?_
  refine WC.loop (σ := Nat) (fun k => [(0, v), (1, .func (.func f) #[] #[]), (7, I l.length), (8, I k)]) (fun k w' => Rd intS w' v l ∧ Old w w' ∧ k ≤ l.length ∧ ∀ x ∈ l.take k, q x = false) (fun k => l.length - k) 0 subs ⟨h1, hK, by omega, by simp⟩ ?_
  rintro k wl ⟨h1, hK, hk, hne⟩
  refine cseq <| cg <| vq (Val.lss rfl rfl) <| cnil <| cseq ?_
  refine WC.cond rfl (fun hc2 => ?_) (fun hc2 => ?_)
  ·try simp only [tstS] at hc2
   have ka : k < l.length := by omega
   obtain ⟨cs1, hc14, rfl, ok1⟩ := h1.el ka
   refine cskip <| cseq <| cblock <| cseq <| cg <| zm rfl <| za rfl <| cnil <| cseq ?_
   refine cg <| zm rfl <| zm rfl <| zm rfl <| vq (Val.indexAddr sl24 (by assumption) rfl rfl rfl side side) <| vq (Val.loadE1 scl3 rfl hc14) ?_
   refine ve (Eff.callV rfl hf rfl (hq _ _)) ?_
   rintro _ w9 ⟨hk9, rfl⟩
   replace h1 := h1.up hk9; replace hK := hK.up hk9
   refine cnil ?_
   refine WC.cond rfl (fun hc4 => ?_) (fun hc4 => ?_)
   ·try simp only [tstS] at hc4
    refine cseq <| cg <| zm rfl <| za rfl <| cnil ?_
    refine WC.ret1 rfl rfl ?_
    exact ⟨hK, _, rfl, by rw [List.any_eq_true.2 ⟨_, List.getElem_mem ka, hc4⟩]; simp⟩
   ·try simp only [tstS] at hc4
    refine cskip <| cg <| vq (Val.addI rfl rfl side side) <| zm rfl <| cnil ?_
    exact ⟨k + 1, subs, ⟨h1, hK, ka, any_step hne ka hc4⟩, by omega⟩
  ·try simp only [tstS] at hc2
   refine WC.exit rfl ?_
   refine cseq <| cg <| za rfl <| cnil ?_
   refine WC.ret1 rfl rfl ?_
   exact ⟨hK, -1, rfl, by rw [any_none hne (by omega)]; decide⟩
theorem indexSlot_ok {w : World} {v : Value} {l : List (Int × Int)} {f : FuncId} {q : Int × Int → Bool} (h1 : Rd slotS w v l) (hf : plainFn Try.prog f = true) (hq : ∀ (w : World) (x : Int × Int), Calls Try.prog f #[.agg #[I x.1, I x.2]] w (Ret fun v w' => Below w.heap.size w w' ∧ v = .bool (q x))) :
    Calls Try.prog 78 #[v, .func (.func f) #[] #[]] w (Ret fun v' w' => Below w.heap.size w w' ∧ ∃ i : Int, v' = I i ∧ decide (0 ≤ i) = l.any q) := by
  have hsm := h1.small
  have hK : Old w w := Old.refl w
  refine enter (n := 19) (res := #[.tmp 4]) Try.func78 rfl rfl rfl rfl ?_
  refine cseq <| cg <| za rfl <| cnil <| cseq <| cseq <| cg <| zm rfl ?_
  first | refine vq (Val.rdlen sl29 (by assumption) rfl) ?_ | refine vq (Val.sllen Try.underlying29 rfl) ?_
  refine zm rfl <| cnil <| cblock ?_
  refine WC.loop (σ := Nat) (fun k => [(0, v), (1, .func (.func f) #[] #[]), (7, I l.length), (8, I k)]) (fun k w' => Rd slotS w' v l ∧ Old w w' ∧ k ≤ l.length ∧ ∀ x ∈ l.take k, q x = false) (fun k => l.length - k) 0 subs ⟨h1, hK, by omega, by simp⟩ ?_
  rintro k wl ⟨h1, hK, hk, hne⟩
  refine cseq <| cg <| vq (Val.lss rfl rfl) <| cnil <| cseq ?_
  refine WC.cond rfl (fun hc2 => ?_) (fun hc2 => ?_)
  ·try simp only [tstS] at hc2
   have ka : k < l.length := by omega
   obtain ⟨cs1, hc14, rfl, ok1⟩ := h1.el ka
   refine cskip <| cseq <| cblock <| cseq <| cg <| zm rfl <| za rfl <| cnil <| cseq ?_
   refine cg <| zm rfl <| zm rfl <| zm rfl <| vq (Val.indexAddr sl29 (by assumption) rfl rfl rfl side side) <| vq (Val.loadE agg66 rfl hc14 rfl) ?_
   refine ve (Eff.callV rfl hf rfl (hq _ _)) ?_
   rintro _ w9 ⟨hk9, rfl⟩
   replace h1 := h1.up hk9; replace hK := hK.up hk9
   refine cnil ?_
   refine WC.cond rfl (fun hc4 => ?_) (fun hc4 => ?_)
   ·try simp only [tstS] at hc4
    refine cseq <| cg <| zm rfl <| za rfl <| cnil ?_
    refine WC.ret1 rfl rfl ?_
    exact ⟨hK, _, rfl, by rw [List.any_eq_true.2 ⟨_, List.getElem_mem ka, hc4⟩]; simp⟩
   ·try simp only [tstS] at hc4
    refine cskip <| cg <| vq (Val.addI rfl rfl side side) <| zm rfl <| cnil ?_
    exact ⟨k + 1, subs, ⟨h1, hK, ka, any_step hne ka hc4⟩, by omega⟩
  ·try simp only [tstS] at hc2
   refine WC.exit rfl ?_
   refine cseq <| cg <| za rfl <| cnil ?_
   refine WC.ret1 rfl rfl ?_
   exact ⟨hK, -1, rfl, by rw [any_none hne (by omega)]; decide⟩

theorem containsInt_ok {w : World} {v : Value} {l : List Int} {f : FuncId} {q : Int → Bool} (h1 : Rd intS w v l) (hf : plainFn Try.prog f = true) (hq : ∀ (w : World) (x : Int), Calls Try.prog f #[I x] w (Ret fun v w' => Below w.heap.size w w' ∧ v = .bool (q x))) :
    Calls Try.prog 71 #[v, .func (.func f) #[] #[]] w (Ret fun v' w' => Below w.heap.size w w' ∧ v' = .bool (l.any q)) := by
  have hK : Old w w := Old.refl w
  refine enter (n := 9) (res := #[.tmp 4]) Try.func71 rfl rfl rfl rfl ?_
  refine cseq <| cg <| za rfl <| cnil <| cseq <| cg <| zm rfl <| zm rfl ?_
  refine ve (Eff.call pf77 rfl (indexInt_ok h1 hf hq)) ?_
  rintro v7 w1 ⟨hk1, i, rfl, hi⟩
  replace h1 := h1.up hk1; replace hK := hK.up hk1
  refine vq (Val.geq rfl rfl) <| za rfl <| cnil ?_
  refine WC.ret1 rfl rfl ?_
  exact ⟨hK, by rw [hi]⟩

theorem containsSlot_ok {w : World} {v : Value} {l : List (Int × Int)} {f : FuncId} {q : Int × Int → Bool} (h1 : Rd slotS w v l) (hf : plainFn Try.prog f = true) (hq : ∀ (w : World) (x : Int × Int), Calls Try.prog f #[.agg #[I x.1, I x.2]] w (Ret fun v w' => Below w.heap.size w w' ∧ v = .bool (q x))) :
    Calls Try.prog 74 #[v, .func (.func f) #[] #[]] w (Ret fun v' w' => Below w.heap.size w w' ∧ v' = .bool (l.any q)) := by
  have hK : Old w w := Old.refl w
  refine enter (n := 9) (res := #[.tmp 4]) Try.func74 rfl rfl rfl rfl ?_
  refine cseq <| cg <| za rfl <| cnil <| cseq <| cg <| zm rfl <| zm rfl ?_
  refine ve (Eff.call pf78 rfl (indexSlot_ok h1 hf hq)) ?_
  rintro v7 w1 ⟨hk1, i, rfl, hi⟩
  replace h1 := h1.up hk1; replace hK := hK.up hk1
  refine vq (Val.geq rfl rfl) <| za rfl <| cnil ?_
  refine WC.ret1 rfl rfl ?_
  exact ⟨hK, by rw [hi]⟩

theorem list_ok {w : World} {cs : List Value} {r : Rec} (h : RdRec w cs r) : Calls Try.prog 61 #[.agg cs.toArray] w (Ret fun v w' => Below w.heap.size w w' ∧ v = .bool (listP r)) := by
  obtain ⟨vl, vs, rfl, hl, hs, hq⟩ := h
  have hK : Old w w := Old.refl w
  have o1 := hl.oneC
  have o2 := hs.oneC
  refine enter (n := 22) (res := #[.tmp 2]) Try.func61 rfl rfl rfl rfl ?_
  refine cseq <| cg ?_
  refine ve (Eff.box rfl) ?_
  rintro _ w1 ⟨b1, rfl, hn1⟩
  have hk1 := hn1.below
  replace hl := hl.up hk1; replace hs := hs.up hk1; replace hK := hK.up hk1
  have hb1 := hn1.blk
  refine za rfl <| cnil <| cseq <| cseq <| cg <| vq (Val.fieldAddr fld31_0 rfl) <| vq (Val.loadB scl3 rfl hb1 rfl) <| vq (Val.eql rfl rfl) <| zm rfl ?_
  apply WR.sc true 4 _ (fun w' => w1 = w')
  case hl | hg | hu | hv | hs | hoff | hd => rfl
  case hF => exact fun _ => rfl
  case hT =>
   intro hq8
   try simp only [tstS] at hq8
   simp only [List.take_succ_cons, List.take_zero]
   refine WR.on rfl rfl ?_
   refine vq (Val.fieldAddr fld31_4 rfl) ?_
   refine WR.on rfl rfl ?_
   refine vq (Val.loadB scl24 rfl hb1 rfl) ?_
   refine WR.on rfl rfl ?_
   first | refine vq (Val.rdlen sl24 (by assumption) rfl) ?_ | refine vq (Val.sllen Try.underlying24 rfl) ?_
   refine WR.on rfl rfl ?_
   refine vq (Val.neq rfl rfl) ?_
   exact WR.nil ⟨rfl, Sub.drop _ 4 _ rfl rfl, rfl⟩
  rintro _ rfl
  refine cnil ?_
  refine WC.cond rfl (fun hc1 => ?_) (fun hc1 => ?_)
  ·try simp only [tstS] at hc1
   refine cseq <| cg <| za rfl <| cnil ?_
   refine WC.ret1 rfl rfl ?_
   exact ⟨hK, by simp [listP, hc1]⟩
  ·try simp only [tstS] at hc1
   refine cskip <| cseq <| cg <| vq (Val.fieldAddr fld31_4 rfl) <| vq (Val.loadB scl24 rfl hb1 rfl) ?_
   first | refine vq (Val.rdlen sl24 (by assumption) rfl) ?_ | refine vq (Val.sllen Try.underlying24 rfl) ?_
   refine vq (Val.leq rfl rfl) <| zm rfl ?_
   apply WR.sc true 4 (!(r.list.any fun n => !numB n)) (fun w' => Below w1.heap.size w1 w')
   case hl | hg | hu | hv | hs | hoff | hd => rfl
   case hF => exact fun _ => Below.refl _ _
   case hT =>
    intro hq9
    try simp only [tstS] at hq9
    simp only [List.take_succ_cons, List.take_zero]
    have hKsc9 : Old w1 w1 := Old.refl _
    refine WR.on rfl rfl ?_
    refine vq (Val.fieldAddr fld31_4 rfl) ?_
    refine WR.on rfl rfl ?_
    refine vq (Val.loadB scl24 rfl hb1 rfl) ?_
    refine WR.on rfl rfl ?_
    refine ve (Eff.call pf71 rfl (containsInt_ok hl pf72 (fun _ x ↦ list1_ok x))) ?_
    rintro v19 w2 ⟨hk2, rfl⟩
    replace hl := hl.up hk2; replace hs := hs.up hk2; replace hK := hK.up hk2; replace hb1 := hb1.up hk2; replace hKsc9 := hKsc9.up hk2
    refine WR.on rfl rfl ?_
    refine vq (Val.not rfl) ?_
    exact WR.nil ⟨rfl, Sub.drop _ 4 _ rfl rfl, hKsc9⟩
   intro w3 hk3
   replace hl := hl.up hk3; replace hs := hs.up hk3; replace hK := hK.up hk3; replace hb1 := hb1.up hk3
   refine za rfl <| cnil ?_
   refine WC.ret1 rfl rfl ?_
   exact ⟨hK, by rw [listP, hc1]; simp only [cond_true, Bool.not_false, Bool.true_and]⟩

theorem places_ok {w : World} {v : Value} {l : List (Int × Int)} (h1 : Rd slotS w v l) : Calls Try.prog 62 #[v] w (Ret fun v' w' => Below w.heap.size w w' ∧ v' = .bool (placesP l)) := by
  have hK : Old w w := Old.refl w
  refine enter (n := 18) (res := #[.tmp 2]) Try.func62 rfl rfl rfl rfl ?_
  refine cseq <| cg <| za rfl <| cnil <| cseq <| cg <| za rfl <| cnil <| cseq ?_
  refine cg <| zm rfl ?_
  first | refine vq (Val.rdlen sl29 (by assumption) rfl) ?_ | refine vq (Val.sllen Try.underlying29 rfl) ?_
  refine vq (Val.geq rfl rfl) <| zm rfl ?_
  apply WR.sc true 3 _ (fun w' => w = w')
  case hl | hg | hu | hv | hs | hoff | hd => rfl
  case hF => exact fun _ => rfl
  case hT =>
   intro hq7
   try simp only [tstS] at hq7
   simp only [List.take_succ_cons, List.take_zero]
   refine WR.on rfl rfl ?_
   refine zm rfl ?_
   refine WR.on rfl rfl ?_
   first | refine vq (Val.rdlen sl29 (by assumption) rfl) ?_ | refine vq (Val.sllen Try.underlying29 rfl) ?_
   refine WR.on rfl rfl ?_
   refine vq (Val.leq rfl rfl) ?_
   exact WR.nil ⟨rfl, Sub.drop _ 3 _ rfl rfl, rfl⟩
  rintro _ rfl
  refine zm rfl ?_
  apply WR.sc true 4 (!(l.any slotBad)) (fun w' => Below w.heap.size w w')
  case hl | hg | hu | hv | hs | hoff | hd => rfl
  case hF => exact fun _ => Below.refl _ _
  case hT =>
   intro hq13
   try simp only [tstS] at hq13
   simp only [List.take_succ_cons, List.take_zero]
   have hKsc13 : Old w w := Old.refl _
   refine WR.on rfl rfl ?_
   refine zm rfl ?_
   refine WR.on rfl rfl ?_
   refine zm rfl ?_
   refine WR.on rfl rfl ?_
   refine ve (Eff.call pf74 rfl (containsSlot_ok h1 pf73 (fun _ x ↦ places1_ok x))) ?_
   rintro v15 w1 ⟨hk1, rfl⟩
   replace h1 := h1.up hk1; replace hK := hK.up hk1; replace hKsc13 := hKsc13.up hk1
   refine WR.on rfl rfl ?_
   refine vq (Val.not rfl) ?_
   exact WR.nil ⟨rfl, Sub.drop _ 4 _ rfl rfl, hKsc13⟩
  intro w2 hk2
  replace h1 := h1.up hk2; replace hK := hK.up hk2
  refine za rfl <| cnil ?_
  refine WC.ret1 rfl rfl ?_
  exact ⟨hK, rfl⟩
end Go.Proofs.Ythlfolpcmcejkaa

namespace Go.Proofs.Ythlfolpcmcejkaa
open Go Go.Eng Go.RowKit Silo TryT

theorem may_ok {w : World} {cs : List Value} {r : Rec} (h : RdRec w cs r) : Calls Try.prog 44 #[.agg cs.toArray] w (Ret fun v w' => Below w.heap.size w w' ∧ v = .bool (mayB r)) := by
  obtain ⟨vl, vs, rfl, hl, hs, hq⟩ := h
  have hK : Old w w := Old.refl w
  have o1 := hl.oneC
  have o2 := hs.oneC
  refine enter (n := 108) (res := #[.tmp 2]) Try.func44 rfl rfl rfl rfl ?_
  refine cseq <| cg ?_
  refine ve (Eff.box rfl) ?_
  rintro _ w1 ⟨b1, rfl, hn1⟩
  have hk1 := hn1.below
  replace hl := hl.up hk1; replace hs := hs.up hk1; replace hK := hK.up hk1
  have hb1 := hn1.blk
  refine za rfl <| cnil <| cseq <| cg <| vq (Val.fieldAddr fld31_0 rfl) <| vq (Val.loadB scl3 rfl hb1 rfl) <| za rfl <| cnil <| cseq ?_
  refine cseq <| cg <| zm rfl <| vq (Val.lss rfl rfl) <| zm rfl ?_
  apply WR.sc false 2 _ (fun w' => w1 = w')
  case hl | hg | hu | hv | hs | hoff | hd => rfl
  case hF => exact fun _ => rfl
  case hT =>
   intro hq5
   try simp only [tstS] at hq5
   simp only [List.take_succ_cons, List.take_zero]
   refine WR.on rfl rfl ?_
   refine zm rfl ?_
   refine WR.on rfl rfl ?_
   refine vq (Val.gtr rfl rfl) ?_
   exact WR.nil ⟨rfl, Sub.drop _ 2 _ rfl rfl, rfl⟩
  rintro _ rfl
  refine cnil ?_
  refine WC.cond rfl (fun hc2 => ?_) (fun hc2 => ?_)
  ·skip
   refine cseq <| cg <| za rfl <| cnil ?_
   refine WC.ret1 rfl rfl ?_
   have e : kindBad r = true := hc2
   exact ⟨hK, by rw [mayB_prog, e]; rfl⟩
  ·skip
   refine cskip <| cseq <| cseq <| cg <| zm rfl ?_
   refine ve (Eff.call pf60 rfl (has_ok r.kind 105)) ?_
   rintro v13 w2 ⟨hk2, rfl⟩
   replace hl := hl.up hk2; replace hs := hs.up hk2; replace hK := hK.up hk2; replace hb1 := hb1.up hk2
   refine zm rfl ?_
   apply WR.sc true 4 (!numB r.id) (fun w' => Below w2.heap.size w2 w')
   case hl | hg | hu | hv | hs | hoff | hd => rfl
   case hF => exact fun _ => Below.refl _ _
   case hT =>
    intro hq7
    try simp only [tstS] at hq7
    simp only [List.take_succ_cons, List.take_zero]
    have hKsc7 : Old w2 w2 := Old.refl _
    refine WR.on rfl rfl ?_
    refine vq (Val.fieldAddr fld31_1 rfl) ?_
    refine WR.on rfl rfl ?_
    refine vq (Val.loadB scl3 rfl hb1 rfl) ?_
    refine WR.on rfl rfl ?_
    refine ve (Eff.call pf54 rfl (number_ok r.id)) ?_
    rintro v17 w3 ⟨hk3, rfl⟩
    replace hl := hl.up hk3; replace hs := hs.up hk3; replace hK := hK.up hk3; replace hb1 := hb1.up hk3; replace hKsc7 := hKsc7.up hk3
    refine WR.on rfl rfl ?_
    refine vq (Val.not rfl) ?_
    exact WR.nil ⟨rfl, Sub.drop _ 4 _ rfl rfl, hKsc7⟩
   intro w4 hk4
   replace hl := hl.up hk4; replace hs := hs.up hk4; replace hK := hK.up hk4; replace hb1 := hb1.up hk4
   refine zm rfl ?_
   apply WR.sc false 14 (hasB r.kind 110 && (decide ((r.name.length : Int) < 1) || decide (40 < (r.name.length : Int)))) (fun w' => Below w4.heap.size w4 w')
   case hl | hg | hu | hv | hs | hoff | hd => rfl
   case hF => exact fun _ => Below.refl _ _
   case hT =>
    intro hq23
    try simp only [tstS] at hq23
    simp only [List.take_succ_cons, List.take_zero]
    have hKsc23 : Old w4 w4 := Old.refl _
    refine WR.on rfl rfl ?_
    refine zm rfl ?_
    refine WR.on rfl rfl ?_
    refine ve (Eff.call pf60 rfl (has_ok r.kind 110)) ?_
    rintro v22 w5 ⟨hk5, rfl⟩
    replace hl := hl.up hk5; replace hs := hs.up hk5; replace hK := hK.up hk5; replace hb1 := hb1.up hk5; replace hKsc23 := hKsc23.up hk5
    refine WR.on rfl rfl ?_
    refine zm rfl ?_
    apply WR.sc true 10 _ (fun w' => w5 = w')
    case hl | hg | hu | hv | hs | hoff | hd => rfl
    case hF => exact fun _ => rfl
    case hT =>
     intro hq22
     try simp only [tstS] at hq22
     simp only [List.take_succ_cons, List.take_zero]
     refine WR.on rfl rfl ?_
     refine vq (Val.fieldAddr fld31_2 rfl) ?_
     refine WR.on rfl rfl ?_
     refine vq (Val.loadB scl9 rfl hb1 rfl) ?_
     refine WR.on rfl rfl ?_
     refine vq (Val.slen Try.underlying9 rfl) ?_
     refine WR.on rfl rfl ?_
     refine vq (Val.lss rfl rfl) ?_
     refine WR.on rfl rfl ?_
     refine zm rfl ?_
     apply WR.sc false 4 _ (fun w' => w5 = w')
     case hl | hg | hu | hv | hs | hoff | hd => rfl
     case hF => exact fun _ => rfl
     case hT =>
      intro hq21
      try simp only [tstS] at hq21
      simp only [List.take_succ_cons, List.take_zero]
      refine WR.on rfl rfl ?_
      refine vq (Val.fieldAddr fld31_2 rfl) ?_
      refine WR.on rfl rfl ?_
      refine vq (Val.loadB scl9 rfl hb1 rfl) ?_
      refine WR.on rfl rfl ?_
      refine vq (Val.slen Try.underlying9 rfl) ?_
      refine WR.on rfl rfl ?_
      refine vq (Val.gtr rfl rfl) ?_
      exact WR.nil ⟨rfl, Sub.drop _ 4 _ rfl rfl, rfl⟩
     rintro _ rfl
     exact WR.nil ⟨rfl, Sub.drop _ 6 _ rfl rfl, rfl⟩
    rintro _ rfl
    exact WR.nil ⟨rfl, Sub.drop _ 4 _ rfl rfl, hKsc23⟩
   intro w6 hk6
   replace hl := hl.up hk6; replace hs := hs.up hk6; replace hK := hK.up hk6; replace hb1 := hb1.up hk6
   refine zm rfl ?_
   apply WR.sc false 8 (hasB r.kind 100 && !decide ((r.digest.length : Int) = 32)) (fun w' => Below w6.heap.size w6 w')
   case hl | hg | hu | hv | hs | hoff | hd => rfl
   case hF => exact fun _ => Below.refl _ _
   case hT =>
    intro hq33
    try simp only [tstS] at hq33
    simp only [List.take_succ_cons, List.take_zero]
    have hKsc33 : Old w6 w6 := Old.refl _
    refine WR.on rfl rfl ?_
    refine zm rfl ?_
    refine WR.on rfl rfl ?_
    refine ve (Eff.call pf60 rfl (has_ok r.kind 100)) ?_
    rintro v38 w7 ⟨hk7, rfl⟩
    replace hl := hl.up hk7; replace hs := hs.up hk7; replace hK := hK.up hk7; replace hb1 := hb1.up hk7; replace hKsc33 := hKsc33.up hk7
    refine WR.on rfl rfl ?_
    refine zm rfl ?_
    apply WR.sc true 4 _ (fun w' => w7 = w')
    case hl | hg | hu | hv | hs | hoff | hd => rfl
    case hF => exact fun _ => rfl
    case hT =>
     intro hq32
     try simp only [tstS] at hq32
     simp only [List.take_succ_cons, List.take_zero]
     refine WR.on rfl rfl ?_
     refine vq (Val.fieldAddr fld31_3 rfl) ?_
     refine WR.on rfl rfl ?_
     refine vq (Val.loadB scl9 rfl hb1 rfl) ?_
     refine WR.on rfl rfl ?_
     refine vq (Val.slen Try.underlying9 rfl) ?_
     refine WR.on rfl rfl ?_
     refine vq (Val.neq rfl rfl) ?_
     exact WR.nil ⟨rfl, Sub.drop _ 4 _ rfl rfl, rfl⟩
    rintro _ rfl
    exact WR.nil ⟨rfl, Sub.drop _ 4 _ rfl rfl, hKsc33⟩
   intro w8 hk8
   replace hl := hl.up hk8; replace hs := hs.up hk8; replace hK := hK.up hk8; replace hb1 := hb1.up hk8
   refine cnil ?_
   refine WC.cond rfl (fun hc4 => ?_) (fun hc4 => ?_)
   ·skip
    refine cseq <| cg <| za rfl <| cnil ?_
    refine WC.ret1 rfl rfl ?_
    have e : progBad1 r = true := hc4
    exact ⟨hK, by rw [mayB_prog, e]; simp⟩
   ·skip
    refine cskip <| cseq <| cseq <| cg <| zm rfl ?_
    refine ve (Eff.call pf60 rfl (has_ok r.kind 108)) ?_
    rintro v47 w9 ⟨hk9, rfl⟩
    replace hl := hl.up hk9; replace hs := hs.up hk9; replace hK := hK.up hk9; replace hb1 := hb1.up hk9
    refine zm rfl ?_
    apply WR.sc true 3 (!listP r) (fun w' => Below w9.heap.size w9 w')
    case hl | hg | hu | hv | hs | hoff | hd => rfl
    case hF => exact fun _ => Below.refl _ _
    case hT =>
     intro hq6
     try simp only [tstS] at hq6
     simp only [List.take_succ_cons, List.take_zero]
     have hKsc6 : Old w9 w9 := Old.refl _
     refine WR.on rfl rfl ?_
     refine vq (Val.loadBN agg31 rfl hb1 rfl) ?_
     refine WR.on rfl rfl ?_
     refine ve (Eff.call pf61 rfl (list_ok (r := r) (cs := [I r.kind, I r.id, St r.name, St r.digest, vl, vs]) ⟨vl, vs, rfl, hl, hs, hq⟩)) ?_
     rintro v50 w10 ⟨hk10, rfl⟩
     replace hl := hl.up hk10; replace hs := hs.up hk10; replace hK := hK.up hk10; replace hb1 := hb1.up hk10; replace hKsc6 := hKsc6.up hk10
     refine WR.on rfl rfl ?_
     refine vq (Val.not rfl) ?_
     exact WR.nil ⟨rfl, Sub.drop _ 3 _ rfl rfl, hKsc6⟩
    intro w11 hk11
    replace hl := hl.up hk11; replace hs := hs.up hk11; replace hK := hK.up hk11; replace hb1 := hb1.up hk11
    refine zm rfl ?_
    apply WR.sc false 8 (hasB r.kind 115 && !placesP r.slots) (fun w' => Below w11.heap.size w11 w')
    case hl | hg | hu | hv | hs | hoff | hd => rfl
    case hF => exact fun _ => Below.refl _ _
    case hT =>
     intro hq16
     try simp only [tstS] at hq16
     simp only [List.take_succ_cons, List.take_zero]
     have hKsc16 : Old w11 w11 := Old.refl _
     refine WR.on rfl rfl ?_
     refine zm rfl ?_
     refine WR.on rfl rfl ?_
     refine ve (Eff.call pf60 rfl (has_ok r.kind 115)) ?_
     rintro v55 w12 ⟨hk12, rfl⟩
     replace hl := hl.up hk12; replace hs := hs.up hk12; replace hK := hK.up hk12; replace hb1 := hb1.up hk12; replace hKsc16 := hKsc16.up hk12
     refine WR.on rfl rfl ?_
     refine zm rfl ?_
     apply WR.sc true 4 (!placesP r.slots) (fun w' => Below w12.heap.size w12 w')
     case hl | hg | hu | hv | hs | hoff | hd => rfl
     case hF => exact fun _ => Below.refl _ _
     case hT =>
      intro hq15
      try simp only [tstS] at hq15
      simp only [List.take_succ_cons, List.take_zero]
      have hKsc15 : Old w12 w12 := Old.refl _
      refine WR.on rfl rfl ?_
      refine vq (Val.fieldAddr fld31_5 rfl) ?_
      refine WR.on rfl rfl ?_
      refine vq (Val.loadB scl29 rfl hb1 rfl) ?_
      refine WR.on rfl rfl ?_
      refine ve (Eff.call pf62 rfl (places_ok hs)) ?_
      rintro v59 w13 ⟨hk13, rfl⟩
      replace hl := hl.up hk13; replace hs := hs.up hk13; replace hK := hK.up hk13; replace hb1 := hb1.up hk13; replace hKsc16 := hKsc16.up hk13; replace hKsc15 := hKsc15.up hk13
      refine WR.on rfl rfl ?_
      refine vq (Val.not rfl) ?_
      exact WR.nil ⟨rfl, Sub.drop _ 4 _ rfl rfl, hKsc15⟩
     intro w14 hk14
     replace hl := hl.up hk14; replace hs := hs.up hk14; replace hK := hK.up hk14; replace hb1 := hb1.up hk14; replace hKsc16 := hKsc16.up hk14
     exact WR.nil ⟨rfl, Sub.drop _ 4 _ rfl rfl, hKsc16⟩
    intro w15 hk15
    replace hl := hl.up hk15; replace hs := hs.up hk15; replace hK := hK.up hk15; replace hb1 := hb1.up hk15
    refine cnil ?_
    refine WC.cond rfl (fun hc6 => ?_) (fun hc6 => ?_)
    ·skip
     refine cseq <| cg <| za rfl <| cnil ?_
     refine WC.ret1 rfl rfl ?_
     have e : progBad2 r = true := hc6
     exact ⟨hK, by rw [mayB_prog, e]; simp⟩
    ·skip
     refine cskip <| cseq <| cg <| zm rfl ?_
     refine ve (Eff.call pf60 rfl (has_ok r.kind 105)) ?_
     rintro v64 w16 ⟨hk16, rfl⟩
     replace hl := hl.up hk16; replace hs := hs.up hk16; replace hK := hK.up hk16; replace hb1 := hb1.up hk16
     refine zm rfl ?_
     apply WR.sc false 3 _ (fun w' => w16 = w')
     case hl | hg | hu | hv | hs | hoff | hd => rfl
     case hF => exact fun _ => rfl
     case hT =>
      intro hq6
      try simp only [tstS] at hq6
      simp only [List.take_succ_cons, List.take_zero]
      refine WR.on rfl rfl ?_
      refine vq (Val.fieldAddr fld31_1 rfl) ?_
      refine WR.on rfl rfl ?_
      refine vq (Val.loadB scl3 rfl hb1 rfl) ?_
      refine WR.on rfl rfl ?_
      refine vq (Val.eql rfl rfl) ?_
      exact WR.nil ⟨rfl, Sub.drop _ 3 _ rfl rfl, rfl⟩
     rintro _ rfl
     refine zm rfl ?_
     apply WR.sc true 7 (hasB r.kind 110 || (r.name == [])) (fun w' => Below w16.heap.size w16 w')
     case hl | hg | hu | hv | hs | hoff | hd => rfl
     case hF => exact fun _ => Below.refl _ _
     case hT =>
      intro hq15
      try simp only [tstS] at hq15
      simp only [List.take_succ_cons, List.take_zero]
      have hKsc15 : Old w16 w16 := Old.refl _
      refine WR.on rfl rfl ?_
      refine zm rfl ?_
      refine WR.on rfl rfl ?_
      refine ve (Eff.call pf60 rfl (has_ok r.kind 110)) ?_
      rintro v72 w17 ⟨hk17, rfl⟩
      replace hl := hl.up hk17; replace hs := hs.up hk17; replace hK := hK.up hk17; replace hb1 := hb1.up hk17; replace hKsc15 := hKsc15.up hk17
      refine WR.on rfl rfl ?_
      refine zm rfl ?_
      apply WR.sc false 3 _ (fun w' => w17 = w')
      case hl | hg | hu | hv | hs | hoff | hd => rfl
      case hF => exact fun _ => rfl
      case hT =>
       intro hq14
       try simp only [tstS] at hq14
       simp only [List.take_succ_cons, List.take_zero]
       refine WR.on rfl rfl ?_
       refine vq (Val.fieldAddr fld31_2 rfl) ?_
       refine WR.on rfl rfl ?_
       refine vq (Val.loadB scl9 rfl hb1 rfl) ?_
       refine WR.on rfl rfl ?_
       refine vq (Val.seq_ rfl rfl) ?_
       exact WR.nil ⟨rfl, Sub.drop _ 3 _ rfl rfl, rfl⟩
      rintro _ rfl
      exact WR.nil ⟨rfl, Sub.drop _ 4 _ rfl rfl, hKsc15⟩
     intro w18 hk18
     replace hl := hl.up hk18; replace hs := hs.up hk18; replace hK := hK.up hk18; replace hb1 := hb1.up hk18
     refine zm rfl ?_
     apply WR.sc true 7 (hasB r.kind 100 || (r.digest == [])) (fun w' => Below w18.heap.size w18 w')
     case hl | hg | hu | hv | hs | hoff | hd => rfl
     case hF => exact fun _ => Below.refl _ _
     case hT =>
      intro hq24
      try simp only [tstS] at hq24
      simp only [List.take_succ_cons, List.take_zero]
      have hKsc24 : Old w18 w18 := Old.refl _
      refine WR.on rfl rfl ?_
      refine zm rfl ?_
      refine WR.on rfl rfl ?_
      refine ve (Eff.call pf60 rfl (has_ok r.kind 100)) ?_
      rintro v81 w19 ⟨hk19, rfl⟩
      replace hl := hl.up hk19; replace hs := hs.up hk19; replace hK := hK.up hk19; replace hb1 := hb1.up hk19; replace hKsc24 := hKsc24.up hk19
      refine WR.on rfl rfl ?_
      refine zm rfl ?_
      apply WR.sc false 3 _ (fun w' => w19 = w')
      case hl | hg | hu | hv | hs | hoff | hd => rfl
      case hF => exact fun _ => rfl
      case hT =>
       intro hq23
       try simp only [tstS] at hq23
       simp only [List.take_succ_cons, List.take_zero]
       refine WR.on rfl rfl ?_
       refine vq (Val.fieldAddr fld31_3 rfl) ?_
       refine WR.on rfl rfl ?_
       refine vq (Val.loadB scl9 rfl hb1 rfl) ?_
       refine WR.on rfl rfl ?_
       refine vq (Val.seq_ rfl rfl) ?_
       exact WR.nil ⟨rfl, Sub.drop _ 3 _ rfl rfl, rfl⟩
      rintro _ rfl
      exact WR.nil ⟨rfl, Sub.drop _ 4 _ rfl rfl, hKsc24⟩
     intro w20 hk20
     replace hl := hl.up hk20; replace hs := hs.up hk20; replace hK := hK.up hk20; replace hb1 := hb1.up hk20
     refine zm rfl ?_
     apply WR.sc true 8 (hasB r.kind 108 || decide ((r.list.length : Int) = 0)) (fun w' => Below w20.heap.size w20 w')
     case hl | hg | hu | hv | hs | hoff | hd => rfl
     case hF => exact fun _ => Below.refl _ _
     case hT =>
      intro hq34
      try simp only [tstS] at hq34
      simp only [List.take_succ_cons, List.take_zero]
      have hKsc34 : Old w20 w20 := Old.refl _
      refine WR.on rfl rfl ?_
      refine zm rfl ?_
      refine WR.on rfl rfl ?_
      refine ve (Eff.call pf60 rfl (has_ok r.kind 108)) ?_
      rintro v90 w21 ⟨hk21, rfl⟩
      replace hl := hl.up hk21; replace hs := hs.up hk21; replace hK := hK.up hk21; replace hb1 := hb1.up hk21; replace hKsc34 := hKsc34.up hk21
      refine WR.on rfl rfl ?_
      refine zm rfl ?_
      apply WR.sc false 4 _ (fun w' => w21 = w')
      case hl | hg | hu | hv | hs | hoff | hd => rfl
      case hF => exact fun _ => rfl
      case hT =>
       intro hq33
       try simp only [tstS] at hq33
       simp only [List.take_succ_cons, List.take_zero]
       refine WR.on rfl rfl ?_
       refine vq (Val.fieldAddr fld31_4 rfl) ?_
       refine WR.on rfl rfl ?_
       refine vq (Val.loadB scl24 rfl hb1 rfl) ?_
       refine WR.on rfl rfl ?_
       first | refine vq (Val.rdlen sl24 (by assumption) rfl) ?_ | refine vq (Val.sllen Try.underlying24 rfl) ?_
       refine WR.on rfl rfl ?_
       refine vq (Val.eql rfl rfl) ?_
       exact WR.nil ⟨rfl, Sub.drop _ 4 _ rfl rfl, rfl⟩
      rintro _ rfl
      exact WR.nil ⟨rfl, Sub.drop _ 4 _ rfl rfl, hKsc34⟩
     intro w22 hk22
     replace hl := hl.up hk22; replace hs := hs.up hk22; replace hK := hK.up hk22; replace hb1 := hb1.up hk22
     refine zm rfl ?_
     apply WR.sc true 8 (hasB r.kind 115 || decide ((r.slots.length : Int) = 0)) (fun w' => Below w22.heap.size w22 w')
     case hl | hg | hu | hv | hs | hoff | hd => rfl
     case hF => exact fun _ => Below.refl _ _
     case hT =>
      intro hq44
      try simp only [tstS] at hq44
      simp only [List.take_succ_cons, List.take_zero]
      have hKsc44 : Old w22 w22 := Old.refl _
      refine WR.on rfl rfl ?_
      refine zm rfl ?_
      refine WR.on rfl rfl ?_
      refine ve (Eff.call pf60 rfl (has_ok r.kind 115)) ?_
      rintro v100 w23 ⟨hk23, rfl⟩
      replace hl := hl.up hk23; replace hs := hs.up hk23; replace hK := hK.up hk23; replace hb1 := hb1.up hk23; replace hKsc44 := hKsc44.up hk23
      refine WR.on rfl rfl ?_
      refine zm rfl ?_
      apply WR.sc false 4 _ (fun w' => w23 = w')
      case hl | hg | hu | hv | hs | hoff | hd => rfl
      case hF => exact fun _ => rfl
      case hT =>
       intro hq43
       try simp only [tstS] at hq43
       simp only [List.take_succ_cons, List.take_zero]
       refine WR.on rfl rfl ?_
       refine vq (Val.fieldAddr fld31_5 rfl) ?_
       refine WR.on rfl rfl ?_
       refine vq (Val.loadB scl29 rfl hb1 rfl) ?_
       refine WR.on rfl rfl ?_
       first | refine vq (Val.rdlen sl29 (by assumption) rfl) ?_ | refine vq (Val.sllen Try.underlying29 rfl) ?_
       refine WR.on rfl rfl ?_
       refine vq (Val.eql rfl rfl) ?_
       exact WR.nil ⟨rfl, Sub.drop _ 4 _ rfl rfl, rfl⟩
      rintro _ rfl
      exact WR.nil ⟨rfl, Sub.drop _ 4 _ rfl rfl, hKsc44⟩
     intro w24 hk24
     replace hl := hl.up hk24; replace hs := hs.up hk24; replace hK := hK.up hk24; replace hb1 := hb1.up hk24
     refine za rfl <| cnil ?_
     refine WC.ret1 rfl rfl ?_
     have e1 : kindBad r = false := hc2
     have e2 : progBad1 r = false := hc4
     have e3 : progBad2 r = false := hc6
     exact ⟨hK, by rw [mayB_prog, e1, e2, e3]; rfl⟩
theorem fieldsU_len (k : Int) : (fieldsU k).length ≤ 140737488355328 := by
  unfold fieldsU fieldsB
  repeat' split
  all_goals decide
theorem hasI_ok {w : World} (k : Int) : Calls Try.prog 43 #[St (fieldsU k), .int .u8 73] w (Ret fun v w' => Below w.heap.size w w' ∧ v = .bool (hasB k 105)) := by
  have := hasU_ok (w := w) (fieldsU k) 73 (fieldsU_len k)
  rwa [(hasU_fields k).1] at this
theorem hasN_ok {w : World} (k : Int) : Calls Try.prog 43 #[St (fieldsU k), .int .u8 78] w (Ret fun v w' => Below w.heap.size w w' ∧ v = .bool (hasB k 110)) := by
  have := hasU_ok (w := w) (fieldsU k) 78 (fieldsU_len k)
  rwa [(hasU_fields k).2.1] at this
theorem hasD_ok {w : World} (k : Int) : Calls Try.prog 43 #[St (fieldsU k), .int .u8 68] w (Ret fun v w' => Below w.heap.size w w' ∧ v = .bool (hasB k 100)) := by
  have := hasU_ok (w := w) (fieldsU k) 68 (fieldsU_len k)
  rwa [(hasU_fields k).2.2.1] at this
theorem hasL_ok {w : World} (k : Int) : Calls Try.prog 43 #[St (fieldsU k), .int .u8 76] w (Ret fun v w' => Below w.heap.size w w' ∧ v = .bool (hasB k 108)) := by
  have := hasU_ok (w := w) (fieldsU k) 76 (fieldsU_len k)
  rwa [(hasU_fields k).2.2.2.1] at this
theorem hasS_ok {w : World} (k : Int) : Calls Try.prog 43 #[St (fieldsU k), .int .u8 83] w (Ret fun v w' => Below w.heap.size w w' ∧ v = .bool (hasB k 115)) := by
  have := hasU_ok (w := w) (fieldsU k) 83 (fieldsU_len k)
  rwa [(hasU_fields k).2.2.2.2] at this

def wantLv (r : Rec) (v : Value) : Value := if hasB r.kind 108 then v else .slice none 0 0
def wantSv (r : Rec) (v : Value) : Value := if hasB r.kind 115 then v else .slice none 0 0
theorem rdNil {α : Type} (s : Shape α) (B : Nat) (w : World) : RdS s B w (.slice none 0 0) [] := RdS.nil s B w
theorem wantL_rd {B : Nat} {w : World} {v : Value} {r : Rec} (h : RdS intS B w v r.list) : RdS intS B w (wantLv r v) (wantL r) := by
  unfold wantLv wantL; split
  · exact h
  · exact rdNil _ _ _
theorem wantS_rd {B : Nat} {w : World} {v : Value} {r : Rec} (h : RdS slotS B w v r.slots) : RdS slotS B w (wantSv r v) (wantS r) := by
  unfold wantSv wantS; split
  · exact h
  · exact rdNil _ _ _

theorem want_i64 (r : Rec) (h : Go.Eng.Int64 r.id) : Go.Eng.Int64 (wantI r) := by
  unfold wantI; split
  · exact h
  · exact ⟨by decide, by decide⟩
theorem want_name (r : Rec) (h : r.name.length ≤ 140737488355328) : (wantN r).length ≤ 140737488355328 := by
  unfold wantN; split
  · exact h
  · simp
theorem want_dig (r : Rec) (h : r.digest.length ≤ 140737488355328) : (wantD r).length ≤ 140737488355328 := by
  unfold wantD; split
  · exact h
  · simp
theorem all_bad {α : Type} {q : α → Bool} {l : List α} {k : Nat} (h : k < l.length) (hq : q l[k] = false) : l.all q = false := by
  rw [List.all_eq_false]; exact ⟨_, List.getElem_mem h, by rw [hq]; decide⟩
theorem all_next {α : Type} {q : α → Bool} {l : List α} {k : Nat} (h : k < l.length) (h1 : (l.take k).all q = true) (hq : q l[k] = true) : (l.take (k + 1)).all q = true := by
  rw [List.take_succ_eq_append_getElem h, List.all_append, h1]; simp [hq]
def numB63 (n : Int) : Bool := decide (0 ≤ n) && decide (n ≤ 63)
theorem slot_bad {p : Int × Int} (h : (bif false then (!(decide (-1 ≤ p.1) && decide (p.1 ≤ 11))) && (!numB63 p.2) else (!(decide (-1 ≤ p.1) && decide (p.1 ≤ 11))) || (!numB63 p.2)) = true) : (!slotBad p) = false := by
  simp only [cond_false, numB63, Bool.or_eq_true, Bool.not_eq_true', Bool.and_eq_false_iff, decide_eq_false_iff_not] at h
  simp only [slotBad, Bool.not_eq_false', Bool.or_eq_true, decide_eq_true_eq]; omega
theorem slot_good {p : Int × Int} (h : (bif false then (!(decide (-1 ≤ p.1) && decide (p.1 ≤ 11))) && (!numB63 p.2) else (!(decide (-1 ≤ p.1) && decide (p.1 ≤ 11))) || (!numB63 p.2)) = false) : (!slotBad p) = true := by
  simp only [cond_false, numB63, Bool.or_eq_false_iff, Bool.not_eq_false', Bool.and_eq_true, decide_eq_true_eq] at h
  simp only [slotBad, Bool.not_eq_true', Bool.or_eq_false_iff, decide_eq_false_iff_not]; omega

theorem record_ok {w : World} {cs : List Value} {r : Rec} (h : RdRec w cs r) : Calls Try.prog 17 #[.agg cs.toArray] w (Ret fun v w' => Below w.heap.size w w' ∧ v = .bool (mayB r)) := by
  obtain ⟨vl, vs, rfl, hl, hs, hq⟩ := h
  have o1 := hl.oneC
  have o2 := hs.oneC
  have lsm := hl.small
  have cV1 : vl.cells = #[vl] := by obtain ⟨A, c, rfl, _⟩ := hl.form; rfl
  have cV2 : vs.cells = #[vs] := by obtain ⟨A, c, rfl, _⟩ := hs.form; rfl
  have ssm := hs.small
  obtain ⟨B, hB⟩ : ∃ B, B = w.heap.size := ⟨_, rfl⟩
  have hBw : B ≤ w.heap.size := Nat.le_of_eq hB
  have hK : Below B w w := Below.refl _ _
  rw [← hB] at hl hs ⊢
  refine enter (n := 140) (res := #[.tmp 2]) Try.func17 rfl rfl rfl rfl ?_
  refine cseq <| cg ?_
  refine ve (Eff.box rfl) ?_
  rintro _ w1 ⟨b1, rfl, hn1⟩
  have hk1 := hn1.below
  have hge1 : B ≤ b1 := by rw [hn1.at_]; exact hBw
  replace hl := hl.upB (hk1.mono hBw); replace hs := hs.upB (hk1.mono hBw); replace hK := hK.upB (hk1.mono hBw); replace hBw := Nat.le_trans hBw hk1.size
  have hb1 := hn1.blk
  refine za rfl <| cnil <| cseq <| cseq <| cg <| vq (Val.fieldAddr fld31_0 rfl) <| vq (Val.loadB scl3 rfl hb1 rfl) ?_
  have hlt2_b1 := hb1.lt
  refine ve (Eff.call pf41 rfl (between_ok r.kind 1 8)) ?_
  rintro v9 w2 ⟨hk2, rfl⟩
  replace hl := hl.upB (hk2.mono hBw); replace hs := hs.upB (hk2.mono hBw); replace hK := hK.upB (hk2.mono hBw); replace hb1 := hb1.up hk2; replace hBw := Nat.le_trans hBw hk2.size
  refine vq (Val.not rfl) <| cnil ?_
  refine WC.cond rfl (fun hc1 => ?_) (fun hc1 => ?_)
  ·skip
   refine cseq <| cg <| za rfl <| cnil ?_
   refine WC.ret1 rfl rfl ?_
   have e : kindBad r = true := by
     simp only [Bool.not_eq_true', Bool.and_eq_false_iff, decide_eq_false_iff_not] at hc1
     simp only [kindBad, Bool.or_eq_true, decide_eq_true_eq]; omega
   exact ⟨hK, by rw [mayB, e]; rfl⟩
  ·skip
   refine cskip <| cseq ?_
   have hkb : kindBad r = false := by
     simp only [Bool.not_eq_false', Bool.and_eq_true, decide_eq_true_eq] at hc1
     simp only [kindBad, Bool.or_eq_false_iff, decide_eq_false_iff_not]; omega
   have hk18 : 1 ≤ r.kind ∧ r.kind ≤ 8 := by
     simp only [Bool.not_eq_false', Bool.and_eq_true, decide_eq_true_eq] at hc1; exact hc1
   refine cg <| vq (Val.fieldAddr fld31_0 rfl) <| vq (Val.loadB scl3 rfl hb1 rfl) ?_
   have hlt3_b1 := hb1.lt
   refine ve (Eff.call pf42 rfl (fieldsU_ok r.kind (by omega) hk18.2)) ?_
   rintro v13 w3 ⟨hk3, rfl⟩
   replace hl := hl.upB (hk3.mono hBw); replace hs := hs.upB (hk3.mono hBw); replace hK := hK.upB (hk3.mono hBw); replace hb1 := hb1.up hk3; replace hBw := Nat.le_trans hBw hk3.size
   refine za rfl <| cnil <| cseq <| cg <| vq (Val.fieldAddr fld31_0 rfl) <| vq (Val.loadB scl3 rfl hb1 rfl) <| vq (Val.build (cells := #[I r.kind, I 0, St [], St [], .slice none 0 0, .slice none 0 0]) rfl (by kernel_rfl)) ?_
   refine ve (Eff.alloc zero31) ?_
   rintro _ w4 ⟨b4, rfl, hn4⟩
   have hk4 := hn4.below
   have hge4 : B ≤ b4 := by rw [hn4.at_]; exact hBw
   have hne4_b1 : b1 ≠ b4 := by have := hb1.lt; have := hn4.at_; omega
   replace hl := hl.upB (hk4.mono hBw); replace hs := hs.upB (hk4.mono hBw); replace hK := hK.upB (hk4.mono hBw); replace hb1 := hb1.up hk4; replace hBw := Nat.le_trans hBw hk4.size
   have hb4 := hn4.blk
   refine WR.eff_ (Eff.storeBN agg31 rfl rfl hb4 rfl rfl ones) ?_
   intro _ w5 hS5
   have hk5 : Below B _ _ := Blk.store_below hS5 hge4 hBw
   replace hb1 := hb1.grown hS5.grown (by simp; omega)
   replace hl := hl.upB hk5; replace hs := hs.upB hk5; replace hK := hK.upB hk5; replace hBw := Nat.le_trans hBw hk5.size
   replace hb4 := hS5.blk
   refine cnil <| cseq <| cseq <| cg <| zm rfl ?_
   have hlt6_b1 := hb1.lt
   have hlt6_b4 := hb4.lt
   refine ve (Eff.call pf43 rfl (hasI_ok r.kind)) ?_
   rintro v18 w6 ⟨hk6, rfl⟩
   replace hl := hl.upB (hk6.mono hBw); replace hs := hs.upB (hk6.mono hBw); replace hK := hK.upB (hk6.mono hBw); replace hb1 := hb1.up hk6; replace hb4 := hb4.up hk6; replace hBw := Nat.le_trans hBw hk6.size
   refine cnil ?_
   refine WC.mono (N := fun e w' => Sub [(4000000, .tuple #[]), (1, .pointer (some ⟨b1, 0, none⟩)), (3, St (fieldsU r.kind)), (4, .pointer (some ⟨b4, 0, none⟩))] e ∧ Blk w' b1 [I r.kind, I r.id, St r.name, St r.digest, vl, vs] 31 ∧ Blk w' b4 [I r.kind, I (wantI r), St [], St [], .slice none 0 0, .slice none 0 0] 31 ∧ RdS intS B w' vl r.list ∧ RdS slotS B w' vs r.slots ∧ Below B w w' ∧ B ≤ w'.heap.size) ?_ ?_
   ·refine WC.cond rfl (fun hc5 => ?_) (fun hc5 => ?_)
    ·try simp only [tstS] at hc5
     refine cg <| vq (Val.fieldAddr fld31_1 rfl) <| vq (Val.loadB scl3 rfl hb1 rfl) <| vq (Val.fieldAddr fld31_1 rfl) ?_
     refine WR.eff_ (Eff.storeB scl3 rfl rfl ra ra hb4 rfl) ?_
     intro _ w7 hS7
     have hk7 : Below B _ _ := Blk.store_below hS7 hge4 hBw
     replace hb1 := hb1.grown hS7.grown (by simp; omega)
     replace hl := hl.upB hk7; replace hs := hs.upB hk7; replace hK := hK.upB hk7; replace hBw := Nat.le_trans hBw hk7.size
     replace hb4 := hS7.blk
     refine cnil ?_
     exact ⟨subs, hb1, by simpa [wantI, hc5] using hb4, hl, hs, hK, hBw⟩
    ·try simp only [tstS] at hc5
     refine cskip ?_
     exact ⟨subs, hb1, by simpa [wantI, hc5] using hb4, hl, hs, hK, hBw⟩
   ·skip
    rintro _ wc5 ⟨hsub, hb1, hb4, hl, hs, hK, hBw⟩
    refine WC.sub hsub ?_
    clear hsub
    refine cseq <| cseq <| cg <| zm rfl ?_
    have hlt8_b1 := hb1.lt
    have hlt8_b4 := hb4.lt
    refine ve (Eff.call pf43 rfl (hasN_ok r.kind)) ?_
    rintro v23 w8 ⟨hk8, rfl⟩
    replace hl := hl.upB (hk8.mono hBw); replace hs := hs.upB (hk8.mono hBw); replace hK := hK.upB (hk8.mono hBw); replace hb1 := hb1.up hk8; replace hb4 := hb4.up hk8; replace hBw := Nat.le_trans hBw hk8.size
    refine cnil ?_
    refine WC.mono (N := fun e w' => Sub [(4000000, .tuple #[]), (1, .pointer (some ⟨b1, 0, none⟩)), (3, St (fieldsU r.kind)), (4, .pointer (some ⟨b4, 0, none⟩))] e ∧ Blk w' b1 [I r.kind, I r.id, St r.name, St r.digest, vl, vs] 31 ∧ Blk w' b4 [I r.kind, I (wantI r), St (wantN r), St [], .slice none 0 0, .slice none 0 0] 31 ∧ RdS intS B w' vl r.list ∧ RdS slotS B w' vs r.slots ∧ Below B w w' ∧ B ≤ w'.heap.size) ?_ ?_
    ·refine WC.cond rfl (fun hc7 => ?_) (fun hc7 => ?_)
     ·try simp only [tstS] at hc7
      refine cg <| vq (Val.fieldAddr fld31_2 rfl) <| vq (Val.loadB scl9 rfl hb1 rfl) <| vq (Val.fieldAddr fld31_2 rfl) ?_
      refine WR.eff_ (Eff.storeB scl9 rfl rfl ra ra hb4 rfl) ?_
      intro _ w9 hS9
      have hk9 : Below B _ _ := Blk.store_below hS9 hge4 hBw
      replace hb1 := hb1.grown hS9.grown (by simp; omega)
      replace hl := hl.upB hk9; replace hs := hs.upB hk9; replace hK := hK.upB hk9; replace hBw := Nat.le_trans hBw hk9.size
      replace hb4 := hS9.blk
      refine cnil ?_
      exact ⟨subs, hb1, by simpa [wantN, hc7] using hb4, hl, hs, hK, hBw⟩
     ·try simp only [tstS] at hc7
      refine cskip ?_
      exact ⟨subs, hb1, by simpa [wantN, hc7] using hb4, hl, hs, hK, hBw⟩
    ·skip
     rintro _ wc7 ⟨hsub, hb1, hb4, hl, hs, hK, hBw⟩
     refine WC.sub hsub ?_
     clear hsub
     refine cseq <| cseq <| cg <| zm rfl ?_
     have hlt10_b1 := hb1.lt
     have hlt10_b4 := hb4.lt
     refine ve (Eff.call pf43 rfl (hasD_ok r.kind)) ?_
     rintro v28 w10 ⟨hk10, rfl⟩
     replace hl := hl.upB (hk10.mono hBw); replace hs := hs.upB (hk10.mono hBw); replace hK := hK.upB (hk10.mono hBw); replace hb1 := hb1.up hk10; replace hb4 := hb4.up hk10; replace hBw := Nat.le_trans hBw hk10.size
     refine cnil ?_
     refine WC.mono (N := fun e w' => Sub [(4000000, .tuple #[]), (1, .pointer (some ⟨b1, 0, none⟩)), (3, St (fieldsU r.kind)), (4, .pointer (some ⟨b4, 0, none⟩))] e ∧ Blk w' b1 [I r.kind, I r.id, St r.name, St r.digest, vl, vs] 31 ∧ Blk w' b4 [I r.kind, I (wantI r), St (wantN r), St (wantD r), .slice none 0 0, .slice none 0 0] 31 ∧ RdS intS B w' vl r.list ∧ RdS slotS B w' vs r.slots ∧ Below B w w' ∧ B ≤ w'.heap.size) ?_ ?_
     ·refine WC.cond rfl (fun hc9 => ?_) (fun hc9 => ?_)
      ·try simp only [tstS] at hc9
       refine cg <| vq (Val.fieldAddr fld31_3 rfl) <| vq (Val.loadB scl9 rfl hb1 rfl) <| vq (Val.fieldAddr fld31_3 rfl) ?_
       refine WR.eff_ (Eff.storeB scl9 rfl rfl ra ra hb4 rfl) ?_
       intro _ w11 hS11
       have hk11 : Below B _ _ := Blk.store_below hS11 hge4 hBw
       replace hb1 := hb1.grown hS11.grown (by simp; omega)
       replace hl := hl.upB hk11; replace hs := hs.upB hk11; replace hK := hK.upB hk11; replace hBw := Nat.le_trans hBw hk11.size
       replace hb4 := hS11.blk
       refine cnil ?_
       exact ⟨subs, hb1, by simpa [wantD, hc9] using hb4, hl, hs, hK, hBw⟩
      ·try simp only [tstS] at hc9
       refine cskip ?_
       exact ⟨subs, hb1, by simpa [wantD, hc9] using hb4, hl, hs, hK, hBw⟩
     ·skip
      rintro _ wc9 ⟨hsub, hb1, hb4, hl, hs, hK, hBw⟩
      refine WC.sub hsub ?_
      clear hsub
      refine cseq <| cseq <| cg <| zm rfl ?_
      have hlt12_b1 := hb1.lt
      have hlt12_b4 := hb4.lt
      refine ve (Eff.call pf43 rfl (hasL_ok r.kind)) ?_
      rintro v33 w12 ⟨hk12, rfl⟩
      replace hl := hl.upB (hk12.mono hBw); replace hs := hs.upB (hk12.mono hBw); replace hK := hK.upB (hk12.mono hBw); replace hb1 := hb1.up hk12; replace hb4 := hb4.up hk12; replace hBw := Nat.le_trans hBw hk12.size
      refine cnil ?_
      refine WC.mono (N := fun e w' => Sub [(4000000, .tuple #[]), (1, .pointer (some ⟨b1, 0, none⟩)), (3, St (fieldsU r.kind)), (4, .pointer (some ⟨b4, 0, none⟩))] e ∧ Blk w' b1 [I r.kind, I r.id, St r.name, St r.digest, vl, vs] 31 ∧ Blk w' b4 [I r.kind, I (wantI r), St (wantN r), St (wantD r), (wantLv r vl), .slice none 0 0] 31 ∧ RdS intS B w' vl r.list ∧ RdS slotS B w' vs r.slots ∧ Below B w w' ∧ B ≤ w'.heap.size) ?_ ?_
      ·refine WC.cond rfl (fun hc11 => ?_) (fun hc11 => ?_)
       ·try simp only [tstS] at hc11
        refine cg <| vq (Val.fieldAddr fld31_4 rfl) <| vq (Val.loadB scl24 rfl hb1 rfl) <| vq (Val.fieldAddr fld31_4 rfl) ?_
        refine WR.eff_ (Eff.storeB scl24 rfl rfl ra ra hb4 rfl) ?_
        intro _ w13 hS13
        have hk13 : Below B _ _ := Blk.store_below hS13 hge4 hBw
        replace hb1 := hb1.grown hS13.grown (by simp; omega)
        replace hl := hl.upB hk13; replace hs := hs.upB hk13; replace hK := hK.upB hk13; replace hBw := Nat.le_trans hBw hk13.size
        replace hb4 := hS13.blk
        refine cnil ?_
        exact ⟨subs, hb1, by simpa [wantLv, hc11] using hb4, hl, hs, hK, hBw⟩
       ·try simp only [tstS] at hc11
        refine cskip ?_
        exact ⟨subs, hb1, by simpa [wantLv, hc11] using hb4, hl, hs, hK, hBw⟩
      ·skip
       rintro _ wc11 ⟨hsub, hb1, hb4, hl, hs, hK, hBw⟩
       refine WC.sub hsub ?_
       clear hsub
       refine cseq <| cseq <| cg <| zm rfl ?_
       have hlt14_b1 := hb1.lt
       have hlt14_b4 := hb4.lt
       refine ve (Eff.call pf43 rfl (hasS_ok r.kind)) ?_
       rintro v38 w14 ⟨hk14, rfl⟩
       replace hl := hl.upB (hk14.mono hBw); replace hs := hs.upB (hk14.mono hBw); replace hK := hK.upB (hk14.mono hBw); replace hb1 := hb1.up hk14; replace hb4 := hb4.up hk14; replace hBw := Nat.le_trans hBw hk14.size
       refine cnil ?_
       refine WC.mono (N := fun e w' => Sub [(4000000, .tuple #[]), (1, .pointer (some ⟨b1, 0, none⟩)), (3, St (fieldsU r.kind)), (4, .pointer (some ⟨b4, 0, none⟩))] e ∧ Blk w' b1 [I r.kind, I r.id, St r.name, St r.digest, vl, vs] 31 ∧ Blk w' b4 [I r.kind, I (wantI r), St (wantN r), St (wantD r), (wantLv r vl), (wantSv r vs)] 31 ∧ RdS intS B w' vl r.list ∧ RdS slotS B w' vs r.slots ∧ Below B w w' ∧ B ≤ w'.heap.size) ?_ ?_
       ·refine WC.cond rfl (fun hc13 => ?_) (fun hc13 => ?_)
        ·try simp only [tstS] at hc13
         refine cg <| vq (Val.fieldAddr fld31_5 rfl) <| vq (Val.loadB scl29 rfl hb1 rfl) <| vq (Val.fieldAddr fld31_5 rfl) ?_
         refine WR.eff_ (Eff.storeB scl29 rfl rfl ra ra hb4 rfl) ?_
         intro _ w15 hS15
         have hk15 : Below B _ _ := Blk.store_below hS15 hge4 hBw
         replace hb1 := hb1.grown hS15.grown (by simp; omega)
         replace hl := hl.upB hk15; replace hs := hs.upB hk15; replace hK := hK.upB hk15; replace hBw := Nat.le_trans hBw hk15.size
         replace hb4 := hS15.blk
         refine cnil ?_
         exact ⟨subs, hb1, by simpa [wantSv, hc13] using hb4, hl, hs, hK, hBw⟩
        ·try simp only [tstS] at hc13
         refine cskip ?_
         exact ⟨subs, hb1, by simpa [wantSv, hc13] using hb4, hl, hs, hK, hBw⟩
       ·skip
        rintro _ wc13 ⟨hsub, hb1, hb4, hl, hs, hK, hBw⟩
        refine WC.sub hsub ?_
        clear hsub
        refine cseq <| cseq ?_
        have oL := (wantL_rd hl).oneC
        have oS := (wantS_rd hs).oneC
        refine cg <| vq (Val.loadBN agg31 rfl hb1 rfl) <| vq (Val.loadBN agg31 rfl hb4 rfl) ?_
        have hlt16_b1 := hb1.lt
        have hlt16_b4 := hb4.lt
        refine ve (Eff.call pf22 rfl (eqRecord_ok (a := r) (b := want r) (ca := [I r.kind, I r.id, St r.name, St r.digest, vl, vs]) (cb := [I r.kind, I (wantI r), St (wantN r), St (wantD r), (wantLv r vl), (wantSv r vs)]) ⟨vl, vs, rfl, hl.mono hBw, hs.mono hBw, hq⟩ ⟨_, _, rfl, (wantL_rd hl).mono hBw, (wantS_rd hs).mono hBw, hq.1, want_i64 r hq.2.1, want_name r hq.2.2.1, want_dig r hq.2.2.2⟩)) ?_
        rintro v44 w16 ⟨hk16, rfl⟩
        replace hl := hl.upB (hk16.mono hBw); replace hs := hs.upB (hk16.mono hBw); replace hK := hK.upB (hk16.mono hBw); replace hb1 := hb1.up hk16; replace hb4 := hb4.up hk16; replace hBw := Nat.le_trans hBw hk16.size
        refine vq (Val.not rfl) <| zm rfl ?_
        apply WR.sc false 4 (!numB r.id) (fun w' => Below w16.heap.size w16 w')
        case hl | hg | hu | hv | hs | hoff | hd => rfl
        case hF => exact fun _ => Below.refl _ _
        case hT =>
         intro hq9
         try simp only [tstS] at hq9
         simp only [List.take_succ_cons, List.take_zero]
         have hKsc9 : Old w16 w16 := Old.refl _
         refine WR.on rfl rfl ?_
         refine vq (Val.fieldAddr fld31_1 rfl) ?_
         refine WR.on rfl rfl ?_
         refine vq (Val.loadB scl3 rfl hb1 rfl) ?_
         refine WR.on rfl rfl ?_
         have hlt17_b1 := hb1.lt
         have hlt17_b4 := hb4.lt
         refine ve (Eff.call pf30 rfl (num_ok r.id 1073741824)) ?_
         rintro v49 w17 ⟨hk17, rfl⟩
         replace hl := hl.upB (hk17.mono hBw); replace hs := hs.upB (hk17.mono hBw); replace hK := hK.upB (hk17.mono hBw); replace hb1 := hb1.up hk17; replace hb4 := hb4.up hk17; replace hKsc9 := hKsc9.up hk17; replace hBw := Nat.le_trans hBw hk17.size
         refine WR.on rfl rfl ?_
         refine vq (Val.not rfl) ?_
         exact WR.nil ⟨rfl, Sub.drop _ 4 _ rfl rfl, hKsc9⟩
        intro w18 hk18
        replace hl := hl.upB (hk18.mono hBw); replace hs := hs.upB (hk18.mono hBw); replace hK := hK.upB (hk18.mono hBw); replace hb1 := hb1.up hk18; replace hb4 := hb4.up hk18; replace hBw := Nat.le_trans hBw hk18.size
        refine zm rfl ?_
        apply WR.sc false 9 (hasB r.kind 110 && !(decide (1 ≤ (r.name.length : Int)) && decide ((r.name.length : Int) ≤ 40))) (fun w' => Below w18.heap.size w18 w')
        case hl | hg | hu | hv | hs | hoff | hd => rfl
        case hF => exact fun _ => Below.refl _ _
        case hT =>
         intro hq20
         try simp only [tstS] at hq20
         simp only [List.take_succ_cons, List.take_zero]
         have hKsc20 : Old w18 w18 := Old.refl _
         refine WR.on rfl rfl ?_
         refine zm rfl ?_
         refine WR.on rfl rfl ?_
         have hlt19_b1 := hb1.lt
         have hlt19_b4 := hb4.lt
         refine ve (Eff.call pf43 rfl (hasN_ok r.kind)) ?_
         rintro v54 w19 ⟨hk19, rfl⟩
         replace hl := hl.upB (hk19.mono hBw); replace hs := hs.upB (hk19.mono hBw); replace hK := hK.upB (hk19.mono hBw); replace hb1 := hb1.up hk19; replace hb4 := hb4.up hk19; replace hKsc20 := hKsc20.up hk19; replace hBw := Nat.le_trans hBw hk19.size
         refine WR.on rfl rfl ?_
         refine zm rfl ?_
         apply WR.sc true 5 (!(decide (1 ≤ (r.name.length : Int)) && decide ((r.name.length : Int) ≤ 40))) (fun w' => Below w19.heap.size w19 w')
         case hl | hg | hu | hv | hs | hoff | hd => rfl
         case hF => exact fun _ => Below.refl _ _
         case hT =>
          intro hq19
          try simp only [tstS] at hq19
          simp only [List.take_succ_cons, List.take_zero]
          have hKsc19 : Old w19 w19 := Old.refl _
          refine WR.on rfl rfl ?_
          refine vq (Val.fieldAddr fld31_2 rfl) ?_
          refine WR.on rfl rfl ?_
          refine vq (Val.loadB scl9 rfl hb1 rfl) ?_
          refine WR.on rfl rfl ?_
          refine vq (Val.slen Try.underlying9 rfl) ?_
          refine WR.on rfl rfl ?_
          have hlt20_b1 := hb1.lt
          have hlt20_b4 := hb4.lt
          refine ve (Eff.call pf41 rfl (between_ok r.name.length 1 40)) ?_
          rintro v59 w20 ⟨hk20, rfl⟩
          replace hl := hl.upB (hk20.mono hBw); replace hs := hs.upB (hk20.mono hBw); replace hK := hK.upB (hk20.mono hBw); replace hb1 := hb1.up hk20; replace hb4 := hb4.up hk20; replace hKsc20 := hKsc20.up hk20; replace hKsc19 := hKsc19.up hk20; replace hBw := Nat.le_trans hBw hk20.size
          refine WR.on rfl rfl ?_
          refine vq (Val.not rfl) ?_
          exact WR.nil ⟨rfl, Sub.drop _ 5 _ rfl rfl, hKsc19⟩
         intro w21 hk21
         replace hl := hl.upB (hk21.mono hBw); replace hs := hs.upB (hk21.mono hBw); replace hK := hK.upB (hk21.mono hBw); replace hb1 := hb1.up hk21; replace hb4 := hb4.up hk21; replace hKsc20 := hKsc20.up hk21; replace hBw := Nat.le_trans hBw hk21.size
         exact WR.nil ⟨rfl, Sub.drop _ 4 _ rfl rfl, hKsc20⟩
        intro w22 hk22
        replace hl := hl.upB (hk22.mono hBw); replace hs := hs.upB (hk22.mono hBw); replace hK := hK.upB (hk22.mono hBw); replace hb1 := hb1.up hk22; replace hb4 := hb4.up hk22; replace hBw := Nat.le_trans hBw hk22.size
        refine zm rfl ?_
        apply WR.sc false 8 (hasB r.kind 100 && !decide ((r.digest.length : Int) = 32)) (fun w' => Below w22.heap.size w22 w')
        case hl | hg | hu | hv | hs | hoff | hd => rfl
        case hF => exact fun _ => Below.refl _ _
        case hT =>
         intro hq30
         try simp only [tstS] at hq30
         simp only [List.take_succ_cons, List.take_zero]
         have hKsc30 : Old w22 w22 := Old.refl _
         refine WR.on rfl rfl ?_
         refine zm rfl ?_
         refine WR.on rfl rfl ?_
         have hlt23_b1 := hb1.lt
         have hlt23_b4 := hb4.lt
         refine ve (Eff.call pf43 rfl (hasD_ok r.kind)) ?_
         rintro v65 w23 ⟨hk23, rfl⟩
         replace hl := hl.upB (hk23.mono hBw); replace hs := hs.upB (hk23.mono hBw); replace hK := hK.upB (hk23.mono hBw); replace hb1 := hb1.up hk23; replace hb4 := hb4.up hk23; replace hKsc30 := hKsc30.up hk23; replace hBw := Nat.le_trans hBw hk23.size
         refine WR.on rfl rfl ?_
         refine zm rfl ?_
         apply WR.sc true 4 _ (fun w' => w23 = w')
         case hl | hg | hu | hv | hs | hoff | hd => rfl
         case hF => exact fun _ => rfl
         case hT =>
          intro hq29
          try simp only [tstS] at hq29
          simp only [List.take_succ_cons, List.take_zero]
          refine WR.on rfl rfl ?_
          refine vq (Val.fieldAddr fld31_3 rfl) ?_
          refine WR.on rfl rfl ?_
          refine vq (Val.loadB scl9 rfl hb1 rfl) ?_
          refine WR.on rfl rfl ?_
          refine vq (Val.slen Try.underlying9 rfl) ?_
          refine WR.on rfl rfl ?_
          refine vq (Val.neq rfl rfl) ?_
          exact WR.nil ⟨rfl, Sub.drop _ 4 _ rfl rfl, rfl⟩
         rintro _ rfl
         exact WR.nil ⟨rfl, Sub.drop _ 4 _ rfl rfl, hKsc30⟩
        intro w24 hk24
        replace hl := hl.upB (hk24.mono hBw); replace hs := hs.upB (hk24.mono hBw); replace hK := hK.upB (hk24.mono hBw); replace hb1 := hb1.up hk24; replace hb4 := hb4.up hk24; replace hBw := Nat.le_trans hBw hk24.size
        refine zm rfl ?_
        apply WR.sc false 4 _ (fun w' => w24 = w')
        case hl | hg | hu | hv | hs | hoff | hd => rfl
        case hF => exact fun _ => rfl
        case hT =>
         intro hq36
         try simp only [tstS] at hq36
         simp only [List.take_succ_cons, List.take_zero]
         refine WR.on rfl rfl ?_
         refine vq (Val.fieldAddr fld31_4 rfl) ?_
         refine WR.on rfl rfl ?_
         refine vq (Val.loadB scl24 rfl hb1 rfl) ?_
         refine WR.on rfl rfl ?_
         first | refine vq (Val.rdlen sl24 (by assumption) rfl) ?_ | refine vq (Val.sllen Try.underlying24 rfl) ?_
         refine WR.on rfl rfl ?_
         refine vq (Val.gtr rfl rfl) ?_
         exact WR.nil ⟨rfl, Sub.drop _ 4 _ rfl rfl, rfl⟩
        rintro _ rfl
        refine zm rfl ?_
        apply WR.sc false 9 _ (fun w' => w24 = w')
        case hl | hg | hu | hv | hs | hoff | hd => rfl
        case hF => exact fun _ => rfl
        case hT =>
         intro hq47
         try simp only [tstS] at hq47
         simp only [List.take_succ_cons, List.take_zero]
         refine WR.on rfl rfl ?_
         refine vq (Val.fieldAddr fld31_0 rfl) ?_
         refine WR.on rfl rfl ?_
         refine vq (Val.loadB scl3 rfl hb1 rfl) ?_
         refine WR.on rfl rfl ?_
         refine vq (Val.eql rfl rfl) ?_
         refine WR.on rfl rfl ?_
         refine zm rfl ?_
         apply WR.sc true 4 _ (fun w' => w24 = w')
         case hl | hg | hu | hv | hs | hoff | hd => rfl
         case hF => exact fun _ => rfl
         case hT =>
          intro hq46
          try simp only [tstS] at hq46
          simp only [List.take_succ_cons, List.take_zero]
          refine WR.on rfl rfl ?_
          refine vq (Val.fieldAddr fld31_4 rfl) ?_
          refine WR.on rfl rfl ?_
          refine vq (Val.loadB scl24 rfl hb1 rfl) ?_
          refine WR.on rfl rfl ?_
          first | refine vq (Val.rdlen sl24 (by assumption) rfl) ?_ | refine vq (Val.sllen Try.underlying24 rfl) ?_
          refine WR.on rfl rfl ?_
          refine vq (Val.neq rfl rfl) ?_
          exact WR.nil ⟨rfl, Sub.drop _ 4 _ rfl rfl, rfl⟩
         rintro _ rfl
         exact WR.nil ⟨rfl, Sub.drop _ 5 _ rfl rfl, rfl⟩
        rintro _ rfl
        refine zm rfl ?_
        apply WR.sc false 9 (hasB r.kind 115 && !(decide (1 ≤ (r.slots.length : Int)) && decide ((r.slots.length : Int) ≤ 14))) (fun w' => Below w24.heap.size w24 w')
        case hl | hg | hu | hv | hs | hoff | hd => rfl
        case hF => exact fun _ => Below.refl _ _
        case hT =>
         intro hq58
         try simp only [tstS] at hq58
         simp only [List.take_succ_cons, List.take_zero]
         have hKsc58 : Old w24 w24 := Old.refl _
         refine WR.on rfl rfl ?_
         refine zm rfl ?_
         refine WR.on rfl rfl ?_
         have hlt25_b1 := hb1.lt
         have hlt25_b4 := hb4.lt
         refine ve (Eff.call pf43 rfl (hasS_ok r.kind)) ?_
         rintro v92 w25 ⟨hk25, rfl⟩
         replace hl := hl.upB (hk25.mono hBw); replace hs := hs.upB (hk25.mono hBw); replace hK := hK.upB (hk25.mono hBw); replace hb1 := hb1.up hk25; replace hb4 := hb4.up hk25; replace hKsc58 := hKsc58.up hk25; replace hBw := Nat.le_trans hBw hk25.size
         refine WR.on rfl rfl ?_
         refine zm rfl ?_
         apply WR.sc true 5 (!(decide (1 ≤ (r.slots.length : Int)) && decide ((r.slots.length : Int) ≤ 14))) (fun w' => Below w25.heap.size w25 w')
         case hl | hg | hu | hv | hs | hoff | hd => rfl
         case hF => exact fun _ => Below.refl _ _
         case hT =>
          intro hq57
          try simp only [tstS] at hq57
          simp only [List.take_succ_cons, List.take_zero]
          have hKsc57 : Old w25 w25 := Old.refl _
          refine WR.on rfl rfl ?_
          refine vq (Val.fieldAddr fld31_5 rfl) ?_
          refine WR.on rfl rfl ?_
          refine vq (Val.loadB scl29 rfl hb1 rfl) ?_
          refine WR.on rfl rfl ?_
          first | refine vq (Val.rdlen sl29 (by assumption) rfl) ?_ | refine vq (Val.sllen Try.underlying29 rfl) ?_
          refine WR.on rfl rfl ?_
          have hlt26_b1 := hb1.lt
          have hlt26_b4 := hb4.lt
          refine ve (Eff.call pf41 rfl (between_ok r.slots.length 1 14)) ?_
          rintro v97 w26 ⟨hk26, rfl⟩
          replace hl := hl.upB (hk26.mono hBw); replace hs := hs.upB (hk26.mono hBw); replace hK := hK.upB (hk26.mono hBw); replace hb1 := hb1.up hk26; replace hb4 := hb4.up hk26; replace hKsc58 := hKsc58.up hk26; replace hKsc57 := hKsc57.up hk26; replace hBw := Nat.le_trans hBw hk26.size
          refine WR.on rfl rfl ?_
          refine vq (Val.not rfl) ?_
          exact WR.nil ⟨rfl, Sub.drop _ 5 _ rfl rfl, hKsc57⟩
         intro w27 hk27
         replace hl := hl.upB (hk27.mono hBw); replace hs := hs.upB (hk27.mono hBw); replace hK := hK.upB (hk27.mono hBw); replace hb1 := hb1.up hk27; replace hb4 := hb4.up hk27; replace hKsc58 := hKsc58.up hk27; replace hBw := Nat.le_trans hBw hk27.size
         exact WR.nil ⟨rfl, Sub.drop _ 4 _ rfl rfl, hKsc58⟩
        intro w28 hk28
        replace hl := hl.upB (hk28.mono hBw); replace hs := hs.upB (hk28.mono hBw); replace hK := hK.upB (hk28.mono hBw); replace hb1 := hb1.up hk28; replace hb4 := hb4.up hk28; replace hBw := Nat.le_trans hBw hk28.size
        refine cnil ?_
        refine WC.cond rfl (fun hc15 => ?_) (fun hc15 => ?_)
        ·skip
         refine cseq <| cg <| za rfl <| cnil ?_
         refine WC.ret1 rfl rfl ?_
         have e : refBad r = true := hc15
         exact ⟨hK, by rw [mayB, e]; simp⟩
        ·skip
         refine cskip <| cseq <| cseq ?_
         have hrb : refBad r = false := hc15
         clear hc15 hc1
         refine cg <| za rfl <| cnil <| cblock ?_
         refine WC.loop (σ := Nat) (fun k => [(1, .pointer (some ⟨b1, 0, none⟩)), (5, I k)]) (fun k w' => Blk w' b1 [I r.kind, I r.id, St r.name, St r.digest, vl, vs] 31 ∧ RdS intS B w' vl r.list ∧ RdS slotS B w' vs r.slots ∧ Below B w w' ∧ B ≤ w'.heap.size ∧ k ≤ r.list.length ∧ (r.list.take k).all numB = true) (fun k => r.list.length - k) 0 subs ⟨hb1, hl, hs, hK, hBw, by omega, by simp⟩ ?_
         rintro k wl ⟨hb1, hl, hs, hK, hBw, hk, hall⟩
         refine cseq <| cseq <| cg <| zm rfl <| vq (Val.fieldAddr fld31_4 rfl) <| vq (Val.loadB scl24 rfl hb1 rfl) ?_
         first | refine vq (Val.rdlen sl24 (by assumption) rfl) ?_ | refine vq (Val.sllen Try.underlying24 rfl) ?_
         refine vq (Val.lss rfl rfl) <| cnil ?_
         refine WC.cond rfl (fun hc18 => ?_) (fun hc18 => ?_)
         ·try simp only [tstS] at hc18
          have ka : k < r.list.length := by omega
          obtain ⟨cs1, hc111, rfl, ok1⟩ := hl.elB ka
          replace hc111 := hc111.toCel hBw
          refine cskip <| cseq <| cblock <| cseq <| cg <| vq (Val.fieldAddr fld31_4 rfl) <| vq (Val.loadB scl24 rfl hb1 rfl) <| zm rfl <| vq (Val.indexAddr sl24 (by assumption) rfl rfl rfl side side) ?_
          refine vq (Val.loadE1 scl3 rfl hc111) ?_
          have hlt29_b1 := hb1.lt
          refine ve (Eff.call pf30 rfl (num_ok _ _)) ?_
          rintro v113 w29 ⟨hk29, rfl⟩
          replace hl := hl.upB (hk29.mono hBw); replace hs := hs.upB (hk29.mono hBw); replace hK := hK.upB (hk29.mono hBw); replace hb1 := hb1.up hk29; replace hBw := Nat.le_trans hBw hk29.size
          refine vq (Val.not rfl) <| cnil ?_
          refine WC.cond rfl (fun hc20 => ?_) (fun hc20 => ?_)
          ·skip
           refine cseq <| cg <| za rfl <| cnil ?_
           refine WC.ret1 rfl rfl ?_
           exact ⟨hK, by rw [mayB, all_bad ka (show numB r.list[k] = false by rw [Bool.not_eq_true'] at hc20; exact hc20)]; simp⟩
          ·skip
           refine cskip <| cg <| zm rfl <| vq (Val.addI rfl rfl side side) <| za rfl <| cnil ?_
           exact ⟨k + 1, subs, ⟨hb1, hl, hs, hK, hBw, ka, all_next ka hall (by simpa [numB] using hc20)⟩, by omega⟩
         ·try simp only [tstS] at hc18
          refine WC.exit rfl ?_
          refine cseq <| cseq ?_
          have hlall : r.list.all numB = true := by rwa [List.take_of_length_le (by omega)] at hall
          refine cg <| za rfl <| cnil <| cblock ?_
          refine WC.loop (σ := Nat) (fun k => [(1, .pointer (some ⟨b1, 0, none⟩)), (6, I k)]) (fun k w' => Blk w' b1 [I r.kind, I r.id, St r.name, St r.digest, vl, vs] 31 ∧ RdS intS B w' vl r.list ∧ RdS slotS B w' vs r.slots ∧ Below B w w' ∧ B ≤ w'.heap.size ∧ k ≤ r.slots.length ∧ (r.slots.take k).all (fun p => !slotBad p) = true) (fun k => r.slots.length - k) 0 subs ⟨hb1, hl, hs, hK, hBw, by omega, by simp⟩ ?_
          rintro k wl ⟨hb1, hl, hs, hK, hBw, hk, hall⟩
          refine cseq <| cseq <| cg <| zm rfl <| vq (Val.fieldAddr fld31_5 rfl) <| vq (Val.loadB scl29 rfl hb1 rfl) ?_
          first | refine vq (Val.rdlen sl29 (by assumption) rfl) ?_ | refine vq (Val.sllen Try.underlying29 rfl) ?_
          refine vq (Val.lss rfl rfl) <| cnil ?_
          refine WC.cond rfl (fun hc23 => ?_) (fun hc23 => ?_)
          ·try simp only [tstS] at hc23
           have ka : k < r.slots.length := by omega
           obtain ⟨cs1, hc125, rfl, ok1⟩ := hs.elB ka
           replace hc125 := hc125.toCel hBw
           have hc134 := hc125
           refine cskip <| cseq <| cblock <| cseq <| cg <| vq (Val.fieldAddr fld31_5 rfl) <| vq (Val.loadB scl29 rfl hb1 rfl) <| zm rfl <| vq (Val.indexAddr sl29 (by assumption) rfl rfl rfl side side) ?_
           first | refine vq (Val.fieldAddr fld66_0 rfl) ?_ | refine vq (Val.fieldAddrP fld66_0 rfl) ?_
           refine vq (Val.loadEf scl3 rfl hc125 rfl) ?_
           have hlt30_b1 := hb1.lt
           refine ve (Eff.call pf41 rfl (between_ok _ _ _)) ?_
           rintro v128 w30 ⟨hk30, rfl⟩
           replace hl := hl.upB (hk30.mono hBw); replace hs := hs.upB (hk30.mono hBw); replace hK := hK.upB (hk30.mono hBw); replace hb1 := hb1.up hk30; replace hc125 := hc125.up hk30; replace hc134 := hc134.up hk30; replace hBw := Nat.le_trans hBw hk30.size
           refine vq (Val.not rfl) <| zm rfl ?_
           apply WR.sc false 8 (!numB63 r.slots[k].2) (fun w' => Below w30.heap.size w30 w')
           case hl | hg | hu | hv | hs | hoff | hd => rfl
           case hF => exact fun _ => Below.refl _ _
           case hT =>
            intro hq17
            try simp only [tstS] at hq17
            simp only [List.take_succ_cons, List.take_zero]
            have hKsc17 : Old w30 w30 := Old.refl _
            refine WR.on rfl rfl ?_
            refine vq (Val.fieldAddr fld31_5 rfl) ?_
            refine WR.on rfl rfl ?_
            refine vq (Val.loadB scl29 rfl hb1 rfl) ?_
            refine WR.on rfl rfl ?_
            refine zm rfl ?_
            refine WR.on rfl rfl ?_
            refine vq (Val.indexAddr sl29 (by assumption) rfl rfl rfl side side) ?_
            refine WR.on rfl rfl ?_
            first | refine vq (Val.fieldAddr fld66_1 rfl) ?_ | refine vq (Val.fieldAddrP fld66_1 rfl) ?_
            refine WR.on rfl rfl ?_
            refine vq (Val.loadEf scl3 rfl hc134 rfl) ?_
            refine WR.on rfl rfl ?_
            have hlt31_b1 := hb1.lt
            refine ve (Eff.call pf30 rfl (num_ok _ _)) ?_
            rintro v137 w31 ⟨hk31, rfl⟩
            replace hl := hl.upB (hk31.mono hBw); replace hs := hs.upB (hk31.mono hBw); replace hK := hK.upB (hk31.mono hBw); replace hb1 := hb1.up hk31; replace hc125 := hc125.up hk31; replace hc134 := hc134.up hk31; replace hKsc17 := hKsc17.up hk31; replace hBw := Nat.le_trans hBw hk31.size
            refine WR.on rfl rfl ?_
            refine vq (Val.not rfl) ?_
            exact WR.nil ⟨rfl, Sub.drop _ 8 _ rfl rfl, hKsc17⟩
           intro w32 hk32
           replace hl := hl.upB (hk32.mono hBw); replace hs := hs.upB (hk32.mono hBw); replace hK := hK.upB (hk32.mono hBw); replace hb1 := hb1.up hk32; replace hc125 := hc125.up hk32; replace hc134 := hc134.up hk32; replace hBw := Nat.le_trans hBw hk32.size
           refine cnil ?_
           refine WC.cond rfl (fun hc25 => ?_) (fun hc25 => ?_)
           ·skip
            refine cseq <| cg <| za rfl <| cnil ?_
            refine WC.ret1 rfl rfl ?_
            exact ⟨hK, by rw [mayB, all_bad (q := fun p => !slotBad p) ka (slot_bad hc25)]; simp⟩
           ·skip
            refine cskip <| cg <| zm rfl <| vq (Val.addI rfl rfl side side) <| za rfl <| cnil ?_
            exact ⟨k + 1, subs, ⟨hb1, hl, hs, hK, hBw, ka, all_next ka hall (slot_good hc25)⟩, by omega⟩
          ·try simp only [tstS] at hc23
           refine WC.exit rfl ?_
           refine cseq <| cg <| za rfl <| cnil ?_
           refine WC.ret1 rfl rfl ?_
           have hsall : r.slots.all (fun p => !slotBad p) = true := by rwa [List.take_of_length_le (by omega)] at hall
           exact ⟨hK, by rw [mayB, hkb, hrb, hlall, hsall]; rfl⟩
end Go.Proofs.Ythlfolpcmcejkaa

namespace Silo
open Go Go.Eng
theorem high_step (s j : Nat) (n : Int) (hj : j < s) : (List.replicate (j + 1) (0 : UInt8) ++ be (s - (j + 1)) n).set j (u8I (n / 256 ^ (s - (j + 1)))) = List.replicate j 0 ++ be (s - j) n := by
  have h1 : s - j = (s - (j + 1)) + 1 := by omega
  rw [h1, List.set_append_left _ _ (by simp)]
  have h2 : (List.replicate (j + 1) (0 : UInt8)).set j (u8I (n / 256 ^ (s - (j + 1)))) = List.replicate j 0 ++ [u8I (n / 256 ^ (s - (j + 1)))] := by
    rw [List.replicate_succ', List.set_append_right _ _ (by simp)]; simp
  rw [h2]; simp [be]
theorem shr_step (n : Int) (m : Nat) : n / 256 ^ m / 2 ^ (8 : Int).toNat = n / 256 ^ (m + 1) := by
  have : (2 : Int) ^ (8 : Int).toNat = 256 := by decide
  rw [this, Int.pow_succ, Int.ediv_ediv_of_nonneg (Int.le_of_lt (Int.pow_pos (by decide)))]

def bI (r : Rec) : List UInt8 := if hasB r.kind 105 then be 4 r.id else []
def bN (r : Rec) : List UInt8 := if hasB r.kind 110 then be 1 r.name.length ++ r.name else []
def bL (r : Rec) : List UInt8 := if hasB r.kind 108 then be 4 r.list.length ++ r.list.flatMap (be 4) else []
def be44 (p : Int × Int) : List UInt8 := be 4 p.1 ++ be 4 p.2
def bS (r : Rec) : List UInt8 := if hasB r.kind 115 then be 1 r.slots.length ++ r.slots.flatMap be44 else []
def A1 (r : Rec) : List UInt8 := be 1 r.kind ++ bI r
def A2 (r : Rec) : List UInt8 := A1 r ++ bN r
def A3 (r : Rec) : List UInt8 := A2 r ++ r.digest
def A4 (r : Rec) : List UInt8 := A3 r ++ bL r
/-- The bytes of a record. -/
def bytesOf (r : Rec) : List UInt8 := A4 r ++ bS r
theorem A1_len (r : Rec) : (A1 r).length ≤ 5 := by
  simp only [A1, bI, List.length_append, be_length]; split
  · simp [be_length]
  · simp
theorem A2_len (r : Rec) (h : r.name.length ≤ 140737488355328) : (A2 r).length ≤ 140737488355334 := by
  have := A1_len r
  simp only [A2, bN, List.length_append]; split
  · simp only [List.length_append, be_length]; omega
  · simp; omega
theorem A3_len (r : Rec) (h : r.name.length ≤ 140737488355328) (hd : r.digest.length ≤ 140737488355328) : (A3 r).length ≤ 281474976710662 := by
  have := A2_len r h
  simp only [A3, List.length_append]; omega
theorem flat4_len (l : List Int) : (l.flatMap (be 4)).length = 4 * l.length := by
  induction l with
  | nil => rfl
  | cons x r ih => simp only [List.flatMap_cons, List.length_append, be_length, List.length_cons, ih]; omega
theorem flat44_len (l : List (Int × Int)) : (l.flatMap be44).length = 8 * l.length := by
  induction l with
  | nil => rfl
  | cons x r ih => simp only [List.flatMap_cons, List.length_append, be44, be_length, List.length_cons, ih]; omega
theorem A4_len (r : Rec) (h : r.name.length ≤ 140737488355328) (hd : r.digest.length ≤ 140737488355328) (hl : r.list.length ≤ 140737488355328) : (A4 r).length ≤ 844424930131978 := by
  have := A3_len r h hd
  simp only [A4, bL, List.length_append]; split
  · simp only [List.length_append, be_length, flat4_len]; omega
  · simp; omega
end Silo
namespace Go.Proofs.Ythlfolpcmcejkaa
open Go Go.Eng Go.RowKit Silo TryT

theorem high_ok {w : World} (n : Int) (s : Nat) (hs : s ≤ 8) : Calls Try.prog 46 #[I n, I s] w (Ret fun v w' => Below w.heap.size w w' ∧ v = St (be s n)) := by
  obtain ⟨B, hB⟩ : ∃ B, B = w.heap.size := ⟨_, rfl⟩
  have hK : Below B w w := Below.refl _ _
  have hBw : B ≤ w.heap.size := Nat.le_of_eq hB
  rw [← hB]
  refine enter (n := 24) (res := #[.tmp 4]) Try.func46 rfl rfl rfl rfl ?_
  refine cseq <| cg <| za rfl <| cnil <| cseq <| cg <| zm rfl ?_
  refine ve (Eff.make sl38 rfl rfl (by omega) (by omega) (by omega)) ?_
  rintro v8 w8 ⟨_, ho, hk8, _⟩
  rw [← hB] at ho
  replace hK := hK.upB (hk8.mono hBw); replace hBw := Nat.le_trans hBw hk8.size
  rw [bytesV_zero, Int.toNat_natCast] at ho
  refine za rfl <| cnil <| cseq <| cseq <| cg <| zm rfl <| vq (Val.subI rfl rfl side side) <| za rfl <| cnil ?_
  refine cblock ?_
  refine WC.loop (σ := Nat) (fun j => [(0, I (n / 256 ^ (s - j))), (5, v8), (6, I ((j : Int) - 1))]) (fun j w' => Own w' B 5 1 v8 s (bytesV (List.replicate j 0 ++ be (s - j) n)) ∧ Below B w w' ∧ B ≤ w'.heap.size ∧ j ≤ s) (fun j => j) s (by rw [Nat.sub_self, Int.pow_zero, Int.ediv_one]; repeat (first | exact Sub.nil _ | refine Sub.cons rfl ?_ | refine Sub.consM rfl ?_)) ⟨by simpa [be] using ho, hK, hBw, by omega⟩ ?_
  rintro j wl ⟨ho, hK, hBw, hj⟩
  refine cseq <| cseq <| cg <| zm rfl <| vq (Val.geq rfl rfl) <| cnil ?_
  refine WC.cond rfl (fun hc3 => ?_) (fun hc3 => ?_)
  ·try simp only [tstS] at hc3
   obtain ⟨i, rfl⟩ : ∃ i, j = i + 1 := ⟨j - 1, by omega⟩
   have ei : ((i + 1 : Nat) : Int) - 1 = (i : Int) := by omega
   rw [ei]
   have hr := ho.rdBytes (by simp [be_length]; omega)
   refine cskip <| cseq <| cblock <| cseq <| cg <| zm rfl <| zm rfl <| zm rfl <| vq (Val.convToU8I Try.underlying3 Try.underlying5 rfl) ?_
   refine vq (Val.indexAddr sl38 hr rfl rfl rfl (by omega) (by simp [be_length]; omega)) ?_
   refine WR.eff_ (Eff.storeOwn scl5 ho (i := i) (by omega) rfl rfl rfl rfl) ?_
   rintro _ w9 ⟨ho, hg9, _⟩
   have hk9 : Below B wl w9 := below_of_grown hg9 hBw (fun k hk => (ho.lt k hk).1)
   replace hK := hK.upB hk9; replace hBw := Nat.le_trans hBw hk9.size
   rw [bytesV_set, high_step s i n (by omega)] at ho
   refine cnil <| cg <| zm rfl <| vq (Val.shr rfl rfl side (by simp [IntKind.bits] <;> omega)) <| za rfl <| cnil <| cg <| zm rfl <| vq (Val.subI rfl rfl side side) ?_
   refine za rfl <| cnil ?_
   refine ⟨i, ?_, ⟨ho, hK, hBw, by omega⟩, by omega⟩
   have e : s - i = (s - (i + 1)) + 1 := by omega
   rw [e, ← shr_step]
   repeat (first | exact Sub.nil _ | refine Sub.cons rfl ?_ | refine Sub.consM rfl ?_)
  ·try simp only [tstS] at hc3
   refine WC.exit rfl ?_
   refine cseq <| cg <| zm rfl <| vq (Val.ofBytes Try.underlying38 Try.underlying9 Try.underlying5 rfl ho) <| za rfl <| cnil ?_
   refine WC.ret1 rfl rfl ?_
   have : j = 0 := by omega
   subst this
   exact ⟨hK, by simp⟩

theorem number4_ok {w : World} (n : Int) : Calls Try.prog 47 #[I n] w (Ret fun v w' => Below w.heap.size w w' ∧ v = St (be 4 n)) := by
  have hK : Old w w := Old.refl w
  refine enter (n := 5) (res := #[.tmp 2]) Try.func47 rfl rfl rfl rfl ?_
  refine cseq <| cg <| za rfl <| cnil <| cseq <| cg <| zm rfl ?_
  refine ve (Eff.call pf46 rfl (high_ok n 4 (by decide))) ?_
  rintro v4 w1 ⟨hk1, rfl⟩
  replace hK := hK.up hk1
  refine za rfl <| cnil ?_
  refine WC.ret1 rfl rfl ?_
  exact ⟨hK, rfl⟩

theorem bytes_ok {w : World} {cs : List Value} {r : Rec} (h : RdRec w cs r) (hk18 : 1 ≤ r.kind ∧ r.kind ≤ 8) : Calls Try.prog 19 #[.agg cs.toArray] w (Ret fun v w' => Below w.heap.size w w' ∧ v = St (bytesOf r)) := by
  obtain ⟨vl, vs, rfl, hl, hs, hq⟩ := h
  obtain ⟨hq1, hq2, hq3, hq4⟩ := hq
  have o1 := hl.oneC
  have o2 := hs.oneC
  have lsm := hl.small
  have ssm := hs.small
  have l1 := A1_len r
  have l2 := A2_len r hq3
  have l3 := A3_len r hq3 hq4
  have l4 := A4_len r hq3 hq4 lsm
  have hK : Old w w := Old.refl w
  refine enter (n := 91) (res := #[.tmp 2]) Try.func19 rfl rfl rfl rfl ?_
  refine cseq <| cg ?_
  refine ve (Eff.box rfl) ?_
  rintro _ w1 ⟨b1, rfl, hn1⟩
  have hk1 := hn1.below
  replace hl := hl.up hk1; replace hs := hs.up hk1; replace hK := hK.up hk1
  have hb1 := hn1.blk
  refine za rfl <| cnil <| cseq <| cg <| vq (Val.fieldAddr fld31_0 rfl) <| vq (Val.loadB scl3 rfl hb1 rfl) ?_
  refine ve (Eff.call pf42 rfl (fieldsU_ok r.kind (by omega) hk18.2)) ?_
  rintro v9 w2 ⟨hk2, rfl⟩
  replace hl := hl.up hk2; replace hs := hs.up hk2; replace hK := hK.up hk2; replace hb1 := hb1.up hk2
  refine za rfl <| cnil <| cseq <| cg <| vq (Val.fieldAddr fld31_0 rfl) <| vq (Val.loadB scl3 rfl hb1 rfl) ?_
  refine ve (Eff.call pf46 rfl (high_ok r.kind 1 (by decide))) ?_
  rintro v12 w3 ⟨hk3, rfl⟩
  replace hl := hl.up hk3; replace hs := hs.up hk3; replace hK := hK.up hk3; replace hb1 := hb1.up hk3
  refine za rfl <| cnil <| cseq <| cseq <| cg <| zm rfl ?_
  refine ve (Eff.call pf43 rfl (hasI_ok r.kind)) ?_
  rintro v14 w4 ⟨hk4, rfl⟩
  replace hl := hl.up hk4; replace hs := hs.up hk4; replace hK := hK.up hk4; replace hb1 := hb1.up hk4
  refine cnil ?_
  refine WC.mono (N := fun e w' => Sub [(4000000, .tuple #[]), (1, .pointer (some ⟨b1, 0, none⟩)), (3, St (fieldsU r.kind)), (4, St (A1 r))] e ∧ Blk w' b1 [I r.kind, I r.id, St r.name, St r.digest, vl, vs] 31 ∧ RdS intS w'.heap.size w' vl r.list ∧ RdS slotS w'.heap.size w' vs r.slots ∧ Old w w') ?_ ?_
  ·refine WC.cond rfl (fun hc3 => ?_) (fun hc3 => ?_)
   ·try simp only [tstS] at hc3
    refine cg <| zm rfl <| vq (Val.fieldAddr fld31_1 rfl) <| vq (Val.loadB scl3 rfl hb1 rfl) ?_
    refine ve (Eff.call pf47 rfl (number4_ok r.id)) ?_
    rintro v18 w5 ⟨hk5, rfl⟩
    replace hl := hl.up hk5; replace hs := hs.up hk5; replace hK := hK.up hk5; replace hb1 := hb1.up hk5
    refine vq (Val.sadd rfl rfl (by (try simp only [List.length_append, be_length]); omega)) <| za rfl <| cnil ?_
    have e : A1 r = be 1 r.kind ++ be 4 r.id := by simp [A1, bI, hc3]
    rw [e]; exact ⟨subs, hb1, hl, hs, hK⟩
   ·try simp only [tstS] at hc3
    refine cskip ?_
    have e : A1 r = be 1 r.kind := by simp [A1, bI, hc3]
    rw [e]; exact ⟨subs, hb1, hl, hs, hK⟩
  ·skip
   rintro _ wc3 ⟨hsub, hb1, hl, hs, hK⟩
   refine WC.sub hsub ?_
   clear hsub
   refine cseq <| cseq <| cg <| zm rfl ?_
   refine ve (Eff.call pf43 rfl (hasN_ok r.kind)) ?_
   rintro v21 w6 ⟨hk6, rfl⟩
   replace hl := hl.up hk6; replace hs := hs.up hk6; replace hK := hK.up hk6; replace hb1 := hb1.up hk6
   refine cnil ?_
   refine WC.mono (N := fun e w' => Sub [(4000000, .tuple #[]), (1, .pointer (some ⟨b1, 0, none⟩)), (3, St (fieldsU r.kind)), (4, St (A2 r))] e ∧ Blk w' b1 [I r.kind, I r.id, St r.name, St r.digest, vl, vs] 31 ∧ RdS intS w'.heap.size w' vl r.list ∧ RdS slotS w'.heap.size w' vs r.slots ∧ Old w w') ?_ ?_
   ·refine WC.cond rfl (fun hc5 => ?_) (fun hc5 => ?_)
    ·try simp only [tstS] at hc5
     refine WC.regionD (Below w6.heap.size w6) [0, 0, 1, 0, 2, 0, 0, 1, 0, 0] [0, 1, 2, 3, 6, 7, 4, 5, 8, 9] mixed (by kernel_rfl) ?_
     have hk7 : Below w6.heap.size w6 w6.drew := (Below.refl _ _).drew
     have hCw : Below w6.heap.size w6 w6.drew := (Below.refl _ _).drew
     generalize w6.drew = w7 at hk7 hCw ⊢
     have hb10 := hb1
     replace hl := hl.up hk7; replace hs := hs.up hk7; replace hK := hK.up hk7; replace hb1 := hb1.up hk7
     refine zdm rfl rfl <| vd rfl (fun _ => Val.fieldAddr fld31_2 rfl) <| qc rfl rfl rfl hCw (fun W hW => Val.loadB scl9 rfl (hb10.up hW) rfl) rfl <| vd rfl (fun _ => Val.slen Try.underlying9 rfl) <| vd rfl (fun _ => Val.fieldAddr fld31_2 rfl) <| qc rfl rfl rfl hCw (fun W hW => Val.loadB scl9 rfl (hb10.up hW) rfl) rfl ?_
     refine WD.eff rfl rfl rfl (Eff.call pf46 rfl (high_ok r.name.length 1 (by decide))) rfl ?_
     rintro v26 w8 ⟨hk8, rfl⟩
     refine ⟨fun hC => Below.trans hC (hk8.mono hC.size), ?_⟩
     replace hCw := Below.trans hCw (hk8.mono hCw.size)
     replace hl := hl.up hk8; replace hs := hs.up hk8; replace hK := hK.up hk8; replace hb1 := hb1.up hk8
     refine vd rfl (fun _ => Val.sadd rfl rfl (by (try simp only [List.length_append, be_length]); omega)) <| vd rfl (fun _ => Val.sadd rfl rfl (by (try simp only [List.length_append, be_length]); omega)) <| zda rfl rfl ?_
     refine WD.nil ?_
     clear hb10
     clear hCw
     have e : A2 r = A1 r ++ be 1 r.name.length ++ r.name := by simp [A2, bN, hc5]
     rw [e]; exact ⟨subs, hb1, hl, hs, hK⟩
    ·try simp only [tstS] at hc5
     refine cskip ?_
     have e : A2 r = A1 r := by simp [A2, bN, hc5]
     rw [e]; exact ⟨subs, hb1, hl, hs, hK⟩
   ·skip
    rintro _ wc5 ⟨hsub, hb1, hl, hs, hK⟩
    refine WC.sub hsub ?_
    clear hsub
    refine cseq <| cg <| zm rfl <| vq (Val.fieldAddr fld31_3 rfl) <| vq (Val.loadB scl9 rfl hb1 rfl) <| vq (Val.sadd rfl rfl (by (try simp only [List.length_append, be_length]); omega)) <| za rfl <| cnil <| cseq ?_
    refine cseq <| cg <| zm rfl ?_
    refine ve (Eff.call pf43 rfl (hasL_ok r.kind)) ?_
    rintro v36 w9 ⟨hk9, rfl⟩
    replace hl := hl.up hk9; replace hs := hs.up hk9; replace hK := hK.up hk9; replace hb1 := hb1.up hk9
    refine cnil ?_
    refine WC.mono (N := fun e w' => Sub [(4000000, .tuple #[]), (1, .pointer (some ⟨b1, 0, none⟩)), (3, St (fieldsU r.kind)), (4, St (A4 r))] e ∧ Blk w' b1 [I r.kind, I r.id, St r.name, St r.digest, vl, vs] 31 ∧ RdS intS w'.heap.size w' vl r.list ∧ RdS slotS w'.heap.size w' vs r.slots ∧ Old w w') ?_ ?_
    ·refine WC.cond rfl (fun hc8 => ?_) (fun hc8 => ?_)
     ·try simp only [tstS] at hc8
      refine cseq <| cg <| zm rfl <| vq (Val.fieldAddr fld31_4 rfl) <| vq (Val.loadB scl24 rfl hb1 rfl) ?_
      first | refine vq (Val.rdlen sl24 (by assumption) rfl) ?_ | refine vq (Val.sllen Try.underlying24 rfl) ?_
      refine ve (Eff.call pf47 rfl (number4_ok r.list.length)) ?_
      rintro v41 w10 ⟨hk10, rfl⟩
      replace hl := hl.up hk10; replace hs := hs.up hk10; replace hK := hK.up hk10; replace hb1 := hb1.up hk10
      refine vq (Val.sadd rfl rfl (by have : (A2 r ++ r.digest).length ≤ 281474976710662 := l3; simp only [List.length_append, be_length] at this ⊢; omega)) <| za rfl <| cnil <| cseq <| cg <| za rfl <| cnil <| cblock ?_
      refine WC.loop (σ := Nat) (fun k => [(1, .pointer (some ⟨b1, 0, none⟩)), (3, St (fieldsU r.kind)), (4, St (A3 r ++ be 4 r.list.length ++ (r.list.take k).flatMap (be 4))), (5, I k)]) (fun k w' => Blk w' b1 [I r.kind, I r.id, St r.name, St r.digest, vl, vs] 31 ∧ RdS intS w'.heap.size w' vl r.list ∧ RdS slotS w'.heap.size w' vs r.slots ∧ Old w w' ∧ k ≤ r.list.length) (fun k => r.list.length - k) 0 (by rw [List.take_zero, List.flatMap_nil, List.append_nil, A3]; repeat (first | exact Sub.nil _ | refine Sub.cons rfl ?_ | refine Sub.consM rfl ?_)) ⟨hb1, hl, hs, hK, by omega⟩ ?_
      rintro k wl ⟨hb1, hl, hs, hK, hk⟩
      refine cseq <| cseq <| cg <| zm rfl <| vq (Val.fieldAddr fld31_4 rfl) <| vq (Val.loadB scl24 rfl hb1 rfl) ?_
      first | refine vq (Val.rdlen sl24 (by assumption) rfl) ?_ | refine vq (Val.sllen Try.underlying24 rfl) ?_
      refine vq (Val.lss rfl rfl) <| cnil ?_
      refine WC.cond rfl (fun hc11 => ?_) (fun hc11 => ?_)
      ·try simp only [tstS] at hc11
       have ka : k < r.list.length := by omega
       have kl := flat4_len (r.list.take k)
       have kl2 : (r.list.take k).length ≤ r.list.length := by simp; omega
       obtain ⟨cs1, hc54, rfl, ok1⟩ := Rd.el hl ka
       refine cskip <| cseq <| cblock <| cg <| zm rfl <| vq (Val.fieldAddr fld31_4 rfl) <| vq (Val.loadB scl24 rfl hb1 rfl) <| zm rfl <| vq (Val.indexAddr sl24 (by assumption) rfl rfl rfl side side) ?_
       refine vq (Val.loadE1 scl3 rfl hc54) ?_
       refine ve (Eff.call pf47 rfl (number4_ok _)) ?_
       rintro v56 w11 ⟨hk11, rfl⟩
       replace hl := hl.up hk11; replace hs := hs.up hk11; replace hK := hK.up hk11; replace hb1 := hb1.up hk11
       refine vq (Val.sadd rfl rfl (by (try simp only [List.length_append, be_length]); omega)) <| za rfl <| cnil <| cg <| zm rfl <| vq (Val.addI rfl rfl side side) <| za rfl <| cnil ?_
       exact ⟨k + 1, by rw [take_succ_flatMap _ ka, ← List.append_assoc]; repeat (first | exact Sub.nil _ | refine Sub.cons rfl ?_ | refine Sub.consM rfl ?_), ⟨hb1, hl, hs, hK, ka⟩, by omega⟩
      ·try simp only [tstS] at hc11
       refine WC.exit rfl ?_
       have e : A4 r = A3 r ++ be 4 r.list.length ++ (r.list.take k).flatMap (be 4) := by rw [List.take_of_length_le (by omega), List.append_assoc]; simp [A4, bL, hc8]
       rw [e]; exact ⟨subs, hb1, hl, hs, hK⟩
     ·try simp only [tstS] at hc8
      refine cskip ?_
      have e : A4 r = A2 r ++ r.digest := by simp [A4, bL, hc8, A3]
      rw [e]; exact ⟨subs, hb1, hl, hs, hK⟩
    ·skip
     rintro _ wc8 ⟨hsub, hb1, hl, hs, hK⟩
     refine WC.sub hsub ?_
     clear hsub
     refine cseq <| cseq <| cg <| zm rfl ?_
     refine ve (Eff.call pf43 rfl (hasS_ok r.kind)) ?_
     rintro v59 w12 ⟨hk12, rfl⟩
     replace hl := hl.up hk12; replace hs := hs.up hk12; replace hK := hK.up hk12; replace hb1 := hb1.up hk12
     refine cnil ?_
     refine WC.mono (N := fun e w' => Sub [(4000000, .tuple #[]), (4, St (bytesOf r))] e ∧ Old w w') ?_ ?_
     ·refine WC.cond rfl (fun hc14 => ?_) (fun hc14 => ?_)
      ·try simp only [tstS] at hc14
       refine cseq <| cg <| zm rfl <| vq (Val.fieldAddr fld31_5 rfl) <| vq (Val.loadB scl29 rfl hb1 rfl) ?_
       first | refine vq (Val.rdlen sl29 (by assumption) rfl) ?_ | refine vq (Val.sllen Try.underlying29 rfl) ?_
       refine ve (Eff.call pf46 rfl (high_ok r.slots.length 1 (by decide))) ?_
       rintro v64 w13 ⟨hk13, rfl⟩
       replace hl := hl.up hk13; replace hs := hs.up hk13; replace hK := hK.up hk13; replace hb1 := hb1.up hk13
       refine vq (Val.sadd rfl rfl (by (try simp only [List.length_append, be_length]); omega)) <| za rfl <| cnil <| cseq <| cg <| za rfl <| cnil <| cblock ?_
       refine WC.loop (σ := Nat) (fun k => [(1, .pointer (some ⟨b1, 0, none⟩)), (4, St (A4 r ++ be 1 r.slots.length ++ (r.slots.take k).flatMap be44)), (6, I k)]) (fun k w' => Blk w' b1 [I r.kind, I r.id, St r.name, St r.digest, vl, vs] 31 ∧ RdS intS w'.heap.size w' vl r.list ∧ RdS slotS w'.heap.size w' vs r.slots ∧ Old w w' ∧ k ≤ r.slots.length) (fun k => r.slots.length - k) 0 (by rw [List.take_zero, List.flatMap_nil, List.append_nil]; repeat (first | exact Sub.nil _ | refine Sub.cons rfl ?_ | refine Sub.consM rfl ?_)) ⟨hb1, hl, hs, hK, by omega⟩ ?_
       rintro k wl ⟨hb1, hl, hs, hK, hk⟩
       refine cseq <| cseq <| cg <| zm rfl <| vq (Val.fieldAddr fld31_5 rfl) <| vq (Val.loadB scl29 rfl hb1 rfl) ?_
       first | refine vq (Val.rdlen sl29 (by assumption) rfl) ?_ | refine vq (Val.sllen Try.underlying29 rfl) ?_
       refine vq (Val.lss rfl rfl) <| cnil ?_
       refine WC.cond rfl (fun hc17 => ?_) (fun hc17 => ?_)
       ·try simp only [tstS] at hc17
        have ka : k < r.slots.length := by omega
        have kl := flat44_len (r.slots.take k)
        have kl2 : (r.slots.take k).length ≤ r.slots.length := by simp; omega
        obtain ⟨cs1, hc77, rfl, ok1⟩ := Rd.el hs ka
        refine cskip <| cseq <| cblock ?_
        refine WC.regionD (Below wl.heap.size wl) [0, 0, 1, 0, 0, 0, 1, 2, 0, 0, 1, 0, 0, 0, 1, 2, 0, 0] [0, 1, 2, 3, 4, 5, 6, 9, 10, 11, 12, 13, 14, 7, 8, 15, 16, 17] mixed (by kernel_rfl) ?_
        have hk14 : Below wl.heap.size wl wl.drew := (Below.refl _ _).drew
        have hCw : Below wl.heap.size wl wl.drew := (Below.refl _ _).drew
        generalize wl.drew = w14 at hk14 hCw ⊢
        have hb10 := hb1
        have hc770 := hc77
        replace hl := hl.up hk14; replace hs := hs.up hk14; replace hK := hK.up hk14; replace hb1 := hb1.up hk14; replace hc77 := hc77.up hk14
        refine zdm rfl rfl <| vd rfl (fun _ => Val.fieldAddr fld31_5 rfl) <| qc rfl rfl rfl hCw (fun W hW => Val.loadB scl29 rfl (hb10.up hW) rfl) rfl <| zdm rfl rfl <| vd rfl (fun _ => Val.indexAddr sl29 (by assumption) rfl rfl rfl side side) <| vd rfl (fun _ => Val.fieldAddrP fld66_0 rfl) <| qc rfl rfl rfl hCw (fun W hW => Val.loadEf scl3 rfl (hc770.up hW) rfl) rfl <| vd rfl (fun _ => Val.fieldAddr fld31_5 rfl) <| qc rfl rfl rfl hCw (fun W hW => Val.loadB scl29 rfl (hb10.up hW) rfl) rfl ?_
        refine zdm rfl rfl <| vd rfl (fun _ => Val.indexAddr sl29 (by assumption) rfl rfl rfl side side) <| vd rfl (fun _ => Val.fieldAddrP fld66_1 rfl) <| qc rfl rfl rfl hCw (fun W hW => Val.loadEf scl3 rfl (hc770.up hW) rfl) rfl ?_
        refine WD.eff rfl rfl rfl (Eff.call pf47 rfl (number4_ok _)) rfl ?_
        rintro v80 w15 ⟨hk15, rfl⟩
        refine ⟨fun hC => Below.trans hC (hk15.mono hC.size), ?_⟩
        replace hCw := Below.trans hCw (hk15.mono hCw.size)
        replace hl := hl.up hk15; replace hs := hs.up hk15; replace hK := hK.up hk15; replace hb1 := hb1.up hk15; replace hc77 := hc77.up hk15
        refine vd rfl (fun _ => Val.sadd rfl rfl (by (try simp only [List.length_append, be_length]); omega)) ?_
        refine WD.eff rfl rfl rfl (Eff.call pf47 rfl (number4_ok _)) rfl ?_
        rintro v88 w16 ⟨hk16, rfl⟩
        refine ⟨fun hC => Below.trans hC (hk16.mono hC.size), ?_⟩
        replace hCw := Below.trans hCw (hk16.mono hCw.size)
        replace hl := hl.up hk16; replace hs := hs.up hk16; replace hK := hK.up hk16; replace hb1 := hb1.up hk16; replace hc77 := hc77.up hk16
        refine vd rfl (fun _ => Val.sadd rfl rfl (by (try simp only [List.length_append, be_length]); omega)) <| zda rfl rfl ?_
        refine WD.nil ?_
        clear hb10 hc770
        clear hCw
        refine cg <| zm rfl <| vq (Val.addI rfl rfl side side) <| za rfl <| cnil ?_
        exact ⟨k + 1, by rw [take_succ_flatMap _ ka, be44, ← List.append_assoc, ← List.append_assoc]; repeat (first | exact Sub.nil _ | refine Sub.cons rfl ?_ | refine Sub.consM rfl ?_), ⟨hb1, hl, hs, hK, ka⟩, by omega⟩
       ·try simp only [tstS] at hc17
        refine WC.exit rfl ?_
        have e : bytesOf r = A4 r ++ be 1 r.slots.length ++ (r.slots.take k).flatMap be44 := by rw [List.take_of_length_le (by omega), List.append_assoc]; simp [bytesOf, bS, hc14]
        rw [e]; exact ⟨subs, hK⟩
      ·try simp only [tstS] at hc14
       refine cskip ?_
       have e : bytesOf r = A4 r := by simp [bytesOf, bS, hc14]
       rw [e]; exact ⟨subs, hK⟩
     ·skip
      rintro _ wc14 ⟨hsub, hK⟩
      refine WC.sub hsub ?_
      clear hsub
      refine cseq <| cg <| zm rfl <| za rfl <| cnil ?_
      refine WC.ret1 rfl rfl ?_
      exact ⟨hK, rfl⟩
end Go.Proofs.Ythlfolpcmcejkaa

namespace Silo
open Go Go.Eng
theorem be_snoc : ∀ (s : Nat) (n : Int), be (s + 1) n = be s (n / 256) ++ [u8I n]
  | 0, n => by simp [be]
  | s + 1, n => by
    have e : n / 256 / 256 ^ s = n / 256 ^ (s + 1) := by
      rw [Int.ediv_ediv_of_nonneg (by decide), Int.pow_succ, Int.mul_comm]
    show u8I (n / 256 ^ (s + 1)) :: be (s + 1) n = (u8I (n / 256 / 256 ^ s) :: be s (n / 256)) ++ [u8I n]
    rw [be_snoc s n, e]; rfl
theorem u8I_snoc (m : Nat) (b : UInt8) : u8I (((m * 256 + b.toNat : Nat)) : Int) = b := by
  rw [u8I_mod]
  have h : (((m * 256 + b.toNat : Nat)) : Int) % 256 = (b.toNat : Int) := by
    have := b.toNat_lt
    omega
  rw [h]
  have h2 : ((b.toNat : Int) % 256).toNat = b.toNat := by have := b.toNat_lt; omega
  unfold u8I
  rw [h2]
  exact UInt8.ofNat_toNat
theorem be_beNat (l : List UInt8) : be l.length (beNat l : Nat) = l := by
  obtain ⟨r, hr⟩ : ∃ r, r = l.reverse := ⟨_, rfl⟩
  induction r generalizing l with
  | nil => have : l = [] := by simpa using hr.symm
           subst this; rfl
  | cons b r ih =>
    have hl : l = r.reverse ++ [b] := by rw [← List.reverse_reverse l, ← hr, List.reverse_cons]
    subst hl
    have h := ih r.reverse (by simp)
    rw [List.length_append, List.length_singleton, be_snoc, beNat_snoc, u8I_snoc]
    have e : ((beNat r.reverse * 256 + b.toNat : Nat) : Int) / 256 = (beNat r.reverse : Nat) := by
      have := b.toNat_lt
      omega
    rw [e, h]
theorem pTake_some {n : Nat} {s a b : List UInt8} (h : pTake n s = some (a, b)) : s = a ++ b ∧ a.length = n := by
  unfold pTake at h
  split at h
  · rename_i hl
    simp only [Option.some.injEq, Prod.mk.injEq] at h
    obtain ⟨rfl, rfl⟩ := h
    exact ⟨(List.take_append_drop n s).symm, by rw [List.length_take]; omega⟩
  · cases h
theorem pNum_some {s t : List UInt8} {n : Int} (h : pNum plain s = some (n, t)) : s = be 4 n ++ t := by
  unfold pNum at h
  cases hp : pTake 4 s with
  | none => rw [hp] at h; cases h
  | some x =>
    obtain ⟨a, b⟩ := x
    rw [hp] at h
    simp only [Option.map_some, Option.some.injEq, Prod.mk.injEq] at h
    obtain ⟨rfl, rfl⟩ := h
    obtain ⟨e, hl⟩ := pTake_some hp
    rw [e]
    have := be_beNat a
    rw [hl] at this
    show a ++ b = be 4 (plain (beNat a)) ++ b
    rw [show plain (beNat a) = ((beNat a : Nat) : Int) from rfl, this]
theorem pNum_minus {s t : List UInt8} {n : Int} (h : pNum minus s = some (n, t)) : s = be 4 n ++ t := by
  rw [pNum_m] at h
  cases hp : pNum plain s with
  | none => rw [hp] at h; cases h
  | some x =>
    obtain ⟨m, b⟩ := x
    rw [hp] at h
    simp only [Option.map_some, Option.some.injEq, Prod.mk.injEq] at h
    obtain ⟨rfl, rfl⟩ := h
    rw [pNum_some hp]
    congr 1
    unfold mI
    split
    · rename_i e; subst e; exact be_congr 4 _ _ (by decide)
    · rfl
theorem pList_some : ∀ (n : Nat) {s t : List UInt8} {l : List Int}, pList plain n s = some (l, t) → s = l.flatMap (be 4) ++ t ∧ l.length = n
  | 0, s, t, l, h => by
    simp only [pList, Option.some.injEq, Prod.mk.injEq] at h
    obtain ⟨rfl, rfl⟩ := h
    exact ⟨rfl, rfl⟩
  | n + 1, s, t, l, h => by
    simp only [pList] at h
    cases hp : pNum plain s with
    | none => rw [hp] at h; cases h
    | some x =>
      obtain ⟨m, b⟩ := x
      rw [hp] at h
      simp only [Option.bind_some] at h
      cases hq : pList plain n b with
      | none => rw [hq] at h; cases h
      | some y =>
        obtain ⟨l', t'⟩ := y
        rw [hq] at h
        simp only [Option.map_some, Option.some.injEq, Prod.mk.injEq] at h
        obtain ⟨rfl, rfl⟩ := h
        obtain ⟨e, hl⟩ := pList_some n hq
        rw [pNum_some hp, e]
        exact ⟨by simp [List.flatMap_cons], by simp [hl]⟩
theorem pSlots_some : ∀ (n : Nat) {s t : List UInt8} {l : List (Int × Int)}, pSlots plain minus n s = some (l, t) → s = l.flatMap be44 ++ t ∧ l.length = n
  | 0, s, t, l, h => by
    simp only [pSlots, Option.some.injEq, Prod.mk.injEq] at h
    obtain ⟨rfl, rfl⟩ := h
    exact ⟨rfl, rfl⟩
  | n + 1, s, t, l, h => by
    simp only [pSlots] at h
    cases hp : pNum minus s with
    | none => rw [hp] at h; cases h
    | some x =>
      obtain ⟨m, b⟩ := x
      rw [hp] at h
      simp only [Option.bind_some] at h
      cases hp2 : pNum plain b with
      | none => rw [hp2] at h; cases h
      | some x2 =>
        obtain ⟨m2, b2⟩ := x2
        rw [hp2] at h
        simp only [Option.bind_some] at h
        cases hq : pSlots plain minus n b2 with
        | none => rw [hq] at h; cases h
        | some y =>
          obtain ⟨l', t'⟩ := y
          rw [hq] at h
          simp only [Option.map_some, Option.some.injEq, Prod.mk.injEq] at h
          obtain ⟨rfl, rfl⟩ := h
          obtain ⟨e, hl⟩ := pSlots_some n hq
          rw [pNum_minus hp, pNum_some hp2, e]
          exact ⟨by simp [List.flatMap_cons, be44], by simp [hl]⟩
theorem be_one {a : List UInt8} (h : a.length = 1) : a = be 1 ((beNat a : Nat) : Int) := by
  have := be_beNat a
  rw [h] at this
  exact this.symm
/-- One field, read. -/
theorem pField_some {c : Nat} {r r' : Rec} {s t : List UInt8} (h : pField plain c (r, s) = some (r', t)) (hl : r.list = []) (hs : r.slots = []) :
    (c = 105 ∧ r' = { r with id := r'.id } ∧ s = be 4 r'.id ++ t) ∨
    (c = 110 ∧ r' = { r with name := r'.name } ∧ s = be 1 r'.name.length ++ r'.name ++ t) ∨
    (c = 100 ∧ r' = { r with digest := r'.digest } ∧ s = r'.digest ++ t) ∨
    (c = 108 ∧ r' = { r with list := r'.list } ∧ s = be 4 r'.list.length ++ r'.list.flatMap (be 4) ++ t) ∨
    (c = 115 ∧ r' = { r with slots := r'.slots } ∧ s = be 1 r'.slots.length ++ r'.slots.flatMap be44 ++ t) ∨
    (c ≠ 105 ∧ c ≠ 110 ∧ c ≠ 100 ∧ c ≠ 108 ∧ c ≠ 115) := by
  unfold pField at h
  split at h
  · left
    cases hp : pNum plain s with
    | none => rw [hp] at h; cases h
    | some x =>
      rw [hp] at h
      simp only [Option.map_some, Option.some.injEq, Prod.mk.injEq] at h
      obtain ⟨rfl, rfl⟩ := h
      exact ⟨rfl, rfl, pNum_some hp⟩
  · right; left
    cases hp : pTake 1 s with
    | none => rw [hp] at h; cases h
    | some x =>
      rw [hp] at h
      simp only [Option.bind_some] at h
      cases hq : pTake (beNat x.1) x.2 with
      | none => rw [hq] at h; cases h
      | some y =>
        rw [hq] at h
        simp only [Option.map_some, Option.some.injEq, Prod.mk.injEq] at h
        obtain ⟨rfl, rfl⟩ := h
        obtain ⟨e1, l1⟩ := pTake_some hp
        obtain ⟨e2, l2⟩ := pTake_some hq
        refine ⟨rfl, rfl, ?_⟩
        show s = be 1 ((y.1.length : Nat) : Int) ++ y.1 ++ y.2
        rw [l2, ← be_one l1, e1, List.append_assoc, ← e2]
  · right; right; left
    cases hp : pTake 32 s with
    | none => rw [hp] at h; cases h
    | some x =>
      rw [hp] at h
      simp only [Option.map_some, Option.some.injEq, Prod.mk.injEq] at h
      obtain ⟨rfl, rfl⟩ := h
      exact ⟨rfl, rfl, (pTake_some hp).1⟩
  · right; right; right; left
    cases hp : pTake 4 s with
    | none => rw [hp] at h; cases h
    | some x =>
      rw [hp] at h
      simp only [Option.bind_some] at h
      cases hq : pList plain (beNat x.1) x.2 with
      | none => rw [hq] at h; cases h
      | some y =>
        rw [hq] at h
        simp only [Option.map_some, Option.some.injEq, Prod.mk.injEq] at h
        obtain ⟨rfl, rfl⟩ := h
        obtain ⟨e1, l1⟩ := pTake_some hp
        obtain ⟨e2, l2⟩ := pList_some _ hq
        refine ⟨rfl, by simp [hl], ?_⟩
        simp only [hl, List.nil_append]
        have e3 := be_beNat x.1
        rw [l1] at e3
        rw [l2, e3, e1, List.append_assoc, ← e2]
  · right; right; right; right; left
    cases hp : pTake 1 s with
    | none => rw [hp] at h; cases h
    | some x =>
      rw [hp] at h
      simp only [Option.bind_some] at h
      cases hq : pSlots plain minus (beNat x.1) x.2 with
      | none => rw [hq] at h; cases h
      | some y =>
        rw [hq] at h
        simp only [Option.map_some, Option.some.injEq, Prod.mk.injEq] at h
        obtain ⟨rfl, rfl⟩ := h
        obtain ⟨e1, l1⟩ := pTake_some hp
        obtain ⟨e2, l2⟩ := pSlots_some _ hq
        refine ⟨rfl, by simp [hs], ?_⟩
        simp only [hs, List.nil_append]
        rw [l2, ← be_one l1, e1, List.append_assoc, ← e2]
  · rename_i h1 h2 h3 h4 h5
    right; right; right; right; right
    exact ⟨h1, h2, h3, h4, h5⟩
theorem pF1 {φ : Nat → Int} {c : UInt8} {x y : Rec × List UInt8} (h : pFields φ [c] x = some y) : pField φ c.toNat x = some y := by
  simpa [pFields] using h
theorem pF2 {φ : Nat → Int} {c d : UInt8} {x y : Rec × List UInt8} (h : pFields φ [c, d] x = some y) : ∃ z, pField φ c.toNat x = some z ∧ pField φ d.toNat z = some y := by
  simpa [pFields, Option.bind_eq_some_iff] using h
theorem pF3 {φ : Nat → Int} {c d e : UInt8} {x y : Rec × List UInt8} (h : pFields φ [c, d, e] x = some y) : ∃ z, pField φ c.toNat x = some z ∧ ∃ u, pField φ d.toNat z = some u ∧ pField φ e.toNat u = some y := by
  simpa [pFields, Option.bind_eq_some_iff] using h
theorem fI {r r' : Rec} {s t : List UInt8} (h : pField plain 105 (r, s) = some (r', t)) (hl : r.list = []) (hs : r.slots = []) : r' = { r with id := r'.id } ∧ s = be 4 r'.id ++ t := by
  rcases pField_some h hl hs with ⟨_, a, b⟩ | ⟨e, _⟩ | ⟨e, _⟩ | ⟨e, _⟩ | ⟨e, _⟩ | ⟨e, _⟩
  · exact ⟨a, b⟩
  all_goals exact absurd e (by decide)
theorem fN {r r' : Rec} {s t : List UInt8} (h : pField plain 110 (r, s) = some (r', t)) (hl : r.list = []) (hs : r.slots = []) : r' = { r with name := r'.name } ∧ s = be 1 r'.name.length ++ r'.name ++ t := by
  rcases pField_some h hl hs with ⟨e, _⟩ | ⟨_, a, b⟩ | ⟨e, _⟩ | ⟨e, _⟩ | ⟨e, _⟩ | ⟨_, e, _⟩
  · exact absurd e (by decide)
  · exact ⟨a, b⟩
  all_goals exact absurd e (by decide)
theorem fD {r r' : Rec} {s t : List UInt8} (h : pField plain 100 (r, s) = some (r', t)) (hl : r.list = []) (hs : r.slots = []) : r' = { r with digest := r'.digest } ∧ s = r'.digest ++ t := by
  rcases pField_some h hl hs with ⟨e, _⟩ | ⟨e, _⟩ | ⟨_, a, b⟩ | ⟨e, _⟩ | ⟨e, _⟩ | ⟨_, _, e, _⟩
  · exact absurd e (by decide)
  · exact absurd e (by decide)
  · exact ⟨a, b⟩
  all_goals exact absurd e (by decide)
theorem fL {r r' : Rec} {s t : List UInt8} (h : pField plain 108 (r, s) = some (r', t)) (hl : r.list = []) (hs : r.slots = []) : r' = { r with list := r'.list } ∧ s = be 4 r'.list.length ++ r'.list.flatMap (be 4) ++ t := by
  rcases pField_some h hl hs with ⟨e, _⟩ | ⟨e, _⟩ | ⟨e, _⟩ | ⟨_, a, b⟩ | ⟨e, _⟩ | ⟨_, _, _, e, _⟩
  · exact absurd e (by decide)
  · exact absurd e (by decide)
  · exact absurd e (by decide)
  · exact ⟨a, b⟩
  all_goals exact absurd e (by decide)
theorem fS {r r' : Rec} {s t : List UInt8} (h : pField plain 115 (r, s) = some (r', t)) (hs : r.slots = []) : r' = { r with slots := r'.slots } ∧ s = be 1 r'.slots.length ++ r'.slots.flatMap be44 ++ t := by
  unfold pField at h
  cases hp : pTake 1 s with
  | none => rw [show (115 : Nat) = 115 from rfl] at h; simp [hp] at h
  | some x =>
    simp only [hp, Option.bind_some] at h
    cases hq : pSlots plain minus (beNat x.1) x.2 with
    | none => rw [hq] at h; cases h
    | some y =>
      rw [hq] at h
      simp only [Option.map_some, Option.some.injEq, Prod.mk.injEq] at h
      obtain ⟨rfl, rfl⟩ := h
      obtain ⟨e1, l1⟩ := pTake_some hp
      obtain ⟨e2, l2⟩ := pSlots_some _ hq
      refine ⟨rfl, ?_⟩
      simp only [hs, List.nil_append]
      rw [l2, ← be_one l1, e1, List.append_assoc, ← e2]
/-- What a record is read from is its bytes. -/
theorem take_bytes {s : List UInt8} {r : Rec} (h : takeSpec plain s = some r) : bytesOf r = s ∧ mayB r = true := by
  cases s with
  | nil => cases h
  | cons k s =>
    simp only [takeSpec] at h
    obtain ⟨⟨r', t⟩, hf, he⟩ := Option.bind_eq_some_iff.1 h
    unfold pEnd at he
    split at he
    · rename_i hc
      obtain ⟨ht, hm⟩ := hc
      dsimp only at ht hm
      subst ht
      simp only [Option.some.injEq] at he
      subst he
      refine ⟨?_, hm⟩
      have hk1 : be 1 (k.toNat : Int) = [k] := by
        have := u8I_snoc 0 k
        simp only [Nat.zero_mul, Nat.zero_add] at this
        simp [be, this]
      have sorted : (k.toNat : Int) = 1 ∨ (k.toNat : Int) = 2 ∨ (k.toNat : Int) = 3 ∨ (k.toNat : Int) = 4 ∨ (k.toNat : Int) = 5 ∨ (k.toNat : Int) = 6 ∨ (k.toNat : Int) = 7 ∨ (k.toNat : Int) = 8 ∨ (k.toNat : Int) = 0 ∨ 8 < (k.toNat : Int) := by omega
      have hkk : ∀ {a b : Rec}, a = b → a.kind = b.kind := fun h => by rw [h]
      clear hkk
      have ek : ∀ t : List UInt8, k :: t = [k] ++ t := fun _ => rfl
      rcases sorted with h | h | h | h | h | h | h | h | h | h
      · rw [h] at hf hk1
        obtain ⟨⟨r1, s1⟩, e1, e2⟩ := pF2 hf
        obtain ⟨a1, b1⟩ := fI e1 rfl rfl
        generalize r1.id = x1 at a1 b1
        subst a1
        obtain ⟨a2, b2⟩ := fS e2 rfl
        generalize r'.slots = x2 at a2 b2
        subst a2
        subst b2
        subst b1
        rw [ek, ← hk1]
        simp [bytesOf, A4, A3, A2, A1, bI, bN, bL, bS, rec0, hasB, fieldsB, List.append_assoc]
      · rw [h] at hf hk1
        obtain ⟨⟨r1, s1⟩, e1, ⟨r2, s2⟩, e2, e3⟩ := pF3 hf
        obtain ⟨a1, b1⟩ := fI e1 rfl rfl
        generalize r1.id = x1 at a1 b1
        subst a1
        obtain ⟨a2, b2⟩ := fL e2 rfl rfl
        generalize r2.list = x2 at a2 b2
        subst a2
        obtain ⟨a3, b3⟩ := fS e3 rfl
        generalize r'.slots = x3 at a3 b3
        subst a3
        subst b3
        subst b2
        subst b1
        rw [ek, ← hk1]
        simp [bytesOf, A4, A3, A2, A1, bI, bN, bL, bS, rec0, hasB, fieldsB, List.append_assoc]
      · rw [h] at hf hk1
        have e1 := pF1 hf
        obtain ⟨a1, b1⟩ := fI e1 rfl rfl
        generalize r'.id = x1 at a1 b1
        subst a1
        subst b1
        rw [ek, ← hk1]
        simp [bytesOf, A4, A3, A2, A1, bI, bN, bL, bS, rec0, hasB, fieldsB, List.append_assoc]
      · rw [h] at hf hk1
        obtain ⟨⟨r1, s1⟩, e1, ⟨r2, s2⟩, e2, e3⟩ := pF3 hf
        obtain ⟨a1, b1⟩ := fI e1 rfl rfl
        generalize r1.id = x1 at a1 b1
        subst a1
        obtain ⟨a2, b2⟩ := fD e2 rfl rfl
        generalize r2.digest = x2 at a2 b2
        subst a2
        obtain ⟨a3, b3⟩ := fL e3 rfl rfl
        generalize r'.list = x3 at a3 b3
        subst a3
        subst b3
        subst b2
        subst b1
        rw [ek, ← hk1]
        simp [bytesOf, A4, A3, A2, A1, bI, bN, bL, bS, rec0, hasB, fieldsB, List.append_assoc]
      · rw [h] at hf hk1
        obtain ⟨⟨r1, s1⟩, e1, ⟨r2, s2⟩, e2, e3⟩ := pF3 hf
        obtain ⟨a1, b1⟩ := fI e1 rfl rfl
        generalize r1.id = x1 at a1 b1
        subst a1
        obtain ⟨a2, b2⟩ := fD e2 rfl rfl
        generalize r2.digest = x2 at a2 b2
        subst a2
        obtain ⟨a3, b3⟩ := fL e3 rfl rfl
        generalize r'.list = x3 at a3 b3
        subst a3
        subst b3
        subst b2
        subst b1
        rw [ek, ← hk1]
        simp [bytesOf, A4, A3, A2, A1, bI, bN, bL, bS, rec0, hasB, fieldsB, List.append_assoc]
      · rw [h] at hf hk1
        have e1 := pF1 hf
        obtain ⟨a1, b1⟩ := fD e1 rfl rfl
        generalize r'.digest = x1 at a1 b1
        subst a1
        subst b1
        rw [ek, ← hk1]
        simp [bytesOf, A4, A3, A2, A1, bI, bN, bL, bS, rec0, hasB, fieldsB, List.append_assoc]
      · rw [h] at hf hk1
        obtain ⟨⟨r1, s1⟩, e1, e2⟩ := pF2 hf
        obtain ⟨a1, b1⟩ := fN e1 rfl rfl
        generalize r1.name = x1 at a1 b1
        subst a1
        obtain ⟨a2, b2⟩ := fD e2 rfl rfl
        generalize r'.digest = x2 at a2 b2
        subst a2
        subst b2
        subst b1
        rw [ek, ← hk1]
        simp [bytesOf, A4, A3, A2, A1, bI, bN, bL, bS, rec0, hasB, fieldsB, List.append_assoc]
      · rw [h] at hf hk1
        have e1 := pF1 hf
        obtain ⟨a1, b1⟩ := fN e1 rfl rfl
        generalize r'.name = x1 at a1 b1
        subst a1
        subst b1
        rw [ek, ← hk1]
        simp [bytesOf, A4, A3, A2, A1, bI, bN, bL, bS, rec0, hasB, fieldsB, List.append_assoc]
      · rw [h] at hf
        have e : r' = rec0 0 := by
          have h2 : some (rec0 0, s) = some (r', ([] : List UInt8)) := hf
          injection h2 with h2
          injection h2 with h2 _
          exact h2.symm
        subst e
        exact absurd hm (by decide)
      · have e0 : fieldsB (k.toNat : Int) = [] := by
          unfold fieldsB
          repeat rw [if_neg (by omega)]
        rw [e0] at hf
        have e : r' = rec0 k.toNat := by
          have h2 : some (rec0 k.toNat, s) = some (r', ([] : List UInt8)) := hf
          injection h2 with h2
          injection h2 with h2 _
          exact h2.symm
        subst e
        have := ((mayB_iff _).1 hm).1
        have h9 : kindBad (rec0 (k.toNat : Int)) = true := by
          show (decide ((k.toNat : Int) < 1) || decide ((8 : Int) < (k.toNat : Int))) = true
          rw [Bool.or_eq_true, decide_eq_true_eq, decide_eq_true_eq]; omega
        rw [h9] at this; cases this
    · cases he
/-! ### Frames -/
/-- A frame's head and record. -/
def frameH (r : Rec) (n : Int) : List UInt8 := be 3 (bytesOf r).length ++ be 4 n ++ bytesOf r
end Silo

namespace Go.Eng
open Go Go.RowKit Go.Lib
/-- append of so many zero values onto the nil slice. -/
theorem Eff.appendZeros0 {P : Program} {env : Env} {w : World} {ty : TypeId} {s x : Operand} {t tn e : TypeId} {size by_ : Nat} {z : List Value} {kq kn : IntKind} {k : Int} (ht : slT P t = some (e, size, by_, z)) (htn : P.underlying tn = some (.int kn)) (hs : evO env s = some (.slice none 0 0)) (hx : evO env x = some (.int kq k)) (h0 : 0 < k) (hsz : 0 < size)
    (hm : k ≤ 1048576) (hby : 1048576 * by_ ≤ 140737488355328) :
    Eff P env w (.call ⟨.builtin .append, #[s, x], #[t, tn]⟩) ty (fun v w' => ∃ G, v = .slice (some ⟨w.heap.size, 0, none⟩) k.toNat G ∧ k ≤ (G : Int) ∧ Own w' w.heap.size e size (.slice (some ⟨w.heap.size, 0, none⟩) 0 G) 0 [] ∧ Below w.heap.size w w') :=
  Eff.of_run fun _ a ho d pos after g => by
    obtain ⟨m, rfl⟩ := Int.eq_ofNat_of_zero_le (Int.le_of_lt h0)
    have hm0 : 0 < m := by omega
    obtain ⟨hu, inf, zv, hi, hss, hb', hz', hc, hl⟩ := slT_spec ht
    subst hss hb'
    have hmm : m * inf.bytes ≤ 1048576 * inf.bytes := Nat.mul_le_mul_right _ (by omega)
    have hr := Lib.run_append_grow_zeros (P := P) w t tn ty e inf zv kq kn hu htn hi hz' none 0 0 [] (run_firstCells_none w.drew inf.size 0 0 0) m hm0 hsz (by omega) (by omega) (by omega) (growslice_fits (by omega) (by rw [Nat.zero_add]; omega))
    simp only [Nat.zero_add] at hr
    have hge := grownCap_ge w m 0 e
    have hle := grownCap_le_maxLen w m 0 e (by unfold maxLen; omega)
    refine ⟨_, _, by simp only [execOp, resolve, invoke, builtin, List.map_toArray, List.map_cons, List.map_nil, ho.eval hs, ho.eval hx, hr, Sem.run_bind, Result.andThen_ok, Sem.run_pure]; rfl, grownCap w m 0 e, rfl, by omega, ⟨by simp, ownIn ⟨w.heap.size, _, _, (0, 0), rfl, Nat.le_refl _, heap_alloc_new w.drew _, fun h => by simp at h, Nat.zero_le _, hle, ?_, by simp⟩⟩, (Below.refl _ _).drew.alloc (Nat.le_refl _) _⟩
    have hzs : zv.cells.size = inf.size := by rw [hc]; simpa using hl
    simp only [Array.size_append, List.size_toArray, size_zeroCells, hzs, List.length_nil, Nat.zero_add, ← Nat.add_mul]
    congr 1
    omega
section
variable {P : Program} {env : Env} {w : World} {ty : TypeId}
theorem Val.slcap {x : Operand} {A : Option Addr} {n c : Nat} {t e : TypeId} (ht : P.underlying t = some (.slice e)) (hx : evO env x = some (.slice A n c)) : Val P env w (.call ⟨.builtin .cap, #[x], #[t]⟩) ty (I c) := fun _ a ho d pos after g => by
  simp [execOp, resolve, invoke, builtin, Builtin.cap_, ho.eval hx, run_underlying ht, goInt]
/-- []byte of a constant: the row is marked, behind its last cell. -/
theorem Eff.convBytesC {x : Operand} {c : Nat → Nat} {i b n : Nat} {cs : List Value} {t e : TypeId} (ht : P.underlying t = some (.slice e)) (he : P.underlying e = some (.int .u8)) (hx : evO env x = some (.slice (some ⟨b, 0, none⟩) n n)) (hb : BlkC c w i b cs e) (hl : cs.length = n * 1) (hn : n ≤ 9223372036854775807) :
    Eff P env w (.convert t t x) ty (fun v w' => ∃ c', Mv c w c' w' [i] ∧ v = .slice (some ⟨b, 0, none⟩) n n ∧ OwnC c' w' i e 1 v n cs) :=
  Eff.of_run fun _ a ho d pos after g => by
    have hbk : w.heap[b]? = some (.cells cs.toArray e (0, 0)) := hb.blk
    have hsh : w.shape? b = some (e, cs.toArray.size) := by unfold World.shape?; rw [hbk]
    have hheap : ∀ k : Nat, (w.freeze ⟨b, cs.toArray.size, none⟩ 1).heap[k]? = if k = b then some (.cells cs.toArray e (cs.toArray.size, cs.toArray.size + 1)) else w.heap[k]? := fun k => by
      unfold World.freeze
      rw [if_neg (by decide)]
      simp only [Array.getElem?_modify]
      by_cases hk : b = k
      · subst hk; rw [if_pos rfl, if_pos rfl, hbk]; rfl
      · rw [if_neg hk, if_neg (fun h => hk h.symm)]
    have hsz : (w.freeze ⟨b, cs.toArray.size, none⟩ 1).heap.size = w.heap.size := by unfold World.freeze; rw [if_neg (by decide)]; simp
    have hot : (w.freeze ⟨b, cs.toArray.size, none⟩ 1).os = w.os ∧ (w.freeze ⟨b, cs.toArray.size, none⟩ 1).tape = w.tape ∧ (w.freeze ⟨b, cs.toArray.size, none⟩ 1).output = w.output := by unfold World.freeze; rw [if_neg (by decide)]; exact ⟨rfl, rfl, rfl⟩
    refine ⟨_, w.freeze ⟨b, cs.toArray.size, none⟩ 1, by simp [execOp, convert, ho.eval hx, run_underlying ht, run_underlying he, markStringish, hsh], c, ⟨hot.1, hot.2.1, hot.2.2, Nat.le_of_eq hsz.symm, fun _ _ => rfl, fun k hk hc => ?_⟩, rfl, ⟨⟨hl, ownIn ⟨b, n, cs.toArray, _, rfl, Nat.zero_le _, by rw [hheap, if_pos rfl], fun _ => Nat.le_refl _, Nat.le_refl _, by rw [maxLen_eq]; exact hn, by simpa using hl, by simp [← hl]⟩⟩, fun k hk => ?_⟩⟩
    · rw [hheap, if_neg (fun e' => by subst e'; rw [hb.col] at hc; simp [hasC] at hc)]
    · simp only [Value.rowOf] at hk
      cases hb' : Nat.beq n 0 <;> rw [hb'] at hk <;> simp at hk
      rw [← hk]; exact hb.col
theorem Val.rdlenC {wr : World} {α : Type} {s : Shape α} {c : Nat → Nat} {J : List Nat} {x : Operand} {t e : TypeId} {sz by_ : Nat} {z : List Value} {v : Value} {l : List α} (ht : slT P t = some (e, sz, by_, z)) (hr : RdC s c wr J v l) (hx : evO env x = some v) : Val P env w (.call ⟨.builtin .len, #[x], #[t]⟩) ty (I l.length) :=
  Val.rdlen ht hr.now hx
theorem Val.indexC {wr : World} {α : Type} {s : Shape α} {c : Nat → Nat} {J : List Nat} {x y : Operand} {t e : TypeId} {by_ : Nat} {z : List Value} {k : IntKind} {j : Int} {v : Value} {l : List α} (ht : slT P t = some (e, s.size, by_, z)) (hr : RdC s c wr J v l) (hx : evO env x = some v) (hy : evO env y = some (.int k j))
    (h0 : 0 ≤ j) (h1 : j < l.length) : Val P env w (.indexAddr t x y) ty (.pointer (some (elemA v s.size j.toNat))) := Val.indexAddr ht hr.now rfl hx hy h0 h1
end
theorem Val.bneq {P : Program} {env : Env} {w : World} {ty ty2 t : TypeId} {x y : Operand} {p q : Bool} (ht : P.underlying t = some .bool) (hx : evO env x = some (.bool p)) (hy : evO env y = some (.bool q)) : Val P env w (.binOp .neq t x y ty2) ty (.bool (!(p == q))) := fun _ a ho d pos after g => by
  have h1 := run_equal_bool (P := P) w t p q ht
  cases p <;> cases q <;> simp [execOp, ho.eval hx, ho.eval hy, eqGuard, binOp, h1]
theorem Val.xorU8 {P : Program} {env : Env} {w : World} {ty ty2 t : TypeId} {x y : Operand} {m n : Int} (hx : evO env x = some (.int .u8 m)) (hy : evO env y = some (.int .u8 n)) : Val P env w (.binOp .xor t x y ty2) ty (.int .u8 (u8I (((BitVec.ofInt 8 m) ^^^ (BitVec.ofInt 8 n)).toNat : Int)).toNat) := by
  have := Val.bitop (P := P) (w := w) (ty := ty) (t := t) (ty2 := ty2) (op := .xor) hx hy (.inr (.inr ⟨rfl, rfl⟩))
  rw [wrap_u8I] at this
  exact this
end Go.Eng
namespace Silo
open Go Go.Eng
theorem sne_self (l : List UInt8) : (!(l == l)) = false := by simp
theorem eqc (b : Bool) : (!(b == decide ((if b = true then (0 : Int) else 7) = 0))) = false := by cases b <;> decide
theorem eqd (b : Bool) : (!b && !decide ((if b = true then (0 : Int) else 7) = 7)) = false := by cases b <;> decide
end Silo

namespace Go.Eng
open Go Go.RowKit

theorem uponIn_monoQ {F : Fence} {n : Nat} {P : Program} {o : Oper} {a : Act} {w : World} {K K' : Act → World → Prop} {Q Q' : Exit → Act → World → Prop} (hq : ∀ e a w, (e = .normal → False) → Q e a w → Q' e a w) (h : ∀ a w, K a w → K' a w)
    (hh : o.wpIn F n P a w K Q) : o.wpIn F n P a w K' Q' := by
  unfold Oper.wpIn at *
  refine ⟨hh.1, ?_⟩
  have hh := hh.2
  generalize (o.semAt F.round a.eval).run P w = r at *
  cases r with
  | ok x w' =>
    cases x <;> simp only [Oper.uponIn] at hh ⊢ <;>
      first
        | exact h _ _ hh
        | exact hq _ _ _ nofun hh
        | exact ⟨hh.1, CallsIn.mono hh.2 (fun e w'' he => by cases e <;> first | exact h _ _ he | exact hq _ _ _ nofun he | exact Exists.elim he fun a h1 => Exists.elim h1 fun w h2 => ⟨a, w, hq _ _ _ nofun h2⟩)⟩
        | exact ⟨hh.1, RowsIn.mono hh.2 (fun _ _ he => h _ _ he)⟩
        | exact ⟨hh.1, RoundIn.mono hh.2 (fun e w'' he => by cases e <;> first | exact h _ _ he | exact hq _ _ _ nofun he | exact Exists.elim he fun a h1 => Exists.elim h1 fun w h2 => ⟨a, w, hq _ _ _ nofun h2⟩)⟩
  | halt x w' => cases x <;> simp only [Oper.uponIn] at hh ⊢ <;> first | exact hh | exact hq _ _ _ nofun hh
theorem wpOpIn_monoQ {F : Fence} {n : Nat} {P : Program} {ops : Array Oper} {i : Nat} {a : Act} {w : World} {K K' : Act → World → Prop} {Q Q' : Exit → Act → World → Prop} (hq : ∀ e a w, (e = .normal → False) → Q e a w → Q' e a w) (h : ∀ a w, K a w → K' a w)
    (hh : wpOpIn F n P ops Q i K a w) : wpOpIn F n P ops Q' i K' a w := by
  unfold wpOpIn at *
  split
  · exact h _ _ (by simpa [*] using hh)
  · rename_i o ho
    simp only [ho] at hh
    split
    · rename_i hw; simp only [hw, if_true] at hh; exact uponIn_monoQ hq h hh
    · rename_i hw; simp only [hw] at hh; exact ⟨hh.1, h _ _ hh.2⟩
section
variable {c : Cx} {B : List (Nat × Kont)} {env : Env} {w : World} {M N : Kont} {ops : Array Oper} {C : World → Prop} {kind : List Nat} {is is1 is2 : List Nat}
theorem QQ_others {e : Exit} {a : Act} {w : World} (hne : e = .normal → False) (h : QQ c B M e a w) : QQ c B N e a w := by
  cases e with
  | normal => exact (hne rfl).elim
  | exit id => exact h
  | ret => exact h
  | goto l => exact h
  | panic ch => exact h
  | outgrown => exact h
theorem wpCan_cut (h2 : ∀ e w, M e w → WD c B ops C kind is2 e w N) : ∀ (is1 : List Nat) (a : Act) (w : World), wpCan c.rnd c.P ops C kind (QQ c B M) is1 a w → wpCan c.rnd c.P ops C kind (QQ c B N) (is1 ++ is2) a w
  | [], a, w, h => by obtain ⟨e, he, hm⟩ := h; exact h2 e w hm a he
  | i :: is, a, w, h => by
    unfold wpCan at h
    rw [List.cons_append]
    unfold wpCan
    cases hi : ops[i]? with
    | none => rw [hi] at h; exact h
    | some o =>
      rw [hi] at h
      simp only at h ⊢
      split at h
      · obtain ⟨v, hy, hk⟩ := h; exact ⟨v, hy, wpCan_cut h2 is _ _ hk⟩
      · obtain ⟨hc, v, hy, hk⟩ := h; exact ⟨hc, v, hy, wpCan_cut h2 is _ _ hk⟩
      · exact wpOpIn_monoQ (fun _ _ _ hne hq => QQ_others hne hq) (fun _ _ hk => ⟨hk.1, wpCan_cut h2 is _ _ hk.2⟩) h
      · exact wpOpIn_monoQ (fun _ _ _ hne hq => QQ_others hne hq) (fun _ _ hk => wpCan_cut h2 is _ _ hk) h
      · exact h
theorem WD.cut (k : Nat) (M : Kont) (h : WD c B ops C kind (is.take k) env w M) (h2 : ∀ e w, M e w → WD c B ops C kind (is.drop k) e w N) : WD c B ops C kind is env w N := fun a ho => by
  have := wpCan_cut h2 _ _ _ (h a ho)
  rwa [List.take_append_drop] at this

/-- Passed over, in a drawn region. -/
def offD (ops : Array Oper) (n : Nat) (kind : List Nat) : List Nat → Env → Option Env
  | [], env => some env
  | i :: r, env => match ops[i]? with
    | some o => match o.dst, o.guard with
      | some d, some (j, want) => match (ops[j]?).bind (·.dst) with
        | some s => match look env s, kind[i]? with
          | some (.bool b), some k => bif b == want then none else bif Nat.blt d n && Nat.blt k 3 then offD ops n kind r ((d, undef) :: env) else none
          | some (.tuple _), some k => bif Nat.blt d n && Nat.blt k 3 then offD ops n kind r ((d, undef) :: env) else none
          | _, _ => none
        | none => none
      | _, _ => none
    | none => none
theorem wpCan_pass {i : Nat} {o : Oper} {d k : Nat} {a : Act} {Q : Exit → Act → World → Prop} {ro : Option Nat} {P : Program} (hi : ops[i]? = some o) (hd : o.dst = some d) (hk : kind[i]? = some k) (hk3 : k < 3) (hw : Region.wanted o (yielded ops a.tmps) = false) (hC : C w)
    (next : wpCan ro P ops C kind Q is (a.put (some d) undef) w) : wpCan ro P ops C kind Q (i :: is) a w := by
  unfold wpCan
  simp only [hi, hk]
  have : k = 0 ∨ k = 1 ∨ k = 2 := by omega
  rcases this with rfl | rfl | rfl
  · exact ⟨undef, .inr ⟨hw, rfl⟩, by rw [hd]; exact next⟩
  · exact ⟨hC, undef, .inr ⟨hw, rfl⟩, by rw [hd]; exact next⟩
  · simp only
    unfold wpOpIn
    simp only [hi, hw, hd]
    exact ⟨fun _ _ => trivial, fun h => h, next⟩
theorem WD.offs (hC : C w) : ∀ (is1 : List Nat) (env env' : Env), offD ops c.n kind is1 env = some env' → WD c B ops C kind is2 env' w N → WD c B ops C kind (is1 ++ is2) env w N
  | [], env, env', h, next => by simp [offD] at h; subst h; exact next
  | i :: r, env, env', h, next => by
    unfold offD at h
    split at h
    · rename_i o hi
      split at h
      · rename_i d j want hdst hgd
        split at h
        · rename_i s hs
          split at h
          · rename_i b k hb hkk
            cases hbw : (b == want) with
            | true => rw [hbw] at h; simp at h
            | false =>
              rw [hbw] at h
              cases hdn : Nat.blt d c.n && Nat.blt k 3 with
              | false => rw [hdn] at h; simp at h
              | true =>
                rw [hdn] at h
                have hd2 := hdn
                simp only [Bool.and_eq_true] at hd2
                intro a ho
                refine wpCan_pass hi hdst hkk (by rw [← Nat.blt_eq]; exact hd2.2) ?_ hC (WD.offs hC r _ _ (by simpa using h) next _ (ho.put hd2.1 undef))
                simp [Region.wanted, hgd, yielded, hs, ho.vals s _ hb, hbw]
          · rename_i vs k hb hkk
            cases hdn : Nat.blt d c.n && Nat.blt k 3 with
            | false => rw [hdn] at h; simp at h
            | true =>
              rw [hdn] at h
              have hd2 := hdn
              simp only [Bool.and_eq_true] at hd2
              intro a ho
              refine wpCan_pass hi hdst hkk (by rw [← Nat.blt_eq]; exact hd2.2) ?_ hC (WD.offs hC r _ _ (by simpa using h) next _ (ho.put hd2.1 undef))
              simp [Region.wanted, hgd, yielded, hs, ho.vals s _ hb]
          · cases h
        · cases h
      · cases h
    · cases h
theorem offD_drop (n : Nat) : ∀ (l : List Nat) (env e : Env), offD ops n kind l env = some e → e.drop l.length = env
  | [], env, e, h => by simp [offD] at h; simp [h]
  | i :: r, env, e, h => by
    unfold offD at h
    split at h
    · split at h
      · split at h
        · split at h
          · rename_i b k _ _
            cases hbw : (b == _) with
            | true => rw [hbw] at h; simp at h
            | false =>
              rw [hbw] at h
              cases hdn : Nat.blt _ n && Nat.blt k 3 with
              | false => rw [hdn] at h; simp at h
              | true =>
                rw [hdn] at h
                have := offD_drop n r _ e (by simpa using h)
                rw [List.length_cons, ← List.drop_drop, this]; rfl
          · rename_i k _ _
            cases hdn : Nat.blt _ n && Nat.blt k 3 with
            | false => rw [hdn] at h; simp at h
            | true =>
              rw [hdn] at h
              have := offD_drop n r _ e (by simpa using h)
              rw [List.length_cons, ← List.drop_drop, this]; rfl
          · cases h
        · cases h
      · cases h
    · cases h
def offDOk (ops : Array Oper) (n : Nat) (kind : List Nat) (l : List Nat) (s : Nat) (v : Bool) (env : Env) : Bool :=
  match offD ops n kind l ((s, .bool v) :: env) with
  | some e => freshB ((s, .bool v) :: env) l.length e
  | none => false
theorem WD.pickOn {i : Nat} {cd x y : Operand} {d : Nat} {ty : TypeId} {pos : String} {after : Array Edge} {g : Option (Nat × Bool)} {b : Bool} {v : Value} (hi : ops[i]? = some ⟨some d, .pick cd x y, ty, pos, after, g⟩) (hk : kind[i]? = some 0) (hg : guardOn ops env g = true) (hd : Nat.blt d c.n = true)
    (hc : evO env cd = some (.bool b)) (hv : evO env (if b then x else y) = some v) (next : WD c B ops C kind is ((d, v) :: env) w N) : WD c B ops C kind (i :: is) env w N :=
  WD.val hi hk hg (fun _ => Val.pick hc hv) hd next
/-- Where one of two ways is picked, in a drawn region. -/
theorem WD.sc {i : Nat} {tl : List Nat} (q : Bool) (k : Nat) (x : Bool) (R : World → Prop) {s t d : Nat} {b : Bool} {ty : TypeId} {pos : String} {after : Array Edge} {g : Option (Nat × Bool)} {u v : Operand}
    (hs : look env s = some (.bool b)) (hl : is.drop k = i :: tl) (hi : ops[i]? = some ⟨some d, .pick (.tmp s) u v, ty, pos, after, g⟩) (hk : kind[i]? = some 0) (hg : guardOn ops env g = true)
    (hu : (if q then u else v) = .tmp t) (hv : (if q then v else u) = .const (.bool (!q)))
    (hoff : offDOk ops c.n kind (is.take k) s (!q) env = true) (hd : Nat.blt d c.n = true) (hC : C w)
    (hT : b = q → WD c B ops C kind (is.take k) ((s, .bool q) :: env) w (fun e w' => look e t = some (.bool x) ∧ Sub ((s, .bool q) :: env) e ∧ R w'))
    (hF : b = !q → R w)
    (next : ∀ w', R w' → WD c B ops C kind tl ((d, .bool (bif q then b && x else b || x)) :: env) w' N) : WD c B ops C kind is env w N := by
  by_cases hb : b = q
  · refine WD.cut k (fun e w' => (look e t = some (.bool x) ∧ Sub ((s, .bool q) :: env) e ∧ R w')) ?_ ?_
    · intro a ho
      exact hT hb a (ho.sub (Sub.cons (by rw [hs, hb]) (Sub.refl _)))
    · rintro e w' ⟨h1, h2, h3⟩
      rw [hl]
      have hsub : Sub env e := Sub.shadow (v := .bool q) (by rw [hs, hb]) h2
      have hse : look e s = some (.bool q) := h2.vals s _ (look_hit (look_ne hs))
      refine WD.pickOn (v := .bool x) hi hk (guardOn_sub hsub hg) hd (b := q) (by simpa [evO] using hse) ?_ ?_
      · rw [hu]; exact h1
      · have e1 : (bif q then b && x else b || x) = x := by subst hb; cases b <;> simp
        have := next w' h3
        rw [e1] at this
        exact fun a ho => this a (ho.sub (Sub.both hsub))
  · have hb' : b = !q := by cases b <;> cases q <;> simp_all
    unfold offDOk at hoff
    split at hoff
    · rename_i e he
      have hdrop := offD_drop _ _ _ _ he
      have h2 : Sub ((s, .bool (!q)) :: env) e := Sub.drop _ _ _ hdrop hoff
      have hsub : Sub env e := Sub.shadow (v := .bool (!q)) (by rw [hs, hb']) h2
      have hse : look e s = some (.bool (!q)) := h2.vals s _ (look_hit (look_ne hs))
      have main : WD c B ops C kind (is.take k ++ is.drop k) ((s, .bool (!q)) :: env) w N := by
        refine WD.offs hC _ _ _ he ?_
        rw [hl]
        refine WD.pickOn (v := .bool (!q)) hi hk (guardOn_sub hsub hg) hd (b := !q) (by simpa [evO] using hse) ?_ ?_
        · have : (if (!q) = true then u else v) = (if q then v else u) := by cases q <;> rfl
          rw [this, hv]; rfl
        · have e1 : (bif q then b && x else b || x) = !q := by subst hb'; cases q <;> simp
          have := next w (hF hb')
          rw [e1] at this
          exact fun a ho => this a (ho.sub (Sub.both hsub))
      rw [List.take_append_drop] at main
      exact fun a ho => main a (ho.sub (Sub.cons (by rw [hs, hb']) (Sub.refl _)))
    · cases hoff
end
end Go.Eng

namespace Go.Proofs.Ythlfolpcmcejkaa
open Go Go.Eng Go.RowKit Silo TryT

end Go.Proofs.Ythlfolpcmcejkaa

namespace Silo
open Go Go.Eng
/-- One bit of a sum. -/
def crcT (x : Nat) : Nat := if x % 2 = 1 then (x / 2) ^^^ 14514072000185962306 else x / 2
def crcN : Nat → Nat → Nat
  | 0, x => x
  | k + 1, x => crcT (crcN k x)
def crcB (x : Nat) (b : UInt8) : Nat := crcN 8 (x ^^^ b.toNat)
def crcL (x : Nat) (s : List UInt8) : Nat := s.foldl crcB x
def inv64 (x : Nat) : Nat := 18446744073709551615 - x
/-- A text's sum. -/
def crc (s : List UInt8) : Nat := inv64 (crcL (inv64 0) s)
theorem crcT_lt {x : Nat} (h : x < 18446744073709551616) : crcT x < 18446744073709551616 := by
  unfold crcT
  split
  · exact Nat.xor_lt_two_pow (n := 64) (by omega) (by decide)
  · omega
theorem crcN_lt : ∀ (k : Nat) {x : Nat}, x < 18446744073709551616 → crcN k x < 18446744073709551616
  | 0, _, h => h
  | k + 1, _, h => crcT_lt (crcN_lt k h)
theorem xor_byte_lt {x : Nat} (b : UInt8) (h : x < 18446744073709551616) : x ^^^ b.toNat < 18446744073709551616 := Nat.xor_lt_two_pow (n := 64) h (by have := b.toNat_lt; omega)
theorem crcB_lt {x : Nat} (b : UInt8) (h : x < 18446744073709551616) : crcB x b < 18446744073709551616 := crcN_lt 8 (xor_byte_lt b h)
theorem crcL_lt : ∀ (s : List UInt8) {x : Nat}, x < 18446744073709551616 → crcL x s < 18446744073709551616
  | [], _, h => h
  | b :: s, _, h => crcL_lt s (crcB_lt b h)
theorem inv64_lt (x : Nat) : inv64 x < 18446744073709551616 := by unfold inv64; omega
theorem crcL_take {x : Nat} {s : List UInt8} {k : Nat} (hk : k < s.length) : crcL x (s.take (k + 1)) = crcB (crcL x (s.take k)) s[k] := by
  rw [List.take_succ_eq_append_getElem hk, crcL, List.foldl_append]; rfl
end Silo
namespace Go.Eng
open Go Go.RowKit Silo
abbrev U64 (n : Nat) : Value := .int .u64 (n : Int)
theorem wrap_u64n {n : Nat} (h : n < 18446744073709551616) : IntKind.u64.wrap (n : Int) = n := by
  simp [IntKind.wrap, IntKind.signed, IntKind.bits]; omega
section
variable {P : Program} {env : Env} {w : World} {ty ty2 t : TypeId} {x y : Operand} {m n : Nat}
theorem Val.and1U64 (hx : evO env x = some (U64 m)) (hy : evO env y = some (.int .u64 1)) (hm : m < 18446744073709551616) : Val P env w (.binOp .and t x y ty2) ty (U64 (m % 2)) := by
  have := Val.bitop (P := P) (w := w) (ty := ty) (t := t) (ty2 := ty2) (op := .and) (k := .u64) hx hy (.inr (.inl ⟨rfl, rfl⟩))
  have e : ((BitVec.ofInt IntKind.u64.bits (m : Int) &&& BitVec.ofInt IntKind.u64.bits 1).toNat) = m % 2 := by
    rw [BitVec.toNat_and, ofInt_nat _ m (by exact hm), show (BitVec.ofInt IntKind.u64.bits 1).toNat = 1 from by decide, Nat.and_one_is_mod]
  rw [e, wrap_u64n (by omega)] at this
  exact this
theorem Val.xorU64 (hx : evO env x = some (U64 m)) (hy : evO env y = some (U64 n)) (hm : m < 18446744073709551616) (hn : n < 18446744073709551616) : Val P env w (.binOp .xor t x y ty2) ty (U64 (m ^^^ n)) := by
  have := Val.bitop (P := P) (w := w) (ty := ty) (t := t) (ty2 := ty2) (op := .xor) (k := .u64) hx hy (.inr (.inr ⟨rfl, rfl⟩))
  have e : ((BitVec.ofInt IntKind.u64.bits (m : Int) ^^^ BitVec.ofInt IntKind.u64.bits (n : Int)).toNat) = m ^^^ n := by
    rw [BitVec.toNat_xor, ofInt_nat _ m (by exact hm), ofInt_nat _ n (by exact hn)]
  rw [e, wrap_u64n (Nat.xor_lt_two_pow (n := 64) hm hn)] at this
  exact this
theorem Val.shr1U64 (hx : evO env x = some (U64 m)) (hy : evO env y = some (.int .u64 1)) : Val P env w (.binOp .shr t x y ty2) ty (U64 (m / 2)) := by
  have := Val.shr (P := P) (w := w) (ty := ty) (t := t) (ty2 := ty2) hx hy (by decide) (by decide)
  have e : ((m : Int) / 2 ^ (1 : Int).toNat) = ((m / 2 : Nat) : Int) := by
    have h2 : (2 : Int) ^ (1 : Int).toNat = 2 := by decide
    rw [h2]; omega
  rw [e] at this
  exact this
theorem Val.invU64 (hx : evO env x = some (U64 m)) (hm : m < 18446744073709551616) : Val P env w (.unOp .xor t x) ty (U64 (inv64 m)) := fun _ a ho d pos after g => by
  have e0 : (BitVec.ofInt 64 18446744073709551615 ^^^ BitVec.ofInt 64 (m : Int)).toNat = inv64 m := by
    have e1 : BitVec.ofInt 64 18446744073709551615 = BitVec.allOnes 64 := by decide
    rw [e1, BitVec.allOnes_xor, BitVec.toNat_not, ofInt_nat 64 m (by exact hm)]
    rfl
  have h : (Op.intBits .xor .u64 18446744073709551615 (m : Int) : Sem Value) = pure (U64 (inv64 m)) := by
    have e : IntKind.u64.wrap ((BitVec.ofInt IntKind.u64.bits 18446744073709551615 ^^^ BitVec.ofInt IntKind.u64.bits (m : Int)).toNat : Int) = inv64 m := by
      have e2 : ((BitVec.ofInt IntKind.u64.bits 18446744073709551615 ^^^ BitVec.ofInt IntKind.u64.bits (m : Int)).toNat) = inv64 m := e0
      rw [e2, wrap_u64n (inv64_lt m)]
    simp only [Op.intBits]
    rw [e]
  simp only [execOp, ho.eval hx, Op.unary]
  simp [IntKind.signed, IntKind.max, IntKind.bits, h]
end
end Go.Eng
namespace Go.Proofs.Ythlfolpcmcejkaa
open Go Go.Eng Go.RowKit Silo TryT

theorem cturned_ok {w : World} {x : Nat} (hx : x < 18446744073709551616) : Calls Try.prog 79 #[U64 x] w (Ret fun v w' => Below w.heap.size w w' ∧ v = U64 (crcT x)) := by
  refine enter (n := 11) (res := #[.tmp 2]) Try.func79 rfl rfl rfl rfl ?_
  refine cseq <| cg <| za rfl <| cnil <| cseq <| cseq <| cg <| zm rfl <| vq (Val.and1U64 rfl rfl hx) ?_
  refine vq (Val.eql rfl rfl) <| cnil ?_
  refine WC.cond rfl (fun hc1 => ?_) (fun hc1 => ?_)
  ·try simp only [tstS] at hc1
   have h1 : x % 2 = 1 := by omega
   refine cseq <| cg <| zm rfl <| vq (Val.shr1U64 rfl rfl) <| vq (Val.xorU64 (n := 14514072000185962306) rfl rfl (by omega) (by decide)) <| za rfl <| cnil ?_
   refine WC.ret1 rfl rfl ?_
   exact ⟨Below.refl _ _, by rw [crcT, if_pos h1]⟩
  ·try simp only [tstS] at hc1
   refine cskip <| cseq <| cg <| zm rfl <| vq (Val.shr1U64 rfl rfl) <| za rfl <| cnil ?_
   refine WC.ret1 rfl rfl ?_
   exact ⟨Below.refl _ _, by rw [crcT, if_neg (by omega)]⟩
theorem cmore_ok {w : World} {x : Nat} {s : List UInt8} (hx : x < 18446744073709551616) (hs : s.length ≤ 140737488355328) : Calls Try.prog 76 #[U64 x, St s] w (Ret fun v w' => Below w.heap.size w w' ∧ v = U64 (inv64 (crcL (inv64 x) s))) := by
  have hK : Old w w := Old.refl w
  refine enter (n := 28) (res := #[.tmp 4]) Try.func76 rfl rfl rfl rfl ?_
  refine cseq <| cg <| za rfl <| cnil <| cseq <| cg <| zm rfl <| vq (Val.invU64 rfl hx) <| za rfl ?_
  refine cnil <| cseq <| cseq <| cg <| zm rfl <| vq (Val.slen Try.underlying9 rfl) <| zm rfl <| cnil <| cblock ?_
  refine WC.loop (σ := Nat) (fun k => [(1, St s), (5, U64 (crcL (inv64 x) (s.take k))), (10, I s.length), (11, I k)]) (fun k w' => Old w w' ∧ k ≤ s.length) (fun k => s.length - k) 0 subs ⟨hK, by omega⟩ ?_
  clear hK
  rintro k wl ⟨hK, hk⟩
  have hl := crcL_lt (s.take k) (inv64_lt x)
  refine cseq <| cg <| vq (Val.lss rfl rfl) <| cnil <| cseq ?_
  refine WC.cond rfl (fun hc3 => ?_) (fun hc3 => ?_)
  ·try simp only [tstS] at hc3
   have ka : k < s.length := by omega
   have ht := crcL_take (x := inv64 x) ka
   have hxb := xor_byte_lt s[k] hl
   refine cskip <| cseq <| cblock <| cseq <| cg <| zm rfl <| za rfl <| cnil <| cseq ?_
   refine cg <| zm rfl <| zm rfl <| zm rfl <| vq (Val.sindex Try.underlying9 rfl rfl (by omega) (show s[((k : Nat) : Int).toNat]? = some s[k] by rw [Int.toNat_natCast]; exact List.getElem?_eq_getElem ka)) <| vq (Val.convU8u64 Try.underlying5 Try.underlying94 rfl) <| vq (Val.xorU64 (n := s[k].toNat) rfl rfl hl (by have := s[k].toNat_lt; omega)) <| za rfl <| cnil ?_
   refine cseq <| cg <| zm rfl <| cnil <| cblock ?_
   refine WC.loop (σ := Nat) (fun j => [(1, St s), (5, U64 (crcN j (crcL (inv64 x) (s.take k) ^^^ s[k].toNat))), (10, I s.length), (11, I k), (20, I j)]) (fun j w' => Old w w' ∧ j ≤ 8) (fun j => 8 - j) 0 subs ⟨hK, by omega⟩ ?_
   clear hK
   rintro j wm ⟨hK, hj⟩
   have hjl := crcN_lt j hxb
   refine cseq <| cg <| vq (Val.lss rfl rfl) <| cnil <| cseq ?_
   refine WC.cond rfl (fun hc7 => ?_) (fun hc7 => ?_)
   ·try simp only [tstS] at hc7
    refine cskip <| cseq <| cblock <| cg <| zm rfl ?_
    refine ve (Eff.call pf79 rfl (cturned_ok hjl)) ?_
    rintro v23 w1 ⟨hk1, rfl⟩
    replace hK := hK.up hk1
    refine za rfl <| cnil <| cg <| vq (Val.addI rfl rfl side side) <| zm rfl <| cnil ?_
    exact ⟨j + 1, subs, ⟨hK, by omega⟩, by omega⟩
   ·try simp only [tstS] at hc7
    have hj8 : j = 8 := by omega
    subst hj8
    refine WC.exit rfl ?_
    refine cg <| vq (Val.addI rfl rfl side side) <| zm rfl <| cnil ?_
    refine ⟨k + 1, ?_, ⟨hK, ka⟩, by omega⟩
    rw [ht]
    exact subs
  ·try simp only [tstS] at hc3
   have hks : k = s.length := by omega
   subst hks
   rw [List.take_length] at hl ⊢
   refine WC.exit rfl ?_
   refine cseq <| cg <| zm rfl <| vq (Val.invU64 rfl hl) <| za rfl <| cnil ?_
   refine WC.ret1 rfl rfl ?_
   exact ⟨hK, rfl⟩
theorem cof_ok {w : World} {s : List UInt8} (hs : s.length ≤ 140737488355328) : Calls Try.prog 67 #[St s] w (Ret fun v w' => Below w.heap.size w w' ∧ v = U64 (crc s)) := by
  have hK : Old w w := Old.refl w
  refine enter (n := 5) (res := #[.tmp 2]) Try.func67 rfl rfl rfl rfl ?_
  refine cseq <| cg <| za rfl <| cnil <| cseq <| cg <| zm rfl ?_
  refine ve (Eff.call pf76 rfl (cmore_ok (x := 0) (by decide) hs)) ?_
  rintro v4 w1 ⟨hk1, rfl⟩
  replace hK := hK.up hk1
  refine za rfl <| cnil ?_
  refine WC.ret1 rfl rfl ?_
  exact ⟨hK, rfl⟩
set_option maxHeartbeats 1000000 in
theorem qsum_ok {w : World} {s : List UInt8} (hs : s.length ≤ 140737488355328) : Calls Try.prog 68 #[.int .u64 0, St s] w (Ret fun v w' => Below w.heap.size w w' ∧ v = U64 (crc s)) := by
  have hK : Old w w := Old.refl w
  refine enter (n := 35) (res := #[.tmp 4]) Try.func68 rfl rfl rfl rfl ?_
  refine cseq <| cg <| za rfl <| cnil <| cseq <| cg <| zm rfl <| vq (Val.invU64 (m := 0) rfl (by decide)) <| za rfl ?_
  refine cnil <| cseq <| cseq <| cg <| za rfl <| cnil <| cblock ?_
  refine WC.loop (σ := Nat) (fun k => [(0, U64 (crcL (inv64 0) (s.take k))), (1, St s), (5, I k)]) (fun k w' => Old w w' ∧ k ≤ s.length) (fun k => s.length - k) 0 subs ⟨hK, by omega⟩ ?_
  clear hK
  rintro k wl ⟨hK, hk⟩
  have hl := crcL_lt (s.take k) (inv64_lt 0)
  refine cseq <| cseq <| cg <| zm rfl <| zm rfl <| vq (Val.slen Try.underlying9 rfl) <| vq (Val.lss rfl rfl) <| cnil ?_
  refine WC.cond rfl (fun hc3 => ?_) (fun hc3 => ?_)
  ·try simp only [tstS] at hc3
   have ka : k < s.length := by omega
   have ht := crcL_take (x := inv64 0) ka
   have hxb := xor_byte_lt s[k] hl
   refine cskip <| cseq <| cblock <| cseq <| cg <| zm rfl <| zm rfl <| zm rfl <| vq (Val.sindex Try.underlying9 rfl rfl (by omega) (show s[((k : Nat) : Int).toNat]? = some s[k] by rw [Int.toNat_natCast]; exact List.getElem?_eq_getElem ka)) ?_
   refine vq (Val.convU8u64 Try.underlying5 Try.underlying94 rfl) <| vq (Val.xorU64 (n := s[k].toNat) rfl rfl hl (by have := s[k].toNat_lt; omega)) <| za rfl <| cnil <| cseq <| cg <| za rfl <| cnil <| cblock ?_
   refine WC.loop (σ := Nat) (fun j => [(0, U64 (crcN j (crcL (inv64 0) (s.take k) ^^^ s[k].toNat))), (1, St s), (5, I k), (6, I j)]) (fun j w' => Old w w' ∧ j ≤ 8) (fun j => 8 - j) 0 subs ⟨hK, by omega⟩ ?_
   clear hK
   rintro j wm ⟨hK, hj⟩
   have hjl := crcN_lt j hxb
   refine cseq <| cseq <| cg <| zm rfl <| vq (Val.lss rfl rfl) <| cnil ?_
   refine WC.cond rfl (fun hc7 => ?_) (fun hc7 => ?_)
   ·try simp only [tstS] at hc7
    obtain ⟨y, hy⟩ : ∃ y, y = crcN j (crcL (inv64 0) (s.take k) ^^^ s[k].toNat) := ⟨_, rfl⟩
    have hst : crcN (j + 1) (crcL (inv64 0) (s.take k) ^^^ s[k].toNat) = crcT y := by rw [hy]; rfl
    rw [← hy] at hjl ⊢
    refine cskip <| cseq <| cblock <| cseq <| cg <| zm rfl <| vq (Val.and1U64 rfl rfl hjl) <| vq (Val.eql rfl rfl) <| cnil ?_
    refine WC.cond rfl (fun hc9 => ?_) (fun hc9 => ?_)
    ·try simp only [tstS] at hc9
     refine cg <| zm rfl <| vq (Val.shr1U64 rfl rfl) <| vq (Val.xorU64 (n := 14514072000185962306) rfl rfl (by omega) (by decide)) <| za rfl <| cnil <| cg <| zm rfl <| vq (Val.addI rfl rfl side side) ?_
     refine za rfl <| cnil ?_
     first
     | (have h1 : y % 2 = 1 := by omega); rw [crcT, if_pos h1] at hst; exact ⟨j + 1, by rw [hst]; exact subs, ⟨hK, by omega⟩, by omega⟩
     | (have h1 : ¬ y % 2 = 1 := by omega); rw [crcT, if_neg h1] at hst; exact ⟨j + 1, by rw [hst]; exact subs, ⟨hK, by omega⟩, by omega⟩
    ·try simp only [tstS] at hc9
     refine cg <| zm rfl <| vq (Val.shr1U64 rfl rfl) <| za rfl <| cnil <| cg <| zm rfl <| vq (Val.addI rfl rfl side side) <| za rfl ?_
     refine cnil ?_
     first
     | (have h1 : y % 2 = 1 := by omega); rw [crcT, if_pos h1] at hst; exact ⟨j + 1, by rw [hst]; exact subs, ⟨hK, by omega⟩, by omega⟩
     | (have h1 : ¬ y % 2 = 1 := by omega); rw [crcT, if_neg h1] at hst; exact ⟨j + 1, by rw [hst]; exact subs, ⟨hK, by omega⟩, by omega⟩
   ·try simp only [tstS] at hc7
    have hj8 : j = 8 := by omega
    subst hj8
    refine WC.exit rfl ?_
    refine cg <| zm rfl <| vq (Val.addI rfl rfl side side) <| za rfl <| cnil ?_
    refine ⟨k + 1, ?_, ⟨hK, ka⟩, by omega⟩
    rw [ht]
    exact subs
  ·try simp only [tstS] at hc3
   have hks : k = s.length := by omega
   subst hks
   rw [List.take_length] at hl ⊢
   refine WC.exit rfl ?_
   refine cseq <| cg <| zm rfl <| vq (Val.invU64 rfl hl) <| za rfl <| cnil ?_
   refine WC.ret1 rfl rfl ?_
   exact ⟨hK, rfl⟩
theorem be_u64 {n : Nat} (h : n < 18446744073709551616) : be 8 (IntKind.i64.wrap (n : Int)) = be 8 (n : Int) := be_congr 8 _ _ (by
  simp only [IntKind.wrap, IntKind.signed, IntKind.bits]
  simp
  split <;> omega)
theorem ssum_ok {w : World} {s : List UInt8} (hs : s.length ≤ 140737488355328) : Calls Try.prog 56 #[St s] w (Ret fun v w' => Below w.heap.size w w' ∧ v = St (be 8 (crc s : Nat))) := by
  have hK : Old w w := Old.refl w
  refine enter (n := 7) (res := #[.tmp 2]) Try.func56 rfl rfl rfl rfl ?_
  refine cseq <| cg <| za rfl <| cnil <| cseq <| cg <| zm rfl ?_
  refine ve (Eff.call pf68 rfl (qsum_ok hs)) ?_
  rintro v4 w1 ⟨hk1, rfl⟩
  replace hK := hK.up hk1
  refine vq (Val.convInt Try.underlying94 Try.underlying3 rfl) ?_
  refine ve (Eff.call pf46 rfl (high_ok (IntKind.i64.wrap (crc s : Nat)) 8 (by decide))) ?_
  rintro v6 w2 ⟨hk2, rfl⟩
  replace hK := hK.up hk2
  refine za rfl <| cnil ?_
  refine WC.ret1 rfl rfl ?_
  exact ⟨hK, by rw [be_u64 (n := crc s) (inv64_lt _)]⟩
end Go.Proofs.Ythlfolpcmcejkaa

namespace Go.Proofs.Ythlfolpcmcejkaa
open Go Go.Eng Go.RowKit Silo TryT

theorem put_g {w : World} {base m : Nat} {v : Value} {l : List UInt8} (hown : Own w base 5 1 v m (bytesV l)) (hBw : base ≤ w.heap.size) (n size : Int) (h0 : 0 ≤ size) (h8 : size ≤ 8) (hm : m ≤ 1099511627776) :
    Calls Try.prog 66 #[v, .int .u64 n, I size] w (Ret fun v' w' => Kept w w' v.rowOf v'.rowOf ∧ Own w' base 5 1 v' (m + size.toNat) (bytesV (l ++ be size.toNat n))) := by
  obtain ⟨s, rfl⟩ := Int.eq_ofNat_of_zero_le h0
  have hs : s ≤ 8 := by omega
  have hKp : Kept w w v.rowOf v.rowOf := Kept.refl _ _
  refine enter (n := 23) (res := #[.tmp 6]) Try.func66 rfl rfl rfl rfl ?_
  refine cseq <| cg <| za rfl <| cnil <| cseq <| cseq <| cg <| zm rfl <| vq (Val.subI rfl rfl side side) ?_
  refine za rfl <| cnil <| cblock ?_
  refine WC.loop (σ := Nat × Value) (fun st => [(0, st.2), (1, .int .u64 n), (2, I s), (7, I ((st.1 : Int) - 1))]) (fun st w' => Own w' base 5 1 st.2 (m + (s - st.1)) (bytesV (l ++ (be s n).take (s - st.1))) ∧ st.1 ≤ s ∧ Kept w w' v.rowOf st.2.rowOf ∧ base ≤ w'.heap.size) (fun st => st.1) (s, v) subs ⟨by simpa using hown, Nat.le_refl _, hKp, hBw⟩ ?_
  rintro ⟨k, v⟩ wl ⟨ho, hk, hKp, hBw⟩
  dsimp only at ho hk hKp ⊢
  refine cseq <| cseq <| cg <| zm rfl <| vq (Val.geq rfl rfl) <| cnil ?_
  refine WC.cond rfl (fun hc2 => ?_) (fun hc2 => ?_)
  ·try simp only [tstS] at hc2
   obtain ⟨j, rfl⟩ : ∃ j, k = j + 1 := ⟨k - 1, by omega⟩
   have ej : ((j + 1 : Nat) : Int) - 1 = (j : Int) := by omega
   rw [ej]
   refine cskip <| cseq <| cblock <| cg <| zm rfl <| zm rfl <| zm rfl <| vq (Val.mulI rfl rfl side side) <| vq (Val.shr rfl rfl side (by simp [IntKind.bits] <;> omega)) ?_
   refine vq (Val.convToU8I Try.underlying94 Try.underlying5 rfl) ?_
   refine ve (Eff.build1 sl38 rfl rfl rfl rfl rfl) ?_
   rintro _ w1 ⟨b20, rfl, hn20⟩
   have hk1 := hn20.below
   replace ho := ho.up hk1; replace hKp := hKp.up hk1; replace hBw := Nat.le_trans hBw hk1.size
   refine ve (Eff.append sl38 rfl rfl ho (Src.cellsAt Try.underlying38 hn20.blk.cellsAt rfl ones) mxl oms hBw) ?_
   intro v21 w2 hA21
   have hk2 := hA21.belowB ho hBw
   replace hBw := Nat.le_trans hBw hk2.size
   replace ho := hA21.own
   replace hKp := hKp.trans hA21.keptR
   have e1 : bytesV (l ++ (be s n).take (s - (j + 1))) ++ [Value.int .u8 (u8I (n / 2 ^ (8 * (j : Int)).toNat)).toNat] = bytesV (l ++ (be s n).take (s - j)) := by
     have : (8 * (j : Int)).toNat = 8 * j := by omega
     rw [be_take_step s j n hk, this, pow8]; simp [bytesV]
   rw [e1, show m + (s - (j + 1)) + 1 = m + (s - j) by omega] at ho
   refine za rfl <| cnil <| cg <| zm rfl <| vq (Val.subI rfl rfl side side) <| za rfl <| cnil ?_
   exact ⟨(j, v21), subs, ⟨ho, by omega, hKp, hBw⟩, by simp⟩
  ·try simp only [tstS] at hc2
   refine WC.exit rfl ?_
   refine cseq <| cg <| zm rfl <| za rfl <| cnil ?_
   refine WC.ret1 rfl rfl ?_
   have : k = 0 := by omega
   subst this
   refine ⟨hKp, ?_⟩
   rw [Nat.sub_zero, be_take_all] at ho
   simpa using ho

theorem rput_g {w : World} {base m : Nat} {v : Value} {l : List UInt8} (hown : Own w base 5 1 v m (bytesV l)) (hBw : base ≤ w.heap.size) (n : Int) (hm : m ≤ 1099511627776) :
    Calls Try.prog 63 #[v, I n] w (Ret fun v' w' => Kept w w' v.rowOf v'.rowOf ∧ Own w' base 5 1 v' (m + 4) (bytesV (l ++ be 4 n))) := by
  have h1 : 0 ≤ n % 4294967296 := Int.emod_nonneg _ (by decide)
  have h2 : n % 4294967296 < 4294967296 := Int.emod_lt_of_pos _ (by decide)
  have e1 : be 4 (n % 4294967296) = be 4 n := be_congr 4 _ _ (by show n % 4294967296 % 4294967296 = n % 4294967296; exact Int.emod_emod_of_dvd _ ⟨1, rfl⟩)
  refine enter (n := 10) (res := #[.tmp 4]) Try.func63 rfl rfl rfl rfl ?_
  refine cseq <| cg <| za rfl <| cnil <| cseq <| cg <| zm rfl <| zm rfl <| vq (Val.convToU32 Try.underlying3 Try.underlying103 rfl) ?_
  refine vq (Val.convToU64 Try.underlying103 Try.underlying94 rfl side side) ?_
  refine ve (Eff.call pf66 rfl (put_g hown hBw (n % 4294967296) 4 (by decide) (by decide) hm)) ?_
  rintro v9 w1 ⟨hk, ho⟩
  refine za rfl <| cnil ?_
  refine WC.ret1 rfl rfl ?_
  rw [← e1]
  exact ⟨hk, ho⟩

theorem be1 (n : Int) : be 1 n = [u8I n] := by simp [be]
theorem bytesV_append (a b : List UInt8) : bytesV (a ++ b) = bytesV a ++ bytesV b := by simp [bytesV]
def cL (r : Rec) : List UInt8 := if hasB r.kind 108 then be 4 r.list.length else []
def cS (r : Rec) : List UInt8 := if hasB r.kind 115 then be 1 r.slots.length else []

theorem spelt_ok {w : World} {cs : List Value} {r : Rec} (h : RdRec w cs r) (hn : r.name.length ≤ 1000000) (hd : r.digest.length ≤ 1000000) (hll : r.list.length ≤ 1000000) (hss : r.slots.length ≤ 1000000) (hnoL : hasB r.kind 108 = false → r.list = []) (hnoS : hasB r.kind 115 = false → r.slots = []) :
    Calls Try.prog 45 #[.agg cs.toArray] w (Ret fun v w' => Below w.heap.size w w' ∧ v = St (bytesOf r)) := by
  obtain ⟨vl, vs, rfl, hl, hs, hq⟩ := h
  obtain ⟨hq1, hq2, hq3, hq4⟩ := hq
  have o1 := hl.oneC
  have o2 := hs.oneC
  have l1 := A1_len r
  have l2 : (A2 r).length ≤ 1000006 := by
    simp only [A2, bN, List.length_append]; split
    · simp only [List.length_append, be_length]; omega
    · simp; omega
  have l3 : (A3 r).length ≤ 2000006 := by simp only [A3, List.length_append]; omega
  have l4 : (A4 r).length ≤ 6000010 := by
    simp only [A4, bL, List.length_append]; split
    · simp only [List.length_append, be_length, flat4_len]; omega
    · simp; omega
  have hK : Old w w := Old.refl w
  refine enter (n := 82) (res := #[.tmp 2]) Try.func45 rfl rfl rfl rfl ?_
  refine cseq <| cg ?_
  refine ve (Eff.box rfl) ?_
  rintro _ w1 ⟨b1, rfl, hn1⟩
  have hk1 := hn1.below
  replace hl := hl.up hk1; replace hs := hs.up hk1; replace hK := hK.up hk1
  have hb1 := hn1.blk
  refine za rfl <| cnil <| cseq ?_
  obtain ⟨B, hB⟩ : ∃ B, B = w1.heap.size := ⟨_, rfl⟩
  have hBw : B ≤ w1.heap.size := Nat.le_of_eq hB
  replace hb1 := hb1.fix; replace hK := Old.fix hK
  rw [← hB] at hl hs hb1 hK
  refine cg <| vq (Val.fieldAddr fld31_0 rfl) <| vq (Val.loadB scl3 rfl hb1.2 rfl) <| vq (Val.convToU8I Try.underlying3 Try.underlying5 rfl) ?_
  refine ve (Eff.build1 sl38 rfl rfl rfl rfl rfl) ?_
  rintro _ w2 ⟨b11, rfl, hn11⟩
  have hk2 := hn11.below
  replace hl := hl.upB (hk2.mono hBw); replace hs := hs.upB (hk2.mono hBw); replace hb1 := hb1.upB (hk2.mono hBw); replace hK := hK.upB (hk2.mono hBw); replace hBw := Nat.le_trans hBw hk2.size
  refine za rfl <| cnil ?_
  have ho := hn11.own (base := B) (n := 1) (size := 1) (Nat.le_of_eq hB) rfl (by decide)
  rw [show [Value.int .u8 (u8I r.kind).toNat] = bytesV (be 1 r.kind) by rw [be1]; rfl] at ho
  refine cseq <| cseq <| cg <| vq (Val.fieldAddr fld31_0 rfl) <| vq (Val.loadB scl3 rfl hb1.2 rfl) ?_
  refine ve (Eff.call pf60 rfl (has_ok r.kind 105)) ?_
  rintro v14 w3 ⟨hk3, rfl⟩
  replace hl := hl.upB (hk3.mono hBw); replace hs := hs.upB (hk3.mono hBw); replace hb1 := hb1.upB (hk3.mono hBw); replace hK := hK.upB (hk3.mono hBw); replace ho := ho.up hk3; replace hBw := Nat.le_trans hBw hk3.size
  refine cnil ?_
  refine WC.mono (N := fun e w' => ∃ v3, Sub [(4000000, .tuple #[]), (1, .pointer (some ⟨b1, 0, none⟩)), (3, v3)] e ∧ BlkB B w' b1 [I r.kind, I r.id, St r.name, St r.digest, vl, vs] 31 ∧ RdS intS B w' vl r.list ∧ RdS slotS B w' vs r.slots ∧ OldB B w w' ∧ B ≤ w'.heap.size ∧ Own w' B 5 1 v3 (A1 r).length (bytesV (A1 r))) ?_ ?_
  ·refine WC.cond rfl (fun hc2 => ?_) (fun hc2 => ?_)
   ·try simp only [tstS] at hc2
    refine cg <| zm rfl <| vq (Val.fieldAddr fld31_1 rfl) <| vq (Val.loadB scl3 rfl hb1.2 rfl) ?_
    refine ve (Eff.call pf63 rfl (rput_g ho hBw r.id (by omega))) ?_
    rintro v18 w9 ⟨hk9, ho9⟩
    replace hk9 := hk9.below ho (Nat.le_refl _) hBw
    replace hl := hl.upB hk9; replace hs := hs.upB hk9; replace hb1 := hb1.upB hk9; replace hK := hK.upB hk9; replace hBw := Nat.le_trans hBw hk9.size
    refine za rfl <| cnil ?_
    have e : A1 r = be 1 r.kind ++ be 4 r.id := by simp [A1, bI, hc2]
    rw [e]; exact ⟨_, subs, hb1, hl, hs, hK, hBw, by rw [List.length_append, be_length, be_length]; exact ho9⟩
   ·try simp only [tstS] at hc2
    refine cskip ?_
    have e : A1 r = be 1 r.kind := by simp [A1, bI, hc2]
    rw [e]; exact ⟨_, subs, hb1, hl, hs, hK, hBw, by rw [be_length]; exact ho⟩
  ·skip
   rintro _ wc2 ⟨v3, hsub, hb1, hl, hs, hK, hBw, ho⟩
   refine WC.sub hsub ?_
   clear hsub
   refine cseq <| cseq <| cg <| vq (Val.fieldAddr fld31_0 rfl) <| vq (Val.loadB scl3 rfl hb1.2 rfl) ?_
   refine ve (Eff.call pf60 rfl (has_ok r.kind 110)) ?_
   rintro v21 w4 ⟨hk4, rfl⟩
   replace hl := hl.upB (hk4.mono hBw); replace hs := hs.upB (hk4.mono hBw); replace hb1 := hb1.upB (hk4.mono hBw); replace hK := hK.upB (hk4.mono hBw); replace ho := ho.up hk4; replace hBw := Nat.le_trans hBw hk4.size
   refine cnil ?_
   refine WC.mono (N := fun e w' => ∃ v3, Sub [(4000000, .tuple #[]), (1, .pointer (some ⟨b1, 0, none⟩)), (3, v3)] e ∧ BlkB B w' b1 [I r.kind, I r.id, St r.name, St r.digest, vl, vs] 31 ∧ RdS intS B w' vl r.list ∧ RdS slotS B w' vs r.slots ∧ OldB B w w' ∧ B ≤ w'.heap.size ∧ Own w' B 5 1 v3 (A2 r).length (bytesV (A2 r))) ?_ ?_
   ·refine WC.cond rfl (fun hc4 => ?_) (fun hc4 => ?_)
    ·try simp only [tstS] at hc4
     refine WC.regionD (Below B w4) [0, 0, 1, 0, 0, 2, 2, 0, 1, 2, 0] [0, 1, 2, 3, 4, 7, 8, 5, 6, 9, 10] mixed (by kernel_rfl) ?_
     have hk5 : Below w4.heap.size w4 w4.drew := (Below.refl _ _).drew
     have hCw : Below B w4 w4.drew := (Below.refl _ _).drew
     generalize w4.drew = w5 at hk5 hCw ⊢
     have hb10 := hb1
     replace hl := hl.upB (hk5.mono hBw); replace hs := hs.upB (hk5.mono hBw); replace hb1 := hb1.upB (hk5.mono hBw); replace hK := hK.upB (hk5.mono hBw); replace ho := ho.up hk5; replace hBw := Nat.le_trans hBw hk5.size
     refine zdm rfl rfl <| vd rfl (fun _ => Val.fieldAddr fld31_2 rfl) <| qc rfl rfl rfl hCw (fun W hW => Val.loadB scl9 rfl (hb10.upB hW).2 rfl) rfl <| vd rfl (fun _ => Val.slen Try.underlying9 rfl) <| vd rfl (fun _ => Val.convToU8I Try.underlying3 Try.underlying5 rfl) <| vd rfl (fun _ => Val.fieldAddr fld31_2 rfl) <| qc rfl rfl rfl hCw (fun W hW => Val.loadB scl9 rfl (hb10.upB hW).2 rfl) rfl ?_
     refine WD.eff rfl rfl rfl (Eff.build1 sl38 rfl rfl rfl rfl rfl) rfl ?_
     rintro _ w6 ⟨b27, rfl, hn27⟩
     have hk6 := hn27.below
     refine ⟨fun hC => Below.trans hC (hk6.mono hBw), ?_⟩
     replace hCw := Below.trans hCw (hk6.mono hBw)
     replace hl := hl.upB (hk6.mono hBw); replace hs := hs.upB (hk6.mono hBw); replace hb1 := hb1.upB (hk6.mono hBw); replace hK := hK.upB (hk6.mono hBw); replace ho := ho.up hk6; replace hBw := Nat.le_trans hBw hk6.size
     refine WD.eff rfl rfl rfl (Eff.append sl38 rfl rfl ho (Src.cellsAt Try.underlying38 hn27.blk.cellsAt rfl ones) mxl oms hBw) rfl ?_
     intro v28 w7 hA28
     have hk7 := hA28.belowB ho hBw
     refine ⟨fun hC => Below.trans hC hk7, ?_⟩
     replace hCw := Below.trans hCw hk7
     replace hl := hl.upB hk7; replace hs := hs.upB hk7; replace hb1 := hb1.upB hk7; replace hK := hK.upB hk7; replace hBw := Nat.le_trans hBw hk7.size
     replace ho := hA28.own
     rw [show [Value.int .u8 (u8I r.name.length).toNat] = bytesV (be 1 r.name.length) by rw [be1]; rfl, ← bytesV_append] at ho
     refine WD.eff rfl rfl rfl (Eff.append sl38 rfl rfl ho (Src.str Try.underlying9) mxl oms hBw) rfl ?_
     intro v31 w8 hA31
     have hk8 := hA31.belowB ho hBw
     refine ⟨fun hC => Below.trans hC hk8, ?_⟩
     replace hCw := Below.trans hCw hk8
     replace hl := hl.upB hk8; replace hs := hs.upB hk8; replace hb1 := hb1.upB hk8; replace hK := hK.upB hk8; replace hBw := Nat.le_trans hBw hk8.size
     replace ho := hA31.own
     rw [show (r.name.map fun b => Value.int .u8 b.toNat) = bytesV r.name from rfl, ← bytesV_append] at ho
     refine zda rfl rfl ?_
     refine WD.nil ?_
     clear hb10
     clear hCw
     have e : A2 r = A1 r ++ be 1 r.name.length ++ r.name := by simp [A2, bN, hc4]
     rw [e]; exact ⟨_, subs, hb1, hl, hs, hK, hBw, by rw [List.length_append, List.length_append, be_length]; exact ho⟩
    ·try simp only [tstS] at hc4
     refine cskip ?_
     have e : A2 r = A1 r := by simp [A2, bN, hc4]
     rw [e]; exact ⟨_, subs, hb1, hl, hs, hK, hBw, ho⟩
   ·skip
    rintro _ wc4 ⟨v3, hsub, hb1, hl, hs, hK, hBw, ho⟩
    refine WC.sub hsub ?_
    clear hsub
    refine cseq <| cg <| zm rfl <| vq (Val.fieldAddr fld31_3 rfl) <| vq (Val.loadB scl9 rfl hb1.2 rfl) ?_
    refine ve (Eff.append sl38 rfl rfl ho (Src.str Try.underlying9) mxl oms hBw) ?_
    intro v35 w9 hA35
    have hk9 := hA35.belowB ho hBw
    replace hl := hl.upB hk9; replace hs := hs.upB hk9; replace hb1 := hb1.upB hk9; replace hK := hK.upB hk9; replace hBw := Nat.le_trans hBw hk9.size
    replace ho := hA35.own
    rw [show (r.digest.map fun b => Value.int .u8 b.toNat) = bytesV r.digest from rfl, ← bytesV_append, show (A2 r).length + r.digest.length = (A3 r).length by simp [A3]] at ho
    change Own _ _ _ _ _ _ (bytesV (A3 r)) at ho
    refine za rfl <| cnil <| cseq <| cseq <| cg <| vq (Val.fieldAddr fld31_0 rfl) <| vq (Val.loadB scl3 rfl hb1.2 rfl) ?_
    refine ve (Eff.call pf60 rfl (has_ok r.kind 108)) ?_
    rintro v38 w10 ⟨hk10, rfl⟩
    replace hl := hl.upB (hk10.mono hBw); replace hs := hs.upB (hk10.mono hBw); replace hb1 := hb1.upB (hk10.mono hBw); replace hK := hK.upB (hk10.mono hBw); replace ho := ho.up hk10; replace hBw := Nat.le_trans hBw hk10.size
    refine cnil ?_
    refine WC.mono (N := fun e w' => ∃ v3, Sub [(4000000, .tuple #[]), (1, .pointer (some ⟨b1, 0, none⟩)), (3, v3)] e ∧ BlkB B w' b1 [I r.kind, I r.id, St r.name, St r.digest, vl, vs] 31 ∧ RdS intS B w' vl r.list ∧ RdS slotS B w' vs r.slots ∧ OldB B w w' ∧ B ≤ w'.heap.size ∧ Own w' B 5 1 v3 (A3 r ++ cL r).length (bytesV (A3 r ++ cL r))) ?_ ?_
    ·refine WC.cond rfl (fun hc7 => ?_) (fun hc7 => ?_)
     ·try simp only [tstS] at hc7
      refine cg <| zm rfl <| vq (Val.fieldAddr fld31_4 rfl) <| vq (Val.loadB scl24 rfl hb1.2 rfl) ?_
      first | refine vq (Val.rdlen sl24 (by assumption) rfl) ?_ | refine vq (Val.sllen Try.underlying24 rfl) ?_
      refine ve (Eff.call pf63 rfl (rput_g ho hBw r.list.length (by omega))) ?_
      rintro v43 w19 ⟨hk9, ho9⟩
      replace hk9 := hk9.below ho (Nat.le_refl _) hBw
      replace hl := hl.upB hk9; replace hs := hs.upB hk9; replace hb1 := hb1.upB hk9; replace hK := hK.upB hk9; replace hBw := Nat.le_trans hBw hk9.size
      refine za rfl <| cnil ?_
      have e : cL r = be 4 r.list.length := by simp [cL, hc7]
      rw [e]; exact ⟨_, subs, hb1, hl, hs, hK, hBw, by rw [List.length_append, be_length]; exact ho9⟩
     ·try simp only [tstS] at hc7
      refine cskip ?_
      have e : cL r = [] := by simp [cL, hc7]
      rw [e, List.append_nil]; exact ⟨_, subs, hb1, hl, hs, hK, hBw, ho⟩
    ·skip
     rintro _ wc7 ⟨v3, hsub, hb1, hl, hs, hK, hBw, ho⟩
     refine WC.sub hsub ?_
     clear hsub
     refine cseq <| cseq <| cg <| vq (Val.fieldAddr fld31_4 rfl) <| vq (Val.loadB scl24 rfl hb1.2 rfl) ?_
     first | refine vq (Val.rdlen sl24 (by assumption) rfl) ?_ | refine vq (Val.sllen Try.underlying24 rfl) ?_
     refine zm rfl <| cnil <| cblock ?_
     have lc : (A3 r ++ cL r).length ≤ 2000010 := by
       simp only [cL, List.length_append]; split <;> simp [be_length] <;> omega
     refine WC.loop (σ := Nat × Value) (fun st => [(1, .pointer (some ⟨b1, 0, none⟩)), (3, st.2), (45, vl), (46, I r.list.length), (47, I st.1)]) (fun st w' => BlkB B w' b1 [I r.kind, I r.id, St r.name, St r.digest, vl, vs] 31 ∧ RdS intS B w' vl r.list ∧ RdS slotS B w' vs r.slots ∧ OldB B w w' ∧ B ≤ w'.heap.size ∧ st.1 ≤ r.list.length ∧ Own w' B 5 1 st.2 ((A3 r ++ cL r).length + 4 * st.1) (bytesV (A3 r ++ cL r ++ (r.list.take st.1).flatMap (be 4)))) (fun st => r.list.length - st.1) (0, v3) subs ⟨hb1, hl, hs, hK, hBw, by simp, by simpa using ho⟩ ?_
     rintro ⟨k, v3⟩ wl ⟨hb1, hl, hs, hK, hBw, hk, ho⟩
     dsimp only at hk ho ⊢
     refine cseq <| cg <| vq (Val.lss rfl rfl) <| cnil <| cseq ?_
     refine WC.cond rfl (fun hc10 => ?_) (fun hc10 => ?_)
     ·try simp only [tstS] at hc10
      have ka : k < r.list.length := by omega
      obtain ⟨cs1, hc49, rfl, ok1⟩ := hl.elB ka
      replace hc49 := hc49.toCel hBw
      refine cskip <| cseq <| cblock <| cseq <| cg <| vq (Val.indexAddr sl24 (by assumption) rfl rfl rfl side side) <| vq (Val.loadE1 scl3 rfl hc49) <| za rfl <| cnil ?_
      refine cg <| zm rfl <| zm rfl ?_
      refine ve (Eff.call pf63 rfl (rput_g ho hBw _ (by omega))) ?_
      rintro v53 w29 ⟨hk9, ho9⟩
      replace hk9 := hk9.below ho (Nat.le_refl _) hBw
      replace hl := hl.upB hk9; replace hs := hs.upB hk9; replace hb1 := hb1.upB hk9; replace hK := hK.upB hk9; replace hBw := Nat.le_trans hBw hk9.size
      refine za rfl <| cnil <| cg <| vq (Val.addI rfl rfl side side) <| zm rfl <| cnil ?_
      exact ⟨(k + 1, v53), subs, ⟨hb1, hl, hs, hK, hBw, ka, by rw [take_succ_flatMap _ ka, ← List.append_assoc, Nat.mul_add, ← Nat.add_assoc]; exact ho9⟩, by simp; omega⟩
     ·try simp only [tstS] at hc10
      refine WC.exit rfl ?_
      have ho4 : Own wl B 5 1 v3 (A4 r).length (bytesV (A4 r)) := by
        have ek : k = r.list.length := by omega
        subst ek
        rw [List.take_of_length_le (Nat.le_refl _)] at ho
        have e : A4 r = A3 r ++ cL r ++ r.list.flatMap (be 4) := by
          cases e : hasB r.kind 108
          · simp [A4, bL, cL, e, hnoL e]
          · simp [A4, bL, cL, e]
        rw [e]
        rw [List.length_append, flat4_len]; exact ho
      clear ho
      have ho := ho4
      clear ho4
      refine cseq <| cseq <| cg <| vq (Val.fieldAddr fld31_0 rfl) <| vq (Val.loadB scl3 rfl hb1.2 rfl) ?_
      refine ve (Eff.call pf60 rfl (has_ok r.kind 115)) ?_
      rintro v57 w11 ⟨hk11, rfl⟩
      replace hl := hl.upB (hk11.mono hBw); replace hs := hs.upB (hk11.mono hBw); replace hb1 := hb1.upB (hk11.mono hBw); replace hK := hK.upB (hk11.mono hBw); replace ho := ho.up hk11; replace hBw := Nat.le_trans hBw hk11.size
      refine cnil ?_
      refine WC.mono (N := fun e w' => ∃ v3, Sub [(4000000, .tuple #[]), (1, .pointer (some ⟨b1, 0, none⟩)), (3, v3)] e ∧ BlkB B w' b1 [I r.kind, I r.id, St r.name, St r.digest, vl, vs] 31 ∧ RdS intS B w' vl r.list ∧ RdS slotS B w' vs r.slots ∧ OldB B w w' ∧ B ≤ w'.heap.size ∧ Own w' B 5 1 v3 (A4 r ++ cS r).length (bytesV (A4 r ++ cS r))) ?_ ?_
      ·refine WC.cond rfl (fun hc14 => ?_) (fun hc14 => ?_)
       ·try simp only [tstS] at hc14
        refine cg <| zm rfl <| vq (Val.fieldAddr fld31_5 rfl) <| vq (Val.loadB scl29 rfl hb1.2 rfl) ?_
        first | refine vq (Val.rdlen sl29 (by assumption) rfl) ?_ | refine vq (Val.sllen Try.underlying29 rfl) ?_
        refine vq (Val.convToU8I Try.underlying3 Try.underlying5 rfl) ?_
        refine ve (Eff.build1 sl38 rfl rfl rfl rfl rfl) ?_
        rintro _ w12 ⟨b63, rfl, hn63⟩
        have hk12 := hn63.below
        replace hl := hl.upB (hk12.mono hBw); replace hs := hs.upB (hk12.mono hBw); replace hb1 := hb1.upB (hk12.mono hBw); replace hK := hK.upB (hk12.mono hBw); replace ho := ho.up hk12; replace hBw := Nat.le_trans hBw hk12.size
        refine ve (Eff.append sl38 rfl rfl ho (Src.cellsAt Try.underlying38 hn63.blk.cellsAt rfl ones) mxl oms hBw) ?_
        intro v64 w13 hA64
        have hk13 := hA64.belowB ho hBw
        replace hl := hl.upB hk13; replace hs := hs.upB hk13; replace hb1 := hb1.upB hk13; replace hK := hK.upB hk13; replace hBw := Nat.le_trans hBw hk13.size
        replace ho := hA64.own
        rw [show [Value.int .u8 (u8I r.slots.length).toNat] = bytesV (be 1 r.slots.length) by rw [be1]; rfl, ← bytesV_append] at ho
        refine za rfl <| cnil ?_
        have e : cS r = be 1 r.slots.length := by simp [cS, hc14]
        rw [e]; exact ⟨_, subs, hb1, hl, hs, hK, hBw, by rw [List.length_append, be_length]; exact ho⟩
       ·try simp only [tstS] at hc14
        refine cskip ?_
        have e : cS r = [] := by simp [cS, hc14]
        rw [e, List.append_nil]; exact ⟨_, subs, hb1, hl, hs, hK, hBw, ho⟩
      ·skip
       rintro _ wc14 ⟨v3, hsub, hb1, hl, hs, hK, hBw, ho⟩
       refine WC.sub hsub ?_
       clear hsub
       refine cseq <| cseq <| cg <| vq (Val.fieldAddr fld31_5 rfl) <| vq (Val.loadB scl29 rfl hb1.2 rfl) ?_
       first | refine vq (Val.rdlen sl29 (by assumption) rfl) ?_ | refine vq (Val.sllen Try.underlying29 rfl) ?_
       refine zm rfl <| cnil <| cblock ?_
       have lc : (A4 r ++ cS r).length ≤ 6000012 := by
         simp only [cS, List.length_append]; split <;> simp [be_length] <;> omega
       refine WC.loop (σ := Nat × Value) (fun st => [(1, .pointer (some ⟨b1, 0, none⟩)), (3, st.2), (66, vs), (67, I r.slots.length), (68, I st.1)]) (fun st w' => BlkB B w' b1 [I r.kind, I r.id, St r.name, St r.digest, vl, vs] 31 ∧ RdS intS B w' vl r.list ∧ RdS slotS B w' vs r.slots ∧ OldB B w w' ∧ B ≤ w'.heap.size ∧ st.1 ≤ r.slots.length ∧ Own w' B 5 1 st.2 ((A4 r ++ cS r).length + 8 * st.1) (bytesV (A4 r ++ cS r ++ (r.slots.take st.1).flatMap be44))) (fun st => r.slots.length - st.1) (0, v3) subs ⟨hb1, hl, hs, hK, hBw, by simp, by simpa using ho⟩ ?_
       rintro ⟨k, v3⟩ wl ⟨hb1, hl, hs, hK, hBw, hk, ho⟩
       dsimp only at hk ho ⊢
       refine cseq <| cg <| vq (Val.lss rfl rfl) <| cnil <| cseq ?_
       refine WC.cond rfl (fun hc17 => ?_) (fun hc17 => ?_)
       ·try simp only [tstS] at hc17
        have ka : k < r.slots.length := by omega
        obtain ⟨cs1, hc70, rfl, ok1⟩ := hs.elB ka
        replace hc70 := hc70.toCel hBw
        have hrow : ∀ j, v3.rowOf = some j → j < wl.heap.size := fun j hj => (ho.lt j hj).2
        refine cskip <| cseq <| cblock <| cseq <| cg <| vq (Val.indexAddr sl29 (by assumption) rfl rfl rfl side side) <| vq (Val.loadE agg66 rfl hc70 rfl) ?_
        refine ve (Eff.alloc zero66) ?_
        rintro _ w14 ⟨b7, rfl, hn7⟩
        have hk14 := hn7.below
        have hge7 : B ≤ b7 := by rw [hn7.at_]; exact hBw
        replace hl := hl.upB (hk14.mono hBw); replace hs := hs.upB (hk14.mono hBw); replace hb1 := hb1.upB (hk14.mono hBw); replace hK := hK.upB (hk14.mono hBw); replace ho := ho.up hk14; replace hBw := Nat.le_trans hBw hk14.size
        have hb7 := hn7.blk
        refine WR.eff_ (Eff.storeBN agg66 rfl rfl hb7 rfl rfl ones) ?_
        intro _ ws hS
        have hne7 : v3.rowOf ≠ some b7 := fun e => by have := hrow _ e; have := hn7.at_; omega
        have hks : Below B _ _ := Blk.store_below hS hge7 hBw
        replace ho := ho.grown hS.grown (fun j hj e => hne7 (hj.trans e.symm))
        replace hl := hl.upB hks; replace hs := hs.upB hks; replace hb1 := hb1.upB hks; replace hK := hK.upB hks; replace hBw := Nat.le_trans hBw hks.size
        replace hb7 := hS.blk
        refine cnil ?_
        refine WC.regionD (fun W => ws.grownBy W v3.rowOf) [0, 0, 1, 2, 0, 1, 2, 0] [0, 1, 2, 4, 5, 3, 6, 7] mixed (by kernel_rfl) ?_
        have hd : Below ws.heap.size ws ws.drew := (Below.refl _ _).drew
        have hC : ws.grownBy ws.drew v3.rowOf := grown_of_below hd _
        replace ho := ho.up hd; replace hl := hl.upB (hd.mono hBw); replace hs := hs.upB (hd.mono hBw); replace hb1 := hb1.upB (hd.mono hBw); replace hK := hK.upB (hd.mono hBw); replace hBw := Nat.le_trans hBw hd.size
        generalize ws.drew = w10 at hd hC ho hl hs hb1 hK hBw ⊢
        refine zdm rfl rfl <| vd rfl (fun _ => Val.fieldAddr fld66_0 rfl) <| qc rfl rfl rfl hC (fun W hW => Val.loadB scl3 rfl (hb7.grown hW hne7) rfl) rfl <| vd rfl (fun _ => Val.fieldAddr fld66_1 rfl) <| qc rfl rfl rfl hC (fun W hW => Val.loadB scl3 rfl (hb7.grown hW hne7) rfl) rfl ?_
        refine WD.eff rfl rfl rfl (Eff.call pf63 rfl (rput_g ho hBw _ (by omega))) rfl ?_
        rintro v75 w11 ⟨hk11, ho11⟩
        refine ⟨fun hC => grown_trans hC (.inl rfl) hk11.grown, ?_⟩
        have hk11b := hk11.below ho (Nat.le_refl _) hBw
        replace hl := hl.upB hk11b; replace hs := hs.upB hk11b; replace hb1 := hb1.upB hk11b; replace hK := hK.upB hk11b; replace hBw := Nat.le_trans hBw hk11b.size
        refine WD.eff rfl rfl rfl (Eff.call pf63 rfl (rput_g ho11 hBw _ (by omega))) rfl ?_
        rintro v78 w12 ⟨hk12, ho12⟩
        refine ⟨fun hC' => grown_trans hC' (hk11.at_.imp id fun ⟨j, e, hj⟩ => ⟨j, e, Nat.le_trans hC.size hj⟩) hk12.grown, ?_⟩
        have hk12b := hk12.below ho11 (Nat.le_refl _) hBw
        replace hl := hl.upB hk12b; replace hs := hs.upB hk12b; replace hb1 := hb1.upB hk12b; replace hK := hK.upB hk12b; replace hBw := Nat.le_trans hBw hk12b.size
        refine zda rfl rfl ?_
        refine WD.nil ?_
        refine cg <| vq (Val.addI rfl rfl side side) <| zm rfl <| cnil ?_
        exact ⟨(k + 1, v78), subs, ⟨hb1, hl, hs, hK, hBw, ka, by rw [take_succ_flatMap _ ka, be44, ← List.append_assoc, ← List.append_assoc]; exact ho12⟩, by simp; omega⟩
       ·try simp only [tstS] at hc17
        refine WC.exit rfl ?_
        refine cseq <| cg <| zm rfl <| vq (Val.ofBytes Try.underlying38 Try.underlying9 Try.underlying5 rfl ho) <| za rfl <| cnil ?_
        refine WC.ret1 rfl rfl ?_
        refine ⟨hK.1, ?_⟩
        have e : bytesOf r = A4 r ++ cS r ++ (r.slots.take k).flatMap be44 := by
          rw [List.take_of_length_le (by omega)]
          cases e : hasB r.kind 115
          · simp [bytesOf, bS, cS, e, hnoS e]
          · simp [bytesOf, bS, cS, e]
        rw [e]
end Go.Proofs.Ythlfolpcmcejkaa

namespace Silo
open Go Go.Eng
theorem may_small {r : Rec} (h : mayB r = true) : 1 ≤ r.kind ∧ r.kind ≤ 8 ∧ r.name.length ≤ 40 ∧ r.digest.length ≤ 32 ∧ r.list.length ≤ 2000 ∧ r.slots.length ≤ 14 ∧ (hasB r.kind 108 = false → r.list = []) ∧ (hasB r.kind 115 = false → r.slots = []) := by
  obtain ⟨hk, hw, _, hN, hD, hL, _, hS, _⟩ := (mayB_iff r).1 h
  obtain ⟨_, wN, wD, wL, wS⟩ := (want_iff r).1 hw
  simp only [kindBad, Bool.or_eq_false_iff, decide_eq_false_iff_not] at hk
  refine ⟨by omega, by omega, ?_, ?_, by omega, ?_, fun e => wL.resolve_left (by simp [e]), fun e => wS.resolve_left (by simp [e])⟩
  · rcases wN with e | e
    · have := hN e; omega
    · simp [e]
  · rcases wD with e | e
    · have := hD e; omega
    · simp [e]
  · rcases wS with e | e
    · have := hS e; omega
    · simp [e]
end Silo
namespace Go.Proofs.Ythlfolpcmcejkaa
open Go Go.Eng Go.RowKit Silo TryT

theorem check_ok {w : World} {cs : List Value} {r : Rec} (h : RdRec w cs r) : Calls Try.prog 21 #[.agg cs.toArray] w (Ret fun v w' => Below w.heap.size w w' ∧ v = I (bif mayB r then 0 else 1)) := by
  have h0 := h
  obtain ⟨vl, vs, rfl, hl, hs, hq⟩ := h
  have hK : Old w w := Old.refl w
  have o1 := hl.oneC
  have o2 := hs.oneC
  refine enter (n := 6) (res := #[.tmp 2]) Try.func21 rfl rfl rfl rfl ?_
  refine cseq <| cg ?_
  refine ve (Eff.box rfl) ?_
  rintro _ w1 ⟨b1, rfl, hn1⟩
  have hk1 := hn1.below
  replace hl := hl.up hk1; replace hs := hs.up hk1; replace hK := hK.up hk1
  have hb1 := hn1.blk
  refine za rfl <| cnil <| cseq <| cseq <| cg <| vq (Val.loadBN agg31 rfl hb1 rfl) ?_
  refine ve (Eff.call pf44 rfl (may_ok (r := r) (cs := [I r.kind, I r.id, St r.name, St r.digest, vl, vs]) ⟨vl, vs, rfl, hl, hs, hq⟩)) ?_
  rintro v4 w2 ⟨hk2, rfl⟩
  replace hl := hl.up hk2; replace hs := hs.up hk2; replace hK := hK.up hk2; replace hb1 := hb1.up hk2
  refine vq (Val.not rfl) <| cnil ?_
  refine WC.cond rfl (fun hc1 => ?_) (fun hc1 => ?_)
  ·try simp only [tstS] at hc1
   refine cseq <| cg <| za rfl <| cnil ?_
   refine WC.ret1 rfl rfl ?_
   exact ⟨hK, by rw [hc1]; rfl⟩
  ·try simp only [tstS] at hc1
   refine cskip <| cseq <| cg <| za rfl <| cnil ?_
   refine WC.ret1 rfl rfl ?_
   exact ⟨hK, by rw [hc1]; rfl⟩

theorem rbytes_ok {w : World} {cs : List Value} {r : Rec} (h : RdRec w cs r) : Calls Try.prog 18 #[.agg cs.toArray] w (Ret fun v w' => Below w.heap.size w w' ∧ v = .tuple #[St (bif mayB r then bytesOf r else []), I (bif mayB r then 0 else 1)]) := by
  have h0 := h
  obtain ⟨vl, vs, rfl, hl, hs, hq⟩ := h
  have hK : Old w w := Old.refl w
  have o1 := hl.oneC
  have o2 := hs.oneC
  refine enter (n := 9) (res := #[.tmp 2, .tmp 3]) Try.func18 rfl rfl rfl rfl ?_
  refine cseq <| cg ?_
  refine ve (Eff.box rfl) ?_
  rintro _ w1 ⟨b1, rfl, hn1⟩
  have hk1 := hn1.below
  replace hl := hl.up hk1; replace hs := hs.up hk1; replace hK := hK.up hk1
  have hb1 := hn1.blk
  refine za rfl <| za rfl <| cnil <| cseq <| cseq <| cg <| vq (Val.loadBN agg31 rfl hb1 rfl) ?_
  refine ve (Eff.call pf44 rfl (may_ok (r := r) (cs := [I r.kind, I r.id, St r.name, St r.digest, vl, vs]) ⟨vl, vs, rfl, hl, hs, hq⟩)) ?_
  rintro v5 w2 ⟨hk2, rfl⟩
  replace hl := hl.up hk2; replace hs := hs.up hk2; replace hK := hK.up hk2; replace hb1 := hb1.up hk2
  refine vq (Val.not rfl) <| cnil ?_
  refine WC.cond rfl (fun hc1 => ?_) (fun hc1 => ?_)
  ·try simp only [tstS] at hc1
   refine cseq <| cg <| za rfl <| za rfl <| cnil ?_
   refine WC.ret2 rfl rfl rfl ?_
   exact ⟨hK, by rw [hc1]; rfl⟩
  ·try simp only [tstS] at hc1
   refine cskip <| cseq ?_
   obtain ⟨_, _, s1, s2, s3, s4, s5, s6⟩ := may_small hc1
   refine cg <| vq (Val.loadBN agg31 rfl hb1 rfl) ?_
   refine ve (Eff.call pf45 rfl (spelt_ok (r := r) (cs := [I r.kind, I r.id, St r.name, St r.digest, vl, vs]) ⟨vl, vs, rfl, hl, hs, hq⟩ (by omega) (by omega) (by omega) (by omega) s5 s6)) ?_
   rintro v8 w3 ⟨hk3, rfl⟩
   replace hl := hl.up hk3; replace hs := hs.up hk3; replace hK := hK.up hk3; replace hb1 := hb1.up hk3
   refine za rfl <| za rfl <| cnil ?_
   refine WC.ret2 rfl rfl rfl ?_
   exact ⟨hK, by rw [hc1]; rfl⟩
end Go.Proofs.Ythlfolpcmcejkaa
