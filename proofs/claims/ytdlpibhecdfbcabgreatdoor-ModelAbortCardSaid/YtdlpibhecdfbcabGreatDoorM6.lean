/- The model: its program, its page, and the laws on them: part 6. No condition. -/
import Derived.Test.YtdlpibhecdfbcabGreatDoorTie
import Derived.Test.YtdlpibhecdfbcabGreatDoorCards
import Derived.Lay
import Derived.Stop.Joined
import Derived.Test.YtdlpibhecdfbcabGreatDoorM5
set_option linter.unusedSimpArgs false
set_option linter.unusedVariables false
set_option maxRecDepth 100000
namespace Go.Eng
open Go Go.RowKit
section
variable {H : Type} {enc : TypeId × Value → H} {P : Program} {W : World} {base : Nat} {sp : Nat → Bool} {held : Bool}
theorem opens_thg {e : TypeId} {f0 f1 f2 : Field} (he : P.underlying e = some (.struct #[f0, f1, f2])) (o : [f0.offset, f1.offset, f2.offset] = [0, 1, 2])
    (t0 : P.underlying f0.type = some .string) (t1 : P.underlying f1.type = some .string) (t2 : P.underlying f2.type = some .bool)
    (c : [P.cellsOf f0.type, P.cellsOf f1.type, P.cellsOf f2.type] = [1, 1, 1]) (ce : P.cellsOf e = 3) : Opens enc P W base sp held Silo.thgS (fun _ => True) e := fun n cs y h hw => by
  obtain ⟨xs, n', rfl, rfl, hlen, hxs, hf⟩ := DataW.trod_struct he h
  rw [ce] at hlen
  have hx3 : xs.length = 3 := hxs
  simp only [List.cons.injEq, and_true] at o c
  obtain ⟨o0, o1, o2⟩ := o
  obtain ⟨c0, c1, c2⟩ := c
  have h0 := hf 0 f0 rfl
  have h1 := hf 1 f1 rfl
  have h2 := hf 2 f2 rfl
  match cs, hlen, xs, hx3, h0, h1, h2, hw with
  | [a0, a1, a2], _, [x0, x1, x2], _, h0, h1, h2, hw =>
    rw [o0, c0] at h0
    rw [o1, c1] at h1
    rw [o2, c2] at h2
    have hwe : ∀ x ∈ DataW.weightsEach P [f0.type, f1.type, f2.type] [x0.1, x1.1, x2.1], x ≤ reachBytes := fun x hx => hw x (by simp only [DataW.weights, he]; exact hx)
    obtain ⟨l0, e0, w0⟩ := trod_str t0 h0 (fun x hx => hwe x (DataW.weights_mem_each (j := 0) rfl rfl x hx))
    obtain ⟨l1, e1, w1⟩ := trod_str t1 h1 (fun x hx => hwe x (DataW.weights_mem_each (j := 1) rfl rfl x hx))
    obtain ⟨b, e2, _⟩ := DataW.trod_bool t2 h2
    have e0' : a0 = St l0 := by simpa using e0
    have e1' : a1 = St l1 := by simpa using e1
    have e2' : a2 = .bool b := by simpa using e2
    exact ⟨⟨l0, l1, b⟩, ⟨by rw [e0', e1', e2'], by dsimp only; omega, by dsimp only; omega⟩, trivial⟩
end
end Go.Eng

namespace Go.Eng
open Go Go.RowKit
section
variable {H : Type} {enc : TypeId × Value → H} {P : Program} {W : World} {base : Nat} {sp : Nat → Bool} {held : Bool}
theorem open_plain {t e : TypeId} {n : Nat} {v : Value} {y : DataW H × List MemPlace} (ht : P.underlying t = some (.slice e)) (hc : 0 < P.cellsOf e) (h : DataW.trod enc P W base sp held n t [v] = some y) : PlainV v := by
 rcases DataW.trod_slice ht h with ⟨h0, _⟩ | ⟨a, len, cap, elems, rest, n', _, h0, rfl, _, hl, hm, hlen, hel, _, _⟩
 · have : v = .slice none 0 0 := by simpa using h0
   exact ⟨none, 0, 0, this, fun h => absurd h (Nat.lt_irrefl _)⟩
 have : v = .slice (some a) len cap := by simpa using h0
 refine ⟨some a, len, cap, this, fun hn => ⟨a.block, a.off, ?_⟩⟩
 have h1 := hel 0 hn
 rw [List.getElem?_eq_getElem (by omega)] at h1
 obtain ⟨cs, hcs, _⟩ := Option.bind_eq_some_iff.1 h1
 obtain ⟨_, hlc, hcell⟩ := World.cells?_some hcs
 have h2 := hcell 0 hc
 have h3 : (a.add (0 * P.cellsOf e)).add 0 = a := by simp [Addr.add]
 rw [h3, List.getElem?_eq_getElem (by omega)] at h2
 obtain ⟨b, off, spot⟩ := a
 cases spot with
 | none => rfl
 | some x =>
   unfold World.cell? at h2
   simp only [Option.isSome_some, if_true] at h2
   split at h2 <;> cases h2
theorem opens_tg {e : TypeId} {f0 f1 : Field} (he : P.underlying e = some (.struct #[f0, f1])) (o : [f0.offset, f1.offset] = [0, 1])
    (t0 : P.underlying f0.type = some .string) (t1 : P.underlying f1.type = some .string)
    (c : [P.cellsOf f0.type, P.cellsOf f1.type] = [1, 1]) (ce : P.cellsOf e = 2) : Opens enc P W base sp held Silo.tgS (fun _ => True) e := fun n cs y h hw => by
  obtain ⟨xs, n', rfl, rfl, hlen, hxs, hf⟩ := DataW.trod_struct he h
  rw [ce] at hlen
  have hx3 : xs.length = 2 := hxs
  simp only [List.cons.injEq, and_true] at o c
  obtain ⟨o0, o1⟩ := o
  obtain ⟨c0, c1⟩ := c
  have h0 := hf 0 f0 rfl
  have h1 := hf 1 f1 rfl
  match cs, hlen, xs, hx3, h0, h1, hw with
  | [a0, a1], _, [x0, x1], _, h0, h1, hw =>
    rw [o0, c0] at h0
    rw [o1, c1] at h1
    have hwe : ∀ x ∈ DataW.weightsEach P [f0.type, f1.type] [x0.1, x1.1], x ≤ reachBytes := fun x hx => hw x (by simp only [DataW.weights, he]; exact hx)
    obtain ⟨l0, e0, w0⟩ := trod_str t0 h0 (fun x hx => hwe x (DataW.weights_mem_each (j := 0) rfl rfl x hx))
    obtain ⟨l1, e1, w1⟩ := trod_str t1 h1 (fun x hx => hwe x (DataW.weights_mem_each (j := 1) rfl rfl x hx))
    have e0' : a0 = St l0 := by simpa using e0
    have e1' : a1 = St l1 := by simpa using e1
    exact ⟨⟨l0, l1⟩, ⟨by rw [e0', e1'], by dsimp only; omega, by dsimp only; omega⟩, trivial⟩
theorem opens_ses {e : TypeId} {f0 f1 : Field} (he : P.underlying e = some (.struct #[f0, f1])) (o : [f0.offset, f1.offset] = [0, 1])
    (t0 : P.underlying f0.type = some (.int .i64)) (t1 : P.underlying f1.type = some .string)
    (c : [P.cellsOf f0.type, P.cellsOf f1.type] = [1, 1]) (ce : P.cellsOf e = 2) : Opens enc P W base sp held Silo.sesS (fun _ => True) e := fun n cs y h hw => by
  obtain ⟨xs, n', rfl, rfl, hlen, hxs, hf⟩ := DataW.trod_struct he h
  rw [ce] at hlen
  have hx3 : xs.length = 2 := hxs
  simp only [List.cons.injEq, and_true] at o c
  obtain ⟨o0, o1⟩ := o
  obtain ⟨c0, c1⟩ := c
  have h0 := hf 0 f0 rfl
  have h1 := hf 1 f1 rfl
  match cs, hlen, xs, hx3, h0, h1, hw with
  | [a0, a1], _, [x0, x1], _, h0, h1, hw =>
    rw [o0, c0] at h0
    rw [o1, c1] at h1
    have hwe : ∀ x ∈ DataW.weightsEach P [f0.type, f1.type] [x0.1, x1.1], x ≤ reachBytes := fun x hx => hw x (by simp only [DataW.weights, he]; exact hx)
    obtain ⟨l0, e0, w0⟩ := trod_i64 t0 h0
    obtain ⟨l1, e1, w1⟩ := trod_str t1 h1 (fun x hx => hwe x (DataW.weights_mem_each (j := 1) rfl rfl x hx))
    have e0' : a0 = I l0 := by simpa using e0
    have e1' : a1 = St l1 := by simpa using e1
    exact ⟨⟨l0, l1⟩, ⟨by rw [e0', e1'], w0, by dsimp only; omega⟩, trivial⟩
theorem opens_op {e : TypeId} {f0 f1 f2 f3 f4 f5 f6 : Field} (he : P.underlying e = some (.struct #[f0, f1, f2, f3, f4, f5, f6])) (o : [f0.offset, f1.offset, f2.offset, f3.offset, f4.offset, f5.offset, f6.offset] = [0, 1, 2, 3, 4, 5, 6])
    (t0 : P.underlying f0.type = some (.int .i64)) (t1 : P.underlying f1.type = some (.int .i64)) (t2 : P.underlying f2.type = some (.int .i64)) (t3 : P.underlying f3.type = some (.int .i64)) (t4 : P.underlying f4.type = some .string) (t5 : P.underlying f5.type = some .string) (t6 : P.underlying f6.type = some .string)
    (c : [P.cellsOf f0.type, P.cellsOf f1.type, P.cellsOf f2.type, P.cellsOf f3.type, P.cellsOf f4.type, P.cellsOf f5.type, P.cellsOf f6.type] = [1, 1, 1, 1, 1, 1, 1]) (ce : P.cellsOf e = 7) : Opens enc P W base sp held Silo.opS (fun _ => True) e := fun n cs y h hw => by
  obtain ⟨xs, n', rfl, rfl, hlen, hxs, hf⟩ := DataW.trod_struct he h
  rw [ce] at hlen
  have hx3 : xs.length = 7 := hxs
  simp only [List.cons.injEq, and_true] at o c
  obtain ⟨o0, o1, o2, o3, o4, o5, o6⟩ := o
  obtain ⟨c0, c1, c2, c3, c4, c5, c6⟩ := c
  have h0 := hf 0 f0 rfl
  have h1 := hf 1 f1 rfl
  have h2 := hf 2 f2 rfl
  have h3 := hf 3 f3 rfl
  have h4 := hf 4 f4 rfl
  have h5 := hf 5 f5 rfl
  have h6 := hf 6 f6 rfl
  match cs, hlen, xs, hx3, h0, h1, h2, h3, h4, h5, h6, hw with
  | [a0, a1, a2, a3, a4, a5, a6], _, [x0, x1, x2, x3, x4, x5, x6], _, h0, h1, h2, h3, h4, h5, h6, hw =>
    rw [o0, c0] at h0
    rw [o1, c1] at h1
    rw [o2, c2] at h2
    rw [o3, c3] at h3
    rw [o4, c4] at h4
    rw [o5, c5] at h5
    rw [o6, c6] at h6
    have hwe : ∀ x ∈ DataW.weightsEach P [f0.type, f1.type, f2.type, f3.type, f4.type, f5.type, f6.type] [x0.1, x1.1, x2.1, x3.1, x4.1, x5.1, x6.1], x ≤ reachBytes := fun x hx => hw x (by simp only [DataW.weights, he]; exact hx)
    obtain ⟨l0, e0, w0⟩ := trod_i64 t0 h0
    obtain ⟨l1, e1, w1⟩ := trod_i64 t1 h1
    obtain ⟨l2, e2, w2⟩ := trod_i64 t2 h2
    obtain ⟨l3, e3, w3⟩ := trod_i64 t3 h3
    obtain ⟨l4, e4, w4⟩ := trod_str t4 h4 (fun x hx => hwe x (DataW.weights_mem_each (j := 4) rfl rfl x hx))
    obtain ⟨l5, e5, w5⟩ := trod_str t5 h5 (fun x hx => hwe x (DataW.weights_mem_each (j := 5) rfl rfl x hx))
    obtain ⟨l6, e6, w6⟩ := trod_str t6 h6 (fun x hx => hwe x (DataW.weights_mem_each (j := 6) rfl rfl x hx))
    have e0' : a0 = I l0 := by simpa using e0
    have e1' : a1 = I l1 := by simpa using e1
    have e2' : a2 = I l2 := by simpa using e2
    have e3' : a3 = I l3 := by simpa using e3
    have e4' : a4 = St l4 := by simpa using e4
    have e5' : a5 = St l5 := by simpa using e5
    have e6' : a6 = St l6 := by simpa using e6
    exact ⟨⟨l0, l1, l2, l3, l4, l5, l6⟩, ⟨by rw [e0', e1', e2', e3', e4', e5', e6'], ⟨w0, w1, w2, w3⟩, by dsimp only; omega, by dsimp only; omega, by dsimp only; omega⟩, trivial⟩
theorem open_state {e eT eG eS : TypeId} {f0 f1 f2 f3 : Field} {n : Nat} {cs : List Value} {y : DataW H × List MemPlace} (he : P.underlying e = some (.struct #[f0, f1, f2, f3])) (o : [f0.offset, f1.offset, f2.offset, f3.offset] = [0, 1, 2, 3])
    (t0 : P.underlying f0.type = some (.slice eT)) (t1 : P.underlying f1.type = some (.slice eG)) (t2 : P.underlying f2.type = some (.slice eS)) (t3 : P.underlying f3.type = some (.int .i64))
    (c : [P.cellsOf f0.type, P.cellsOf f1.type, P.cellsOf f2.type, P.cellsOf f3.type] = [1, 1, 1, 1]) (ce : P.cellsOf e = 4)
    (hT : Opens enc P W base sp held Silo.thgS (fun _ => True) eT) (hG : Opens enc P W base sp held Silo.tgS (fun _ => True) eG) (hS : Opens enc P W base sp held Silo.sesS (fun _ => True) eS)
    (cT : P.cellsOf eT = 3) (cG : P.cellsOf eG = 2) (cS : P.cellsOf eS = 2) (bT : 1 ≤ P.bytesOf eT) (bG : 1 ≤ P.bytesOf eG) (bS : 1 ≤ P.bytesOf eS)
    (h : DataW.trod enc P W base sp held n e cs = some y) (hw : ∀ x ∈ DataW.weights P e y.1, x ≤ reachBytes) : ∃ vT vG vS, ∃ S : Silo.Sta, cs = [vT, vG, vS, I S.next] ∧ Rd Silo.thgS W vT S.things ∧ Rd Silo.tgS W vG S.tags ∧ Rd Silo.sesS W vS S.sessions ∧ Int64 S.next ∧ PlainV vT ∧ PlainV vG ∧ PlainV vS := by
  obtain ⟨xs, n', rfl, rfl, hlen, hxs, hf⟩ := DataW.trod_struct he h
  rw [ce] at hlen
  have hx3 : xs.length = 4 := hxs
  simp only [List.cons.injEq, and_true] at o c
  obtain ⟨o0, o1, o2, o3⟩ := o
  obtain ⟨c0, c1, c2, c3⟩ := c
  have h0 := hf 0 f0 rfl
  have h1 := hf 1 f1 rfl
  have h2 := hf 2 f2 rfl
  have h3 := hf 3 f3 rfl
  match cs, hlen, xs, hx3, h0, h1, h2, h3, hw with
  | [a0, a1, a2, a3], _, [x0, x1, x2, x3], _, h0, h1, h2, h3, hw =>
    rw [o0, c0] at h0
    rw [o1, c1] at h1
    rw [o2, c2] at h2
    rw [o3, c3] at h3
    have hwe : ∀ x ∈ DataW.weightsEach P [f0.type, f1.type, f2.type, f3.type] [x0.1, x1.1, x2.1, x3.1], x ≤ reachBytes := fun x hx => hw x (by simp only [DataW.weights, he]; exact hx)
    obtain ⟨T, r0, _⟩ := open_rd (v := a0) t0 (s := Silo.thgS) (cT.trans rfl) (by decide) bT hT h0 (fun x hx => hwe x (DataW.weights_mem_each (j := 0) rfl rfl x hx))
    obtain ⟨G, r1, _⟩ := open_rd (v := a1) t1 (s := Silo.tgS) (cG.trans rfl) (by decide) bG hG h1 (fun x hx => hwe x (DataW.weights_mem_each (j := 1) rfl rfl x hx))
    obtain ⟨Q, r2, _⟩ := open_rd (v := a2) t2 (s := Silo.sesS) (cS.trans rfl) (by decide) bS hS h2 (fun x hx => hwe x (DataW.weights_mem_each (j := 2) rfl rfl x hx))
    obtain ⟨k, e3, w3⟩ := trod_i64 t3 h3
    have e3' : a3 = I k := by simpa using e3
    exact ⟨a0, a1, a2, ⟨T, G, Q, k⟩, by rw [e3'], r0, r1, r2, w3, open_plain t0 (by omega) h0, open_plain t1 (by omega) h1, open_plain t2 (by omega) h2⟩
theorem open_script {t eO : TypeId} {f0 f1 : Field} {okO : Silo.MOp → Prop} {v : Value} {d : DataW H} {ps : List MemPlace} (ht : P.underlying t = some (.struct #[f0, f1])) (o : [f0.offset, f1.offset] = [0, 4]) (c : [P.cellsOf f0.type, P.cellsOf f1.type] = [4, 1]) (ct : P.cellsOf t = 5)
    (hst : ∀ n cs y, DataW.trod enc P W base sp held n f0.type cs = some y → (∀ x ∈ DataW.weights P f0.type y.1, x ≤ reachBytes) → ∃ vT vG vS, ∃ S : Silo.Sta, cs = [vT, vG, vS, I S.next] ∧ Rd Silo.thgS W vT S.things ∧ Rd Silo.tgS W vG S.tags ∧ Rd Silo.sesS W vS S.sessions ∧ Int64 S.next ∧ PlainV vT ∧ PlainV vG ∧ PlainV vS)
    (t1 : P.underlying f1.type = some (.slice eO)) (hO : Opens enc P W base sp held Silo.opS okO eO) (cO : P.cellsOf eO = 7) (bO : 1 ≤ P.bytesOf eO)
    (hval : Value.okWide P W .any base t v) (h : DataW.Trod enc P W base sp held t v d ps) (hw : ∀ x ∈ DataW.weights P t d, x ≤ reachBytes) :
    ∃ vT vG vS vO, ∃ S : Silo.Sta, ∃ O, v = .agg #[vT, vG, vS, I S.next, vO] ∧ Rd Silo.thgS W vT S.things ∧ Rd Silo.tgS W vG S.tags ∧ Rd Silo.sesS W vS S.sessions ∧ Rd Silo.opS W vO O ∧ Int64 S.next ∧ O.length * P.bytesOf eO ≤ 140737488351232 ∧ PlainV vT ∧ PlainV vG ∧ PlainV vS := by
  unfold Value.okWide at hval
  rw [ht] at hval
  obtain ⟨⟨cs⟩, rfl, hsz, _⟩ := hval
  obtain ⟨fuel, h⟩ := h
  obtain ⟨xs, n', rfl, hd, hlen, hxs, hf⟩ := DataW.trod_struct ht h
  have hd1 : d = .agg (xs.map (·.1)) := (Prod.mk.inj hd).1
  subst hd1
  rw [ct] at hlen
  have hx2 : xs.length = 2 := hxs
  simp only [List.cons.injEq, and_true] at o c
  obtain ⟨o0, o1⟩ := o
  obtain ⟨c0, c1⟩ := c
  have h0 := hf 0 f0 rfl
  have h1 := hf 1 f1 rfl
  have hlen' : cs.length = 5 := hlen
  simp only [Value.cells] at h0 h1
  match cs, hlen', xs, hx2, h0, h1, hw with
  | [a0, a1, a2, a3, a4], _, [x0, x1], _, h0, h1, hw =>
    rw [o0, c0] at h0
    rw [o1, c1] at h1
    have hwe : ∀ x ∈ DataW.weightsEach P [f0.type, f1.type] [x0.1, x1.1], x ≤ reachBytes := fun x hx => hw x (by simp only [DataW.weights, ht]; exact hx)
    obtain ⟨vT, vG, vS, S, e, r0, r1, r2, hk, hp⟩ := hst _ _ _ h0 (fun x hx => hwe x (DataW.weights_mem_each (j := 0) rfl rfl x hx))
    obtain ⟨O, r3, _, z⟩ := open_rd (v := a4) t1 (s := Silo.opS) cO (by decide) bO hO h1 (fun x hx => hwe x (DataW.weights_mem_each (j := 1) rfl rfl x hx))
    have e' : [a0, a1, a2, a3] = [vT, vG, vS, I S.next] := e
    simp only [List.cons.injEq, and_true] at e'
    obtain ⟨rfl, rfl, rfl, rfl⟩ := e'
    exact ⟨a0, a1, a2, a4, S, O, rfl, r0, r1, r2, r3, hk, z, hp⟩
end
end Go.Eng

namespace Go.Proofs.YtdlpibhecdfbcabGreatDoor
open Go Go.Eng Go.ChangeShapes Go.WideShapes Go.ChangeAt Go.RowKit
theorem cells_thg : Tryz.prog.cellsOf 60 = 3 := by kernel_rfl
theorem cells_tg : Tryz.prog.cellsOf 66 = 2 := by kernel_rfl
theorem cells_ses : Tryz.prog.cellsOf 63 = 2 := by kernel_rfl
theorem cells_op : Tryz.prog.cellsOf 33 = 7 := by kernel_rfl
theorem cells_sta : Tryz.prog.cellsOf 26 = 4 := by kernel_rfl
theorem cells_scr : Tryz.prog.cellsOf 29 = 5 := by kernel_rfl
theorem cells_lT : Tryz.prog.cellsOf 22 = 1 := by kernel_rfl
theorem cells_lG : Tryz.prog.cellsOf 23 = 1 := by kernel_rfl
theorem cells_lQ : Tryz.prog.cellsOf 24 = 1 := by kernel_rfl
theorem cells_lO : Tryz.prog.cellsOf 27 = 1 := by kernel_rfl
theorem cells_bool : Tryz.prog.cellsOf 4 = 1 := by kernel_rfl
theorem bytes_thg : 1 ≤ Tryz.prog.bytesOf 60 := of_decide_eq_true (by kernel_rfl)
theorem bytes_tg : 1 ≤ Tryz.prog.bytesOf 66 := of_decide_eq_true (by kernel_rfl)
theorem bytes_ses : 1 ≤ Tryz.prog.bytesOf 63 := of_decide_eq_true (by kernel_rfl)
theorem bytes_op : Tryz.prog.bytesOf 33 = 80 := by kernel_rfl
theorem script_open {H : Type} {enc : TypeId × Value → H} {W : World} {base : Nat} {sp : Nat → Bool} {held : Bool} {v : Value} {d : DataW H} {ps : List MemPlace}
    (hval : Value.okWide Tryz.prog W .any base 29 v) (h : DataW.Trod enc Tryz.prog W base sp held 29 v d ps) (hw : ∀ x ∈ DataW.weights Tryz.prog 29 d, x ≤ reachBytes) :
    ∃ vT vG vS vO, ∃ S : Silo.Sta, ∃ O, v = .agg #[vT, vG, vS, I S.next, vO] ∧ Rd Silo.thgS W vT S.things ∧ Rd Silo.tgS W vG S.tags ∧ Rd Silo.sesS W vS S.sessions ∧ Rd Silo.opS W vO O ∧ Int64 S.next ∧ O.length * 80 ≤ 140737488351232 ∧ PlainV vT ∧ PlainV vG ∧ PlainV vS := by
  have hst := fun n cs y h hw => open_state (enc := enc) (P := Tryz.prog) (W := W) (base := base) (sp := sp) (held := held) (n := n) (cs := cs) (y := y) Tryz.underlying26 rfl Tryz.underlying22 Tryz.underlying23 Tryz.underlying24 Tryz.underlying3 (by rw [cells_lT, cells_lG, cells_lQ, cells_int]) cells_sta
      (opens_thg Tryz.underlying60 rfl Tryz.underlying9 Tryz.underlying9 Tryz.underlying4 (by rw [cells_str, cells_bool]) cells_thg)
      (opens_tg Tryz.underlying66 rfl Tryz.underlying9 Tryz.underlying9 (by rw [cells_str]) cells_tg)
      (opens_ses Tryz.underlying63 rfl Tryz.underlying3 Tryz.underlying9 (by rw [cells_int, cells_str]) cells_ses) cells_thg cells_tg cells_ses bytes_thg bytes_tg bytes_ses h hw
  obtain ⟨vT, vG, vS, vO, S, O, e, r0, r1, r2, r3, hk, z, hp⟩ := open_script Tryz.underlying29 rfl (by rw [cells_sta, cells_lO]) cells_scr hst Tryz.underlying27
      (opens_op Tryz.underlying33 rfl Tryz.underlying3 Tryz.underlying3 Tryz.underlying3 Tryz.underlying3 Tryz.underlying9 Tryz.underlying9 Tryz.underlying9 (by rw [cells_int, cells_str]) cells_op) cells_op (by rw [bytes_op]; decide) hval h hw
  rw [bytes_op] at z
  exact ⟨vT, vG, vS, vO, S, O, e, r0, r1, r2, r3, hk, z, hp⟩
end Go.Proofs.YtdlpibhecdfbcabGreatDoor


