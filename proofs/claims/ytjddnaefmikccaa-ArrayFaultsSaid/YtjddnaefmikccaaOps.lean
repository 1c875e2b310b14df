/- One lemma for each kind of operation, over the engine. No condition. -/
import Derived.Test.YtjddnaefmikccaaEng
set_option linter.unusedSimpArgs false
set_option linter.unusedVariables false
namespace Go.Eng
open Go Go.RowKit

abbrev I (n : Int) : Value := .int .i64 n
abbrev St (l : List UInt8) : Value := .string ⟨l.toArray⟩

/-! ### Facts on types, as closed equations -/
/-- A slice type: its element type, that one's cells, bytes, zero cells. -/
def slT (P : Program) (t : TypeId) : Option (TypeId × Nat × Nat × List Value) :=
  match P.underlying t with
  | some (.slice e) => match P.info? e with
    | some i => match i.zero with
      | some z => bif Nat.beq z.cells.size i.size then some (e, i.size, i.bytes, z.cells.toList) else none
      | none => none
    | none => none
  | _ => none
/-- A struct or array type: how many cells. -/
def aggT (P : Program) (t : TypeId) : Option Nat :=
  match P.underlying t with
  | some (.struct _) | some (.array _ _) => (P.info? t).map (·.size)
  | _ => none
/-- A type of one cell that is no struct or array. -/
def sclT (P : Program) (t : TypeId) : Bool :=
  match P.underlying t with
  | some (.struct _) | some (.array _ _) => false
  | some _ => match P.info? t with
    | some i => Nat.beq i.size 1
    | none => false
  | none => false
/-- A struct's field: its offset (its type has cells). -/
def fldT (P : Program) (t : TypeId) (i : Nat) : Option Nat :=
  match P.underlying t with
  | some (.struct fs) => match fs[i]? with
    | some f => match P.info? f.type with
      | some inf => bif Nat.beq inf.size 0 then none else some f.offset
      | none => none
    | none => none
  | _ => none
/-- A type's cells' count and zero cells. -/
def zeroT (P : Program) (t : TypeId) : Option (List Value) :=
  match P.info? t with
  | some i => match i.zero with
    | some z => bif Nat.beq z.cells.size i.size then some z.cells.toList else none
    | none => none
  | none => none
def plainFn (P : Program) (f : FuncId) : Bool :=
  match P.funcs[f]? with
  | some fn => fn.name != "runtime.NumGoroutine" && fn.body.isSome
  | none => false

section
variable {P : Program} {env : Env} {w : World} {ty : TypeId}

theorem slT_spec {t e : TypeId} {size bytes : Nat} {z : List Value} (h : slT P t = some (e, size, bytes, z)) :
    P.underlying t = some (.slice e) ∧ ∃ i zv, P.info? e = some i ∧ i.size = size ∧ i.bytes = bytes ∧ i.zero = some zv ∧ zv.cells = z.toArray ∧ z.length = size := by
  unfold slT at h
  split at h
  · rename_i e' hu
    split at h
    · rename_i i hi
      split at h
      · rename_i zv hz
        cases hb : Nat.beq zv.cells.size i.size with
        | false => rw [hb] at h; simp at h
        | true =>
          rw [hb] at h
          have := Nat.eq_of_beq_eq_true hb
          simp at h
          obtain ⟨rfl, rfl, rfl, rfl⟩ := h
          exact ⟨hu, i, zv, hi, rfl, rfl, hz, by simp, by simpa using this⟩
      · cases h
    · cases h
  · cases h

theorem run_isAgg_scl {t : TypeId} (h : sclT P t = true) : (isAgg t).run P w = .ok false w := by
  unfold sclT at h
  split at h
  · cases h
  · cases h
  · rename_i d hd h1 h2
    simp only [isAgg, underlying, program, Sem.run_bind, Sem.run, h2, Result.andThen_ok]
    cases d <;> simp_all [Sem.run_pure, Sem.run]
  · cases h
theorem size_scl {t : TypeId} (h : sclT P t = true) : ∃ i, P.info? t = some i ∧ i.size = 1 := by
  unfold sclT at h
  split at h
  · cases h
  · cases h
  · split at h
    · rename_i i hi; exact ⟨i, hi, Nat.eq_of_beq_eq_true h⟩
    · cases h
  · cases h
theorem run_isAgg_agg {t n : Nat} (h : aggT P t = some n) : (isAgg t).run P w = .ok true w ∧ ∃ i, P.info? t = some i ∧ i.size = n := by
  unfold aggT at h
  split at h
  all_goals first
    | (rename_i d hd
       cases hi : P.info? t with
       | none => rw [hi] at h; cases h
       | some i =>
         rw [hi] at h
         simp at h
         exact ⟨by simp [isAgg, underlying, program, Sem.run, hd], i, rfl, h⟩)
    | (rename_i d e hd
       cases hi : P.info? t with
       | none => rw [hi] at h; cases h
       | some i =>
         rw [hi] at h
         simp at h
         exact ⟨by simp [isAgg, underlying, program, Sem.run, hd], i, rfl, h⟩)
    | cases h

/-! ### Quiet operations -/
theorem Val.move {x : Operand} {v : Value} (hx : evO env x = some v) : Val P env w (.move x) ty v := fun n a ho d pos after g => by simp [execOp, ho.eval hx]
theorem Val.assign {x : Operand} {v : Value} (hx : evO env x = some v) : Val P env w (.assign x) ty v := fun n a ho d pos after g => by simp [execOp, ho.eval hx]
theorem Val.nilCheck {x : Operand} {p : Addr} (hx : evO env x = some (.pointer (some p))) : Val P env w (.nilCheck x) ty (.pointer (some p)) := fun n a ho d pos after g => by
  simp [execOp, ho.eval hx]
theorem Val.nilCheckF {x : Operand} {f : FuncId} {c : Array Value} (hx : evO env x = some (.func (.func f) #[] c)) : Val P env w (.nilCheck x) ty (.func (.func f) #[] c) := fun n a ho d pos after g => by
  simp [execOp, ho.eval hx]

theorem run_fieldAt {t : TypeId} {i o : Nat} {p : Addr} (hf : fldT P t i = some o) : (Instr.fieldAt t (.pointer (some p)) i).run P w = .ok (.pointer (some (p.add o))) w := by
  unfold fldT at hf
  split at hf
  · rename_i fs hu
    split at hf
    · rename_i f hfi
      split at hf
      · rename_i inf hinf
        cases hb : Nat.beq inf.size 0 with
        | true => rw [hb] at hf; simp at hf
        | false =>
          rw [hb] at hf
          have hne : inf.size ≠ 0 := Nat.ne_of_beq_eq_false hb
          simp at hf
          subst hf
          simp [Instr.fieldAt, run_underlying hu, hfi, Instr.sureAddr, fieldPlace, sizeOf, typeInfo, hinf, hne]
      · cases hf
    · cases hf
  · cases hf
theorem add_lit (b o n : Nat) : (⟨b, o, none⟩ : Addr).add n = ⟨b, o + n, none⟩ := by unfold Addr.add; split <;> simp_all
/-- A field of a block that is known whole. -/
theorem Val.fieldAddr {t : TypeId} {x : Operand} {i o b off : Nat} (hf : fldT P t i = some o) (hx : evO env x = some (.pointer (some ⟨b, off, none⟩))) :
    Val P env w (.fieldAddr t x i) ty (.pointer (some ⟨b, off + o, none⟩)) := fun n a ho d pos after g => by
  simp [execOp, ho.eval hx, run_fieldAt hf, add_lit]
theorem Val.fieldAddrP {t : TypeId} {x : Operand} {i o : Nat} {p : Addr} (hf : fldT P t i = some o) (hx : evO env x = some (.pointer (some p))) :
    Val P env w (.fieldAddr t x i) ty (.pointer (some (p.add o))) := fun n a ho d pos after g => by
  simp [execOp, ho.eval hx, run_fieldAt hf]

theorem Val.load1 {t : TypeId} {x : Operand} {p : Addr} {v : Value} (ht : sclT P t = true) (hx : evO env x = some (.pointer (some p))) (hc : w.cell? p = some v) : Val P env w (.load t x) ty v := fun n a ho d pos after g => by
  simp [execOp, ho.eval hx, Instr.loadAt, Instr.sureAddr, loadVar, run_isAgg_scl ht, hc]

def cellsAt (w : World) (p : Addr) (cs : List Value) : Prop := ∀ j v, cs[j]? = some v → w.cell? (p.add j) = some v

theorem Val.loadN {t n : Nat} {x : Operand} {p : Addr} {cs : List Value} (ht : aggT P t = some n) (hx : evO env x = some (.pointer (some p))) (hc : cellsAt w p cs) (hl : cs.length = n) :
    Val P env w (.load t x) ty (.agg cs.toArray) := fun n' a ho d pos after g => by
  obtain ⟨h1, i, hi, hs⟩ := run_isAgg_agg (w := w) ht
  have h2 := run_loadCells_list (P := P) (w := w) p cs hc
  simp [execOp, ho.eval hx, Instr.loadAt, Instr.sureAddr, loadVar, h1, sizeOf, typeInfo, hi, hs, ← hl, h2]

/-- A block that is known whole. -/
def Blk (w : World) (b : Nat) (cs : List Value) (t : TypeId) : Prop := w.heap[b]? = some (.cells cs.toArray t (0, 0))
theorem Blk.cell {b : Nat} {cs : List Value} {t : TypeId} (h : Blk w b cs t) (i : Nat) : w.cell? ⟨b, i, none⟩ = cs[i]? := by
  have := cell_of_row w b i cs.toArray t (0, 0) h
  simpa using this
theorem Blk.cellsAt {b : Nat} {cs : List Value} {t : TypeId} (h : Blk w b cs t) : cellsAt w ⟨b, 0, none⟩ cs := fun j v hv => by rw [add_lit, h.cell]; simpa using hv
theorem Blk.lt {b : Nat} {cs : List Value} {t : TypeId} (h : Blk w b cs t) : b < w.heap.size := by
  rcases Nat.lt_or_ge b w.heap.size with h1 | h1
  · exact h1
  · unfold Blk at h; rw [Array.getElem?_eq_none h1] at h; cases h
theorem Blk.keep {w' : World} {b B : Nat} {cs : List Value} {t : TypeId} (h : Blk w b cs t) (hk : Below B w w') (hb : b < B) : Blk w' b cs t := (hk.block b hb).trans h
theorem Blk.kept {w' : World} {b : Nat} {cs : List Value} {t : TypeId} (h : Blk w b cs t) (hk : Below w.heap.size w w') : Blk w' b cs t := h.keep hk h.lt

theorem Val.loadB {t : TypeId} {x : Operand} {b i : Nat} {cs : List Value} {T : TypeId} {v : Value} (ht : sclT P t = true) (hx : evO env x = some (.pointer (some ⟨b, i, none⟩))) (hb : Blk w b cs T) (hv : cs[i]? = some v) : Val P env w (.load t x) ty v :=
  Val.load1 ht hx (by rw [hb.cell, hv])
theorem Val.loadBN {t n : Nat} {x : Operand} {b : Nat} {cs : List Value} {T : TypeId} (ht : aggT P t = some n) (hx : evO env x = some (.pointer (some ⟨b, 0, none⟩))) (hb : Blk w b cs T) (hl : cs.length = n) : Val P env w (.load t x) ty (.agg cs.toArray) :=
  Val.loadN ht hx hb.cellsAt hl

/-! integers -/
section ints
variable {t ty2 : TypeId} {x y : Operand} {k : IntKind} {m n : Int} (hx : evO env x = some (.int k m)) (hy : evO env y = some (.int k n))
include hx hy
theorem Val.lss : Val P env w (.binOp .lss t x y ty2) ty (.bool (decide (m < n))) := fun _ a ho d pos after g => by simp [execOp, ho.eval hx, ho.eval hy, eqGuard, binOp, Op.intCmp]
theorem Val.leq : Val P env w (.binOp .leq t x y ty2) ty (.bool (decide (m ≤ n))) := fun _ a ho d pos after g => by simp [execOp, ho.eval hx, ho.eval hy, eqGuard, binOp, Op.intCmp]
theorem Val.gtr : Val P env w (.binOp .gtr t x y ty2) ty (.bool (decide (n < m))) := fun _ a ho d pos after g => by simp [execOp, ho.eval hx, ho.eval hy, eqGuard, binOp, Op.intCmp]
theorem Val.geq : Val P env w (.binOp .geq t x y ty2) ty (.bool (decide (n ≤ m))) := fun _ a ho d pos after g => by simp [execOp, ho.eval hx, ho.eval hy, eqGuard, binOp, Op.intCmp]
theorem Val.eql : Val P env w (.binOp .eql t x y ty2) ty (.bool (decide (m = n))) := fun _ a ho d pos after g => by
  simp [execOp, ho.eval hx, ho.eval hy, eqGuard, binOp, Op.intCmp]; rfl
theorem Val.neq : Val P env w (.binOp .neq t x y ty2) ty (.bool (!decide (m = n))) := fun _ a ho d pos after g => by
  simp [execOp, ho.eval hx, ho.eval hy, eqGuard, binOp, Op.intCmp]; rfl
theorem Val.add : Val P env w (.binOp .add t x y ty2) ty (.int k (k.wrap (m + n))) := fun _ a ho d pos after g => by simp [execOp, ho.eval hx, ho.eval hy, eqGuard, binOp, Op.intArith]
theorem Val.sub : Val P env w (.binOp .sub t x y ty2) ty (.int k (k.wrap (m - n))) := fun _ a ho d pos after g => by simp [execOp, ho.eval hx, ho.eval hy, eqGuard, binOp, Op.intArith]
theorem Val.mul : Val P env w (.binOp .mul t x y ty2) ty (.int k (k.wrap (m * n))) := fun _ a ho d pos after g => by simp [execOp, ho.eval hx, ho.eval hy, eqGuard, binOp, Op.intArith]
theorem Val.quo (h0 : n ≠ 0) : Val P env w (.binOp .quo t x y ty2) ty (.int k (k.wrap (m.tdiv n))) := fun _ a ho d pos after g => by simp [execOp, ho.eval hx, ho.eval hy, eqGuard, binOp, Op.intDiv, h0]
theorem Val.rem (h0 : n ≠ 0) : Val P env w (.binOp .rem t x y ty2) ty (.int k (m.tmod n)) := fun _ a ho d pos after g => by simp [execOp, ho.eval hx, ho.eval hy, eqGuard, binOp, Op.intDiv, h0]
end ints
theorem wrap_i64_in {m : Int} (h1 : -9223372036854775808 ≤ m) (h2 : m ≤ 9223372036854775807) : IntKind.i64.wrap m = m := by rw [IntKind.wrap_i64]; omega
section i64
variable {t ty2 : TypeId} {x y : Operand} {m n : Int} (hx : evO env x = some (I m)) (hy : evO env y = some (I n))
include hx hy
theorem Val.addI (h1 : -9223372036854775808 ≤ m + n) (h2 : m + n ≤ 9223372036854775807) : Val P env w (.binOp .add t x y ty2) ty (I (m + n)) := by have := Val.add (P := P) (w := w) (ty := ty) (t := t) (ty2 := ty2) hx hy; rwa [wrap_i64_in h1 h2] at this
theorem Val.subI (h1 : -9223372036854775808 ≤ m - n) (h2 : m - n ≤ 9223372036854775807) : Val P env w (.binOp .sub t x y ty2) ty (I (m - n)) := by have := Val.sub (P := P) (w := w) (ty := ty) (t := t) (ty2 := ty2) hx hy; rwa [wrap_i64_in h1 h2] at this
theorem Val.mulI (h1 : -9223372036854775808 ≤ m * n) (h2 : m * n ≤ 9223372036854775807) : Val P env w (.binOp .mul t x y ty2) ty (I (m * n)) := by have := Val.mul (P := P) (w := w) (ty := ty) (t := t) (ty2 := ty2) hx hy; rwa [wrap_i64_in h1 h2] at this
theorem Val.quoI (h0 : 0 ≤ m) (h1 : 0 < n) (h2 : m ≤ 9223372036854775807) : Val P env w (.binOp .quo t x y ty2) ty (I (m / n)) := by
  have := Val.quo (P := P) (w := w) (ty := ty) (t := t) (ty2 := ty2) hx hy (by omega)
  have h3 : m / n ≤ m := Int.ediv_le_self _ h0
  have h4 : 0 ≤ m / n := Int.ediv_nonneg h0 (by omega)
  rw [Int.tdiv_eq_ediv_of_nonneg h0] at this
  generalize m / n = q at *
  rwa [wrap_i64_in (by omega) (by omega)] at this
theorem Val.remI (h0 : 0 ≤ m) (h1 : 0 < n) : Val P env w (.binOp .rem t x y ty2) ty (I (m % n)) := by
  have := Val.rem (P := P) (w := w) (ty := ty) (t := t) (ty2 := ty2) hx hy (by omega)
  rwa [Int.tmod_eq_emod_of_nonneg h0] at this
end i64

/-! bools -/
theorem Val.not {x : Operand} {b : Bool} {t : TypeId} (hx : evO env x = some (.bool b)) : Val P env w (.unOp .not t x) ty (.bool (!b)) := fun _ a ho d pos after g => by simp [execOp, ho.eval hx, Op.unary]
theorem Val.pick {cd x y : Operand} {b : Bool} {v : Value} (hc : evO env cd = some (.bool b)) (hv : evO env (if b then x else y) = some v) : Val P env w (.pick cd x y) ty v := fun _ a ho d pos after g => by
  rw [run_pick _ _ _ (ho.eval hc), ← ho.eval hv]; cases b <;> rfl

/-! strings -/
theorem size_mk (l : List UInt8) : (⟨l.toArray⟩ : ByteArray).size = l.length := by simp [ByteArray.size]
theorem toList_mk (l : List UInt8) : (⟨l.toArray⟩ : ByteArray).toList = l := by rw [ByteArray.toList_eq]
section strs
variable {t ty2 : TypeId} {x y : Operand} {l r : List UInt8} (hx : evO env x = some (St l)) (hy : evO env y = some (St r))
include hx hy
theorem Val.seq_ : Val P env w (.binOp .eql t x y ty2) ty (.bool (l == r)) := fun _ a ho d pos after g => by simp [execOp, ho.eval hx, ho.eval hy, eqGuard, binOp, Op.stringOp, toList_mk]
theorem Val.sne : Val P env w (.binOp .neq t x y ty2) ty (.bool (!(l == r))) := fun _ a ho d pos after g => by simp [execOp, ho.eval hx, ho.eval hy, eqGuard, binOp, Op.stringOp, toList_mk]
theorem Val.sadd (h : l.length + r.length ≤ 9223372036854775807) : Val P env w (.binOp .add t x y ty2) ty (St (l ++ r)) := fun _ a ho d pos after g => by
  have h' : ¬ (((l.length + r.length : Nat) : Int) > IntKind.i64.max) := by simp [IntKind.max, IntKind.bits, IntKind.signed]; omega
  have e : (⟨l.toArray⟩ : ByteArray) ++ ⟨r.toArray⟩ = ⟨(l ++ r).toArray⟩ := by
    apply ByteArray.ext
    simp [ByteArray.data_append]
  simp only [execOp, ho.eval hx, ho.eval hy, eqGuard, binOp, Op.stringOp, size_mk]
  rw [if_neg h']; simp [e]
end strs

theorem Val.slen {x : Operand} {l : List UInt8} {t : TypeId} (ht : P.underlying t = some .string) (hx : evO env x = some (St l)) : Val P env w (.call ⟨.builtin .len, #[x], #[t]⟩) ty (I l.length) := fun _ a ho d pos after g => by
  simp [execOp, resolve, invoke, builtin, Builtin.len_, ho.eval hx, run_underlying ht, size_mk, goInt]
theorem Val.sllen {x : Operand} {A : Option Addr} {n c : Nat} {t e : TypeId} (ht : P.underlying t = some (.slice e)) (hx : evO env x = some (.slice A n c)) : Val P env w (.call ⟨.builtin .len, #[x], #[t]⟩) ty (I n) := fun _ a ho d pos after g => by
  simp [execOp, resolve, invoke, builtin, Builtin.len_, ho.eval hx, run_underlying ht, goInt]

/-- s[i] of a string. -/
theorem Val.sindex {x y : Operand} {l : List UInt8} {i : Int} {k : IntKind} {t : TypeId} {b : UInt8} (ht : P.underlying t = some .string) (hx : evO env x = some (St l)) (hy : evO env y = some (.int k i))
    (h0 : 0 ≤ i) (hb : l[i.toNat]? = some b) : Val P env w (.index t x y) ty (.int .u8 b.toNat) := fun _ a ho d pos after g => by
  have hlt : i.toNat < l.length := by
    rcases Nat.lt_or_ge i.toNat l.length with h | h
    · exact h
    · rw [List.getElem?_eq_none h] at hb; cases hb
  have h2 : (⟨l.toArray⟩ : ByteArray)[i.toNat]? = some b := by
    rw [ByteArray.getElem?_lt' _ _ (by rw [size_mk]; exact hlt)]
    rw [List.getElem?_eq_getElem hlt] at hb
    exact hb
  simp [execOp, Instr.index, ho.eval hx, ho.eval hy, run_underlying ht, asIntOf, h0, h2]

theorem extract_mk (l : List UInt8) (a b : Nat) : (ByteArray.mk l.toArray).extract a b = ByteArray.mk ((l.drop a).take (b - a)).toArray := ByteArray.extract_mk l a b

section sslice
variable {t : TypeId} {x : Operand} {l : List UInt8} (ht : P.underlying t = some .string) (hx : evO env x = some (St l))
include ht hx
theorem Val.sslice {y z : Operand} {k k' : IntKind} {i j : Int} (hy : evO env y = some (.int k i)) (hz : evO env z = some (.int k' j)) (h0 : 0 ≤ i) (h1 : i ≤ j) (h2 : j ≤ l.length) :
    Val P env w (.slice t x (some y) (some z) none) ty (St ((l.drop i.toNat).take (j.toNat - i.toNat))) := fun _ a ho d pos after g => by
  obtain ⟨m, rfl⟩ := Int.eq_ofNat_of_zero_le (show 0 ≤ j by omega)
  obtain ⟨q, rfl⟩ := Int.eq_ofNat_of_zero_le h0
  have h3 : q ≤ m := by omega
  have h4 : m ≤ l.length := by omega
  simp [execOp, Instr.sliceAt, Instr.slice, Instr.sliceBounds, Instr.sliceBound, ho.eval hx, ho.eval hy, ho.eval hz, run_underlying ht, asIntOf, size_mk, h3, h4, extract_mk]
theorem Val.ssliceFrom {y : Operand} {k : IntKind} {i : Int} (hy : evO env y = some (.int k i)) (h0 : 0 ≤ i) (h2 : i ≤ l.length) :
    Val P env w (.slice t x (some y) none none) ty (St (l.drop i.toNat)) := fun _ a ho d pos after g => by
  have e : (l.drop i.toNat).take (l.length - i.toNat) = l.drop i.toNat := List.take_of_length_le (by simp)
  simp [execOp, Instr.sliceAt, Instr.slice, Instr.sliceBounds, Instr.sliceBound, ho.eval hx, ho.eval hy, run_underlying ht, asIntOf, size_mk, h0, h2, extract_mk, e]
theorem Val.ssliceTo {z : Operand} {k : IntKind} {j : Int} (hz : evO env z = some (.int k j)) (h0 : 0 ≤ j) (h2 : j ≤ l.length) :
    Val P env w (.slice t x none (some z) none) ty (St (l.take j.toNat)) := fun _ a ho d pos after g => by
  simp [execOp, Instr.sliceAt, Instr.slice, Instr.sliceBounds, Instr.sliceBound, ho.eval hx, ho.eval hz, run_underlying ht, asIntOf, size_mk, h0, h2, extract_mk]
end sslice

theorem Val.convInt {x : Operand} {k k' : IntKind} {m : Int} {src dst : TypeId} {ds : TypeDesc} (hs : P.underlying src = some ds) (hd : P.underlying dst = some (.int k')) (hx : evO env x = some (.int k m)) :
    Val P env w (.convert src dst x) ty (.int k' (k'.wrap m)) := fun _ a ho d pos after g => by
  simp only [execOp, convert, ho.eval hx]
  simp only [Sem.run_bind, run_underlying hs, run_underlying hd, Result.andThen_ok]
  cases ds <;> simp [Conv.intToInt]
theorem Val.convSame {x : Operand} {l : List UInt8} {src dst : TypeId} {ds : TypeDesc} (hs : P.underlying src = some .string) (hd : P.underlying dst = some .string) (hx : evO env x = some (St l)) :
    Val P env w (.convert src dst x) ty (St l) := fun _ a ho d pos after g => by
  simp [execOp, convert, ho.eval hx, run_underlying hs, run_underlying hd]

theorem Val.extract {x : Operand} {vs : List Value} {i : Nat} {v : Value} (hx : evO env x = some (.tuple vs.toArray)) (hv : vs[i]? = some v) : Val P env w (.extract x i) ty v := fun _ a ho d pos after g => by
  simp [execOp, Instr.extract, ho.eval hx, hv]
theorem Val.makeFunc {f : Fn} {caps : Array Operand} {vs : List Value} (hx : evL env caps.toList = some vs) : Val P env w (.makeFunc f #[] caps) ty (.func f #[] vs.toArray) := fun _ a ho d pos after g => by
  have := ho.evalL hx
  have e : caps.map a.eval = vs.toArray := by rw [← this]; apply Array.ext'; simp
  simp [execOp, Instr.makeFunc, e]

/-! more on integers -/
theorem wrap_u8_nat (n : Nat) : IntKind.u8.wrap (n : Int) = ((UInt8.ofNat n).toNat : Int) := by
  simp [IntKind.wrap, IntKind.signed, IntKind.bits]
theorem wrap_u64_in {m : Int} (h1 : 0 ≤ m) (h2 : m < 18446744073709551616) : IntKind.u64.wrap m = m := by
  simp [IntKind.wrap, IntKind.signed, IntKind.bits]; omega
theorem wrap_u32_in {m : Int} (h1 : 0 ≤ m) (h2 : m < 4294967296) : IntKind.u32.wrap m = m := by
  simp [IntKind.wrap, IntKind.signed, IntKind.bits]; omega
theorem wrap_i32_in {m : Int} (h1 : -2147483648 ≤ m) (h2 : m < 2147483648) : IntKind.i32.wrap m = m := by rw [IntKind.wrap_i32]; omega
section conv
variable {x : Operand} {src dst : TypeId} {ds : TypeDesc}
/-- int(b), b a byte. -/
theorem Val.convU8 {b : UInt8} (hs : P.underlying src = some ds) (hd : P.underlying dst = some (.int .i64)) (hx : evO env x = some (.int .u8 b.toNat)) : Val P env w (.convert src dst x) ty (I b.toNat) := by
  have := Val.convInt (P := P) (env := env) (w := w) (ty := ty) hs hd hx
  have hb := b.toNat_lt
  rwa [wrap_i64_in (by omega) (by omega)] at this
theorem Val.convU8u64 {b : UInt8} (hs : P.underlying src = some ds) (hd : P.underlying dst = some (.int .u64)) (hx : evO env x = some (.int .u8 b.toNat)) : Val P env w (.convert src dst x) ty (.int .u64 b.toNat) := by
  have := Val.convInt (P := P) (env := env) (w := w) (ty := ty) hs hd hx
  have hb := b.toNat_lt
  rwa [wrap_u64_in (by omega) (by omega)] at this
/-- byte(n). -/
theorem Val.convToU8 {n : Nat} {k : IntKind} (hs : P.underlying src = some ds) (hd : P.underlying dst = some (.int .u8)) (hx : evO env x = some (.int k (n : Int))) : Val P env w (.convert src dst x) ty (.int .u8 (UInt8.ofNat n).toNat) := by
  have := Val.convInt (P := P) (env := env) (w := w) (ty := ty) hs hd hx
  rwa [wrap_u8_nat] at this
theorem Val.convTo64 {k : IntKind} {m : Int} (hs : P.underlying src = some ds) (hd : P.underlying dst = some (.int .i64)) (hx : evO env x = some (.int k m)) (h1 : -9223372036854775808 ≤ m) (h2 : m ≤ 9223372036854775807) : Val P env w (.convert src dst x) ty (I m) := by
  have := Val.convInt (P := P) (env := env) (w := w) (ty := ty) hs hd hx
  rwa [wrap_i64_in h1 h2] at this
theorem Val.convToU64 {k : IntKind} {m : Int} (hs : P.underlying src = some ds) (hd : P.underlying dst = some (.int .u64)) (hx : evO env x = some (.int k m)) (h1 : 0 ≤ m) (h2 : m < 18446744073709551616) : Val P env w (.convert src dst x) ty (.int .u64 m) := by
  have := Val.convInt (P := P) (env := env) (w := w) (ty := ty) hs hd hx
  rwa [wrap_u64_in h1 h2] at this
theorem Val.convToU32 {k : IntKind} {m : Int} (hs : P.underlying src = some ds) (hd : P.underlying dst = some (.int .u32)) (hx : evO env x = some (.int k m)) : Val P env w (.convert src dst x) ty (.int .u32 (m % 4294967296)) := by
  have := Val.convInt (P := P) (env := env) (w := w) (ty := ty) hs hd hx
  rwa [show IntKind.u32.wrap m = m % 4294967296 by simp [IntKind.wrap, IntKind.signed, IntKind.bits]] at this
end conv
/-- The byte of a number. -/
def u8I (m : Int) : UInt8 := UInt8.ofNat (m % 256).toNat
theorem wrap_u8I (m : Int) : IntKind.u8.wrap m = ((u8I m).toNat : Int) := by
  have h1 : 0 ≤ m % 256 := Int.emod_nonneg _ (by decide)
  have h2 : m % 256 < 256 := Int.emod_lt_of_pos _ (by decide)
  simp [IntKind.wrap, IntKind.signed, IntKind.bits, u8I]
  omega
theorem Val.convToU8I {x : Operand} {src dst : TypeId} {ds : TypeDesc} {m : Int} {k : IntKind} (hs : P.underlying src = some ds) (hd : P.underlying dst = some (.int .u8)) (hx : evO env x = some (.int k m)) : Val P env w (.convert src dst x) ty (.int .u8 (u8I m).toNat) := by
  have := Val.convInt (P := P) (env := env) (w := w) (ty := ty) hs hd hx
  rwa [wrap_u8I] at this
section shifts
variable {t ty2 : TypeId} {x y : Operand}
/-- m >> s. -/
theorem Val.shr {k k2 : IntKind} {m s : Int} (hx : evO env x = some (.int k m)) (hy : evO env y = some (.int k2 s)) (h0 : 0 ≤ s) (hs : s.toNat ≤ k.bits) : Val P env w (.binOp .shr t x y ty2) ty (.int k (m / 2 ^ s.toNat)) := fun _ a ho d pos after g => by
  have h1 : ¬ s < 0 := by omega
  have h2 : min s.toNat k.bits = s.toNat := by omega
  simp [execOp, ho.eval hx, ho.eval hy, eqGuard, binOp, Op.shift, h1, h2]
  rw [Int.fdiv_eq_ediv_of_nonneg _ (by exact_mod_cast Nat.zero_le _)]
theorem Val.shl {k k2 : IntKind} {m s : Int} (hx : evO env x = some (.int k m)) (hy : evO env y = some (.int k2 s)) (h0 : 0 ≤ s) (hs : s.toNat ≤ k.bits) : Val P env w (.binOp .shl t x y ty2) ty (.int k (k.wrap (m * 2 ^ s.toNat))) := fun _ a ho d pos after g => by
  have h1 : ¬ s < 0 := by omega
  have h2 : min s.toNat k.bits = s.toNat := by omega
  simp [execOp, ho.eval hx, ho.eval hy, eqGuard, binOp, Op.shift, h1, h2]
theorem Val.bitop {op : BinOp} {k : IntKind} {m n : Int} {r : BitVec k.bits} (hx : evO env x = some (.int k m)) (hy : evO env y = some (.int k n))
    (hr : (op = .or ∧ r = BitVec.ofInt k.bits m ||| BitVec.ofInt k.bits n) ∨ (op = .and ∧ r = BitVec.ofInt k.bits m &&& BitVec.ofInt k.bits n) ∨ (op = .xor ∧ r = BitVec.ofInt k.bits m ^^^ BitVec.ofInt k.bits n)) :
    Val P env w (.binOp op t x y ty2) ty (.int k (k.wrap (r.toNat : Int))) := fun _ a ho d pos after g => by
  rcases hr with ⟨rfl, rfl⟩ | ⟨rfl, rfl⟩ | ⟨rfl, rfl⟩ <;> simp [execOp, ho.eval hx, ho.eval hy, eqGuard, binOp, Op.intBits]
theorem ofInt_nat (b m : Nat) (h : m < 2 ^ b) : (BitVec.ofInt b (m : Int)).toNat = m := by rw [BitVec.ofInt_natCast, BitVec.toNat_ofNat]; exact Nat.mod_eq_of_lt h
/-- | of numbers that are not negative. -/
theorem Val.orU {k : IntKind} {m n : Nat} (hx : evO env x = some (.int k (m : Int))) (hy : evO env y = some (.int k (n : Int))) (hm : m < 2 ^ k.bits) (hn : n < 2 ^ k.bits) (hw : k.wrap ((m ||| n : Nat) : Int) = ((m ||| n : Nat) : Int)) : Val P env w (.binOp .or t x y ty2) ty (.int k ((m ||| n : Nat) : Int)) := by
  have := Val.bitop (P := P) (w := w) (ty := ty) (t := t) (ty2 := ty2) (op := .or) hx hy (.inl ⟨rfl, rfl⟩)
  rw [BitVec.toNat_or, ofInt_nat _ _ hm, ofInt_nat _ _ hn, hw] at this
  exact this
theorem or_256 (m n : Nat) (hn : n < 256) : (m * 256) ||| n = m * 256 + n := by
  have := Nat.shiftLeft_add_eq_or_of_lt (i := 8) hn m
  have h : m <<< 8 = m * 256 := by simp [Nat.shiftLeft_eq]
  rw [h] at this
  exact this.symm
/-- n<<8 | b -/
theorem Val.or256_u64 {m n : Nat} (hx : evO env x = some (.int .u64 ((m * 256 : Nat) : Int))) (hy : evO env y = some (.int .u64 (n : Int))) (hm : m < 72057594037927936) (hn : n < 256) : Val P env w (.binOp .or t x y ty2) ty (.int .u64 ((m * 256 + n : Nat) : Int)) := by
  have := Val.orU (P := P) (w := w) (ty := ty) (t := t) (ty2 := ty2) hx hy (by simp [IntKind.bits]; omega) (by simp [IntKind.bits]; omega) (by rw [or_256 m n hn]; exact wrap_u64_in (by omega) (by omega))
  rwa [or_256 m n hn] at this
theorem Val.or256_i64 {m n : Nat} (hx : evO env x = some (I ((m * 256 : Nat) : Int))) (hy : evO env y = some (I (n : Int))) (hm : m < 36028797018963968) (hn : n < 256) : Val P env w (.binOp .or t x y ty2) ty (I ((m * 256 + n : Nat) : Int)) := by
  have := Val.orU (P := P) (w := w) (ty := ty) (t := t) (ty2 := ty2) hx hy (by simp [IntKind.bits]; omega) (by simp [IntKind.bits]; omega) (by rw [or_256 m n hn]; exact wrap_i64_in (by omega) (by omega))
  rwa [or_256 m n hn] at this
theorem Val.shl8_u64 {m : Nat} {k2 : IntKind} (hx : evO env x = some (.int .u64 (m : Int))) (hy : evO env y = some (.int k2 8)) (hm : m < 72057594037927936) : Val P env w (.binOp .shl t x y ty2) ty (.int .u64 ((m * 256 : Nat) : Int)) := by
  have := Val.shl (P := P) (w := w) (ty := ty) (t := t) (ty2 := ty2) hx hy (by decide) (by decide)
  have e : IntKind.u64.wrap ((m : Int) * 2 ^ (8 : Int).toNat) = ((m * 256 : Nat) : Int) := by
    have : ((m : Int) * 2 ^ (8 : Int).toNat) = ((m * 256 : Nat) : Int) := by simp
    rw [this]; exact wrap_u64_in (by omega) (by omega)
  rwa [e] at this
theorem Val.shl8_i64 {m : Nat} {k2 : IntKind} (hx : evO env x = some (I (m : Int))) (hy : evO env y = some (.int k2 8)) (hm : m < 36028797018963968) : Val P env w (.binOp .shl t x y ty2) ty (I ((m * 256 : Nat) : Int)) := by
  have := Val.shl (P := P) (w := w) (ty := ty) (t := t) (ty2 := ty2) hx hy (by decide) (by decide)
  have e : IntKind.i64.wrap ((m : Int) * 2 ^ (8 : Int).toNat) = ((m * 256 : Nat) : Int) := by
    have : ((m : Int) * 2 ^ (8 : Int).toNat) = ((m * 256 : Nat) : Int) := by simp
    rw [this]; exact wrap_i64_in (by omega) (by omega)
  rwa [e] at this
end shifts

/-! ### Calls -/
theorem callFunc_plain {f : FuncId} (hf : plainFn P f = true) (args : Array Value) : (callFunc f args).run P w = .ok (.enter f args) w := by
  unfold plainFn at hf
  split at hf
  · rename_i fn hfn
    simp at hf
    obtain ⟨h1, h2⟩ := hf
    cases hb : fn.body with
    | none => rw [hb] at h2; cases h2
    | some x => simp [callFunc, program, Sem.run, hfn, h1, hb]
  · cases hf

theorem Eff.call {f : FuncId} {args : Array Operand} {at_ : Array TypeId} {vs : List Value} {S : Value → World → Prop} (hf : plainFn P f = true) (hx : evL env args.toList = some vs)
    (hc : Calls P f vs.toArray w (Ret S)) : Eff P env w (.call ⟨.value (.func f), args, at_⟩) ty S := by
  intro n a ho ro d pos after g K Q hK
  have := ho.evalL hx
  have e : args.map a.eval = vs.toArray := by rw [← this]; apply Array.ext'; simp
  have hr : (execOp a.eval ⟨d, .call ⟨.value (.func f), args, at_⟩, ty, pos, after, g⟩).run P w = .ok (.enter f vs.toArray) w := by
    simp [execOp, resolve, Deferred.ofValue, Act.eval, invoke, e, callFunc_plain hf]
  exact wpIn_of_enter hr hc hK

/-- A call of a function value. -/
theorem Eff.callV {x : Operand} {f : FuncId} {caps : Array Value} {args : Array Operand} {at_ : Array TypeId} {vs : List Value} {S : Value → World → Prop} (hv : evO env x = some (.func (.func f) #[] caps)) (hf : plainFn P f = true)
    (hx : evL env args.toList = some vs) (hc : Calls P f (vs.toArray ++ caps) w (Ret S)) : Eff P env w (.call ⟨.value x, args, at_⟩) ty S := by
  intro n a ho ro d pos after g K Q hK
  have := ho.evalL hx
  have e : args.map a.eval = vs.toArray := by rw [← this]; apply Array.ext'; simp
  have hr : (execOp a.eval ⟨d, .call ⟨.value x, args, at_⟩, ty, pos, after, g⟩).run P w = .ok (.enter f (vs.toArray ++ caps)) w := by
    simp [execOp, resolve, Deferred.ofValue, ho.eval hv, invoke, e, callFunc_plain hf]
  exact wpIn_of_enter hr hc hK

/-! ### New blocks -/
/-- Behind one new block. -/
structure NewB (w w' : World) (b : Nat) (cs : List Value) (t : TypeId) : Prop where
  at_ : b = w.heap.size
  size : w'.heap.size = w.heap.size + 1
  blk : Blk w' b cs t
  below : Below w.heap.size w w'

theorem NewB.mk' (w : World) (cs : List Value) (t : TypeId) : NewB w (w.alloc (.cells cs.toArray t)) w.heap.size cs t :=
  ⟨rfl, by show (w.heap.push _).size = _; simp, heap_alloc_new w _, (Below.refl _ _).alloc (Nat.le_refl _) _⟩

def IsNew (w : World) (cs : List Value) (t : TypeId) (v : Value) (w' : World) : Prop := ∃ b, v = .pointer (some ⟨b, 0, none⟩) ∧ NewB w w' b cs t

theorem Eff.box {t : TypeId} {x : Operand} {cs : List Value} (hx : evO env x = some (.agg cs.toArray)) : Eff P env w (.box t x) ty (IsNew w cs t) :=
  Eff.of_run fun _ a ho d pos after g => ⟨_, _, by simp [execOp, Instr.box, ho.eval hx, newVar, newRow, Value.cells, newObj, Sem.run], w.heap.size, rfl, NewB.mk' w cs t⟩
theorem Eff.box1 {t : TypeId} {x : Operand} {v : Value} (hx : evO env x = some v) (hv : v.cells = #[v]) : Eff P env w (.box t x) ty (IsNew w [v] t) :=
  Eff.of_run fun _ a ho d pos after g => ⟨_, _, by simp [execOp, Instr.box, ho.eval hx, newVar, newRow, hv, newObj, Sem.run], w.heap.size, rfl, NewB.mk' w [v] t⟩
theorem zeroT_spec {t : TypeId} {z : List Value} (h : zeroT P t = some z) : ∃ i zv, P.info? t = some i ∧ i.zero = some zv ∧ zv.cells = z.toArray ∧ i.size = z.length := by
  unfold zeroT at h
  split at h
  · rename_i i hi
    split at h
    · rename_i zv hz
      cases hb : Nat.beq zv.cells.size i.size with
      | false => rw [hb] at h; simp at h
      | true =>
        rw [hb] at h
        have := Nat.eq_of_beq_eq_true hb
        simp at h
        subst h
        exact ⟨i, zv, hi, hz, by simp, by simpa using this.symm⟩
    · cases h
  · cases h
theorem run_zeroT {t : TypeId} {z : List Value} (h : zeroT P t = some z) : ∃ zv, (zeroValue t).run P w = .ok zv w ∧ zv.cells = z.toArray := by
  obtain ⟨i, zv, hi, hz, hc, _⟩ := zeroT_spec h
  exact ⟨zv, by simp [zeroValue, typeInfo, hi, hz], hc⟩
theorem Eff.alloc {t : TypeId} {z : List Value} (hz : zeroT P t = some z) : Eff P env w (.alloc t) ty (IsNew w z t) :=
  Eff.of_run fun _ a ho d pos after g => by
    obtain ⟨zv, h1, h2⟩ := run_zeroT (w := w) hz
    exact ⟨_, _, by simp [execOp, Instr.alloc, h1, newVar, newRow, h2, newObj, Sem.run], w.heap.size, rfl, NewB.mk' w z t⟩
end
end Go.Eng
