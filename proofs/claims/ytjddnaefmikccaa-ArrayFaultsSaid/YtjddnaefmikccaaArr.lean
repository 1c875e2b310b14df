/- Arrays in blocks; words of 32 bits. No condition. -/
import Derived.Test.YtjddnaefmikccaaDigPlain
set_option linter.unusedSimpArgs false
set_option linter.unusedVariables false
namespace Go.Eng
open Go Go.RowKit Silo

/-- An array type: its length, its element type, that one's cells. -/
def arrT (P : Program) (t : TypeId) : Option (Nat × TypeId × Nat) :=
  match P.underlying t with
  | some (.array n e) => match P.info? e with
    | some i => some (n, e, i.size)
    | none => none
  | _ => none
section
variable {P : Program} {env : Env} {w : World} {ty t e : TypeId} {n sz : Nat}
theorem arrT_spec (h : arrT P t = some (n, e, sz)) : P.underlying t = some (.array n e) ∧ ∃ i, P.info? e = some i ∧ i.size = sz := by
  unfold arrT at h
  split at h
  · rename_i n' e' hu
    split at h
    · rename_i i hi
      simp at h
      obtain ⟨rfl, rfl, rfl⟩ := h
      exact ⟨hu, i, hi, rfl⟩
    · cases h
  · cases h
theorem Val.indexArr {x y : Operand} {b off : Nat} {k : IntKind} {i : Int} (ht : arrT P t = some (n, e, sz)) (hx : evO env x = some (.pointer (some ⟨b, off, none⟩))) (hy : evO env y = some (.int k i)) (h0 : 0 ≤ i) (h1 : i < n) :
    Val P env w (.indexAddr t x y) ty (.pointer (some ⟨b, off + i.toNat * sz, none⟩)) := fun _ a ho d pos after g => by
  obtain ⟨hu, inf, hi, hs⟩ := arrT_spec ht
  subst hs
  obtain ⟨m, rfl⟩ := Int.eq_ofNat_of_zero_le h0
  have h2 : m < n := by omega
  simp [execOp, ho.eval hx, ho.eval hy, Instr.indexAt, asIntOf, run_underlying hu, Instr.sureAddr, sizeOf, typeInfo, hi, h2, add_lit]
theorem Val.indexAgg1 {x y : Operand} {k : IntKind} {i : Int} {cs : List Value} {v : Value} (ht : arrT P t = some (n, e, 1)) (he : sclT P e = true) (hx : evO env x = some (.agg cs.toArray)) (hy : evO env y = some (.int k i)) (h0 : 0 ≤ i) (h1 : i < n) (hv : cs[i.toNat]? = some v) :
    Val P env w (.index t x y) ty v := fun _ a ho d pos after g => by
  obtain ⟨hu, inf, hi, hs⟩ := arrT_spec ht
  obtain ⟨m, rfl⟩ := Int.eq_ofNat_of_zero_le h0
  have h2 : m < n := by omega
  have hv' : cs[m]? = some v := by simpa using hv
  simp [execOp, ho.eval hx, ho.eval hy, Instr.index, asIntOf, run_underlying hu, sizeOf, typeInfo, hi, hs, h2, Go.part, run_isAgg_scl he, hv']
theorem Val.indexAggN {x y : Operand} {k : IntKind} {i : Int} {cs : List Value} (ht : arrT P t = some (n, e, sz)) (he : aggT P e = some sz) (hx : evO env x = some (.agg cs.toArray)) (hy : evO env y = some (.int k i)) (h0 : 0 ≤ i) (h1 : i < n) (hl : (i.toNat + 1) * sz ≤ cs.length) :
    Val P env w (.index t x y) ty (.agg ((cs.drop (i.toNat * sz)).take sz).toArray) := fun _ a ho d pos after g => by
  obtain ⟨hu, inf, hi, hs⟩ := arrT_spec ht
  subst hs
  obtain ⟨h3, inf', hi', _⟩ := run_isAgg_agg (w := w) he
  obtain ⟨m, rfl⟩ := Int.eq_ofNat_of_zero_le h0
  have h2 : m < n := by omega
  have hl' : m * inf.size + inf.size ≤ cs.length := by simpa [Nat.add_mul] using hl
  simp [execOp, ho.eval hx, ho.eval hy, Instr.index, asIntOf, run_underlying hu, sizeOf, typeInfo, hi, h2, Go.part, h3, List.extract_eq_take_drop]
/-- v[:], v[lo:] of an array in a block. -/
theorem Val.sliceArr {x : Operand} {b off : Nat} (ht : arrT P t = some (n, e, sz)) (hx : evO env x = some (.pointer (some ⟨b, off, none⟩))) (hn : 0 < n) : Val P env w (.slice t x none none none) ty (.slice (some ⟨b, off, none⟩) n n) := fun _ a ho d pos after g => by
  obtain ⟨hu, inf, hi, hs⟩ := arrT_spec ht
  subst hs
  simp [execOp, ho.eval hx, Instr.sliceAt, run_underlying hu, Instr.sureAddr, Instr.sliceBounds, sizeOf, typeInfo, hi, add_lit]
theorem Val.sliceArrFrom {x y : Operand} {b off : Nat} {k : IntKind} {m : Nat} (ht : arrT P t = some (n, e, sz)) (hx : evO env x = some (.pointer (some ⟨b, off, none⟩))) (hy : evO env y = some (.int k (m : Int))) (hn : m < n) : Val P env w (.slice t x (some y) none none) ty (.slice (some ⟨b, off + m * sz, none⟩) (n - m) (n - m)) := fun _ a ho d pos after g => by
  obtain ⟨hu, inf, hi, hs⟩ := arrT_spec ht
  subst hs
  have h1 : m ≤ n := by omega
  have h2 : n ≠ m := by omega
  simp [execOp, ho.eval hx, ho.eval hy, Instr.sliceAt, run_underlying hu, Instr.sureAddr, Instr.sliceBounds, Instr.sliceBound, asIntOf, sizeOf, typeInfo, hi, add_lit, h1, h2]

/-- copy(dst, src): dst in a block that is known whole, of elements of one cell. -/
theorem Eff.copyC {x y : Operand} {te : TypeId} {by_ : Nat} {z : List Value} {t2 : TypeId} {c : Nat → Nat} {i b o m cp : Nat} {cs news : List Value} {T : TypeId} {A : Addr} {m' cp' : Nat} (ht : slT P t = some (te, 1, by_, z)) (hx : evO env x = some (.slice (some ⟨b, o, none⟩) m cp)) (hy : evO env y = some (.slice (some A) m' cp')) (hb : BlkC c w i b cs T)
    (hc : cellsAt w A news) (hl : news.length = Nat.min m' m) (hfit : o + news.length ≤ cs.length) (h1 : ∀ v ∈ news, v.oneCell' = true) :
    Eff P env w (.call ⟨.builtin .copy, #[x, y], #[t, t2]⟩) ty (fun _ w' => ∃ c', Mv c w c' w' [i] ∧ BlkC c' w' i b (cs.take o ++ news ++ cs.drop (o + news.length)) T) :=
  Eff.of_run fun _ a ho d pos after g => by
    obtain ⟨hu, inf, zv, hi, hs, hb', hz', hc', hl'⟩ := slT_spec ht
    have hst := run_storeCells_fz (P := P) b o T (0, 0) news 0 cs.toArray w hb.blk (fun h => by simp at h) (by simpa using hfit) h1
    have hfc := run_firstCells_some (P := P) w 1 (Nat.min m' m) A m' cp' news (by rw [hl]; simp) hc
    simp only [Nat.add_zero] at hst
    have hS := Stored.row hb.blk (cs' := cs.take o ++ news ++ cs.drop (o + news.length))
    obtain ⟨h2, h3⟩ := hS.mv hb
    refine ⟨I ((Nat.min m' m : Nat) : Int), w.setRow b (cs.take o ++ news ++ cs.drop (o + news.length)).toArray, ?_, c, h3, h2⟩
    simp [execOp, resolve, invoke, builtin, Builtin.copy_, ho.eval hx, ho.eval hy, run_underlying hu, sizeOf, typeInfo, hi, hs, Builtin.lenOf, hfc, hst, goInt]
end

/-- A struct or array out of the middle of a block. -/
theorem Val.loadSub {P : Program} {env : Env} {w : World} {ty t : TypeId} {n : Nat} {x : Operand} {b off : Nat} {cs : List Value} {T : TypeId} (ht : aggT P t = some n) (hx : evO env x = some (.pointer (some ⟨b, off, none⟩))) (hb : Blk w b cs T) (hl : off + n ≤ cs.length) : Val P env w (.load t x) ty (.agg ((cs.drop off).take n).toArray) :=
  Val.loadN ht hx (fun j v hv => by
    rw [add_lit, hb.cell]
    rw [List.getElem?_take] at hv
    split at hv
    · rwa [List.getElem?_drop] at hv
    · cases hv) (by simp; omega)
/-- A struct or array stored into the middle of a block. -/
theorem Eff.storeSubC {P : Program} {env : Env} {w : World} {ty t : TypeId} {c : Nat → Nat} {n : Nat} {x y : Operand} {i b off : Nat} {cs cs' : List Value} {T : TypeId} (ht : aggT P t = some n) (hx : evO env x = some (.pointer (some ⟨b, off, none⟩))) (hy : evO env y = some (.agg cs'.toArray)) (hb : BlkC c w i b cs T)
    (hl' : cs'.length = n) (hfit : off + n ≤ cs.length) (h1 : ∀ v ∈ cs', v.oneCell' = true) : Eff P env w (.store t x y) ty (fun _ w' => BlkC c w' i b (cs.take off ++ cs' ++ cs.drop (off + n)) T ∧ Mv c w c w' [i]) :=
  Eff.of_skip fun _ a ho d pos after g => by
    obtain ⟨_, inf, hinf, hsz⟩ := run_isAgg_agg (w := w) ht
    have hst := run_storeCells_fz (P := P) b off T (0, 0) cs' 0 cs.toArray w hb.blk (fun h => by simp at h) (by simp; omega) h1
    simp only [Nat.add_zero, hl'] at hst
    have hS := (Stored.row hb.blk (cs' := cs.take off ++ cs' ++ cs.drop (off + n))).mv hb
    refine ⟨_, ?_, hS⟩
    simp only [execOp, Instr.storeAt, storeVar, ho.eval hx, ho.eval hy, Instr.sureAddr, Sem.run_bind, Sem.run_pure, Result.andThen_ok, sizeOf, typeInfo, program, Sem.run, hinf, Value.cells, List.size_toArray, hl', hsz]
    simp [hst]

/-! ### Words -/
theorem gW_get {l : List Int} {j : Nat} (h : j < l.length) : (l.map W32)[j]? = some (W32 (gW l j)) := by
  rw [List.getElem?_map, List.getElem?_eq_getElem h, gW, List.getElem?_eq_getElem h]; rfl
theorem W_set (l : List Int) (j : Nat) (n : Int) : (l.map W32).set j (W32 n) = (l.set j n).map W32 := by rw [List.map_set]
section
variable {P : Program} {env : Env} {w : World} {ty t ty2 : TypeId} {x y : Operand} {c : Nat → Nat}
theorem Val.loadW {b j : Nat} {l : List Int} {post : List Value} {T : TypeId} (ht : sclT P t = true) (hx : evO env x = some (.pointer (some ⟨b, 0 + j * 1, none⟩))) (hb : Blk w b (l.map W32 ++ post) T) (hj : j < l.length) : Val P env w (.load t x) ty (W32 (gW l j)) :=
  Val.loadB ht (by rw [hx]; simp) hb (by rw [List.getElem?_append_left (by simpa using hj), gW_get hj]) (i := j)
theorem Eff.storeW {i b j : Nat} {l : List Int} {post : List Value} {n : Int} {T : TypeId} (ht : sclT P t = true) (hx : evO env x = some (.pointer (some ⟨b, 0 + j * 1, none⟩))) (hy : evO env y = some (W32 n)) (hb : BlkC c w i b (l.map W32 ++ post) T) (hj : j < l.length) :
    Eff P env w (.store t x y) ty (fun _ w' => BlkC c w' i b ((l.set j n).map W32 ++ post) T ∧ Mv c w c w' [i]) := by
  have h := Eff.storeC (P := P) (env := env) (ty := ty) (j := j) ht (by rw [hx]; simp) hy rfl rfl hb (by rw [Nat.blt_eq]; simp; omega)
  rwa [List.set_append_left _ _ (by simpa using hj), W_set] at h
section
variable {m n : Int} (hx : evO env x = some (W32 m)) (hy : evO env y = some (W32 n))
include hx hy
theorem Val.add_u32 : Val P env w (.binOp .add t x y ty2) ty (W32 (w32 (m + n))) := by
  have := Val.add (P := P) (w := w) (ty := ty) (t := t) (ty2 := ty2) hx hy
  rwa [wrap_u32] at this
theorem Val.xor_u32 : Val P env w (.binOp .xor t x y ty2) ty (W32 (x32 m n)) := by
  have := Val.bitop (P := P) (w := w) (ty := ty) (t := t) (ty2 := ty2) (op := .xor) hx hy (.inr (.inr ⟨rfl, rfl⟩))
  have e : IntKind.u32.wrap ((BitVec.ofInt IntKind.u32.bits m ^^^ BitVec.ofInt IntKind.u32.bits n).toNat : Int) = x32 m n := wrap_bv _
  rwa [e] at this
theorem Val.or_u32 : Val P env w (.binOp .or t x y ty2) ty (W32 (o32 m n)) := by
  have := Val.bitop (P := P) (w := w) (ty := ty) (t := t) (ty2 := ty2) (op := .or) hx hy (.inl ⟨rfl, rfl⟩)
  have e : IntKind.u32.wrap ((BitVec.ofInt IntKind.u32.bits m ||| BitVec.ofInt IntKind.u32.bits n).toNat : Int) = o32 m n := wrap_bv _
  rwa [e] at this
end
theorem Val.shl_u32 {k2 : IntKind} {m s : Int} (hx : evO env x = some (W32 m)) (hy : evO env y = some (.int k2 s)) (h0 : 0 ≤ s) (hs : s.toNat ≤ 32) : Val P env w (.binOp .shl t x y ty2) ty (W32 (w32 (m * 2 ^ s.toNat))) := by
  have := Val.shl (P := P) (w := w) (ty := ty) (t := t) (ty2 := ty2) hx hy h0 hs
  rwa [wrap_u32] at this
theorem not32_eq (m : Int) : x32 4294967295 m = not32 m := by
  have : BitVec.ofInt 32 4294967295 = BitVec.allOnes 32 := by decide
  unfold x32 not32; rw [this, BitVec.allOnes_xor]
theorem Val.un_xor {m : Int} (hx : evO env x = some (W32 m)) : Val P env w (.unOp .xor t x) ty (W32 (not32 m)) := fun _ a ho d pos after g => by
  have h : (Op.intBits .xor .u32 4294967295 m : Sem Value) = pure (W32 (x32 4294967295 m)) := by
    have e : IntKind.u32.wrap ((BitVec.ofInt IntKind.u32.bits 4294967295 ^^^ BitVec.ofInt IntKind.u32.bits m).toNat : Int) = x32 4294967295 m := wrap_bv _
    simp only [Op.intBits]
    rw [e]
  simp only [execOp, ho.eval hx, Op.unary]
  simp [IntKind.signed, IntKind.max, IntKind.bits, h, not32_eq]
end
end Go.Eng
