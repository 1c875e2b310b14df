/- Operations that write or make memory, over shapes and rows of one's own. No condition. -/
import Derived.Test.YtjddnaefmikccaaData
set_option linter.unusedSimpArgs false
set_option linter.unusedVariables false
namespace Go.Eng
open Go Go.RowKit

theorem grown_refl (w : World) (r : Option Nat) : w.grownBy w r := ⟨rfl, rfl, rfl, Nat.le_refl _, fun _ _ _ => rfl⟩
theorem below_of_grown {B : Nat} {w w' : World} {row : Option Nat} (hg : w.grownBy w' row) (hB : B ≤ w.heap.size) (hr : ∀ k, row = some k → B ≤ k) : Below B w w' := (Below.refl B w).grown hg hB hr
theorem grown_of_below {w w' : World} (h : Below w.heap.size w w') (r : Option Nat) : w.grownBy w' r := ⟨h.os, h.tape, h.output, h.size, fun k hk _ => h.block k hk⟩
theorem Blk.grown {w w' : World} {b : Nat} {cs : List Value} {t : TypeId} {row : Option Nat} (h : Blk w b cs t) (hg : w.grownBy w' row) (hne : row ≠ some b) : Blk w' b cs t := (hg.block b h.lt (fun e => hne e.symm)).trans h
theorem Own.grown {w w' : World} {base : Nat} {e : TypeId} {size : Nat} {v : Value} {n : Nat} {xs : List Value} {row : Option Nat} (h : Own w base e size v n xs) (hg : w.grownBy w' row) (hne : ∀ k, v.rowOf = some k → row ≠ some k) : Own w' base e size v n xs :=
  h.keepB fun k hk => hg.block k (h.lt k hk).2 (fun e => hne k hk e.symm)
theorem RdS.grown {α : Type} {s : Shape α} {B : Nat} {w w' : World} {v : Value} {l : List α} {row : Option Nat} (h : RdS s B w v l) (hg : w.grownBy w' row) (hB : B ≤ w.heap.size) (hr : ∀ k, row = some k → B ≤ k) : RdS s B w' v l :=
  h.keep fun k hk => hg.block k (by omega) (fun e => by have := hr k e.symm; omega)

/-- Behind an append. -/
structure App (w w' : World) (base : Nat) (e : TypeId) (size : Nat) (v v' : Value) (n : Nat) (xs : List Value) : Prop where
  own : Own w' base e size v' n xs
  grown : w.grownBy w' v.rowOf
  at_ : v'.rowOf = v.rowOf ∨ v'.rowOf = some w.heap.size
theorem App.below {w w' : World} {base : Nat} {e : TypeId} {size : Nat} {v v' : Value} {n n' : Nat} {xs xs' : List Value} (h : App w w' base e size v v' n xs) (ho : Own w base e size v n' xs') {B : Nat} (hB : B ≤ base) (hs : B ≤ w.heap.size) : Below B w w' :=
  below_of_grown h.grown hs fun k hk => by have := (ho.lt k hk).1; omega

section
variable {P : Program} {env : Env} {w : World} {ty : TypeId}

theorem Eff.append {s x : Operand} {t u e : TypeId} {size by_ : Nat} {z : List Value} (ht : slT P t = some (e, size, by_, z)) {base : Nat} {v xv : Value} {n m : Nat} {xs news : List Value}
    (hs : evO env s = some v) (hx : evO env x = some xv) (hown : Own w base e size v n xs) (hsrc : Src P w u size xv m news) (h63 : n + m ≤ maxLen) (hby : (n + m) * by_ ≤ 140737488355328) (hbase : base ≤ w.heap.size) :
    Eff P env w (.call ⟨.builtin .append, #[s, x], #[t, u]⟩) ty (fun v' w' => App w w' base e size v v' (n + m) (xs ++ news)) :=
  Eff.of_run fun _ a ho d pos after g => by
    obtain ⟨v', w', h1, h2, h3, h4⟩ := run_append_gen (P := P) (w := w) (ty := ty) ht hown hsrc h63 hby hbase
    exact ⟨v', w', by simp [execOp, resolve, invoke, builtin, ho.eval hs, ho.eval hx, h1], h2, h3, h4⟩

/-- A new row of a slice: where it lies, what it holds. -/
def IsNewS (w : World) (cs : List Value) (n : Nat) (t : TypeId) (v : Value) (w' : World) : Prop := ∃ b, v = .slice (some ⟨b, 0, none⟩) n n ∧ NewB w w' b cs t

def zipFrom (j : Nat) : List Value → List (Nat × Value)
  | [] => []
  | v :: r => (j, v) :: zipFrom (j + 1) r

theorem splice_cells (off : Nat) : ∀ (cs : List Value) (k : Nat) (cells : Array Value), off + k + cs.length ≤ cells.size →
    (cs.zipIdx k).foldl (fun (a : Array Value) (p : Value × Nat) => a.setIfInBounds (off + p.2) p.1) cells = (cells.toList.take (off + k) ++ cs ++ cells.toList.drop (off + k + cs.length)).toArray
  | [], k, cells, h => by simp
  | c :: r, k, cells, h => by
    simp only [List.zipIdx_cons, List.foldl_cons]
    rw [splice_cells off r (k + 1) _ (by simp at h ⊢; omega)]
    have e := list_seg_step cells.toList (off + k) c r (by simp at h ⊢; omega)
    have e1 : off + (k + 1) = off + k + 1 := by omega
    have e2 : off + k + 1 + r.length = off + k + (c :: r).length := by simp; omega
    rw [e1]
    simp only [Array.toList_setIfInBounds]
    rw [e]
    rfl

theorem fill_seq (size : Nat) : ∀ (vs : List Value) (j : Nat) (cells : Array Value), cells.size = (j + vs.length) * size → (∀ v ∈ vs, v.cells.size = size) →
    Instr.fill (fun i => some (i * size, size)) cells (zipFrom j vs) = some (cells.toList.take (j * size) ++ (vs.map (·.cells.toList)).flatten).toArray
  | [], j, cells, h, _ => by
    simp only [zipFrom, Instr.fill, List.map_nil, List.flatten_nil, List.append_nil]
    rw [List.take_of_length_le (by simpa using Nat.le_of_eq h)]
  | v :: r, j, cells, h, hv => by
    have h1 := hv v (by simp)
    have h2 : j * size + size ≤ cells.size := by
      rw [h, List.length_cons]
      have : (j + (r.length + 1)) * size = j * size + size + r.length * size := by simp [Nat.add_mul]; omega
      omega
    have hcond : ¬ ((decide (v.cells.size ≠ size) || decide (j * size + v.cells.size > cells.size)) = true) := by rw [h1]; simp; omega
    have hsp : (Array.foldl (fun (cs : Array Value) (x : Value × Nat) => cs.setIfInBounds (j * size + x.snd) x.fst) cells v.cells.zipIdx) = (cells.toList.take (j * size) ++ v.cells.toList ++ cells.toList.drop (j * size + size)).toArray := by
      rw [← Array.foldl_toList, Array.toList_zipIdx]
      have := splice_cells (j * size) v.cells.toList 0 cells (by simp [h1]; omega)
      simpa [h1] using this
    simp only [zipFrom, Instr.fill]
    have e0 : (j + 1 + r.length) * size = (j + (v :: r).length) * size := by
      congr 1
      simp; omega
    rw [if_neg hcond, hsp, fill_seq size r (j + 1) _ (by
      simp only [List.size_toArray, List.length_append, List.length_take, List.length_drop, Array.length_toList, h1]
      rw [e0, ← h]
      omega) (fun x hx => hv x (by simp [hx]))]
    congr 1
    have e : (j + 1) * size = (cells.toList.take (j * size) ++ v.cells.toList).length := by
      simp only [List.length_append, List.length_take, Array.length_toList, h1, Nat.add_mul]; omega
    rw [e]
    have e3 : (cells.toList.take (j * size) ++ v.cells.toList ++ cells.toList.drop (j * size + size)).toArray.toList.take (cells.toList.take (j * size) ++ v.cells.toList).length = cells.toList.take (j * size) ++ v.cells.toList := by
      show List.take _ (_ ++ _) = _
      exact List.take_left
    rw [e3]
    simp

theorem Eff.buildSlice {t e : TypeId} {size by_ n : Nat} {z : List Value} {parts : Array (Nat × Operand)} {vs : List Value} (ht : slT P t = some (e, size, by_, z)) (hx : evL env (parts.toList.map (·.2)) = some vs)
    (hz : (parts.toList.map (·.1)).zip vs = zipFrom 0 vs) (hlen : vs.length = n) (hsz : ∀ v ∈ vs, v.cells.size = size) (hn : Nat.blt 0 (n * size) = true) (hm : Nat.ble (n * size) 16777216 = true) :
    Eff P env w (.buildSlice t n parts) ty (IsNewS w (vs.map (·.cells.toList)).flatten n e) :=
  Eff.of_run fun _ a ho d pos after g => by
    obtain ⟨hu, inf, zv, hi, hs, hb, hz', hc, hl⟩ := slT_spec ht
    subst hs
    have hv := ho.evalL hx
    have hp : (parts.map fun (i, x) => (i, a.eval x)).toList = zipFrom 0 vs := by
      rw [← hz, ← hv]
      simp only [Array.toList_map, List.map_map]
      generalize parts.toList = l
      induction l with
      | nil => rfl
      | cons p r ih => simp only [List.map_cons, List.zip_cons_cons, ih]; rfl
    have hn' : n * inf.size ≠ 0 := by simp [Nat.blt_eq] at hn; omega
    have hm' : ¬ 16777216 < n * inf.size := by simp [Nat.ble_eq] at hm; omega
    have hf' : Instr.fill (fun i => some (i * inf.size, inf.size)) ((Array.range (n * inf.size)).map (zv.cells[· % zv.cells.size]!)) (parts.map fun (i, x) => (i, a.eval x)).toList = some (vs.map (·.cells.toList)).flatten.toArray := by
      rw [hp, fill_seq inf.size vs 0 _ (by simp [hlen]) hsz]; simp
    refine ⟨.slice (some ⟨w.heap.size, 0, none⟩) n n, w.alloc (.cells (vs.map (·.cells.toList)).flatten.toArray e), ?_, w.heap.size, rfl, NewB.mk' w _ e⟩
    simp [execOp, Instr.buildSlice, run_underlying hu, sizeOf, typeInfo, hi, zeroValue, hz', hm', hn', newRow, hf', -List.map_toArray, -Array.toList_map]
/-- One element in a new row: what append(l, x) lays first. -/
theorem Eff.build1 {t e : TypeId} {size by_ : Nat} {z : List Value} {x : Operand} {v : Value} {cs : List Value} (ht : slT P t = some (e, size, by_, z)) (hx : evO env x = some v) (hv : v.cells = cs.toArray) (hl : cs.length = size)
    (hn : Nat.blt 0 (1 * size) = true) (hm : Nat.ble (1 * size) 16777216 = true) : Eff P env w (.buildSlice t 1 #[(0, x)]) ty (IsNewS w cs 1 e) := by
  have := Eff.buildSlice (P := P) (env := env) (w := w) (ty := ty) (n := 1) (parts := #[(0, x)]) (vs := [v]) ht (by simp [evL, hx]) rfl rfl (by simp [hv, hl]) hn hm
  simpa [hv] using this

/-! ### Stores -/
theorem run_store_blk {b i : Nat} {cs : List Value} {T : TypeId} {v : Value} (hb : Blk w b cs T) (hi : i < cs.length) (hv : v.oneCell' = true) : (store ⟨b, i, none⟩ v).run P w = .ok () (w.setCell ⟨b, i, none⟩ v) := by
  rw [run_store P w _ v _ hv, hb.cell, List.getElem?_eq_getElem hi]
  have : w.frozen? ⟨b, i, none⟩ = false := by unfold Blk at hb; simp [World.frozen?, hb]
  simp [this]
structure Stored (w w' : World) (b : Nat) (cs : List Value) (T : TypeId) : Prop where
  blk : Blk w' b cs T
  grown : w.grownBy w' (some b)
  size : w'.heap.size = w.heap.size
theorem Stored.mk' {b i : Nat} {cs : List Value} {T : TypeId} (v : Value) (hb : Blk w b cs T) : Stored w (w.setCell ⟨b, i, none⟩ v) b (cs.set i v) T := by
  refine ⟨?_, ⟨rfl, rfl, rfl, by simp [World.setCell], fun k _ hne => Below.heap_setCell w _ v k (fun e => hne (by rw [e]))⟩, by simp [World.setCell]⟩
  unfold Blk at hb ⊢
  simp [World.setCell, Array.getElem?_modify, hb]
/-- A store into one cell of a block that is known whole. -/
theorem Eff.storeB {t T : TypeId} {x y : Operand} {b i : Nat} {cs : List Value} {v : Value} (ht : sclT P t = true) (hx : evO env x = some (.pointer (some ⟨b, i, none⟩))) (hy : evO env y = some v) (hv : v.cells = #[v]) (h1 : v.oneCell' = true) (hb : Blk w b cs T) (hi : Nat.blt i cs.length = true) :
    Eff P env w (.store t x y) ty (fun _ w' => Stored w w' b (cs.set i v) T) :=
  Eff.of_skip fun _ a ho d pos after g => by
    obtain ⟨inf, hinf, hsz⟩ := size_scl ht
    have hi' : i < cs.length := by simpa [Nat.blt_eq] using hi
    have hs := run_store_blk (P := P) hb hi' h1
    refine ⟨_, ?_, Stored.mk' v hb (i := i)⟩
    simp only [execOp, Instr.storeAt, storeVar, ho.eval hx, ho.eval hy, Instr.sureAddr, Sem.run_bind, Sem.run_pure, Result.andThen_ok, sizeOf, typeInfo, program, Sem.run, hinf, hv, hsz]
    simp [storeCells, Addr.add, hs]

theorem run_storeCells_whole {b : Nat} {cs cs' : List Value} {T : TypeId} (hb : Blk w b cs T) (hl : cs'.length = cs.length) (h1 : ∀ v ∈ cs', v.oneCell' = true) :
    (storeCells ⟨b, 0, none⟩ cs').run P w = .ok () (w.setRow b cs'.toArray) := by
  have := run_storeCells_fz (P := P) b 0 T (0, 0) cs' 0 cs.toArray w hb (fun h => by simp at h) (by simp [hl]) h1
  simpa [hl] using this
theorem Stored.row {b : Nat} {cs cs' : List Value} {T : TypeId} (hb : Blk w b cs T) : Stored w (w.setRow b cs'.toArray) b cs' T :=
  ⟨setRow_heap w b _ _ T _ hb, ⟨rfl, rfl, rfl, by simp [World.setRow], fun k _ hne => setRow_other w b k _ (fun e => hne (by rw [e]))⟩, by simp [World.setRow]⟩
/-- A struct stored over a whole block. -/
theorem Eff.storeBN {t T : TypeId} {n : Nat} {x y : Operand} {b : Nat} {cs cs' : List Value} (ht : aggT P t = some n) (hx : evO env x = some (.pointer (some ⟨b, 0, none⟩))) (hy : evO env y = some (.agg cs'.toArray)) (hb : Blk w b cs T) (hl : cs.length = n) (hl' : cs'.length = n)
    (h1 : ∀ v ∈ cs', v.oneCell' = true) : Eff P env w (.store t x y) ty (fun _ w' => Stored w w' b cs' T) :=
  Eff.of_skip fun _ a ho d pos after g => by
    obtain ⟨_, inf, hinf, hsz⟩ := run_isAgg_agg (w := w) ht
    have hs := run_storeCells_whole (P := P) hb (by rw [hl', hl]) h1
    refine ⟨_, ?_, Stored.row hb (cs' := cs')⟩
    simp only [execOp, Instr.storeAt, storeVar, ho.eval hx, ho.eval hy, Instr.sureAddr, Sem.run_bind, Sem.run_pure, Result.andThen_ok, sizeOf, typeInfo, program, Sem.run, hinf, Value.cells, List.size_toArray, hl', hsz]
    simp [hs]

/-- A store into an element of one cell of a row of one's own. -/
theorem Eff.storeOwn {t e : TypeId} {x y : Operand} {base n : Nat} {sv : Value} {xs : List Value} {i : Nat} {v : Value} (ht : sclT P t = true) (hown : Own w base e 1 sv n xs) (hi : i < n) (hx : evO env x = some (.pointer (some (elemA sv 1 i)))) (hy : evO env y = some v)
    (hv : v.cells = #[v]) (h1 : v.oneCell' = true) : Eff P env w (.store t x y) ty (fun _ w' => Own w' base e 1 sv n (xs.set i v) ∧ w.grownBy w' sv.rowOf ∧ w'.heap.size = w.heap.size) :=
  Eff.of_skip fun _ a ho d pos after g => by
    obtain ⟨inf, hinf, hsz⟩ := size_scl ht
    rcases hown.2 with ⟨h0, A, rfl⟩ | ⟨g', cap, cur, fz, rfl, hb, hg, hf, h2, h3, h4, h5, hcp⟩
    · omega
    · have hic : i < cur.size := by omega
      have hfro : w.frozen? ⟨g', i, none⟩ = false := by
        obtain ⟨lo, hi'⟩ := fz
        simp [World.frozen?, hg]
        intro h6
        rcases Nat.lt_or_ge lo hi' with h7 | h7
        · have := hf h7; simp at this; omega
        · omega
      have hs : (store ⟨g', i, none⟩ v).run P w = .ok () (w.setCell ⟨g', i, none⟩ v) := by
        rw [run_store P w _ v _ h1, cell_of_row w g' i cur e fz hg]
        simp [hic, hfro]
      refine ⟨w.setCell ⟨g', i, none⟩ v, ?_, ⟨by simpa using hown.1, ownIn ⟨g', cap, cur.setIfInBounds i v, fz, rfl, hb, ?_, by simpa using hf, h2, h3, by simpa using h4, ?_⟩⟩, ?_, by simp [World.setCell]⟩
      · simp only [execOp, Instr.storeAt, storeVar, ho.eval hx, ho.eval hy, Instr.sureAddr, Sem.run_bind, Sem.run_pure, Result.andThen_ok, sizeOf, typeInfo, program, Sem.run, hinf, hv, hsz]
        simp only [storeCells, elemA, Nat.mul_one, add_lit, Nat.zero_add, Nat.add_zero]
        simp [storeCells, add_lit, hs]
      · simp [World.setCell, Array.getElem?_modify, hg]
      · rw [Array.toList_setIfInBounds, Nat.mul_one] at *
        rw [← h5, List.take_set]
      · exact ⟨rfl, rfl, rfl, by simp [World.setCell], fun k _ hne => Below.heap_setCell w _ v k (fun e => hne (by rw [rowOf_slice hcp, e]))⟩

/-! ### make, []byte(s), string(b) -/
theorem Eff.make {t e : TypeId} {size by_ : Nat} {z : List Value} {x y : Operand} {kl kc : IntKind} {n : Int} (ht : slT P t = some (e, size, by_, z)) (hx : evO env x = some (.int kl n)) (hy : evO env y = some (.int kc n)) (h0 : 0 ≤ n) (hb : n * by_ ≤ 281474976710656) (h63 : n ≤ 9223372036854775807) :
    Eff P env w (.makeSlice t x y) ty (fun v w' => v = .slice (some ⟨w.heap.size, 0, none⟩) n.toNat n.toNat ∧ Own w' w.heap.size e size v n.toNat (List.replicate n.toNat z).flatten ∧ Below w.heap.size w w' ∧ w'.heap.size = w.heap.size + 1) :=
  Eff.of_run fun _ a ho d pos after g => by
    obtain ⟨hu, inf, zv, hi, hs, hb', hz', hc, hl⟩ := slT_spec ht
    subst hs hb'
    have hr := run_make (P := P) w t e inf zv hu hi hz' kl kc n n h0 (Int.le_refl _) (by rw [Int.mul_comm]; exact hb) h63
    refine ⟨_, _, by simp only [execOp, ho.eval hx, ho.eval hy, Sem.run_bind, hr, Result.andThen_ok]; rfl, rfl, ⟨?_, ownIn ⟨w.heap.size, n.toNat, _, (0, 0), rfl, Nat.le_refl _, heap_alloc_new w _, fun h => by simp at h, Nat.le_refl _, ?_, ?_, ?_⟩⟩, (Below.refl _ _).alloc (Nat.le_refl _) _, ?_⟩
    · have : ∀ (k : Nat), (List.replicate k z).flatten.length = k * inf.size := by
        intro k
        induction k with
        | zero => simp
        | succ k ih => simp [List.replicate_succ, ih, hl, Nat.add_mul]; omega
      exact this _
    · simp [maxLen]; omega
    · simp [madeCells]
    · have key : ∀ (k : Nat), (madeCells zv.cells (k * inf.size)).toList = (List.replicate k z).flatten := by
        intro k
        rw [hc]
        apply List.ext_getElem?
        intro j
        have hlen : (List.replicate k z).flatten.length = k * inf.size := by
          clear hr
          induction k with
          | zero => simp
          | succ k ih => simp [List.replicate_succ, ih, hl, Nat.add_mul]; omega
        rcases Nat.lt_or_ge j (k * inf.size) with hj | hj
        · have h1 : (madeCells z.toArray (k * inf.size)).toList[j]? = some (z[j % inf.size]!) := by
            simp [madeCells, hj, hl]
          rw [h1]
          symm
          have hpos : 0 < inf.size := by
            rcases Nat.eq_zero_or_pos inf.size with h | h
            · rw [h] at hj; simp at hj
            · exact h
          clear h1 hr hlen
          induction k generalizing j with
          | zero => simp at hj
          | succ k ih =>
            simp only [List.replicate_succ, List.flatten_cons]
            rcases Nat.lt_or_ge j inf.size with h1 | h1
            · rw [List.getElem?_append_left (by omega), Nat.mod_eq_of_lt h1]
              simp [h1, hl]
            · rw [List.getElem?_append_right (by omega), hl]
              have := ih (j - inf.size) (by rw [Nat.add_mul] at hj; omega)
              rw [this]
              congr 2
              rw [← Nat.mod_eq_sub_mod h1]
        · rw [List.getElem?_eq_none (by simpa [madeCells] using hj), List.getElem?_eq_none (by rw [hlen]; exact hj)]
      rw [key, List.take_of_length_le]
      have : ∀ (k : Nat), (List.replicate k z).flatten.length = k * inf.size := by
        intro k
        induction k with
        | zero => simp
        | succ k ih => simp [List.replicate_succ, ih, hl, Nat.add_mul]; omega
      rw [this]; exact Nat.le_refl _
    · show (w.heap.push _).size = _; simp

def bytesV (l : List UInt8) : List Value := l.map fun b => .int .u8 b.toNat

theorem bytes_cells (l : List UInt8) (cap : Nat) : (bytesRow ⟨l.toArray⟩ cap).toList = bytesV l ++ List.replicate (cap - l.length) (.int .u8 0) := by
  simp [bytesRow, bytesV, size_mk]

/-- []byte(s). -/
theorem Eff.toBytes {src dst e : TypeId} {x : Operand} {l : List UInt8} (hs : P.underlying src = some .string) (hd : P.underlying dst = some (.slice e)) (he : P.underlying e = some (.int .u8)) (hx : evO env x = some (St l)) (h : l.length ≤ maxLen) :
    Eff P env w (.convert src dst x) ty (fun v w' => Own w' w.heap.size e 1 v l.length (bytesV l) ∧ Below w.heap.size w w' ∧ w'.heap.size = w.heap.size + 1 ∧ (∀ k, v.rowOf = some k → k = w.heap.size)) :=
  Eff.of_run fun _ a ho d pos after g => by
    have hge := grownCap_ge w l.length 0 e
    have hcm := grownCap_le_maxLen w l.length 0 e h
    have hr := run_bytes_of_string (P := P) w src dst e ⟨l.toArray⟩ hs hd he
    have hsz : (bytesRow ⟨l.toArray⟩ (grownCap w l.length 0 e)).size = grownCap w l.length 0 e := by simp [bytesRow, size_mk]; omega
    rw [size_mk] at hr
    refine ⟨_, _, by simp only [execOp, ho.eval hx, Sem.run_bind, hr, Result.andThen_ok]; rfl, ⟨by simp [bytesV], ownIn ⟨w.heap.size, _, _, _, rfl, Nat.le_refl _, heap_alloc_new w.drew _, fun _ => Nat.le_refl _, hge, hcm, by rw [hsz]; omega, ?_⟩⟩, (Below.refl _ _).drew.alloc (by simp) _, ?_, fun k hk => by
      simp only [Value.rowOf] at hk
      cases hb : Nat.beq (grownCap w l.length 0 e) 0 <;> rw [hb] at hk <;> simp at hk
      exact hk.symm⟩
    · rw [bytes_cells, Nat.mul_one]
      have : l.length = (bytesV l).length := by simp [bytesV]
      rw [this]; exact List.take_left
    · show (w.drew.heap.push _).size = _; simp
/-- string(b), b a row of one's own. -/
theorem Val.ofBytes {src dst e : TypeId} {x : Operand} {base n : Nat} {v : Value} {l : List UInt8} (hs : P.underlying src = some (.slice e)) (hd : P.underlying dst = some .string) (he : P.underlying e = some (.int .u8)) (hx : evO env x = some v) (hown : Own w base e 1 v n (bytesV l)) :
    Val P env w (.convert src dst x) ty (St l) := fun _ a ho d pos after g => by
  have hn : n = l.length := by have := hown.1; simp [bytesV] at this; exact this.symm
  subst hn
  rcases hown.2 with ⟨h0, A, rfl⟩ | ⟨g', cap, cur, fz, rfl, hb, hg, _, _, _, _, _, hcp⟩
  · have : l = [] := List.eq_nil_of_length_eq_zero h0
    subst this
    cases A with
    | none =>
      simp only [execOp, ho.eval hx, Sem.run_bind, run_convert_bytes_string w src dst e none 0 0 hs he hd]
      simp [Conv.bytesToString]; rfl
    | some a0 =>
      have hr := run_convert_bytes_back (P := P) w src dst e a0 0 [] hs he hd (fun j hj => absurd hj (by simp))
      simp only [List.length_nil] at hr
      simp only [execOp, ho.eval hx, Sem.run_bind, hr, Result.andThen_ok]
      simp
  · have hc := hown.cells (g := g') (rowOf_slice hcp)
    have hr := run_convert_bytes_back (P := P) w src dst e ⟨g', 0, none⟩ cap l hs he hd (fun j hj => by
      refine hc j _ ?_
      simp [bytesV, hj])
    simp only [execOp, ho.eval hx, Sem.run_bind, hr, Result.andThen_ok]
    simp
end

/-! ### Facts on the present world, and how each goes on behind what only makes new memory -/
/-- A slice reads as a list, in the present world. -/
abbrev Rd {α : Type} (s : Shape α) (w : World) (v : Value) (l : List α) : Prop := RdS s w.heap.size w v l
/-- Cells that lie in the present world. -/
def Cel (w : World) (p : Addr) (cs : List Value) : Prop := cellsAt w p cs ∧ p.block < w.heap.size

section
variable {w w' w0 : World}
theorem Rd.up {α : Type} {s : Shape α} {v : Value} {l : List α} (h : Rd s w v l) (hk : Below w.heap.size w w') : Rd s w' v l := (h.below hk).mono hk.size
theorem RdS.up {α : Type} {s : Shape α} {v : Value} {l : List α} (h : RdS s w.heap.size w v l) (hk : Below w.heap.size w w') : RdS s w'.heap.size w' v l := (h.below hk).mono hk.size
theorem Blk.up {b : Nat} {cs : List Value} {t : TypeId} (h : Blk w b cs t) (hk : Below w.heap.size w w') : Blk w' b cs t := h.kept hk
theorem Own.up {base : Nat} {e : TypeId} {size : Nat} {v : Value} {n : Nat} {xs : List Value} (h : Own w base e size v n xs) (hk : Below w.heap.size w w') : Own w' base e size v n xs := h.kept hk
theorem Cel.up {p : Addr} {cs : List Value} (h : Cel w p cs) (hk : Below w.heap.size w w') : Cel w' p cs := ⟨h.1.keep (hk.block _ h.2), Nat.lt_of_lt_of_le h.2 hk.size⟩
theorem up_below {B : Nat} (h : Below B w0 w) (hk : Below w.heap.size w w') (hB : B ≤ w.heap.size) : Below B w0 w' := h.trans (hk.mono hB)
/-- What was there when the call began is as it was. -/
def Old (w0 w : World) : Prop := Below w0.heap.size w0 w
theorem Old.refl (w : World) : Old w w := Below.refl _ _
theorem Old.up (h : Old w0 w) (hk : Below w.heap.size w w') : Old w0 w' := Below.trans h (hk.mono h.size)
theorem Old.size (h : Old w0 w) : w0.heap.size ≤ w.heap.size := Below.size h
/-- An element of a slice that is read, where it lies and what it is. -/
theorem Rd.el {α : Type} {s : Shape α} {v : Value} {l : List α} (h : Rd s w v l) {i : Nat} (hi : i < l.length) : ∃ cs, Cel w (elemA v s.size i) cs ∧ s.rd w.heap.size w cs l[i] := by
  obtain ⟨cs, h1, h2⟩ := h.at (List.getElem?_eq_getElem hi)
  exact ⟨cs, ⟨h1, h.blockA hi⟩, h2⟩
theorem Blk.store_below {b : Nat} {cs' : List Value} {t : TypeId} {B : Nat} (hs : Stored w w' b cs' t) (hB : B ≤ b) (hw : B ≤ w.heap.size) : Below B w w' :=
  below_of_grown hs.grown hw fun k hk => by cases hk; exact hB
end

section
variable {P : Program} {env : Env} {w : World} {ty : TypeId}
theorem Val.loadE {t n : Nat} {x : Operand} {p : Addr} {cs : List Value} (ht : aggT P t = some n) (hx : evO env x = some (.pointer (some p))) (hc : Cel w p cs) (hl : cs.length = n) : Val P env w (.load t x) ty (.agg cs.toArray) := Val.loadN ht hx hc.1 hl
theorem Val.loadE1 {t : TypeId} {x : Operand} {p : Addr} {v : Value} (ht : sclT P t = true) (hx : evO env x = some (.pointer (some p))) (hc : Cel w p [v]) : Val P env w (.load t x) ty v := Val.load1 ht hx (by have := hc.1 0 v rfl; rwa [add_zero] at this)
/-- A field of an element. -/
theorem Val.loadEf {t : TypeId} {x : Operand} {p : Addr} {cs : List Value} {i : Nat} {v : Value} (ht : sclT P t = true) (hx : evO env x = some (.pointer (some (p.add i)))) (hc : Cel w p cs) (hv : cs[i]? = some v) : Val P env w (.load t x) ty v := Val.load1 ht hx (hc.1 i v hv)
end

/-! ### Facts below a fixed block number B, while the call's own rows from B on are written -/
/-- A block known whole, below B. -/
def BlkB (B : Nat) (w : World) (b : Nat) (cs : List Value) (t : TypeId) : Prop := b < B ∧ Blk w b cs t
/-- Cells that lie below B. -/
def CelB (B : Nat) (w : World) (p : Addr) (cs : List Value) : Prop := cellsAt w p cs ∧ p.block < B
/-- What was there when the call began is as it was, and lies below B. -/
def OldB (B : Nat) (w0 w : World) : Prop := Below w0.heap.size w0 w ∧ w0.heap.size ≤ B
section
variable {w w' w0 : World} {B : Nat}
theorem _root_.Go.RowKit.Below.upB (h : Below B w0 w) (hk : Below B w w') : Below B w0 w' := h.trans hk
theorem RdS.upB {α : Type} {s : Shape α} {v : Value} {l : List α} (h : RdS s B w v l) (hk : Below B w w') : RdS s B w' v l := h.below hk
theorem BlkB.upB {b : Nat} {cs : List Value} {t : TypeId} (h : BlkB B w b cs t) (hk : Below B w w') : BlkB B w' b cs t := ⟨h.1, h.2.keep hk h.1⟩
theorem CelB.upB {p : Addr} {cs : List Value} (h : CelB B w p cs) (hk : Below B w w') : CelB B w' p cs := ⟨h.1.keep (hk.block _ h.2), h.2⟩
theorem OldB.upB (h : OldB B w0 w) (hk : Below B w w') : OldB B w0 w' := ⟨Below.trans h.1 (hk.mono h.2), h.2⟩
theorem Blk.fix {b : Nat} {cs : List Value} {t : TypeId} (h : Blk w b cs t) : BlkB w.heap.size w b cs t := ⟨h.lt, h⟩
theorem Cel.fix {p : Addr} {cs : List Value} (h : Cel w p cs) : CelB w.heap.size w p cs := h
theorem Old.fix (h : Old w0 w) : OldB w.heap.size w0 w := ⟨h, h.size⟩
theorem RdS.fix {α : Type} {s : Shape α} {v : Value} {l : List α} (h : RdS s w.heap.size w v l) : RdS s w.heap.size w v l := h
theorem RdS.elB {α : Type} {s : Shape α} {v : Value} {l : List α} (h : RdS s B w v l) {i : Nat} (hi : i < l.length) : ∃ cs, CelB B w (elemA v s.size i) cs ∧ s.rd B w cs l[i] := by
  obtain ⟨cs, h1, h2⟩ := h.at (List.getElem?_eq_getElem hi)
  exact ⟨cs, ⟨h1, h.blockA hi⟩, h2⟩
theorem CelB.toCel {p : Addr} {cs : List Value} (h : CelB B w p cs) (hB : B ≤ w.heap.size) : Cel w p cs := ⟨h.1, Nat.lt_of_lt_of_le h.2 hB⟩
theorem App.belowB {base : Nat} {e : TypeId} {size : Nat} {v v' : Value} {n n' : Nat} {xs xs' : List Value} (h : App w w' base e size v v' n xs) (ho : Own w base e size v n' xs') (hs : base ≤ w.heap.size) : Below base w w' := h.below ho (Nat.le_refl _) hs
end
theorem one_of_ints (l : List Int) : ∀ y ∈ l.map I, y.oneCell' = true := fun y hy => by obtain ⟨b, _, rfl⟩ := List.mem_map.1 hy; rfl
theorem maxLen_eq : maxLen = 9223372036854775807 := by simp [maxLen]

/-- What holds of each element of plain data that is read. -/
theorem RdS.okFlat {α : Type} {n : Nat} {enc : α → List Value} {ok : α → Prop} {h0 : ∀ x, (enc x).length = n} {h1 : ∀ x, ∀ u ∈ enc x, u.oneCell' = true} {B : Nat} {w : World} {v : Value} {l : List α} (h : RdS (Shape.flat n enc ok h0 h1) B w v l) : ∀ x ∈ l, ok x := by
  intro x hx
  obtain ⟨i, hi, rfl⟩ := List.mem_iff_getElem.1 hx
  obtain ⟨cs, _, h2⟩ := h.at (List.getElem?_eq_getElem hi)
  exact h2.2
theorem Own.rdInts {w : World} {base : Nat} {e : TypeId} {v : Value} {l : List Int} (h : Own w base e 1 v l.length (l.flatMap fun x => [I x])) (hok : ∀ x ∈ l, Int64 x) (hsm : l.length ≤ 140737488355328) : RdS intS w.heap.size w v l := Own.rdFlat hsm h hok
theorem Own.rdStrs {w : World} {base : Nat} {e : TypeId} {v : Value} {l : List (List UInt8)} (h : Own w base e 1 v l.length (l.flatMap fun x => [St x])) (hok : ∀ x ∈ l, x.length ≤ 140737488355328) (hsm : l.length ≤ 140737488355328) : RdS strS w.heap.size w v l := Own.rdFlat hsm h hok

/-! ### Results that lie in cells -/
def resOf (P : Program) (a : Act) : ResultVar → Sem Value
  | .tmp t => pure (a.tmps.getD t undef)
  | .cell x t => do loadVar t (← asAddr (a.tmps.getD x undef))
def RVal (c : Cx) (env : Env) (w : World) (r : ResultVar) (v : Value) : Prop := ∀ a, EnvOk c.n env a → (resOf c.P a r).run c.P w = .ok v w
section
variable {c : Cx} {env : Env} {w : World} {B : List (Nat × Kont)} {N : Kont}
theorem RVal.tmp {t : Nat} {v : Value} (h : look env t = some v) : RVal c env w (.tmp t) v := fun a ho => by simp [resOf, getD_env ho h]
theorem RVal.cellN {x t n b : Nat} {cs : List Value} {T : TypeId} (ht : aggT c.P t = some n) (h : look env x = some (.pointer (some ⟨b, 0, none⟩))) (hb : Blk w b cs T) (hl : cs.length = n) : RVal c env w (.cell x t) (.agg cs.toArray) := fun a ho => by
  obtain ⟨h1, i, hi, hs⟩ := run_isAgg_agg (w := w) ht
  have h2 := run_loadCells_list (P := c.P) (w := w) ⟨b, 0, none⟩ cs hb.cellsAt
  simp only [resOf, getD_env ho h, asAddr, Sem.run_bind, Sem.run_pure, Result.andThen_ok, loadVar, h1, if_true]
  simp [sizeOf, typeInfo, hi, hs, ← hl, h2]
theorem RVal.cell1 {x t b i : Nat} {cs : List Value} {T : TypeId} {v : Value} (ht : sclT c.P t = true) (h : look env x = some (.pointer (some ⟨b, i, none⟩))) (hb : Blk w b cs T) (hv : cs[i]? = some v) : RVal c env w (.cell x t) v := fun a ho => by
  simp only [resOf, getD_env ho h, asAddr, Sem.run_bind, Sem.run_pure, Result.andThen_ok, loadVar, run_isAgg_scl ht]
  simp [hb.cell, hv]
theorem results_eq (P : Program) (fn : Func) (a : Act) : results fn a.tmps = (do let vs ← fn.results.mapM (resOf P a); pure (if h : vs.size = 1 then vs[0] else .tuple vs)) := by
  have e : (fun (r : ResultVar) => (match r with | .tmp t => pure (a.tmps.getD t undef) | .cell x t => do loadVar t (← asAddr (a.tmps.getD x undef)) : Sem Value)) = resOf P a := by funext r; cases r <;> rfl
  unfold results
  rw [← e]
  rfl
theorem WC.retR1 {r : ResultVar} {v : Value} (hr : c.res = #[r]) (h : RVal c env w r v) (hS : c.S v w) (hm : lookM env = some (.tuple #[]) := by rfl) : WC c B .ret env w N := fun a ho =>
  wpIn_ret ⟨w, takes_none ho hm, v, fun fn hfn => by rw [results_eq c.P, hfn, hr]; simp [h a ho], hS⟩
theorem WC.retR2 {r1 r2 : ResultVar} {v1 v2 : Value} (hr : c.res = #[r1, r2]) (h1 : RVal c env w r1 v1) (h2 : RVal c env w r2 v2) (hS : c.S (.tuple #[v1, v2]) w) (hm : lookM env = some (.tuple #[]) := by rfl) : WC c B .ret env w N := fun a ho =>
  wpIn_ret ⟨w, takes_none ho hm, .tuple #[v1, v2], fun fn hfn => by rw [results_eq c.P, hfn, hr]; simp [h1 a ho, h2 a ho], hS⟩
theorem WC.retR3 {r1 r2 r3 : ResultVar} {v1 v2 v3 : Value} (hr : c.res = #[r1, r2, r3]) (h1 : RVal c env w r1 v1) (h2 : RVal c env w r2 v2) (h3 : RVal c env w r3 v3) (hS : c.S (.tuple #[v1, v2, v3]) w) (hm : lookM env = some (.tuple #[]) := by rfl) : WC c B .ret env w N := fun a ho =>
  wpIn_ret ⟨w, takes_none ho hm, .tuple #[v1, v2, v3], fun fn hfn => by rw [results_eq c.P, hfn, hr]; simp [h1 a ho, h2 a ho, h3 a ho], hS⟩
end
/-- &l[i] where the slice is a new block. -/
theorem Val.indexLit {P : Program} {env : Env} {w : World} {ty : TypeId} {x y : Operand} {t e : TypeId} {sz by_ : Nat} {z : List Value} {k : IntKind} {i : Int} {b n c : Nat} (ht : slT P t = some (e, sz, by_, z)) (hx : evO env x = some (.slice (some ⟨b, 0, none⟩) n c)) (hy : evO env y = some (.int k i))
    (h0 : 0 ≤ i) (h1 : i < n) : Val P env w (.indexAddr t x y) ty (.pointer (some ⟨b, i.toNat * sz, none⟩)) := fun _ a ho d pos after g => by
  simp [execOp, ho.eval hx, ho.eval hy, run_indexAt ht h0 h1, add_lit]
end Go.Eng
