/- More operations: appending zero values, cap, slices as slices. No condition. -/
import Derived.Test.YtjddnaefmikccaaArr
import Derived.Lib.AppendZerosOnto
set_option linter.unusedSimpArgs false
set_option linter.unusedVariables false
namespace Go.Eng
open Go Go.RowKit Go.Lib
/-- append of so many zero values onto the nil slice. -/
theorem Eff.appendZeros0 {P : Program} {env : Env} {w : World} {ty : TypeId} {s x : Operand} {t tn e : TypeId} {size by_ : Nat} {z : List Value} {kq kn : IntKind} {k : Int} (ht : slT P t = some (e, size, by_, z)) (htn : P.underlying tn = some (.int kn)) (hs : evO env s = some (.slice none 0 0)) (hx : evO env x = some (.int kq k)) (h0 : 0 < k) (hsz : 0 < size)
    (hm : k ≤ 1048576) (hby : 1048576 * by_ ≤ 140737488355328) :
    Eff P env w (.call ⟨.builtin .append, #[s, x], #[t, tn]⟩) ty (fun v w' => ∃ G, v = .slice (some ⟨w.heap.size, 0, none⟩) k.toNat G ∧ k ≤ (G : Int) ∧ Own w' w.heap.size e size (.slice (some ⟨w.heap.size, 0, none⟩) 0 G) 0 [] ∧ Below w.heap.size w w') :=
  Eff.of_run fun _ a ho d pos after g => by
    obtain ⟨m, rfl⟩ := Int.eq_ofNat_of_zero_le (Int.le_of_lt h0)
    have hm0 : 0 < m := by omega
    obtain ⟨hu, inf, zv, hi, hss, hb', hz', hc, hl⟩ := slT_spec ht
    subst hss hb'
    have hmm : m * inf.bytes ≤ 1048576 * inf.bytes := Nat.mul_le_mul_right _ (by omega)
    have hr := Lib.run_append_grow_zeros (P := P) w t tn ty e inf zv kq kn hu htn hi hz' none 0 0 [] (run_firstCells_none w.drew inf.size 0 0 0) m hm0 hsz (by omega) (by omega) (by omega) (growslice_fits (by omega) (by rw [Nat.zero_add]; omega))
    simp only [Nat.zero_add] at hr
    have hge := grownCap_ge w m 0 e
    have hle := grownCap_le_maxLen w m 0 e (by unfold maxLen; omega)
    refine ⟨_, _, by simp only [execOp, resolve, invoke, builtin, List.map_toArray, List.map_cons, List.map_nil, ho.eval hs, ho.eval hx, hr, Sem.run_bind, Result.andThen_ok, Sem.run_pure]; rfl, grownCap w m 0 e, rfl, by omega, ⟨by simp, ownIn ⟨w.heap.size, _, _, (0, 0), rfl, Nat.le_refl _, heap_alloc_new w.drew _, fun h => by simp at h, Nat.zero_le _, hle, ?_, by simp⟩⟩, (Below.refl _ _).drew.alloc (Nat.le_refl _) _⟩
    have hzs : zv.cells.size = inf.size := by rw [hc]; simpa using hl
    simp only [Array.size_append, List.size_toArray, size_zeroCells, hzs, List.length_nil, Nat.zero_add, ← Nat.add_mul]
    congr 1
    omega
section
variable {P : Program} {env : Env} {w : World} {ty : TypeId}
theorem Val.slcap {x : Operand} {A : Option Addr} {n c : Nat} {t e : TypeId} (ht : P.underlying t = some (.slice e)) (hx : evO env x = some (.slice A n c)) : Val P env w (.call ⟨.builtin .cap, #[x], #[t]⟩) ty (I c) := fun _ a ho d pos after g => by
  simp [execOp, resolve, invoke, builtin, Builtin.cap_, ho.eval hx, run_underlying ht, goInt]
/-- []byte of a constant: the row is marked, behind its last cell. -/
theorem Eff.convBytesC {x : Operand} {c : Nat → Nat} {i b n : Nat} {cs : List Value} {t e : TypeId} (ht : P.underlying t = some (.slice e)) (he : P.underlying e = some (.int .u8)) (hx : evO env x = some (.slice (some ⟨b, 0, none⟩) n n)) (hb : BlkC c w i b cs e) (hl : cs.length = n * 1) (hn : n ≤ 9223372036854775807) :
    Eff P env w (.convert t t x) ty (fun v w' => ∃ c', Mv c w c' w' [i] ∧ v = .slice (some ⟨b, 0, none⟩) n n ∧ OwnC c' w' i e 1 v n cs) :=
  Eff.of_run fun _ a ho d pos after g => by
    have hbk : w.heap[b]? = some (.cells cs.toArray e (0, 0)) := hb.blk
    have hsh : w.shape? b = some (e, cs.toArray.size) := by unfold World.shape?; rw [hbk]
    have hheap : ∀ k : Nat, (w.freeze ⟨b, cs.toArray.size, none⟩ 1).heap[k]? = if k = b then some (.cells cs.toArray e (cs.toArray.size, cs.toArray.size + 1)) else w.heap[k]? := fun k => by
      unfold World.freeze
      rw [if_neg (by decide)]
      simp only [Array.getElem?_modify]
      by_cases hk : b = k
      · subst hk; rw [if_pos rfl, if_pos rfl, hbk]; rfl
      · rw [if_neg hk, if_neg (fun h => hk h.symm)]
    have hsz : (w.freeze ⟨b, cs.toArray.size, none⟩ 1).heap.size = w.heap.size := by unfold World.freeze; rw [if_neg (by decide)]; simp
    have hot : (w.freeze ⟨b, cs.toArray.size, none⟩ 1).os = w.os ∧ (w.freeze ⟨b, cs.toArray.size, none⟩ 1).tape = w.tape ∧ (w.freeze ⟨b, cs.toArray.size, none⟩ 1).output = w.output := by unfold World.freeze; rw [if_neg (by decide)]; exact ⟨rfl, rfl, rfl⟩
    refine ⟨_, w.freeze ⟨b, cs.toArray.size, none⟩ 1, by simp [execOp, convert, ho.eval hx, run_underlying ht, run_underlying he, markStringish, hsh], c, ⟨hot.1, hot.2.1, hot.2.2, Nat.le_of_eq hsz.symm, fun _ _ => rfl, fun k hk hc => ?_⟩, rfl, ⟨⟨hl, ownIn ⟨b, n, cs.toArray, _, rfl, Nat.zero_le _, by rw [hheap, if_pos rfl], fun _ => Nat.le_refl _, Nat.le_refl _, by rw [maxLen_eq]; exact hn, by simpa using hl, by simp [← hl]⟩⟩, fun k hk => ?_⟩⟩
    · rw [hheap, if_neg (fun e' => by subst e'; rw [hb.col] at hc; simp [hasC] at hc)]
    · simp only [Value.rowOf] at hk
      cases hb' : Nat.beq n 0 <;> rw [hb'] at hk <;> simp at hk
      rw [← hk]; exact hb.col
theorem Val.rdlenC {wr : World} {α : Type} {s : Shape α} {c : Nat → Nat} {J : List Nat} {x : Operand} {t e : TypeId} {sz by_ : Nat} {z : List Value} {v : Value} {l : List α} (ht : slT P t = some (e, sz, by_, z)) (hr : RdC s c wr J v l) (hx : evO env x = some v) : Val P env w (.call ⟨.builtin .len, #[x], #[t]⟩) ty (I l.length) :=
  Val.rdlen ht hr.now hx
theorem Val.indexC {wr : World} {α : Type} {s : Shape α} {c : Nat → Nat} {J : List Nat} {x y : Operand} {t e : TypeId} {by_ : Nat} {z : List Value} {k : IntKind} {j : Int} {v : Value} {l : List α} (ht : slT P t = some (e, s.size, by_, z)) (hr : RdC s c wr J v l) (hx : evO env x = some v) (hy : evO env y = some (.int k j))
    (h0 : 0 ≤ j) (h1 : j < l.length) : Val P env w (.indexAddr t x y) ty (.pointer (some (elemA v s.size j.toNat))) := Val.indexAddr ht hr.now rfl hx hy h0 h1
end
theorem Val.bneq {P : Program} {env : Env} {w : World} {ty ty2 t : TypeId} {x y : Operand} {p q : Bool} (ht : P.underlying t = some .bool) (hx : evO env x = some (.bool p)) (hy : evO env y = some (.bool q)) : Val P env w (.binOp .neq t x y ty2) ty (.bool (!(p == q))) := fun _ a ho d pos after g => by
  have h1 := run_equal_bool (P := P) w t p q ht
  cases p <;> cases q <;> simp [execOp, ho.eval hx, ho.eval hy, eqGuard, binOp, h1]
theorem Val.xorU8 {P : Program} {env : Env} {w : World} {ty ty2 t : TypeId} {x y : Operand} {m n : Int} (hx : evO env x = some (.int .u8 m)) (hy : evO env y = some (.int .u8 n)) : Val P env w (.binOp .xor t x y ty2) ty (.int .u8 (u8I (((BitVec.ofInt 8 m) ^^^ (BitVec.ofInt 8 n)).toNat : Int)).toNat) := by
  have := Val.bitop (P := P) (w := w) (ty := ty) (t := t) (ty2 := ty2) (op := .xor) hx hy (.inr (.inr ⟨rfl, rfl⟩))
  rw [wrap_u8I] at this
  exact this
end Go.Eng
namespace Silo
open Go Go.Eng
theorem sne_self (l : List UInt8) : (!(l == l)) = false := by simp
theorem eqc (b : Bool) : (!(b == decide ((if b = true then (0 : Int) else 7) = 0))) = false := by cases b <;> decide
theorem eqd (b : Bool) : (!b && !decide ((if b = true then (0 : Int) else 7) = 7)) = false := by cases b <;> decide
end Silo
