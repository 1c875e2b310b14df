/- More operations. No condition. -/
import Derived.Test.YtjddnaefmikccaaDraw
import Derived.Laws.Tables
import Derived.KernelRfl
set_option linter.unusedSimpArgs false
set_option linter.unusedVariables false
namespace Go.Eng
open Go Go.RowKit
theorem Val.build {P : Program} {env : Env} {w : World} {ty t : TypeId} {parts : Array (Nat × Operand)} {vs : List Value} {cells : Array Value} (hx : evL env (parts.toList.map (·.2)) = some vs)
    (hb : P.built t ((parts.toList.map (·.1)).zip vs) = some cells) : Val P env w (.build t parts) ty (.agg cells) := fun _ a ho d pos after g => by
  have hv := ho.evalL hx
  have hp : (parts.map fun (i, x) => (i, a.eval x)).toList = (parts.toList.map (·.1)).zip vs := by
    rw [← hv]
    simp only [Array.toList_map, List.map_map]
    generalize parts.toList = l
    induction l with
    | nil => rfl
    | cons p r ih => simp only [List.map_cons, List.zip_cons_cons, ih]; rfl
  have := run_build (P := P) w t (parts.map fun (i, x) => (i, a.eval x)) cells (by rw [hp]; exact hb)
  simp only [execOp, Sem.run_bind, this, Result.andThen_ok, Sem.run_pure]
/-- All that stood stays but the row r; the row is now r'. -/
structure Kept (w w' : World) (r r' : Option Nat) : Prop where
  grown : w.grownBy w' r
  at_ : r' = r ∨ ∃ k, r' = some k ∧ w.heap.size ≤ k
theorem Kept.refl (w : World) (r : Option Nat) : Kept w w r r := ⟨grown_refl w r, .inl rfl⟩
theorem grown_trans {w w1 w2 : World} {r r1 : Option Nat} (h1 : w.grownBy w1 r) (ha : r1 = r ∨ ∃ k, r1 = some k ∧ w.heap.size ≤ k) (h2 : w1.grownBy w2 r1) : w.grownBy w2 r :=
  ⟨h2.os.trans h1.os, h2.tape.trans h1.tape, h2.output.trans h1.output, Nat.le_trans h1.size h2.size, fun k hk hne => by
    rw [h2.block k (Nat.lt_of_lt_of_le hk h1.size) ?_, h1.block k hk hne]
    rcases ha with rfl | ⟨j, rfl, hj⟩
    · exact hne
    · intro e; injection e with e; omega⟩
theorem Kept.trans {w w1 w2 : World} {r r1 r2 : Option Nat} (h1 : Kept w w1 r r1) (h2 : Kept w1 w2 r1 r2) : Kept w w2 r r2 :=
  ⟨grown_trans h1.grown h1.at_ h2.grown, by
    rcases h2.at_ with rfl | ⟨k, rfl, hk⟩
    · exact h1.at_
    · exact .inr ⟨k, rfl, Nat.le_trans h1.grown.size hk⟩⟩
theorem Kept.up {w w1 w2 : World} {r r1 : Option Nat} (h1 : Kept w w1 r r1) (hk : Below w1.heap.size w1 w2) : Kept w w2 r r1 := ⟨grown_trans h1.grown h1.at_ (grown_of_below hk _), h1.at_⟩
theorem App.keptR {w w' : World} {base : Nat} {e : TypeId} {size : Nat} {v v' : Value} {n : Nat} {xs : List Value} (h : App w w' base e size v v' n xs) : Kept w w' v.rowOf v'.rowOf :=
  ⟨h.grown, h.at_.imp id fun e => ⟨_, e, Nat.le_refl _⟩⟩
theorem Kept.below {w w' : World} {base : Nat} {e : TypeId} {size : Nat} {v : Value} {r' : Option Nat} {n : Nat} {xs : List Value} (h : Kept w w' v.rowOf r') (ho : Own w base e size v n xs) {B : Nat} (hB : B ≤ base) (hw : B ≤ w.heap.size) : Below B w w' :=
  below_of_grown h.grown hw fun k hk => Nat.le_trans hB (ho.lt k hk).1
theorem NewB.own {w w' : World} {base b n size : Nat} {cs : List Value} {t : TypeId} (h : NewB w w' b cs t) (hB : base ≤ w.heap.size) (hl : cs.length = n * size) (hm : n ≤ 9223372036854775807) : Own w' base t size (.slice (some ⟨b, 0, none⟩) n n) n cs :=
  ⟨hl, ownIn ⟨b, n, cs.toArray, (0, 0), rfl, by have := h.at_; omega, h.blk, fun h => by simp at h, Nat.le_refl _, by rw [maxLen_eq]; exact hm, by simp [hl], by simp [← hl]⟩⟩
theorem bytesV_flat (l : List UInt8) : bytesV l = l.flatMap fun b => [Value.int .u8 b.toNat] := by
  induction l with
  | nil => rfl
  | cons b r ih => rw [List.flatMap_cons, ← ih]; rfl
theorem Own.bytesLen {w : World} {base : Nat} {e : TypeId} {v : Value} {n : Nat} {l : List UInt8} (h : Own w base e 1 v n (bytesV l)) : n = l.length := by
  have := h.1; simp [bytesV] at this; exact this.symm
theorem Own.rdBytes {w : World} {base : Nat} {e : TypeId} {v : Value} {n : Nat} {l : List UInt8} (h : Own w base e 1 v n (bytesV l)) (hl : l.length ≤ 140737488355328) : Rd byteS w v l := by
  have := h.bytesLen; subst this
  rw [bytesV_flat] at h
  exact Own.rdFlat hl h (fun _ _ => trivial)
theorem bytesV_set (l : List UInt8) (i : Nat) (b : UInt8) : (bytesV l).set i (.int .u8 b.toNat) = bytesV (l.set i b) := by simp [bytesV, List.map_set]
theorem bytesV_zero (n : Nat) : (List.replicate n [Value.int .u8 0]).flatten = bytesV (List.replicate n 0) := by
  induction n with
  | zero => rfl
  | succ n ih => rw [List.replicate_succ, List.flatten_cons, ih, List.replicate_succ]; rfl
end Go.Eng
