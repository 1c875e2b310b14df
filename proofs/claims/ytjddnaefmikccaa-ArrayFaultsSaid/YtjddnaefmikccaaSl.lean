/- Parts of slices; arrays; comparing strings; min, max; copies. No condition. -/
import Derived.Test.YtjddnaefmikccaaRange
set_option linter.unusedSimpArgs false
set_option linter.unusedVariables false
namespace Go.Eng
open Go Go.RowKit

/-! ### Parts of slices -/
/-- l[lo:hi], as a value. -/
def subV (v : Value) (lo hi sz : Nat) : Value := match v with
  | .slice A _ c => .slice (if c = lo then A else A.map (·.add (lo * sz))) (hi - lo) (c - lo)
  | u => u
section
variable {P : Program} {env : Env} {w : World} {ty : TypeId} {t e : TypeId} {sz by_ : Nat} {z : List Value}
theorem run_part {A : Option Addr} {n c : Nat} {lo hi : Option Value} {l h : Nat} (ht : slT P t = some (e, sz, by_, z)) (hb : (Instr.sliceBounds true n c lo hi none).run P w = .ok (l, h, c) w) :
    (Instr.slice t (.slice A n c) lo hi none).run P w = .ok (subV (.slice A n c) l h sz) w := by
  obtain ⟨hu, inf, zv, hi', hs, _⟩ := slT_spec ht
  subst hs
  simp [Instr.slice, run_underlying hu, hb, sizeOf, typeInfo, hi', subV]
theorem Val.partFrom {x y : Operand} {A : Option Addr} {n c : Nat} {k : IntKind} {i : Int} (ht : slT P t = some (e, sz, by_, z)) (hx : evO env x = some (.slice A n c)) (hy : evO env y = some (.int k i)) (h0 : 0 ≤ i) (h1 : i ≤ n) :
    Val P env w (.slice t x (some y) none none) ty (subV (.slice A n c) i.toNat n sz) := fun _ a ho d pos after g => by
  obtain ⟨m, rfl⟩ := Int.eq_ofNat_of_zero_le h0
  have h2 : m ≤ n := by omega
  have := run_part (P := P) (w := w) (A := A) (n := n) (c := c) (lo := some (.int k m)) (hi := none) (l := m) (h := n) ht (by simp [Instr.sliceBounds, Instr.sliceBound, asIntOf, h2])
  simp only [execOp, Instr.sliceAt, ho.eval hx, ho.eval hy, Option.map_some, Option.map_none, Sem.run_bind]
  simp [run_underlying (slT_spec ht).1, this]
theorem Val.partTo {x y : Operand} {A : Option Addr} {n c : Nat} {k : IntKind} {i : Int} (ht : slT P t = some (e, sz, by_, z)) (hx : evO env x = some (.slice A n c)) (hy : evO env y = some (.int k i)) (h0 : 0 ≤ i) (h1 : i ≤ c) :
    Val P env w (.slice t x none (some y) none) ty (subV (.slice A n c) 0 i.toNat sz) := fun _ a ho d pos after g => by
  obtain ⟨m, rfl⟩ := Int.eq_ofNat_of_zero_le h0
  have h2 : m ≤ c := by omega
  have := run_part (P := P) (w := w) (A := A) (n := n) (c := c) (lo := none) (hi := some (.int k m)) (l := 0) (h := m) ht (by simp [Instr.sliceBounds, Instr.sliceBound, asIntOf, h2])
  simp only [execOp, Instr.sliceAt, ho.eval hx, ho.eval hy, Option.map_some, Option.map_none, Sem.run_bind]
  simp [run_underlying (slT_spec ht).1, this]
theorem Val.part {x y y2 : Operand} {A : Option Addr} {n c : Nat} {k k2 : IntKind} {i j : Int} (ht : slT P t = some (e, sz, by_, z)) (hx : evO env x = some (.slice A n c)) (hy : evO env y = some (.int k i)) (hy2 : evO env y2 = some (.int k2 j)) (h0 : 0 ≤ i) (h1 : i ≤ j) (h2 : j ≤ c) :
    Val P env w (.slice t x (some y) (some y2) none) ty (subV (.slice A n c) i.toNat j.toNat sz) := fun _ a ho d pos after g => by
  obtain ⟨m, rfl⟩ := Int.eq_ofNat_of_zero_le h0
  obtain ⟨q, rfl⟩ := Int.eq_ofNat_of_zero_le (show 0 ≤ j by omega)
  have h3 : m ≤ q := by omega
  have h4 : q ≤ c := by omega
  have := run_part (P := P) (w := w) (A := A) (n := n) (c := c) (lo := some (.int k m)) (hi := some (.int k2 q)) (l := m) (h := q) ht (by simp [Instr.sliceBounds, Instr.sliceBound, asIntOf, h3, h4])
  simp only [execOp, Instr.sliceAt, ho.eval hx, ho.eval hy, ho.eval hy2, Option.map_some, Option.map_none, Sem.run_bind]
  simp [run_underlying (slT_spec ht).1, this]
end
section
variable {α : Type} {s : Shape α} {B : Nat} {w : World} {v : Value} {l : List α}
theorem RdS.part (h : RdS s B w v l) {lo hi : Nat} (h1 : lo ≤ hi) (h2 : hi ≤ l.length) : RdS s B w (subV v lo hi s.size) ((l.drop lo).take (hi - lo)) := by
  obtain ⟨A, c, rfl, hc, hm, hb⟩ := h.form
  have hlen : ((l.drop lo).take (hi - lo)).length = hi - lo := by simp; omega
  refine ⟨⟨_, c - lo, by rw [hlen]; rfl, by rw [hlen]; omega, by omega, fun a ha h0 => ?_⟩, fun i x hi' => ?_, fun h0 => ?_, by have := h.small; omega⟩
  · rw [hlen] at h0
    rw [if_neg (by omega)] at ha
    cases A with
    | none => simp at ha
    | some a0 =>
      simp at ha
      subst ha
      rw [add_block]
      exact hb a0 rfl (by omega)
  · have hil : i < hi - lo := by
      rcases Nat.lt_or_ge i (hi - lo) with h' | h'
      · exact h'
      · rw [List.getElem?_eq_none (by rw [hlen]; exact h')] at hi'; cases hi'
    rw [List.getElem?_take, if_pos hil, List.getElem?_drop] at hi'
    obtain ⟨cs, h3, h4⟩ := h.elem _ _ hi'
    obtain ⟨a0, c', he⟩ := h.addr (by omega)
    injection he with he _ _
    subst he
    refine ⟨cs, ?_, h4⟩
    simp only [subV, if_neg (show ¬ c = lo by omega), Option.map_some, elemA, add_add] at h3 ⊢
    rw [Nat.add_mul] at h3
    exact h3
  · rw [hlen] at h0
    obtain ⟨a0, c', he⟩ := h.addr (by omega)
    injection he with he _ _
    subst he
    exact ⟨a0.add (lo * s.size), c - lo, by rw [hlen]; simp [subV, if_neg (show ¬ c = lo by omega)]⟩
theorem RdS.from_ (h : RdS s B w v l) {lo : Nat} (h2 : lo ≤ l.length) : RdS s B w (subV v lo l.length s.size) (l.drop lo) := by
  have := h.part (lo := lo) (hi := l.length) h2 (Nat.le_refl _)
  rwa [List.take_of_length_le (by simp)] at this
theorem RdS.to_ (h : RdS s B w v l) {hi : Nat} (h2 : hi ≤ l.length) : RdS s B w (subV v 0 hi s.size) (l.take hi) := by
  have := h.part (lo := 0) (hi := hi) (Nat.zero_le _) h2
  simpa using this
theorem Src.flat {P : Program} {n : Nat} {enc : α → List Value} {ok : α → Prop} {h0 : ∀ x, (enc x).length = n} {h1 : ∀ x, ∀ u ∈ enc x, u.oneCell' = true} {u e' : TypeId} (hu : P.underlying u = some (.slice e')) (h : RdS (Shape.flat n enc ok h0 h1) B w v l) : Src P w u n v l.length (l.flatMap enc) := by
  rw [List.flatMap_def]
  exact Src.rd (s := Shape.flat n enc ok h0 h1) hu h (by simp) fun i cs hi => by
    rw [List.getElem?_map, Option.map_eq_some_iff] at hi
    obtain ⟨x, hx, rfl⟩ := hi
    obtain ⟨cs, h2, h3, _⟩ := h.elem i x hx
    subst h3
    exact ⟨h0 x, h1 x, h2⟩
end

/-! ### Strings in order -/
section
variable {P : Program} {env : Env} {w : World} {ty t ty2 : TypeId} {x y : Operand} {l r : List UInt8} (hx : evO env x = some (St l)) (hy : evO env y = some (St r))
include hx hy
theorem Val.slss : Val P env w (.binOp .lss t x y ty2) ty (.bool (Op.bytesLess l r)) := fun _ a ho d pos after g => by simp [execOp, ho.eval hx, ho.eval hy, eqGuard, binOp, Op.stringOp, toList_mk]
theorem Val.sleq : Val P env w (.binOp .leq t x y ty2) ty (.bool (Op.bytesLess l r || (l == r))) := fun _ a ho d pos after g => by simp [execOp, ho.eval hx, ho.eval hy, eqGuard, binOp, Op.stringOp, toList_mk]
theorem Val.sgtr : Val P env w (.binOp .gtr t x y ty2) ty (.bool (!(Op.bytesLess l r || (l == r)))) := fun _ a ho d pos after g => by simp [execOp, ho.eval hx, ho.eval hy, eqGuard, binOp, Op.stringOp, toList_mk]
theorem Val.sgeq : Val P env w (.binOp .geq t x y ty2) ty (.bool (!Op.bytesLess l r)) := fun _ a ho d pos after g => by simp [execOp, ho.eval hx, ho.eval hy, eqGuard, binOp, Op.stringOp, toList_mk]
end
end Go.Eng
