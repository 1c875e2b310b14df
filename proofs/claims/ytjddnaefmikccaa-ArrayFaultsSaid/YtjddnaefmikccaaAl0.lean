/- Pointers compared to nil; bits of numbers; acts as they lie in memory. No condition. -/
import Derived.Test.YtjddnaefmikccaaArRel
import Derived.Laws.Pointers
set_option linter.unusedSimpArgs false
set_option linter.unusedVariables false
set_option maxRecDepth 100000
namespace Go.Eng
open Go Go.RowKit Silo
section
variable {P : Program} {env : Env} {w : World} {ty ty2 t : TypeId} {x y : Operand} {a : Option Addr}
theorem Val.peqnil (ht : P.underlying t = some (.pointer (P.pointee t))) (hx : evO env x = some (.pointer a)) : Val P env w (.binOp .eql t x (.const (.pointer none)) ty2) ty (.bool a.isNone) := fun _ ac ho d pos after g => by
  have h1 := run_equal_pointer_nil (P := P) w t a ht
  have h2 : ac.eval (.const (.pointer none)) = .pointer none := rfl
  simp [execOp, ho.eval hx, eqGuard, binOp, h1, h2]
theorem Val.pnenil (ht : P.underlying t = some (.pointer (P.pointee t))) (hx : evO env x = some (.pointer a)) : Val P env w (.binOp .neq t x (.const (.pointer none)) ty2) ty (.bool (!a.isNone)) := fun _ ac ho d pos after g => by
  have h1 := run_equal_pointer_nil (P := P) w t a ht
  have h2 : ac.eval (.const (.pointer none)) = .pointer none := rfl
  simp [execOp, ho.eval hx, eqGuard, binOp, h1, h2]
theorem Val.and_i64A {m n : Int} (hx : evO env x = some (I m)) (hy : evO env y = some (I n)) : Val P env w (.binOp .and t x y ty2) ty (I (IntKind.i64.wrap ((BitVec.ofInt IntKind.i64.bits m &&& BitVec.ofInt IntKind.i64.bits n).toNat : Int))) :=
  Val.bitop (k := .i64) hx hy (.inr (.inl ⟨rfl, rfl⟩))
end
end Go.Eng
namespace Silo
open Go Go.Eng Go.RowKit
structure Act10 where
  act : Int
  d : Int
  s : Int
  n : Int
  t : Txt
  l : List Int
def Act10.ok (x : Act10) : Prop := (Go.Eng.Int64 x.act ∧ Go.Eng.Int64 x.d ∧ Go.Eng.Int64 x.s ∧ Go.Eng.Int64 x.n) ∧ x.t.length ≤ 140737488355328
def actS : Shape Act10 where
  size := 6
  rd := fun B w cs r => ∃ vl, cs = [I r.act, I r.d, I r.s, I r.n, St r.t, vl] ∧ RdS intS B w vl r.l ∧ r.ok
  len := fun ⟨_, h, _⟩ => by rw [h]; rfl
  keep := fun hk ⟨vl, h, h1, h2⟩ => ⟨vl, h, h1.keep hk, h2⟩
  mono := fun hB ⟨vl, h, h1, h2⟩ => ⟨vl, h, h1.mono hB, h2⟩
  one := fun ⟨vl, h, h1, _⟩ u hu => by
    obtain ⟨A, c, rfl, _⟩ := h1.form
    subst h
    simp at hu
    rcases hu with rfl | rfl | rfl | rfl | rfl | rfl <;> rfl
def actW (x : Act10) : Nat := x.t.length + x.l.length
end Silo
namespace Go.Eng
open Go Go.RowKit Silo
section
variable {c : Nat → Nat} {w : World} {J : List Nat}
theorem DisksX.innJ {v : Value} {X : List DX} {D : List Dsk} (h : DisksX c w v X D) (h1 : hasC J 61 = true := by rfl) (h2 : hasC J 62 = true := by rfl) (h3 : hasC J 63 = true := by rfl) : DisksX (mask c J) w v X D := ⟨h.live, h.own.inn h1, h.rows.inn h2, h.maps.inn h3⟩
theorem ArrC.innJ {p : Nat} {A : Arr} (h : ArrC c w p A) (h0 : hasC J 60 = true := by rfl) (h1 : hasC J 61 = true := by rfl) (h2 : hasC J 62 = true := by rfl) (h3 : hasC J 63 = true := by rfl) : ArrC (mask c J) w p A := by
  obtain ⟨v, X, a, b⟩ := h
  exact ⟨v, X, a.inn h0, b.innJ h1 h2 h3⟩
theorem DisksX.outJ {c0 : Nat → Nat} {w0 : World} {v : Value} {X : List DX} {D : List Dsk} (hb : DisksX c w v X D) (h : OldJ c0 w0 J c w) (h1 : (Nat.blt 0 61 && hasC J 61) = true := by rfl) (h2 : (Nat.blt 0 62 && hasC J 62) = true := by rfl) (h3 : (Nat.blt 0 63 && hasC J 63) = true := by rfl) : DisksX (back c0 w0 c) w v X D := ⟨hb.live, hb.own.out h h1, hb.rows.out h h2, hb.maps.out h h3⟩
theorem ArrC.outJ {c0 : Nat → Nat} {w0 : World} {p : Nat} {A : Arr} (hb : ArrC c w p A) (h : OldJ c0 w0 J c w) (h0 : (Nat.blt 0 60 && hasC J 60) = true := by rfl) (h1 : (Nat.blt 0 61 && hasC J 61) = true := by rfl) (h2 : (Nat.blt 0 62 && hasC J 62) = true := by rfl) (h3 : (Nat.blt 0 63 && hasC J 63) = true := by rfl) : ArrC (back c0 w0 c) w p A := by
  obtain ⟨v, X, a, b⟩ := hb
  exact ⟨v, X, a.out h h0, b.outJ h h1 h2 h3⟩
theorem PgC.innJ {p : Nat} {B : Arr} (h : PgC c w p B) (hj : colP.all (hasC J) = true := by rfl) : PgC (mask c J) w p B := by
  have hk : ∀ i ∈ colP, hasC J i = true := List.all_eq_true.1 hj
  obtain ⟨vL, vD, vC, ds, cs, h⟩ := h
  exact ⟨vL, vD, vC, ds, cs, h.hbp.inn (hk 80 (by simp)), h.live.inn (hk 81 (by simp)), h.disk.inn (hk 82 (by simp)), h.cache.inn (hk 83 (by simp)), h.rd.inn (hk 84 (by simp)), h.rc.inn (hk 85 (by simp))⟩
theorem PgC.outJ {c0 : Nat → Nat} {w0 : World} {p : Nat} {B : Arr} (hb : PgC c w p B) (h : OldJ c0 w0 J c w) (hj : colP.all (hasC J) = true := by rfl) : PgC (back c0 w0 c) w p B := by
  have hk : ∀ i ∈ colP, (Nat.blt 0 i && hasC J i) = true := fun i hi => by
    have h1 := List.all_eq_true.1 hj i hi
    rw [h1]
    simp at hi
    rcases hi with rfl | rfl | rfl | rfl | rfl | rfl <;> rfl
  obtain ⟨vL, vD, vC, ds, cs, hb⟩ := hb
  exact ⟨vL, vD, vC, ds, cs, hb.hbp.out h (hk 80 (by simp)), hb.live.out h (hk 81 (by simp)), hb.disk.out h (hk 82 (by simp)), hb.cache.out h (hk 83 (by simp)), hb.rd.out h (hk 84 (by simp)), hb.rc.out h (hk 85 (by simp))⟩
end
abbrev colAP : List Nat := [60, 61, 62, 63, 80, 81, 82, 83, 84, 85]
end Go.Eng
