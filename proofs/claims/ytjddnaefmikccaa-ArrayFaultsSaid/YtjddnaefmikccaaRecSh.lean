/- Records as they lie in memory. No condition. -/
import Derived.Test.YtjddnaefmikccaaDraw
import Derived.Test.YtjddnaefmikccaaRecSpec
set_option linter.unusedSimpArgs false
set_option linter.unusedVariables false
namespace Silo
open Go Go.Eng Go.RowKit

structure Rec where
  kind : Int
  id : Int
  name : List UInt8
  digest : List UInt8
  list : List Int
  slots : List (Int × Int)
  deriving DecidableEq

def slotS : Shape (Int × Int) := Shape.flat 2 (fun p => [I p.1, I p.2]) (fun p => Go.Eng.Int64 p.1 ∧ Go.Eng.Int64 p.2) (fun _ => rfl) (fun _ u hu => by simp at hu; rcases hu with rfl | rfl <;> rfl)

def recS : Shape Rec where
  size := 6
  rd := fun B w cs r => ∃ vl vs, cs = [I r.kind, I r.id, St r.name, St r.digest, vl, vs] ∧ RdS intS B w vl r.list ∧ RdS slotS B w vs r.slots ∧ Go.Eng.Int64 r.kind ∧ Go.Eng.Int64 r.id ∧ r.name.length ≤ 140737488355328 ∧ r.digest.length ≤ 140737488355328
  len := fun ⟨_, _, h, _⟩ => by rw [h]; rfl
  keep := fun hk ⟨vl, vs, h, h1, h2, h3⟩ => ⟨vl, vs, h, h1.keep hk, h2.keep hk, h3⟩
  mono := fun hB ⟨vl, vs, h, h1, h2, h3⟩ => ⟨vl, vs, h, h1.mono hB, h2.mono hB, h3⟩
  one := fun ⟨vl, vs, h, h1, h2, _⟩ u hu => by
    obtain ⟨A, c, rfl, _⟩ := h1.form
    obtain ⟨A', c', rfl, _⟩ := h2.form
    subst h
    simp at hu
    rcases hu with rfl | rfl | rfl | rfl | rfl | rfl <;> rfl

/-- A record as a struct's cells, in the present world. -/
def RdRec (w : World) (cs : List Value) (r : Rec) : Prop := recS.rd w.heap.size w cs r
theorem RdRec.up {w w' : World} {cs : List Value} {r : Rec} (h : RdRec w cs r) (hk : Below w.heap.size w w') : RdRec w' cs r := recS.mono hk.size (recS.keep hk.block h)

/-- How much records are. -/
def recW (r : Rec) : Nat := r.name.length + r.digest.length + r.list.length + r.slots.length
def recsW (l : List Rec) : Nat := l.length + (l.map recW).sum
def textsW (l : List (List UInt8)) : Nat := l.length + (l.map List.length).sum
theorem sum_take_succ {α : Type} (f : α → Nat) {l : List α} {k : Nat} (h : k < l.length) : ((l.take (k + 1)).map f).sum = ((l.take k).map f).sum + f l[k] := by
  rw [List.take_succ_eq_append_getElem h, List.map_append]; simp
theorem sum_mem_le {α : Type} (f : α → Nat) {l : List α} {x : α} (h : x ∈ l) : f x ≤ (l.map f).sum := by
  induction l with
  | nil => simp at h
  | cons y r ih =>
    simp only [List.map_cons, List.sum_cons]
    rcases List.mem_cons.1 h with rfl | h
    · omega
    · have := ih h; omega

/-- A sum that stops where it is great. -/
def stopSum (n : Nat) : List Nat → Nat
  | [] => n
  | x :: r => if n < 1048576 then stopSum (n + x) r else n
theorem stopSum_ge {n : Nat} (h : ¬ n < 1048576) : ∀ l : List Nat, stopSum n l = n
  | [] => rfl
  | x :: r => by simp [stopSum, h]
theorem stopSum_small : ∀ (l : List Nat) (n : Nat), stopSum n l < 1048576 → stopSum n l = n + l.sum
  | [], n, _ => by simp [stopSum]
  | x :: r, n, h => by
    unfold stopSum at h ⊢
    split
    · rename_i hn; rw [if_pos hn] at h; rw [stopSum_small r _ h]; simp; omega
    · rename_i hn; rw [if_neg hn] at h; omega
theorem stopSum_step {α : Type} (f : α → Nat) {l : List α} {k n : Nat} (hk : k < l.length) (hn : n < 1048576) : stopSum n ((l.drop k).map f) = stopSum (n + f l[k]) ((l.drop (k + 1)).map f) := by
  rw [List.drop_eq_getElem_cons hk]
  simp only [List.map_cons, stopSum, if_pos hn]

/-- A number brought within bounds. -/
def within (i n : Int) : Int := (i % 18446744073709551616) % n
theorem within_lo (i n : Int) (h : 0 < n) : 0 ≤ within i n := Int.emod_nonneg _ (by omega)
theorem within_hi (i n : Int) (h : 0 < n) : within i n < n := Int.emod_lt_of_pos _ h

/-- Which fields a kind names: i ID, n Name, d Digest, l List, s Slots. -/
def fieldsB (k : Int) : List UInt8 :=
  if k = 1 then [105, 115] else if k = 2 then [105, 108, 115] else if k = 3 then [105] else if k = 4 then [105, 100, 108] else if k = 5 then [105, 100, 108]
  else if k = 6 then [100] else if k = 7 then [110, 100] else if k = 8 then [110] else []
def hasB (k : Int) (c : Int) : Bool := (fieldsB k).any fun b => decide ((b.toNat : Int) = c)
theorem fieldsB_ascii (k : Int) : ∀ c ∈ fieldsB k, c.toNat < 128 := by
  intro c hc
  unfold fieldsB at hc
  repeat' split at hc
  all_goals (simp at hc; try rcases hc with rfl | rfl | rfl) <;> first | decide | (rcases hc with rfl | rfl <;> decide) | (subst hc; decide)
theorem rdSlots {w : World} {base : Nat} {e : TypeId} {v : Value} {l : List (Int × Int)} (h : Own w base e 2 v l.length (l.flatMap fun x => [I x.1, I x.2])) (hok : ∀ x ∈ l, Go.Eng.Int64 x.1 ∧ Go.Eng.Int64 x.2) (hsm : l.length ≤ 140737488355328) : RdS slotS w.heap.size w v l := Own.rdFlat hsm h hok
end Silo
