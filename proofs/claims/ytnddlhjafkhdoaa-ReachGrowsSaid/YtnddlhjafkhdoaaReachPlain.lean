/- Things and what leads where, in plain Lean. No condition. -/
import Derived.Test.YtnddlhjafkhdoaaManPlain
set_option linter.unusedSimpArgs false
set_option linter.unusedVariables false
namespace Silo
open Go Go.Eng

structure Thg where
  digest : List UInt8
  text : List UInt8
  manifest : Bool
  deriving DecidableEq
abbrev encThg (t : Thg) : List Value := [St t.digest, St t.text, .bool t.manifest]
def thgS : Shape Thg := Shape.flat 3 encThg (fun t => t.digest.length ≤ 140737488355328 ∧ t.text.length ≤ 140737488355328) (fun _ => rfl) (fun _ u hu => by simp [encThg] at hu; rcases hu with rfl | rfl | rfl <;> rfl)

/-- May the i-th thing stand there? -/
def thgAt (l : List Thg) (i : Nat) : Bool := match l[i]? with
  | none => true
  | some t => decide (t.digest.length = 32) && decide (t.text.length ≤ 2000) && (decide (i = 0) || Op.bytesLess ((l[i - 1]?.map Thg.digest).getD []) t.digest) && (!t.manifest || (manTake t.text).isSome)
def thgsMay (l : List Thg) : Bool := decide (l.length ≤ 60) && (List.range l.length).all (thgAt l)
theorem thgsMay_iff {l : List Thg} : thgsMay l = true ↔ l.length ≤ 60 ∧ ∀ i, i < l.length → thgAt l i = true := by simp [thgsMay]
/-- Where the thing of a digest is. -/
def findT (l : List Thg) (d : List UInt8) : Option Nat := l.findIdx? fun t => t.digest == d
/-- What a thing names. -/
def namesT (t : Thg) : List (List UInt8) := if t.manifest then (match manTake t.text with | some m => m.blobs ++ m.subs | none => []) else []
/-- In which order things are come to. -/
def bfs (l : List Thg) : Nat → List (List UInt8) → List Nat → List Nat
  | 0, _, vis => vis
  | _ + 1, [], vis => vis
  | f + 1, d :: todo, vis => match findT l d with
    | none => bfs l f todo vis
    | some i => if i ∈ vis then bfs l f todo vis else bfs l f (todo ++ (match l[i]? with | some t => namesT t | none => [])) (vis ++ [i])
end Silo
