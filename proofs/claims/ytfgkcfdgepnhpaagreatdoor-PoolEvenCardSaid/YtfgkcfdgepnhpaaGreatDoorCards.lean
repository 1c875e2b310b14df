/-
  DERIVED. GIVEN WITH THE SEED: THE CARDS: each row of YtfgkcfdgepnhpaaGreatDoorRows.lean that lists a variable, with what it lists TIED to the program's text (the seventh form; the later family's looks); each row that meets fmt, with fmt's text TOLD by the authors' own Lean function (tested against real Go, not proved from fmt's source: count such statements apart). THE CARD IS WHAT COUNTS. Prove the row's statement (the work); the ties are given (YtfgkcfdgepnhpaaGreatDoorTie.lean); close each card by the builder's one call (the guide's Derived/Test/ToyasCard.lean, 'card_holds'). Laid BY PROGRAM, IN A SANDBOX (cutbox-door.mjs). By AI agents, Wed Nov 11 2026. No macro, syntax, notation, axiom, sorry.
-/
import Derived.Test.YtfgkcfdgepnhpaaGreatDoorRows
import GoSem.ClaimSeven
namespace Go.Proofs.YtfgkcfdgepnhpaaGreatDoor
namespace Rows

/-- THE TIED CARD OF 'silolaw23.PoolEven'. -/
def poolEvenCard : Claim7 := { stood := { row := poolEvenRow, standIns := [], harness := (true, "3b12fe70bc91afafbefcbb1375b39d6fd784587676cea5b30fca924bc6479f16"), looks := false }, kinds := [], alts := [], laidByText := true, laidKinds := [.data, .pinned], laidTests := true, laidLooks := .later }
def PoolEvenCardSaid : Prop := Claim7.holds Tryz.pinned (.plain (OpenSpec.ofChange poolEvenSpec)) poolEvenCard

/-- THE SECOND FORM's CARD OF 'silolaw23.PoolEven'. -/
def poolEvenUptoCard : Claim7 := { stood := { row := poolEvenUptoRow, standIns := [], harness := (true, "3b12fe70bc91afafbefcbb1375b39d6fd784587676cea5b30fca924bc6479f16"), looks := false }, kinds := [], alts := [], laidByText := true, laidKinds := [.data, .pinned], laidTests := true, laidLooks := .later }
def PoolEvenUptoCardSaid : Prop := Claim7.holds Tryz.pinned (.plain (OpenSpec.upto poolEvenSpec)) poolEvenUptoCard
end Rows
end Go.Proofs.YtfgkcfdgepnhpaaGreatDoor
