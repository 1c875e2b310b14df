/-
  DERIVED. GIVEN WITH THE SEED: THE CARDS: each row of YtfdinjffnobpcaaGreatDoorRows.lean that lists a variable, with what it lists TIED to the program's text (the seventh form; the later family's looks); each row that meets fmt, with fmt's text TOLD by the authors' own Lean function (tested against real Go, not proved from fmt's source: count such statements apart). THE CARD IS WHAT COUNTS. Prove the row's statement (the work); the ties are given (YtfdinjffnobpcaaGreatDoorTie.lean); close each card by the builder's one call (the guide's Derived/Test/ToyasCard.lean, 'card_holds'). Laid BY PROGRAM, IN A SANDBOX (cutbox-door.mjs). By AI agents, Wed Nov 11 2026. No macro, syntax, notation, axiom, sorry.
-/
import Derived.Test.YtfdinjffnobpcaaGreatDoorRows
import GoSem.ClaimSeven
namespace Go.Proofs.YtfdinjffnobpcaaGreatDoor
namespace Rows

/-- THE TIED CARD OF 'silolaw24.KeepHonest'. -/
def keepHonestCard : Claim7 := { stood := { row := keepHonestRow, standIns := [], harness := (true, "98c69bc762342d7a9b91f3c51287a1f19cbb006dffe9f31e8efca6a00829d36e"), looks := false }, kinds := [], alts := [], laidByText := true, laidKinds := [.data, .pinned], laidTests := true, laidLooks := .later }
def KeepHonestCardSaid : Prop := Claim7.holds Tryz.pinned (.plain (OpenSpec.ofChange keepHonestSpec)) keepHonestCard

/-- THE SECOND FORM's CARD OF 'silolaw24.KeepHonest'. -/
def keepHonestUptoCard : Claim7 := { stood := { row := keepHonestUptoRow, standIns := [], harness := (true, "98c69bc762342d7a9b91f3c51287a1f19cbb006dffe9f31e8efca6a00829d36e"), looks := false }, kinds := [], alts := [], laidByText := true, laidKinds := [.data, .pinned], laidTests := true, laidLooks := .later }
def KeepHonestUptoCardSaid : Prop := Claim7.holds Tryz.pinned (.plain (OpenSpec.upto keepHonestSpec)) keepHonestUptoCard
end Rows
end Go.Proofs.YtfdinjffnobpcaaGreatDoor
