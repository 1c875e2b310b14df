/-
  DERIVED. GIVEN WITH THE SEED: THE CARDS: each row of YtdlpibhecdfbcabGreatDoorRows.lean that lists a variable, with what it lists TIED to the program's text (the seventh form; the later family's looks); each row that meets fmt, with fmt's text TOLD by the authors' own Lean function (tested against real Go, not proved from fmt's source: count such statements apart). THE CARD IS WHAT COUNTS. Prove the row's statement (the work); the ties are given (YtdlpibhecdfbcabGreatDoorTie.lean); close each card by the builder's one call (the guide's Derived/Test/ToyasCard.lean, 'card_holds'). Laid BY PROGRAM, IN A SANDBOX (cutbox-door.mjs). By AI agents, Wed Nov 11 2026. No macro, syntax, notation, axiom, sorry.
-/
import Derived.Test.YtdlpibhecdfbcabGreatDoorRows
import GoSem.ClaimSeven
namespace Go.Proofs.YtdlpibhecdfbcabGreatDoor
namespace Rows

/-- THE TIED CARD OF 'silolaw22.ModelDelete'. -/
def modelDeleteCard : Claim7 := { stood := { row := modelDeleteRow, standIns := [], harness := (true, "7de89fd5e6cacce8b30094f6ba7a1419d4a3351fe4eea6766f2ad96ef42b8634"), looks := false }, kinds := [], alts := [], laidByText := true, laidKinds := [.data, .pinned], laidTests := true, laidLooks := .later }
def ModelDeleteCardSaid : Prop := Claim7.holds Tryz.pinned (.plain (OpenSpec.ofChange modelDeleteSpec)) modelDeleteCard

/-- THE TIED CARD OF 'silolaw22.ModelManifest'. -/
def modelManifestCard : Claim7 := { stood := { row := modelManifestRow, standIns := [], harness := (true, "7de89fd5e6cacce8b30094f6ba7a1419d4a3351fe4eea6766f2ad96ef42b8634"), looks := false }, kinds := [], alts := [], laidByText := true, laidKinds := [.data, .pinned], laidTests := true, laidLooks := .later }
def ModelManifestCardSaid : Prop := Claim7.holds Tryz.pinned (.plain (OpenSpec.ofChange modelManifestSpec)) modelManifestCard

/-- THE TIED CARD OF 'silolaw22.ModelTag'. -/
def modelTagCard : Claim7 := { stood := { row := modelTagRow, standIns := [], harness := (true, "7de89fd5e6cacce8b30094f6ba7a1419d4a3351fe4eea6766f2ad96ef42b8634"), looks := false }, kinds := [], alts := [], laidByText := true, laidKinds := [.data, .pinned], laidTests := true, laidLooks := .later }
def ModelTagCardSaid : Prop := Claim7.holds Tryz.pinned (.plain (OpenSpec.ofChange modelTagSpec)) modelTagCard

/-- THE TIED CARD OF 'silolaw22.ModelFind'. -/
def modelFindCard : Claim7 := { stood := { row := modelFindRow, standIns := [], harness := (true, "7de89fd5e6cacce8b30094f6ba7a1419d4a3351fe4eea6766f2ad96ef42b8634"), looks := false }, kinds := [], alts := [], laidByText := true, laidKinds := [.data, .pinned], laidTests := true, laidLooks := .later }
def ModelFindCardSaid : Prop := Claim7.holds Tryz.pinned (.plain (OpenSpec.ofChange modelFindSpec)) modelFindCard

/-- THE TIED CARD OF 'silolaw22.ModelUntag'. -/
def modelUntagCard : Claim7 := { stood := { row := modelUntagRow, standIns := [], harness := (true, "7de89fd5e6cacce8b30094f6ba7a1419d4a3351fe4eea6766f2ad96ef42b8634"), looks := false }, kinds := [], alts := [], laidByText := true, laidKinds := [.data, .pinned], laidTests := true, laidLooks := .later }
def ModelUntagCardSaid : Prop := Claim7.holds Tryz.pinned (.plain (OpenSpec.ofChange modelUntagSpec)) modelUntagCard

/-- THE TIED CARD OF 'silolaw22.ModelSweep'. -/
def modelSweepCard : Claim7 := { stood := { row := modelSweepRow, standIns := [], harness := (true, "7de89fd5e6cacce8b30094f6ba7a1419d4a3351fe4eea6766f2ad96ef42b8634"), looks := false }, kinds := [], alts := [], laidByText := true, laidKinds := [.data, .pinned], laidTests := true, laidLooks := .later }
def ModelSweepCardSaid : Prop := Claim7.holds Tryz.pinned (.plain (OpenSpec.ofChange modelSweepSpec)) modelSweepCard

/-- THE TIED CARD OF 'silolaw22.ModelAbort'. -/
def modelAbortCard : Claim7 := { stood := { row := modelAbortRow, standIns := [], harness := (true, "7de89fd5e6cacce8b30094f6ba7a1419d4a3351fe4eea6766f2ad96ef42b8634"), looks := false }, kinds := [], alts := [], laidByText := true, laidKinds := [.data, .pinned], laidTests := true, laidLooks := .later }
def ModelAbortCardSaid : Prop := Claim7.holds Tryz.pinned (.plain (OpenSpec.ofChange modelAbortSpec)) modelAbortCard

/-- THE SECOND FORM's CARD OF 'silolaw22.ModelDelete'. -/
def modelDeleteUptoCard : Claim7 := { stood := { row := modelDeleteUptoRow, standIns := [], harness := (true, "7de89fd5e6cacce8b30094f6ba7a1419d4a3351fe4eea6766f2ad96ef42b8634"), looks := false }, kinds := [], alts := [], laidByText := true, laidKinds := [.data, .pinned], laidTests := true, laidLooks := .later }
def ModelDeleteUptoCardSaid : Prop := Claim7.holds Tryz.pinned (.plain (OpenSpec.upto modelDeleteSpec)) modelDeleteUptoCard

/-- THE SECOND FORM's CARD OF 'silolaw22.ModelManifest'. -/
def modelManifestUptoCard : Claim7 := { stood := { row := modelManifestUptoRow, standIns := [], harness := (true, "7de89fd5e6cacce8b30094f6ba7a1419d4a3351fe4eea6766f2ad96ef42b8634"), looks := false }, kinds := [], alts := [], laidByText := true, laidKinds := [.data, .pinned], laidTests := true, laidLooks := .later }
def ModelManifestUptoCardSaid : Prop := Claim7.holds Tryz.pinned (.plain (OpenSpec.upto modelManifestSpec)) modelManifestUptoCard

/-- THE SECOND FORM's CARD OF 'silolaw22.ModelTag'. -/
def modelTagUptoCard : Claim7 := { stood := { row := modelTagUptoRow, standIns := [], harness := (true, "7de89fd5e6cacce8b30094f6ba7a1419d4a3351fe4eea6766f2ad96ef42b8634"), looks := false }, kinds := [], alts := [], laidByText := true, laidKinds := [.data, .pinned], laidTests := true, laidLooks := .later }
def ModelTagUptoCardSaid : Prop := Claim7.holds Tryz.pinned (.plain (OpenSpec.upto modelTagSpec)) modelTagUptoCard

/-- THE SECOND FORM's CARD OF 'silolaw22.ModelFind'. -/
def modelFindUptoCard : Claim7 := { stood := { row := modelFindUptoRow, standIns := [], harness := (true, "7de89fd5e6cacce8b30094f6ba7a1419d4a3351fe4eea6766f2ad96ef42b8634"), looks := false }, kinds := [], alts := [], laidByText := true, laidKinds := [.data, .pinned], laidTests := true, laidLooks := .later }
def ModelFindUptoCardSaid : Prop := Claim7.holds Tryz.pinned (.plain (OpenSpec.upto modelFindSpec)) modelFindUptoCard

/-- THE SECOND FORM's CARD OF 'silolaw22.ModelUntag'. -/
def modelUntagUptoCard : Claim7 := { stood := { row := modelUntagUptoRow, standIns := [], harness := (true, "7de89fd5e6cacce8b30094f6ba7a1419d4a3351fe4eea6766f2ad96ef42b8634"), looks := false }, kinds := [], alts := [], laidByText := true, laidKinds := [.data, .pinned], laidTests := true, laidLooks := .later }
def ModelUntagUptoCardSaid : Prop := Claim7.holds Tryz.pinned (.plain (OpenSpec.upto modelUntagSpec)) modelUntagUptoCard

/-- THE SECOND FORM's CARD OF 'silolaw22.ModelSweep'. -/
def modelSweepUptoCard : Claim7 := { stood := { row := modelSweepUptoRow, standIns := [], harness := (true, "7de89fd5e6cacce8b30094f6ba7a1419d4a3351fe4eea6766f2ad96ef42b8634"), looks := false }, kinds := [], alts := [], laidByText := true, laidKinds := [.data, .pinned], laidTests := true, laidLooks := .later }
def ModelSweepUptoCardSaid : Prop := Claim7.holds Tryz.pinned (.plain (OpenSpec.upto modelSweepSpec)) modelSweepUptoCard

/-- THE SECOND FORM's CARD OF 'silolaw22.ModelAbort'. -/
def modelAbortUptoCard : Claim7 := { stood := { row := modelAbortUptoRow, standIns := [], harness := (true, "7de89fd5e6cacce8b30094f6ba7a1419d4a3351fe4eea6766f2ad96ef42b8634"), looks := false }, kinds := [], alts := [], laidByText := true, laidKinds := [.data, .pinned], laidTests := true, laidLooks := .later }
def ModelAbortUptoCardSaid : Prop := Claim7.holds Tryz.pinned (.plain (OpenSpec.upto modelAbortSpec)) modelAbortUptoCard
end Rows
end Go.Proofs.YtdlpibhecdfbcabGreatDoor
