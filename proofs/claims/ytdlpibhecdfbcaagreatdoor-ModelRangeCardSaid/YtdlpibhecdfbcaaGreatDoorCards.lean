/-
  DERIVED. GIVEN WITH THE SEED: THE CARDS: each row of YtdlpibhecdfbcaaGreatDoorRows.lean that lists a variable, with what it lists TIED to the program's text (the seventh form; the later family's looks); each row that meets fmt, with fmt's text TOLD by the authors' own Lean function (tested against real Go, not proved from fmt's source: count such statements apart). THE CARD IS WHAT COUNTS. Prove the row's statement (the work); the ties are given (YtdlpibhecdfbcaaGreatDoorTie.lean); close each card by the builder's one call (the guide's Derived/Test/ToyasCard.lean, 'card_holds'). Laid BY PROGRAM, IN A SANDBOX (cutbox-door.mjs). By AI agents, Wed Nov 11 2026. No macro, syntax, notation, axiom, sorry.
-/
import Derived.Test.YtdlpibhecdfbcaaGreatDoorRows
import GoSem.ClaimSeven
namespace Go.Proofs.YtdlpibhecdfbcaaGreatDoor
namespace Rows

/-- THE TIED CARD OF 'silolaw22.ModelWhole'. -/
def modelWholeCard : Claim7 := { stood := { row := modelWholeRow, standIns := [], harness := (true, "6c4a54862a13a7b2ff081a1f354c7ca38d60b38da809ad5d5d8e75b5bbfc081b"), looks := false }, kinds := [], alts := [], laidByText := true, laidKinds := [.data, .pinned], laidTests := true, laidLooks := .later }
def ModelWholeCardSaid : Prop := Claim7.holds Tryz.pinned (.plain (OpenSpec.ofChange modelWholeSpec)) modelWholeCard

/-- THE TIED CARD OF 'silolaw22.ModelDoes'. -/
def modelDoesCard : Claim7 := { stood := { row := modelDoesRow, standIns := [], harness := (true, "6c4a54862a13a7b2ff081a1f354c7ca38d60b38da809ad5d5d8e75b5bbfc081b"), looks := false }, kinds := [], alts := [], laidByText := true, laidKinds := [.data, .pinned], laidTests := true, laidLooks := .later }
def ModelDoesCardSaid : Prop := Claim7.holds Tryz.pinned (.plain (OpenSpec.ofChange modelDoesSpec)) modelDoesCard

/-- THE TIED CARD OF 'silolaw22.ModelUploads'. -/
def modelUploadsCard : Claim7 := { stood := { row := modelUploadsRow, standIns := [], harness := (true, "6c4a54862a13a7b2ff081a1f354c7ca38d60b38da809ad5d5d8e75b5bbfc081b"), looks := false }, kinds := [], alts := [], laidByText := true, laidKinds := [.data, .pinned], laidTests := true, laidLooks := .later }
def ModelUploadsCardSaid : Prop := Claim7.holds Tryz.pinned (.plain (OpenSpec.ofChange modelUploadsSpec)) modelUploadsCard

/-- THE TIED CARD OF 'silolaw22.ModelReads'. -/
def modelReadsCard : Claim7 := { stood := { row := modelReadsRow, standIns := [], harness := (true, "6c4a54862a13a7b2ff081a1f354c7ca38d60b38da809ad5d5d8e75b5bbfc081b"), looks := false }, kinds := [], alts := [], laidByText := true, laidKinds := [.data, .pinned], laidTests := true, laidLooks := .later }
def ModelReadsCardSaid : Prop := Claim7.holds Tryz.pinned (.plain (OpenSpec.ofChange modelReadsSpec)) modelReadsCard

/-- THE TIED CARD OF 'silolaw22.ModelManifests'. -/
def modelManifestsCard : Claim7 := { stood := { row := modelManifestsRow, standIns := [], harness := (true, "6c4a54862a13a7b2ff081a1f354c7ca38d60b38da809ad5d5d8e75b5bbfc081b"), looks := false }, kinds := [], alts := [], laidByText := true, laidKinds := [.data, .pinned], laidTests := true, laidLooks := .later }
def ModelManifestsCardSaid : Prop := Claim7.holds Tryz.pinned (.plain (OpenSpec.ofChange modelManifestsSpec)) modelManifestsCard

/-- THE TIED CARD OF 'silolaw22.ModelTags'. -/
def modelTagsCard : Claim7 := { stood := { row := modelTagsRow, standIns := [], harness := (true, "6c4a54862a13a7b2ff081a1f354c7ca38d60b38da809ad5d5d8e75b5bbfc081b"), looks := false }, kinds := [], alts := [], laidByText := true, laidKinds := [.data, .pinned], laidTests := true, laidLooks := .later }
def ModelTagsCardSaid : Prop := Claim7.holds Tryz.pinned (.plain (OpenSpec.ofChange modelTagsSpec)) modelTagsCard

/-- THE TIED CARD OF 'silolaw22.ModelStart'. -/
def modelStartCard : Claim7 := { stood := { row := modelStartRow, standIns := [], harness := (true, "6c4a54862a13a7b2ff081a1f354c7ca38d60b38da809ad5d5d8e75b5bbfc081b"), looks := false }, kinds := [], alts := [], laidByText := true, laidKinds := [.data, .pinned], laidTests := true, laidLooks := .later }
def ModelStartCardSaid : Prop := Claim7.holds Tryz.pinned (.plain (OpenSpec.ofChange modelStartSpec)) modelStartCard

/-- THE TIED CARD OF 'silolaw22.ModelChunk'. -/
def modelChunkCard : Claim7 := { stood := { row := modelChunkRow, standIns := [], harness := (true, "6c4a54862a13a7b2ff081a1f354c7ca38d60b38da809ad5d5d8e75b5bbfc081b"), looks := false }, kinds := [], alts := [], laidByText := true, laidKinds := [.data, .pinned], laidTests := true, laidLooks := .later }
def ModelChunkCardSaid : Prop := Claim7.holds Tryz.pinned (.plain (OpenSpec.ofChange modelChunkSpec)) modelChunkCard

/-- THE TIED CARD OF 'silolaw22.ModelFinish'. -/
def modelFinishCard : Claim7 := { stood := { row := modelFinishRow, standIns := [], harness := (true, "6c4a54862a13a7b2ff081a1f354c7ca38d60b38da809ad5d5d8e75b5bbfc081b"), looks := false }, kinds := [], alts := [], laidByText := true, laidKinds := [.data, .pinned], laidTests := true, laidLooks := .later }
def ModelFinishCardSaid : Prop := Claim7.holds Tryz.pinned (.plain (OpenSpec.ofChange modelFinishSpec)) modelFinishCard

/-- THE TIED CARD OF 'silolaw22.ModelGet'. -/
def modelGetCard : Claim7 := { stood := { row := modelGetRow, standIns := [], harness := (true, "6c4a54862a13a7b2ff081a1f354c7ca38d60b38da809ad5d5d8e75b5bbfc081b"), looks := false }, kinds := [], alts := [], laidByText := true, laidKinds := [.data, .pinned], laidTests := true, laidLooks := .later }
def ModelGetCardSaid : Prop := Claim7.holds Tryz.pinned (.plain (OpenSpec.ofChange modelGetSpec)) modelGetCard

/-- THE TIED CARD OF 'silolaw22.ModelStat'. -/
def modelStatCard : Claim7 := { stood := { row := modelStatRow, standIns := [], harness := (true, "6c4a54862a13a7b2ff081a1f354c7ca38d60b38da809ad5d5d8e75b5bbfc081b"), looks := false }, kinds := [], alts := [], laidByText := true, laidKinds := [.data, .pinned], laidTests := true, laidLooks := .later }
def ModelStatCardSaid : Prop := Claim7.holds Tryz.pinned (.plain (OpenSpec.ofChange modelStatSpec)) modelStatCard

/-- THE TIED CARD OF 'silolaw22.ModelRange'. -/
def modelRangeCard : Claim7 := { stood := { row := modelRangeRow, standIns := [], harness := (true, "6c4a54862a13a7b2ff081a1f354c7ca38d60b38da809ad5d5d8e75b5bbfc081b"), looks := false }, kinds := [], alts := [], laidByText := true, laidKinds := [.data, .pinned], laidTests := true, laidLooks := .later }
def ModelRangeCardSaid : Prop := Claim7.holds Tryz.pinned (.plain (OpenSpec.ofChange modelRangeSpec)) modelRangeCard

/-- THE SECOND FORM's CARD OF 'silolaw22.ModelWhole'. -/
def modelWholeUptoCard : Claim7 := { stood := { row := modelWholeUptoRow, standIns := [], harness := (true, "6c4a54862a13a7b2ff081a1f354c7ca38d60b38da809ad5d5d8e75b5bbfc081b"), looks := false }, kinds := [], alts := [], laidByText := true, laidKinds := [.data, .pinned], laidTests := true, laidLooks := .later }
def ModelWholeUptoCardSaid : Prop := Claim7.holds Tryz.pinned (.plain (OpenSpec.upto modelWholeSpec)) modelWholeUptoCard

/-- THE SECOND FORM's CARD OF 'silolaw22.ModelDoes'. -/
def modelDoesUptoCard : Claim7 := { stood := { row := modelDoesUptoRow, standIns := [], harness := (true, "6c4a54862a13a7b2ff081a1f354c7ca38d60b38da809ad5d5d8e75b5bbfc081b"), looks := false }, kinds := [], alts := [], laidByText := true, laidKinds := [.data, .pinned], laidTests := true, laidLooks := .later }
def ModelDoesUptoCardSaid : Prop := Claim7.holds Tryz.pinned (.plain (OpenSpec.upto modelDoesSpec)) modelDoesUptoCard

/-- THE SECOND FORM's CARD OF 'silolaw22.ModelUploads'. -/
def modelUploadsUptoCard : Claim7 := { stood := { row := modelUploadsUptoRow, standIns := [], harness := (true, "6c4a54862a13a7b2ff081a1f354c7ca38d60b38da809ad5d5d8e75b5bbfc081b"), looks := false }, kinds := [], alts := [], laidByText := true, laidKinds := [.data, .pinned], laidTests := true, laidLooks := .later }
def ModelUploadsUptoCardSaid : Prop := Claim7.holds Tryz.pinned (.plain (OpenSpec.upto modelUploadsSpec)) modelUploadsUptoCard

/-- THE SECOND FORM's CARD OF 'silolaw22.ModelReads'. -/
def modelReadsUptoCard : Claim7 := { stood := { row := modelReadsUptoRow, standIns := [], harness := (true, "6c4a54862a13a7b2ff081a1f354c7ca38d60b38da809ad5d5d8e75b5bbfc081b"), looks := false }, kinds := [], alts := [], laidByText := true, laidKinds := [.data, .pinned], laidTests := true, laidLooks := .later }
def ModelReadsUptoCardSaid : Prop := Claim7.holds Tryz.pinned (.plain (OpenSpec.upto modelReadsSpec)) modelReadsUptoCard

/-- THE SECOND FORM's CARD OF 'silolaw22.ModelManifests'. -/
def modelManifestsUptoCard : Claim7 := { stood := { row := modelManifestsUptoRow, standIns := [], harness := (true, "6c4a54862a13a7b2ff081a1f354c7ca38d60b38da809ad5d5d8e75b5bbfc081b"), looks := false }, kinds := [], alts := [], laidByText := true, laidKinds := [.data, .pinned], laidTests := true, laidLooks := .later }
def ModelManifestsUptoCardSaid : Prop := Claim7.holds Tryz.pinned (.plain (OpenSpec.upto modelManifestsSpec)) modelManifestsUptoCard

/-- THE SECOND FORM's CARD OF 'silolaw22.ModelTags'. -/
def modelTagsUptoCard : Claim7 := { stood := { row := modelTagsUptoRow, standIns := [], harness := (true, "6c4a54862a13a7b2ff081a1f354c7ca38d60b38da809ad5d5d8e75b5bbfc081b"), looks := false }, kinds := [], alts := [], laidByText := true, laidKinds := [.data, .pinned], laidTests := true, laidLooks := .later }
def ModelTagsUptoCardSaid : Prop := Claim7.holds Tryz.pinned (.plain (OpenSpec.upto modelTagsSpec)) modelTagsUptoCard

/-- THE SECOND FORM's CARD OF 'silolaw22.ModelStart'. -/
def modelStartUptoCard : Claim7 := { stood := { row := modelStartUptoRow, standIns := [], harness := (true, "6c4a54862a13a7b2ff081a1f354c7ca38d60b38da809ad5d5d8e75b5bbfc081b"), looks := false }, kinds := [], alts := [], laidByText := true, laidKinds := [.data, .pinned], laidTests := true, laidLooks := .later }
def ModelStartUptoCardSaid : Prop := Claim7.holds Tryz.pinned (.plain (OpenSpec.upto modelStartSpec)) modelStartUptoCard

/-- THE SECOND FORM's CARD OF 'silolaw22.ModelChunk'. -/
def modelChunkUptoCard : Claim7 := { stood := { row := modelChunkUptoRow, standIns := [], harness := (true, "6c4a54862a13a7b2ff081a1f354c7ca38d60b38da809ad5d5d8e75b5bbfc081b"), looks := false }, kinds := [], alts := [], laidByText := true, laidKinds := [.data, .pinned], laidTests := true, laidLooks := .later }
def ModelChunkUptoCardSaid : Prop := Claim7.holds Tryz.pinned (.plain (OpenSpec.upto modelChunkSpec)) modelChunkUptoCard

/-- THE SECOND FORM's CARD OF 'silolaw22.ModelFinish'. -/
def modelFinishUptoCard : Claim7 := { stood := { row := modelFinishUptoRow, standIns := [], harness := (true, "6c4a54862a13a7b2ff081a1f354c7ca38d60b38da809ad5d5d8e75b5bbfc081b"), looks := false }, kinds := [], alts := [], laidByText := true, laidKinds := [.data, .pinned], laidTests := true, laidLooks := .later }
def ModelFinishUptoCardSaid : Prop := Claim7.holds Tryz.pinned (.plain (OpenSpec.upto modelFinishSpec)) modelFinishUptoCard

/-- THE SECOND FORM's CARD OF 'silolaw22.ModelGet'. -/
def modelGetUptoCard : Claim7 := { stood := { row := modelGetUptoRow, standIns := [], harness := (true, "6c4a54862a13a7b2ff081a1f354c7ca38d60b38da809ad5d5d8e75b5bbfc081b"), looks := false }, kinds := [], alts := [], laidByText := true, laidKinds := [.data, .pinned], laidTests := true, laidLooks := .later }
def ModelGetUptoCardSaid : Prop := Claim7.holds Tryz.pinned (.plain (OpenSpec.upto modelGetSpec)) modelGetUptoCard

/-- THE SECOND FORM's CARD OF 'silolaw22.ModelStat'. -/
def modelStatUptoCard : Claim7 := { stood := { row := modelStatUptoRow, standIns := [], harness := (true, "6c4a54862a13a7b2ff081a1f354c7ca38d60b38da809ad5d5d8e75b5bbfc081b"), looks := false }, kinds := [], alts := [], laidByText := true, laidKinds := [.data, .pinned], laidTests := true, laidLooks := .later }
def ModelStatUptoCardSaid : Prop := Claim7.holds Tryz.pinned (.plain (OpenSpec.upto modelStatSpec)) modelStatUptoCard

/-- THE SECOND FORM's CARD OF 'silolaw22.ModelRange'. -/
def modelRangeUptoCard : Claim7 := { stood := { row := modelRangeUptoRow, standIns := [], harness := (true, "6c4a54862a13a7b2ff081a1f354c7ca38d60b38da809ad5d5d8e75b5bbfc081b"), looks := false }, kinds := [], alts := [], laidByText := true, laidKinds := [.data, .pinned], laidTests := true, laidLooks := .later }
def ModelRangeUptoCardSaid : Prop := Claim7.holds Tryz.pinned (.plain (OpenSpec.upto modelRangeSpec)) modelRangeUptoCard
end Rows
end Go.Proofs.YtdlpibhecdfbcaaGreatDoor
