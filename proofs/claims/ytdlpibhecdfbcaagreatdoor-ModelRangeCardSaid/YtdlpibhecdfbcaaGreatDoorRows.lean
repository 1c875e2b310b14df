/-
  NARROWER THAN 'FOR EVERY INPUT', by the rows' own cells (each row's printed sentence says how): ModelWhole: laid · ModelDoes: laid · ModelUploads: laid · ModelReads: laid · ModelManifests: laid · ModelTags: laid · ModelStart: laid · ModelChunk: laid · ModelFinish: laid · ModelGet: laid · ModelStat: laid · ModelRange: laid.
  DERIVED. THE GIVEN ROWS OF THIS SEAT. 12 by the template 'for every input the law returns true; each argument reads behind the call as it read before'; 0 by the template 'total and deterministic' (their statements: YtdlpibhecdfbcaaGreatDoorTotals.lean).
  GIVEN WITH THE SEED: the statements are not yours to turn. If you find one false, say at which input.
  Laid BY PROGRAM, IN A SANDBOX (cutbox-rows.mjs): the forced cells as the released guide's own fill.sh prints them over the translation c616a3776e0f491d… (all of the seat's roots in one cut). By AI agents, Wed Nov 11 2026. No macro, syntax, notation, axiom, sorry.
-/
import Derived.Test.YtdlpibhecdfbcaaGreatDoorChecked
import GoSem.PinnedTables
import GoSem.Claim
import GoSem.ClaimJoined
import GoSem.ClaimMapViews
import Derived.JoinedTies
import Derived.KernelRfl
namespace Go.Proofs.YtdlpibhecdfbcaaGreatDoor
/- THE CELL 'sum', in the pinned program and in every row, IS THE sha256 OF THE DUMP (.gsa) THAT YtdlpibhecdfbcaaGreatDoorProg.lean LOADS. Nothing in Lean hashes anything: it is a label: what it is worth is what the hold of that sum in a sandbox is worth. -/
noncomputable def Tryz.pinned : Pinned := { name := "ytdlpibhecdfbcaagreatdoor", sum := "c616a3776e0f491da1337ea1dd5b9a05fa77137a9bb06186ffb38282b2291736", checked := Tryz.checked }
namespace Rows
def none {H : Type} : Left H := { results := [], args := [] }

/- WHAT THE LISTED PACKAGE-LEVEL VARIABLES READ AS WHEN THE CALL BEGINS. Each datum BY PROGRAM (the guide's laid-datum.mjs) off the statement by which the dump's own 'gosem.cut.vars' lays the variable. In a bare row this is a premise. The card (YtdlpibhecdfbcaaGreatDoorCards.lean) ties it to the program's text. -/
def laid_unicode_utf8_acceptRanges {H : Type} : DataW H := .agg [.agg [.lit (.int .u8 128), .lit (.int .u8 191)], .agg [.lit (.int .u8 160), .lit (.int .u8 191)], .agg [.lit (.int .u8 128), .lit (.int .u8 159)], .agg [.lit (.int .u8 144), .lit (.int .u8 191)], .agg [.lit (.int .u8 128), .lit (.int .u8 143)], .agg [.lit (.int .u8 0), .lit (.int .u8 0)], .agg [.lit (.int .u8 0), .lit (.int .u8 0)], .agg [.lit (.int .u8 0), .lit (.int .u8 0)], .agg [.lit (.int .u8 0), .lit (.int .u8 0)], .agg [.lit (.int .u8 0), .lit (.int .u8 0)], .agg [.lit (.int .u8 0), .lit (.int .u8 0)], .agg [.lit (.int .u8 0), .lit (.int .u8 0)], .agg [.lit (.int .u8 0), .lit (.int .u8 0)], .agg [.lit (.int .u8 0), .lit (.int .u8 0)], .agg [.lit (.int .u8 0), .lit (.int .u8 0)], .agg [.lit (.int .u8 0), .lit (.int .u8 0)]]
/-- One of Go's own tables, pinned by name: the form's constant. -/
def laid_unicode_utf8_first : DataW Unit := Go.Pinned.utf8First

/-- 'silolaw22.ModelWhole': WHATEVER THE INPUT: true; the input reads as it did. -/
def modelWholeSpec : ChangeSpec := { name := "modelWhole", fn := fun _ => fun
  | [d] => { results := [.lit (.bool true)], args := [d] }
  | _ => none }
def modelWholeRow : OpenClaim := { program := "ytdlpibhecdfbcaagreatdoor", sum := "c616a3776e0f491da1337ea1dd5b9a05fa77137a9bb06186ffb38282b2291736", func := "silo/silolaw22.ModelWhole", spec := "modelWhole", inPlace := ["internal/bytealg.abigen_runtime_cmpstring", "internal/bytealg.IndexByteString", "internal/bytealg.IndexString", "internal/bytealg.CountString", "slices.overlaps[silo/api.Thing]", "slices.overlaps[silo/api.Tag]"], unfollowed := true, recurses := true, named := ["internal/bytealg.MaxLen", "unicode/utf8.first", "unicode/utf8.acceptRanges"], apart := false, laid := [("unicode/utf8.acceptRanges", laid_unicode_utf8_acceptRanges), ("unicode/utf8.first", laid_unicode_utf8_first)] }
def ModelWholeSaid : Prop := modelWholeRow.holds Tryz.pinned (OpenSpec.ofChange modelWholeSpec)

/-- ITS FALSE NEIGHBOUR: 'it returns false'. Refute it at one input. -/
def modelWholeWrong : ChangeSpec := { name := "modelWhole", fn := fun _ => fun
  | [d] => { results := [.lit (.bool false)], args := [d] }
  | _ => none }
def ModelWholeWrongFalsely : Prop := modelWholeRow.holds Tryz.pinned (OpenSpec.ofChange modelWholeWrong)

/-- 'silolaw22.ModelDoes': WHATEVER THE INPUT: true; the input reads as it did. -/
def modelDoesSpec : ChangeSpec := { name := "modelDoes", fn := fun _ => fun
  | [d] => { results := [.lit (.bool true)], args := [d] }
  | _ => none }
def modelDoesRow : OpenClaim := { program := "ytdlpibhecdfbcaagreatdoor", sum := "c616a3776e0f491da1337ea1dd5b9a05fa77137a9bb06186ffb38282b2291736", func := "silo/silolaw22.ModelDoes", spec := "modelDoes", inPlace := ["internal/bytealg.abigen_runtime_cmpstring", "internal/bytealg.IndexByteString", "internal/bytealg.IndexString", "internal/bytealg.CountString", "slices.overlaps[silo/api.Thing]", "slices.overlaps[silo/api.Tag]"], unfollowed := true, recurses := true, named := ["internal/bytealg.MaxLen", "unicode/utf8.first", "unicode/utf8.acceptRanges"], apart := false, laid := [("unicode/utf8.acceptRanges", laid_unicode_utf8_acceptRanges), ("unicode/utf8.first", laid_unicode_utf8_first)] }
def ModelDoesSaid : Prop := modelDoesRow.holds Tryz.pinned (OpenSpec.ofChange modelDoesSpec)

/-- ITS FALSE NEIGHBOUR: 'it returns false'. Refute it at one input. -/
def modelDoesWrong : ChangeSpec := { name := "modelDoes", fn := fun _ => fun
  | [d] => { results := [.lit (.bool false)], args := [d] }
  | _ => none }
def ModelDoesWrongFalsely : Prop := modelDoesRow.holds Tryz.pinned (OpenSpec.ofChange modelDoesWrong)

/-- 'silolaw22.ModelUploads': WHATEVER THE INPUT: true; the input reads as it did. -/
def modelUploadsSpec : ChangeSpec := { name := "modelUploads", fn := fun _ => fun
  | [d] => { results := [.lit (.bool true)], args := [d] }
  | _ => none }
def modelUploadsRow : OpenClaim := { program := "ytdlpibhecdfbcaagreatdoor", sum := "c616a3776e0f491da1337ea1dd5b9a05fa77137a9bb06186ffb38282b2291736", func := "silo/silolaw22.ModelUploads", spec := "modelUploads", inPlace := ["internal/bytealg.abigen_runtime_cmpstring", "internal/bytealg.IndexByteString", "internal/bytealg.IndexString", "internal/bytealg.CountString", "slices.overlaps[silo/api.Thing]", "slices.overlaps[silo/api.Tag]"], unfollowed := true, recurses := true, named := ["internal/bytealg.MaxLen", "unicode/utf8.first", "unicode/utf8.acceptRanges"], apart := false, laid := [("unicode/utf8.acceptRanges", laid_unicode_utf8_acceptRanges), ("unicode/utf8.first", laid_unicode_utf8_first)] }
def ModelUploadsSaid : Prop := modelUploadsRow.holds Tryz.pinned (OpenSpec.ofChange modelUploadsSpec)

/-- ITS FALSE NEIGHBOUR: 'it returns false'. Refute it at one input. -/
def modelUploadsWrong : ChangeSpec := { name := "modelUploads", fn := fun _ => fun
  | [d] => { results := [.lit (.bool false)], args := [d] }
  | _ => none }
def ModelUploadsWrongFalsely : Prop := modelUploadsRow.holds Tryz.pinned (OpenSpec.ofChange modelUploadsWrong)

/-- 'silolaw22.ModelReads': WHATEVER THE INPUT: true; the input reads as it did. -/
def modelReadsSpec : ChangeSpec := { name := "modelReads", fn := fun _ => fun
  | [d] => { results := [.lit (.bool true)], args := [d] }
  | _ => none }
def modelReadsRow : OpenClaim := { program := "ytdlpibhecdfbcaagreatdoor", sum := "c616a3776e0f491da1337ea1dd5b9a05fa77137a9bb06186ffb38282b2291736", func := "silo/silolaw22.ModelReads", spec := "modelReads", inPlace := ["internal/bytealg.abigen_runtime_cmpstring", "internal/bytealg.IndexByteString", "internal/bytealg.IndexString", "internal/bytealg.CountString", "slices.overlaps[silo/api.Thing]", "slices.overlaps[silo/api.Tag]"], unfollowed := true, recurses := true, named := ["internal/bytealg.MaxLen", "unicode/utf8.first", "unicode/utf8.acceptRanges"], apart := false, laid := [("unicode/utf8.acceptRanges", laid_unicode_utf8_acceptRanges), ("unicode/utf8.first", laid_unicode_utf8_first)] }
def ModelReadsSaid : Prop := modelReadsRow.holds Tryz.pinned (OpenSpec.ofChange modelReadsSpec)

/-- ITS FALSE NEIGHBOUR: 'it returns false'. Refute it at one input. -/
def modelReadsWrong : ChangeSpec := { name := "modelReads", fn := fun _ => fun
  | [d] => { results := [.lit (.bool false)], args := [d] }
  | _ => none }
def ModelReadsWrongFalsely : Prop := modelReadsRow.holds Tryz.pinned (OpenSpec.ofChange modelReadsWrong)

/-- 'silolaw22.ModelManifests': WHATEVER THE INPUT: true; the input reads as it did. -/
def modelManifestsSpec : ChangeSpec := { name := "modelManifests", fn := fun _ => fun
  | [d] => { results := [.lit (.bool true)], args := [d] }
  | _ => none }
def modelManifestsRow : OpenClaim := { program := "ytdlpibhecdfbcaagreatdoor", sum := "c616a3776e0f491da1337ea1dd5b9a05fa77137a9bb06186ffb38282b2291736", func := "silo/silolaw22.ModelManifests", spec := "modelManifests", inPlace := ["internal/bytealg.abigen_runtime_cmpstring", "internal/bytealg.IndexByteString", "internal/bytealg.IndexString", "internal/bytealg.CountString", "slices.overlaps[silo/api.Thing]", "slices.overlaps[silo/api.Tag]"], unfollowed := true, recurses := true, named := ["internal/bytealg.MaxLen", "unicode/utf8.first", "unicode/utf8.acceptRanges"], apart := false, laid := [("unicode/utf8.acceptRanges", laid_unicode_utf8_acceptRanges), ("unicode/utf8.first", laid_unicode_utf8_first)] }
def ModelManifestsSaid : Prop := modelManifestsRow.holds Tryz.pinned (OpenSpec.ofChange modelManifestsSpec)

/-- ITS FALSE NEIGHBOUR: 'it returns false'. Refute it at one input. -/
def modelManifestsWrong : ChangeSpec := { name := "modelManifests", fn := fun _ => fun
  | [d] => { results := [.lit (.bool false)], args := [d] }
  | _ => none }
def ModelManifestsWrongFalsely : Prop := modelManifestsRow.holds Tryz.pinned (OpenSpec.ofChange modelManifestsWrong)

/-- 'silolaw22.ModelTags': WHATEVER THE INPUT: true; the input reads as it did. -/
def modelTagsSpec : ChangeSpec := { name := "modelTags", fn := fun _ => fun
  | [d] => { results := [.lit (.bool true)], args := [d] }
  | _ => none }
def modelTagsRow : OpenClaim := { program := "ytdlpibhecdfbcaagreatdoor", sum := "c616a3776e0f491da1337ea1dd5b9a05fa77137a9bb06186ffb38282b2291736", func := "silo/silolaw22.ModelTags", spec := "modelTags", inPlace := ["internal/bytealg.abigen_runtime_cmpstring", "internal/bytealg.IndexByteString", "internal/bytealg.IndexString", "internal/bytealg.CountString", "slices.overlaps[silo/api.Thing]", "slices.overlaps[silo/api.Tag]"], unfollowed := true, recurses := true, named := ["internal/bytealg.MaxLen", "unicode/utf8.first", "unicode/utf8.acceptRanges"], apart := false, laid := [("unicode/utf8.acceptRanges", laid_unicode_utf8_acceptRanges), ("unicode/utf8.first", laid_unicode_utf8_first)] }
def ModelTagsSaid : Prop := modelTagsRow.holds Tryz.pinned (OpenSpec.ofChange modelTagsSpec)

/-- ITS FALSE NEIGHBOUR: 'it returns false'. Refute it at one input. -/
def modelTagsWrong : ChangeSpec := { name := "modelTags", fn := fun _ => fun
  | [d] => { results := [.lit (.bool false)], args := [d] }
  | _ => none }
def ModelTagsWrongFalsely : Prop := modelTagsRow.holds Tryz.pinned (OpenSpec.ofChange modelTagsWrong)

/-- 'silolaw22.ModelStart': WHATEVER THE INPUT: true; the input reads as it did. -/
def modelStartSpec : ChangeSpec := { name := "modelStart", fn := fun _ => fun
  | [d] => { results := [.lit (.bool true)], args := [d] }
  | _ => none }
def modelStartRow : OpenClaim := { program := "ytdlpibhecdfbcaagreatdoor", sum := "c616a3776e0f491da1337ea1dd5b9a05fa77137a9bb06186ffb38282b2291736", func := "silo/silolaw22.ModelStart", spec := "modelStart", inPlace := ["internal/bytealg.abigen_runtime_cmpstring", "internal/bytealg.IndexByteString", "internal/bytealg.IndexString", "internal/bytealg.CountString", "slices.overlaps[silo/api.Thing]", "slices.overlaps[silo/api.Tag]"], unfollowed := true, recurses := true, named := ["internal/bytealg.MaxLen", "unicode/utf8.first", "unicode/utf8.acceptRanges"], apart := false, laid := [("unicode/utf8.acceptRanges", laid_unicode_utf8_acceptRanges), ("unicode/utf8.first", laid_unicode_utf8_first)] }
def ModelStartSaid : Prop := modelStartRow.holds Tryz.pinned (OpenSpec.ofChange modelStartSpec)

/-- ITS FALSE NEIGHBOUR: 'it returns false'. Refute it at one input. -/
def modelStartWrong : ChangeSpec := { name := "modelStart", fn := fun _ => fun
  | [d] => { results := [.lit (.bool false)], args := [d] }
  | _ => none }
def ModelStartWrongFalsely : Prop := modelStartRow.holds Tryz.pinned (OpenSpec.ofChange modelStartWrong)

/-- 'silolaw22.ModelChunk': WHATEVER THE INPUT: true; the input reads as it did. -/
def modelChunkSpec : ChangeSpec := { name := "modelChunk", fn := fun _ => fun
  | [d] => { results := [.lit (.bool true)], args := [d] }
  | _ => none }
def modelChunkRow : OpenClaim := { program := "ytdlpibhecdfbcaagreatdoor", sum := "c616a3776e0f491da1337ea1dd5b9a05fa77137a9bb06186ffb38282b2291736", func := "silo/silolaw22.ModelChunk", spec := "modelChunk", inPlace := ["internal/bytealg.abigen_runtime_cmpstring", "internal/bytealg.IndexByteString", "internal/bytealg.IndexString", "internal/bytealg.CountString", "slices.overlaps[silo/api.Thing]", "slices.overlaps[silo/api.Tag]"], unfollowed := true, recurses := true, named := ["internal/bytealg.MaxLen", "unicode/utf8.first", "unicode/utf8.acceptRanges"], apart := false, laid := [("unicode/utf8.acceptRanges", laid_unicode_utf8_acceptRanges), ("unicode/utf8.first", laid_unicode_utf8_first)] }
def ModelChunkSaid : Prop := modelChunkRow.holds Tryz.pinned (OpenSpec.ofChange modelChunkSpec)

/-- ITS FALSE NEIGHBOUR: 'it returns false'. Refute it at one input. -/
def modelChunkWrong : ChangeSpec := { name := "modelChunk", fn := fun _ => fun
  | [d] => { results := [.lit (.bool false)], args := [d] }
  | _ => none }
def ModelChunkWrongFalsely : Prop := modelChunkRow.holds Tryz.pinned (OpenSpec.ofChange modelChunkWrong)

/-- 'silolaw22.ModelFinish': WHATEVER THE INPUT: true; the input reads as it did. -/
def modelFinishSpec : ChangeSpec := { name := "modelFinish", fn := fun _ => fun
  | [d] => { results := [.lit (.bool true)], args := [d] }
  | _ => none }
def modelFinishRow : OpenClaim := { program := "ytdlpibhecdfbcaagreatdoor", sum := "c616a3776e0f491da1337ea1dd5b9a05fa77137a9bb06186ffb38282b2291736", func := "silo/silolaw22.ModelFinish", spec := "modelFinish", inPlace := ["internal/bytealg.abigen_runtime_cmpstring", "internal/bytealg.IndexByteString", "internal/bytealg.IndexString", "internal/bytealg.CountString", "slices.overlaps[silo/api.Thing]", "slices.overlaps[silo/api.Tag]"], unfollowed := true, recurses := true, named := ["internal/bytealg.MaxLen", "unicode/utf8.first", "unicode/utf8.acceptRanges"], apart := false, laid := [("unicode/utf8.acceptRanges", laid_unicode_utf8_acceptRanges), ("unicode/utf8.first", laid_unicode_utf8_first)] }
def ModelFinishSaid : Prop := modelFinishRow.holds Tryz.pinned (OpenSpec.ofChange modelFinishSpec)

/-- ITS FALSE NEIGHBOUR: 'it returns false'. Refute it at one input. -/
def modelFinishWrong : ChangeSpec := { name := "modelFinish", fn := fun _ => fun
  | [d] => { results := [.lit (.bool false)], args := [d] }
  | _ => none }
def ModelFinishWrongFalsely : Prop := modelFinishRow.holds Tryz.pinned (OpenSpec.ofChange modelFinishWrong)

/-- 'silolaw22.ModelGet': WHATEVER THE INPUT: true; the input reads as it did. -/
def modelGetSpec : ChangeSpec := { name := "modelGet", fn := fun _ => fun
  | [d] => { results := [.lit (.bool true)], args := [d] }
  | _ => none }
def modelGetRow : OpenClaim := { program := "ytdlpibhecdfbcaagreatdoor", sum := "c616a3776e0f491da1337ea1dd5b9a05fa77137a9bb06186ffb38282b2291736", func := "silo/silolaw22.ModelGet", spec := "modelGet", inPlace := ["internal/bytealg.abigen_runtime_cmpstring", "internal/bytealg.IndexByteString", "internal/bytealg.IndexString", "internal/bytealg.CountString", "slices.overlaps[silo/api.Thing]", "slices.overlaps[silo/api.Tag]"], unfollowed := true, recurses := true, named := ["internal/bytealg.MaxLen", "unicode/utf8.first", "unicode/utf8.acceptRanges"], apart := false, laid := [("unicode/utf8.acceptRanges", laid_unicode_utf8_acceptRanges), ("unicode/utf8.first", laid_unicode_utf8_first)] }
def ModelGetSaid : Prop := modelGetRow.holds Tryz.pinned (OpenSpec.ofChange modelGetSpec)

/-- ITS FALSE NEIGHBOUR: 'it returns false'. Refute it at one input. -/
def modelGetWrong : ChangeSpec := { name := "modelGet", fn := fun _ => fun
  | [d] => { results := [.lit (.bool false)], args := [d] }
  | _ => none }
def ModelGetWrongFalsely : Prop := modelGetRow.holds Tryz.pinned (OpenSpec.ofChange modelGetWrong)

/-- 'silolaw22.ModelStat': WHATEVER THE INPUT: true; the input reads as it did. -/
def modelStatSpec : ChangeSpec := { name := "modelStat", fn := fun _ => fun
  | [d] => { results := [.lit (.bool true)], args := [d] }
  | _ => none }
def modelStatRow : OpenClaim := { program := "ytdlpibhecdfbcaagreatdoor", sum := "c616a3776e0f491da1337ea1dd5b9a05fa77137a9bb06186ffb38282b2291736", func := "silo/silolaw22.ModelStat", spec := "modelStat", inPlace := ["internal/bytealg.abigen_runtime_cmpstring", "internal/bytealg.IndexByteString", "internal/bytealg.IndexString", "internal/bytealg.CountString", "slices.overlaps[silo/api.Thing]", "slices.overlaps[silo/api.Tag]"], unfollowed := true, recurses := true, named := ["internal/bytealg.MaxLen", "unicode/utf8.first", "unicode/utf8.acceptRanges"], apart := false, laid := [("unicode/utf8.acceptRanges", laid_unicode_utf8_acceptRanges), ("unicode/utf8.first", laid_unicode_utf8_first)] }
def ModelStatSaid : Prop := modelStatRow.holds Tryz.pinned (OpenSpec.ofChange modelStatSpec)

/-- ITS FALSE NEIGHBOUR: 'it returns false'. Refute it at one input. -/
def modelStatWrong : ChangeSpec := { name := "modelStat", fn := fun _ => fun
  | [d] => { results := [.lit (.bool false)], args := [d] }
  | _ => none }
def ModelStatWrongFalsely : Prop := modelStatRow.holds Tryz.pinned (OpenSpec.ofChange modelStatWrong)

/-- 'silolaw22.ModelRange': WHATEVER THE INPUT: true; the input reads as it did. -/
def modelRangeSpec : ChangeSpec := { name := "modelRange", fn := fun _ => fun
  | [d] => { results := [.lit (.bool true)], args := [d] }
  | _ => none }
def modelRangeRow : OpenClaim := { program := "ytdlpibhecdfbcaagreatdoor", sum := "c616a3776e0f491da1337ea1dd5b9a05fa77137a9bb06186ffb38282b2291736", func := "silo/silolaw22.ModelRange", spec := "modelRange", inPlace := ["internal/bytealg.abigen_runtime_cmpstring", "internal/bytealg.IndexByteString", "internal/bytealg.IndexString", "internal/bytealg.CountString", "slices.overlaps[silo/api.Thing]", "slices.overlaps[silo/api.Tag]"], unfollowed := true, recurses := true, named := ["internal/bytealg.MaxLen", "unicode/utf8.first", "unicode/utf8.acceptRanges"], apart := false, laid := [("unicode/utf8.acceptRanges", laid_unicode_utf8_acceptRanges), ("unicode/utf8.first", laid_unicode_utf8_first)] }
def ModelRangeSaid : Prop := modelRangeRow.holds Tryz.pinned (OpenSpec.ofChange modelRangeSpec)

/-- ITS FALSE NEIGHBOUR: 'it returns false'. Refute it at one input. -/
def modelRangeWrong : ChangeSpec := { name := "modelRange", fn := fun _ => fun
  | [d] => { results := [.lit (.bool false)], args := [d] }
  | _ => none }
def ModelRangeWrongFalsely : Prop := modelRangeRow.holds Tryz.pinned (OpenSpec.ofChange modelRangeWrong)

/- THE SECOND FORM. 'bulk': how many values and letters a reading holds, each counted each time it is reached (what is shared counts as often as it is met; a slice's spare places count too). A statement '..UptoSaid' is the law's where the arguments, and the package variables that the reading takes, are together of bulk at most 1048576: NARROWER than '..Said'. Prove '..Said' where nothing that the law and all that it calls make is longer than what came in: it says more and counts as full. Else prove '..UptoSaid'. A law counts once. -/
mutual
def uptoBulk {H : Type} : DataW H → Nat
  | .lit (.string bytes) => bytes.length + 1
  | .lit _ => 1
  | .nil => 1
  | .ptr d => uptoBulk d + 1
  | .slice elems spare => uptoBulkAll elems + uptoBulkAll spare + 1
  | .agg parts => uptoBulkAll parts + 1
  | .iface _ d => uptoBulk d + 1
  | .map entries => uptoBulkEntries entries + 1
  | .held _ => 1
def uptoBulkAll {H : Type} : List (DataW H) → Nat
  | [] => 0
  | d :: r => uptoBulk d + uptoBulkAll r
def uptoBulkEntries {H : Type} : List (Lit × DataW H) → Nat
  | [] => 0
  | x :: r => uptoBulkEntry x + uptoBulkEntries r
def uptoBulkEntry {H : Type} : Lit × DataW H → Nat
  | (.string bytes, d) => bytes.length + uptoBulk d + 1
  | (_, d) => uptoBulk d + 1
 end
def uptoSmall : (H : Type) → List (DataW H) → Bool := fun _ ds => decide (uptoBulkAll ds ≤ 1048576)
def OpenSpec.upto (s : _root_.Go.ChangeSpec) : _root_.Go.OpenSpec := { _root_.Go.OpenSpec.ofChange s with cond := some uptoSmall }

/-- 'silolaw22.ModelWhole', WHERE WHAT IT READS IS OF BULK AT MOST 1048576: true; the input reads as it did. -/
def modelWholeUptoRow : OpenClaim := { program := "ytdlpibhecdfbcaagreatdoor", sum := "c616a3776e0f491da1337ea1dd5b9a05fa77137a9bb06186ffb38282b2291736", func := "silo/silolaw22.ModelWhole", spec := "modelWhole", inPlace := ["internal/bytealg.abigen_runtime_cmpstring", "internal/bytealg.IndexByteString", "internal/bytealg.IndexString", "internal/bytealg.CountString", "slices.overlaps[silo/api.Thing]", "slices.overlaps[silo/api.Tag]"], unfollowed := true, recurses := true, named := ["internal/bytealg.MaxLen", "unicode/utf8.first", "unicode/utf8.acceptRanges"], apart := false, laid := [("unicode/utf8.acceptRanges", laid_unicode_utf8_acceptRanges), ("unicode/utf8.first", laid_unicode_utf8_first)], narrowed := true }
def ModelWholeUptoSaid : Prop := modelWholeUptoRow.holds Tryz.pinned (OpenSpec.upto modelWholeSpec)

/-- 'silolaw22.ModelDoes', WHERE WHAT IT READS IS OF BULK AT MOST 1048576: true; the input reads as it did. -/
def modelDoesUptoRow : OpenClaim := { program := "ytdlpibhecdfbcaagreatdoor", sum := "c616a3776e0f491da1337ea1dd5b9a05fa77137a9bb06186ffb38282b2291736", func := "silo/silolaw22.ModelDoes", spec := "modelDoes", inPlace := ["internal/bytealg.abigen_runtime_cmpstring", "internal/bytealg.IndexByteString", "internal/bytealg.IndexString", "internal/bytealg.CountString", "slices.overlaps[silo/api.Thing]", "slices.overlaps[silo/api.Tag]"], unfollowed := true, recurses := true, named := ["internal/bytealg.MaxLen", "unicode/utf8.first", "unicode/utf8.acceptRanges"], apart := false, laid := [("unicode/utf8.acceptRanges", laid_unicode_utf8_acceptRanges), ("unicode/utf8.first", laid_unicode_utf8_first)], narrowed := true }
def ModelDoesUptoSaid : Prop := modelDoesUptoRow.holds Tryz.pinned (OpenSpec.upto modelDoesSpec)

/-- 'silolaw22.ModelUploads', WHERE WHAT IT READS IS OF BULK AT MOST 1048576: true; the input reads as it did. -/
def modelUploadsUptoRow : OpenClaim := { program := "ytdlpibhecdfbcaagreatdoor", sum := "c616a3776e0f491da1337ea1dd5b9a05fa77137a9bb06186ffb38282b2291736", func := "silo/silolaw22.ModelUploads", spec := "modelUploads", inPlace := ["internal/bytealg.abigen_runtime_cmpstring", "internal/bytealg.IndexByteString", "internal/bytealg.IndexString", "internal/bytealg.CountString", "slices.overlaps[silo/api.Thing]", "slices.overlaps[silo/api.Tag]"], unfollowed := true, recurses := true, named := ["internal/bytealg.MaxLen", "unicode/utf8.first", "unicode/utf8.acceptRanges"], apart := false, laid := [("unicode/utf8.acceptRanges", laid_unicode_utf8_acceptRanges), ("unicode/utf8.first", laid_unicode_utf8_first)], narrowed := true }
def ModelUploadsUptoSaid : Prop := modelUploadsUptoRow.holds Tryz.pinned (OpenSpec.upto modelUploadsSpec)

/-- 'silolaw22.ModelReads', WHERE WHAT IT READS IS OF BULK AT MOST 1048576: true; the input reads as it did. -/
def modelReadsUptoRow : OpenClaim := { program := "ytdlpibhecdfbcaagreatdoor", sum := "c616a3776e0f491da1337ea1dd5b9a05fa77137a9bb06186ffb38282b2291736", func := "silo/silolaw22.ModelReads", spec := "modelReads", inPlace := ["internal/bytealg.abigen_runtime_cmpstring", "internal/bytealg.IndexByteString", "internal/bytealg.IndexString", "internal/bytealg.CountString", "slices.overlaps[silo/api.Thing]", "slices.overlaps[silo/api.Tag]"], unfollowed := true, recurses := true, named := ["internal/bytealg.MaxLen", "unicode/utf8.first", "unicode/utf8.acceptRanges"], apart := false, laid := [("unicode/utf8.acceptRanges", laid_unicode_utf8_acceptRanges), ("unicode/utf8.first", laid_unicode_utf8_first)], narrowed := true }
def ModelReadsUptoSaid : Prop := modelReadsUptoRow.holds Tryz.pinned (OpenSpec.upto modelReadsSpec)

/-- 'silolaw22.ModelManifests', WHERE WHAT IT READS IS OF BULK AT MOST 1048576: true; the input reads as it did. -/
def modelManifestsUptoRow : OpenClaim := { program := "ytdlpibhecdfbcaagreatdoor", sum := "c616a3776e0f491da1337ea1dd5b9a05fa77137a9bb06186ffb38282b2291736", func := "silo/silolaw22.ModelManifests", spec := "modelManifests", inPlace := ["internal/bytealg.abigen_runtime_cmpstring", "internal/bytealg.IndexByteString", "internal/bytealg.IndexString", "internal/bytealg.CountString", "slices.overlaps[silo/api.Thing]", "slices.overlaps[silo/api.Tag]"], unfollowed := true, recurses := true, named := ["internal/bytealg.MaxLen", "unicode/utf8.first", "unicode/utf8.acceptRanges"], apart := false, laid := [("unicode/utf8.acceptRanges", laid_unicode_utf8_acceptRanges), ("unicode/utf8.first", laid_unicode_utf8_first)], narrowed := true }
def ModelManifestsUptoSaid : Prop := modelManifestsUptoRow.holds Tryz.pinned (OpenSpec.upto modelManifestsSpec)

/-- 'silolaw22.ModelTags', WHERE WHAT IT READS IS OF BULK AT MOST 1048576: true; the input reads as it did. -/
def modelTagsUptoRow : OpenClaim := { program := "ytdlpibhecdfbcaagreatdoor", sum := "c616a3776e0f491da1337ea1dd5b9a05fa77137a9bb06186ffb38282b2291736", func := "silo/silolaw22.ModelTags", spec := "modelTags", inPlace := ["internal/bytealg.abigen_runtime_cmpstring", "internal/bytealg.IndexByteString", "internal/bytealg.IndexString", "internal/bytealg.CountString", "slices.overlaps[silo/api.Thing]", "slices.overlaps[silo/api.Tag]"], unfollowed := true, recurses := true, named := ["internal/bytealg.MaxLen", "unicode/utf8.first", "unicode/utf8.acceptRanges"], apart := false, laid := [("unicode/utf8.acceptRanges", laid_unicode_utf8_acceptRanges), ("unicode/utf8.first", laid_unicode_utf8_first)], narrowed := true }
def ModelTagsUptoSaid : Prop := modelTagsUptoRow.holds Tryz.pinned (OpenSpec.upto modelTagsSpec)

/-- 'silolaw22.ModelStart', WHERE WHAT IT READS IS OF BULK AT MOST 1048576: true; the input reads as it did. -/
def modelStartUptoRow : OpenClaim := { program := "ytdlpibhecdfbcaagreatdoor", sum := "c616a3776e0f491da1337ea1dd5b9a05fa77137a9bb06186ffb38282b2291736", func := "silo/silolaw22.ModelStart", spec := "modelStart", inPlace := ["internal/bytealg.abigen_runtime_cmpstring", "internal/bytealg.IndexByteString", "internal/bytealg.IndexString", "internal/bytealg.CountString", "slices.overlaps[silo/api.Thing]", "slices.overlaps[silo/api.Tag]"], unfollowed := true, recurses := true, named := ["internal/bytealg.MaxLen", "unicode/utf8.first", "unicode/utf8.acceptRanges"], apart := false, laid := [("unicode/utf8.acceptRanges", laid_unicode_utf8_acceptRanges), ("unicode/utf8.first", laid_unicode_utf8_first)], narrowed := true }
def ModelStartUptoSaid : Prop := modelStartUptoRow.holds Tryz.pinned (OpenSpec.upto modelStartSpec)

/-- 'silolaw22.ModelChunk', WHERE WHAT IT READS IS OF BULK AT MOST 1048576: true; the input reads as it did. -/
def modelChunkUptoRow : OpenClaim := { program := "ytdlpibhecdfbcaagreatdoor", sum := "c616a3776e0f491da1337ea1dd5b9a05fa77137a9bb06186ffb38282b2291736", func := "silo/silolaw22.ModelChunk", spec := "modelChunk", inPlace := ["internal/bytealg.abigen_runtime_cmpstring", "internal/bytealg.IndexByteString", "internal/bytealg.IndexString", "internal/bytealg.CountString", "slices.overlaps[silo/api.Thing]", "slices.overlaps[silo/api.Tag]"], unfollowed := true, recurses := true, named := ["internal/bytealg.MaxLen", "unicode/utf8.first", "unicode/utf8.acceptRanges"], apart := false, laid := [("unicode/utf8.acceptRanges", laid_unicode_utf8_acceptRanges), ("unicode/utf8.first", laid_unicode_utf8_first)], narrowed := true }
def ModelChunkUptoSaid : Prop := modelChunkUptoRow.holds Tryz.pinned (OpenSpec.upto modelChunkSpec)

/-- 'silolaw22.ModelFinish', WHERE WHAT IT READS IS OF BULK AT MOST 1048576: true; the input reads as it did. -/
def modelFinishUptoRow : OpenClaim := { program := "ytdlpibhecdfbcaagreatdoor", sum := "c616a3776e0f491da1337ea1dd5b9a05fa77137a9bb06186ffb38282b2291736", func := "silo/silolaw22.ModelFinish", spec := "modelFinish", inPlace := ["internal/bytealg.abigen_runtime_cmpstring", "internal/bytealg.IndexByteString", "internal/bytealg.IndexString", "internal/bytealg.CountString", "slices.overlaps[silo/api.Thing]", "slices.overlaps[silo/api.Tag]"], unfollowed := true, recurses := true, named := ["internal/bytealg.MaxLen", "unicode/utf8.first", "unicode/utf8.acceptRanges"], apart := false, laid := [("unicode/utf8.acceptRanges", laid_unicode_utf8_acceptRanges), ("unicode/utf8.first", laid_unicode_utf8_first)], narrowed := true }
def ModelFinishUptoSaid : Prop := modelFinishUptoRow.holds Tryz.pinned (OpenSpec.upto modelFinishSpec)

/-- 'silolaw22.ModelGet', WHERE WHAT IT READS IS OF BULK AT MOST 1048576: true; the input reads as it did. -/
def modelGetUptoRow : OpenClaim := { program := "ytdlpibhecdfbcaagreatdoor", sum := "c616a3776e0f491da1337ea1dd5b9a05fa77137a9bb06186ffb38282b2291736", func := "silo/silolaw22.ModelGet", spec := "modelGet", inPlace := ["internal/bytealg.abigen_runtime_cmpstring", "internal/bytealg.IndexByteString", "internal/bytealg.IndexString", "internal/bytealg.CountString", "slices.overlaps[silo/api.Thing]", "slices.overlaps[silo/api.Tag]"], unfollowed := true, recurses := true, named := ["internal/bytealg.MaxLen", "unicode/utf8.first", "unicode/utf8.acceptRanges"], apart := false, laid := [("unicode/utf8.acceptRanges", laid_unicode_utf8_acceptRanges), ("unicode/utf8.first", laid_unicode_utf8_first)], narrowed := true }
def ModelGetUptoSaid : Prop := modelGetUptoRow.holds Tryz.pinned (OpenSpec.upto modelGetSpec)

/-- 'silolaw22.ModelStat', WHERE WHAT IT READS IS OF BULK AT MOST 1048576: true; the input reads as it did. -/
def modelStatUptoRow : OpenClaim := { program := "ytdlpibhecdfbcaagreatdoor", sum := "c616a3776e0f491da1337ea1dd5b9a05fa77137a9bb06186ffb38282b2291736", func := "silo/silolaw22.ModelStat", spec := "modelStat", inPlace := ["internal/bytealg.abigen_runtime_cmpstring", "internal/bytealg.IndexByteString", "internal/bytealg.IndexString", "internal/bytealg.CountString", "slices.overlaps[silo/api.Thing]", "slices.overlaps[silo/api.Tag]"], unfollowed := true, recurses := true, named := ["internal/bytealg.MaxLen", "unicode/utf8.first", "unicode/utf8.acceptRanges"], apart := false, laid := [("unicode/utf8.acceptRanges", laid_unicode_utf8_acceptRanges), ("unicode/utf8.first", laid_unicode_utf8_first)], narrowed := true }
def ModelStatUptoSaid : Prop := modelStatUptoRow.holds Tryz.pinned (OpenSpec.upto modelStatSpec)

/-- 'silolaw22.ModelRange', WHERE WHAT IT READS IS OF BULK AT MOST 1048576: true; the input reads as it did. -/
def modelRangeUptoRow : OpenClaim := { program := "ytdlpibhecdfbcaagreatdoor", sum := "c616a3776e0f491da1337ea1dd5b9a05fa77137a9bb06186ffb38282b2291736", func := "silo/silolaw22.ModelRange", spec := "modelRange", inPlace := ["internal/bytealg.abigen_runtime_cmpstring", "internal/bytealg.IndexByteString", "internal/bytealg.IndexString", "internal/bytealg.CountString", "slices.overlaps[silo/api.Thing]", "slices.overlaps[silo/api.Tag]"], unfollowed := true, recurses := true, named := ["internal/bytealg.MaxLen", "unicode/utf8.first", "unicode/utf8.acceptRanges"], apart := false, laid := [("unicode/utf8.acceptRanges", laid_unicode_utf8_acceptRanges), ("unicode/utf8.first", laid_unicode_utf8_first)], narrowed := true }
def ModelRangeUptoSaid : Prop := modelRangeUptoRow.holds Tryz.pinned (OpenSpec.upto modelRangeSpec)

end Rows
end Go.Proofs.YtdlpibhecdfbcaaGreatDoor
