/-
  NARROWER THAN 'FOR EVERY INPUT', by the rows' own cells (each row's printed sentence says how): ModelDelete: laid · ModelManifest: laid · ModelTag: laid · ModelFind: laid · ModelUntag: laid · ModelSweep: laid · ModelAbort: laid.
  DERIVED. THE GIVEN ROWS OF THIS SEAT. 7 by the template 'for every input the law returns true; each argument reads behind the call as it read before'; 0 by the template 'total and deterministic' (their statements: YtdlpibhecdfbcabGreatDoorTotals.lean).
  GIVEN WITH THE SEED: the statements are not yours to turn. If you find one false, say at which input.
  Laid BY PROGRAM, IN A SANDBOX (cutbox-rows.mjs): the forced cells as the released guide's own fill.sh prints them over the translation 57d5994e521d2835… (all of the seat's roots in one cut). By AI agents, Wed Nov 11 2026. No macro, syntax, notation, axiom, sorry.
-/
import Derived.Test.YtdlpibhecdfbcabGreatDoorChecked
import GoSem.PinnedTables
import GoSem.Claim
import GoSem.ClaimJoined
import GoSem.ClaimMapViews
import Derived.JoinedTies
import Derived.KernelRfl
namespace Go.Proofs.YtdlpibhecdfbcabGreatDoor
/- THE CELL 'sum', in the pinned program and in every row, IS THE sha256 OF THE DUMP (.gsa) THAT YtdlpibhecdfbcabGreatDoorProg.lean LOADS. Nothing in Lean hashes anything: it is a label: what it is worth is what the hold of that sum in a sandbox is worth. -/
noncomputable def Tryz.pinned : Pinned := { name := "ytdlpibhecdfbcabgreatdoor", sum := "57d5994e521d2835088b33353fb2c197d9d8b067e83607c6f874565aed7d99d9", checked := Tryz.checked }
namespace Rows
def none {H : Type} : Left H := { results := [], args := [] }

/- WHAT THE LISTED PACKAGE-LEVEL VARIABLES READ AS WHEN THE CALL BEGINS. Each datum BY PROGRAM (the guide's laid-datum.mjs) off the statement by which the dump's own 'gosem.cut.vars' lays the variable. In a bare row this is a premise. The card (YtdlpibhecdfbcabGreatDoorCards.lean) ties it to the program's text. -/
def laid_unicode_utf8_acceptRanges {H : Type} : DataW H := .agg [.agg [.lit (.int .u8 128), .lit (.int .u8 191)], .agg [.lit (.int .u8 160), .lit (.int .u8 191)], .agg [.lit (.int .u8 128), .lit (.int .u8 159)], .agg [.lit (.int .u8 144), .lit (.int .u8 191)], .agg [.lit (.int .u8 128), .lit (.int .u8 143)], .agg [.lit (.int .u8 0), .lit (.int .u8 0)], .agg [.lit (.int .u8 0), .lit (.int .u8 0)], .agg [.lit (.int .u8 0), .lit (.int .u8 0)], .agg [.lit (.int .u8 0), .lit (.int .u8 0)], .agg [.lit (.int .u8 0), .lit (.int .u8 0)], .agg [.lit (.int .u8 0), .lit (.int .u8 0)], .agg [.lit (.int .u8 0), .lit (.int .u8 0)], .agg [.lit (.int .u8 0), .lit (.int .u8 0)], .agg [.lit (.int .u8 0), .lit (.int .u8 0)], .agg [.lit (.int .u8 0), .lit (.int .u8 0)], .agg [.lit (.int .u8 0), .lit (.int .u8 0)]]
/-- One of Go's own tables, pinned by name: the form's constant. -/
def laid_unicode_utf8_first : DataW Unit := Go.Pinned.utf8First

/-- 'silolaw22.ModelDelete': WHATEVER THE INPUT: true; the input reads as it did. -/
def modelDeleteSpec : ChangeSpec := { name := "modelDelete", fn := fun _ => fun
  | [d] => { results := [.lit (.bool true)], args := [d] }
  | _ => none }
def modelDeleteRow : OpenClaim := { program := "ytdlpibhecdfbcabgreatdoor", sum := "57d5994e521d2835088b33353fb2c197d9d8b067e83607c6f874565aed7d99d9", func := "silo/silolaw22.ModelDelete", spec := "modelDelete", inPlace := ["internal/bytealg.abigen_runtime_cmpstring", "internal/bytealg.IndexByteString", "internal/bytealg.IndexString", "internal/bytealg.CountString", "slices.overlaps[silo/api.Thing]", "slices.overlaps[silo/api.Tag]"], unfollowed := true, recurses := true, named := ["internal/bytealg.MaxLen", "unicode/utf8.first", "unicode/utf8.acceptRanges"], apart := false, laid := [("unicode/utf8.acceptRanges", laid_unicode_utf8_acceptRanges), ("unicode/utf8.first", laid_unicode_utf8_first)] }
def ModelDeleteSaid : Prop := modelDeleteRow.holds Tryz.pinned (OpenSpec.ofChange modelDeleteSpec)

/-- ITS FALSE NEIGHBOUR: 'it returns false'. Refute it at one input. -/
def modelDeleteWrong : ChangeSpec := { name := "modelDelete", fn := fun _ => fun
  | [d] => { results := [.lit (.bool false)], args := [d] }
  | _ => none }
def ModelDeleteWrongFalsely : Prop := modelDeleteRow.holds Tryz.pinned (OpenSpec.ofChange modelDeleteWrong)

/-- 'silolaw22.ModelManifest': WHATEVER THE INPUT: true; the input reads as it did. -/
def modelManifestSpec : ChangeSpec := { name := "modelManifest", fn := fun _ => fun
  | [d] => { results := [.lit (.bool true)], args := [d] }
  | _ => none }
def modelManifestRow : OpenClaim := { program := "ytdlpibhecdfbcabgreatdoor", sum := "57d5994e521d2835088b33353fb2c197d9d8b067e83607c6f874565aed7d99d9", func := "silo/silolaw22.ModelManifest", spec := "modelManifest", inPlace := ["internal/bytealg.abigen_runtime_cmpstring", "internal/bytealg.IndexByteString", "internal/bytealg.IndexString", "internal/bytealg.CountString", "slices.overlaps[silo/api.Thing]", "slices.overlaps[silo/api.Tag]"], unfollowed := true, recurses := true, named := ["internal/bytealg.MaxLen", "unicode/utf8.first", "unicode/utf8.acceptRanges"], apart := false, laid := [("unicode/utf8.acceptRanges", laid_unicode_utf8_acceptRanges), ("unicode/utf8.first", laid_unicode_utf8_first)] }
def ModelManifestSaid : Prop := modelManifestRow.holds Tryz.pinned (OpenSpec.ofChange modelManifestSpec)

/-- ITS FALSE NEIGHBOUR: 'it returns false'. Refute it at one input. -/
def modelManifestWrong : ChangeSpec := { name := "modelManifest", fn := fun _ => fun
  | [d] => { results := [.lit (.bool false)], args := [d] }
  | _ => none }
def ModelManifestWrongFalsely : Prop := modelManifestRow.holds Tryz.pinned (OpenSpec.ofChange modelManifestWrong)

/-- 'silolaw22.ModelTag': WHATEVER THE INPUT: true; the input reads as it did. -/
def modelTagSpec : ChangeSpec := { name := "modelTag", fn := fun _ => fun
  | [d] => { results := [.lit (.bool true)], args := [d] }
  | _ => none }
def modelTagRow : OpenClaim := { program := "ytdlpibhecdfbcabgreatdoor", sum := "57d5994e521d2835088b33353fb2c197d9d8b067e83607c6f874565aed7d99d9", func := "silo/silolaw22.ModelTag", spec := "modelTag", inPlace := ["internal/bytealg.abigen_runtime_cmpstring", "internal/bytealg.IndexByteString", "internal/bytealg.IndexString", "internal/bytealg.CountString", "slices.overlaps[silo/api.Thing]", "slices.overlaps[silo/api.Tag]"], unfollowed := true, recurses := true, named := ["internal/bytealg.MaxLen", "unicode/utf8.first", "unicode/utf8.acceptRanges"], apart := false, laid := [("unicode/utf8.acceptRanges", laid_unicode_utf8_acceptRanges), ("unicode/utf8.first", laid_unicode_utf8_first)] }
def ModelTagSaid : Prop := modelTagRow.holds Tryz.pinned (OpenSpec.ofChange modelTagSpec)

/-- ITS FALSE NEIGHBOUR: 'it returns false'. Refute it at one input. -/
def modelTagWrong : ChangeSpec := { name := "modelTag", fn := fun _ => fun
  | [d] => { results := [.lit (.bool false)], args := [d] }
  | _ => none }
def ModelTagWrongFalsely : Prop := modelTagRow.holds Tryz.pinned (OpenSpec.ofChange modelTagWrong)

/-- 'silolaw22.ModelFind': WHATEVER THE INPUT: true; the input reads as it did. -/
def modelFindSpec : ChangeSpec := { name := "modelFind", fn := fun _ => fun
  | [d] => { results := [.lit (.bool true)], args := [d] }
  | _ => none }
def modelFindRow : OpenClaim := { program := "ytdlpibhecdfbcabgreatdoor", sum := "57d5994e521d2835088b33353fb2c197d9d8b067e83607c6f874565aed7d99d9", func := "silo/silolaw22.ModelFind", spec := "modelFind", inPlace := ["internal/bytealg.abigen_runtime_cmpstring", "internal/bytealg.IndexByteString", "internal/bytealg.IndexString", "internal/bytealg.CountString", "slices.overlaps[silo/api.Thing]", "slices.overlaps[silo/api.Tag]"], unfollowed := true, recurses := true, named := ["internal/bytealg.MaxLen", "unicode/utf8.first", "unicode/utf8.acceptRanges"], apart := false, laid := [("unicode/utf8.acceptRanges", laid_unicode_utf8_acceptRanges), ("unicode/utf8.first", laid_unicode_utf8_first)] }
def ModelFindSaid : Prop := modelFindRow.holds Tryz.pinned (OpenSpec.ofChange modelFindSpec)

/-- ITS FALSE NEIGHBOUR: 'it returns false'. Refute it at one input. -/
def modelFindWrong : ChangeSpec := { name := "modelFind", fn := fun _ => fun
  | [d] => { results := [.lit (.bool false)], args := [d] }
  | _ => none }
def ModelFindWrongFalsely : Prop := modelFindRow.holds Tryz.pinned (OpenSpec.ofChange modelFindWrong)

/-- 'silolaw22.ModelUntag': WHATEVER THE INPUT: true; the input reads as it did. -/
def modelUntagSpec : ChangeSpec := { name := "modelUntag", fn := fun _ => fun
  | [d] => { results := [.lit (.bool true)], args := [d] }
  | _ => none }
def modelUntagRow : OpenClaim := { program := "ytdlpibhecdfbcabgreatdoor", sum := "57d5994e521d2835088b33353fb2c197d9d8b067e83607c6f874565aed7d99d9", func := "silo/silolaw22.ModelUntag", spec := "modelUntag", inPlace := ["internal/bytealg.abigen_runtime_cmpstring", "internal/bytealg.IndexByteString", "internal/bytealg.IndexString", "internal/bytealg.CountString", "slices.overlaps[silo/api.Thing]", "slices.overlaps[silo/api.Tag]"], unfollowed := true, recurses := true, named := ["internal/bytealg.MaxLen", "unicode/utf8.first", "unicode/utf8.acceptRanges"], apart := false, laid := [("unicode/utf8.acceptRanges", laid_unicode_utf8_acceptRanges), ("unicode/utf8.first", laid_unicode_utf8_first)] }
def ModelUntagSaid : Prop := modelUntagRow.holds Tryz.pinned (OpenSpec.ofChange modelUntagSpec)

/-- ITS FALSE NEIGHBOUR: 'it returns false'. Refute it at one input. -/
def modelUntagWrong : ChangeSpec := { name := "modelUntag", fn := fun _ => fun
  | [d] => { results := [.lit (.bool false)], args := [d] }
  | _ => none }
def ModelUntagWrongFalsely : Prop := modelUntagRow.holds Tryz.pinned (OpenSpec.ofChange modelUntagWrong)

/-- 'silolaw22.ModelSweep': WHATEVER THE INPUT: true; the input reads as it did. -/
def modelSweepSpec : ChangeSpec := { name := "modelSweep", fn := fun _ => fun
  | [d] => { results := [.lit (.bool true)], args := [d] }
  | _ => none }
def modelSweepRow : OpenClaim := { program := "ytdlpibhecdfbcabgreatdoor", sum := "57d5994e521d2835088b33353fb2c197d9d8b067e83607c6f874565aed7d99d9", func := "silo/silolaw22.ModelSweep", spec := "modelSweep", inPlace := ["internal/bytealg.abigen_runtime_cmpstring", "internal/bytealg.IndexByteString", "internal/bytealg.IndexString", "internal/bytealg.CountString", "slices.overlaps[silo/api.Thing]", "slices.overlaps[silo/api.Tag]"], unfollowed := true, recurses := true, named := ["internal/bytealg.MaxLen", "unicode/utf8.first", "unicode/utf8.acceptRanges"], apart := false, laid := [("unicode/utf8.acceptRanges", laid_unicode_utf8_acceptRanges), ("unicode/utf8.first", laid_unicode_utf8_first)] }
def ModelSweepSaid : Prop := modelSweepRow.holds Tryz.pinned (OpenSpec.ofChange modelSweepSpec)

/-- ITS FALSE NEIGHBOUR: 'it returns false'. Refute it at one input. -/
def modelSweepWrong : ChangeSpec := { name := "modelSweep", fn := fun _ => fun
  | [d] => { results := [.lit (.bool false)], args := [d] }
  | _ => none }
def ModelSweepWrongFalsely : Prop := modelSweepRow.holds Tryz.pinned (OpenSpec.ofChange modelSweepWrong)

/-- 'silolaw22.ModelAbort': WHATEVER THE INPUT: true; the input reads as it did. -/
def modelAbortSpec : ChangeSpec := { name := "modelAbort", fn := fun _ => fun
  | [d] => { results := [.lit (.bool true)], args := [d] }
  | _ => none }
def modelAbortRow : OpenClaim := { program := "ytdlpibhecdfbcabgreatdoor", sum := "57d5994e521d2835088b33353fb2c197d9d8b067e83607c6f874565aed7d99d9", func := "silo/silolaw22.ModelAbort", spec := "modelAbort", inPlace := ["internal/bytealg.abigen_runtime_cmpstring", "internal/bytealg.IndexByteString", "internal/bytealg.IndexString", "internal/bytealg.CountString", "slices.overlaps[silo/api.Thing]", "slices.overlaps[silo/api.Tag]"], unfollowed := true, recurses := true, named := ["internal/bytealg.MaxLen", "unicode/utf8.first", "unicode/utf8.acceptRanges"], apart := false, laid := [("unicode/utf8.acceptRanges", laid_unicode_utf8_acceptRanges), ("unicode/utf8.first", laid_unicode_utf8_first)] }
def ModelAbortSaid : Prop := modelAbortRow.holds Tryz.pinned (OpenSpec.ofChange modelAbortSpec)

/-- ITS FALSE NEIGHBOUR: 'it returns false'. Refute it at one input. -/
def modelAbortWrong : ChangeSpec := { name := "modelAbort", fn := fun _ => fun
  | [d] => { results := [.lit (.bool false)], args := [d] }
  | _ => none }
def ModelAbortWrongFalsely : Prop := modelAbortRow.holds Tryz.pinned (OpenSpec.ofChange modelAbortWrong)

/- THE SECOND FORM. 'bulk': how many values and letters a reading holds, each counted each time it is reached (what is shared counts as often as it is met; a slice's spare places count too). A statement '..UptoSaid' is the law's where the arguments, and the package variables that the reading takes, are together of bulk at most 1048576: NARROWER than '..Said'. Prove '..Said' where nothing that the law and all that it calls make is longer than what came in: it says more and counts as full. Else prove '..UptoSaid'. A law counts once. -/
mutual
def uptoBulk {H : Type} : DataW H → Nat
  | .lit (.string bytes) => bytes.length + 1
  | .lit _ => 1
  | .nil => 1
  | .ptr d => uptoBulk d + 1
  | .slice elems spare => uptoBulkAll elems + uptoBulkAll spare + 1
  | .agg parts => uptoBulkAll parts + 1
  | .iface _ d => uptoBulk d + 1
  | .map entries => uptoBulkEntries entries + 1
  | .held _ => 1
def uptoBulkAll {H : Type} : List (DataW H) → Nat
  | [] => 0
  | d :: r => uptoBulk d + uptoBulkAll r
def uptoBulkEntries {H : Type} : List (Lit × DataW H) → Nat
  | [] => 0
  | x :: r => uptoBulkEntry x + uptoBulkEntries r
def uptoBulkEntry {H : Type} : Lit × DataW H → Nat
  | (.string bytes, d) => bytes.length + uptoBulk d + 1
  | (_, d) => uptoBulk d + 1
 end
def uptoSmall : (H : Type) → List (DataW H) → Bool := fun _ ds => decide (uptoBulkAll ds ≤ 1048576)
def OpenSpec.upto (s : _root_.Go.ChangeSpec) : _root_.Go.OpenSpec := { _root_.Go.OpenSpec.ofChange s with cond := some uptoSmall }

/-- 'silolaw22.ModelDelete', WHERE WHAT IT READS IS OF BULK AT MOST 1048576: true; the input reads as it did. -/
def modelDeleteUptoRow : OpenClaim := { program := "ytdlpibhecdfbcabgreatdoor", sum := "57d5994e521d2835088b33353fb2c197d9d8b067e83607c6f874565aed7d99d9", func := "silo/silolaw22.ModelDelete", spec := "modelDelete", inPlace := ["internal/bytealg.abigen_runtime_cmpstring", "internal/bytealg.IndexByteString", "internal/bytealg.IndexString", "internal/bytealg.CountString", "slices.overlaps[silo/api.Thing]", "slices.overlaps[silo/api.Tag]"], unfollowed := true, recurses := true, named := ["internal/bytealg.MaxLen", "unicode/utf8.first", "unicode/utf8.acceptRanges"], apart := false, laid := [("unicode/utf8.acceptRanges", laid_unicode_utf8_acceptRanges), ("unicode/utf8.first", laid_unicode_utf8_first)], narrowed := true }
def ModelDeleteUptoSaid : Prop := modelDeleteUptoRow.holds Tryz.pinned (OpenSpec.upto modelDeleteSpec)

/-- 'silolaw22.ModelManifest', WHERE WHAT IT READS IS OF BULK AT MOST 1048576: true; the input reads as it did. -/
def modelManifestUptoRow : OpenClaim := { program := "ytdlpibhecdfbcabgreatdoor", sum := "57d5994e521d2835088b33353fb2c197d9d8b067e83607c6f874565aed7d99d9", func := "silo/silolaw22.ModelManifest", spec := "modelManifest", inPlace := ["internal/bytealg.abigen_runtime_cmpstring", "internal/bytealg.IndexByteString", "internal/bytealg.IndexString", "internal/bytealg.CountString", "slices.overlaps[silo/api.Thing]", "slices.overlaps[silo/api.Tag]"], unfollowed := true, recurses := true, named := ["internal/bytealg.MaxLen", "unicode/utf8.first", "unicode/utf8.acceptRanges"], apart := false, laid := [("unicode/utf8.acceptRanges", laid_unicode_utf8_acceptRanges), ("unicode/utf8.first", laid_unicode_utf8_first)], narrowed := true }
def ModelManifestUptoSaid : Prop := modelManifestUptoRow.holds Tryz.pinned (OpenSpec.upto modelManifestSpec)

/-- 'silolaw22.ModelTag', WHERE WHAT IT READS IS OF BULK AT MOST 1048576: true; the input reads as it did. -/
def modelTagUptoRow : OpenClaim := { program := "ytdlpibhecdfbcabgreatdoor", sum := "57d5994e521d2835088b33353fb2c197d9d8b067e83607c6f874565aed7d99d9", func := "silo/silolaw22.ModelTag", spec := "modelTag", inPlace := ["internal/bytealg.abigen_runtime_cmpstring", "internal/bytealg.IndexByteString", "internal/bytealg.IndexString", "internal/bytealg.CountString", "slices.overlaps[silo/api.Thing]", "slices.overlaps[silo/api.Tag]"], unfollowed := true, recurses := true, named := ["internal/bytealg.MaxLen", "unicode/utf8.first", "unicode/utf8.acceptRanges"], apart := false, laid := [("unicode/utf8.acceptRanges", laid_unicode_utf8_acceptRanges), ("unicode/utf8.first", laid_unicode_utf8_first)], narrowed := true }
def ModelTagUptoSaid : Prop := modelTagUptoRow.holds Tryz.pinned (OpenSpec.upto modelTagSpec)

/-- 'silolaw22.ModelFind', WHERE WHAT IT READS IS OF BULK AT MOST 1048576: true; the input reads as it did. -/
def modelFindUptoRow : OpenClaim := { program := "ytdlpibhecdfbcabgreatdoor", sum := "57d5994e521d2835088b33353fb2c197d9d8b067e83607c6f874565aed7d99d9", func := "silo/silolaw22.ModelFind", spec := "modelFind", inPlace := ["internal/bytealg.abigen_runtime_cmpstring", "internal/bytealg.IndexByteString", "internal/bytealg.IndexString", "internal/bytealg.CountString", "slices.overlaps[silo/api.Thing]", "slices.overlaps[silo/api.Tag]"], unfollowed := true, recurses := true, named := ["internal/bytealg.MaxLen", "unicode/utf8.first", "unicode/utf8.acceptRanges"], apart := false, laid := [("unicode/utf8.acceptRanges", laid_unicode_utf8_acceptRanges), ("unicode/utf8.first", laid_unicode_utf8_first)], narrowed := true }
def ModelFindUptoSaid : Prop := modelFindUptoRow.holds Tryz.pinned (OpenSpec.upto modelFindSpec)

/-- 'silolaw22.ModelUntag', WHERE WHAT IT READS IS OF BULK AT MOST 1048576: true; the input reads as it did. -/
def modelUntagUptoRow : OpenClaim := { program := "ytdlpibhecdfbcabgreatdoor", sum := "57d5994e521d2835088b33353fb2c197d9d8b067e83607c6f874565aed7d99d9", func := "silo/silolaw22.ModelUntag", spec := "modelUntag", inPlace := ["internal/bytealg.abigen_runtime_cmpstring", "internal/bytealg.IndexByteString", "internal/bytealg.IndexString", "internal/bytealg.CountString", "slices.overlaps[silo/api.Thing]", "slices.overlaps[silo/api.Tag]"], unfollowed := true, recurses := true, named := ["internal/bytealg.MaxLen", "unicode/utf8.first", "unicode/utf8.acceptRanges"], apart := false, laid := [("unicode/utf8.acceptRanges", laid_unicode_utf8_acceptRanges), ("unicode/utf8.first", laid_unicode_utf8_first)], narrowed := true }
def ModelUntagUptoSaid : Prop := modelUntagUptoRow.holds Tryz.pinned (OpenSpec.upto modelUntagSpec)

/-- 'silolaw22.ModelSweep', WHERE WHAT IT READS IS OF BULK AT MOST 1048576: true; the input reads as it did. -/
def modelSweepUptoRow : OpenClaim := { program := "ytdlpibhecdfbcabgreatdoor", sum := "57d5994e521d2835088b33353fb2c197d9d8b067e83607c6f874565aed7d99d9", func := "silo/silolaw22.ModelSweep", spec := "modelSweep", inPlace := ["internal/bytealg.abigen_runtime_cmpstring", "internal/bytealg.IndexByteString", "internal/bytealg.IndexString", "internal/bytealg.CountString", "slices.overlaps[silo/api.Thing]", "slices.overlaps[silo/api.Tag]"], unfollowed := true, recurses := true, named := ["internal/bytealg.MaxLen", "unicode/utf8.first", "unicode/utf8.acceptRanges"], apart := false, laid := [("unicode/utf8.acceptRanges", laid_unicode_utf8_acceptRanges), ("unicode/utf8.first", laid_unicode_utf8_first)], narrowed := true }
def ModelSweepUptoSaid : Prop := modelSweepUptoRow.holds Tryz.pinned (OpenSpec.upto modelSweepSpec)

/-- 'silolaw22.ModelAbort', WHERE WHAT IT READS IS OF BULK AT MOST 1048576: true; the input reads as it did. -/
def modelAbortUptoRow : OpenClaim := { program := "ytdlpibhecdfbcabgreatdoor", sum := "57d5994e521d2835088b33353fb2c197d9d8b067e83607c6f874565aed7d99d9", func := "silo/silolaw22.ModelAbort", spec := "modelAbort", inPlace := ["internal/bytealg.abigen_runtime_cmpstring", "internal/bytealg.IndexByteString", "internal/bytealg.IndexString", "internal/bytealg.CountString", "slices.overlaps[silo/api.Thing]", "slices.overlaps[silo/api.Tag]"], unfollowed := true, recurses := true, named := ["internal/bytealg.MaxLen", "unicode/utf8.first", "unicode/utf8.acceptRanges"], apart := false, laid := [("unicode/utf8.acceptRanges", laid_unicode_utf8_acceptRanges), ("unicode/utf8.first", laid_unicode_utf8_first)], narrowed := true }
def ModelAbortUptoSaid : Prop := modelAbortUptoRow.holds Tryz.pinned (OpenSpec.upto modelAbortSpec)

end Rows
end Go.Proofs.YtdlpibhecdfbcabGreatDoor
