/-
  No cell of these rows narrows 'for every input' (looked for: loops, veiled, ifaces, maps, wideKeys, modest, calm, conditions, laid).
  DERIVED. THE GIVEN ROWS OF THIS SEAT. 11 by the template 'for every input the law returns true; each argument reads behind the call as it read before'; 0 by the template 'total and deterministic' (their statements: YthlfolpcmcejkaaTotals.lean).
  GIVEN WITH THE SEED: the statements are not yours to turn. If you find one false, say at which input.
  Laid BY PROGRAM, IN A SANDBOX (cutbox-rows.mjs): the forced cells as the released guide's own fill.sh prints them over the translation 1927ef765a69a270… (all of the seat's roots in one cut). By AI agents, Wed Nov 11 2026. No macro, syntax, notation, axiom, sorry.
-/
import Derived.Test.YthlfolpcmcejkaaChecked
import GoSem.Claim
import GoSem.ClaimJoined
import GoSem.ClaimMapViews
import Derived.JoinedTies
import Derived.KernelRfl
namespace Go.Proofs.Ythlfolpcmcejkaa
/- THE CELL 'sum', in the pinned program and in every row, IS THE sha256 OF THE DUMP (.gsa) THAT YthlfolpcmcejkaaProg.lean LOADS. Nothing in Lean hashes anything: it is a label: what it is worth is what the hold of that sum in a sandbox is worth. -/
noncomputable def Try.pinned : Pinned := { name := "ythlfolpcmcejkaa", sum := "1927ef765a69a270cded1a8118ee8c0860790035d6f1f357d5730f52211f3302", checked := Try.checked }
namespace Rows
def none {H : Type} : Left H := { results := [], args := [] }

/-- 'silolaw13.RecordBytes': WHATEVER THE INPUT: true; the input reads as it did. -/
def recordBytesSpec : ChangeSpec := { name := "recordBytes", fn := fun _ => fun
  | [d] => { results := [.lit (.bool true)], args := [d] }
  | _ => none }
def recordBytesRow : OpenClaim := { program := "ythlfolpcmcejkaa", sum := "1927ef765a69a270cded1a8118ee8c0860790035d6f1f357d5730f52211f3302", func := "silo/silolaw13.RecordBytes", spec := "recordBytes", unfollowed := true, recurses := true, apart := false }
def RecordBytesSaid : Prop := recordBytesRow.holds Try.pinned (OpenSpec.ofChange recordBytesSpec)

/-- ITS FALSE NEIGHBOUR: 'it returns false'. Refute it at one input. -/
def recordBytesWrong : ChangeSpec := { name := "recordBytes", fn := fun _ => fun
  | [d] => { results := [.lit (.bool false)], args := [d] }
  | _ => none }
def RecordBytesWrongFalsely : Prop := recordBytesRow.holds Try.pinned (OpenSpec.ofChange recordBytesWrong)

/-- 'silolaw13.RecordPrepares': WHATEVER THE INPUT: true; the input reads as it did. -/
def recordPreparesSpec : ChangeSpec := { name := "recordPrepares", fn := fun _ => fun
  | [d] => { results := [.lit (.bool true)], args := [d] }
  | _ => none }
def recordPreparesRow : OpenClaim := { program := "ythlfolpcmcejkaa", sum := "1927ef765a69a270cded1a8118ee8c0860790035d6f1f357d5730f52211f3302", func := "silo/silolaw13.RecordPrepares", spec := "recordPrepares", unfollowed := true, recurses := true, apart := false }
def RecordPreparesSaid : Prop := recordPreparesRow.holds Try.pinned (OpenSpec.ofChange recordPreparesSpec)

/-- ITS FALSE NEIGHBOUR: 'it returns false'. Refute it at one input. -/
def recordPreparesWrong : ChangeSpec := { name := "recordPrepares", fn := fun _ => fun
  | [d] => { results := [.lit (.bool false)], args := [d] }
  | _ => none }
def RecordPreparesWrongFalsely : Prop := recordPreparesRow.holds Try.pinned (OpenSpec.ofChange recordPreparesWrong)

/-- 'silolaw13.RecordCommits': WHATEVER THE INPUT: true; the input reads as it did. -/
def recordCommitsSpec : ChangeSpec := { name := "recordCommits", fn := fun _ => fun
  | [d] => { results := [.lit (.bool true)], args := [d] }
  | _ => none }
def recordCommitsRow : OpenClaim := { program := "ythlfolpcmcejkaa", sum := "1927ef765a69a270cded1a8118ee8c0860790035d6f1f357d5730f52211f3302", func := "silo/silolaw13.RecordCommits", spec := "recordCommits", unfollowed := true, recurses := true, apart := false }
def RecordCommitsSaid : Prop := recordCommitsRow.holds Try.pinned (OpenSpec.ofChange recordCommitsSpec)

/-- ITS FALSE NEIGHBOUR: 'it returns false'. Refute it at one input. -/
def recordCommitsWrong : ChangeSpec := { name := "recordCommits", fn := fun _ => fun
  | [d] => { results := [.lit (.bool false)], args := [d] }
  | _ => none }
def RecordCommitsWrongFalsely : Prop := recordCommitsRow.holds Try.pinned (OpenSpec.ofChange recordCommitsWrong)

/-- 'silolaw13.RecordFrees': WHATEVER THE INPUT: true; the input reads as it did. -/
def recordFreesSpec : ChangeSpec := { name := "recordFrees", fn := fun _ => fun
  | [d] => { results := [.lit (.bool true)], args := [d] }
  | _ => none }
def recordFreesRow : OpenClaim := { program := "ythlfolpcmcejkaa", sum := "1927ef765a69a270cded1a8118ee8c0860790035d6f1f357d5730f52211f3302", func := "silo/silolaw13.RecordFrees", spec := "recordFrees", unfollowed := true, recurses := true, apart := false }
def RecordFreesSaid : Prop := recordFreesRow.holds Try.pinned (OpenSpec.ofChange recordFreesSpec)

/-- ITS FALSE NEIGHBOUR: 'it returns false'. Refute it at one input. -/
def recordFreesWrong : ChangeSpec := { name := "recordFrees", fn := fun _ => fun
  | [d] => { results := [.lit (.bool false)], args := [d] }
  | _ => none }
def RecordFreesWrongFalsely : Prop := recordFreesRow.holds Try.pinned (OpenSpec.ofChange recordFreesWrong)

/-- 'silolaw13.RecordBlobs': WHATEVER THE INPUT: true; the input reads as it did. -/
def recordBlobsSpec : ChangeSpec := { name := "recordBlobs", fn := fun _ => fun
  | [d] => { results := [.lit (.bool true)], args := [d] }
  | _ => none }
def recordBlobsRow : OpenClaim := { program := "ythlfolpcmcejkaa", sum := "1927ef765a69a270cded1a8118ee8c0860790035d6f1f357d5730f52211f3302", func := "silo/silolaw13.RecordBlobs", spec := "recordBlobs", unfollowed := true, recurses := true, apart := false }
def RecordBlobsSaid : Prop := recordBlobsRow.holds Try.pinned (OpenSpec.ofChange recordBlobsSpec)

/-- ITS FALSE NEIGHBOUR: 'it returns false'. Refute it at one input. -/
def recordBlobsWrong : ChangeSpec := { name := "recordBlobs", fn := fun _ => fun
  | [d] => { results := [.lit (.bool false)], args := [d] }
  | _ => none }
def RecordBlobsWrongFalsely : Prop := recordBlobsRow.holds Try.pinned (OpenSpec.ofChange recordBlobsWrong)

/-- 'silolaw13.RecordManifests': WHATEVER THE INPUT: true; the input reads as it did. -/
def recordManifestsSpec : ChangeSpec := { name := "recordManifests", fn := fun _ => fun
  | [d] => { results := [.lit (.bool true)], args := [d] }
  | _ => none }
def recordManifestsRow : OpenClaim := { program := "ythlfolpcmcejkaa", sum := "1927ef765a69a270cded1a8118ee8c0860790035d6f1f357d5730f52211f3302", func := "silo/silolaw13.RecordManifests", spec := "recordManifests", unfollowed := true, recurses := true, apart := false }
def RecordManifestsSaid : Prop := recordManifestsRow.holds Try.pinned (OpenSpec.ofChange recordManifestsSpec)

/-- ITS FALSE NEIGHBOUR: 'it returns false'. Refute it at one input. -/
def recordManifestsWrong : ChangeSpec := { name := "recordManifests", fn := fun _ => fun
  | [d] => { results := [.lit (.bool false)], args := [d] }
  | _ => none }
def RecordManifestsWrongFalsely : Prop := recordManifestsRow.holds Try.pinned (OpenSpec.ofChange recordManifestsWrong)

/-- 'silolaw13.RecordDrops': WHATEVER THE INPUT: true; the input reads as it did. -/
def recordDropsSpec : ChangeSpec := { name := "recordDrops", fn := fun _ => fun
  | [d] => { results := [.lit (.bool true)], args := [d] }
  | _ => none }
def recordDropsRow : OpenClaim := { program := "ythlfolpcmcejkaa", sum := "1927ef765a69a270cded1a8118ee8c0860790035d6f1f357d5730f52211f3302", func := "silo/silolaw13.RecordDrops", spec := "recordDrops", unfollowed := true, recurses := true, apart := false }
def RecordDropsSaid : Prop := recordDropsRow.holds Try.pinned (OpenSpec.ofChange recordDropsSpec)

/-- ITS FALSE NEIGHBOUR: 'it returns false'. Refute it at one input. -/
def recordDropsWrong : ChangeSpec := { name := "recordDrops", fn := fun _ => fun
  | [d] => { results := [.lit (.bool false)], args := [d] }
  | _ => none }
def RecordDropsWrongFalsely : Prop := recordDropsRow.holds Try.pinned (OpenSpec.ofChange recordDropsWrong)

/-- 'silolaw13.RecordTags': WHATEVER THE INPUT: true; the input reads as it did. -/
def recordTagsSpec : ChangeSpec := { name := "recordTags", fn := fun _ => fun
  | [d] => { results := [.lit (.bool true)], args := [d] }
  | _ => none }
def recordTagsRow : OpenClaim := { program := "ythlfolpcmcejkaa", sum := "1927ef765a69a270cded1a8118ee8c0860790035d6f1f357d5730f52211f3302", func := "silo/silolaw13.RecordTags", spec := "recordTags", unfollowed := true, recurses := true, apart := false }
def RecordTagsSaid : Prop := recordTagsRow.holds Try.pinned (OpenSpec.ofChange recordTagsSpec)

/-- ITS FALSE NEIGHBOUR: 'it returns false'. Refute it at one input. -/
def recordTagsWrong : ChangeSpec := { name := "recordTags", fn := fun _ => fun
  | [d] => { results := [.lit (.bool false)], args := [d] }
  | _ => none }
def RecordTagsWrongFalsely : Prop := recordTagsRow.holds Try.pinned (OpenSpec.ofChange recordTagsWrong)

/-- 'silolaw13.RecordUntags': WHATEVER THE INPUT: true; the input reads as it did. -/
def recordUntagsSpec : ChangeSpec := { name := "recordUntags", fn := fun _ => fun
  | [d] => { results := [.lit (.bool true)], args := [d] }
  | _ => none }
def recordUntagsRow : OpenClaim := { program := "ythlfolpcmcejkaa", sum := "1927ef765a69a270cded1a8118ee8c0860790035d6f1f357d5730f52211f3302", func := "silo/silolaw13.RecordUntags", spec := "recordUntags", unfollowed := true, recurses := true, apart := false }
def RecordUntagsSaid : Prop := recordUntagsRow.holds Try.pinned (OpenSpec.ofChange recordUntagsSpec)

/-- ITS FALSE NEIGHBOUR: 'it returns false'. Refute it at one input. -/
def recordUntagsWrong : ChangeSpec := { name := "recordUntags", fn := fun _ => fun
  | [d] => { results := [.lit (.bool false)], args := [d] }
  | _ => none }
def RecordUntagsWrongFalsely : Prop := recordUntagsRow.holds Try.pinned (OpenSpec.ofChange recordUntagsWrong)

/-- 'silolaw13.RecordFrames': WHATEVER THE INPUT: true; the input reads as it did. -/
def recordFramesSpec : ChangeSpec := { name := "recordFrames", fn := fun _ => fun
  | [d] => { results := [.lit (.bool true)], args := [d] }
  | _ => none }
def recordFramesRow : OpenClaim := { program := "ythlfolpcmcejkaa", sum := "1927ef765a69a270cded1a8118ee8c0860790035d6f1f357d5730f52211f3302", func := "silo/silolaw13.RecordFrames", spec := "recordFrames", unfollowed := true, recurses := true, apart := false }
def RecordFramesSaid : Prop := recordFramesRow.holds Try.pinned (OpenSpec.ofChange recordFramesSpec)

/-- ITS FALSE NEIGHBOUR: 'it returns false'. Refute it at one input. -/
def recordFramesWrong : ChangeSpec := { name := "recordFrames", fn := fun _ => fun
  | [d] => { results := [.lit (.bool false)], args := [d] }
  | _ => none }
def RecordFramesWrongFalsely : Prop := recordFramesRow.holds Try.pinned (OpenSpec.ofChange recordFramesWrong)

/-- 'silolaw13.RecordCuts': WHATEVER THE INPUT: true; the input reads as it did. -/
def recordCutsSpec : ChangeSpec := { name := "recordCuts", fn := fun _ => fun
  | [d] => { results := [.lit (.bool true)], args := [d] }
  | _ => none }
def recordCutsRow : OpenClaim := { program := "ythlfolpcmcejkaa", sum := "1927ef765a69a270cded1a8118ee8c0860790035d6f1f357d5730f52211f3302", func := "silo/silolaw13.RecordCuts", spec := "recordCuts", unfollowed := true, recurses := true, apart := false }
def RecordCutsSaid : Prop := recordCutsRow.holds Try.pinned (OpenSpec.ofChange recordCutsSpec)

/-- ITS FALSE NEIGHBOUR: 'it returns false'. Refute it at one input. -/
def recordCutsWrong : ChangeSpec := { name := "recordCuts", fn := fun _ => fun
  | [d] => { results := [.lit (.bool false)], args := [d] }
  | _ => none }
def RecordCutsWrongFalsely : Prop := recordCutsRow.holds Try.pinned (OpenSpec.ofChange recordCutsWrong)

/- THE SECOND FORM. 'bulk': how many values and letters a reading holds, each counted each time it is reached (what is shared counts as often as it is met; a slice's spare places count too). A statement '..UptoSaid' is the law's where the arguments, and the package variables that the reading takes, are together of bulk at most 1048576: NARROWER than '..Said'. Prove '..Said' where nothing that the law and all that it calls make is longer than what came in: it says more and counts as full. Else prove '..UptoSaid'. A law counts once. -/
mutual
def uptoBulk {H : Type} : DataW H → Nat
  | .lit (.string bytes) => bytes.length + 1
  | .lit _ => 1
  | .nil => 1
  | .ptr d => uptoBulk d + 1
  | .slice elems spare => uptoBulkAll elems + uptoBulkAll spare + 1
  | .agg parts => uptoBulkAll parts + 1
  | .iface _ d => uptoBulk d + 1
  | .map entries => uptoBulkEntries entries + 1
  | .held _ => 1
def uptoBulkAll {H : Type} : List (DataW H) → Nat
  | [] => 0
  | d :: r => uptoBulk d + uptoBulkAll r
def uptoBulkEntries {H : Type} : List (Lit × DataW H) → Nat
  | [] => 0
  | x :: r => uptoBulkEntry x + uptoBulkEntries r
def uptoBulkEntry {H : Type} : Lit × DataW H → Nat
  | (.string bytes, d) => bytes.length + uptoBulk d + 1
  | (_, d) => uptoBulk d + 1
 end
def uptoSmall : (H : Type) → List (DataW H) → Bool := fun _ ds => decide (uptoBulkAll ds ≤ 1048576)
def OpenSpec.upto (s : _root_.Go.ChangeSpec) : _root_.Go.OpenSpec := { _root_.Go.OpenSpec.ofChange s with cond := some uptoSmall }

/-- 'silolaw13.RecordBytes', WHERE WHAT IT READS IS OF BULK AT MOST 1048576: true; the input reads as it did. -/
def recordBytesUptoRow : OpenClaim := { program := "ythlfolpcmcejkaa", sum := "1927ef765a69a270cded1a8118ee8c0860790035d6f1f357d5730f52211f3302", func := "silo/silolaw13.RecordBytes", spec := "recordBytes", unfollowed := true, recurses := true, apart := false, narrowed := true }
def RecordBytesUptoSaid : Prop := recordBytesUptoRow.holds Try.pinned (OpenSpec.upto recordBytesSpec)

/-- 'silolaw13.RecordPrepares', WHERE WHAT IT READS IS OF BULK AT MOST 1048576: true; the input reads as it did. -/
def recordPreparesUptoRow : OpenClaim := { program := "ythlfolpcmcejkaa", sum := "1927ef765a69a270cded1a8118ee8c0860790035d6f1f357d5730f52211f3302", func := "silo/silolaw13.RecordPrepares", spec := "recordPrepares", unfollowed := true, recurses := true, apart := false, narrowed := true }
def RecordPreparesUptoSaid : Prop := recordPreparesUptoRow.holds Try.pinned (OpenSpec.upto recordPreparesSpec)

/-- 'silolaw13.RecordCommits', WHERE WHAT IT READS IS OF BULK AT MOST 1048576: true; the input reads as it did. -/
def recordCommitsUptoRow : OpenClaim := { program := "ythlfolpcmcejkaa", sum := "1927ef765a69a270cded1a8118ee8c0860790035d6f1f357d5730f52211f3302", func := "silo/silolaw13.RecordCommits", spec := "recordCommits", unfollowed := true, recurses := true, apart := false, narrowed := true }
def RecordCommitsUptoSaid : Prop := recordCommitsUptoRow.holds Try.pinned (OpenSpec.upto recordCommitsSpec)

/-- 'silolaw13.RecordFrees', WHERE WHAT IT READS IS OF BULK AT MOST 1048576: true; the input reads as it did. -/
def recordFreesUptoRow : OpenClaim := { program := "ythlfolpcmcejkaa", sum := "1927ef765a69a270cded1a8118ee8c0860790035d6f1f357d5730f52211f3302", func := "silo/silolaw13.RecordFrees", spec := "recordFrees", unfollowed := true, recurses := true, apart := false, narrowed := true }
def RecordFreesUptoSaid : Prop := recordFreesUptoRow.holds Try.pinned (OpenSpec.upto recordFreesSpec)

/-- 'silolaw13.RecordBlobs', WHERE WHAT IT READS IS OF BULK AT MOST 1048576: true; the input reads as it did. -/
def recordBlobsUptoRow : OpenClaim := { program := "ythlfolpcmcejkaa", sum := "1927ef765a69a270cded1a8118ee8c0860790035d6f1f357d5730f52211f3302", func := "silo/silolaw13.RecordBlobs", spec := "recordBlobs", unfollowed := true, recurses := true, apart := false, narrowed := true }
def RecordBlobsUptoSaid : Prop := recordBlobsUptoRow.holds Try.pinned (OpenSpec.upto recordBlobsSpec)

/-- 'silolaw13.RecordManifests', WHERE WHAT IT READS IS OF BULK AT MOST 1048576: true; the input reads as it did. -/
def recordManifestsUptoRow : OpenClaim := { program := "ythlfolpcmcejkaa", sum := "1927ef765a69a270cded1a8118ee8c0860790035d6f1f357d5730f52211f3302", func := "silo/silolaw13.RecordManifests", spec := "recordManifests", unfollowed := true, recurses := true, apart := false, narrowed := true }
def RecordManifestsUptoSaid : Prop := recordManifestsUptoRow.holds Try.pinned (OpenSpec.upto recordManifestsSpec)

/-- 'silolaw13.RecordDrops', WHERE WHAT IT READS IS OF BULK AT MOST 1048576: true; the input reads as it did. -/
def recordDropsUptoRow : OpenClaim := { program := "ythlfolpcmcejkaa", sum := "1927ef765a69a270cded1a8118ee8c0860790035d6f1f357d5730f52211f3302", func := "silo/silolaw13.RecordDrops", spec := "recordDrops", unfollowed := true, recurses := true, apart := false, narrowed := true }
def RecordDropsUptoSaid : Prop := recordDropsUptoRow.holds Try.pinned (OpenSpec.upto recordDropsSpec)

/-- 'silolaw13.RecordTags', WHERE WHAT IT READS IS OF BULK AT MOST 1048576: true; the input reads as it did. -/
def recordTagsUptoRow : OpenClaim := { program := "ythlfolpcmcejkaa", sum := "1927ef765a69a270cded1a8118ee8c0860790035d6f1f357d5730f52211f3302", func := "silo/silolaw13.RecordTags", spec := "recordTags", unfollowed := true, recurses := true, apart := false, narrowed := true }
def RecordTagsUptoSaid : Prop := recordTagsUptoRow.holds Try.pinned (OpenSpec.upto recordTagsSpec)

/-- 'silolaw13.RecordUntags', WHERE WHAT IT READS IS OF BULK AT MOST 1048576: true; the input reads as it did. -/
def recordUntagsUptoRow : OpenClaim := { program := "ythlfolpcmcejkaa", sum := "1927ef765a69a270cded1a8118ee8c0860790035d6f1f357d5730f52211f3302", func := "silo/silolaw13.RecordUntags", spec := "recordUntags", unfollowed := true, recurses := true, apart := false, narrowed := true }
def RecordUntagsUptoSaid : Prop := recordUntagsUptoRow.holds Try.pinned (OpenSpec.upto recordUntagsSpec)

/-- 'silolaw13.RecordFrames', WHERE WHAT IT READS IS OF BULK AT MOST 1048576: true; the input reads as it did. -/
def recordFramesUptoRow : OpenClaim := { program := "ythlfolpcmcejkaa", sum := "1927ef765a69a270cded1a8118ee8c0860790035d6f1f357d5730f52211f3302", func := "silo/silolaw13.RecordFrames", spec := "recordFrames", unfollowed := true, recurses := true, apart := false, narrowed := true }
def RecordFramesUptoSaid : Prop := recordFramesUptoRow.holds Try.pinned (OpenSpec.upto recordFramesSpec)

/-- 'silolaw13.RecordCuts', WHERE WHAT IT READS IS OF BULK AT MOST 1048576: true; the input reads as it did. -/
def recordCutsUptoRow : OpenClaim := { program := "ythlfolpcmcejkaa", sum := "1927ef765a69a270cded1a8118ee8c0860790035d6f1f357d5730f52211f3302", func := "silo/silolaw13.RecordCuts", spec := "recordCuts", unfollowed := true, recurses := true, apart := false, narrowed := true }
def RecordCutsUptoSaid : Prop := recordCutsUptoRow.holds Try.pinned (OpenSpec.upto recordCutsSpec)

end Rows
end Go.Proofs.Ythlfolpcmcejkaa
