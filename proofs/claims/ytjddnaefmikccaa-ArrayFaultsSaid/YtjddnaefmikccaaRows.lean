/-
  No cell of these rows narrows 'for every input' (looked for: loops, veiled, ifaces, maps, wideKeys, modest, calm, conditions, laid).
  DERIVED. THE GIVEN ROWS OF THIS SEAT. 5 by the template 'for every input the law returns true; each argument reads behind the call as it read before'; 0 by the template 'total and deterministic' (their statements: YtjddnaefmikccaaTotals.lean).
  GIVEN WITH THE SEED: the statements are not yours to turn. If you find one false, say at which input.
  Laid BY PROGRAM, IN A SANDBOX (cutbox-rows.mjs): the forced cells as the released guide's own fill.sh prints them over the translation f3c5a4c90dfb9599… (all of the seat's roots in one cut). By AI agents, Wed Nov 11 2026. No macro, syntax, notation, axiom, sorry.
-/
import Derived.Test.YtjddnaefmikccaaChecked
import GoSem.Claim
import GoSem.ClaimJoined
import GoSem.ClaimMapViews
import Derived.JoinedTies
import Derived.KernelRfl
namespace Go.Proofs.Ytjddnaefmikccaa
/- THE CELL 'sum', in the pinned program and in every row, IS THE sha256 OF THE DUMP (.gsa) THAT YtjddnaefmikccaaProg.lean LOADS. Nothing in Lean hashes anything: it is a label: what it is worth is what the hold of that sum in a sandbox is worth. -/
noncomputable def Try.pinned : Pinned := { name := "ytjddnaefmikccaa", sum := "f3c5a4c90dfb95991bb027a0c3139037f0697541d8091bad66727976d5f3aa44", checked := Try.checked }
namespace Rows
def none {H : Type} : Left H := { results := [], args := [] }

/-- 'silolaw10.ArrayStays': WHATEVER THE INPUT: true; the input reads as it did. -/
def arrayStaysSpec : ChangeSpec := { name := "arrayStays", fn := fun _ => fun
  | [d] => { results := [.lit (.bool true)], args := [d] }
  | _ => none }
def arrayStaysRow : OpenClaim := { program := "ytjddnaefmikccaa", sum := "f3c5a4c90dfb95991bb027a0c3139037f0697541d8091bad66727976d5f3aa44", func := "silo/silolaw10.ArrayStays", spec := "arrayStays", inPlace := ["internal/abi.NoEscape", "internal/bytealg.MakeNoZero"], unfollowed := true, recurses := true, apart := false }
def ArrayStaysSaid : Prop := arrayStaysRow.holds Try.pinned (OpenSpec.ofChange arrayStaysSpec)

/-- ITS FALSE NEIGHBOUR: 'it returns false'. Refute it at one input. -/
def arrayStaysWrong : ChangeSpec := { name := "arrayStays", fn := fun _ => fun
  | [d] => { results := [.lit (.bool false)], args := [d] }
  | _ => none }
def ArrayStaysWrongFalsely : Prop := arrayStaysRow.holds Try.pinned (OpenSpec.ofChange arrayStaysWrong)

/-- 'silolaw10.ArrayExact': WHATEVER THE INPUT: true; the input reads as it did. -/
def arrayExactSpec : ChangeSpec := { name := "arrayExact", fn := fun _ => fun
  | [d] => { results := [.lit (.bool true)], args := [d] }
  | _ => none }
def arrayExactRow : OpenClaim := { program := "ytjddnaefmikccaa", sum := "f3c5a4c90dfb95991bb027a0c3139037f0697541d8091bad66727976d5f3aa44", func := "silo/silolaw10.ArrayExact", spec := "arrayExact", inPlace := ["internal/abi.NoEscape", "internal/bytealg.MakeNoZero"], unfollowed := true, recurses := true, apart := false }
def ArrayExactSaid : Prop := arrayExactRow.holds Try.pinned (OpenSpec.ofChange arrayExactSpec)

/-- ITS FALSE NEIGHBOUR: 'it returns false'. Refute it at one input. -/
def arrayExactWrong : ChangeSpec := { name := "arrayExact", fn := fun _ => fun
  | [d] => { results := [.lit (.bool false)], args := [d] }
  | _ => none }
def ArrayExactWrongFalsely : Prop := arrayExactRow.holds Try.pinned (OpenSpec.ofChange arrayExactWrong)

/-- 'silolaw10.ArrayWrites': WHATEVER THE INPUT: true; the input reads as it did. -/
def arrayWritesSpec : ChangeSpec := { name := "arrayWrites", fn := fun _ => fun
  | [d] => { results := [.lit (.bool true)], args := [d] }
  | _ => none }
def arrayWritesRow : OpenClaim := { program := "ytjddnaefmikccaa", sum := "f3c5a4c90dfb95991bb027a0c3139037f0697541d8091bad66727976d5f3aa44", func := "silo/silolaw10.ArrayWrites", spec := "arrayWrites", inPlace := ["internal/abi.NoEscape", "internal/bytealg.MakeNoZero"], unfollowed := true, recurses := true, apart := false }
def ArrayWritesSaid : Prop := arrayWritesRow.holds Try.pinned (OpenSpec.ofChange arrayWritesSpec)

/-- ITS FALSE NEIGHBOUR: 'it returns false'. Refute it at one input. -/
def arrayWritesWrong : ChangeSpec := { name := "arrayWrites", fn := fun _ => fun
  | [d] => { results := [.lit (.bool false)], args := [d] }
  | _ => none }
def ArrayWritesWrongFalsely : Prop := arrayWritesRow.holds Try.pinned (OpenSpec.ofChange arrayWritesWrong)

/-- 'silolaw10.ArrayCrashes': WHATEVER THE INPUT: true; the input reads as it did. -/
def arrayCrashesSpec : ChangeSpec := { name := "arrayCrashes", fn := fun _ => fun
  | [d] => { results := [.lit (.bool true)], args := [d] }
  | _ => none }
def arrayCrashesRow : OpenClaim := { program := "ytjddnaefmikccaa", sum := "f3c5a4c90dfb95991bb027a0c3139037f0697541d8091bad66727976d5f3aa44", func := "silo/silolaw10.ArrayCrashes", spec := "arrayCrashes", inPlace := ["internal/abi.NoEscape", "internal/bytealg.MakeNoZero"], unfollowed := true, recurses := true, apart := false }
def ArrayCrashesSaid : Prop := arrayCrashesRow.holds Try.pinned (OpenSpec.ofChange arrayCrashesSpec)

/-- ITS FALSE NEIGHBOUR: 'it returns false'. Refute it at one input. -/
def arrayCrashesWrong : ChangeSpec := { name := "arrayCrashes", fn := fun _ => fun
  | [d] => { results := [.lit (.bool false)], args := [d] }
  | _ => none }
def ArrayCrashesWrongFalsely : Prop := arrayCrashesRow.holds Try.pinned (OpenSpec.ofChange arrayCrashesWrong)

/-- 'silolaw10.ArrayFaults': WHATEVER THE INPUT: true; the input reads as it did. -/
def arrayFaultsSpec : ChangeSpec := { name := "arrayFaults", fn := fun _ => fun
  | [d] => { results := [.lit (.bool true)], args := [d] }
  | _ => none }
def arrayFaultsRow : OpenClaim := { program := "ytjddnaefmikccaa", sum := "f3c5a4c90dfb95991bb027a0c3139037f0697541d8091bad66727976d5f3aa44", func := "silo/silolaw10.ArrayFaults", spec := "arrayFaults", inPlace := ["internal/abi.NoEscape", "internal/bytealg.MakeNoZero"], unfollowed := true, recurses := true, apart := false }
def ArrayFaultsSaid : Prop := arrayFaultsRow.holds Try.pinned (OpenSpec.ofChange arrayFaultsSpec)

/-- ITS FALSE NEIGHBOUR: 'it returns false'. Refute it at one input. -/
def arrayFaultsWrong : ChangeSpec := { name := "arrayFaults", fn := fun _ => fun
  | [d] => { results := [.lit (.bool false)], args := [d] }
  | _ => none }
def ArrayFaultsWrongFalsely : Prop := arrayFaultsRow.holds Try.pinned (OpenSpec.ofChange arrayFaultsWrong)

/- THE SECOND FORM. 'bulk': how many values and letters a reading holds, each counted each time it is reached (what is shared counts as often as it is met; a slice's spare places count too). A statement '..UptoSaid' is the law's where the arguments, and the package variables that the reading takes, are together of bulk at most 1048576: NARROWER than '..Said'. Prove '..Said' where nothing that the law and all that it calls make is longer than what came in: it says more and counts as full. Else prove '..UptoSaid'. A law counts once. -/
mutual
def uptoBulk {H : Type} : DataW H → Nat
  | .lit (.string bytes) => bytes.length + 1
  | .lit _ => 1
  | .nil => 1
  | .ptr d => uptoBulk d + 1
  | .slice elems spare => uptoBulkAll elems + uptoBulkAll spare + 1
  | .agg parts => uptoBulkAll parts + 1
  | .iface _ d => uptoBulk d + 1
  | .map entries => uptoBulkEntries entries + 1
  | .held _ => 1
def uptoBulkAll {H : Type} : List (DataW H) → Nat
  | [] => 0
  | d :: r => uptoBulk d + uptoBulkAll r
def uptoBulkEntries {H : Type} : List (Lit × DataW H) → Nat
  | [] => 0
  | x :: r => uptoBulkEntry x + uptoBulkEntries r
def uptoBulkEntry {H : Type} : Lit × DataW H → Nat
  | (.string bytes, d) => bytes.length + uptoBulk d + 1
  | (_, d) => uptoBulk d + 1
 end
def uptoSmall : (H : Type) → List (DataW H) → Bool := fun _ ds => decide (uptoBulkAll ds ≤ 1048576)
def OpenSpec.upto (s : _root_.Go.ChangeSpec) : _root_.Go.OpenSpec := { _root_.Go.OpenSpec.ofChange s with cond := some uptoSmall }

/-- 'silolaw10.ArrayStays', WHERE WHAT IT READS IS OF BULK AT MOST 1048576: true; the input reads as it did. -/
def arrayStaysUptoRow : OpenClaim := { program := "ytjddnaefmikccaa", sum := "f3c5a4c90dfb95991bb027a0c3139037f0697541d8091bad66727976d5f3aa44", func := "silo/silolaw10.ArrayStays", spec := "arrayStays", inPlace := ["internal/abi.NoEscape", "internal/bytealg.MakeNoZero"], unfollowed := true, recurses := true, apart := false, narrowed := true }
def ArrayStaysUptoSaid : Prop := arrayStaysUptoRow.holds Try.pinned (OpenSpec.upto arrayStaysSpec)

/-- 'silolaw10.ArrayExact', WHERE WHAT IT READS IS OF BULK AT MOST 1048576: true; the input reads as it did. -/
def arrayExactUptoRow : OpenClaim := { program := "ytjddnaefmikccaa", sum := "f3c5a4c90dfb95991bb027a0c3139037f0697541d8091bad66727976d5f3aa44", func := "silo/silolaw10.ArrayExact", spec := "arrayExact", inPlace := ["internal/abi.NoEscape", "internal/bytealg.MakeNoZero"], unfollowed := true, recurses := true, apart := false, narrowed := true }
def ArrayExactUptoSaid : Prop := arrayExactUptoRow.holds Try.pinned (OpenSpec.upto arrayExactSpec)

/-- 'silolaw10.ArrayWrites', WHERE WHAT IT READS IS OF BULK AT MOST 1048576: true; the input reads as it did. -/
def arrayWritesUptoRow : OpenClaim := { program := "ytjddnaefmikccaa", sum := "f3c5a4c90dfb95991bb027a0c3139037f0697541d8091bad66727976d5f3aa44", func := "silo/silolaw10.ArrayWrites", spec := "arrayWrites", inPlace := ["internal/abi.NoEscape", "internal/bytealg.MakeNoZero"], unfollowed := true, recurses := true, apart := false, narrowed := true }
def ArrayWritesUptoSaid : Prop := arrayWritesUptoRow.holds Try.pinned (OpenSpec.upto arrayWritesSpec)

/-- 'silolaw10.ArrayCrashes', WHERE WHAT IT READS IS OF BULK AT MOST 1048576: true; the input reads as it did. -/
def arrayCrashesUptoRow : OpenClaim := { program := "ytjddnaefmikccaa", sum := "f3c5a4c90dfb95991bb027a0c3139037f0697541d8091bad66727976d5f3aa44", func := "silo/silolaw10.ArrayCrashes", spec := "arrayCrashes", inPlace := ["internal/abi.NoEscape", "internal/bytealg.MakeNoZero"], unfollowed := true, recurses := true, apart := false, narrowed := true }
def ArrayCrashesUptoSaid : Prop := arrayCrashesUptoRow.holds Try.pinned (OpenSpec.upto arrayCrashesSpec)

/-- 'silolaw10.ArrayFaults', WHERE WHAT IT READS IS OF BULK AT MOST 1048576: true; the input reads as it did. -/
def arrayFaultsUptoRow : OpenClaim := { program := "ytjddnaefmikccaa", sum := "f3c5a4c90dfb95991bb027a0c3139037f0697541d8091bad66727976d5f3aa44", func := "silo/silolaw10.ArrayFaults", spec := "arrayFaults", inPlace := ["internal/abi.NoEscape", "internal/bytealg.MakeNoZero"], unfollowed := true, recurses := true, apart := false, narrowed := true }
def ArrayFaultsUptoSaid : Prop := arrayFaultsUptoRow.holds Try.pinned (OpenSpec.upto arrayFaultsSpec)

end Rows
end Go.Proofs.Ytjddnaefmikccaa
