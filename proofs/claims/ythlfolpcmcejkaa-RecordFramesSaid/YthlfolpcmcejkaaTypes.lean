/- Closed facts on the types and functions of this translation, by program. No condition. -/
import Derived.Test.YthlfolpcmcejkaaChecked
import Derived.Test.YthlfolpcmcejkaaDraw
import Derived.Test.YthlfolpcmcejkaaArr
import Derived.KernelRfl
set_option maxRecDepth 100000
namespace Go.Proofs.Ythlfolpcmcejkaa.TryT
open Go Go.Eng

theorem agg26 : aggT Go.Proofs.Try.prog 26 = some 3 := by kernel_rfl
theorem agg31 : aggT Go.Proofs.Try.prog 31 = some 6 := by kernel_rfl
theorem agg66 : aggT Go.Proofs.Try.prog 66 = some 2 := by kernel_rfl
theorem agg86 : aggT Go.Proofs.Try.prog 86 = some 2 := by kernel_rfl
theorem flat66 : flatT Go.Proofs.Try.prog 66 = some [0, 0] := by kernel_rfl
theorem fld26_0 : fldT Go.Proofs.Try.prog 26 0 = some 0 := by kernel_rfl
theorem fld26_1 : fldT Go.Proofs.Try.prog 26 1 = some 1 := by kernel_rfl
theorem fld26_2 : fldT Go.Proofs.Try.prog 26 2 = some 2 := by kernel_rfl
theorem fld31_0 : fldT Go.Proofs.Try.prog 31 0 = some 0 := by kernel_rfl
theorem fld31_1 : fldT Go.Proofs.Try.prog 31 1 = some 1 := by kernel_rfl
theorem fld31_2 : fldT Go.Proofs.Try.prog 31 2 = some 2 := by kernel_rfl
theorem fld31_3 : fldT Go.Proofs.Try.prog 31 3 = some 3 := by kernel_rfl
theorem fld31_4 : fldT Go.Proofs.Try.prog 31 4 = some 4 := by kernel_rfl
theorem fld31_5 : fldT Go.Proofs.Try.prog 31 5 = some 5 := by kernel_rfl
theorem fld66_0 : fldT Go.Proofs.Try.prog 66 0 = some 0 := by kernel_rfl
theorem fld66_1 : fldT Go.Proofs.Try.prog 66 1 = some 1 := by kernel_rfl
theorem fld72_0 : fldT Go.Proofs.Try.prog 72 0 = some 0 := by kernel_rfl
theorem fld72_1 : fldT Go.Proofs.Try.prog 72 1 = some 1 := by kernel_rfl
theorem fld77_0 : fldT Go.Proofs.Try.prog 77 0 = some 0 := by kernel_rfl
theorem fld77_1 : fldT Go.Proofs.Try.prog 77 1 = some 1 := by kernel_rfl
theorem fld86_0 : fldT Go.Proofs.Try.prog 86 0 = some 0 := by kernel_rfl
theorem fld86_1 : fldT Go.Proofs.Try.prog 86 1 = some 1 := by kernel_rfl
theorem pf3 : plainFn Go.Proofs.Try.prog 3 = true := by kernel_rfl
theorem pf14 : plainFn Go.Proofs.Try.prog 14 = true := by kernel_rfl
theorem pf15 : plainFn Go.Proofs.Try.prog 15 = true := by kernel_rfl
theorem pf16 : plainFn Go.Proofs.Try.prog 16 = true := by kernel_rfl
theorem pf17 : plainFn Go.Proofs.Try.prog 17 = true := by kernel_rfl
theorem pf18 : plainFn Go.Proofs.Try.prog 18 = true := by kernel_rfl
theorem pf19 : plainFn Go.Proofs.Try.prog 19 = true := by kernel_rfl
theorem pf20 : plainFn Go.Proofs.Try.prog 20 = true := by kernel_rfl
theorem pf21 : plainFn Go.Proofs.Try.prog 21 = true := by kernel_rfl
theorem pf22 : plainFn Go.Proofs.Try.prog 22 = true := by kernel_rfl
theorem pf23 : plainFn Go.Proofs.Try.prog 23 = true := by kernel_rfl
theorem pf24 : plainFn Go.Proofs.Try.prog 24 = true := by kernel_rfl
theorem pf25 : plainFn Go.Proofs.Try.prog 25 = true := by kernel_rfl
theorem pf26 : plainFn Go.Proofs.Try.prog 26 = true := by kernel_rfl
theorem pf27 : plainFn Go.Proofs.Try.prog 27 = true := by kernel_rfl
theorem pf28 : plainFn Go.Proofs.Try.prog 28 = true := by kernel_rfl
theorem pf29 : plainFn Go.Proofs.Try.prog 29 = true := by kernel_rfl
theorem pf30 : plainFn Go.Proofs.Try.prog 30 = true := by kernel_rfl
theorem pf31 : plainFn Go.Proofs.Try.prog 31 = true := by kernel_rfl
theorem pf32 : plainFn Go.Proofs.Try.prog 32 = true := by kernel_rfl
theorem pf33 : plainFn Go.Proofs.Try.prog 33 = true := by kernel_rfl
theorem pf34 : plainFn Go.Proofs.Try.prog 34 = true := by kernel_rfl
theorem pf35 : plainFn Go.Proofs.Try.prog 35 = true := by kernel_rfl
theorem pf36 : plainFn Go.Proofs.Try.prog 36 = true := by kernel_rfl
theorem pf37 : plainFn Go.Proofs.Try.prog 37 = true := by kernel_rfl
theorem pf38 : plainFn Go.Proofs.Try.prog 38 = true := by kernel_rfl
theorem pf39 : plainFn Go.Proofs.Try.prog 39 = true := by kernel_rfl
theorem pf40 : plainFn Go.Proofs.Try.prog 40 = true := by kernel_rfl
theorem pf41 : plainFn Go.Proofs.Try.prog 41 = true := by kernel_rfl
theorem pf42 : plainFn Go.Proofs.Try.prog 42 = true := by kernel_rfl
theorem pf43 : plainFn Go.Proofs.Try.prog 43 = true := by kernel_rfl
theorem pf44 : plainFn Go.Proofs.Try.prog 44 = true := by kernel_rfl
theorem pf45 : plainFn Go.Proofs.Try.prog 45 = true := by kernel_rfl
theorem pf46 : plainFn Go.Proofs.Try.prog 46 = true := by kernel_rfl
theorem pf47 : plainFn Go.Proofs.Try.prog 47 = true := by kernel_rfl
theorem pf48 : plainFn Go.Proofs.Try.prog 48 = true := by kernel_rfl
theorem pf49 : plainFn Go.Proofs.Try.prog 49 = true := by kernel_rfl
theorem pf50 : plainFn Go.Proofs.Try.prog 50 = true := by kernel_rfl
theorem pf51 : plainFn Go.Proofs.Try.prog 51 = true := by kernel_rfl
theorem pf52 : plainFn Go.Proofs.Try.prog 52 = true := by kernel_rfl
theorem pf53 : plainFn Go.Proofs.Try.prog 53 = true := by kernel_rfl
theorem pf54 : plainFn Go.Proofs.Try.prog 54 = true := by kernel_rfl
theorem pf55 : plainFn Go.Proofs.Try.prog 55 = true := by kernel_rfl
theorem pf56 : plainFn Go.Proofs.Try.prog 56 = true := by kernel_rfl
theorem pf57 : plainFn Go.Proofs.Try.prog 57 = true := by kernel_rfl
theorem pf58 : plainFn Go.Proofs.Try.prog 58 = true := by kernel_rfl
theorem pf59 : plainFn Go.Proofs.Try.prog 59 = true := by kernel_rfl
theorem pf60 : plainFn Go.Proofs.Try.prog 60 = true := by kernel_rfl
theorem pf61 : plainFn Go.Proofs.Try.prog 61 = true := by kernel_rfl
theorem pf62 : plainFn Go.Proofs.Try.prog 62 = true := by kernel_rfl
theorem pf63 : plainFn Go.Proofs.Try.prog 63 = true := by kernel_rfl
theorem pf64 : plainFn Go.Proofs.Try.prog 64 = true := by kernel_rfl
theorem pf65 : plainFn Go.Proofs.Try.prog 65 = true := by kernel_rfl
theorem pf66 : plainFn Go.Proofs.Try.prog 66 = true := by kernel_rfl
theorem pf67 : plainFn Go.Proofs.Try.prog 67 = true := by kernel_rfl
theorem pf68 : plainFn Go.Proofs.Try.prog 68 = true := by kernel_rfl
theorem pf69 : plainFn Go.Proofs.Try.prog 69 = true := by kernel_rfl
theorem pf70 : plainFn Go.Proofs.Try.prog 70 = true := by kernel_rfl
theorem pf71 : plainFn Go.Proofs.Try.prog 71 = true := by kernel_rfl
theorem pf72 : plainFn Go.Proofs.Try.prog 72 = true := by kernel_rfl
theorem pf73 : plainFn Go.Proofs.Try.prog 73 = true := by kernel_rfl
theorem pf74 : plainFn Go.Proofs.Try.prog 74 = true := by kernel_rfl
theorem pf75 : plainFn Go.Proofs.Try.prog 75 = true := by kernel_rfl
theorem pf76 : plainFn Go.Proofs.Try.prog 76 = true := by kernel_rfl
theorem pf77 : plainFn Go.Proofs.Try.prog 77 = true := by kernel_rfl
theorem pf78 : plainFn Go.Proofs.Try.prog 78 = true := by kernel_rfl
theorem pf79 : plainFn Go.Proofs.Try.prog 79 = true := by kernel_rfl
theorem scl3 : sclT Go.Proofs.Try.prog 3 = true := by kernel_rfl
theorem scl4 : sclT Go.Proofs.Try.prog 4 = true := by kernel_rfl
theorem scl5 : sclT Go.Proofs.Try.prog 5 = true := by kernel_rfl
theorem scl9 : sclT Go.Proofs.Try.prog 9 = true := by kernel_rfl
theorem scl22 : sclT Go.Proofs.Try.prog 22 = true := by kernel_rfl
theorem scl23 : sclT Go.Proofs.Try.prog 23 = true := by kernel_rfl
theorem scl24 : sclT Go.Proofs.Try.prog 24 = true := by kernel_rfl
theorem scl29 : sclT Go.Proofs.Try.prog 29 = true := by kernel_rfl
theorem sl22 : slT Go.Proofs.Try.prog 22 = some (31, 6, 96, [.int .i64 0, .int .i64 0, .string ⟨[].toArray⟩, .string ⟨[].toArray⟩, .slice none 0 0, .slice none 0 0]) := by kernel_rfl
theorem sl23 : slT Go.Proofs.Try.prog 23 = some (9, 1, 16, [.string ⟨[].toArray⟩]) := by kernel_rfl
theorem sl24 : slT Go.Proofs.Try.prog 24 = some (3, 1, 8, [.int .i64 0]) := by kernel_rfl
theorem sl29 : slT Go.Proofs.Try.prog 29 = some (66, 2, 16, [.int .i64 0, .int .i64 0]) := by kernel_rfl
theorem sl38 : slT Go.Proofs.Try.prog 38 = some (5, 1, 1, [.int .u8 0]) := by kernel_rfl
theorem zero3 : zeroT Go.Proofs.Try.prog 3 = some [.int .i64 0] := by kernel_rfl
theorem zero22 : zeroT Go.Proofs.Try.prog 22 = some [.slice none 0 0] := by kernel_rfl
theorem zero26 : zeroT Go.Proofs.Try.prog 26 = some [.slice none 0 0, .slice none 0 0, .slice none 0 0] := by kernel_rfl
theorem zero31 : zeroT Go.Proofs.Try.prog 31 = some [.int .i64 0, .int .i64 0, .string ⟨[].toArray⟩, .string ⟨[].toArray⟩, .slice none 0 0, .slice none 0 0] := by kernel_rfl
theorem zero66 : zeroT Go.Proofs.Try.prog 66 = some [.int .i64 0, .int .i64 0] := by kernel_rfl
theorem zero72 : zeroT Go.Proofs.Try.prog 72 = some [.string ⟨[].toArray⟩, .bool false] := by kernel_rfl
theorem zero77 : zeroT Go.Proofs.Try.prog 77 = some [.string ⟨[].toArray⟩, .bool false] := by kernel_rfl
theorem zero86 : zeroT Go.Proofs.Try.prog 86 = some [.int .i64 0, .int .i64 0] := by kernel_rfl
theorem mixed : Go.Proofs.Try.prog.follows .mixedOrders = true := by kernel_rfl
end Go.Proofs.Ythlfolpcmcejkaa.TryT
