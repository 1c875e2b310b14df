/- Closed facts on the types and functions of this translation, by program. No condition. -/
import Derived.Test.YtjddnaefmikccaaChecked
import Derived.Test.YtjddnaefmikccaaDraw
import Derived.Test.YtjddnaefmikccaaArr
import Derived.KernelRfl
set_option maxRecDepth 100000
namespace Go.Proofs.Ytjddnaefmikccaa.TryT
open Go Go.Eng

theorem agg24 : aggT Go.Proofs.Try.prog 24 = some 3 := by kernel_rfl
theorem agg34 : aggT Go.Proofs.Try.prog 34 = some 6 := by kernel_rfl
theorem agg62 : aggT Go.Proofs.Try.prog 62 = some 3 := by kernel_rfl
theorem fld24_0 : fldT Go.Proofs.Try.prog 24 0 = some 0 := by kernel_rfl
theorem fld24_1 : fldT Go.Proofs.Try.prog 24 1 = some 1 := by kernel_rfl
theorem fld24_2 : fldT Go.Proofs.Try.prog 24 2 = some 2 := by kernel_rfl
theorem fld34_0 : fldT Go.Proofs.Try.prog 34 0 = some 0 := by kernel_rfl
theorem fld34_1 : fldT Go.Proofs.Try.prog 34 1 = some 1 := by kernel_rfl
theorem fld34_2 : fldT Go.Proofs.Try.prog 34 2 = some 2 := by kernel_rfl
theorem fld34_3 : fldT Go.Proofs.Try.prog 34 3 = some 3 := by kernel_rfl
theorem fld34_4 : fldT Go.Proofs.Try.prog 34 4 = some 4 := by kernel_rfl
theorem fld34_5 : fldT Go.Proofs.Try.prog 34 5 = some 5 := by kernel_rfl
theorem fld52_0 : fldT Go.Proofs.Try.prog 52 0 = some 0 := by kernel_rfl
theorem fld52_1 : fldT Go.Proofs.Try.prog 52 1 = some 1 := by kernel_rfl
theorem fld52_2 : fldT Go.Proofs.Try.prog 52 2 = some 2 := by kernel_rfl
theorem fld52_3 : fldT Go.Proofs.Try.prog 52 3 = some 3 := by kernel_rfl
theorem fld52_4 : fldT Go.Proofs.Try.prog 52 4 = some 4 := by kernel_rfl
theorem fld52_5 : fldT Go.Proofs.Try.prog 52 5 = some 5 := by kernel_rfl
theorem fld52_6 : fldT Go.Proofs.Try.prog 52 6 = some 6 := by kernel_rfl
theorem fld58_0 : fldT Go.Proofs.Try.prog 58 0 = some 0 := by kernel_rfl
theorem fld58_1 : fldT Go.Proofs.Try.prog 58 1 = some 1 := by kernel_rfl
theorem fld58_2 : fldT Go.Proofs.Try.prog 58 2 = some 2 := by kernel_rfl
theorem fld58_3 : fldT Go.Proofs.Try.prog 58 3 = some 3 := by kernel_rfl
theorem fld58_4 : fldT Go.Proofs.Try.prog 58 4 = some 4 := by kernel_rfl
theorem fld62_0 : fldT Go.Proofs.Try.prog 62 0 = some 0 := by kernel_rfl
theorem fld62_1 : fldT Go.Proofs.Try.prog 62 1 = some 1 := by kernel_rfl
theorem fld62_2 : fldT Go.Proofs.Try.prog 62 2 = some 2 := by kernel_rfl
theorem fld91_0 : fldT Go.Proofs.Try.prog 91 0 = some 0 := by kernel_rfl
theorem fld91_1 : fldT Go.Proofs.Try.prog 91 1 = some 1 := by kernel_rfl
theorem pf4 : plainFn Go.Proofs.Try.prog 4 = true := by kernel_rfl
theorem pf8 : plainFn Go.Proofs.Try.prog 8 = true := by kernel_rfl
theorem pf9 : plainFn Go.Proofs.Try.prog 9 = true := by kernel_rfl
theorem pf10 : plainFn Go.Proofs.Try.prog 10 = true := by kernel_rfl
theorem pf11 : plainFn Go.Proofs.Try.prog 11 = true := by kernel_rfl
theorem pf12 : plainFn Go.Proofs.Try.prog 12 = true := by kernel_rfl
theorem pf13 : plainFn Go.Proofs.Try.prog 13 = true := by kernel_rfl
theorem pf14 : plainFn Go.Proofs.Try.prog 14 = true := by kernel_rfl
theorem pf15 : plainFn Go.Proofs.Try.prog 15 = true := by kernel_rfl
theorem pf16 : plainFn Go.Proofs.Try.prog 16 = true := by kernel_rfl
theorem pf17 : plainFn Go.Proofs.Try.prog 17 = true := by kernel_rfl
theorem pf18 : plainFn Go.Proofs.Try.prog 18 = true := by kernel_rfl
theorem pf19 : plainFn Go.Proofs.Try.prog 19 = true := by kernel_rfl
theorem pf20 : plainFn Go.Proofs.Try.prog 20 = true := by kernel_rfl
theorem pf21 : plainFn Go.Proofs.Try.prog 21 = true := by kernel_rfl
theorem pf22 : plainFn Go.Proofs.Try.prog 22 = true := by kernel_rfl
theorem pf23 : plainFn Go.Proofs.Try.prog 23 = true := by kernel_rfl
theorem pf24 : plainFn Go.Proofs.Try.prog 24 = true := by kernel_rfl
theorem pf25 : plainFn Go.Proofs.Try.prog 25 = true := by kernel_rfl
theorem pf26 : plainFn Go.Proofs.Try.prog 26 = true := by kernel_rfl
theorem pf27 : plainFn Go.Proofs.Try.prog 27 = true := by kernel_rfl
theorem pf28 : plainFn Go.Proofs.Try.prog 28 = true := by kernel_rfl
theorem pf29 : plainFn Go.Proofs.Try.prog 29 = true := by kernel_rfl
theorem pf30 : plainFn Go.Proofs.Try.prog 30 = true := by kernel_rfl
theorem pf31 : plainFn Go.Proofs.Try.prog 31 = true := by kernel_rfl
theorem pf32 : plainFn Go.Proofs.Try.prog 32 = true := by kernel_rfl
theorem pf33 : plainFn Go.Proofs.Try.prog 33 = true := by kernel_rfl
theorem pf34 : plainFn Go.Proofs.Try.prog 34 = true := by kernel_rfl
theorem pf35 : plainFn Go.Proofs.Try.prog 35 = true := by kernel_rfl
theorem pf36 : plainFn Go.Proofs.Try.prog 36 = true := by kernel_rfl
theorem pf37 : plainFn Go.Proofs.Try.prog 37 = true := by kernel_rfl
theorem pf38 : plainFn Go.Proofs.Try.prog 38 = true := by kernel_rfl
theorem pf39 : plainFn Go.Proofs.Try.prog 39 = true := by kernel_rfl
theorem pf40 : plainFn Go.Proofs.Try.prog 40 = true := by kernel_rfl
theorem pf41 : plainFn Go.Proofs.Try.prog 41 = true := by kernel_rfl
theorem pf42 : plainFn Go.Proofs.Try.prog 42 = true := by kernel_rfl
theorem pf43 : plainFn Go.Proofs.Try.prog 43 = true := by kernel_rfl
theorem pf44 : plainFn Go.Proofs.Try.prog 44 = true := by kernel_rfl
theorem pf45 : plainFn Go.Proofs.Try.prog 45 = true := by kernel_rfl
theorem pf46 : plainFn Go.Proofs.Try.prog 46 = true := by kernel_rfl
theorem pf47 : plainFn Go.Proofs.Try.prog 47 = true := by kernel_rfl
theorem pf48 : plainFn Go.Proofs.Try.prog 48 = true := by kernel_rfl
theorem pf49 : plainFn Go.Proofs.Try.prog 49 = true := by kernel_rfl
theorem pf50 : plainFn Go.Proofs.Try.prog 50 = true := by kernel_rfl
theorem pf51 : plainFn Go.Proofs.Try.prog 51 = true := by kernel_rfl
theorem pf52 : plainFn Go.Proofs.Try.prog 52 = true := by kernel_rfl
theorem pf53 : plainFn Go.Proofs.Try.prog 53 = true := by kernel_rfl
theorem pf54 : plainFn Go.Proofs.Try.prog 54 = true := by kernel_rfl
theorem pf55 : plainFn Go.Proofs.Try.prog 55 = true := by kernel_rfl
theorem pf56 : plainFn Go.Proofs.Try.prog 56 = true := by kernel_rfl
theorem pf57 : plainFn Go.Proofs.Try.prog 57 = true := by kernel_rfl
theorem pf58 : plainFn Go.Proofs.Try.prog 58 = true := by kernel_rfl
theorem pf59 : plainFn Go.Proofs.Try.prog 59 = true := by kernel_rfl
theorem pf60 : plainFn Go.Proofs.Try.prog 60 = true := by kernel_rfl
theorem pf61 : plainFn Go.Proofs.Try.prog 61 = true := by kernel_rfl
theorem pf62 : plainFn Go.Proofs.Try.prog 62 = true := by kernel_rfl
theorem pf63 : plainFn Go.Proofs.Try.prog 63 = true := by kernel_rfl
theorem pf64 : plainFn Go.Proofs.Try.prog 64 = true := by kernel_rfl
theorem pf65 : plainFn Go.Proofs.Try.prog 65 = true := by kernel_rfl
theorem pf66 : plainFn Go.Proofs.Try.prog 66 = true := by kernel_rfl
theorem pf67 : plainFn Go.Proofs.Try.prog 67 = true := by kernel_rfl
theorem pf68 : plainFn Go.Proofs.Try.prog 68 = true := by kernel_rfl
theorem pf69 : plainFn Go.Proofs.Try.prog 69 = true := by kernel_rfl
theorem pf70 : plainFn Go.Proofs.Try.prog 70 = true := by kernel_rfl
theorem pf71 : plainFn Go.Proofs.Try.prog 71 = true := by kernel_rfl
theorem pf72 : plainFn Go.Proofs.Try.prog 72 = true := by kernel_rfl
theorem pf73 : plainFn Go.Proofs.Try.prog 73 = true := by kernel_rfl
theorem pf74 : plainFn Go.Proofs.Try.prog 74 = true := by kernel_rfl
theorem pf77 : plainFn Go.Proofs.Try.prog 77 = true := by kernel_rfl
theorem pf78 : plainFn Go.Proofs.Try.prog 78 = true := by kernel_rfl
theorem pf79 : plainFn Go.Proofs.Try.prog 79 = true := by kernel_rfl
theorem pf80 : plainFn Go.Proofs.Try.prog 80 = true := by kernel_rfl
theorem pf81 : plainFn Go.Proofs.Try.prog 81 = true := by kernel_rfl
theorem pf82 : plainFn Go.Proofs.Try.prog 82 = true := by kernel_rfl
theorem pf83 : plainFn Go.Proofs.Try.prog 83 = true := by kernel_rfl
theorem pf84 : plainFn Go.Proofs.Try.prog 84 = true := by kernel_rfl
theorem pf85 : plainFn Go.Proofs.Try.prog 85 = true := by kernel_rfl
theorem pf86 : plainFn Go.Proofs.Try.prog 86 = true := by kernel_rfl
theorem pf87 : plainFn Go.Proofs.Try.prog 87 = true := by kernel_rfl
theorem pf88 : plainFn Go.Proofs.Try.prog 88 = true := by kernel_rfl
theorem pf89 : plainFn Go.Proofs.Try.prog 89 = true := by kernel_rfl
theorem pf90 : plainFn Go.Proofs.Try.prog 90 = true := by kernel_rfl
theorem pf91 : plainFn Go.Proofs.Try.prog 91 = true := by kernel_rfl
theorem pf92 : plainFn Go.Proofs.Try.prog 92 = true := by kernel_rfl
theorem pf93 : plainFn Go.Proofs.Try.prog 93 = true := by kernel_rfl
theorem pf94 : plainFn Go.Proofs.Try.prog 94 = true := by kernel_rfl
theorem scl3 : sclT Go.Proofs.Try.prog 3 = true := by kernel_rfl
theorem scl4 : sclT Go.Proofs.Try.prog 4 = true := by kernel_rfl
theorem scl5 : sclT Go.Proofs.Try.prog 5 = true := by kernel_rfl
theorem scl9 : sclT Go.Proofs.Try.prog 9 = true := by kernel_rfl
theorem scl22 : sclT Go.Proofs.Try.prog 22 = true := by kernel_rfl
theorem scl26 : sclT Go.Proofs.Try.prog 26 = true := by kernel_rfl
theorem scl32 : sclT Go.Proofs.Try.prog 32 = true := by kernel_rfl
theorem scl49 : sclT Go.Proofs.Try.prog 49 = true := by kernel_rfl
theorem scl50 : sclT Go.Proofs.Try.prog 50 = true := by kernel_rfl
theorem scl56 : sclT Go.Proofs.Try.prog 56 = true := by kernel_rfl
theorem scl59 : sclT Go.Proofs.Try.prog 59 = true := by kernel_rfl
theorem scl60 : sclT Go.Proofs.Try.prog 60 = true := by kernel_rfl
theorem scl64 : sclT Go.Proofs.Try.prog 64 = true := by kernel_rfl
theorem scl89 : sclT Go.Proofs.Try.prog 89 = true := by kernel_rfl
theorem scl120 : sclT Go.Proofs.Try.prog 120 = true := by kernel_rfl
theorem sl22 : slT Go.Proofs.Try.prog 22 = some (34, 6, 72, [.int .i64 0, .int .i64 0, .int .i64 0, .int .i64 0, .string ⟨[].toArray⟩, .slice none 0 0]) := by kernel_rfl
theorem sl32 : slT Go.Proofs.Try.prog 32 = some (3, 1, 8, [.int .i64 0]) := by kernel_rfl
theorem sl49 : slT Go.Proofs.Try.prog 49 = some (4, 1, 1, [.bool false]) := by kernel_rfl
theorem sl50 : slT Go.Proofs.Try.prog 50 = some (59, 1, 24, [.slice none 0 0]) := by kernel_rfl
theorem sl56 : slT Go.Proofs.Try.prog 56 = some (62, 3, 40, [.bool false, .slice none 0 0, .map none]) := by kernel_rfl
theorem sl59 : slT Go.Proofs.Try.prog 59 = some (9, 1, 16, [.string ⟨[].toArray⟩]) := by kernel_rfl
theorem sl64 : slT Go.Proofs.Try.prog 64 = some (5, 1, 1, [.int .u8 0]) := by kernel_rfl
theorem zero3 : zeroT Go.Proofs.Try.prog 3 = some [.int .i64 0] := by kernel_rfl
theorem zero24 : zeroT Go.Proofs.Try.prog 24 = some [.int .i64 0, .int .i64 0, .slice none 0 0] := by kernel_rfl
theorem zero34 : zeroT Go.Proofs.Try.prog 34 = some [.int .i64 0, .int .i64 0, .int .i64 0, .int .i64 0, .string ⟨[].toArray⟩, .slice none 0 0] := by kernel_rfl
theorem zero52 : zeroT Go.Proofs.Try.prog 52 = some [.int .i64 0, .int .i64 0, .slice none 0 0, .slice none 0 0, .slice none 0 0, .int .i64 0, .int .i64 0] := by kernel_rfl
theorem zero58 : zeroT Go.Proofs.Try.prog 58 = some [.slice none 0 0, .int .i64 0, .bool false, .int .i64 0, .int .i64 0] := by kernel_rfl
theorem zero62 : zeroT Go.Proofs.Try.prog 62 = some [.bool false, .slice none 0 0, .map none] := by kernel_rfl
theorem zero91 : zeroT Go.Proofs.Try.prog 91 = some [.pointer none, .slice none 0 0] := by kernel_rfl
theorem zero120 : zeroT Go.Proofs.Try.prog 120 = some [.int .u64 0] := by kernel_rfl
theorem mixed : Go.Proofs.Try.prog.follows .mixedOrders = true := by kernel_rfl
end Go.Proofs.Ytjddnaefmikccaa.TryT
