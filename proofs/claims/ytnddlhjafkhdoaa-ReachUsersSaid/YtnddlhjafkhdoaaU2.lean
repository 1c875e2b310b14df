/- Closed facts on the types and functions of this translation, by program. | Records as they lie in memory. | Arguments opened: slices of whatever shape, out of the form's reading. | The order of texts; digests in a list. | Manifests, in plain Lean: which may be, their bytes, which one bytes are. | Arguments opened: manifests; two slices in a struct. | Shutting: behind a call that made new memory alone. | Things and what leads where, in plain Lean. | Arguments opened: things; slices in slices. | Arguments of the laws on what leads where, opened. | Chains of manifests, in plain Lean. | Chains of manifests: their digests, each by the kernel's run; no two are alike. | Sorted texts, each once, in plain Lean. | What leads where, in plain Lean: what is reached, users, orders. | What leads where, in plain Lean: more roots, what is reached again. | More operations: appending zero values, cap, slices as slices. | Drawn regions: short circuits. | Lists of texts: copies, comparisons, weights; numbers. | Manifests: which may be. | Digests: the mixing of words, in the program and in the page's own. | Digests: tables, the page's own mixing. | Digests: a block, as the page has it. No condition. -/
import Derived.Test.YtnddlhjafkhdoaaChecked
import Derived.KernelRfl
import Derived.ProofKit
import Derived.SizedLaws
import Derived.Test.YtnddlhjafkhdoaaRows
import Derived.Below
import Derived.Lib.SlicesCompact
import Derived.Lib.AppendZerosOnto
import Derived.Test.YtnddlhjafkhdoaaU1
set_option linter.unusedSimpArgs false
set_option linter.unusedVariables false
set_option maxRecDepth 100000
namespace Go.Proofs.Ytnddlhjafkhdoaa.TryT
open Go Go.Eng

theorem agg25 : aggT Go.Proofs.Try.prog 25 = some 2 := by kernel_rfl
theorem agg29 : aggT Go.Proofs.Try.prog 29 = some 3 := by kernel_rfl
theorem agg50 : aggT Go.Proofs.Try.prog 50 = some 2 := by kernel_rfl
theorem agg62 : aggT Go.Proofs.Try.prog 62 = some 3 := by kernel_rfl
theorem agg78 : aggT Go.Proofs.Try.prog 78 = some 3 := by kernel_rfl
theorem agg85 : aggT Go.Proofs.Try.prog 85 = some 6 := by kernel_rfl
theorem agg118 : aggT Go.Proofs.Try.prog 118 = some 3 := by kernel_rfl
theorem agg137 : aggT Go.Proofs.Try.prog 137 = some 8 := by kernel_rfl
theorem agg157 : aggT Go.Proofs.Try.prog 157 = some 16 := by kernel_rfl
theorem agg158 : aggT Go.Proofs.Try.prog 158 = some 160 := by kernel_rfl
theorem agg176 : aggT Go.Proofs.Try.prog 176 = some 4 := by kernel_rfl
theorem agg177 : aggT Go.Proofs.Try.prog 177 = some 32 := by kernel_rfl
theorem arr137 : arrT Go.Proofs.Try.prog 137 = some (8, 136, 1) := by kernel_rfl
theorem arr156 : arrT Go.Proofs.Try.prog 156 = some (16, 136, 1) := by kernel_rfl
theorem arr157 : arrT Go.Proofs.Try.prog 157 = some (16, 3, 1) := by kernel_rfl
theorem arr158 : arrT Go.Proofs.Try.prog 158 = some (10, 157, 16) := by kernel_rfl
theorem arr176 : arrT Go.Proofs.Try.prog 176 = some (4, 3, 1) := by kernel_rfl
theorem arr177 : arrT Go.Proofs.Try.prog 177 = some (8, 176, 4) := by kernel_rfl
theorem flat62 : flatT Go.Proofs.Try.prog 62 = some [2, 2, 1] := by kernel_rfl
theorem fld25_0 : fldT Go.Proofs.Try.prog 25 0 = some 0 := by kernel_rfl
theorem fld25_1 : fldT Go.Proofs.Try.prog 25 1 = some 1 := by kernel_rfl
theorem fld29_0 : fldT Go.Proofs.Try.prog 29 0 = some 0 := by kernel_rfl
theorem fld29_1 : fldT Go.Proofs.Try.prog 29 1 = some 1 := by kernel_rfl
theorem fld29_2 : fldT Go.Proofs.Try.prog 29 2 = some 2 := by kernel_rfl
theorem fld50_0 : fldT Go.Proofs.Try.prog 50 0 = some 0 := by kernel_rfl
theorem fld50_1 : fldT Go.Proofs.Try.prog 50 1 = some 1 := by kernel_rfl
theorem fld62_0 : fldT Go.Proofs.Try.prog 62 0 = some 0 := by kernel_rfl
theorem fld62_1 : fldT Go.Proofs.Try.prog 62 1 = some 1 := by kernel_rfl
theorem fld62_2 : fldT Go.Proofs.Try.prog 62 2 = some 2 := by kernel_rfl
theorem fld78_0 : fldT Go.Proofs.Try.prog 78 0 = some 0 := by kernel_rfl
theorem fld78_1 : fldT Go.Proofs.Try.prog 78 1 = some 1 := by kernel_rfl
theorem fld78_2 : fldT Go.Proofs.Try.prog 78 2 = some 2 := by kernel_rfl
theorem fld85_0 : fldT Go.Proofs.Try.prog 85 0 = some 0 := by kernel_rfl
theorem fld85_1 : fldT Go.Proofs.Try.prog 85 1 = some 1 := by kernel_rfl
theorem fld85_2 : fldT Go.Proofs.Try.prog 85 2 = some 2 := by kernel_rfl
theorem fld85_3 : fldT Go.Proofs.Try.prog 85 3 = some 3 := by kernel_rfl
theorem fld85_4 : fldT Go.Proofs.Try.prog 85 4 = some 4 := by kernel_rfl
theorem fld85_5 : fldT Go.Proofs.Try.prog 85 5 = some 5 := by kernel_rfl
theorem fld100_0 : fldT Go.Proofs.Try.prog 100 0 = some 0 := by kernel_rfl
theorem fld100_1 : fldT Go.Proofs.Try.prog 100 1 = some 1 := by kernel_rfl
theorem fld100_2 : fldT Go.Proofs.Try.prog 100 2 = some 2 := by kernel_rfl
theorem fld100_3 : fldT Go.Proofs.Try.prog 100 3 = some 3 := by kernel_rfl
theorem fld100_4 : fldT Go.Proofs.Try.prog 100 4 = some 4 := by kernel_rfl
theorem fld100_5 : fldT Go.Proofs.Try.prog 100 5 = some 5 := by kernel_rfl
theorem fld100_6 : fldT Go.Proofs.Try.prog 100 6 = some 6 := by kernel_rfl
theorem fld115_0 : fldT Go.Proofs.Try.prog 115 0 = some 0 := by kernel_rfl
theorem fld115_1 : fldT Go.Proofs.Try.prog 115 1 = some 1 := by kernel_rfl
theorem fld115_2 : fldT Go.Proofs.Try.prog 115 2 = some 2 := by kernel_rfl
theorem fld115_3 : fldT Go.Proofs.Try.prog 115 3 = some 3 := by kernel_rfl
theorem fld115_4 : fldT Go.Proofs.Try.prog 115 4 = some 4 := by kernel_rfl
theorem fld118_0 : fldT Go.Proofs.Try.prog 118 0 = some 0 := by kernel_rfl
theorem fld118_1 : fldT Go.Proofs.Try.prog 118 1 = some 1 := by kernel_rfl
theorem fld118_2 : fldT Go.Proofs.Try.prog 118 2 = some 2 := by kernel_rfl
theorem fld154_0 : fldT Go.Proofs.Try.prog 154 0 = some 0 := by kernel_rfl
theorem fld154_1 : fldT Go.Proofs.Try.prog 154 1 = some 8 := by kernel_rfl
theorem fld154_2 : fldT Go.Proofs.Try.prog 154 2 = some 9 := by kernel_rfl
theorem fld170_0 : fldT Go.Proofs.Try.prog 170 0 = some 0 := by kernel_rfl
theorem fld170_1 : fldT Go.Proofs.Try.prog 170 1 = some 1 := by kernel_rfl
theorem pf10 : plainFn Go.Proofs.Try.prog 10 = true := by kernel_rfl
theorem pf14 : plainFn Go.Proofs.Try.prog 14 = true := by kernel_rfl
theorem pf15 : plainFn Go.Proofs.Try.prog 15 = true := by kernel_rfl
theorem pf16 : plainFn Go.Proofs.Try.prog 16 = true := by kernel_rfl
theorem pf17 : plainFn Go.Proofs.Try.prog 17 = true := by kernel_rfl
theorem pf18 : plainFn Go.Proofs.Try.prog 18 = true := by kernel_rfl
theorem pf19 : plainFn Go.Proofs.Try.prog 19 = true := by kernel_rfl
theorem pf20 : plainFn Go.Proofs.Try.prog 20 = true := by kernel_rfl
theorem pf21 : plainFn Go.Proofs.Try.prog 21 = true := by kernel_rfl
theorem pf22 : plainFn Go.Proofs.Try.prog 22 = true := by kernel_rfl
theorem pf23 : plainFn Go.Proofs.Try.prog 23 = true := by kernel_rfl
theorem pf24 : plainFn Go.Proofs.Try.prog 24 = true := by kernel_rfl
theorem pf25 : plainFn Go.Proofs.Try.prog 25 = true := by kernel_rfl
theorem pf26 : plainFn Go.Proofs.Try.prog 26 = true := by kernel_rfl
theorem pf27 : plainFn Go.Proofs.Try.prog 27 = true := by kernel_rfl
theorem pf28 : plainFn Go.Proofs.Try.prog 28 = true := by kernel_rfl
theorem pf29 : plainFn Go.Proofs.Try.prog 29 = true := by kernel_rfl
theorem pf30 : plainFn Go.Proofs.Try.prog 30 = true := by kernel_rfl
theorem pf31 : plainFn Go.Proofs.Try.prog 31 = true := by kernel_rfl
theorem pf32 : plainFn Go.Proofs.Try.prog 32 = true := by kernel_rfl
theorem pf33 : plainFn Go.Proofs.Try.prog 33 = true := by kernel_rfl
theorem pf34 : plainFn Go.Proofs.Try.prog 34 = true := by kernel_rfl
theorem pf35 : plainFn Go.Proofs.Try.prog 35 = true := by kernel_rfl
theorem pf36 : plainFn Go.Proofs.Try.prog 36 = true := by kernel_rfl
theorem pf37 : plainFn Go.Proofs.Try.prog 37 = true := by kernel_rfl
theorem pf38 : plainFn Go.Proofs.Try.prog 38 = true := by kernel_rfl
theorem pf39 : plainFn Go.Proofs.Try.prog 39 = true := by kernel_rfl
theorem pf40 : plainFn Go.Proofs.Try.prog 40 = true := by kernel_rfl
theorem pf41 : plainFn Go.Proofs.Try.prog 41 = true := by kernel_rfl
theorem pf42 : plainFn Go.Proofs.Try.prog 42 = true := by kernel_rfl
theorem pf43 : plainFn Go.Proofs.Try.prog 43 = true := by kernel_rfl
theorem pf44 : plainFn Go.Proofs.Try.prog 44 = true := by kernel_rfl
theorem pf45 : plainFn Go.Proofs.Try.prog 45 = true := by kernel_rfl
theorem pf46 : plainFn Go.Proofs.Try.prog 46 = true := by kernel_rfl
theorem pf47 : plainFn Go.Proofs.Try.prog 47 = true := by kernel_rfl
theorem pf48 : plainFn Go.Proofs.Try.prog 48 = true := by kernel_rfl
theorem pf49 : plainFn Go.Proofs.Try.prog 49 = true := by kernel_rfl
theorem pf50 : plainFn Go.Proofs.Try.prog 50 = true := by kernel_rfl
theorem pf51 : plainFn Go.Proofs.Try.prog 51 = true := by kernel_rfl
theorem pf52 : plainFn Go.Proofs.Try.prog 52 = true := by kernel_rfl
theorem pf53 : plainFn Go.Proofs.Try.prog 53 = true := by kernel_rfl
theorem pf54 : plainFn Go.Proofs.Try.prog 54 = true := by kernel_rfl
theorem pf55 : plainFn Go.Proofs.Try.prog 55 = true := by kernel_rfl
theorem pf56 : plainFn Go.Proofs.Try.prog 56 = true := by kernel_rfl
theorem pf57 : plainFn Go.Proofs.Try.prog 57 = true := by kernel_rfl
theorem pf58 : plainFn Go.Proofs.Try.prog 58 = true := by kernel_rfl
theorem pf59 : plainFn Go.Proofs.Try.prog 59 = true := by kernel_rfl
theorem pf60 : plainFn Go.Proofs.Try.prog 60 = true := by kernel_rfl
theorem pf61 : plainFn Go.Proofs.Try.prog 61 = true := by kernel_rfl
theorem pf62 : plainFn Go.Proofs.Try.prog 62 = true := by kernel_rfl
theorem pf63 : plainFn Go.Proofs.Try.prog 63 = true := by kernel_rfl
theorem pf64 : plainFn Go.Proofs.Try.prog 64 = true := by kernel_rfl
theorem pf65 : plainFn Go.Proofs.Try.prog 65 = true := by kernel_rfl
theorem pf66 : plainFn Go.Proofs.Try.prog 66 = true := by kernel_rfl
theorem pf67 : plainFn Go.Proofs.Try.prog 67 = true := by kernel_rfl
theorem pf68 : plainFn Go.Proofs.Try.prog 68 = true := by kernel_rfl
theorem pf69 : plainFn Go.Proofs.Try.prog 69 = true := by kernel_rfl
theorem pf70 : plainFn Go.Proofs.Try.prog 70 = true := by kernel_rfl
theorem pf71 : plainFn Go.Proofs.Try.prog 71 = true := by kernel_rfl
theorem pf72 : plainFn Go.Proofs.Try.prog 72 = true := by kernel_rfl
theorem pf73 : plainFn Go.Proofs.Try.prog 73 = true := by kernel_rfl
theorem pf74 : plainFn Go.Proofs.Try.prog 74 = true := by kernel_rfl
theorem pf75 : plainFn Go.Proofs.Try.prog 75 = true := by kernel_rfl
theorem pf76 : plainFn Go.Proofs.Try.prog 76 = true := by kernel_rfl
theorem pf77 : plainFn Go.Proofs.Try.prog 77 = true := by kernel_rfl
theorem pf78 : plainFn Go.Proofs.Try.prog 78 = true := by kernel_rfl
theorem pf79 : plainFn Go.Proofs.Try.prog 79 = true := by kernel_rfl
theorem pf80 : plainFn Go.Proofs.Try.prog 80 = true := by kernel_rfl
theorem pf81 : plainFn Go.Proofs.Try.prog 81 = true := by kernel_rfl
theorem pf82 : plainFn Go.Proofs.Try.prog 82 = true := by kernel_rfl
theorem pf83 : plainFn Go.Proofs.Try.prog 83 = true := by kernel_rfl
theorem pf84 : plainFn Go.Proofs.Try.prog 84 = true := by kernel_rfl
theorem pf85 : plainFn Go.Proofs.Try.prog 85 = true := by kernel_rfl
theorem pf86 : plainFn Go.Proofs.Try.prog 86 = true := by kernel_rfl
theorem pf87 : plainFn Go.Proofs.Try.prog 87 = true := by kernel_rfl
theorem pf88 : plainFn Go.Proofs.Try.prog 88 = true := by kernel_rfl
theorem pf89 : plainFn Go.Proofs.Try.prog 89 = true := by kernel_rfl
theorem pf90 : plainFn Go.Proofs.Try.prog 90 = true := by kernel_rfl
theorem pf91 : plainFn Go.Proofs.Try.prog 91 = true := by kernel_rfl
theorem pf92 : plainFn Go.Proofs.Try.prog 92 = true := by kernel_rfl
theorem pf93 : plainFn Go.Proofs.Try.prog 93 = true := by kernel_rfl
theorem pf94 : plainFn Go.Proofs.Try.prog 94 = true := by kernel_rfl
theorem pf95 : plainFn Go.Proofs.Try.prog 95 = true := by kernel_rfl
theorem pf96 : plainFn Go.Proofs.Try.prog 96 = true := by kernel_rfl
theorem pf97 : plainFn Go.Proofs.Try.prog 97 = true := by kernel_rfl
theorem pf98 : plainFn Go.Proofs.Try.prog 98 = true := by kernel_rfl
theorem pf99 : plainFn Go.Proofs.Try.prog 99 = true := by kernel_rfl
theorem pf100 : plainFn Go.Proofs.Try.prog 100 = true := by kernel_rfl
theorem pf101 : plainFn Go.Proofs.Try.prog 101 = true := by kernel_rfl
theorem pf102 : plainFn Go.Proofs.Try.prog 102 = true := by kernel_rfl
theorem pf103 : plainFn Go.Proofs.Try.prog 103 = true := by kernel_rfl
theorem pf104 : plainFn Go.Proofs.Try.prog 104 = true := by kernel_rfl
theorem pf105 : plainFn Go.Proofs.Try.prog 105 = true := by kernel_rfl
theorem pf106 : plainFn Go.Proofs.Try.prog 106 = true := by kernel_rfl
theorem pf107 : plainFn Go.Proofs.Try.prog 107 = true := by kernel_rfl
theorem pf108 : plainFn Go.Proofs.Try.prog 108 = true := by kernel_rfl
theorem pf109 : plainFn Go.Proofs.Try.prog 109 = true := by kernel_rfl
theorem pf110 : plainFn Go.Proofs.Try.prog 110 = true := by kernel_rfl
theorem pf111 : plainFn Go.Proofs.Try.prog 111 = true := by kernel_rfl
theorem pf112 : plainFn Go.Proofs.Try.prog 112 = true := by kernel_rfl
theorem pf113 : plainFn Go.Proofs.Try.prog 113 = true := by kernel_rfl
theorem pf114 : plainFn Go.Proofs.Try.prog 114 = true := by kernel_rfl
theorem pf115 : plainFn Go.Proofs.Try.prog 115 = true := by kernel_rfl
theorem pf116 : plainFn Go.Proofs.Try.prog 116 = true := by kernel_rfl
theorem pf117 : plainFn Go.Proofs.Try.prog 117 = true := by kernel_rfl
theorem pf118 : plainFn Go.Proofs.Try.prog 118 = true := by kernel_rfl
theorem pf119 : plainFn Go.Proofs.Try.prog 119 = true := by kernel_rfl
theorem pf120 : plainFn Go.Proofs.Try.prog 120 = true := by kernel_rfl
theorem pf121 : plainFn Go.Proofs.Try.prog 121 = true := by kernel_rfl
theorem pf122 : plainFn Go.Proofs.Try.prog 122 = true := by kernel_rfl
theorem pf123 : plainFn Go.Proofs.Try.prog 123 = true := by kernel_rfl
theorem pf124 : plainFn Go.Proofs.Try.prog 124 = true := by kernel_rfl
theorem pf125 : plainFn Go.Proofs.Try.prog 125 = true := by kernel_rfl
theorem pf126 : plainFn Go.Proofs.Try.prog 126 = true := by kernel_rfl
theorem pf127 : plainFn Go.Proofs.Try.prog 127 = true := by kernel_rfl
theorem pf128 : plainFn Go.Proofs.Try.prog 128 = true := by kernel_rfl
theorem pf129 : plainFn Go.Proofs.Try.prog 129 = true := by kernel_rfl
theorem pf130 : plainFn Go.Proofs.Try.prog 130 = true := by kernel_rfl
theorem pf131 : plainFn Go.Proofs.Try.prog 131 = true := by kernel_rfl
theorem pf132 : plainFn Go.Proofs.Try.prog 132 = true := by kernel_rfl
theorem pf133 : plainFn Go.Proofs.Try.prog 133 = true := by kernel_rfl
theorem pf134 : plainFn Go.Proofs.Try.prog 134 = true := by kernel_rfl
theorem pf135 : plainFn Go.Proofs.Try.prog 135 = true := by kernel_rfl
theorem pf136 : plainFn Go.Proofs.Try.prog 136 = true := by kernel_rfl
theorem pf137 : plainFn Go.Proofs.Try.prog 137 = true := by kernel_rfl
theorem pf138 : plainFn Go.Proofs.Try.prog 138 = true := by kernel_rfl
theorem pf139 : plainFn Go.Proofs.Try.prog 139 = true := by kernel_rfl
theorem pf140 : plainFn Go.Proofs.Try.prog 140 = true := by kernel_rfl
theorem pf141 : plainFn Go.Proofs.Try.prog 141 = true := by kernel_rfl
theorem pf142 : plainFn Go.Proofs.Try.prog 142 = true := by kernel_rfl
theorem pf143 : plainFn Go.Proofs.Try.prog 143 = true := by kernel_rfl
theorem pf144 : plainFn Go.Proofs.Try.prog 144 = true := by kernel_rfl
theorem pf145 : plainFn Go.Proofs.Try.prog 145 = true := by kernel_rfl
theorem pf146 : plainFn Go.Proofs.Try.prog 146 = true := by kernel_rfl
theorem pf147 : plainFn Go.Proofs.Try.prog 147 = true := by kernel_rfl
theorem pf148 : plainFn Go.Proofs.Try.prog 148 = true := by kernel_rfl
theorem pf149 : plainFn Go.Proofs.Try.prog 149 = true := by kernel_rfl
theorem pf150 : plainFn Go.Proofs.Try.prog 150 = true := by kernel_rfl
theorem pf151 : plainFn Go.Proofs.Try.prog 151 = true := by kernel_rfl
theorem pf152 : plainFn Go.Proofs.Try.prog 152 = true := by kernel_rfl
theorem pf153 : plainFn Go.Proofs.Try.prog 153 = true := by kernel_rfl
theorem pf154 : plainFn Go.Proofs.Try.prog 154 = true := by kernel_rfl
theorem pf155 : plainFn Go.Proofs.Try.prog 155 = true := by kernel_rfl
theorem pf156 : plainFn Go.Proofs.Try.prog 156 = true := by kernel_rfl
theorem pf157 : plainFn Go.Proofs.Try.prog 157 = true := by kernel_rfl
theorem pf158 : plainFn Go.Proofs.Try.prog 158 = true := by kernel_rfl
theorem pf159 : plainFn Go.Proofs.Try.prog 159 = true := by kernel_rfl
theorem pf160 : plainFn Go.Proofs.Try.prog 160 = true := by kernel_rfl
theorem pf161 : plainFn Go.Proofs.Try.prog 161 = true := by kernel_rfl
theorem pf162 : plainFn Go.Proofs.Try.prog 162 = true := by kernel_rfl
theorem pf163 : plainFn Go.Proofs.Try.prog 163 = true := by kernel_rfl
theorem pf164 : plainFn Go.Proofs.Try.prog 164 = true := by kernel_rfl
theorem pf165 : plainFn Go.Proofs.Try.prog 165 = true := by kernel_rfl
theorem pf167 : plainFn Go.Proofs.Try.prog 167 = true := by kernel_rfl
theorem pf168 : plainFn Go.Proofs.Try.prog 168 = true := by kernel_rfl
theorem pf169 : plainFn Go.Proofs.Try.prog 169 = true := by kernel_rfl
theorem pf170 : plainFn Go.Proofs.Try.prog 170 = true := by kernel_rfl
theorem pf171 : plainFn Go.Proofs.Try.prog 171 = true := by kernel_rfl
theorem pf172 : plainFn Go.Proofs.Try.prog 172 = true := by kernel_rfl
theorem pf173 : plainFn Go.Proofs.Try.prog 173 = true := by kernel_rfl
theorem pf174 : plainFn Go.Proofs.Try.prog 174 = true := by kernel_rfl
theorem pf175 : plainFn Go.Proofs.Try.prog 175 = true := by kernel_rfl
theorem pf176 : plainFn Go.Proofs.Try.prog 176 = true := by kernel_rfl
theorem pf177 : plainFn Go.Proofs.Try.prog 177 = true := by kernel_rfl
theorem pf178 : plainFn Go.Proofs.Try.prog 178 = true := by kernel_rfl
theorem pf179 : plainFn Go.Proofs.Try.prog 179 = true := by kernel_rfl
theorem pf180 : plainFn Go.Proofs.Try.prog 180 = true := by kernel_rfl
theorem pf183 : plainFn Go.Proofs.Try.prog 183 = true := by kernel_rfl
theorem pf184 : plainFn Go.Proofs.Try.prog 184 = true := by kernel_rfl
theorem pf185 : plainFn Go.Proofs.Try.prog 185 = true := by kernel_rfl
theorem pf186 : plainFn Go.Proofs.Try.prog 186 = true := by kernel_rfl
theorem pf187 : plainFn Go.Proofs.Try.prog 187 = true := by kernel_rfl
theorem pf188 : plainFn Go.Proofs.Try.prog 188 = true := by kernel_rfl
theorem pf189 : plainFn Go.Proofs.Try.prog 189 = true := by kernel_rfl
theorem pf190 : plainFn Go.Proofs.Try.prog 190 = true := by kernel_rfl
theorem pf191 : plainFn Go.Proofs.Try.prog 191 = true := by kernel_rfl
theorem pf192 : plainFn Go.Proofs.Try.prog 192 = true := by kernel_rfl
theorem pf193 : plainFn Go.Proofs.Try.prog 193 = true := by kernel_rfl
theorem pf194 : plainFn Go.Proofs.Try.prog 194 = true := by kernel_rfl
theorem pf195 : plainFn Go.Proofs.Try.prog 195 = true := by kernel_rfl
theorem pf196 : plainFn Go.Proofs.Try.prog 196 = true := by kernel_rfl
theorem pf197 : plainFn Go.Proofs.Try.prog 197 = true := by kernel_rfl
theorem scl3 : sclT Go.Proofs.Try.prog 3 = true := by kernel_rfl
theorem scl4 : sclT Go.Proofs.Try.prog 4 = true := by kernel_rfl
theorem scl5 : sclT Go.Proofs.Try.prog 5 = true := by kernel_rfl
theorem scl9 : sclT Go.Proofs.Try.prog 9 = true := by kernel_rfl
theorem scl22 : sclT Go.Proofs.Try.prog 22 = true := by kernel_rfl
theorem scl23 : sclT Go.Proofs.Try.prog 23 = true := by kernel_rfl
theorem scl48 : sclT Go.Proofs.Try.prog 48 = true := by kernel_rfl
theorem scl52 : sclT Go.Proofs.Try.prog 52 = true := by kernel_rfl
theorem scl68 : sclT Go.Proofs.Try.prog 68 = true := by kernel_rfl
theorem scl76 : sclT Go.Proofs.Try.prog 76 = true := by kernel_rfl
theorem scl80 : sclT Go.Proofs.Try.prog 80 = true := by kernel_rfl
theorem scl83 : sclT Go.Proofs.Try.prog 83 = true := by kernel_rfl
theorem scl97 : sclT Go.Proofs.Try.prog 97 = true := by kernel_rfl
theorem scl98 : sclT Go.Proofs.Try.prog 98 = true := by kernel_rfl
theorem scl113 : sclT Go.Proofs.Try.prog 113 = true := by kernel_rfl
theorem scl116 : sclT Go.Proofs.Try.prog 116 = true := by kernel_rfl
theorem scl136 : sclT Go.Proofs.Try.prog 136 = true := by kernel_rfl
theorem scl168 : sclT Go.Proofs.Try.prog 168 = true := by kernel_rfl
theorem scl197 : sclT Go.Proofs.Try.prog 197 = true := by kernel_rfl
theorem sl22 : slT Go.Proofs.Try.prog 22 = some (29, 3, 56, [.int .i64 0, .slice none 0 0, .slice none 0 0]) := by kernel_rfl
theorem sl23 : slT Go.Proofs.Try.prog 23 = some (9, 1, 16, [.string ⟨[].toArray⟩]) := by kernel_rfl
theorem sl48 : slT Go.Proofs.Try.prog 48 = some (52, 1, 24, [.slice none 0 0]) := by kernel_rfl
theorem sl52 : slT Go.Proofs.Try.prog 52 = some (62, 3, 40, [.string ⟨[].toArray⟩, .string ⟨[].toArray⟩, .bool false]) := by kernel_rfl
theorem sl68 : slT Go.Proofs.Try.prog 68 = some (5, 1, 1, [.int .u8 0]) := by kernel_rfl
theorem sl76 : slT Go.Proofs.Try.prog 76 = some (85, 6, 72, [.int .i64 0, .int .i64 0, .int .i64 0, .int .i64 0, .string ⟨[].toArray⟩, .slice none 0 0]) := by kernel_rfl
theorem sl83 : slT Go.Proofs.Try.prog 83 = some (3, 1, 8, [.int .i64 0]) := by kernel_rfl
theorem sl97 : slT Go.Proofs.Try.prog 97 = some (4, 1, 1, [.bool false]) := by kernel_rfl
theorem sl98 : slT Go.Proofs.Try.prog 98 = some (23, 1, 24, [.slice none 0 0]) := by kernel_rfl
theorem sl113 : slT Go.Proofs.Try.prog 113 = some (118, 3, 40, [.bool false, .slice none 0 0, .map none]) := by kernel_rfl
theorem sl175 : slT Go.Proofs.Try.prog 175 = some (136, 1, 4, [.int .u32 0]) := by kernel_rfl
theorem zero3 : zeroT Go.Proofs.Try.prog 3 = some [.int .i64 0] := by kernel_rfl
theorem zero23 : zeroT Go.Proofs.Try.prog 23 = some [.slice none 0 0] := by kernel_rfl
theorem zero29 : zeroT Go.Proofs.Try.prog 29 = some [.int .i64 0, .slice none 0 0, .slice none 0 0] := by kernel_rfl
theorem zero62 : zeroT Go.Proofs.Try.prog 62 = some [.string ⟨[].toArray⟩, .string ⟨[].toArray⟩, .bool false] := by kernel_rfl
theorem zero78 : zeroT Go.Proofs.Try.prog 78 = some [.int .i64 0, .int .i64 0, .slice none 0 0] := by kernel_rfl
theorem zero85 : zeroT Go.Proofs.Try.prog 85 = some [.int .i64 0, .int .i64 0, .int .i64 0, .int .i64 0, .string ⟨[].toArray⟩, .slice none 0 0] := by kernel_rfl
theorem zero100 : zeroT Go.Proofs.Try.prog 100 = some [.int .i64 0, .int .i64 0, .slice none 0 0, .slice none 0 0, .slice none 0 0, .int .i64 0, .int .i64 0] := by kernel_rfl
theorem zero115 : zeroT Go.Proofs.Try.prog 115 = some [.slice none 0 0, .int .i64 0, .bool false, .int .i64 0, .int .i64 0] := by kernel_rfl
theorem zero118 : zeroT Go.Proofs.Try.prog 118 = some [.bool false, .slice none 0 0, .map none] := by kernel_rfl
theorem zero137 : zeroT Go.Proofs.Try.prog 137 = some [.int .u32 0, .int .u32 0, .int .u32 0, .int .u32 0, .int .u32 0, .int .u32 0, .int .u32 0, .int .u32 0] := by kernel_rfl
theorem zero154 : zeroT Go.Proofs.Try.prog 154 = some [.int .u32 0, .int .u32 0, .int .u32 0, .int .u32 0, .int .u32 0, .int .u32 0, .int .u32 0, .int .u32 0, .string ⟨[].toArray⟩, .int .i64 0] := by kernel_rfl
theorem zero156 : zeroT Go.Proofs.Try.prog 156 = some [.int .u32 0, .int .u32 0, .int .u32 0, .int .u32 0, .int .u32 0, .int .u32 0, .int .u32 0, .int .u32 0, .int .u32 0, .int .u32 0, .int .u32 0, .int .u32 0, .int .u32 0, .int .u32 0, .int .u32 0, .int .u32 0] := by kernel_rfl
theorem zero157 : zeroT Go.Proofs.Try.prog 157 = some [.int .i64 0, .int .i64 0, .int .i64 0, .int .i64 0, .int .i64 0, .int .i64 0, .int .i64 0, .int .i64 0, .int .i64 0, .int .i64 0, .int .i64 0, .int .i64 0, .int .i64 0, .int .i64 0, .int .i64 0, .int .i64 0] := by kernel_rfl
theorem zero158 : zeroT Go.Proofs.Try.prog 158 = some [.int .i64 0, .int .i64 0, .int .i64 0, .int .i64 0, .int .i64 0, .int .i64 0, .int .i64 0, .int .i64 0, .int .i64 0, .int .i64 0, .int .i64 0, .int .i64 0, .int .i64 0, .int .i64 0, .int .i64 0, .int .i64 0, .int .i64 0, .int .i64 0, .int .i64 0, .int .i64 0, .int .i64 0, .int .i64 0, .int .i64 0, .int .i64 0, .int .i64 0, .int .i64 0, .int .i64 0, .int .i64 0, .int .i64 0, .int .i64 0, .int .i64 0, .int .i64 0, .int .i64 0, .int .i64 0, .int .i64 0, .int .i64 0, .int .i64 0, .int .i64 0, .int .i64 0, .int .i64 0, .int .i64 0, .int .i64 0, .int .i64 0, .int .i64 0, .int .i64 0, .int .i64 0, .int .i64 0, .int .i64 0, .int .i64 0, .int .i64 0, .int .i64 0, .int .i64 0, .int .i64 0, .int .i64 0, .int .i64 0, .int .i64 0, .int .i64 0, .int .i64 0, .int .i64 0, .int .i64 0, .int .i64 0, .int .i64 0, .int .i64 0, .int .i64 0, .int .i64 0, .int .i64 0, .int .i64 0, .int .i64 0, .int .i64 0, .int .i64 0, .int .i64 0, .int .i64 0, .int .i64 0, .int .i64 0, .int .i64 0, .int .i64 0, .int .i64 0, .int .i64 0, .int .i64 0, .int .i64 0, .int .i64 0, .int .i64 0, .int .i64 0, .int .i64 0, .int .i64 0, .int .i64 0, .int .i64 0, .int .i64 0, .int .i64 0, .int .i64 0, .int .i64 0, .int .i64 0, .int .i64 0, .int .i64 0, .int .i64 0, .int .i64 0, .int .i64 0, .int .i64 0, .int .i64 0, .int .i64 0, .int .i64 0, .int .i64 0, .int .i64 0, .int .i64 0, .int .i64 0, .int .i64 0, .int .i64 0, .int .i64 0, .int .i64 0, .int .i64 0, .int .i64 0, .int .i64 0, .int .i64 0, .int .i64 0, .int .i64 0, .int .i64 0, .int .i64 0, .int .i64 0, .int .i64 0, .int .i64 0, .int .i64 0, .int .i64 0, .int .i64 0, .int .i64 0, .int .i64 0, .int .i64 0, .int .i64 0, .int .i64 0, .int .i64 0, .int .i64 0, .int .i64 0, .int .i64 0, .int .i64 0, .int .i64 0, .int .i64 0, .int .i64 0, .int .i64 0, .int .i64 0, .int .i64 0, .int .i64 0, .int .i64 0, .int .i64 0, .int .i64 0, .int .i64 0, .int .i64 0, .int .i64 0, .int .i64 0, .int .i64 0, .int .i64 0, .int .i64 0, .int .i64 0, .int .i64 0, .int .i64 0, .int .i64 0, .int .i64 0, .int .i64 0, .int .i64 0, .int .i64 0, .int .i64 0, .int .i64 0] := by kernel_rfl
theorem zero170 : zeroT Go.Proofs.Try.prog 170 = some [.pointer none, .slice none 0 0] := by kernel_rfl
theorem zero176 : zeroT Go.Proofs.Try.prog 176 = some [.int .i64 0, .int .i64 0, .int .i64 0, .int .i64 0] := by kernel_rfl
theorem zero177 : zeroT Go.Proofs.Try.prog 177 = some [.int .i64 0, .int .i64 0, .int .i64 0, .int .i64 0, .int .i64 0, .int .i64 0, .int .i64 0, .int .i64 0, .int .i64 0, .int .i64 0, .int .i64 0, .int .i64 0, .int .i64 0, .int .i64 0, .int .i64 0, .int .i64 0, .int .i64 0, .int .i64 0, .int .i64 0, .int .i64 0, .int .i64 0, .int .i64 0, .int .i64 0, .int .i64 0, .int .i64 0, .int .i64 0, .int .i64 0, .int .i64 0, .int .i64 0, .int .i64 0, .int .i64 0, .int .i64 0] := by kernel_rfl
theorem zero197 : zeroT Go.Proofs.Try.prog 197 = some [.int .u64 0] := by kernel_rfl
theorem mixed : Go.Proofs.Try.prog.follows .mixedOrders = true := by kernel_rfl
end Go.Proofs.Ytnddlhjafkhdoaa.TryT

namespace Silo
open Go Go.Eng Go.RowKit

structure Rec where
  kind : Int
  id : Int
  name : List UInt8
  digest : List UInt8
  list : List Int
  slots : List (Int × Int)
  deriving DecidableEq

def slotS : Shape (Int × Int) := Shape.flat 2 (fun p => [I p.1, I p.2]) (fun p => Go.Eng.Int64 p.1 ∧ Go.Eng.Int64 p.2) (fun _ => rfl) (fun _ u hu => by simp at hu; rcases hu with rfl | rfl <;> rfl)

def recS : Shape Rec where
  size := 6
  rd := fun B w cs r => ∃ vl vs, cs = [I r.kind, I r.id, St r.name, St r.digest, vl, vs] ∧ RdS intS B w vl r.list ∧ RdS slotS B w vs r.slots ∧ Go.Eng.Int64 r.kind ∧ Go.Eng.Int64 r.id ∧ r.name.length ≤ 140737488355328 ∧ r.digest.length ≤ 140737488355328
  len := fun ⟨_, _, h, _⟩ => by rw [h]; rfl
  keep := fun hk ⟨vl, vs, h, h1, h2, h3⟩ => ⟨vl, vs, h, h1.keep hk, h2.keep hk, h3⟩
  mono := fun hB ⟨vl, vs, h, h1, h2, h3⟩ => ⟨vl, vs, h, h1.mono hB, h2.mono hB, h3⟩
  one := fun ⟨vl, vs, h, h1, h2, _⟩ u hu => by
    obtain ⟨A, c, rfl, _⟩ := h1.form
    obtain ⟨A', c', rfl, _⟩ := h2.form
    subst h
    simp at hu
    rcases hu with rfl | rfl | rfl | rfl | rfl | rfl <;> rfl

/-- A record as a struct's cells, in the present world. -/
def RdRec (w : World) (cs : List Value) (r : Rec) : Prop := recS.rd w.heap.size w cs r
theorem RdRec.up {w w' : World} {cs : List Value} {r : Rec} (h : RdRec w cs r) (hk : Below w.heap.size w w') : RdRec w' cs r := recS.mono hk.size (recS.keep hk.block h)

/-- How much records are. -/
def recW (r : Rec) : Nat := r.name.length + r.digest.length + r.list.length + r.slots.length
def recsW (l : List Rec) : Nat := l.length + (l.map recW).sum
def textsW (l : List (List UInt8)) : Nat := l.length + (l.map List.length).sum
theorem sum_take_succ {α : Type} (f : α → Nat) {l : List α} {k : Nat} (h : k < l.length) : ((l.take (k + 1)).map f).sum = ((l.take k).map f).sum + f l[k] := by
  rw [List.take_succ_eq_append_getElem h, List.map_append]; simp
theorem sum_mem_le {α : Type} (f : α → Nat) {l : List α} {x : α} (h : x ∈ l) : f x ≤ (l.map f).sum := by
  induction l with
  | nil => simp at h
  | cons y r ih =>
    simp only [List.map_cons, List.sum_cons]
    rcases List.mem_cons.1 h with rfl | h
    · omega
    · have := ih h; omega

/-- A sum that stops where it is great. -/
def stopSum (n : Nat) : List Nat → Nat
  | [] => n
  | x :: r => if n < 1048576 then stopSum (n + x) r else n
theorem stopSum_ge {n : Nat} (h : ¬ n < 1048576) : ∀ l : List Nat, stopSum n l = n
  | [] => rfl
  | x :: r => by simp [stopSum, h]
theorem stopSum_small : ∀ (l : List Nat) (n : Nat), stopSum n l < 1048576 → stopSum n l = n + l.sum
  | [], n, _ => by simp [stopSum]
  | x :: r, n, h => by
    unfold stopSum at h ⊢
    split
    · rename_i hn; rw [if_pos hn] at h; rw [stopSum_small r _ h]; simp; omega
    · rename_i hn; rw [if_neg hn] at h; omega
theorem stopSum_step {α : Type} (f : α → Nat) {l : List α} {k n : Nat} (hk : k < l.length) (hn : n < 1048576) : stopSum n ((l.drop k).map f) = stopSum (n + f l[k]) ((l.drop (k + 1)).map f) := by
  rw [List.drop_eq_getElem_cons hk]
  simp only [List.map_cons, stopSum, if_pos hn]

/-- A number brought within bounds. -/
def within (i n : Int) : Int := (i % 18446744073709551616) % n
theorem within_lo (i n : Int) (h : 0 < n) : 0 ≤ within i n := Int.emod_nonneg _ (by omega)
theorem within_hi (i n : Int) (h : 0 < n) : within i n < n := Int.emod_lt_of_pos _ h

/-- Which fields a kind names: i ID, n Name, d Digest, l List, s Slots. -/
def fieldsB (k : Int) : List UInt8 :=
  if k = 1 then [105, 115] else if k = 2 then [105, 108, 115] else if k = 3 then [105] else if k = 4 then [105, 100, 108] else if k = 5 then [105, 100, 108]
  else if k = 6 then [100] else if k = 7 then [110, 100] else if k = 8 then [110] else []
def hasB (k : Int) (c : Int) : Bool := (fieldsB k).any fun b => decide ((b.toNat : Int) = c)
theorem fieldsB_ascii (k : Int) : ∀ c ∈ fieldsB k, c.toNat < 128 := by
  intro c hc
  unfold fieldsB at hc
  repeat' split at hc
  all_goals (simp at hc; try rcases hc with rfl | rfl | rfl) <;> first | decide | (rcases hc with rfl | rfl <;> decide) | (subst hc; decide)
theorem rdSlots {w : World} {base : Nat} {e : TypeId} {v : Value} {l : List (Int × Int)} (h : Own w base e 2 v l.length (l.flatMap fun x => [I x.1, I x.2])) (hok : ∀ x ∈ l, Go.Eng.Int64 x.1 ∧ Go.Eng.Int64 x.2) (hsm : l.length ≤ 140737488355328) : RdS slotS w.heap.size w v l := Own.rdFlat hsm h hok
end Silo

namespace Go.Eng
open Go Go.RowKit

section
variable {H : Type} {enc : TypeId × Value → H} {P : Program} {W : World} {base : Nat} {sp : Nat → Bool} {held : Bool}

/-- What an element's reading gives. -/
def Opens (enc : TypeId × Value → H) (P : Program) (W : World) (base : Nat) (sp : Nat → Bool) (held : Bool) {α : Type} (s : Shape α) (ok : α → Prop) (e : TypeId) : Prop :=
  ∀ n cs y, DataW.trod enc P W base sp held n e cs = some y → (∀ x ∈ DataW.weights P e y.1, x ≤ reachBytes) → ∃ x, s.rd W.heap.size W cs x ∧ ok x

theorem weightsAll_mem {P : Program} {e : TypeId} : ∀ {l : List (DataW H)} {d : DataW H}, d ∈ l → ∀ n ∈ d.weights P e, n ∈ DataW.weightsAll P e l
  | x :: r, d, hd, n, hn => by
    simp only [DataW.weightsAll, List.mem_append]
    rcases List.mem_cons.1 hd with rfl | hd
    · exact .inl hn
    · exact .inr (weightsAll_mem hd n hn)

theorem open_rd {α : Type} {s : Shape α} {ok : α → Prop} {t e : TypeId} {n : Nat} {v : Value} {y : DataW H × List MemPlace} (ht : P.underlying t = some (.slice e)) (hc : P.cellsOf e = s.size) (hs0 : 0 < s.size) (hb : 1 ≤ P.bytesOf e) (he : Opens enc P W base sp held s ok e)
    (h : DataW.trod enc P W base sp held n t [v] = some y) (hw : ∀ x ∈ DataW.weights P t y.1, x ≤ reachBytes) : ∃ l, RdS s W.heap.size W v l ∧ (∀ x ∈ l, ok x) ∧ l.length * P.bytesOf e ≤ 140737488351232 := by
  rcases DataW.trod_slice ht h with ⟨h0, _⟩ | ⟨a, len, cap, elems, rest, n', _, h0, rfl, _, hl, hm, hlen, hel, _, _⟩
  · have : v = .slice none 0 0 := by simpa using h0
    subst this
    exact ⟨[], RdS.nil _ _ _, by simp, by simp⟩
  · have : v = .slice (some a) len cap := by simpa using h0
    subst this
    have hwt : (elems.length + rest.length) * P.bytesOf e ≤ reachBytes ∧ ∀ d ∈ elems, ∀ x ∈ DataW.weights P e d.1, x ≤ reachBytes := by
      constructor
      · have := hw (((elems.map (·.1)).length + (rest.map (·.1)).length) * P.bytesOf e) (by simp only [DataW.weights, ht, List.mem_cons]; exact Or.inl trivial)
        simpa using this
      · intro d hd x hx
        refine hw x ?_
        simp only [DataW.weights, ht, List.mem_cons, List.mem_append]
        exact .inr (.inl (weightsAll_mem (List.mem_map.2 ⟨d, hd, rfl⟩) x hx))
    have hcap : len ≤ 140737488351232 := by
      have h1 := hwt.1
      have h2 : (elems.length + rest.length) * 1 ≤ (elems.length + rest.length) * P.bytesOf e := Nat.mul_le_mul_left _ hb
      simp only [reachBytes] at h1
      omega
    have key : ∀ i, i < len → ∃ (x : α), (∃ (cs : List Value), cellsAt W (a.add (i * s.size)) cs ∧ s.rd W.heap.size W cs x) ∧ ok x := by
      intro i hi
      have h1 := hel i hi
      rw [List.getElem?_eq_getElem (by omega)] at h1
      obtain ⟨cs, hcs, htr⟩ := Option.bind_eq_some_iff.1 h1
      obtain ⟨_, hlc, hcell⟩ := World.cells?_some hcs
      obtain ⟨x, hx, hok⟩ := he _ cs _ htr (hwt.2 _ (List.getElem_mem _))
      refine ⟨x, ⟨cs, fun j u hj => ?_, hx⟩, hok⟩
      have hjl : j < cs.length := by
        rcases Nat.lt_or_ge j cs.length with h' | h'
        · exact h'
        · rw [List.getElem?_eq_none h'] at hj; cases hj
      rw [← hc, hcell j (by omega)]
      exact hj
    refine ⟨List.ofFn fun i : Fin len => (key i i.2).choose, ⟨?_, ?_, ?_, ?_⟩, ?_, ?_⟩
    · refine ⟨some a, cap, by rw [List.length_ofFn], by rw [List.length_ofFn]; exact hl, hm, fun b hb' h0 => ?_⟩
      injection hb' with hb'
      subst hb'
      rw [List.length_ofFn] at h0
      obtain ⟨x, ⟨cs, hca, hx⟩, _⟩ := key 0 h0
      have hl2 := s.len hx
      have := hca.block (by omega)
      rwa [add_block] at this
    · intro i x hi
      have hil : i < len := by
        rcases Nat.lt_or_ge i len with h' | h'
        · exact h'
        · rw [List.getElem?_eq_none (by rw [List.length_ofFn]; exact h')] at hi; cases hi
      rw [List.getElem?_eq_getElem (by rw [List.length_ofFn]; exact hil)] at hi
      simp only [List.getElem_ofFn, Option.some.injEq] at hi
      subst hi
      exact (key i hil).choose_spec.1
    · intro _; exact ⟨a, cap, by rw [List.length_ofFn]⟩
    · rw [List.length_ofFn]; omega
    · intro x hx
      rw [List.mem_ofFn] at hx
      obtain ⟨i, rfl⟩ := hx
      exact (key i i.2).choose_spec.2
    · rw [List.length_ofFn]
      have h1 := hwt.1
      have h2 : len * P.bytesOf e ≤ (elems.length + rest.length) * P.bytesOf e := Nat.mul_le_mul_right _ (by omega)
      simp only [reachBytes] at h1
      omega

theorem opens_int {e : TypeId} (he : P.underlying e = some (.int .i64)) : Opens enc P W base sp held intS (fun _ => True) e := fun n cs y h _ => by
  obtain ⟨k, rfl, _, hw⟩ := DataW.trod_int he h
  have h2 : -9223372036854775808 ≤ k ∧ k ≤ 9223372036854775807 := by simpa [Lit.wf, IntKind.min, IntKind.max, IntKind.signed, IntKind.bits] using hw
  exact ⟨k, ⟨rfl, h2⟩, trivial⟩
theorem opens_str {e : TypeId} (he : P.underlying e = some .string) : Opens enc P W base sp held strS (fun l => l.length ≤ 140737488351232) e := fun n cs y h hw => by
  obtain ⟨s, rfl, rfl, _⟩ := DataW.trod_string he h
  have := hw s.data.toList.length (by simp [DataW.weights])
  simp only [reachBytes] at this
  exact ⟨s.data.toList, ⟨rfl, by omega⟩, by omega⟩

theorem trod_i64 {e : TypeId} {n : Nat} {cs : List Value} {y : DataW H × List MemPlace} (he : P.underlying e = some (.int .i64)) (h : DataW.trod enc P W base sp held n e cs = some y) : ∃ k, cs = [I k] ∧ Int64 k := by
  obtain ⟨k, rfl, _, hw⟩ := DataW.trod_int he h
  have h2 : -9223372036854775808 ≤ k ∧ k ≤ 9223372036854775807 := by simpa [Lit.wf, IntKind.min, IntKind.max, IntKind.signed, IntKind.bits] using hw
  exact ⟨k, rfl, h2⟩

theorem opens_slot {e : TypeId} {f0 f1 : Field} (he : P.underlying e = some (.struct #[f0, f1])) (o0 : f0.offset = 0) (o1 : f1.offset = 1) (t0 : P.underlying f0.type = some (.int .i64)) (t1 : P.underlying f1.type = some (.int .i64))
    (c0 : P.cellsOf f0.type = 1) (c1 : P.cellsOf f1.type = 1) (ce : P.cellsOf e = 2) : Opens enc P W base sp held Silo.slotS (fun _ => True) e := fun n cs y h _ => by
  obtain ⟨xs, n', rfl, rfl, hlen, hxs, hf⟩ := DataW.trod_struct he h
  rw [ce] at hlen
  have h0 := hf 0 f0 rfl
  have h1 := hf 1 f1 rfl
  have hx2 : xs.length = 2 := hxs
  match cs, hlen, xs, hx2, h0, h1 with
  | [a, b], _, [x0, x1], _, h0, h1 =>
    rw [o0, c0] at h0
    rw [o1, c1] at h1
    obtain ⟨k0, e0, w0⟩ := trod_i64 t0 h0
    obtain ⟨k1, e1, w1⟩ := trod_i64 t1 h1
    have e0' : a = I k0 := by simpa using e0
    have e1' : b = I k1 := by simpa using e1
    exact ⟨(k0, k1), ⟨by rw [e0', e1'], w0, w1⟩, trivial⟩

theorem trod_str {e : TypeId} {n : Nat} {cs : List Value} {y : DataW H × List MemPlace} (he : P.underlying e = some .string) (h : DataW.trod enc P W base sp held n e cs = some y) (hw : ∀ x ∈ DataW.weights P e y.1, x ≤ reachBytes) : ∃ l, cs = [St l] ∧ l.length ≤ 140737488351232 := by
  obtain ⟨s, rfl, rfl, _⟩ := DataW.trod_string he h
  have := hw s.data.toList.length (by simp [DataW.weights])
  exact ⟨s.data.toList, rfl, by simp only [reachBytes] at this; omega⟩

theorem trod_one {t e : TypeId} {n : Nat} {cs : List Value} {y : DataW H × List MemPlace} (ht : P.underlying t = some (.slice e)) (h : DataW.trod enc P W base sp held n t cs = some y) : ∃ v, cs = [v] := by
  rcases DataW.trod_slice ht h with ⟨h0, _⟩ | ⟨a, len, cap, _, _, _, _, h0, _⟩
  · exact ⟨_, h0⟩
  · exact ⟨_, h0⟩

theorem opens_rec {e eI eS : TypeId} {f0 f1 f2 f3 f4 f5 : Field} (he : P.underlying e = some (.struct #[f0, f1, f2, f3, f4, f5])) (o : [f0.offset, f1.offset, f2.offset, f3.offset, f4.offset, f5.offset] = [0, 1, 2, 3, 4, 5])
    (t0 : P.underlying f0.type = some (.int .i64)) (t1 : P.underlying f1.type = some (.int .i64)) (t2 : P.underlying f2.type = some .string) (t3 : P.underlying f3.type = some .string) (t4 : P.underlying f4.type = some (.slice eI)) (t5 : P.underlying f5.type = some (.slice eS))
    (c : [P.cellsOf f0.type, P.cellsOf f1.type, P.cellsOf f2.type, P.cellsOf f3.type, P.cellsOf f4.type, P.cellsOf f5.type] = [1, 1, 1, 1, 1, 1]) (ce : P.cellsOf e = 6)
    (hI : Opens enc P W base sp held intS (fun _ => True) eI) (hS : Opens enc P W base sp held Silo.slotS (fun _ => True) eS) (cI : P.cellsOf eI = 1) (cS : P.cellsOf eS = 2) (bI : 1 ≤ P.bytesOf eI) (bS : 1 ≤ P.bytesOf eS) : Opens enc P W base sp held Silo.recS (fun r => r.name.length ≤ 140737488351232) e := fun n cs y h hw => by
  obtain ⟨xs, n', rfl, rfl, hlen, hxs, hf⟩ := DataW.trod_struct he h
  rw [ce] at hlen
  have hx6 : xs.length = 6 := hxs
  simp only [List.cons.injEq, and_true] at o c
  obtain ⟨o0, o1, o2, o3, o4, o5⟩ := o
  obtain ⟨c0, c1, c2, c3, c4, c5⟩ := c
  have h0 := hf 0 f0 rfl
  have h1 := hf 1 f1 rfl
  have h2 := hf 2 f2 rfl
  have h3 := hf 3 f3 rfl
  have h4 := hf 4 f4 rfl
  have h5 := hf 5 f5 rfl
  match cs, hlen, xs, hx6, h0, h1, h2, h3, h4, h5, hw with
  | [a0, a1, a2, a3, a4, a5], _, [x0, x1, x2, x3, x4, x5], _, h0, h1, h2, h3, h4, h5, hw =>
    rw [o0, c0] at h0
    rw [o1, c1] at h1
    rw [o2, c2] at h2
    rw [o3, c3] at h3
    rw [o4, c4] at h4
    rw [o5, c5] at h5
    have hwe : ∀ x ∈ DataW.weightsEach P [f0.type, f1.type, f2.type, f3.type, f4.type, f5.type] [x0.1, x1.1, x2.1, x3.1, x4.1, x5.1], x ≤ reachBytes := fun x hx => hw x (by simp only [DataW.weights, he]; exact hx)
    obtain ⟨k0, e0, w0⟩ := trod_i64 t0 h0
    obtain ⟨k1, e1, w1⟩ := trod_i64 t1 h1
    obtain ⟨l2, e2, w2⟩ := trod_str t2 h2 (fun x hx => hwe x (DataW.weights_mem_each (j := 2) rfl rfl x hx))
    obtain ⟨l3, e3, w3⟩ := trod_str t3 h3 (fun x hx => hwe x (DataW.weights_mem_each (j := 3) rfl rfl x hx))
    have e0' : a0 = I k0 := by simpa using e0
    have e1' : a1 = I k1 := by simpa using e1
    have e2' : a2 = St l2 := by simpa using e2
    have e3' : a3 = St l3 := by simpa using e3
    obtain ⟨l4, r4, _⟩ := open_rd (v := a4) t4 (s := intS) (cI.trans rfl) (by decide) bI hI h4 (fun x hx => hwe x (DataW.weights_mem_each (j := 4) rfl rfl x hx))
    obtain ⟨l5, r5, _⟩ := open_rd (v := a5) t5 (s := Silo.slotS) (cS.trans rfl) (by decide) bS hS h5 (fun x hx => hwe x (DataW.weights_mem_each (j := 5) rfl rfl x hx))
    exact ⟨⟨k0, k1, l2, l3, l4, l5⟩, ⟨a4, a5, by rw [e0', e1', e2', e3'], r4, r5, w0, w1, by dsimp only; omega, by dsimp only; omega⟩, w2⟩

theorem open_ask {t eR eS eN : TypeId} {f0 f1 f2 : Field} {v : Value} {d : DataW H} {ps : List MemPlace} (ht : P.underlying t = some (.struct #[f0, f1, f2])) (o : [f0.offset, f1.offset, f2.offset] = [0, 1, 2]) (c : [P.cellsOf f0.type, P.cellsOf f1.type, P.cellsOf f2.type] = [1, 1, 1]) (ct : P.cellsOf t = 3)
    (t0 : P.underlying f0.type = some (.slice eR)) (t1 : P.underlying f1.type = some (.slice eS)) (t2 : P.underlying f2.type = some (.slice eN)) (hR : Opens enc P W base sp held Silo.recS (fun r => r.name.length ≤ 140737488351232) eR) (hS : Opens enc P W base sp held strS (fun l => l.length ≤ 140737488351232) eS) (hN : Opens enc P W base sp held intS (fun _ => True) eN)
    (cR : P.cellsOf eR = 6) (cS : P.cellsOf eS = 1) (cN : P.cellsOf eN = 1) (bR : 1 ≤ P.bytesOf eR) (bS : 1 ≤ P.bytesOf eS) (bN : 1 ≤ P.bytesOf eN)
    (hval : Value.okWide P W .any base t v) (h : DataW.Trod enc P W base sp held t v d ps) (hw : ∀ x ∈ DataW.weights P t d, x ≤ reachBytes) :
    ∃ vR vS vN R S N, v = .agg #[vR, vS, vN] ∧ Rd Silo.recS W vR R ∧ Rd strS W vS S ∧ Rd intS W vN N ∧ (∀ r ∈ R, r.name.length ≤ 140737488351232) ∧ R.length * P.bytesOf eR ≤ 140737488351232 := by
  unfold Value.okWide at hval
  rw [ht] at hval
  obtain ⟨⟨cs⟩, rfl, hsz, _⟩ := hval
  obtain ⟨fuel, h⟩ := h
  obtain ⟨xs, n', rfl, hd, hlen, hxs, hf⟩ := DataW.trod_struct ht h
  have hd1 : d = .agg (xs.map (·.1)) := (Prod.mk.inj hd).1
  subst hd1
  rw [ct] at hlen
  have hx3 : xs.length = 3 := hxs
  simp only [List.cons.injEq, and_true] at o c
  obtain ⟨o0, o1, o2⟩ := o
  obtain ⟨c0, c1, c2⟩ := c
  have h0 := hf 0 f0 rfl
  have h1 := hf 1 f1 rfl
  have h2 := hf 2 f2 rfl
  have hlen' : cs.length = 3 := hlen
  simp only [Value.cells] at h0 h1 h2
  match cs, hlen', xs, hx3, h0, h1, h2, hw with
  | [a0, a1, a2], _, [x0, x1, x2], _, h0, h1, h2, hw =>
    rw [o0, c0] at h0
    rw [o1, c1] at h1
    rw [o2, c2] at h2
    have hwe : ∀ x ∈ DataW.weightsEach P [f0.type, f1.type, f2.type] [x0.1, x1.1, x2.1], x ≤ reachBytes := fun x hx => hw x (by simp only [DataW.weights, ht]; exact hx)
    obtain ⟨R, r0, ok0, z0⟩ := open_rd (v := a0) t0 (s := Silo.recS) (cR.trans rfl) (by decide) bR hR h0 (fun x hx => hwe x (DataW.weights_mem_each (j := 0) rfl rfl x hx))
    obtain ⟨S, r1, _⟩ := open_rd (v := a1) t1 (s := strS) (cS.trans rfl) (by decide) bS hS h1 (fun x hx => hwe x (DataW.weights_mem_each (j := 1) rfl rfl x hx))
    obtain ⟨N, r2, _⟩ := open_rd (v := a2) t2 (s := intS) (cN.trans rfl) (by decide) bN hN h2 (fun x hx => hwe x (DataW.weights_mem_each (j := 2) rfl rfl x hx))
    exact ⟨a0, a1, a2, R, S, N, rfl, r0, r1, r2, ok0, z0⟩
end
end Go.Eng

namespace Silo
open Go Go.Eng

theorem less_irrefl : ∀ l : List UInt8, Op.bytesLess l l = false
  | [] => rfl
  | a :: r => by simp [Op.bytesLess, less_irrefl r]
theorem less_asymm : ∀ a b : List UInt8, Op.bytesLess a b = true → Op.bytesLess b a = false
  | [], [], h => by simp [Op.bytesLess] at h
  | [], _ :: _, _ => rfl
  | _ :: _, [], h => by simp [Op.bytesLess] at h
  | x :: a, y :: b, h => by
    simp only [Op.bytesLess, Bool.or_eq_true, decide_eq_true_eq, Bool.and_eq_true, beq_iff_eq] at h
    simp only [Op.bytesLess, Bool.or_eq_false_iff, decide_eq_false_iff_not, Bool.and_eq_false_iff, beq_eq_false_iff_ne]
    rcases h with h | ⟨rfl, h⟩
    · exact ⟨by rw [UInt8.not_lt]; exact UInt8.le_of_lt h, .inl (fun e => by subst e; exact absurd h (UInt8.lt_irrefl _))⟩
    · exact ⟨UInt8.lt_irrefl _, .inr (less_asymm a b h)⟩
theorem less_total : ∀ a b : List UInt8, Op.bytesLess a b = false → a ≠ b → Op.bytesLess b a = true
  | [], [], _, h => absurd rfl h
  | [], _ :: _, h, _ => by simp [Op.bytesLess] at h
  | _ :: _, [], _, _ => rfl
  | x :: a, y :: b, h, hne => by
    simp only [Op.bytesLess, Bool.or_eq_false_iff, decide_eq_false_iff_not, Bool.and_eq_false_iff, beq_eq_false_iff_ne] at h
    simp only [Op.bytesLess, Bool.or_eq_true, decide_eq_true_eq, Bool.and_eq_true, beq_iff_eq]
    obtain ⟨h1, h2⟩ := h
    by_cases e : x = y
    · subst e
      exact .inr ⟨rfl, less_total a b (h2.resolve_left (fun h => h rfl)) (fun e => hne (by rw [e]))⟩
    · left
      rw [UInt8.not_lt] at h1
      exact UInt8.lt_of_le_of_ne h1 (Ne.symm e)
theorem less_trans : ∀ a b c : List UInt8, Op.bytesLess a b = true → Op.bytesLess b c = true → Op.bytesLess a c = true
  | _, _, [], _, h => by simp [Op.bytesLess] at h
  | _, [], _ :: _, h, _ => by simp [Op.bytesLess] at h
  | [], _ :: _, _ :: _, _, _ => rfl
  | x :: a, y :: b, z :: c, h, h' => by
    simp only [Op.bytesLess, Bool.or_eq_true, decide_eq_true_eq, Bool.and_eq_true, beq_iff_eq] at h h' ⊢
    rcases h with h | ⟨rfl, h⟩
    · rcases h' with h' | ⟨rfl, h'⟩
      · exact .inl (UInt8.lt_trans h h')
      · exact .inl h
    · rcases h' with h' | ⟨rfl, h'⟩
      · exact .inl h'
      · exact .inr ⟨rfl, less_trans a b c h h'⟩
/-- b is above a just where it is neither below a nor a. -/
theorem less_not (a b : List UInt8) : Op.bytesLess a b = !(Op.bytesLess b a || (b == a)) := by
  cases h : Op.bytesLess a b with
  | true =>
    have h1 := less_asymm a b h
    have h2 : (b == a) = false := by
      rw [beq_eq_false_iff_ne]; intro e; subst e; rw [less_irrefl] at h; cases h
    rw [h1, h2]; rfl
  | false =>
    by_cases e : a = b
    · subst e; simp
    · rw [less_total a b h e]; rfl

/-- May the i-th one stand there? -/
def digAt (l : List (List UInt8)) (i : Nat) : Bool := decide ((l[i]?.getD []).length = 32) && (decide (i = 0) || Op.bytesLess (l[i - 1]?.getD []) (l[i]?.getD []))
def risingB (l : List (List UInt8)) : Bool := (List.range l.length).all (digAt l)
theorem risingB_iff {l : List (List UInt8)} : risingB l = true ↔ ∀ i, i < l.length → digAt l i = true := by simp [risingB]
theorem risingB_none {l : List (List UInt8)} {k : Nat} (h : ∀ i, i < k → digAt l i = true) (hk : l.length ≤ k) : risingB l = true := risingB_iff.2 fun i hi => h i (by omega)
theorem risingB_bad {l : List (List UInt8)} {i : Nat} (hi : i < l.length) (h : digAt l i = false) : risingB l = false := by
  cases hc : risingB l with
  | false => rfl
  | true => rw [risingB_iff.1 hc i hi] at h; cases h
theorem getD_lt {α : Type} {l : List α} {i : Nat} {d : α} (h : i < l.length) : l[i]?.getD d = l[i] := by rw [List.getElem?_eq_getElem h]; rfl
end Silo

namespace Silo
open Go Go.Eng

structure Man where
  kind : Int
  blobs : List (List UInt8)
  subs : List (List UInt8)
  deriving DecidableEq

def manS : Shape Man where
  size := 3
  rd := fun B w cs m => ∃ vb vs, cs = [I m.kind, vb, vs] ∧ RdS strS B w vb m.blobs ∧ RdS strS B w vs m.subs ∧ Go.Eng.Int64 m.kind
  len := fun ⟨_, _, h, _⟩ => by rw [h]; rfl
  keep := fun hk ⟨vb, vs, h, h1, h2, h3⟩ => ⟨vb, vs, h, h1.keep hk, h2.keep hk, h3⟩
  mono := fun hB ⟨vb, vs, h, h1, h2, h3⟩ => ⟨vb, vs, h, h1.mono hB, h2.mono hB, h3⟩
  one := fun ⟨vb, vs, h, h1, h2, _⟩ u hu => by
    obtain ⟨A, c, rfl, _⟩ := h1.form
    obtain ⟨A', c', rfl, _⟩ := h2.form
    subst h
    simp at hu
    rcases hu with rfl | rfl | rfl <;> rfl
def RdMan (w : World) (cs : List Value) (m : Man) : Prop := manS.rd w.heap.size w cs m
theorem RdMan.up {w w' : World} {cs : List Value} {m : Man} (h : RdMan w cs m) (hk : RowKit.Below w.heap.size w w') : RdMan w' cs m := manS.mono hk.size (manS.keep hk.block h)

def manMay (m : Man) : Bool := (decide (0 ≤ m.kind) && decide (m.kind ≤ 255)) && decide (m.blobs.length + m.subs.length ≤ 20) && risingB m.blobs && risingB m.subs
def manBytes (m : Man) : List UInt8 := [77, 65, 78, 70] ++ [u8I m.kind, u8I m.blobs.length, u8I m.subs.length] ++ m.blobs.flatten ++ m.subs.flatten
def chunks : Nat → List UInt8 → List (List UInt8)
  | 0, _ => []
  | k + 1, s => s.take 32 :: chunks k (s.drop 32)
theorem chunks_length : ∀ (k : Nat) (s : List UInt8), (chunks k s).length = k
  | 0, _ => rfl
  | k + 1, s => by simp [chunks, chunks_length k]
theorem chunks_get : ∀ (k : Nat) (s : List UInt8) (i : Nat), i < k → (chunks k s)[i]? = some ((s.drop (32 * i)).take 32)
  | k + 1, s, 0, _ => by simp [chunks]
  | k + 1, s, i + 1, h => by
    simp only [chunks, List.getElem?_cons_succ]
    rw [chunks_get k _ i (by omega), List.drop_drop]
    congr 3
    omega
theorem chunks_snoc (k : Nat) (s : List UInt8) : chunks (k + 1) s = chunks k s ++ [(s.drop (32 * k)).take 32] := by
  apply List.ext_getElem?
  intro i
  rcases Nat.lt_or_ge i k with h | h
  · rw [List.getElem?_append_left (by rw [chunks_length]; exact h), chunks_get _ _ _ h, chunks_get _ _ _ (by omega)]
  · rcases Nat.eq_or_lt_of_le h with h | h
    · subst h
      rw [chunks_get _ _ _ (by omega), List.getElem?_append_right (by rw [chunks_length]; exact Nat.le_refl _), chunks_length]
      simp
    · rw [List.getElem?_eq_none (by rw [chunks_length]; omega), List.getElem?_eq_none (by rw [List.length_append, chunks_length]; simp; omega)]
/-- A byte of a text, as a number. -/
def at_ (s : List UInt8) (i : Nat) : Nat := (s[i]?.getD 0).toNat
def manOf (s : List UInt8) : Man := ⟨at_ s 4, chunks (at_ s 5) (s.drop 7), chunks (at_ s 6) ((s.drop 7).drop (32 * at_ s 5))⟩
def manTake (s : List UInt8) : Option Man :=
  if 7 ≤ s.length ∧ s.take 4 = [77, 65, 78, 70] ∧ s.length = 7 + 32 * (at_ s 5 + at_ s 6) then (if manMay (manOf s) then some (manOf s) else none) else none
/-- The record where there is none. -/
def man0 : Man := ⟨0, [], []⟩
end Silo

namespace Go.Eng
open Go Go.RowKit
section
variable {H : Type} {enc : TypeId × Value → H} {P : Program} {W : World} {base : Nat} {sp : Nat → Bool} {held : Bool}
theorem opens_man {e eS : TypeId} {f0 f1 f2 : Field} (he : P.underlying e = some (.struct #[f0, f1, f2])) (o : [f0.offset, f1.offset, f2.offset] = [0, 1, 2])
    (t0 : P.underlying f0.type = some (.int .i64)) (t1 : P.underlying f1.type = some (.slice eS)) (t2 : P.underlying f2.type = some (.slice eS))
    (c : [P.cellsOf f0.type, P.cellsOf f1.type, P.cellsOf f2.type] = [1, 1, 1]) (ce : P.cellsOf e = 3)
    (hS : Opens enc P W base sp held strS (fun l => l.length ≤ 140737488351232) eS) (cS : P.cellsOf eS = 1) (bS : 1 ≤ P.bytesOf eS) : Opens enc P W base sp held Silo.manS (fun _ => True) e := fun n cs y h hw => by
  obtain ⟨xs, n', rfl, rfl, hlen, hxs, hf⟩ := DataW.trod_struct he h
  rw [ce] at hlen
  have hx3 : xs.length = 3 := hxs
  simp only [List.cons.injEq, and_true] at o c
  obtain ⟨o0, o1, o2⟩ := o
  obtain ⟨c0, c1, c2⟩ := c
  have h0 := hf 0 f0 rfl
  have h1 := hf 1 f1 rfl
  have h2 := hf 2 f2 rfl
  match cs, hlen, xs, hx3, h0, h1, h2, hw with
  | [a0, a1, a2], _, [x0, x1, x2], _, h0, h1, h2, hw =>
    rw [o0, c0] at h0
    rw [o1, c1] at h1
    rw [o2, c2] at h2
    have hwe : ∀ x ∈ DataW.weightsEach P [f0.type, f1.type, f2.type] [x0.1, x1.1, x2.1], x ≤ reachBytes := fun x hx => hw x (by simp only [DataW.weights, he]; exact hx)
    obtain ⟨k0, e0, w0⟩ := trod_i64 t0 h0
    have e0' : a0 = I k0 := by simpa using e0
    obtain ⟨l4, r4, _⟩ := open_rd (v := a1) t1 (s := strS) (cS.trans rfl) (by decide) bS hS h1 (fun x hx => hwe x (DataW.weights_mem_each (j := 1) rfl rfl x hx))
    obtain ⟨l5, r5, _⟩ := open_rd (v := a2) t2 (s := strS) (cS.trans rfl) (by decide) bS hS h2 (fun x hx => hwe x (DataW.weights_mem_each (j := 2) rfl rfl x hx))
    exact ⟨⟨k0, l4, l5⟩, ⟨a1, a2, by rw [e0'], r4, r5, w0⟩, trivial⟩
/-- A struct of two slices. -/
theorem open_two {α β : Type} {sA : Shape α} {sB : Shape β} {okA : α → Prop} {okB : β → Prop} {t eA eB : TypeId} {f0 f1 : Field} {v : Value} {d : DataW H} {ps : List MemPlace} (ht : P.underlying t = some (.struct #[f0, f1])) (o : [f0.offset, f1.offset] = [0, 1]) (c : [P.cellsOf f0.type, P.cellsOf f1.type] = [1, 1]) (ct : P.cellsOf t = 2)
    (t0 : P.underlying f0.type = some (.slice eA)) (t1 : P.underlying f1.type = some (.slice eB)) (hA : Opens enc P W base sp held sA okA eA) (hB : Opens enc P W base sp held sB okB eB)
    (cA : P.cellsOf eA = sA.size) (cB : P.cellsOf eB = sB.size) (zA : 0 < sA.size) (zB : 0 < sB.size) (bA : 1 ≤ P.bytesOf eA) (bB : 1 ≤ P.bytesOf eB)
    (hval : Value.okWide P W .any base t v) (h : DataW.Trod enc P W base sp held t v d ps) (hw : ∀ x ∈ DataW.weights P t d, x ≤ reachBytes) :
    ∃ vA vB A B, v = .agg #[vA, vB] ∧ Rd sA W vA A ∧ Rd sB W vB B ∧ (∀ x ∈ A, okA x) ∧ (∀ x ∈ B, okB x) ∧ A.length * P.bytesOf eA ≤ 140737488351232 ∧ B.length * P.bytesOf eB ≤ 140737488351232 := by
  unfold Value.okWide at hval
  rw [ht] at hval
  obtain ⟨⟨cs⟩, rfl, hsz, _⟩ := hval
  obtain ⟨fuel, h⟩ := h
  obtain ⟨xs, n', rfl, hd, hlen, hxs, hf⟩ := DataW.trod_struct ht h
  have hd1 : d = .agg (xs.map (·.1)) := (Prod.mk.inj hd).1
  subst hd1
  rw [ct] at hlen
  have hx2 : xs.length = 2 := hxs
  simp only [List.cons.injEq, and_true] at o c
  obtain ⟨o0, o1⟩ := o
  obtain ⟨c0, c1⟩ := c
  have h0 := hf 0 f0 rfl
  have h1 := hf 1 f1 rfl
  have hlen' : cs.length = 2 := hlen
  simp only [Value.cells] at h0 h1
  match cs, hlen', xs, hx2, h0, h1, hw with
  | [a0, a1], _, [x0, x1], _, h0, h1, hw =>
    rw [o0, c0] at h0
    rw [o1, c1] at h1
    have hwe : ∀ x ∈ DataW.weightsEach P [f0.type, f1.type] [x0.1, x1.1], x ≤ reachBytes := fun x hx => hw x (by simp only [DataW.weights, ht]; exact hx)
    obtain ⟨A, r0, ok0, z0⟩ := open_rd (v := a0) t0 (s := sA) cA zA bA hA h0 (fun x hx => hwe x (DataW.weights_mem_each (j := 0) rfl rfl x hx))
    obtain ⟨B, r1, ok1, z1⟩ := open_rd (v := a1) t1 (s := sB) cB zB bB hB h1 (fun x hx => hwe x (DataW.weights_mem_each (j := 1) rfl rfl x hx))
    exact ⟨a0, a1, A, B, rfl, r0, r1, ok0, ok1, z0, z1⟩
end
end Go.Eng

namespace Go.Proofs.Ytnddlhjafkhdoaa
open Go Go.Eng Go.ChangeShapes Go.WideShapes Go.ChangeAt Go.RowKit

section
variable {H : Type} {enc : TypeId × Value → H} {P : Program}
theorem post_of_below {f : Func} {s : ChangeSpec} {apart fresh handsOn again : Bool} {W W' : World} {args : Array Value} {v : Value} {ds gs : List (DataW H)} {before pa pv : List MemPlace}
    (hW : DataW.Whole enc P f.params.toList s.vars apart W args.toList ds gs before)
    (hres : ∀ (b : Nat) (sp : Nat → Bool) (hd : Bool), DataW.TrodAll enc P W' b sp hd f.resultTypes.toList (v.resultList f.resultTypes.size) (s.fn H (ds ++ gs)).results [])
    (hargs : ∀ sp : Nat → Bool, (∀ p ∈ before, sp p.block = true) → DataW.TrodAll enc P W' 0 sp true f.params.toList args.toList (s.fn H (ds ++ gs)).args pa)
    (hvars : ∀ sp : Nat → Bool, (∀ p ∈ before, sp p.block = true) → DataW.TrodVars enc P W' sp s.vars (s.fn H (ds ++ gs)).vars pv)
    (hps : before = pa ++ pv) (hb : Below W.heap.size W W')
    (hok : ∀ (j : Nat) (t : TypeId) (r : Value), f.resultTypes[j]? = some t → (v.resultList f.resultTypes.size)[j]? = some r → Value.okWide P W' .any 0 t r) :
    s.post enc P f apart fresh handsOn again W args v W' := by
  have hlt : ∀ p ∈ before, p.block < W.heap.size := fun p hp => hW.lt p hp
  have hold : ∀ p ∈ before, (fun b => decide (b < W.heap.size)) p.block = true := fun p hp => by simpa using hlt p hp
  refine ⟨ds, gs, before, [], pa, pv, hW, hres _ _ _, hargs _ hold, hvars _ hold, World.keptBut_mono (fun p hp => ⟨hp, ?_⟩) (hb.frame (· ∈ before)), fun _ => ?_⟩
  · rw [hps, List.mem_append] at hp
    exact Or.inr hp
  · obtain ⟨_, _, _, _, _, hz, hn⟩ := hW
    refine ⟨hok, _, _, ([] ++ pa) ++ pv, ⟨[] ++ pa, pv, trodAll_append (hargs _ (fun _ _ => rfl)) (hres _ _ _), hvars _ (fun _ _ => rfl), rfl, ?_, ?_⟩, ?_⟩
    · intro b off hp
      have hin : MemPlace.cell b off ∈ before := by rw [hps]; simpa using hp
      rw [hb.frozen (hlt _ hin)]
      exact hz b off hin
    · intro ha
      have := hn ha
      rw [hps] at this
      simpa using this
    · intro p hp _
      rw [hps]
      simpa using hp
end

theorem own : ownKnob Try.prog.godebug = none := by kernel_rfl
theorem laidOut : laidOutB Try.prog = true := by kernel_rfl
theorem cells_int : Try.prog.cellsOf 3 = 1 := by kernel_rfl
theorem cells_str : Try.prog.cellsOf 9 = 1 := by kernel_rfl
theorem cells_lS : Try.prog.cellsOf 23 = 1 := by kernel_rfl
theorem bytes_int : 1 ≤ Try.prog.bytesOf 3 := of_decide_eq_true (by kernel_rfl)
theorem bytes_str : 1 ≤ Try.prog.bytesOf 9 := of_decide_eq_true (by kernel_rfl)
end Go.Proofs.Ytnddlhjafkhdoaa

namespace Silo
open Go Go.Eng

structure Thg where
  digest : List UInt8
  text : List UInt8
  manifest : Bool
  deriving DecidableEq
abbrev encThg (t : Thg) : List Value := [St t.digest, St t.text, .bool t.manifest]
def thgS : Shape Thg := Shape.flat 3 encThg (fun t => t.digest.length ≤ 140737488355328 ∧ t.text.length ≤ 140737488355328) (fun _ => rfl) (fun _ u hu => by simp [encThg] at hu; rcases hu with rfl | rfl | rfl <;> rfl)

/-- May the i-th thing stand there? -/
def thgAt (l : List Thg) (i : Nat) : Bool := match l[i]? with
  | none => true
  | some t => decide (t.digest.length = 32) && decide (t.text.length ≤ 2000) && (decide (i = 0) || Op.bytesLess ((l[i - 1]?.map Thg.digest).getD []) t.digest) && (!t.manifest || (manTake t.text).isSome)
def thgsMay (l : List Thg) : Bool := decide (l.length ≤ 60) && (List.range l.length).all (thgAt l)
theorem thgsMay_iff {l : List Thg} : thgsMay l = true ↔ l.length ≤ 60 ∧ ∀ i, i < l.length → thgAt l i = true := by simp [thgsMay]
/-- Where the thing of a digest is. -/
def findT (l : List Thg) (d : List UInt8) : Option Nat := l.findIdx? fun t => t.digest == d
/-- What a thing names. -/
def namesT (t : Thg) : List (List UInt8) := if t.manifest then (match manTake t.text with | some m => m.blobs ++ m.subs | none => []) else []
/-- In which order things are come to. -/
def bfs (l : List Thg) : Nat → List (List UInt8) → List Nat → List Nat
  | 0, _, vis => vis
  | _ + 1, [], vis => vis
  | f + 1, d :: todo, vis => match findT l d with
    | none => bfs l f todo vis
    | some i => if i ∈ vis then bfs l f todo vis else bfs l f (todo ++ (match l[i]? with | some t => namesT t | none => [])) (vis ++ [i])
end Silo

namespace Go.Eng
open Go Go.RowKit
section
variable {H : Type} {enc : TypeId × Value → H} {P : Program} {W : World} {base : Nat} {sp : Nat → Bool} {held : Bool}
theorem opens_slice {α : Type} {s : Shape α} {ok : α → Prop} {t e : TypeId} (ht : P.underlying t = some (.slice e)) (hc : P.cellsOf e = s.size) (hs0 : 0 < s.size) (hb : 1 ≤ P.bytesOf e) (he : Opens enc P W base sp held s ok e) : Opens enc P W base sp held s.slice (fun _ => True) t := fun n cs y h hw => by
  obtain ⟨v, rfl⟩ := trod_one ht h
  obtain ⟨l, r, _⟩ := open_rd ht hc hs0 hb he h hw
  exact ⟨l, ⟨v, rfl, r⟩, trivial⟩
theorem opens_thg {e : TypeId} {f0 f1 f2 : Field} (he : P.underlying e = some (.struct #[f0, f1, f2])) (o : [f0.offset, f1.offset, f2.offset] = [0, 1, 2])
    (t0 : P.underlying f0.type = some .string) (t1 : P.underlying f1.type = some .string) (t2 : P.underlying f2.type = some .bool)
    (c : [P.cellsOf f0.type, P.cellsOf f1.type, P.cellsOf f2.type] = [1, 1, 1]) (ce : P.cellsOf e = 3) : Opens enc P W base sp held Silo.thgS (fun _ => True) e := fun n cs y h hw => by
  obtain ⟨xs, n', rfl, rfl, hlen, hxs, hf⟩ := DataW.trod_struct he h
  rw [ce] at hlen
  have hx3 : xs.length = 3 := hxs
  simp only [List.cons.injEq, and_true] at o c
  obtain ⟨o0, o1, o2⟩ := o
  obtain ⟨c0, c1, c2⟩ := c
  have h0 := hf 0 f0 rfl
  have h1 := hf 1 f1 rfl
  have h2 := hf 2 f2 rfl
  match cs, hlen, xs, hx3, h0, h1, h2, hw with
  | [a0, a1, a2], _, [x0, x1, x2], _, h0, h1, h2, hw =>
    rw [o0, c0] at h0
    rw [o1, c1] at h1
    rw [o2, c2] at h2
    have hwe : ∀ x ∈ DataW.weightsEach P [f0.type, f1.type, f2.type] [x0.1, x1.1, x2.1], x ≤ reachBytes := fun x hx => hw x (by simp only [DataW.weights, he]; exact hx)
    obtain ⟨l0, e0, w0⟩ := trod_str t0 h0 (fun x hx => hwe x (DataW.weights_mem_each (j := 0) rfl rfl x hx))
    obtain ⟨l1, e1, w1⟩ := trod_str t1 h1 (fun x hx => hwe x (DataW.weights_mem_each (j := 1) rfl rfl x hx))
    obtain ⟨b, e2, _⟩ := DataW.trod_bool t2 h2
    have e0' : a0 = St l0 := by simpa using e0
    have e1' : a1 = St l1 := by simpa using e1
    have e2' : a2 = .bool b := by simpa using e2
    exact ⟨⟨l0, l1, b⟩, ⟨by rw [e0', e1', e2'], by dsimp only; omega, by dsimp only; omega⟩, trivial⟩
end
end Go.Eng

namespace Go.Proofs.Ytnddlhjafkhdoaa
open Go Go.Eng Go.ChangeShapes Go.WideShapes Go.ChangeAt Go.RowKit
theorem cells_thg : Try.prog.cellsOf 62 = 3 := by kernel_rfl
theorem cells_rask : Try.prog.cellsOf 50 = 2 := by kernel_rfl
theorem cells_lT : Try.prog.cellsOf 52 = 1 := by kernel_rfl
theorem cells_lT2 : Try.prog.cellsOf 48 = 1 := by kernel_rfl
theorem cells_bool : Try.prog.cellsOf 4 = 1 := by kernel_rfl
theorem bytes_thg : 1 ≤ Try.prog.bytesOf 62 := of_decide_eq_true (by kernel_rfl)
theorem bytes_lT : 1 ≤ Try.prog.bytesOf 52 := of_decide_eq_true (by kernel_rfl)
theorem rask_open {H : Type} {enc : TypeId × Value → H} {W : World} {base : Nat} {sp : Nat → Bool} {held : Bool} {v : Value} {d : DataW H} {ps : List MemPlace}
    (hval : Value.okWide Try.prog W .any base 50 v) (h : DataW.Trod enc Try.prog W base sp held 50 v d ps) (hw : ∀ x ∈ DataW.weights Try.prog 50 d, x ≤ reachBytes) :
    ∃ vM vT L T, v = .agg #[vM, vT] ∧ Rd Silo.thgS.slice W vM L ∧ Rd strS W vT T ∧ True := by
  obtain ⟨vM, vT, L, T, h1, h2, h3, _⟩ := open_two (sA := Silo.thgS.slice) (sB := strS) Try.underlying50 rfl (by rw [cells_lT2, cells_lS]) cells_rask Try.underlying48 Try.underlying23
    (opens_slice Try.underlying52 cells_thg (by decide) bytes_thg (opens_thg Try.underlying62 rfl Try.underlying9 Try.underlying9 Try.underlying4 (by rw [cells_str, cells_bool]) cells_thg))
    (opens_str Try.underlying9) cells_lT cells_str (by decide) (by decide) bytes_lT bytes_str hval h hw
  exact ⟨vM, vT, L, T, h1, h2, h3, trivial⟩
end Go.Proofs.Ytnddlhjafkhdoaa

namespace Silo
open Go Go.Eng
def blobC (s : UInt8) (i : Nat) : List UInt8 := [98, 108, 111, 98, 32, s, UInt8.ofNat (97 + i)]
def dB (s : UInt8) (i : Nat) : List UInt8 := digestS (blobC s i)
/-- The i-th manifest. -/
def manC (s : UInt8) : Nat → Man
  | 0 => ⟨0, [dB s 0], []⟩
  | i + 1 => ⟨(i : Int) + 1, [dB s (i + 1)], [digestS (manBytes (manC s i))]⟩
def dM (s : UInt8) (i : Nat) : List UInt8 := digestS (manBytes (manC s i))
end Silo

set_option maxHeartbeats 4000000
namespace Silo
open Go Go.Eng
theorem dB120_0 : dB 120 0 = [67, 11, 1, 166, 135, 248, 217, 225, 210, 244, 88, 16, 88, 179, 8, 140, 83, 146, 211, 158, 2, 221, 150, 168, 83, 94, 239, 129, 136, 6, 128, 252] := by kernel_rfl
theorem bM120_0 : manBytes (manC 120 0) = [77, 65, 78, 70, 0, 1, 0, 67, 11, 1, 166, 135, 248, 217, 225, 210, 244, 88, 16, 88, 179, 8, 140, 83, 146, 211, 158, 2, 221, 150, 168, 83, 94, 239, 129, 136, 6, 128, 252] := by
  show manBytes ⟨0, [dB 120 0], []⟩ = _
  rw [dB120_0]; kernel_rfl
theorem dM120_0 : dM 120 0 = [139, 84, 176, 178, 2, 40, 208, 90, 39, 54, 87, 123, 82, 229, 193, 243, 98, 153, 130, 216, 79, 127, 246, 200, 131, 193, 15, 237, 235, 62, 241, 132] := by
  show digestS (manBytes (manC 120 0)) = _
  rw [bM120_0]; kernel_rfl
theorem dB120_1 : dB 120 1 = [91, 113, 241, 122, 7, 190, 211, 6, 25, 133, 36, 51, 103, 100, 205, 103, 178, 163, 56, 245, 249, 51, 252, 139, 82, 73, 101, 222, 154, 92, 133, 33] := by kernel_rfl
theorem bM120_1 : manBytes (manC 120 1) = [77, 65, 78, 70, 1, 1, 1, 91, 113, 241, 122, 7, 190, 211, 6, 25, 133, 36, 51, 103, 100, 205, 103, 178, 163, 56, 245, 249, 51, 252, 139, 82, 73, 101, 222, 154, 92, 133, 33, 139, 84, 176, 178, 2, 40, 208, 90, 39, 54, 87, 123, 82, 229, 193, 243, 98, 153, 130, 216, 79, 127, 246, 200, 131, 193, 15, 237, 235, 62, 241, 132] := by
  show manBytes ⟨((0 : Nat) : Int) + 1, [dB 120 1], [dM 120 0]⟩ = _
  rw [dB120_1, dM120_0]; kernel_rfl
theorem dM120_1 : dM 120 1 = [246, 193, 151, 228, 46, 235, 133, 237, 231, 156, 143, 200, 241, 114, 147, 208, 199, 79, 69, 94, 190, 50, 95, 17, 227, 65, 241, 13, 179, 57, 17, 164] := by
  show digestS (manBytes (manC 120 1)) = _
  rw [bM120_1]; kernel_rfl
theorem dB120_2 : dB 120 2 = [136, 254, 100, 149, 65, 94, 147, 30, 9, 132, 17, 5, 55, 71, 153, 220, 60, 106, 35, 223, 205, 204, 231, 143, 234, 96, 83, 115, 160, 63, 215, 171] := by kernel_rfl
theorem bM120_2 : manBytes (manC 120 2) = [77, 65, 78, 70, 2, 1, 1, 136, 254, 100, 149, 65, 94, 147, 30, 9, 132, 17, 5, 55, 71, 153, 220, 60, 106, 35, 223, 205, 204, 231, 143, 234, 96, 83, 115, 160, 63, 215, 171, 246, 193, 151, 228, 46, 235, 133, 237, 231, 156, 143, 200, 241, 114, 147, 208, 199, 79, 69, 94, 190, 50, 95, 17, 227, 65, 241, 13, 179, 57, 17, 164] := by
  show manBytes ⟨((1 : Nat) : Int) + 1, [dB 120 2], [dM 120 1]⟩ = _
  rw [dB120_2, dM120_1]; kernel_rfl
theorem dM120_2 : dM 120 2 = [244, 121, 116, 135, 233, 85, 175, 104, 188, 217, 81, 49, 60, 106, 57, 0, 173, 242, 192, 77, 233, 249, 236, 48, 180, 73, 239, 166, 128, 223, 207, 62] := by
  show digestS (manBytes (manC 120 2)) = _
  rw [bM120_2]; kernel_rfl
theorem dB120_3 : dB 120 3 = [87, 13, 218, 116, 54, 50, 156, 130, 61, 89, 24, 19, 81, 37, 246, 125, 218, 129, 158, 171, 217, 111, 127, 159, 202, 250, 86, 40, 125, 195, 215, 53] := by kernel_rfl
theorem bM120_3 : manBytes (manC 120 3) = [77, 65, 78, 70, 3, 1, 1, 87, 13, 218, 116, 54, 50, 156, 130, 61, 89, 24, 19, 81, 37, 246, 125, 218, 129, 158, 171, 217, 111, 127, 159, 202, 250, 86, 40, 125, 195, 215, 53, 244, 121, 116, 135, 233, 85, 175, 104, 188, 217, 81, 49, 60, 106, 57, 0, 173, 242, 192, 77, 233, 249, 236, 48, 180, 73, 239, 166, 128, 223, 207, 62] := by
  show manBytes ⟨((2 : Nat) : Int) + 1, [dB 120 3], [dM 120 2]⟩ = _
  rw [dB120_3, dM120_2]; kernel_rfl
theorem dM120_3 : dM 120 3 = [238, 108, 148, 161, 104, 182, 211, 85, 198, 91, 112, 143, 109, 135, 234, 113, 126, 189, 135, 38, 59, 50, 181, 163, 249, 211, 150, 245, 142, 83, 187, 243] := by
  show digestS (manBytes (manC 120 3)) = _
  rw [bM120_3]; kernel_rfl
theorem dB120_4 : dB 120 4 = [21, 126, 165, 36, 232, 54, 132, 181, 38, 237, 181, 67, 235, 75, 0, 47, 147, 187, 44, 202, 100, 173, 30, 133, 239, 85, 95, 156, 224, 1, 209, 245] := by kernel_rfl
theorem bM120_4 : manBytes (manC 120 4) = [77, 65, 78, 70, 4, 1, 1, 21, 126, 165, 36, 232, 54, 132, 181, 38, 237, 181, 67, 235, 75, 0, 47, 147, 187, 44, 202, 100, 173, 30, 133, 239, 85, 95, 156, 224, 1, 209, 245, 238, 108, 148, 161, 104, 182, 211, 85, 198, 91, 112, 143, 109, 135, 234, 113, 126, 189, 135, 38, 59, 50, 181, 163, 249, 211, 150, 245, 142, 83, 187, 243] := by
  show manBytes ⟨((3 : Nat) : Int) + 1, [dB 120 4], [dM 120 3]⟩ = _
  rw [dB120_4, dM120_3]; kernel_rfl
theorem dM120_4 : dM 120 4 = [119, 33, 108, 152, 117, 17, 38, 6, 85, 239, 27, 176, 146, 221, 226, 5, 27, 27, 58, 32, 116, 119, 156, 126, 227, 25, 228, 143, 111, 60, 123, 127] := by
  show digestS (manBytes (manC 120 4)) = _
  rw [bM120_4]; kernel_rfl
theorem dB120_5 : dB 120 5 = [151, 195, 119, 170, 221, 234, 142, 152, 7, 117, 222, 20, 163, 84, 80, 33, 12, 10, 204, 26, 130, 30, 68, 71, 185, 58, 21, 168, 97, 50, 154, 8] := by kernel_rfl
theorem bM120_5 : manBytes (manC 120 5) = [77, 65, 78, 70, 5, 1, 1, 151, 195, 119, 170, 221, 234, 142, 152, 7, 117, 222, 20, 163, 84, 80, 33, 12, 10, 204, 26, 130, 30, 68, 71, 185, 58, 21, 168, 97, 50, 154, 8, 119, 33, 108, 152, 117, 17, 38, 6, 85, 239, 27, 176, 146, 221, 226, 5, 27, 27, 58, 32, 116, 119, 156, 126, 227, 25, 228, 143, 111, 60, 123, 127] := by
  show manBytes ⟨((4 : Nat) : Int) + 1, [dB 120 5], [dM 120 4]⟩ = _
  rw [dB120_5, dM120_4]; kernel_rfl
theorem dM120_5 : dM 120 5 = [37, 235, 227, 125, 208, 249, 241, 153, 241, 112, 164, 152, 82, 245, 63, 237, 46, 209, 80, 254, 225, 113, 130, 25, 230, 150, 29, 156, 255, 70, 62, 111] := by
  show digestS (manBytes (manC 120 5)) = _
  rw [bM120_5]; kernel_rfl
theorem dB120_6 : dB 120 6 = [230, 23, 195, 176, 7, 240, 175, 155, 192, 238, 141, 191, 108, 190, 225, 143, 67, 167, 13, 48, 201, 160, 147, 22, 36, 195, 6, 166, 195, 246, 186, 132] := by kernel_rfl
theorem bM120_6 : manBytes (manC 120 6) = [77, 65, 78, 70, 6, 1, 1, 230, 23, 195, 176, 7, 240, 175, 155, 192, 238, 141, 191, 108, 190, 225, 143, 67, 167, 13, 48, 201, 160, 147, 22, 36, 195, 6, 166, 195, 246, 186, 132, 37, 235, 227, 125, 208, 249, 241, 153, 241, 112, 164, 152, 82, 245, 63, 237, 46, 209, 80, 254, 225, 113, 130, 25, 230, 150, 29, 156, 255, 70, 62, 111] := by
  show manBytes ⟨((5 : Nat) : Int) + 1, [dB 120 6], [dM 120 5]⟩ = _
  rw [dB120_6, dM120_5]; kernel_rfl
theorem dM120_6 : dM 120 6 = [89, 193, 85, 30, 35, 131, 22, 202, 65, 222, 160, 46, 24, 147, 91, 172, 159, 226, 147, 220, 214, 27, 229, 196, 116, 219, 213, 168, 29, 123, 0, 15] := by
  show digestS (manBytes (manC 120 6)) = _
  rw [bM120_6]; kernel_rfl
theorem dB120_7 : dB 120 7 = [33, 253, 58, 132, 5, 56, 67, 163, 102, 226, 193, 85, 126, 221, 223, 121, 172, 199, 170, 231, 159, 241, 206, 19, 253, 84, 107, 237, 222, 206, 17, 163] := by kernel_rfl
theorem bM120_7 : manBytes (manC 120 7) = [77, 65, 78, 70, 7, 1, 1, 33, 253, 58, 132, 5, 56, 67, 163, 102, 226, 193, 85, 126, 221, 223, 121, 172, 199, 170, 231, 159, 241, 206, 19, 253, 84, 107, 237, 222, 206, 17, 163, 89, 193, 85, 30, 35, 131, 22, 202, 65, 222, 160, 46, 24, 147, 91, 172, 159, 226, 147, 220, 214, 27, 229, 196, 116, 219, 213, 168, 29, 123, 0, 15] := by
  show manBytes ⟨((6 : Nat) : Int) + 1, [dB 120 7], [dM 120 6]⟩ = _
  rw [dB120_7, dM120_6]; kernel_rfl
theorem dM120_7 : dM 120 7 = [77, 82, 129, 133, 127, 24, 212, 108, 148, 127, 78, 96, 250, 170, 142, 170, 76, 70, 190, 86, 22, 18, 248, 66, 103, 2, 160, 148, 229, 147, 59, 1] := by
  show digestS (manBytes (manC 120 7)) = _
  rw [bM120_7]; kernel_rfl
theorem dB120_8 : dB 120 8 = [102, 98, 194, 106, 30, 225, 191, 141, 24, 49, 90, 213, 119, 87, 10, 169, 36, 68, 251, 218, 51, 206, 0, 101, 122, 199, 126, 40, 246, 104, 221, 28] := by kernel_rfl
theorem bM120_8 : manBytes (manC 120 8) = [77, 65, 78, 70, 8, 1, 1, 102, 98, 194, 106, 30, 225, 191, 141, 24, 49, 90, 213, 119, 87, 10, 169, 36, 68, 251, 218, 51, 206, 0, 101, 122, 199, 126, 40, 246, 104, 221, 28, 77, 82, 129, 133, 127, 24, 212, 108, 148, 127, 78, 96, 250, 170, 142, 170, 76, 70, 190, 86, 22, 18, 248, 66, 103, 2, 160, 148, 229, 147, 59, 1] := by
  show manBytes ⟨((7 : Nat) : Int) + 1, [dB 120 8], [dM 120 7]⟩ = _
  rw [dB120_8, dM120_7]; kernel_rfl
theorem dM120_8 : dM 120 8 = [179, 16, 145, 216, 222, 154, 129, 65, 189, 231, 243, 239, 143, 31, 67, 77, 118, 24, 46, 67, 102, 119, 93, 61, 96, 11, 101, 18, 213, 6, 234, 214] := by
  show digestS (manBytes (manC 120 8)) = _
  rw [bM120_8]; kernel_rfl
theorem apart120 : ((List.range 9).map (dB 120) ++ (List.range 9).map (dM 120)).Nodup := by
  show ([dB 120 0, dB 120 1, dB 120 2, dB 120 3, dB 120 4, dB 120 5, dB 120 6, dB 120 7, dB 120 8, dM 120 0, dM 120 1, dM 120 2, dM 120 3, dM 120 4, dM 120 5, dM 120 6, dM 120 7, dM 120 8] : List (List UInt8)).Nodup
  rw [dB120_0, dB120_1, dB120_2, dB120_3, dB120_4, dB120_5, dB120_6, dB120_7, dB120_8, dM120_0, dM120_1, dM120_2, dM120_3, dM120_4, dM120_5, dM120_6, dM120_7, dM120_8]
  decide +kernel
theorem dB121_0 : dB 121 0 = [138, 186, 104, 159, 97, 119, 129, 185, 204, 165, 28, 125, 164, 114, 137, 163, 194, 188, 172, 162, 3, 151, 81, 156, 51, 74, 167, 103, 187, 186, 120, 45] := by kernel_rfl
theorem bM121_0 : manBytes (manC 121 0) = [77, 65, 78, 70, 0, 1, 0, 138, 186, 104, 159, 97, 119, 129, 185, 204, 165, 28, 125, 164, 114, 137, 163, 194, 188, 172, 162, 3, 151, 81, 156, 51, 74, 167, 103, 187, 186, 120, 45] := by
  show manBytes ⟨0, [dB 121 0], []⟩ = _
  rw [dB121_0]; kernel_rfl
theorem dM121_0 : dM 121 0 = [172, 216, 73, 218, 44, 251, 19, 44, 22, 158, 26, 41, 16, 198, 30, 63, 78, 77, 179, 223, 158, 149, 11, 135, 64, 119, 155, 247, 3, 115, 237, 173] := by
  show digestS (manBytes (manC 121 0)) = _
  rw [bM121_0]; kernel_rfl
theorem dB121_1 : dB 121 1 = [198, 61, 210, 41, 24, 51, 254, 219, 176, 194, 162, 171, 124, 249, 66, 194, 59, 224, 133, 10, 125, 246, 160, 73, 81, 20, 111, 127, 63, 134, 132, 48] := by kernel_rfl
theorem bM121_1 : manBytes (manC 121 1) = [77, 65, 78, 70, 1, 1, 1, 198, 61, 210, 41, 24, 51, 254, 219, 176, 194, 162, 171, 124, 249, 66, 194, 59, 224, 133, 10, 125, 246, 160, 73, 81, 20, 111, 127, 63, 134, 132, 48, 172, 216, 73, 218, 44, 251, 19, 44, 22, 158, 26, 41, 16, 198, 30, 63, 78, 77, 179, 223, 158, 149, 11, 135, 64, 119, 155, 247, 3, 115, 237, 173] := by
  show manBytes ⟨((0 : Nat) : Int) + 1, [dB 121 1], [dM 121 0]⟩ = _
  rw [dB121_1, dM121_0]; kernel_rfl
theorem dM121_1 : dM 121 1 = [246, 129, 111, 216, 182, 57, 236, 126, 101, 108, 37, 212, 63, 93, 83, 5, 81, 169, 199, 200, 133, 187, 171, 200, 81, 48, 135, 14, 157, 187, 171, 47] := by
  show digestS (manBytes (manC 121 1)) = _
  rw [bM121_1]; kernel_rfl
theorem dB121_2 : dB 121 2 = [63, 192, 151, 95, 225, 214, 110, 192, 37, 134, 56, 162, 147, 182, 248, 201, 56, 172, 249, 23, 101, 95, 70, 192, 201, 132, 144, 141, 118, 56, 243, 174] := by kernel_rfl
theorem bM121_2 : manBytes (manC 121 2) = [77, 65, 78, 70, 2, 1, 1, 63, 192, 151, 95, 225, 214, 110, 192, 37, 134, 56, 162, 147, 182, 248, 201, 56, 172, 249, 23, 101, 95, 70, 192, 201, 132, 144, 141, 118, 56, 243, 174, 246, 129, 111, 216, 182, 57, 236, 126, 101, 108, 37, 212, 63, 93, 83, 5, 81, 169, 199, 200, 133, 187, 171, 200, 81, 48, 135, 14, 157, 187, 171, 47] := by
  show manBytes ⟨((1 : Nat) : Int) + 1, [dB 121 2], [dM 121 1]⟩ = _
  rw [dB121_2, dM121_1]; kernel_rfl
theorem dM121_2 : dM 121 2 = [162, 196, 207, 186, 9, 239, 83, 156, 124, 148, 249, 18, 124, 54, 159, 211, 238, 154, 239, 206, 143, 227, 195, 187, 188, 250, 248, 126, 64, 233, 118, 131] := by
  show digestS (manBytes (manC 121 2)) = _
  rw [bM121_2]; kernel_rfl
theorem dB121_3 : dB 121 3 = [78, 36, 254, 54, 222, 149, 113, 167, 247, 3, 131, 142, 217, 94, 58, 91, 69, 117, 133, 3, 228, 29, 252, 12, 14, 199, 183, 100, 0, 252, 181, 120] := by kernel_rfl
theorem bM121_3 : manBytes (manC 121 3) = [77, 65, 78, 70, 3, 1, 1, 78, 36, 254, 54, 222, 149, 113, 167, 247, 3, 131, 142, 217, 94, 58, 91, 69, 117, 133, 3, 228, 29, 252, 12, 14, 199, 183, 100, 0, 252, 181, 120, 162, 196, 207, 186, 9, 239, 83, 156, 124, 148, 249, 18, 124, 54, 159, 211, 238, 154, 239, 206, 143, 227, 195, 187, 188, 250, 248, 126, 64, 233, 118, 131] := by
  show manBytes ⟨((2 : Nat) : Int) + 1, [dB 121 3], [dM 121 2]⟩ = _
  rw [dB121_3, dM121_2]; kernel_rfl
theorem dM121_3 : dM 121 3 = [25, 244, 203, 185, 118, 143, 254, 1, 219, 160, 113, 224, 222, 134, 232, 98, 106, 99, 58, 40, 152, 151, 92, 252, 136, 133, 180, 14, 201, 118, 51, 211] := by
  show digestS (manBytes (manC 121 3)) = _
  rw [bM121_3]; kernel_rfl
theorem dB121_4 : dB 121 4 = [249, 117, 195, 153, 17, 79, 79, 3, 144, 71, 72, 238, 145, 35, 83, 165, 186, 88, 140, 114, 107, 120, 235, 27, 16, 19, 148, 212, 208, 195, 39, 151] := by kernel_rfl
theorem bM121_4 : manBytes (manC 121 4) = [77, 65, 78, 70, 4, 1, 1, 249, 117, 195, 153, 17, 79, 79, 3, 144, 71, 72, 238, 145, 35, 83, 165, 186, 88, 140, 114, 107, 120, 235, 27, 16, 19, 148, 212, 208, 195, 39, 151, 25, 244, 203, 185, 118, 143, 254, 1, 219, 160, 113, 224, 222, 134, 232, 98, 106, 99, 58, 40, 152, 151, 92, 252, 136, 133, 180, 14, 201, 118, 51, 211] := by
  show manBytes ⟨((3 : Nat) : Int) + 1, [dB 121 4], [dM 121 3]⟩ = _
  rw [dB121_4, dM121_3]; kernel_rfl
theorem dM121_4 : dM 121 4 = [160, 216, 83, 20, 12, 7, 59, 25, 100, 249, 212, 142, 187, 84, 90, 15, 198, 134, 40, 151, 145, 5, 2, 40, 39, 237, 111, 32, 204, 25, 216, 22] := by
  show digestS (manBytes (manC 121 4)) = _
  rw [bM121_4]; kernel_rfl
theorem dB121_5 : dB 121 5 = [252, 109, 196, 216, 91, 194, 251, 147, 94, 26, 238, 115, 186, 100, 66, 3, 224, 212, 105, 171, 10, 130, 248, 90, 139, 189, 89, 188, 3, 35, 211, 99] := by kernel_rfl
theorem bM121_5 : manBytes (manC 121 5) = [77, 65, 78, 70, 5, 1, 1, 252, 109, 196, 216, 91, 194, 251, 147, 94, 26, 238, 115, 186, 100, 66, 3, 224, 212, 105, 171, 10, 130, 248, 90, 139, 189, 89, 188, 3, 35, 211, 99, 160, 216, 83, 20, 12, 7, 59, 25, 100, 249, 212, 142, 187, 84, 90, 15, 198, 134, 40, 151, 145, 5, 2, 40, 39, 237, 111, 32, 204, 25, 216, 22] := by
  show manBytes ⟨((4 : Nat) : Int) + 1, [dB 121 5], [dM 121 4]⟩ = _
  rw [dB121_5, dM121_4]; kernel_rfl
theorem dM121_5 : dM 121 5 = [37, 235, 43, 68, 45, 125, 250, 155, 21, 124, 149, 133, 162, 49, 241, 181, 226, 244, 69, 15, 195, 91, 173, 147, 220, 183, 162, 237, 97, 99, 81, 251] := by
  show digestS (manBytes (manC 121 5)) = _
  rw [bM121_5]; kernel_rfl
theorem dB121_6 : dB 121 6 = [19, 25, 50, 28, 4, 5, 102, 166, 118, 200, 189, 170, 57, 4, 187, 233, 190, 249, 235, 68, 3, 46, 187, 193, 96, 237, 132, 26, 99, 128, 107, 105] := by kernel_rfl
theorem bM121_6 : manBytes (manC 121 6) = [77, 65, 78, 70, 6, 1, 1, 19, 25, 50, 28, 4, 5, 102, 166, 118, 200, 189, 170, 57, 4, 187, 233, 190, 249, 235, 68, 3, 46, 187, 193, 96, 237, 132, 26, 99, 128, 107, 105, 37, 235, 43, 68, 45, 125, 250, 155, 21, 124, 149, 133, 162, 49, 241, 181, 226, 244, 69, 15, 195, 91, 173, 147, 220, 183, 162, 237, 97, 99, 81, 251] := by
  show manBytes ⟨((5 : Nat) : Int) + 1, [dB 121 6], [dM 121 5]⟩ = _
  rw [dB121_6, dM121_5]; kernel_rfl
theorem dM121_6 : dM 121 6 = [176, 8, 73, 199, 22, 15, 86, 218, 177, 51, 132, 190, 62, 215, 78, 162, 78, 10, 120, 250, 232, 173, 12, 38, 46, 201, 205, 6, 99, 28, 128, 192] := by
  show digestS (manBytes (manC 121 6)) = _
  rw [bM121_6]; kernel_rfl
theorem dB121_7 : dB 121 7 = [162, 11, 122, 223, 77, 143, 79, 148, 138, 25, 165, 11, 98, 175, 130, 230, 253, 116, 190, 0, 143, 115, 8, 156, 176, 57, 150, 14, 89, 119, 141, 116] := by kernel_rfl
theorem bM121_7 : manBytes (manC 121 7) = [77, 65, 78, 70, 7, 1, 1, 162, 11, 122, 223, 77, 143, 79, 148, 138, 25, 165, 11, 98, 175, 130, 230, 253, 116, 190, 0, 143, 115, 8, 156, 176, 57, 150, 14, 89, 119, 141, 116, 176, 8, 73, 199, 22, 15, 86, 218, 177, 51, 132, 190, 62, 215, 78, 162, 78, 10, 120, 250, 232, 173, 12, 38, 46, 201, 205, 6, 99, 28, 128, 192] := by
  show manBytes ⟨((6 : Nat) : Int) + 1, [dB 121 7], [dM 121 6]⟩ = _
  rw [dB121_7, dM121_6]; kernel_rfl
theorem dM121_7 : dM 121 7 = [8, 197, 129, 153, 100, 86, 179, 224, 21, 57, 243, 184, 211, 60, 89, 8, 232, 185, 16, 203, 160, 212, 27, 113, 231, 50, 20, 138, 75, 57, 137, 144] := by
  show digestS (manBytes (manC 121 7)) = _
  rw [bM121_7]; kernel_rfl
theorem dB121_8 : dB 121 8 = [143, 22, 143, 91, 42, 103, 244, 187, 4, 107, 222, 108, 48, 26, 40, 74, 162, 220, 186, 68, 69, 222, 10, 92, 56, 147, 94, 244, 99, 192, 26, 197] := by kernel_rfl
theorem bM121_8 : manBytes (manC 121 8) = [77, 65, 78, 70, 8, 1, 1, 143, 22, 143, 91, 42, 103, 244, 187, 4, 107, 222, 108, 48, 26, 40, 74, 162, 220, 186, 68, 69, 222, 10, 92, 56, 147, 94, 244, 99, 192, 26, 197, 8, 197, 129, 153, 100, 86, 179, 224, 21, 57, 243, 184, 211, 60, 89, 8, 232, 185, 16, 203, 160, 212, 27, 113, 231, 50, 20, 138, 75, 57, 137, 144] := by
  show manBytes ⟨((7 : Nat) : Int) + 1, [dB 121 8], [dM 121 7]⟩ = _
  rw [dB121_8, dM121_7]; kernel_rfl
theorem dM121_8 : dM 121 8 = [229, 143, 15, 176, 184, 217, 106, 220, 140, 224, 31, 65, 247, 53, 150, 102, 194, 55, 149, 2, 104, 243, 96, 99, 255, 54, 155, 64, 33, 11, 94, 93] := by
  show digestS (manBytes (manC 121 8)) = _
  rw [bM121_8]; kernel_rfl
theorem apart121 : ((List.range 9).map (dB 121) ++ (List.range 9).map (dM 121)).Nodup := by
  show ([dB 121 0, dB 121 1, dB 121 2, dB 121 3, dB 121 4, dB 121 5, dB 121 6, dB 121 7, dB 121 8, dM 121 0, dM 121 1, dM 121 2, dM 121 3, dM 121 4, dM 121 5, dM 121 6, dM 121 7, dM 121 8] : List (List UInt8)).Nodup
  rw [dB121_0, dB121_1, dB121_2, dB121_3, dB121_4, dB121_5, dB121_6, dB121_7, dB121_8, dM121_0, dM121_1, dM121_2, dM121_3, dM121_4, dM121_5, dM121_6, dM121_7, dM121_8]
  decide +kernel
end Silo

namespace Silo
open Go Go.Eng
abbrev L (a b : List UInt8) : Prop := Op.bytesLess a b = true
theorem L_lt : ∀ a b : List UInt8, L a b ↔ a < b
  | [], [] => by simp [L, Op.bytesLess]
  | [], _ :: _ => by simp [L, Op.bytesLess]
  | _ :: _, [] => by simp [L, Op.bytesLess]
  | x :: a, y :: b => by
    simp only [L, Op.bytesLess, Bool.or_eq_true, decide_eq_true_eq, Bool.and_eq_true, beq_iff_eq, List.cons_lt_cons_iff]
    rw [show (Op.bytesLess a b = true ↔ a < b) from L_lt a b]
theorem L_le (a b : List UInt8) : decide (a ≤ b) = !Op.bytesLess b a := by
  rw [Bool.eq_iff_iff]
  simp only [decide_eq_true_eq, Bool.not_eq_true', ← Bool.not_eq_true]
  rw [show (Op.bytesLess b a = true ↔ b < a) from L_lt b a]
  exact List.not_lt.symm
theorem L_irrefl (a : List UInt8) : ¬ L a a := by unfold L; rw [less_irrefl]; decide
theorem L_asymm {a b : List UInt8} (h : L a b) : ¬ L b a := by unfold L; rw [less_asymm a b h]; decide
theorem L_trans {a b c : List UInt8} (h : L a b) (h' : L b c) : L a c := less_trans a b c h h'
theorem L_total {a b : List UInt8} (h : ¬ L a b) (hne : a ≠ b) : L b a := less_total a b (by simpa using h) hne
/-- Neither is above the other: they are one. -/
theorem L_anti {a b : List UInt8} (h : ¬ L a b) (h' : ¬ L b a) : a = b := Classical.byContradiction fun hne => h' (L_total h hne)
theorem nL_trans {a b c : List UInt8} (h : ¬ L b a) (h' : ¬ L c b) : ¬ L c a := fun hc => by
  by_cases e : a = b
  · subst e; exact h' hc
  · have h1 : L a b := L_total h (Ne.symm e)
    exact h' (L_trans hc h1)
/-- One order, one set: one list. -/
theorem sorted_unique : ∀ (x y : List (List UInt8)), x.Pairwise L → y.Pairwise L → (∀ a, a ∈ x ↔ a ∈ y) → x = y
  | [], [], _, _, _ => rfl
  | [], b :: y, _, _, h => by have := (h b).2 (by simp); cases this
  | a :: x, [], _, _, h => by have := (h a).1 (by simp); cases this
  | a :: x, b :: y, hx, hy, h => by
    rw [List.pairwise_cons] at hx hy
    have hab : a = b := by
      apply Classical.byContradiction
      intro hne
      have h1 : a ∈ y := by
        rcases List.mem_cons.1 ((h a).1 (by simp)) with e | e
        · exact (hne e).elim
        · exact e
      have h2 : b ∈ x := by
        rcases List.mem_cons.1 ((h b).2 (by simp)) with e | e
        · exact (hne e.symm).elim
        · exact e
      exact L_asymm (hx.1 b h2) (hy.1 a h1)
    subst hab
    congr 1
    refine sorted_unique x y hx.2 hy.2 fun c => ⟨fun hc => ?_, fun hc => ?_⟩
    · rcases List.mem_cons.1 ((h c).1 (by simp [hc])) with e | e
      · subst e; exact (L_irrefl _ (hx.1 c hc)).elim
      · exact e
    · rcases List.mem_cons.1 ((h c).2 (by simp [hc])) with e | e
      · subst e; exact (L_irrefl _ (hy.1 c hc)).elim
      · exact e
/-- Sorted, each once. -/
def riseS (l : List (List UInt8)) : List (List UInt8) := Lib.compact (l.mergeSort fun x y => decide (x ≤ y))
theorem compactUpTo_spec (d : Array (List UInt8)) (hd : ∀ j k, j ≤ k → k < d.size → ¬ L d[k]! d[j]!) : ∀ m, m ≤ d.size →
    (Lib.compactUpTo d m).Pairwise L ∧ (∀ a, a ∈ Lib.compactUpTo d m ↔ ∃ j, j < m ∧ a = d[j]!)
  | 0, _ => ⟨by simp [Lib.compactUpTo], fun a => by simp [Lib.compactUpTo]⟩
  | m + 1, hm => by
    obtain ⟨h1, h2⟩ := compactUpTo_spec d hd m (by omega)
    rw [Lib.compactUpTo_succ]
    by_cases hk : Lib.keeps d m = true
    · rw [if_pos hk]
      refine ⟨List.pairwise_append.2 ⟨h1, by simp, fun a ha b hb => ?_⟩, fun a => ?_⟩
      · simp at hb
        subst hb
        obtain ⟨j, hj, rfl⟩ := (h2 a).1 ha
        apply Classical.byContradiction
        intro hn
        have e : d[j]! = d[m]! := L_anti hn (hd j m (by omega) (by omega))
        have hm1 : d[m]! ≠ d[m - 1]! := by
          simp only [Lib.keeps, decide_eq_true_eq] at hk
          rcases hk with hk | hk
          · omega
          · exact hk
        have h3 := hd j (m - 1) (by omega) (by omega)
        have h4 := hd (m - 1) m (by omega) (by omega)
        rw [e] at h3
        exact hm1 (L_anti h4 h3)
      · rw [List.mem_append, h2]
        constructor
        · rintro (⟨j, hj, rfl⟩ | h)
          · exact ⟨j, by omega, rfl⟩
          · simp at h; exact ⟨m, by omega, h⟩
        · rintro ⟨j, hj, rfl⟩
          rcases Nat.lt_or_ge j m with h | h
          · exact .inl ⟨j, h, rfl⟩
          · have : j = m := by omega
            subst this; exact .inr (by simp)
    · rw [if_neg hk, List.append_nil]
      refine ⟨h1, fun a => ?_⟩
      rw [h2]
      constructor
      · rintro ⟨j, hj, rfl⟩; exact ⟨j, by omega, rfl⟩
      · rintro ⟨j, hj, rfl⟩
        rcases Nat.lt_or_ge j m with h | h
        · exact ⟨j, h, rfl⟩
        · have : j = m := by omega
          subst this
          have hm1 : j ≠ 0 ∧ d[j]! = d[j - 1]! := by
            simp only [Lib.keeps, decide_eq_true_eq] at hk
            exact ⟨fun h => hk (.inl h), Classical.byContradiction fun h => hk (.inr h)⟩
          exact ⟨j - 1, by omega, hm1.2⟩
theorem riseS_spec (l : List (List UInt8)) : (riseS l).Pairwise L ∧ ∀ a, a ∈ riseS l ↔ a ∈ l := by
  have hs : (l.mergeSort fun x y => decide (x ≤ y)).Pairwise fun a b => decide (a ≤ b) = true := List.pairwise_mergeSort (fun a b c h h' => by
      rw [L_le] at h h' ⊢
      simp only [Bool.not_eq_true', ← Bool.not_eq_true] at h h' ⊢
      exact nL_trans h h') (fun a b => by
      rw [L_le, L_le]
      by_cases h : L a b
      · have := L_asymm h
        simp only [L] at h this
        simp [h, this]
      · simp only [L] at h
        simp [h]) l
  have hm : ∀ a, a ∈ (l.mergeSort fun x y => decide (x ≤ y)) ↔ a ∈ l := fun a => (List.mergeSort_perm l _).mem_iff
  unfold riseS Lib.compact
  generalize l.mergeSort (fun x y => decide (x ≤ y)) = s at hs hm ⊢
  have hd : ∀ j k, j ≤ k → k < s.toArray.size → ¬ L (s.toArray[k]!) (s.toArray[j]!) := fun j k hj hk => by
    have hk' : k < s.length := by simpa using hk
    rw [getElem!_pos s.toArray k hk, getElem!_pos s.toArray j (by omega)]
    simp only [List.getElem_toArray]
    rcases Nat.eq_or_lt_of_le hj with rfl | hj
    · exact L_irrefl _
    · have := List.pairwise_iff_getElem.1 hs j k (by omega) hk' hj
      rw [L_le] at this
      simpa [L] using this
  obtain ⟨h1, h2⟩ := compactUpTo_spec s.toArray hd s.length (by simp)
  refine ⟨h1, fun a => ?_⟩
  rw [h2, ← hm, List.mem_iff_getElem]
  constructor
  · rintro ⟨j, hj, rfl⟩
    exact ⟨j, hj, by rw [getElem!_pos s.toArray j (by simpa using hj)]; simp⟩
  · rintro ⟨j, hj, rfl⟩
    exact ⟨j, hj, by rw [getElem!_pos s.toArray j (by simpa using hj)]; simp⟩
theorem riseS_eq {l x : List (List UInt8)} (h1 : x.Pairwise L) (h2 : ∀ a, a ∈ x ↔ a ∈ l) : x = riseS l :=
  sorted_unique _ _ h1 (riseS_spec l).1 fun a => (h2 a).trans ((riseS_spec l).2 a).symm
theorem riseS_riseS (l : List (List UInt8)) : riseS (riseS l) = riseS l := (riseS_eq (riseS_spec l).1 fun _ => Iff.rfl).symm
theorem risingB_riseS (l : List (List UInt8)) : risingB (riseS l) = l.all fun x => decide (x.length = 32) := by
  obtain ⟨h1, h2⟩ := riseS_spec l
  rw [Bool.eq_iff_iff, risingB_iff]
  simp only [List.all_eq_true, decide_eq_true_eq]
  constructor
  · intro h x hx
    obtain ⟨i, hi, rfl⟩ := List.mem_iff_getElem.1 ((h2 x).2 hx)
    have := h i hi
    simp only [digAt, Bool.and_eq_true, decide_eq_true_eq, getD_lt hi] at this
    exact this.1
  · intro h i hi
    simp only [digAt, Bool.and_eq_true, decide_eq_true_eq, getD_lt hi, Bool.or_eq_true]
    refine ⟨h _ ((h2 _).1 (List.getElem_mem hi)), ?_⟩
    rcases Nat.eq_zero_or_pos i with h0 | h0
    · exact .inl h0
    · right
      rw [getD_lt (show i - 1 < (riseS l).length by omega)]
      exact List.pairwise_iff_getElem.1 h1 (i - 1) i (by omega) hi (by omega)
theorem riseS_len (l : List (List UInt8)) : (riseS l).length ≤ l.length := by
  unfold riseS Lib.compact Lib.compactUpTo
  rw [List.length_map]
  refine Nat.le_trans (List.length_filter_le _ _) ?_
  simp [List.length_mergeSort]
/-- A text laid in at its place. -/
theorem rise_insert {x : List (List UInt8)} {t : List UInt8} {k : Nat} (hx : x.Pairwise L) (hk : k ≤ x.length) (h1 : ∀ j (hj : j < x.length), j < k → L x[j] t) (h2 : ∀ hk' : k < x.length, L t x[k]) : (x.take k ++ [t] ++ x.drop k).Pairwise L := by
  have hd : ∀ b ∈ x.drop k, L t b := fun b hb => by
    obtain ⟨j, hj, rfl⟩ := List.mem_iff_getElem.1 hb
    rw [List.length_drop] at hj
    rw [List.getElem_drop]
    rcases Nat.eq_zero_or_pos j with h0 | h0
    · subst h0; exact h2 (by omega)
    · exact L_trans (h2 (by omega)) (List.pairwise_iff_getElem.1 hx k (k + j) (by omega) (by omega) (by omega))
  have ht : ∀ a ∈ x.take k, L a t := fun a ha => by
    obtain ⟨j, hj, rfl⟩ := List.mem_iff_getElem.1 ha
    rw [List.length_take] at hj
    rw [List.getElem_take]
    exact h1 j (by omega) (by omega)
  have hp : (x.take k ++ x.drop k).Pairwise L := by rw [List.take_append_drop]; exact hx
  rw [List.pairwise_append] at hp
  rw [List.append_assoc, List.pairwise_append]
  refine ⟨hp.1, List.pairwise_append.2 ⟨by simp, hp.2.1, fun a ha b hb => ?_⟩, fun a ha b hb => ?_⟩
  · simp at ha; subst ha; exact hd b hb
  · rcases List.mem_append.1 hb with hb | hb
    · simp at hb; subst hb; exact ht a ha
    · exact hp.2.2 a ha b hb
end Silo

namespace Silo
open Go Go.Eng

abbrev Str := List UInt8
def dgOf (T : List Thg) (i : Nat) : Str := (T[i]?.map Thg.digest).getD []
def nmOf (T : List Thg) (i : Nat) : List Str := (T[i]?.map namesT).getD []
theorem dgOf_lt {T : List Thg} {i : Nat} (h : i < T.length) : dgOf T i = T[i].digest := by simp [dgOf, h]
theorem nmOf_lt {T : List Thg} {i : Nat} (h : i < T.length) : nmOf T i = namesT T[i] := by simp [nmOf, h]
theorem nmOf_ge {T : List Thg} {i : Nat} (h : T.length ≤ i) : nmOf T i = [] := by simp [nmOf, List.getElem?_eq_none h]

/-! ### Things that may be -/
theorem thgsMay_at {T : List Thg} (h : thgsMay T = true) {i : Nat} (hi : i < T.length) :
    T[i].digest.length = 32 ∧ T[i].text.length ≤ 2000 ∧ (T[i].manifest = true → (manTake T[i].text).isSome = true) ∧ (i = 0 ∨ L (dgOf T (i - 1)) T[i].digest) := by
  have h1 := (thgsMay_iff.1 h).2 i hi
  unfold thgAt at h1
  rw [List.getElem?_eq_getElem hi] at h1
  simp only [Bool.and_eq_true, Bool.or_eq_true, decide_eq_true_eq, Bool.not_eq_true'] at h1
  obtain ⟨⟨⟨h2, h3⟩, h4⟩, h5⟩ := h1
  refine ⟨h2, h3, fun hm => ?_, ?_⟩
  · rcases h5 with h5 | h5
    · rw [h5] at hm; cases hm
    · exact h5
  · rcases h4 with h4 | h4
    · exact .inl h4
    · exact .inr h4
theorem thgsMay_len {T : List Thg} (h : thgsMay T = true) : T.length ≤ 60 := (thgsMay_iff.1 h).1
/-- Rising digests. -/
def RiseT (T : List Thg) : Prop := ∀ i j (hi : i < T.length) (hj : j < T.length), i < j → L T[i].digest T[j].digest
theorem riseT_of_next {T : List Thg} (h : ∀ i (hi : i + 1 < T.length), L T[i].digest T[i + 1].digest) : RiseT T := by
  intro i j hi hj hij
  obtain ⟨k, rfl⟩ : ∃ k, j = i + 1 + k := ⟨j - (i + 1), by omega⟩
  clear hij
  induction k with
  | zero => exact h i hj
  | succ k ih => exact L_trans (ih (by omega)) (h (i + 1 + k) hj)
theorem thgsMay_rise {T : List Thg} (h : thgsMay T = true) : RiseT T := riseT_of_next fun i hi => by
  have := (thgsMay_at h hi).2.2.2
  rcases this with h1 | h1
  · omega
  · simpa [dgOf_lt (show i < T.length by omega)] using h1
theorem RiseT.inj {T : List Thg} (h : RiseT T) {i j : Nat} (hi : i < T.length) (hj : j < T.length) (e : T[i].digest = T[j].digest) : i = j := by
  rcases Nat.lt_trichotomy i j with h1 | h1 | h1
  · have := h i j hi hj h1; rw [e] at this; exact absurd this (L_irrefl _)
  · exact h1
  · have := h j i hj hi h1; rw [e] at this; exact absurd this (L_irrefl _)
theorem findT_some {T : List Thg} {d : Str} {i : Nat} (h : findT T d = some i) : ∃ hi : i < T.length, T[i].digest = d := by
  unfold findT at h
  rw [List.findIdx?_eq_some_iff_getElem] at h
  obtain ⟨hi, h1, _⟩ := h
  exact ⟨hi, by simpa using h1⟩
theorem findT_at {T : List Thg} (hr : RiseT T) {d : Str} {i : Nat} (hi : i < T.length) (h : T[i].digest = d) : findT T d = some i := by
  unfold findT
  rw [List.findIdx?_eq_some_iff_getElem]
  refine ⟨hi, by simpa using h, fun j hj => ?_⟩
  have := hr j i (by omega) hi hj
  simp only [beq_iff_eq]
  intro e
  rw [e, ← h] at this
  exact L_irrefl _ this
theorem findT_none {T : List Thg} {d : Str} (h : findT T d = none) : ∀ i (hi : i < T.length), T[i].digest ≠ d := by
  unfold findT at h
  rw [List.findIdx?_eq_none_iff] at h
  intro i hi e
  have := h _ (List.getElem_mem hi)
  simp [e] at this
theorem namesT_len (t : Thg) : (namesT t).length ≤ 20 := by
  unfold namesT
  split
  · cases hm : manTake t.text with
    | none => simp
    | some m =>
      have h1 : manMay m = true := by
        unfold manTake at hm
        split at hm
        · split at hm
          · injection hm with e; subst e; assumption
          · cases hm
        · cases hm
      simp only [manMay, Bool.and_eq_true, decide_eq_true_eq] at h1
      rw [List.length_append]; exact h1.1.1.2
  · simp
theorem nmOf_len (T : List Thg) (i : Nat) : (nmOf T i).length ≤ 20 := by
  rcases Nat.lt_or_ge i T.length with h | h
  · rw [nmOf_lt h]; exact namesT_len _
  · rw [nmOf_ge h]; simp

/-! ### What is reached -/
inductive Reach (T : List Thg) (R : List Str) : Nat → Prop
  | root {d : Str} {i : Nat} : d ∈ R → findT T d = some i → Reach T R i
  | step {i : Nat} {d : Str} {j : Nat} : Reach T R i → d ∈ nmOf T i → findT T d = some j → Reach T R j
theorem Reach.lt {T : List Thg} {R : List Str} {i : Nat} (h : Reach T R i) : i < T.length := by
  cases h with
  | root _ h => exact (findT_some h).1
  | step _ _ h => exact (findT_some h).1
open Classical in
noncomputable def reachB (T : List Thg) (R : List Str) (i : Nat) : Bool := decide (Reach T R i)
theorem reachB_iff {T : List Thg} {R : List Str} {i : Nat} : reachB T R i = true ↔ Reach T R i := by simp [reachB]
/-- The digests that roots lead to, up to the k-th thing. -/
noncomputable def fromUpTo (T : List Thg) (R : List Str) (k : Nat) : List Str := ((List.range k).filter (reachB T R)).map (dgOf T)
noncomputable def fromT (T : List Thg) (R : List Str) : List Str := fromUpTo T R T.length
theorem fromUpTo_succ (T : List Thg) (R : List Str) (k : Nat) : fromUpTo T R (k + 1) = if reachB T R k = true then fromUpTo T R k ++ [dgOf T k] else fromUpTo T R k := by
  simp only [fromUpTo, List.range_succ, List.filter_append, List.map_append]
  split
  · rename_i h; simp [h]
  · rename_i h; simp [h]
theorem mem_fromT {T : List Thg} {R : List Str} {d : Str} : d ∈ fromT T R ↔ ∃ i, Reach T R i ∧ dgOf T i = d := by
  simp only [fromT, fromUpTo, List.mem_map, List.mem_filter, List.mem_range, reachB_iff]
  exact ⟨fun ⟨i, ⟨_, h⟩, e⟩ => ⟨i, h, e⟩, fun ⟨i, h, e⟩ => ⟨i, ⟨h.lt, h⟩, e⟩⟩
theorem fromUpTo_len (T : List Thg) (R : List Str) (k : Nat) : (fromUpTo T R k).length ≤ k := by
  rw [fromUpTo, List.length_map]
  exact Nat.le_trans (List.length_filter_le _ _) (by simp)
theorem fromT_sorted {T : List Thg} (hr : RiseT T) (R : List Str) : (fromT T R).Pairwise L := by
  unfold fromT fromUpTo
  rw [List.pairwise_map]
  refine List.Pairwise.filter _ ?_
  refine List.Pairwise.imp_of_mem ?_ List.pairwise_lt_range
  intro i j hi hj hij
  have hi' := List.mem_range.1 hi
  have hj' := List.mem_range.1 hj
  rw [dgOf_lt hi', dgOf_lt hj']
  exact hr i j hi' hj' hij

/-! ### The way that things are come to -/
structure BInv (T : List Thg) (R : List Str) (seen : List Bool) (todo : List Str) : Prop where
  len : seen.length = T.length
  sound : ∀ i, seen[i]? = some true → Reach T R i
  todoOk : ∀ d ∈ todo, ∀ j, findT T d = some j → Reach T R j
  roots : ∀ d ∈ R, ∀ j, findT T d = some j → seen[j]? = some true ∨ d ∈ todo
  closed : ∀ i, seen[i]? = some true → ∀ d ∈ nmOf T i, ∀ j, findT T d = some j → seen[j]? = some true ∨ d ∈ todo
theorem BInv.start (T : List Thg) (R : List Str) : BInv T R (List.replicate T.length false) R :=
  ⟨by simp, fun i h => by simp [List.getElem?_replicate] at h, fun d hd j hj => .root hd hj, fun d hd j hj => .inr hd, fun i h => by simp [List.getElem?_replicate] at h⟩
theorem BInv.skip {T : List Thg} {R : List Str} {seen : List Bool} {d : Str} {t : List Str} (h : BInv T R seen (d :: t)) (hd : ∀ j, findT T d = some j → seen[j]? = some true) : BInv T R seen t := by
  refine ⟨h.len, h.sound, fun e he => h.todoOk e (by simp [he]), fun e he j hj => ?_, fun i hi e he j hj => ?_⟩
  · rcases h.roots e he j hj with h1 | h1
    · exact .inl h1
    · rcases List.mem_cons.1 h1 with rfl | h1
      · exact .inl (hd j hj)
      · exact .inr h1
  · rcases h.closed i hi e he j hj with h1 | h1
    · exact .inl h1
    · rcases List.mem_cons.1 h1 with rfl | h1
      · exact .inl (hd j hj)
      · exact .inr h1
theorem BInv.visit {T : List Thg} {R : List Str} {seen : List Bool} {d : Str} {t : List Str} {i : Nat} (h : BInv T R seen (d :: t)) (hd : findT T d = some i) : BInv T R (seen.set i true) (t ++ nmOf T i) := by
  have hil : i < seen.length := by rw [h.len]; exact (findT_some hd).1
  have hmono : ∀ j, seen[j]? = some true → (seen.set i true)[j]? = some true := fun j hj => by
    rw [List.getElem?_set]; split
    · simp [hil]
    · exact hj
  have hself : (seen.set i true)[i]? = some true := by simp [hil]
  refine ⟨by simpa using h.len, fun j hj => ?_, fun e he j hj => ?_, fun e he j hj => ?_, fun k hk e he j hj => ?_⟩
  · rw [List.getElem?_set] at hj
    split at hj
    · rename_i e; subst e; exact h.todoOk d (by simp) _ hd
    · exact h.sound j hj
  · rcases List.mem_append.1 he with he | he
    · exact h.todoOk e (by simp [he]) j hj
    · exact .step (h.todoOk d (by simp) i hd) he hj
  · rcases h.roots e he j hj with h1 | h1
    · exact .inl (hmono j h1)
    · rcases List.mem_cons.1 h1 with rfl | h1
      · rw [hd] at hj; injection hj with e; subst e; exact .inl hself
      · exact .inr (by simp [h1])
  · by_cases hik : i = k
    · subst hik; exact .inr (by simp [he])
    · rw [List.getElem?_set_ne hik] at hk
      rcases h.closed k hk e he j hj with h1 | h1
      · exact .inl (hmono j h1)
      · rcases List.mem_cons.1 h1 with rfl | h1
        · rw [hd] at hj; injection hj with e; subst e; exact .inl hself
        · exact .inr (by simp [h1])
theorem BInv.done {T : List Thg} {R : List Str} {seen : List Bool} (h : BInv T R seen []) (i : Nat) : seen[i]? = some true ↔ Reach T R i := by
  refine ⟨h.sound i, fun hr => ?_⟩
  induction hr with
  | root hd hf => exact (h.roots _ hd _ hf).resolve_right (by simp)
  | step _ hd hf ih => exact (h.closed _ ih _ hd _ hf).resolve_right (by simp)
theorem BInv.done_get {T : List Thg} {R : List Str} {seen : List Bool} (h : BInv T R seen []) {i : Nat} (hi : i < seen.length) : seen[i] = reachB T R i := by
  have := h.done i
  rw [List.getElem?_eq_getElem hi, Option.some.injEq] at this
  cases hb : seen[i] with
  | true => rw [hb] at this; exact (reachB_iff.2 (this.1 rfl)).symm
  | false =>
    cases hc : reachB T R i with
    | false => rfl
    | true => rw [hb] at this; have := this.2 (reachB_iff.1 hc); cases this
/-- What is still to be done. -/
def bLeft (seen : List Bool) (todo : List Str) : Nat := todo.length + 21 * (seen.count false)
theorem count_set_false {seen : List Bool} {i : Nat} (hi : i < seen.length) (h : seen[i] = false) : (seen.set i true).count false + 1 = seen.count false := by
  rw [List.count_set]
  · have : 0 < seen.count false := List.count_pos_iff.2 (h ▸ List.getElem_mem hi)
    simp [h]; omega
  · exact hi
theorem bLeft_visit {T : List Thg} {seen : List Bool} {d : Str} {t : List Str} {i : Nat} (hi : i < seen.length) (h : seen[i] = false) : bLeft (seen.set i true) (t ++ nmOf T i) < bLeft seen (d :: t) := by
  have h1 := count_set_false hi h
  have h2 := nmOf_len T i
  simp only [bLeft, List.length_append, List.length_cons]
  omega
/-- Behind the way: what was come to, in some order. -/
structure BOrd (seen : List Bool) (ord : List Nat) : Prop where
  nodup : ord.Nodup
  mem : ∀ i, i ∈ ord ↔ seen[i]? = some true
theorem BOrd.start (n : Nat) : BOrd (List.replicate n false) [] := ⟨List.nodup_nil, fun i => by simp [List.getElem?_replicate]⟩
theorem BOrd.visit {seen : List Bool} {ord : List Nat} (h : BOrd seen ord) {i : Nat} (hi : i < seen.length) (hs : seen[i] = false) : BOrd (seen.set i true) (ord ++ [i]) := by
  refine ⟨?_, fun j => ?_⟩
  · rw [List.nodup_append]
    refine ⟨h.nodup, by simp, fun a ha b hb => ?_⟩
    simp only [List.mem_singleton] at hb
    subst hb
    intro e
    subst e
    rw [h.mem, List.getElem?_eq_getElem hi, hs] at ha
    cases ha
  · rw [List.mem_append, h.mem, List.getElem?_set]
    by_cases e : i = j
    · subst e; simp [hi]
    · simp [e]; intro e'; exact absurd e'.symm e
theorem nodup_map_dg {T : List Thg} (hr : RiseT T) : ∀ (ord : List Nat), ord.Nodup → (∀ i ∈ ord, i < T.length) → (ord.map (dgOf T)).Nodup
  | [], _, _ => List.nodup_nil
  | i :: r, hn, hl => by
    rw [List.nodup_cons] at hn
    rw [List.map_cons, List.nodup_cons]
    refine ⟨fun hm => ?_, nodup_map_dg hr r hn.2 fun j hj => hl j (by simp [hj])⟩
    obtain ⟨j, hj, e⟩ := List.mem_map.1 hm
    have hi' := hl i (by simp)
    have hj' := hl j (by simp [hj])
    rw [dgOf_lt hi', dgOf_lt hj'] at e
    have := hr.inj hj' hi' e
    subst this
    exact hn.1 hj
theorem pairwise_le_ne {l : List Str} (h1 : l.Pairwise fun x y => decide (x ≤ y) = true) (h2 : l.Nodup) : l.Pairwise L := by
  have := h1.and h2
  refine this.imp ?_
  rintro a b ⟨ha, hne⟩
  rw [L_le] at ha
  exact Classical.byContradiction fun hn => hne (L_anti hn (by unfold L; simpa using ha))
/-- What was come to, sorted. -/
theorem sorted_from {T : List Thg} (hr : RiseT T) {R : List Str} {seen : List Bool} {ord : List Nat} (hI : BInv T R seen []) (hO : BOrd seen ord) : (ord.map (dgOf T)).mergeSort (fun x y => decide (x ≤ y)) = fromT T R := by
  have hlt : ∀ i ∈ ord, i < T.length := fun i hi => ((hI.done i).1 ((hO.mem i).1 hi)).lt
  refine sorted_unique _ _ (pairwise_le_ne ?_ ?_) (fromT_sorted hr R) fun a => ?_
  · refine List.pairwise_mergeSort ?_ ?_ _
    · intro a b c h1 h2
      rw [L_le] at h1 h2 ⊢
      have := nL_trans (a := a) (b := b) (c := c) (by unfold L; simpa using h1) (by unfold L; simpa using h2)
      unfold L at this; simpa using this
    · intro a b
      rw [L_le, L_le]
      cases h : Op.bytesLess b a with
      | false => rfl
      | true => rw [less_asymm _ _ h]; rfl
  · exact (List.mergeSort_perm _ _).nodup_iff.2 (nodup_map_dg hr ord hO.nodup hlt)
  · rw [(List.mergeSort_perm _ _).mem_iff, List.mem_map, mem_fromT]
    exact ⟨fun ⟨i, hi, e⟩ => ⟨i, (hI.done i).1 ((hO.mem i).1 hi), e⟩, fun ⟨i, hi, e⟩ => ⟨i, (hO.mem i).2 ((hI.done i).2 hi), e⟩⟩

/-! ### The order in which things are come to -/
def bfsGo (T : List Thg) : Nat → List Bool → List Str → List Nat
  | 0, _, _ => []
  | _ + 1, _, [] => []
  | k + 1, seen, d :: t => match findT T d with
    | none => bfsGo T k seen t
    | some i => if seen[i]?.getD true = true then bfsGo T k seen t else i :: bfsGo T k (seen.set i true) (t ++ nmOf T i)
theorem seen_false {seen : List Bool} {i : Nat} (h : ¬ seen[i]?.getD true = true) : ∃ hi : i < seen.length, seen[i] = false := by
  rcases Nat.lt_or_ge i seen.length with h1 | h1
  · refine ⟨h1, ?_⟩
    rw [List.getElem?_eq_getElem h1] at h
    simpa using h
  · rw [List.getElem?_eq_none h1] at h
    exact absurd rfl h
theorem bfsGo_enough (T : List Thg) : ∀ (k m : Nat) (seen : List Bool) (todo : List Str), bLeft seen todo < k → bLeft seen todo < m → bfsGo T k seen todo = bfsGo T m seen todo
  | k + 1, m + 1, _, [], _, _ => rfl
  | k + 1, m + 1, seen, d :: t, hk, hm => by
    have e : bLeft seen (d :: t) = bLeft seen t + 1 := by simp [bLeft]; omega
    unfold bfsGo
    cases hf : findT T d with
    | none => exact bfsGo_enough T k m seen t (by omega) (by omega)
    | some i =>
      by_cases hs : seen[i]?.getD true = true
      · simp only [hs, if_true]
        exact bfsGo_enough T k m seen t (by omega) (by omega)
      · simp only [hs, Bool.false_eq_true, if_false]
        obtain ⟨hi, h0⟩ := seen_false hs
        have := bLeft_visit (T := T) (d := d) (t := t) hi h0
        rw [bfsGo_enough T k m _ _ (by omega) (by omega)]
def bfsL (T : List Thg) (seen : List Bool) (todo : List Str) : List Nat := bfsGo T (bLeft seen todo + 1) seen todo
theorem bfsL_nil (T : List Thg) (seen : List Bool) : bfsL T seen [] = [] := rfl
theorem bfsL_skip {T : List Thg} {seen : List Bool} {d : Str} {t : List Str} (h : ∀ i, findT T d = some i → seen[i]?.getD true = true) : bfsL T seen (d :: t) = bfsL T seen t := by
  have e : bLeft seen (d :: t) = bLeft seen t + 1 := by simp [bLeft]; omega
  unfold bfsL
  rw [bfsGo, e]
  cases hf : findT T d with
  | none => rfl
  | some i => simp only [h i hf, if_true]
theorem bfsL_visit {T : List Thg} {seen : List Bool} {d : Str} {t : List Str} {i : Nat} (hf : findT T d = some i) (hi : i < seen.length) (h0 : seen[i] = false) : bfsL T seen (d :: t) = i :: bfsL T (seen.set i true) (t ++ nmOf T i) := by
  have hs : ¬ seen[i]?.getD true = true := by rw [List.getElem?_eq_getElem hi]; simp [h0]
  have h1 := bLeft_visit (T := T) (d := d) (t := t) hi h0
  unfold bfsL
  rw [bfsGo, hf]
  simp only [hs, Bool.false_eq_true, if_false]
  rw [bfsGo_enough T (bLeft seen (d :: t)) (bLeft (seen.set i true) (t ++ nmOf T i) + 1) (seen.set i true) (t ++ nmOf T i) (by omega) (by omega)]
theorem bfsGo_end (T : List Thg) (R : List Str) : ∀ (k : Nat) (seen : List Bool) (todo : List Str) (pre : List Nat), bLeft seen todo < k → BInv T R seen todo → BOrd seen pre → ∃ seen', BInv T R seen' [] ∧ BOrd seen' (pre ++ bfsGo T k seen todo) ∧ (bfsGo T k seen todo).length ≤ bLeft seen todo
  | k + 1, seen, [], pre, _, hI, hO => ⟨seen, hI, by simpa [bfsGo] using hO, by simp [bfsGo]⟩
  | k + 1, seen, d :: t, pre, hk, hI, hO => by
    have e : bLeft seen (d :: t) = bLeft seen t + 1 := by simp [bLeft]; omega
    unfold bfsGo
    cases hf : findT T d with
    | none =>
      obtain ⟨s', h1, h2, h3⟩ := bfsGo_end T R k seen t pre (by omega) (hI.skip fun j hj => by rw [hf] at hj; cases hj) hO
      exact ⟨s', h1, h2, by show (bfsGo T k seen t).length ≤ _; omega⟩
    | some i =>
      by_cases hs : seen[i]?.getD true = true
      · simp only [hs, if_true]
        have hil : i < seen.length := by rw [hI.len]; exact (findT_some hf).1
        obtain ⟨s', h1, h2, h3⟩ := bfsGo_end T R k seen t pre (by omega) (hI.skip fun j hj => by
          rw [hf] at hj; injection hj with hj; subst hj
          rw [List.getElem?_eq_getElem hil] at hs ⊢
          simpa using hs) hO
        exact ⟨s', h1, h2, by omega⟩
      · simp only [hs, Bool.false_eq_true, if_false]
        obtain ⟨hi, h0⟩ := seen_false hs
        have h1 := bLeft_visit (T := T) (d := d) (t := t) hi h0
        obtain ⟨s', h2, h3, h4⟩ := bfsGo_end T R k (seen.set i true) (t ++ nmOf T i) (pre ++ [i]) (by omega) (hI.visit hf) (hO.visit hi h0)
        exact ⟨s', h2, by simpa using h3, by rw [List.length_cons]; omega⟩
/-- All that roots lead to, in the order in which they are come to. -/
def ordR (T : List Thg) (R : List Str) : List Nat := bfsL T (List.replicate T.length false) R
theorem ordR_spec {T : List Thg} (R : List Str) : ∃ seen, BInv T R seen [] ∧ BOrd seen (ordR T R) ∧ (ordR T R).length ≤ R.length + 21 * T.length := by
  obtain ⟨s', h1, h2, h3⟩ := bfsGo_end T R _ _ R [] (Nat.lt_succ_self _) (BInv.start T R) (BOrd.start T.length)
  refine ⟨s', h1, by simpa [ordR, bfsL] using h2, Nat.le_trans h3 ?_⟩
  simp [bLeft, List.count_replicate_self]
theorem ordR_lt {T : List Thg} {R : List Str} : ∀ i ∈ ordR T R, i < T.length := fun i hi => by
  obtain ⟨s, h1, h2, _⟩ := ordR_spec (T := T) R
  exact ((h1.done i).1 ((h2.mem i).1 hi)).lt
theorem ordR_sorted {T : List Thg} (hr : RiseT T) (R : List Str) : ((ordR T R).map (dgOf T)).mergeSort (fun x y => decide (x ≤ y)) = fromT T R := by
  obtain ⟨s, h1, h2, _⟩ := ordR_spec (T := T) R
  exact sorted_from hr h1 h2

/-! ### Users -/
def usersT (T : List Thg) (d : Str) : List Str := (T.filter fun t => (namesT t).contains d).map Thg.digest
theorem usersT_succ {T : List Thg} {d : Str} {k : Nat} (hk : k < T.length) : usersT (T.take (k + 1)) d = if (namesT T[k]).contains d = true then usersT (T.take k) d ++ [T[k].digest] else usersT (T.take k) d := by
  simp only [usersT, List.take_succ_eq_append_getElem hk, List.filter_append, List.map_append]
  split
  · rename_i h
    have h' : d ∈ namesT T[k] := by simpa using h
    simp [List.filter_cons, h']
  · rename_i h
    have h' : d ∉ namesT T[k] := by simpa using h
    simp [List.filter_cons, h']
theorem usersT_len (T : List Thg) (d : Str) : (usersT T d).length ≤ T.length := by rw [usersT, List.length_map]; exact List.length_filter_le _ _

/-! ### Orders -/
/-- Is all told that the i-th thing names? -/
def readyT (T : List Thg) (told : List Nat) (i : Nat) : Bool := (nmOf T i).all fun d => match findT T d with | none => true | some k => decide (k ∈ told)
/-- Which one is next? -/
def nextT (T : List Thg) (told : List Nat) : Option Nat := (List.range T.length).find? fun i => !decide (i ∈ told) && readyT T told i
theorem nextT_some {T : List Thg} {told : List Nat} {i : Nat} (h : nextT T told = some i) : i < T.length ∧ i ∉ told ∧ readyT T told i = true := by
  unfold nextT at h
  have h1 := List.find?_some h
  have h2 := List.mem_of_find?_eq_some h
  simp only [Bool.and_eq_true, Bool.not_eq_true', decide_eq_false_iff_not] at h1
  exact ⟨List.mem_range.1 h2, h1.1, h1.2⟩
/-- The first that may be told, where none ahead may. -/
theorem nextT_at {T : List Thg} {told : List Nat} {i : Nat} (hi : i < T.length) (h1 : i ∉ told) (h2 : readyT T told i = true) (h3 : ∀ j, j < i → j ∈ told ∨ readyT T told j = false) : nextT T told = some i := by
  unfold nextT
  rw [List.find?_range_eq_some]
  refine ⟨by simp [h1, h2], by simpa using hi, fun j hj => ?_⟩
  rcases h3 j hj with h | h <;> simp [h]
theorem nextT_none {T : List Thg} {told : List Nat} (h3 : ∀ j, j < T.length → j ∈ told ∨ readyT T told j = false) : nextT T told = none := by
  unfold nextT
  rw [List.find?_range_eq_none]
  intro j hj
  rcases h3 j hj with h | h <;> simp [h]
def orderGo (T : List Thg) : Nat → List Nat → Option (List Nat)
  | 0, told => some told
  | k + 1, told => match nextT T told with
    | none => none
    | some i => orderGo T k (told ++ [i])
def orderT (T : List Thg) : Option (List Str) := (orderGo T T.length []).map fun o => o.map (dgOf T)
end Silo

namespace Silo
open Go Go.Eng
theorem Reach.mono {T : List Thg} {R R' : List (List UInt8)} (h : ∀ d ∈ R, d ∈ R') {i : Nat} (hr : Reach T R i) : Reach T R' i := by
  induction hr with
  | root hd hf => exact .root (h _ hd) hf
  | step _ hd hf ih => exact .step ih hd hf
theorem fromT_sub {T : List Thg} {R R' : List (List UInt8)} (h : ∀ d ∈ R, d ∈ R') {d : List UInt8} (hd : d ∈ fromT T R) : d ∈ fromT T R' := by
  obtain ⟨i, hi, e⟩ := mem_fromT.1 hd
  exact mem_fromT.2 ⟨i, hi.mono h, e⟩
theorem fromT_find {T : List Thg} (hr : RiseT T) {R : List (List UInt8)} {d : List UInt8} (hd : d ∈ fromT T R) : ∃ i, findT T d = some i ∧ Reach T R i := by
  obtain ⟨i, hi, e⟩ := mem_fromT.1 hd
  rw [dgOf_lt hi.lt] at e
  exact ⟨i, findT_at hr hi.lt e, hi⟩
theorem fromT_idem {T : List Thg} (hr : RiseT T) (R : List (List UInt8)) : fromT T (fromT T R) = fromT T R := by
  refine sorted_unique _ _ (fromT_sorted hr _) (fromT_sorted hr _) fun a => ?_
  constructor
  · intro h
    obtain ⟨i, hi, e⟩ := mem_fromT.1 h
    refine mem_fromT.2 ⟨i, ?_, e⟩
    clear e h a
    induction hi with
    | root hd hf =>
      obtain ⟨j, hj, hjr⟩ := fromT_find hr hd
      rw [hf] at hj; injection hj with hj
      rw [hj]; exact hjr
    | step _ hd hf ih => exact .step ih hd hf
  · intro h
    obtain ⟨i, hi, e⟩ := mem_fromT.1 h
    refine mem_fromT.2 ⟨i, .root h ?_, e⟩
    rw [dgOf_lt hi.lt] at e
    exact findT_at hr hi.lt e
theorem fromT_closed {T : List Thg} {R : List (List UInt8)} {i j : Nat} {n : List UInt8} (hi : Reach T R i) (hn : n ∈ nmOf T i) (hf : findT T n = some j) : n ∈ fromT T R := by
  obtain ⟨hj, e⟩ := findT_some hf
  exact mem_fromT.2 ⟨j, .step hi hn hf, by rw [dgOf_lt hj]; exact e⟩
theorem sorted_get {l : List (List UInt8)} (h : l.Pairwise L) {i j : Nat} (hi : i < l.length) (hj : j < l.length) (hij : i < j) : L l[i] l[j] := List.pairwise_iff_getElem.1 h i j hi hj hij
end Silo

namespace Go.Eng
open Go Go.RowKit Go.Lib
/-- append of so many zero values onto the nil slice. -/
theorem Eff.appendZeros0 {P : Program} {env : Env} {w : World} {ty : TypeId} {s x : Operand} {t tn e : TypeId} {size by_ : Nat} {z : List Value} {kq kn : IntKind} {k : Int} (ht : slT P t = some (e, size, by_, z)) (htn : P.underlying tn = some (.int kn)) (hs : evO env s = some (.slice none 0 0)) (hx : evO env x = some (.int kq k)) (h0 : 0 < k) (hsz : 0 < size)
    (hm : k ≤ 1048576) (hby : 1048576 * by_ ≤ 140737488355328) :
    Eff P env w (.call ⟨.builtin .append, #[s, x], #[t, tn]⟩) ty (fun v w' => ∃ G, v = .slice (some ⟨w.heap.size, 0, none⟩) k.toNat G ∧ k ≤ (G : Int) ∧ Own w' w.heap.size e size (.slice (some ⟨w.heap.size, 0, none⟩) 0 G) 0 [] ∧ Below w.heap.size w w') :=
  Eff.of_run fun _ a ho d pos after g => by
    obtain ⟨m, rfl⟩ := Int.eq_ofNat_of_zero_le (Int.le_of_lt h0)
    have hm0 : 0 < m := by omega
    obtain ⟨hu, inf, zv, hi, hss, hb', hz', hc, hl⟩ := slT_spec ht
    subst hss hb'
    have hmm : m * inf.bytes ≤ 1048576 * inf.bytes := Nat.mul_le_mul_right _ (by omega)
    have hr := Lib.run_append_grow_zeros (P := P) w t tn ty e inf zv kq kn hu htn hi hz' none 0 0 [] (run_firstCells_none w.drew inf.size 0 0 0) m hm0 hsz (by omega) (by omega) (by omega) (growslice_fits (by omega) (by rw [Nat.zero_add]; omega))
    simp only [Nat.zero_add] at hr
    have hge := grownCap_ge w m 0 e
    have hle := grownCap_le_maxLen w m 0 e (by unfold maxLen; omega)
    refine ⟨_, _, by simp only [execOp, resolve, invoke, builtin, List.map_toArray, List.map_cons, List.map_nil, ho.eval hs, ho.eval hx, hr, Sem.run_bind, Result.andThen_ok, Sem.run_pure]; rfl, grownCap w m 0 e, rfl, by omega, ⟨by simp, ownIn ⟨w.heap.size, _, _, (0, 0), rfl, Nat.le_refl _, heap_alloc_new w.drew _, fun h => by simp at h, Nat.zero_le _, hle, ?_, by simp⟩⟩, (Below.refl _ _).drew.alloc (Nat.le_refl _) _⟩
    have hzs : zv.cells.size = inf.size := by rw [hc]; simpa using hl
    simp only [Array.size_append, List.size_toArray, size_zeroCells, hzs, List.length_nil, Nat.zero_add, ← Nat.add_mul]
    congr 1
    omega
section
variable {P : Program} {env : Env} {w : World} {ty : TypeId}
theorem Val.slcap {x : Operand} {A : Option Addr} {n c : Nat} {t e : TypeId} (ht : P.underlying t = some (.slice e)) (hx : evO env x = some (.slice A n c)) : Val P env w (.call ⟨.builtin .cap, #[x], #[t]⟩) ty (I c) := fun _ a ho d pos after g => by
  simp [execOp, resolve, invoke, builtin, Builtin.cap_, ho.eval hx, run_underlying ht, goInt]
/-- []byte of a constant: the row is marked, behind its last cell. -/
theorem Eff.convBytesC {x : Operand} {c : Nat → Nat} {i b n : Nat} {cs : List Value} {t e : TypeId} (ht : P.underlying t = some (.slice e)) (he : P.underlying e = some (.int .u8)) (hx : evO env x = some (.slice (some ⟨b, 0, none⟩) n n)) (hb : BlkC c w i b cs e) (hl : cs.length = n * 1) (hn : n ≤ 9223372036854775807) :
    Eff P env w (.convert t t x) ty (fun v w' => ∃ c', Mv c w c' w' [i] ∧ v = .slice (some ⟨b, 0, none⟩) n n ∧ OwnC c' w' i e 1 v n cs) :=
  Eff.of_run fun _ a ho d pos after g => by
    have hbk : w.heap[b]? = some (.cells cs.toArray e (0, 0)) := hb.blk
    have hsh : w.shape? b = some (e, cs.toArray.size) := by unfold World.shape?; rw [hbk]
    have hheap : ∀ k : Nat, (w.freeze ⟨b, cs.toArray.size, none⟩ 1).heap[k]? = if k = b then some (.cells cs.toArray e (cs.toArray.size, cs.toArray.size + 1)) else w.heap[k]? := fun k => by
      unfold World.freeze
      rw [if_neg (by decide)]
      simp only [Array.getElem?_modify]
      by_cases hk : b = k
      · subst hk; rw [if_pos rfl, if_pos rfl, hbk]; rfl
      · rw [if_neg hk, if_neg (fun h => hk h.symm)]
    have hsz : (w.freeze ⟨b, cs.toArray.size, none⟩ 1).heap.size = w.heap.size := by unfold World.freeze; rw [if_neg (by decide)]; simp
    have hot : (w.freeze ⟨b, cs.toArray.size, none⟩ 1).os = w.os ∧ (w.freeze ⟨b, cs.toArray.size, none⟩ 1).tape = w.tape ∧ (w.freeze ⟨b, cs.toArray.size, none⟩ 1).output = w.output := by unfold World.freeze; rw [if_neg (by decide)]; exact ⟨rfl, rfl, rfl⟩
    refine ⟨_, w.freeze ⟨b, cs.toArray.size, none⟩ 1, by simp [execOp, convert, ho.eval hx, run_underlying ht, run_underlying he, markStringish, hsh], c, ⟨hot.1, hot.2.1, hot.2.2, Nat.le_of_eq hsz.symm, fun _ _ => rfl, fun k hk hc => ?_⟩, rfl, ⟨⟨hl, ownIn ⟨b, n, cs.toArray, _, rfl, Nat.zero_le _, by rw [hheap, if_pos rfl], fun _ => Nat.le_refl _, Nat.le_refl _, by rw [maxLen_eq]; exact hn, by simpa using hl, by simp [← hl]⟩⟩, fun k hk => ?_⟩⟩
    · rw [hheap, if_neg (fun e' => by subst e'; rw [hb.col] at hc; simp [hasC] at hc)]
    · simp only [Value.rowOf] at hk
      cases hb' : Nat.beq n 0 <;> rw [hb'] at hk <;> simp at hk
      rw [← hk]; exact hb.col
theorem Val.rdlenC {wr : World} {α : Type} {s : Shape α} {c : Nat → Nat} {J : List Nat} {x : Operand} {t e : TypeId} {sz by_ : Nat} {z : List Value} {v : Value} {l : List α} (ht : slT P t = some (e, sz, by_, z)) (hr : RdC s c wr J v l) (hx : evO env x = some v) : Val P env w (.call ⟨.builtin .len, #[x], #[t]⟩) ty (I l.length) :=
  Val.rdlen ht hr.now hx
theorem Val.indexC {wr : World} {α : Type} {s : Shape α} {c : Nat → Nat} {J : List Nat} {x y : Operand} {t e : TypeId} {by_ : Nat} {z : List Value} {k : IntKind} {j : Int} {v : Value} {l : List α} (ht : slT P t = some (e, s.size, by_, z)) (hr : RdC s c wr J v l) (hx : evO env x = some v) (hy : evO env y = some (.int k j))
    (h0 : 0 ≤ j) (h1 : j < l.length) : Val P env w (.indexAddr t x y) ty (.pointer (some (elemA v s.size j.toNat))) := Val.indexAddr ht hr.now rfl hx hy h0 h1
end
theorem Val.bneq {P : Program} {env : Env} {w : World} {ty ty2 t : TypeId} {x y : Operand} {p q : Bool} (ht : P.underlying t = some .bool) (hx : evO env x = some (.bool p)) (hy : evO env y = some (.bool q)) : Val P env w (.binOp .neq t x y ty2) ty (.bool (!(p == q))) := fun _ a ho d pos after g => by
  have h1 := run_equal_bool (P := P) w t p q ht
  cases p <;> cases q <;> simp [execOp, ho.eval hx, ho.eval hy, eqGuard, binOp, h1]
theorem Val.xorU8 {P : Program} {env : Env} {w : World} {ty ty2 t : TypeId} {x y : Operand} {m n : Int} (hx : evO env x = some (.int .u8 m)) (hy : evO env y = some (.int .u8 n)) : Val P env w (.binOp .xor t x y ty2) ty (.int .u8 (u8I (((BitVec.ofInt 8 m) ^^^ (BitVec.ofInt 8 n)).toNat : Int)).toNat) := by
  have := Val.bitop (P := P) (w := w) (ty := ty) (t := t) (ty2 := ty2) (op := .xor) hx hy (.inr (.inr ⟨rfl, rfl⟩))
  rw [wrap_u8I] at this
  exact this
end Go.Eng
namespace Silo
open Go Go.Eng
theorem sne_self (l : List UInt8) : (!(l == l)) = false := by simp
theorem eqc (b : Bool) : (!(b == decide ((if b = true then (0 : Int) else 7) = 0))) = false := by cases b <;> decide
theorem eqd (b : Bool) : (!b && !decide ((if b = true then (0 : Int) else 7) = 7)) = false := by cases b <;> decide
end Silo

namespace Go.Eng
open Go Go.RowKit

theorem uponIn_monoQ {F : Fence} {n : Nat} {P : Program} {o : Oper} {a : Act} {w : World} {K K' : Act → World → Prop} {Q Q' : Exit → Act → World → Prop} (hq : ∀ e a w, (e = .normal → False) → Q e a w → Q' e a w) (h : ∀ a w, K a w → K' a w)
    (hh : o.wpIn F n P a w K Q) : o.wpIn F n P a w K' Q' := by
  unfold Oper.wpIn at *
  refine ⟨hh.1, ?_⟩
  have hh := hh.2
  generalize (o.semAt F.round a.eval).run P w = r at *
  cases r with
  | ok x w' =>
    cases x <;> simp only [Oper.uponIn] at hh ⊢ <;>
      first
        | exact h _ _ hh
        | exact hq _ _ _ nofun hh
        | exact ⟨hh.1, CallsIn.mono hh.2 (fun e w'' he => by cases e <;> first | exact h _ _ he | exact hq _ _ _ nofun he | exact Exists.elim he fun a h1 => Exists.elim h1 fun w h2 => ⟨a, w, hq _ _ _ nofun h2⟩)⟩
        | exact ⟨hh.1, RowsIn.mono hh.2 (fun _ _ he => h _ _ he)⟩
        | exact ⟨hh.1, RoundIn.mono hh.2 (fun e w'' he => by cases e <;> first | exact h _ _ he | exact hq _ _ _ nofun he | exact Exists.elim he fun a h1 => Exists.elim h1 fun w h2 => ⟨a, w, hq _ _ _ nofun h2⟩)⟩
  | halt x w' => cases x <;> simp only [Oper.uponIn] at hh ⊢ <;> first | exact hh | exact hq _ _ _ nofun hh
theorem wpOpIn_monoQ {F : Fence} {n : Nat} {P : Program} {ops : Array Oper} {i : Nat} {a : Act} {w : World} {K K' : Act → World → Prop} {Q Q' : Exit → Act → World → Prop} (hq : ∀ e a w, (e = .normal → False) → Q e a w → Q' e a w) (h : ∀ a w, K a w → K' a w)
    (hh : wpOpIn F n P ops Q i K a w) : wpOpIn F n P ops Q' i K' a w := by
  unfold wpOpIn at *
  split
  · exact h _ _ (by simpa [*] using hh)
  · rename_i o ho
    simp only [ho] at hh
    split
    · rename_i hw; simp only [hw, if_true] at hh; exact uponIn_monoQ hq h hh
    · rename_i hw; simp only [hw] at hh; exact ⟨hh.1, h _ _ hh.2⟩
section
variable {c : Cx} {B : List (Nat × Kont)} {env : Env} {w : World} {M N : Kont} {ops : Array Oper} {C : World → Prop} {kind : List Nat} {is is1 is2 : List Nat}
theorem QQ_others {e : Exit} {a : Act} {w : World} (hne : e = .normal → False) (h : QQ c B M e a w) : QQ c B N e a w := by
  cases e with
  | normal => exact (hne rfl).elim
  | exit id => exact h
  | ret => exact h
  | goto l => exact h
  | panic ch => exact h
  | outgrown => exact h
theorem wpCan_cut (h2 : ∀ e w, M e w → WD c B ops C kind is2 e w N) : ∀ (is1 : List Nat) (a : Act) (w : World), wpCan c.rnd c.P ops C kind (QQ c B M) is1 a w → wpCan c.rnd c.P ops C kind (QQ c B N) (is1 ++ is2) a w
  | [], a, w, h => by obtain ⟨e, he, hm⟩ := h; exact h2 e w hm a he
  | i :: is, a, w, h => by
    unfold wpCan at h
    rw [List.cons_append]
    unfold wpCan
    cases hi : ops[i]? with
    | none => rw [hi] at h; exact h
    | some o =>
      rw [hi] at h
      simp only at h ⊢
      split at h
      · obtain ⟨v, hy, hk⟩ := h; exact ⟨v, hy, wpCan_cut h2 is _ _ hk⟩
      · obtain ⟨hc, v, hy, hk⟩ := h; exact ⟨hc, v, hy, wpCan_cut h2 is _ _ hk⟩
      · exact wpOpIn_monoQ (fun _ _ _ hne hq => QQ_others hne hq) (fun _ _ hk => ⟨hk.1, wpCan_cut h2 is _ _ hk.2⟩) h
      · exact wpOpIn_monoQ (fun _ _ _ hne hq => QQ_others hne hq) (fun _ _ hk => wpCan_cut h2 is _ _ hk) h
      · exact h
theorem WD.cut (k : Nat) (M : Kont) (h : WD c B ops C kind (is.take k) env w M) (h2 : ∀ e w, M e w → WD c B ops C kind (is.drop k) e w N) : WD c B ops C kind is env w N := fun a ho => by
  have := wpCan_cut h2 _ _ _ (h a ho)
  rwa [List.take_append_drop] at this

/-- Passed over, in a drawn region. -/
def offD (ops : Array Oper) (n : Nat) (kind : List Nat) : List Nat → Env → Option Env
  | [], env => some env
  | i :: r, env => match ops[i]? with
    | some o => match o.dst, o.guard with
      | some d, some (j, want) => match (ops[j]?).bind (·.dst) with
        | some s => match look env s, kind[i]? with
          | some (.bool b), some k => bif b == want then none else bif Nat.blt d n && Nat.blt k 3 then offD ops n kind r ((d, undef) :: env) else none
          | some (.tuple _), some k => bif Nat.blt d n && Nat.blt k 3 then offD ops n kind r ((d, undef) :: env) else none
          | _, _ => none
        | none => none
      | _, _ => none
    | none => none
theorem wpCan_pass {i : Nat} {o : Oper} {d k : Nat} {a : Act} {Q : Exit → Act → World → Prop} {ro : Option Nat} {P : Program} (hi : ops[i]? = some o) (hd : o.dst = some d) (hk : kind[i]? = some k) (hk3 : k < 3) (hw : Region.wanted o (yielded ops a.tmps) = false) (hC : C w)
    (next : wpCan ro P ops C kind Q is (a.put (some d) undef) w) : wpCan ro P ops C kind Q (i :: is) a w := by
  unfold wpCan
  simp only [hi, hk]
  have : k = 0 ∨ k = 1 ∨ k = 2 := by omega
  rcases this with rfl | rfl | rfl
  · exact ⟨undef, .inr ⟨hw, rfl⟩, by rw [hd]; exact next⟩
  · exact ⟨hC, undef, .inr ⟨hw, rfl⟩, by rw [hd]; exact next⟩
  · simp only
    unfold wpOpIn
    simp only [hi, hw, hd]
    exact ⟨fun _ _ => trivial, fun h => h, next⟩
theorem WD.offs (hC : C w) : ∀ (is1 : List Nat) (env env' : Env), offD ops c.n kind is1 env = some env' → WD c B ops C kind is2 env' w N → WD c B ops C kind (is1 ++ is2) env w N
  | [], env, env', h, next => by simp [offD] at h; subst h; exact next
  | i :: r, env, env', h, next => by
    unfold offD at h
    split at h
    · rename_i o hi
      split at h
      · rename_i d j want hdst hgd
        split at h
        · rename_i s hs
          split at h
          · rename_i b k hb hkk
            cases hbw : (b == want) with
            | true => rw [hbw] at h; simp at h
            | false =>
              rw [hbw] at h
              cases hdn : Nat.blt d c.n && Nat.blt k 3 with
              | false => rw [hdn] at h; simp at h
              | true =>
                rw [hdn] at h
                have hd2 := hdn
                simp only [Bool.and_eq_true] at hd2
                intro a ho
                refine wpCan_pass hi hdst hkk (by rw [← Nat.blt_eq]; exact hd2.2) ?_ hC (WD.offs hC r _ _ (by simpa using h) next _ (ho.put hd2.1 undef))
                simp [Region.wanted, hgd, yielded, hs, ho.vals s _ hb, hbw]
          · rename_i vs k hb hkk
            cases hdn : Nat.blt d c.n && Nat.blt k 3 with
            | false => rw [hdn] at h; simp at h
            | true =>
              rw [hdn] at h
              have hd2 := hdn
              simp only [Bool.and_eq_true] at hd2
              intro a ho
              refine wpCan_pass hi hdst hkk (by rw [← Nat.blt_eq]; exact hd2.2) ?_ hC (WD.offs hC r _ _ (by simpa using h) next _ (ho.put hd2.1 undef))
              simp [Region.wanted, hgd, yielded, hs, ho.vals s _ hb]
          · cases h
        · cases h
      · cases h
    · cases h
theorem offD_drop (n : Nat) : ∀ (l : List Nat) (env e : Env), offD ops n kind l env = some e → e.drop l.length = env
  | [], env, e, h => by simp [offD] at h; simp [h]
  | i :: r, env, e, h => by
    unfold offD at h
    split at h
    · split at h
      · split at h
        · split at h
          · rename_i b k _ _
            cases hbw : (b == _) with
            | true => rw [hbw] at h; simp at h
            | false =>
              rw [hbw] at h
              cases hdn : Nat.blt _ n && Nat.blt k 3 with
              | false => rw [hdn] at h; simp at h
              | true =>
                rw [hdn] at h
                have := offD_drop n r _ e (by simpa using h)
                rw [List.length_cons, ← List.drop_drop, this]; rfl
          · rename_i k _ _
            cases hdn : Nat.blt _ n && Nat.blt k 3 with
            | false => rw [hdn] at h; simp at h
            | true =>
              rw [hdn] at h
              have := offD_drop n r _ e (by simpa using h)
              rw [List.length_cons, ← List.drop_drop, this]; rfl
          · cases h
        · cases h
      · cases h
    · cases h
def offDOk (ops : Array Oper) (n : Nat) (kind : List Nat) (l : List Nat) (s : Nat) (v : Bool) (env : Env) : Bool :=
  match offD ops n kind l ((s, .bool v) :: env) with
  | some e => freshB ((s, .bool v) :: env) l.length e
  | none => false
theorem WD.pickOn {i : Nat} {cd x y : Operand} {d : Nat} {ty : TypeId} {pos : String} {after : Array Edge} {g : Option (Nat × Bool)} {b : Bool} {v : Value} (hi : ops[i]? = some ⟨some d, .pick cd x y, ty, pos, after, g⟩) (hk : kind[i]? = some 0) (hg : guardOn ops env g = true) (hd : Nat.blt d c.n = true)
    (hc : evO env cd = some (.bool b)) (hv : evO env (if b then x else y) = some v) (next : WD c B ops C kind is ((d, v) :: env) w N) : WD c B ops C kind (i :: is) env w N :=
  WD.val hi hk hg (fun _ => Val.pick hc hv) hd next
/-- Where one of two ways is picked, in a drawn region. -/
theorem WD.sc {i : Nat} {tl : List Nat} (q : Bool) (k : Nat) (x : Bool) (R : World → Prop) {s t d : Nat} {b : Bool} {ty : TypeId} {pos : String} {after : Array Edge} {g : Option (Nat × Bool)} {u v : Operand}
    (hs : look env s = some (.bool b)) (hl : is.drop k = i :: tl) (hi : ops[i]? = some ⟨some d, .pick (.tmp s) u v, ty, pos, after, g⟩) (hk : kind[i]? = some 0) (hg : guardOn ops env g = true)
    (hu : (if q then u else v) = .tmp t) (hv : (if q then v else u) = .const (.bool (!q)))
    (hoff : offDOk ops c.n kind (is.take k) s (!q) env = true) (hd : Nat.blt d c.n = true) (hC : C w)
    (hT : b = q → WD c B ops C kind (is.take k) ((s, .bool q) :: env) w (fun e w' => look e t = some (.bool x) ∧ Sub ((s, .bool q) :: env) e ∧ R w'))
    (hF : b = !q → R w)
    (next : ∀ w', R w' → WD c B ops C kind tl ((d, .bool (bif q then b && x else b || x)) :: env) w' N) : WD c B ops C kind is env w N := by
  by_cases hb : b = q
  · refine WD.cut k (fun e w' => (look e t = some (.bool x) ∧ Sub ((s, .bool q) :: env) e ∧ R w')) ?_ ?_
    · intro a ho
      exact hT hb a (ho.sub (Sub.cons (by rw [hs, hb]) (Sub.refl _)))
    · rintro e w' ⟨h1, h2, h3⟩
      rw [hl]
      have hsub : Sub env e := Sub.shadow (v := .bool q) (by rw [hs, hb]) h2
      have hse : look e s = some (.bool q) := h2.vals s _ (look_hit (look_ne hs))
      refine WD.pickOn (v := .bool x) hi hk (guardOn_sub hsub hg) hd (b := q) (by simpa [evO] using hse) ?_ ?_
      · rw [hu]; exact h1
      · have e1 : (bif q then b && x else b || x) = x := by subst hb; cases b <;> simp
        have := next w' h3
        rw [e1] at this
        exact fun a ho => this a (ho.sub (Sub.both hsub))
  · have hb' : b = !q := by cases b <;> cases q <;> simp_all
    unfold offDOk at hoff
    split at hoff
    · rename_i e he
      have hdrop := offD_drop _ _ _ _ he
      have h2 : Sub ((s, .bool (!q)) :: env) e := Sub.drop _ _ _ hdrop hoff
      have hsub : Sub env e := Sub.shadow (v := .bool (!q)) (by rw [hs, hb']) h2
      have hse : look e s = some (.bool (!q)) := h2.vals s _ (look_hit (look_ne hs))
      have main : WD c B ops C kind (is.take k ++ is.drop k) ((s, .bool (!q)) :: env) w N := by
        refine WD.offs hC _ _ _ he ?_
        rw [hl]
        refine WD.pickOn (v := .bool (!q)) hi hk (guardOn_sub hsub hg) hd (b := !q) (by simpa [evO] using hse) ?_ ?_
        · have : (if (!q) = true then u else v) = (if q then v else u) := by cases q <;> rfl
          rw [this, hv]; rfl
        · have e1 : (bif q then b && x else b || x) = !q := by subst hb'; cases q <;> simp
          have := next w (hF hb')
          rw [e1] at this
          exact fun a ho => this a (ho.sub (Sub.both hsub))
      rw [List.take_append_drop] at main
      exact fun a ho => main a (ho.sub (Sub.cons (by rw [hs, hb']) (Sub.refl _)))
    · cases hoff
end
end Go.Eng

namespace Go.Proofs.Ytnddlhjafkhdoaa
open Go Go.Eng Go.RowKit Silo TryT

theorem copyStrings_ok {w : World} {v : Value} {l : List (List UInt8)} (h1 : Rd strS w v l) (hl : l.length ≤ 1048576) :
    Calls Try.prog 15 #[v] w (Ret fun v' w' => Below w.heap.size w w' ∧ Own w' w.heap.size 9 1 v' l.length (l.flatMap fun x => [St x])) := by
  obtain ⟨B, hB⟩ : ∃ B, B = w.heap.size := ⟨_, rfl⟩
  have hBw : B ≤ w.heap.size := Nat.le_of_eq hB
  have hK : Below B w w := Below.refl _ _
  unfold Rd at h1
  rw [← hB] at h1 ⊢
  refine enter (n := 19) (res := #[.tmp 2]) Try.func15 rfl rfl rfl rfl ?_
  refine cseq <| cregion <| qq (Val.assign rfl) rfl <| cnil <| cseq <| cregion <| qq (Val.assign rfl) rfl <| cnil <| cseq ?_
  refine cseq <| cregion <| qq (Val.assign rfl) rfl <| cnil <| cblock ?_
  refine WC.loop (σ := Nat × Value) (fun st => [(0, v), (3, st.2), (4, I st.1)]) (fun st w' => RdS strS B w' v l ∧ Below B w w' ∧ B ≤ w'.heap.size ∧ st.1 ≤ l.length ∧ Own w' B 9 1 st.2 st.1 ((l.take st.1).flatMap fun x => [St x])) (fun st => l.length - st.1) (0, .slice none 0 0) (by repeat (first | exact Sub.nil _ | refine Sub.cons rfl ?_ | refine Sub.consM rfl ?_)) ⟨h1, hK, hBw, by simp, Own.nil _ _ _ _⟩ ?_
  rintro ⟨k, vm⟩ wl ⟨h1, hK, hBw, hk, ho⟩
  dsimp only at hk ho ⊢
  refine cseq <| cseq <| cregion <| qq (Val.move rfl) rfl <| qq (Val.move rfl) rfl ?_
  first | refine WR.val (Val.rdlen sl23 (by assumption) rfl) rfl ?_ | refine WR.val (Val.sllen Try.underlying23 rfl) rfl ?_
  refine qq (Val.lss rfl rfl) rfl <| cnil ?_
  refine WC.cond rfl (fun hc3 => ?_) (fun hc3 => ?_)
  ·try simp only [tstS] at hc3
   have ka : k < l.length := by omega
   obtain ⟨cs1, hc14, rfl, ok1⟩ := h1.elB ka
   replace hc14 := hc14.toCel hBw
   refine cskip <| cseq <| cblock <| cregion <| qq (Val.move rfl) rfl <| qq (Val.move rfl) rfl <| qq (Val.move rfl) rfl <| qq (Val.indexAddr sl23 (by assumption) rfl rfl rfl (by first | omega | assumption | (simp; omega) | (simp; done)) (by first | omega | assumption | (simp; omega) | (simp; done))) rfl <| qq (Val.loadE1 scl9 rfl hc14) rfl ?_
   refine WR.eff (Eff.build1 sl23 rfl rfl rfl rfl rfl) rfl ?_
   rintro _ w1 ⟨b16, rfl, hn16⟩
   have hk1 := hn16.below
   replace h1 := h1.upB (hk1.mono hBw); replace hK := hK.upB (hk1.mono hBw); replace ho := ho.up hk1; replace hBw := Nat.le_trans hBw hk1.size
   refine WR.eff (Eff.append sl23 rfl rfl ho (Src.cellsAt Try.underlying23 hn16.blk.cellsAt rfl (by repeat (first | exact List.forall_mem_nil _ | refine List.forall_mem_cons.2 ⟨by first | rfl | assumption, ?_⟩))) (by rw [maxLen_eq]; first | omega | (simp; omega)) (by first | omega | (simp; omega)) hBw) rfl ?_
   intro v17 w2 hA17
   have hk2 := hA17.belowB ho hBw
   replace h1 := h1.upB hk2; replace hK := hK.upB hk2; replace hBw := Nat.le_trans hBw hk2.size
   replace ho := hA17.own
   refine qq (Val.assign rfl) rfl <| cnil <| cregion <| qq (Val.move rfl) rfl <| qq (Val.addI rfl rfl (by first | omega | assumption | (simp; omega) | (simp; done)) (by first | omega | assumption | (simp; omega) | (simp; done))) rfl <| qq (Val.assign rfl) rfl <| cnil ?_
   exact ⟨(k + 1, v17), (by repeat (first | exact Sub.nil _ | refine Sub.cons rfl ?_ | refine Sub.consM rfl ?_)), ⟨h1, hK, hBw, ka, by rw [take_succ_flatMap _ ka]; exact ho⟩, by simp; omega⟩
  ·try simp only [tstS] at hc3
   refine WC.exit rfl ?_
   refine cseq <| cregion <| qq (Val.move rfl) rfl <| qq (Val.assign rfl) rfl <| cnil ?_
   refine WC.ret1 rfl rfl ?_
   exact ⟨hK, by
     have : k = l.length := by omega
     subst this
     rwa [List.take_of_length_le (Nat.le_refl _)] at ho⟩

theorem eqStrings_ok {w : World} {v1 v2 : Value} {a b : List (List UInt8)} (h1 : Rd strS w v1 a) (h2 : Rd strS w v2 b) :
    Calls Try.prog 37 #[v1, v2] w (Ret fun v w' => Below w.heap.size w w' ∧ v = .bool (decide (a = b))) := by
  have hK : Old w w := Old.refl w
  have la := h1.lenN
  refine enter (n := 26) (res := #[.tmp 4]) Try.func37 rfl rfl rfl rfl ?_
  refine cseq <| cregion <| qq (Val.assign rfl) rfl <| cnil <| cseq <| cseq <| cregion <| qq (Val.move rfl) rfl ?_
  first | refine WR.val (Val.rdlen sl23 (by assumption) rfl) rfl ?_ | refine WR.val (Val.sllen Try.underlying23 rfl) rfl ?_
  refine qq (Val.move rfl) rfl ?_
  first | refine WR.val (Val.rdlen sl23 (by assumption) rfl) rfl ?_ | refine WR.val (Val.sllen Try.underlying23 rfl) rfl ?_
  refine qq (Val.neq rfl rfl) rfl <| cnil ?_
  refine WC.cond rfl (fun hc1 => ?_) (fun hc1 => ?_)
  ·try simp only [tstS] at hc1
   have : a ≠ b := fun e => by subst e; omega
   refine cseq <| cregion <| qq (Val.assign rfl) rfl <| cnil ?_
   refine WC.ret1 rfl rfl ?_
   exact ⟨hK, by simp [this]⟩
  ·try simp only [tstS] at hc1
   refine cskip <| cseq <| cseq <| cregion <| qq (Val.assign rfl) rfl <| cnil <| cblock ?_
   refine WC.loop (σ := Nat) (fun k => [(0, v1), (1, v2), (5, I k)]) (fun k w' => Rd strS w' v1 a ∧ Rd strS w' v2 b ∧ Old w w' ∧ k ≤ a.length ∧ a.take k = b.take k) (fun k => a.length - k) 0 (by repeat (first | exact Sub.nil _ | refine Sub.cons rfl ?_ | refine Sub.consM rfl ?_)) ⟨h1, h2, hK, by omega, rfl⟩ ?_
   rintro k wl ⟨h1, h2, hK, hk, he⟩
   have hln : a.length = b.length := by omega
   refine cseq <| cseq <| cregion <| qq (Val.move rfl) rfl <| qq (Val.move rfl) rfl ?_
   first | refine WR.val (Val.rdlen sl23 (by assumption) rfl) rfl ?_ | refine WR.val (Val.sllen Try.underlying23 rfl) rfl ?_
   refine qq (Val.lss rfl rfl) rfl <| cnil ?_
   refine WC.cond rfl (fun hc4 => ?_) (fun hc4 => ?_)
   ·try simp only [tstS] at hc4
    have ka : k < a.length := by omega
    have kb : k < b.length := by omega
    obtain ⟨cs1, hc19, rfl, ok1⟩ := h1.el ka
    obtain ⟨cs2, hc23, rfl, ok2⟩ := h2.el kb
    refine cskip <| cseq <| cblock <| cseq ?_
    refine WC.regionD (Below wl.heap.size wl) [0, 0, 0, 1, 0, 0, 0, 1, 0] [0, 1, 2, 3, 4, 5, 6, 7, 8] mixed (by kernel_rfl) ?_
    have hk1 : Below wl.heap.size wl wl.drew := (Below.refl _ _).drew
    have hCw : Below wl.heap.size wl wl.drew := (Below.refl _ _).drew
    generalize wl.drew = w1 at hk1 hCw ⊢
    replace h1 := h1.up hk1; replace h2 := h2.up hk1; replace hK := hK.up hk1
    refine qd rfl rfl rfl (fun _ => Val.move rfl) rfl <| qd rfl rfl rfl (fun _ => Val.move rfl) rfl <| qd rfl rfl rfl (fun _ => Val.indexAddr sl23 (by assumption) rfl rfl rfl (by first | omega | assumption | (simp; omega) | (simp; done)) (by first | omega | assumption | (simp; omega) | (simp; done))) rfl <| qc rfl rfl rfl hCw (fun W hW => Val.loadE1 scl9 rfl (hc19.up hW)) rfl <| qd rfl rfl rfl (fun _ => Val.move rfl) rfl <| qd rfl rfl rfl (fun _ => Val.move rfl) rfl <| qd rfl rfl rfl (fun _ => Val.indexAddr sl23 (by assumption) rfl rfl rfl (by first | omega | assumption | (simp; omega) | (simp; done)) (by first | omega | assumption | (simp; omega) | (simp; done))) rfl <| qc rfl rfl rfl hCw (fun W hW => Val.loadE1 scl9 rfl (hc23.up hW)) rfl <| qd rfl rfl rfl (fun _ => Val.sne rfl rfl) rfl ?_
    refine WD.nil ?_
    clear hCw
    refine WC.cond rfl (fun hc6 => ?_) (fun hc6 => ?_)
    ·try simp only [tstS] at hc6
     replace hc6 : a[k] ≠ b[k] := by simpa using hc6
     refine cseq <| cregion <| qq (Val.assign rfl) rfl <| cnil ?_
     refine WC.ret1 rfl rfl ?_
     exact ⟨hK, by simp [take_ne ka kb hc6]⟩
    ·try simp only [tstS] at hc6
     replace hc6 : a[k] = b[k] := by simpa using hc6
     refine cskip <| cregion <| qq (Val.move rfl) rfl <| qq (Val.addI rfl rfl (by first | omega | assumption | (simp; omega) | (simp; done)) (by first | omega | assumption | (simp; omega) | (simp; done))) rfl <| qq (Val.assign rfl) rfl <| cnil ?_
     exact ⟨k + 1, (by repeat (first | exact Sub.nil _ | refine Sub.cons rfl ?_ | refine Sub.consM rfl ?_)), ⟨h1, h2, hK, ka, take_step ka kb he hc6⟩, by omega⟩
   ·try simp only [tstS] at hc4
    refine WC.exit rfl ?_
    refine cseq <| cregion <| qq (Val.assign rfl) rfl <| cnil ?_
    refine WC.ret1 rfl rfl ?_
    exact ⟨hK, by simp [take_all he (by omega) (by omega)]⟩

theorem texts_ok {w : World} {v : Value} {l : List (List UInt8)} (h1 : Rd strS w v l) :
    Calls Try.prog 70 #[v] w (Ret fun v' w' => Below w.heap.size w w' ∧ v' = I (stopSum l.length (l.map List.length) : Nat)) := by
  have hK : Old w w := Old.refl w
  have hsm := h1.small
  refine enter (n := 25) (res := #[.tmp 2]) Try.func70 rfl rfl rfl rfl ?_
  refine cseq <| cregion <| qq (Val.assign rfl) rfl <| cnil <| cseq <| cregion <| qq (Val.move rfl) rfl ?_
  first | refine WR.val (Val.rdlen sl23 (by assumption) rfl) rfl ?_ | refine WR.val (Val.sllen Try.underlying23 rfl) rfl ?_
  refine qq (Val.assign rfl) rfl <| cnil <| cseq <| cseq <| cregion <| qq (Val.assign rfl) rfl <| cnil <| cblock ?_
  refine WC.loop (σ := Nat) (fun k => [(0, v), (3, I ((l.length + ((l.take k).map List.length).sum : Nat) : Int)), (4, I k)]) (fun k w' => Rd strS w' v l ∧ Old w w' ∧ k ≤ l.length ∧ l.length + ((l.take k).map List.length).sum ≤ 9000000000000000000 ∧ stopSum l.length (l.map List.length) = stopSum (l.length + ((l.take k).map List.length).sum) ((l.drop k).map List.length)) (fun k => l.length - k) 0 (by simp only [List.take_zero, List.map_nil, List.sum_nil, Nat.add_zero]; repeat (first | exact Sub.nil _ | refine Sub.cons rfl ?_ | refine Sub.consM rfl ?_)) ⟨h1, hK, by omega, by simp; omega, by simp⟩ ?_
  rintro k wl ⟨h1, hK, hk, hn, hst⟩
  refine cseq <| cseq <| cregion <| qq (Val.move rfl) rfl <| qq (Val.move rfl) rfl ?_
  first | refine WR.val (Val.rdlen sl23 (by assumption) rfl) rfl ?_ | refine WR.val (Val.sllen Try.underlying23 rfl) rfl ?_
  refine qq (Val.lss rfl rfl) rfl <| qq (Val.move rfl) rfl ?_
  apply WR.sc true 2 _ (fun w' => wl = w')
  case hl => rfl
  case hg => rfl
  case hu => rfl
  case hv => rfl
  case hs => rfl
  case hoff => rfl
  case hd => rfl
  case hF => exact fun _ => rfl
  case hT =>
   intro hq7
   try simp only [tstS] at hq7
   simp only [List.take_succ_cons, List.take_zero]
   refine WR.on rfl rfl ?_
   refine qq (Val.move rfl) rfl ?_
   refine WR.on rfl rfl ?_
   refine qq (Val.lss rfl rfl) rfl ?_
   exact WR.nil ⟨rfl, Sub.drop _ 2 _ rfl rfl, rfl⟩
  rintro _ rfl
  refine cnil ?_
  refine WC.cond rfl (fun hc3 => ?_) (fun hc3 => ?_)
  ·try simp only [tstS] at hc3
   obtain ⟨hc3, hc3'⟩ := hc3
   have ka : k < l.length := by omega
   obtain ⟨cs1, hc20, rfl, ok1⟩ := h1.el ka
   refine cskip <| cseq <| cblock <| cregion <| qq (Val.move rfl) rfl <| qq (Val.move rfl) rfl <| qq (Val.move rfl) rfl <| qq (Val.indexAddr sl23 (by assumption) rfl rfl rfl (by first | omega | assumption | (simp; omega) | (simp; done)) (by first | omega | assumption | (simp; omega) | (simp; done))) rfl <| qq (Val.loadE1 scl9 rfl hc20) rfl ?_
   refine qq (Val.slen Try.underlying9 rfl) rfl <| qq (Val.addI rfl rfl (by first | omega | assumption | (simp; omega) | (simp; done)) (by first | omega | assumption | (simp; omega) | (simp; done))) rfl <| qq (Val.assign rfl) rfl <| cnil <| cregion <| qq (Val.move rfl) rfl <| qq (Val.addI rfl rfl (by first | omega | assumption | (simp; omega) | (simp; done)) (by first | omega | assumption | (simp; omega) | (simp; done))) rfl <| qq (Val.assign rfl) rfl <| cnil ?_
   refine ⟨k + 1, ?_, ⟨h1, hK, ka, ?_, by rw [hst, stopSum_step _ ka (by omega), sum_take_succ _ ka, Nat.add_assoc]⟩, by omega⟩
   · rw [sum_take_succ _ ka, show ((l.length + (((l.take k).map List.length).sum + l[k].length) : Nat) : Int) = ((l.length + ((l.take k).map List.length).sum : Nat) : Int) + (l[k].length : Int) by omega]; repeat (first | exact Sub.nil _ | refine Sub.cons rfl ?_ | refine Sub.consM rfl ?_)
   · rw [sum_take_succ _ ka]; omega
  ·try simp only [tstS] at hc3
   refine WC.exit rfl ?_
   refine cseq <| cregion <| qq (Val.move rfl) rfl <| qq (Val.assign rfl) rfl <| cnil ?_
   refine WC.ret1 rfl rfl ?_
   refine ⟨hK, ?_⟩
   rw [Bool.and_eq_false_iff] at hc3
   simp only [decide_eq_false_iff_not] at hc3
   rcases Nat.lt_or_ge k l.length with h | h
   · rw [hst, stopSum_ge (by omega)]
   · rw [hst, List.drop_of_length_le h]; rfl

theorem num_ok {w : World} (k n : Int) : Calls Try.prog 29 #[I k, I n] w (Ret fun v w' => Below w.heap.size w w' ∧ v = .bool (decide (0 ≤ k) && decide (k ≤ n))) := by
  refine enter (n := 12) (res := #[.tmp 4]) Try.func29 rfl rfl rfl rfl ?_
  refine cseq <| cregion <| qq (Val.assign rfl) rfl <| cnil <| cseq <| cregion <| qq (Val.move rfl) rfl <| qq (Val.geq rfl rfl) rfl <| qq (Val.move rfl) rfl ?_
  apply WR.sc true 3 _ (fun w' => w = w')
  case hl => rfl
  case hg => rfl
  case hu => rfl
  case hv => rfl
  case hs => rfl
  case hoff => rfl
  case hd => rfl
  case hF => exact fun _ => rfl
  case hT =>
   intro hq6
   try simp only [tstS] at hq6
   simp only [List.take_succ_cons, List.take_zero]
   refine WR.on rfl rfl ?_
   refine qq (Val.move rfl) rfl ?_
   refine WR.on rfl rfl ?_
   refine qq (Val.move rfl) rfl ?_
   refine WR.on rfl rfl ?_
   refine qq (Val.leq rfl rfl) rfl ?_
   exact WR.nil ⟨rfl, Sub.drop _ 3 _ rfl rfl, rfl⟩
  rintro _ rfl
  refine qq (Val.assign rfl) rfl <| cnil ?_
  refine WC.ret1 rfl rfl ?_
  exact ⟨Below.refl _ _, rfl⟩
end Go.Proofs.Ytnddlhjafkhdoaa

namespace Silo
open Go Go.Eng
theorem digAt_eq {l : List (List UInt8)} {k : Nat} (ka : k < l.length) (hp : ((k : Int) - 1).toNat < l.length) : digAt l k = (decide ((l[k].length : Int) = 32) && !(decide (0 < (k : Int)) && !Op.bytesLess l[((k : Int) - 1).toNat] l[k])) := by
  have e : ((k : Int) - 1).toNat = k - 1 := by omega
  simp only [digAt, getD_lt ka, getD_lt (show k - 1 < l.length by omega), e]
  have h1 : decide (k = 0) = !decide (0 < (k : Int)) := by rw [Bool.eq_iff_iff]; simp
  have h2 : decide (l[k].length = 32) = decide ((l[k].length : Int) = 32) := by rw [Bool.eq_iff_iff]; simp; omega
  rw [h1, h2]
  cases decide (0 < (k : Int)) <;> simp
theorem digAt_no {l : List (List UInt8)} {k : Nat} (ka : k < l.length) (hp : ((k : Int) - 1).toNat < l.length) (h : ¬(l[k].length : Int) = 32 ∨ 0 < (k : Int) ∧ Op.bytesLess l[((k : Int) - 1).toNat] l[k] = false) : digAt l k = false := by
  rw [digAt_eq ka hp]
  rcases h with h | ⟨h, h'⟩
  · rw [decide_eq_false h]; rfl
  · rw [h', decide_eq_true h]; simp
theorem digAt_yes {l : List (List UInt8)} {k : Nat} (ka : k < l.length) (hp : ((k : Int) - 1).toNat < l.length) (h : (l[k].length : Int) = 32 ∧ (decide (0 < (k : Int)) && !Op.bytesLess l[((k : Int) - 1).toNat] l[k]) = false) : digAt l k = true := by
  rw [digAt_eq ka hp, decide_eq_true h.1, h.2]; rfl
theorem below_succ {P : Nat → Prop} {k : Nat} (h : ∀ i, i < k → P i) (hk : P k) : ∀ i, i < k + 1 → P i := fun i hi => by
  rcases Nat.lt_or_ge i k with h1 | h1
  · exact h i h1
  · have : i = k := by omega
    subst this; exact hk
end Silo
namespace Go.Proofs.Ytnddlhjafkhdoaa
open Go Go.Eng Go.RowKit Silo TryT

theorem digests_ok {w : World} {v : Value} {l : List (List UInt8)} (h1 : Rd strS w v l) : Calls Try.prog 71 #[v] w (Ret fun v' w' => Below w.heap.size w w' ∧ v' = .bool (risingB l)) := by
  have hK : Old w w := Old.refl w
  have hsm := h1.small
  refine enter (n := 32) (res := #[.tmp 2]) Try.func71 rfl rfl rfl rfl ?_
  refine cseq <| cregion <| qq (Val.assign rfl) rfl <| cnil <| cseq <| cseq <| cregion <| qq (Val.assign rfl) rfl <| cnil ?_
  refine cblock ?_
  refine WC.loop (σ := Nat) (fun k => [(0, v), (3, I k)]) (fun k w' => Rd strS w' v l ∧ Old w w' ∧ k ≤ l.length ∧ ∀ i, i < k → digAt l i = true) (fun k => l.length - k) 0 (by repeat (first | exact Sub.nil _ | refine Sub.cons rfl ?_ | refine Sub.consM rfl ?_)) ⟨h1, hK, by omega, fun i hi => absurd hi (Nat.not_lt_zero _)⟩ ?_
  rintro k wl ⟨h1, hK, hk, hd⟩
  refine cseq <| cseq <| cregion <| qq (Val.move rfl) rfl <| qq (Val.move rfl) rfl ?_
  first | refine WR.val (Val.rdlen sl23 (by assumption) rfl) rfl ?_ | refine WR.val (Val.sllen Try.underlying23 rfl) rfl ?_
  refine qq (Val.lss rfl rfl) rfl <| cnil ?_
  refine WC.cond rfl (fun hc2 => ?_) (fun hc2 => ?_)
  ·try simp only [tstS] at hc2
   have ka : k < l.length := by omega
   obtain ⟨cs1, hc12, rfl, ok1⟩ := h1.el ka
   obtain ⟨cs2, hc23, rfl, ok2⟩ := h1.el (i := ((k : Int) - 1).toNat) (by omega)
   have hc27 := hc12
   refine cskip <| cseq <| cblock <| cseq ?_
   refine WC.regionD (Below wl.heap.size wl) [0, 0, 0, 1, 0, 0, 0, 0, 0, 0, 0, 0, 0, 0, 1, 0, 0, 0, 1, 0, 0, 0] [0, 1, 2, 3, 4, 5, 6, 7, 8, 9, 10, 11, 12, 13, 14, 15, 16, 17, 18, 19, 20, 21] mixed (by kernel_rfl) ?_
   have hk1 : Below wl.heap.size wl wl.drew := (Below.refl _ _).drew
   have hCw : Below wl.heap.size wl wl.drew := (Below.refl _ _).drew
   generalize wl.drew = w1 at hk1 hCw ⊢
   have hc120 := hc12
   have hc230 := hc23
   have hc270 := hc27
   replace h1 := h1.up hk1; replace hK := hK.up hk1; replace hc12 := hc12.up hk1; replace hc23 := hc23.up hk1; replace hc27 := hc27.up hk1
   refine qd rfl rfl rfl (fun _ => Val.move rfl) rfl <| qd rfl rfl rfl (fun _ => Val.move rfl) rfl <| qd rfl rfl rfl (fun _ => Val.indexAddr sl23 (by assumption) rfl rfl rfl (by first | omega | assumption | (simp; omega) | (simp; done)) (by first | omega | assumption | (simp; omega) | (simp; done))) rfl <| qc rfl rfl rfl hCw (fun W hW => Val.loadE1 scl9 rfl (hc120.up hW)) rfl <| qd rfl rfl rfl (fun _ => Val.slen Try.underlying9 rfl) rfl <| qd rfl rfl rfl (fun _ => Val.neq rfl rfl) rfl <| qd rfl rfl rfl (fun _ => Val.move rfl) rfl ?_
   apply WD.sc false 14 _ (fun w' => w1 = w')
   case hl => rfl
   case hi => rfl
   case hk => rfl
   case hg => rfl
   case hu => rfl
   case hv => rfl
   case hs => rfl
   case hoff => rfl
   case hd => rfl
   case hC => exact hCw
   case hF => exact fun _ => rfl
   case hT =>
    intro hq21
    try simp only [tstS] at hq21
    simp only [List.take_succ_cons, List.take_zero]
    refine qd rfl rfl rfl (fun _ => Val.move rfl) rfl <| qd rfl rfl rfl (fun _ => Val.gtr rfl rfl) rfl <| qd rfl rfl rfl (fun _ => Val.move rfl) rfl ?_
    apply WD.sc true 10 _ (fun w' => w1 = w')
    case hl => rfl
    case hi => rfl
    case hk => rfl
    case hg => rfl
    case hu => rfl
    case hv => rfl
    case hs => rfl
    case hoff => rfl
    case hd => rfl
    case hC => exact hCw
    case hF => exact fun _ => rfl
    case hT =>
     intro hq20
     try simp only [tstS] at hq20
     simp only [List.take_succ_cons, List.take_zero]
     refine qd rfl rfl rfl (fun _ => Val.move rfl) rfl <| qd rfl rfl rfl (fun _ => Val.move rfl) rfl <| qd rfl rfl rfl (fun _ => Val.subI rfl rfl (by first | omega | assumption | (simp; omega) | (simp; done)) (by first | omega | assumption | (simp; omega) | (simp; done))) rfl <| qd rfl rfl rfl (fun _ => Val.indexAddr sl23 (by assumption) rfl rfl rfl (by first | omega | assumption | (simp; omega) | (simp; done)) (by first | omega | assumption | (simp; omega) | (simp; done))) rfl <| qc rfl rfl rfl hCw (fun W hW => Val.loadE1 scl9 rfl (hc230.up hW)) rfl <| qd rfl rfl rfl (fun _ => Val.move rfl) rfl <| qd rfl rfl rfl (fun _ => Val.move rfl) rfl <| qd rfl rfl rfl (fun _ => Val.indexAddr sl23 (by assumption) rfl rfl rfl (by first | omega | assumption | (simp; omega) | (simp; done)) (by first | omega | assumption | (simp; omega) | (simp; done))) rfl <| qc rfl rfl rfl hCw (fun W hW => Val.loadE1 scl9 rfl (hc270.up hW)) rfl ?_
     refine qd rfl rfl rfl (fun _ => Val.sgeq rfl rfl) rfl ?_
     exact WD.nil ⟨rfl, Sub.drop _ 10 _ rfl rfl, rfl⟩
    rintro _ rfl
    exact WD.nil ⟨rfl, Sub.drop _ 4 _ rfl rfl, rfl⟩
   rintro _ rfl
   refine WD.nil ?_
   clear hc120 hc230 hc270
   clear hCw
   refine WC.cond rfl (fun hc4 => ?_) (fun hc4 => ?_)
   ·try simp only [tstS] at hc4
    refine cseq <| cregion <| qq (Val.assign rfl) rfl <| cnil ?_
    refine WC.ret1 rfl rfl ?_
    exact ⟨hK, by rw [risingB_bad ka (digAt_no ka _ hc4)]⟩
   ·try simp only [tstS] at hc4
    refine cskip <| cregion <| qq (Val.move rfl) rfl <| qq (Val.addI rfl rfl (by first | omega | assumption | (simp; omega) | (simp; done)) (by first | omega | assumption | (simp; omega) | (simp; done))) rfl <| qq (Val.assign rfl) rfl <| cnil ?_
    exact ⟨k + 1, (by repeat (first | exact Sub.nil _ | refine Sub.cons rfl ?_ | refine Sub.consM rfl ?_)), ⟨h1, hK, ka, below_succ hd (digAt_yes ka _ hc4)⟩, by omega⟩
  ·try simp only [tstS] at hc2
   refine WC.exit rfl ?_
   refine cseq <| cregion <| qq (Val.assign rfl) rfl <| cnil ?_
   refine WC.ret1 rfl rfl ?_
   exact ⟨hK, by rw [risingB_none hd (by omega)]⟩

theorem rising_ok {w : World} {v : Value} {l : List (List UInt8)} (h1 : Rd strS w v l) : Calls Try.prog 110 #[v] w (Ret fun v' w' => Below w.heap.size w w' ∧ v' = .bool (risingB l)) := by
  have hK : Old w w := Old.refl w
  have hsm := h1.small
  refine enter (n := 29) (res := #[.tmp 2]) Try.func110 rfl rfl rfl rfl ?_
  refine cseq <| cregion <| qq (Val.assign rfl) rfl <| cnil <| cseq <| cseq <| cregion <| qq (Val.move rfl) rfl ?_
  first | refine WR.val (Val.rdlen sl23 (by assumption) rfl) rfl ?_ | refine WR.val (Val.sllen Try.underlying23 rfl) rfl ?_
  refine qq (Val.move rfl) rfl <| cnil <| cblock ?_
  refine WC.loop (σ := Nat) (fun k => [(0, v), (5, v), (6, I l.length), (7, I k)]) (fun k w' => Rd strS w' v l ∧ Old w w' ∧ k ≤ l.length ∧ ∀ i, i < k → digAt l i = true) (fun k => l.length - k) 0 (by repeat (first | exact Sub.nil _ | refine Sub.cons rfl ?_ | refine Sub.consM rfl ?_)) ⟨h1, hK, by omega, fun i hi => absurd hi (Nat.not_lt_zero _)⟩ ?_
  rintro k wl ⟨h1, hK, hk, hd⟩
  refine cseq <| cregion <| qq (Val.lss rfl rfl) rfl <| cnil <| cseq ?_
  refine WC.cond rfl (fun hc2 => ?_) (fun hc2 => ?_)
  ·try simp only [tstS] at hc2
   have ka : k < l.length := by omega
   obtain ⟨cs1, hc10, rfl, ok1⟩ := h1.el ka
   obtain ⟨cs2, hc23, rfl, ok2⟩ := h1.el (i := ((k : Int) - 1).toNat) (by omega)
   refine cskip <| cseq <| cblock <| cseq <| cregion <| qq (Val.move rfl) rfl <| qq (Val.indexAddr sl23 (by assumption) rfl rfl rfl (by first | omega | assumption | (simp; omega) | (simp; done)) (by first | omega | assumption | (simp; omega) | (simp; done))) rfl <| qq (Val.loadE1 scl9 rfl hc10) rfl <| qq (Val.assign rfl) rfl ?_
   refine qq (Val.assign rfl) rfl <| cnil <| cseq <| cregion <| qq (Val.move rfl) rfl <| qq (Val.slen Try.underlying9 rfl) rfl <| qq (Val.neq rfl rfl) rfl <| qq (Val.move rfl) rfl ?_
   apply WR.sc false 11 _ (fun w' => wl = w')
   case hl => rfl
   case hg => rfl
   case hu => rfl
   case hv => rfl
   case hs => rfl
   case hoff => rfl
   case hd => rfl
   case hF => exact fun _ => rfl
   case hT =>
    intro hq15
    try simp only [tstS] at hq15
    simp only [List.take_succ_cons, List.take_zero]
    refine WR.on rfl rfl ?_
    refine qq (Val.move rfl) rfl ?_
    refine WR.on rfl rfl ?_
    refine qq (Val.gtr rfl rfl) rfl ?_
    refine WR.on rfl rfl ?_
    refine qq (Val.move rfl) rfl ?_
    apply WR.sc true 7 _ (fun w' => wl = w')
    case hl => rfl
    case hg => rfl
    case hu => rfl
    case hv => rfl
    case hs => rfl
    case hoff => rfl
    case hd => rfl
    case hF => exact fun _ => rfl
    case hT =>
     intro hq14
     try simp only [tstS] at hq14
     simp only [List.take_succ_cons, List.take_zero]
     refine WR.on rfl rfl ?_
     refine qq (Val.move rfl) rfl ?_
     refine WR.on rfl rfl ?_
     refine qq (Val.move rfl) rfl ?_
     refine WR.on rfl rfl ?_
     refine qq (Val.move rfl) rfl ?_
     refine WR.on rfl rfl ?_
     refine qq (Val.subI rfl rfl (by first | omega | assumption | (simp; omega) | (simp; done)) (by first | omega | assumption | (simp; omega) | (simp; done))) rfl ?_
     refine WR.on rfl rfl ?_
     refine qq (Val.indexAddr sl23 (by assumption) rfl rfl rfl (by first | omega | assumption | (simp; omega) | (simp; done)) (by first | omega | assumption | (simp; omega) | (simp; done))) rfl ?_
     refine WR.on rfl rfl ?_
     refine qq (Val.loadE1 scl9 rfl hc23) rfl ?_
     refine WR.on rfl rfl ?_
     refine qq (Val.sleq rfl rfl) rfl ?_
     exact WR.nil ⟨rfl, Sub.drop _ 7 _ rfl rfl, rfl⟩
    rintro _ rfl
    exact WR.nil ⟨rfl, Sub.drop _ 4 _ rfl rfl, rfl⟩
   rintro _ rfl
   refine cnil ?_
   refine WC.cond rfl (fun hc4 => ?_) (fun hc4 => ?_)
   ·try simp only [tstS] at hc4
    refine cseq <| cregion <| qq (Val.assign rfl) rfl <| cnil ?_
    refine WC.ret1 rfl rfl ?_
    have e : (Op.bytesLess l[k] l[((k : Int) - 1).toNat] = true ∨ (l[k] == l[((k : Int) - 1).toNat]) = true) → Op.bytesLess l[((k : Int) - 1).toNat] l[k] = false := fun h => by rw [less_not l[((k : Int) - 1).toNat] l[k]]; rcases h with h | h <;> rw [h] <;> simp
    exact ⟨hK, by rw [risingB_bad ka (digAt_no ka _ (hc4.imp (fun h => h) (fun h => ⟨h.1, e h.2⟩)))]⟩
   ·try simp only [tstS] at hc4
    refine cskip <| cregion <| qq (Val.addI rfl rfl (by first | omega | assumption | (simp; omega) | (simp; done)) (by first | omega | assumption | (simp; omega) | (simp; done))) rfl <| qq (Val.move rfl) rfl <| cnil ?_
    have e : (Op.bytesLess l[k] l[((k : Int) - 1).toNat] || l[k] == l[((k : Int) - 1).toNat]) = !Op.bytesLess l[((k : Int) - 1).toNat] l[k] := by rw [less_not l[((k : Int) - 1).toNat] l[k], Bool.not_not]
    rw [e] at hc4
    exact ⟨k + 1, (by repeat (first | exact Sub.nil _ | refine Sub.cons rfl ?_ | refine Sub.consM rfl ?_)), ⟨h1, hK, ka, below_succ hd (digAt_yes ka _ hc4)⟩, by omega⟩
  ·try simp only [tstS] at hc2
   refine WC.exit rfl ?_
   refine cseq <| cregion <| qq (Val.assign rfl) rfl <| cnil ?_
   refine WC.ret1 rfl rfl ?_
   exact ⟨hK, by rw [risingB_none hd (by omega)]⟩

def manKind (k : Int) : Bool := decide (0 ≤ k) && decide (k ≤ 255)
theorem mkind_ok {w : World} (k : Int) : Calls Try.prog 78 #[I k] w (Ret fun v w' => Below w.heap.size w w' ∧ v = .bool (manKind k)) := by
  refine enter (n := 9) (res := #[.tmp 2]) Try.func78 rfl rfl rfl rfl ?_
  refine cseq <| cregion <| qq (Val.assign rfl) rfl <| cnil <| cseq <| cregion <| qq (Val.move rfl) rfl <| qq (Val.geq rfl rfl) rfl <| qq (Val.move rfl) rfl ?_
  apply WR.sc true 2 _ (fun w' => w = w')
  case hl => rfl
  case hg => rfl
  case hu => rfl
  case hv => rfl
  case hs => rfl
  case hoff => rfl
  case hd => rfl
  case hF => exact fun _ => rfl
  case hT =>
   intro hq5
   try simp only [tstS] at hq5
   simp only [List.take_succ_cons, List.take_zero]
   refine WR.on rfl rfl ?_
   refine qq (Val.move rfl) rfl ?_
   refine WR.on rfl rfl ?_
   refine qq (Val.leq rfl rfl) rfl ?_
   exact WR.nil ⟨rfl, Sub.drop _ 2 _ rfl rfl, rfl⟩
  rintro _ rfl
  refine qq (Val.assign rfl) rfl <| cnil ?_
  refine WC.ret1 rfl rfl ?_
  exact ⟨Below.refl _ _, rfl⟩
theorem manMay_eq (m : Man) : (((decide (0 ≤ m.kind) && decide (m.kind ≤ 255)) && decide ((m.blobs.length : Int) + (m.subs.length : Int) ≤ 20)) && risingB m.blobs && risingB m.subs) = manMay m := by
  have e : decide ((m.blobs.length : Int) + (m.subs.length : Int) ≤ 20) = decide (m.blobs.length + m.subs.length ≤ 20) := by rw [Bool.eq_iff_iff]; simp; omega
  rw [e]; rfl
theorem mmay_ok {w : World} {cs : List Value} {m : Man} (h : RdMan w cs m) : Calls Try.prog 72 #[.agg cs.toArray] w (Ret fun v w' => Below w.heap.size w w' ∧ v = .bool (manMay m)) := by
  obtain ⟨vb, vs, rfl, hb, hs, hq⟩ := h
  have hK : Old w w := Old.refl w
  have o1 := hb.oneC; have o2 := hs.oneC
  have s1 := hb.small; have s2 := hs.small
  replace hb : Rd strS w vb m.blobs := hb; replace hs : Rd strS w vs m.subs := hs
  refine enter (n := 26) (res := #[.tmp 2]) Try.func72 rfl rfl rfl rfl ?_
  refine cseq <| cregion ?_
  refine WR.eff (Eff.box rfl) rfl ?_
  rintro _ w1 ⟨b1, rfl, hn1⟩
  have hk1 := hn1.below
  replace hb := hb.up hk1; replace hs := hs.up hk1; replace hK := hK.up hk1
  have hb1 := hn1.blk
  refine qq (Val.assign rfl) rfl <| cnil <| cseq <| cregion ?_
  first | refine WR.val (Val.fieldAddr fld29_0 rfl) rfl ?_ | refine WR.val (Val.fieldAddrP fld29_0 rfl) rfl ?_
  refine qq (Val.loadB scl3 rfl hb1 rfl) rfl ?_
  refine WR.eff (Eff.call pf78 rfl (mkind_ok m.kind)) rfl ?_
  rintro v5 w2 ⟨hk2, rfl⟩
  replace hb := hb.up hk2; replace hs := hs.up hk2; replace hK := hK.up hk2; replace hb1 := hb1.up hk2
  refine qq (Val.move rfl) rfl ?_
  apply WR.sc true 8 _ (fun w' => Below w2.heap.size w2 w')
  case hl => rfl
  case hg => rfl
  case hu => rfl
  case hv => rfl
  case hs => rfl
  case hoff => rfl
  case hd => rfl
  case hF => exact fun _ => Below.refl _ _
  case hT =>
   intro hq12
   try simp only [tstS] at hq12
   simp only [List.take_succ_cons, List.take_zero]
   have hKsc12 : Old w2 w2 := Old.refl _
   refine WR.on rfl rfl ?_
   first | refine WR.val (Val.fieldAddr fld29_1 rfl) rfl ?_ | refine WR.val (Val.fieldAddrP fld29_1 rfl) rfl ?_
   refine WR.on rfl rfl ?_
   refine qq (Val.loadB scl23 rfl hb1 rfl) rfl ?_
   refine WR.on rfl rfl ?_
   first | refine WR.val (Val.rdlen sl23 (by assumption) rfl) rfl ?_ | refine WR.val (Val.sllen Try.underlying23 rfl) rfl ?_
   refine WR.on rfl rfl ?_
   first | refine WR.val (Val.fieldAddr fld29_2 rfl) rfl ?_ | refine WR.val (Val.fieldAddrP fld29_2 rfl) rfl ?_
   refine WR.on rfl rfl ?_
   refine qq (Val.loadB scl23 rfl hb1 rfl) rfl ?_
   refine WR.on rfl rfl ?_
   first | refine WR.val (Val.rdlen sl23 (by assumption) rfl) rfl ?_ | refine WR.val (Val.sllen Try.underlying23 rfl) rfl ?_
   refine WR.on rfl rfl ?_
   refine qq (Val.addI rfl rfl (by first | omega | assumption | (simp; omega) | (simp; done)) (by first | omega | assumption | (simp; omega) | (simp; done))) rfl ?_
   refine WR.on rfl rfl ?_
   refine qq (Val.leq rfl rfl) rfl ?_
   exact WR.nil ⟨rfl, Sub.drop _ 8 _ rfl rfl, hKsc12⟩
  intro w3 hk3
  replace hb := hb.up hk3; replace hs := hs.up hk3; replace hK := hK.up hk3; replace hb1 := hb1.up hk3
  refine qq (Val.move rfl) rfl ?_
  apply WR.sc true 3 _ (fun w' => Below w3.heap.size w3 w')
  case hl => rfl
  case hg => rfl
  case hu => rfl
  case hv => rfl
  case hs => rfl
  case hoff => rfl
  case hd => rfl
  case hF => exact fun _ => Below.refl _ _
  case hT =>
   intro hq17
   try simp only [tstS] at hq17
   simp only [List.take_succ_cons, List.take_zero]
   have hKsc17 : Old w3 w3 := Old.refl _
   refine WR.on rfl rfl ?_
   first | refine WR.val (Val.fieldAddr fld29_1 rfl) rfl ?_ | refine WR.val (Val.fieldAddrP fld29_1 rfl) rfl ?_
   refine WR.on rfl rfl ?_
   refine qq (Val.loadB scl23 rfl hb1 rfl) rfl ?_
   refine WR.on rfl rfl ?_
   refine WR.eff (Eff.call pf110 rfl (rising_ok hb)) rfl ?_
   rintro v19 w4 ⟨hk4, rfl⟩
   replace hb := hb.up hk4; replace hs := hs.up hk4; replace hK := hK.up hk4; replace hb1 := hb1.up hk4; replace hKsc17 := hKsc17.up hk4
   exact WR.nil ⟨rfl, Sub.drop _ 3 _ rfl rfl, hKsc17⟩
  intro w5 hk5
  replace hb := hb.up hk5; replace hs := hs.up hk5; replace hK := hK.up hk5; replace hb1 := hb1.up hk5
  refine qq (Val.move rfl) rfl ?_
  apply WR.sc true 3 _ (fun w' => Below w5.heap.size w5 w')
  case hl => rfl
  case hg => rfl
  case hu => rfl
  case hv => rfl
  case hs => rfl
  case hoff => rfl
  case hd => rfl
  case hF => exact fun _ => Below.refl _ _
  case hT =>
   intro hq22
   try simp only [tstS] at hq22
   simp only [List.take_succ_cons, List.take_zero]
   have hKsc22 : Old w5 w5 := Old.refl _
   refine WR.on rfl rfl ?_
   first | refine WR.val (Val.fieldAddr fld29_2 rfl) rfl ?_ | refine WR.val (Val.fieldAddrP fld29_2 rfl) rfl ?_
   refine WR.on rfl rfl ?_
   refine qq (Val.loadB scl23 rfl hb1 rfl) rfl ?_
   refine WR.on rfl rfl ?_
   refine WR.eff (Eff.call pf110 rfl (rising_ok hs)) rfl ?_
   rintro v24 w6 ⟨hk6, rfl⟩
   replace hb := hb.up hk6; replace hs := hs.up hk6; replace hK := hK.up hk6; replace hb1 := hb1.up hk6; replace hKsc22 := hKsc22.up hk6
   exact WR.nil ⟨rfl, Sub.drop _ 3 _ rfl rfl, hKsc22⟩
  intro w7 hk7
  replace hb := hb.up hk7; replace hs := hs.up hk7; replace hK := hK.up hk7; replace hb1 := hb1.up hk7
  refine qq (Val.assign rfl) rfl <| cnil ?_
  refine WC.ret1 rfl rfl ?_
  exact ⟨hK, by rw [← manMay_eq]; rfl⟩

theorem pman_ok {w : World} {cs : List Value} {m : Man} (h : RdMan w cs m) : Calls Try.prog 17 #[.agg cs.toArray] w (Ret fun v w' => Below w.heap.size w w' ∧ v = .bool (manMay m)) := by
  obtain ⟨vb, vs, rfl, hb, hs, hq⟩ := h
  have hK : Old w w := Old.refl w
  have o1 := hb.oneC; have o2 := hs.oneC
  have s1 := hb.small; have s2 := hs.small
  replace hb : Rd strS w vb m.blobs := hb; replace hs : Rd strS w vs m.subs := hs
  refine enter (n := 26) (res := #[.tmp 2]) Try.func17 rfl rfl rfl rfl ?_
  refine cseq <| cregion ?_
  refine WR.eff (Eff.box rfl) rfl ?_
  rintro _ w1 ⟨b1, rfl, hn1⟩
  have hk1 := hn1.below
  replace hb := hb.up hk1; replace hs := hs.up hk1; replace hK := hK.up hk1
  have hb1 := hn1.blk
  refine qq (Val.assign rfl) rfl <| cnil <| cseq <| cregion ?_
  first | refine WR.val (Val.fieldAddr fld29_0 rfl) rfl ?_ | refine WR.val (Val.fieldAddrP fld29_0 rfl) rfl ?_
  refine qq (Val.loadB scl3 rfl hb1 rfl) rfl ?_
  refine WR.eff (Eff.call pf29 rfl (num_ok m.kind 255)) rfl ?_
  rintro v5 w2 ⟨hk2, rfl⟩
  replace hb := hb.up hk2; replace hs := hs.up hk2; replace hK := hK.up hk2; replace hb1 := hb1.up hk2
  refine qq (Val.move rfl) rfl ?_
  apply WR.sc true 8 _ (fun w' => Below w2.heap.size w2 w')
  case hl => rfl
  case hg => rfl
  case hu => rfl
  case hv => rfl
  case hs => rfl
  case hoff => rfl
  case hd => rfl
  case hF => exact fun _ => Below.refl _ _
  case hT =>
   intro hq12
   try simp only [tstS] at hq12
   simp only [List.take_succ_cons, List.take_zero]
   have hKsc12 : Old w2 w2 := Old.refl _
   refine WR.on rfl rfl ?_
   first | refine WR.val (Val.fieldAddr fld29_1 rfl) rfl ?_ | refine WR.val (Val.fieldAddrP fld29_1 rfl) rfl ?_
   refine WR.on rfl rfl ?_
   refine qq (Val.loadB scl23 rfl hb1 rfl) rfl ?_
   refine WR.on rfl rfl ?_
   first | refine WR.val (Val.rdlen sl23 (by assumption) rfl) rfl ?_ | refine WR.val (Val.sllen Try.underlying23 rfl) rfl ?_
   refine WR.on rfl rfl ?_
   first | refine WR.val (Val.fieldAddr fld29_2 rfl) rfl ?_ | refine WR.val (Val.fieldAddrP fld29_2 rfl) rfl ?_
   refine WR.on rfl rfl ?_
   refine qq (Val.loadB scl23 rfl hb1 rfl) rfl ?_
   refine WR.on rfl rfl ?_
   first | refine WR.val (Val.rdlen sl23 (by assumption) rfl) rfl ?_ | refine WR.val (Val.sllen Try.underlying23 rfl) rfl ?_
   refine WR.on rfl rfl ?_
   refine qq (Val.addI rfl rfl (by first | omega | assumption | (simp; omega) | (simp; done)) (by first | omega | assumption | (simp; omega) | (simp; done))) rfl ?_
   refine WR.on rfl rfl ?_
   refine qq (Val.leq rfl rfl) rfl ?_
   exact WR.nil ⟨rfl, Sub.drop _ 8 _ rfl rfl, hKsc12⟩
  intro w3 hk3
  replace hb := hb.up hk3; replace hs := hs.up hk3; replace hK := hK.up hk3; replace hb1 := hb1.up hk3
  refine qq (Val.move rfl) rfl ?_
  apply WR.sc true 3 _ (fun w' => Below w3.heap.size w3 w')
  case hl => rfl
  case hg => rfl
  case hu => rfl
  case hv => rfl
  case hs => rfl
  case hoff => rfl
  case hd => rfl
  case hF => exact fun _ => Below.refl _ _
  case hT =>
   intro hq17
   try simp only [tstS] at hq17
   simp only [List.take_succ_cons, List.take_zero]
   have hKsc17 : Old w3 w3 := Old.refl _
   refine WR.on rfl rfl ?_
   first | refine WR.val (Val.fieldAddr fld29_1 rfl) rfl ?_ | refine WR.val (Val.fieldAddrP fld29_1 rfl) rfl ?_
   refine WR.on rfl rfl ?_
   refine qq (Val.loadB scl23 rfl hb1 rfl) rfl ?_
   refine WR.on rfl rfl ?_
   refine WR.eff (Eff.call pf71 rfl (digests_ok hb)) rfl ?_
   rintro v19 w4 ⟨hk4, rfl⟩
   replace hb := hb.up hk4; replace hs := hs.up hk4; replace hK := hK.up hk4; replace hb1 := hb1.up hk4; replace hKsc17 := hKsc17.up hk4
   exact WR.nil ⟨rfl, Sub.drop _ 3 _ rfl rfl, hKsc17⟩
  intro w5 hk5
  replace hb := hb.up hk5; replace hs := hs.up hk5; replace hK := hK.up hk5; replace hb1 := hb1.up hk5
  refine qq (Val.move rfl) rfl ?_
  apply WR.sc true 3 _ (fun w' => Below w5.heap.size w5 w')
  case hl => rfl
  case hg => rfl
  case hu => rfl
  case hv => rfl
  case hs => rfl
  case hoff => rfl
  case hd => rfl
  case hF => exact fun _ => Below.refl _ _
  case hT =>
   intro hq22
   try simp only [tstS] at hq22
   simp only [List.take_succ_cons, List.take_zero]
   have hKsc22 : Old w5 w5 := Old.refl _
   refine WR.on rfl rfl ?_
   first | refine WR.val (Val.fieldAddr fld29_2 rfl) rfl ?_ | refine WR.val (Val.fieldAddrP fld29_2 rfl) rfl ?_
   refine WR.on rfl rfl ?_
   refine qq (Val.loadB scl23 rfl hb1 rfl) rfl ?_
   refine WR.on rfl rfl ?_
   refine WR.eff (Eff.call pf71 rfl (digests_ok hs)) rfl ?_
   rintro v24 w6 ⟨hk6, rfl⟩
   replace hb := hb.up hk6; replace hs := hs.up hk6; replace hK := hK.up hk6; replace hb1 := hb1.up hk6; replace hKsc22 := hKsc22.up hk6
   exact WR.nil ⟨rfl, Sub.drop _ 3 _ rfl rfl, hKsc22⟩
  intro w7 hk7
  replace hb := hb.up hk7; replace hs := hs.up hk7; replace hK := hK.up hk7; replace hb1 := hb1.up hk7
  refine qq (Val.assign rfl) rfl <| cnil ?_
  refine WC.ret1 rfl rfl ?_
  exact ⟨hK, by rw [← manMay_eq]; rfl⟩

theorem mcheck_ok {w : World} {cs : List Value} {m : Man} (h : RdMan w cs m) : Calls Try.prog 23 #[.agg cs.toArray] w (Ret fun v w' => Below w.heap.size w w' ∧ v = I (if manMay m then 0 else 1)) := by
  obtain ⟨vb, vs, rfl, hb, hs, hq⟩ := h
  have hK : Old w w := Old.refl w
  have o1 := hb.oneC; have o2 := hs.oneC
  replace hb : Rd strS w vb m.blobs := hb; replace hs : Rd strS w vs m.subs := hs
  refine enter (n := 6) (res := #[.tmp 2]) Try.func23 rfl rfl rfl rfl ?_
  refine cseq <| cregion ?_
  refine WR.eff (Eff.box rfl) rfl ?_
  rintro _ w1 ⟨b1, rfl, hn1⟩
  have hk1 := hn1.below
  replace hb := hb.up hk1; replace hs := hs.up hk1; replace hK := hK.up hk1
  have hb1 := hn1.blk
  refine qq (Val.assign rfl) rfl <| cnil <| cseq <| cseq <| cregion <| qq (Val.loadBN agg29 rfl hb1 rfl) rfl ?_
  refine WR.eff (Eff.call pf72 rfl (mmay_ok (m := m) ⟨vb, vs, rfl, hb, hs, hq⟩)) rfl ?_
  rintro v4 w2 ⟨hk2, rfl⟩
  replace hb := hb.up hk2; replace hs := hs.up hk2; replace hK := hK.up hk2; replace hb1 := hb1.up hk2
  refine qq (Val.not rfl) rfl <| cnil ?_
  refine WC.cond rfl (fun hc1 => ?_) (fun hc1 => ?_)
  ·try simp only [tstS] at hc1
   refine cseq <| cregion <| qq (Val.assign rfl) rfl <| cnil ?_
   refine WC.ret1 rfl rfl ?_
   exact ⟨hK, by rw [hc1]; rfl⟩
  ·try simp only [tstS] at hc1
   refine cskip <| cseq <| cregion <| qq (Val.assign rfl) rfl <| cnil ?_
   refine WC.ret1 rfl rfl ?_
   exact ⟨hK, by rw [hc1]; rfl⟩
end Go.Proofs.Ytnddlhjafkhdoaa

namespace Go.Eng
open Go Go.RowKit
/-- All but one block is as it was. -/
def oneC (b : Nat) : Nat → Nat := fun k => if k = b then 2 else 0
theorem oneC_at (b : Nat) : oneC b b = 2 := by simp [oneC]
theorem Acc.grownOne {w w' : World} {b : Nat} {c' : Nat → Nat} {K : List Nat} (h : Acc (oneC b) w K c' w') (hK : hasC K 0 = false := by rfl) : w.grownBy w' (some b) :=
  ⟨h.mvs.os, h.mvs.tape, h.mvs.output, h.mvs.size, fun k hk hne => h.mvs.block k hk (by
    have : k ≠ b := fun e => hne (by rw [e])
    simp only [oneC, if_neg this]; exact hK)⟩
/-- A call that turned one block: its step. -/
theorem BlkC.turned {w w' : World} {c : Nat → Nat} {i b : Nat} {cs cs' : List Value} {t : TypeId} (h : BlkC c w i b cs t) (hg : w.grownBy w' (some b)) (hb : Blk w' b cs' t) : ∃ c', Mv c w c' w' [i] ∧ BlkC c' w' i b cs' t := by
  obtain ⟨c', hm, hx⟩ := Mv.grown (i := i) c i hg (fun k hk => by injection hk with hk; rw [← hk]; exact h.col)
  exact ⟨c', hm, hb, (hm.col b h.blk.lt).trans h.col⟩

theorem Eff.turnC {P : Program} {env : Env} {w : World} {op : Op} {ty : TypeId} {c : Nat → Nat} {i b : Nat} {cs cs' : List Value} {t : TypeId} (hb : BlkC c w i b cs t) (h : Eff P env w op ty (fun _ w' => w.grownBy w' (some b) ∧ Blk w' b cs' t)) :
    Eff P env w op ty (fun _ w' => ∃ c', Mv c w c' w' [i] ∧ BlkC c' w' i b cs' t) := h.mono fun _ _ ⟨hg, hB⟩ => hb.turned hg hB
theorem BlkC.words {c : Nat → Nat} {w : World} {i b : Nat} {l : List Int} {t : TypeId} (h : BlkC c w i b (l.map Silo.W32) t) : BlkC c w i b (l.map Silo.W32 ++ []) t := by rw [List.append_nil]; exact h
theorem Val.andU64 {P : Program} {env : Env} {w : World} {ty t ty2 : TypeId} {x y : Operand} {m n r : Int} (hx : evO env x = some (.int .u64 m)) (hy : evO env y = some (.int .u64 n)) (hr : IntKind.u64.wrap ((BitVec.ofInt 64 m &&& BitVec.ofInt 64 n).toNat : Int) = r) : Val P env w (.binOp .and t x y ty2) ty (.int .u64 r) := by
  have := Val.bitop (P := P) (w := w) (ty := ty) (t := t) (ty2 := ty2) (op := .and) hx hy (.inr (.inl ⟨rfl, rfl⟩))
  rw [← hr]; exact this
end Go.Eng
namespace Go.Proofs.Ytnddlhjafkhdoaa
open Go Go.Eng Go.RowKit Silo TryT

abbrev dV : TypeId := 156
theorem rot_ok {w : World} (x : Int) (n : Nat) (hn : n = 16 ∨ n = 12 ∨ n = 8 ∨ n = 7) : Calls Try.prog 174 #[W32 x, I (-(n : Int))] w (Ret fun v w' => Below w.heap.size w w' ∧ v = W32 (rotr x n)) := by
  have e1 : IntKind.u64.wrap ((BitVec.ofInt 64 (IntKind.u64.wrap (-(n : Int))) &&& BitVec.ofInt 64 31).toNat : Int) = ((32 - n : Nat) : Int) := by rcases hn with rfl | rfl | rfl | rfl <;> decide
  have e2 : IntKind.u64.wrap (32 - ((32 - n : Nat) : Int)) = (n : Int) := by rcases hn with rfl | rfl | rfl | rfl <;> decide
  have h1 : n ≤ 16 := by omega
  refine enter (n := 17) (res := #[.tmp 4]) Try.func174 rfl rfl rfl rfl ?_
  refine cseq <| cregion <| qq (Val.assign rfl) rfl <| cnil <| cseq <| cregion <| qq (Val.move rfl) rfl <| qq (Val.convInt Try.underlying3 Try.underlying109 rfl) rfl <| qq (Val.andU64 rfl rfl e1) rfl ?_
  refine qq (Val.assign rfl) rfl <| cnil <| cseq <| cregion <| qq (Val.move rfl) rfl <| qq (Val.move rfl) rfl <| qq (Val.shl_u32 rfl rfl (by first | omega | assumption | (simp; omega) | (simp; done)) (by first | omega | assumption | (simp; omega) | (simp; done))) rfl <| qq (Val.move rfl) rfl <| qq (Val.move rfl) rfl ?_
  refine qq (Val.sub rfl rfl) rfl ?_
  rw [e2]
  refine qq (Val.shr rfl rfl (by first | omega | assumption | (simp; omega) | (simp; done)) (by simp [IntKind.bits] <;> omega)) rfl <| qq (Val.or_u32 rfl rfl) rfl <| qq (Val.assign rfl) rfl <| cnil ?_
  refine WC.ret1 rfl rfl ?_
  refine ⟨Below.refl _ _, ?_⟩
  simp only [rotr, Int.toNat_natCast]
  rw [o32_comm]

theorem rturned_ok {w : World} (x : Int) (n : Nat) (hn : n = 16 ∨ n = 12 ∨ n = 8 ∨ n = 7) : Calls Try.prog 154 #[W32 x, I (n : Int)] w (Ret fun v w' => Below w.heap.size w w' ∧ v = W32 (rotr x n)) := by
  have h1 : n ≤ 16 := by omega
  have e1 : (32 - (n : Int)).toNat = 32 - n := by omega
  have hK : Old w w := Old.refl w
  refine enter (n := 13) (res := #[.tmp 4]) Try.func154 rfl rfl rfl rfl ?_
  refine cseq <| cregion <| qq (Val.assign rfl) rfl <| cnil <| cseq ?_
  refine WC.regionD (Below w.heap.size w) [0, 0, 0, 0, 0, 0, 0, 0, 0] [0, 1, 2, 3, 4, 5, 6, 7, 8] mixed (by kernel_rfl) ?_
  have hk1 : Below w.heap.size w w.drew := (Below.refl _ _).drew
  have hCw : Below w.heap.size w w.drew := (Below.refl _ _).drew
  generalize w.drew = w1 at hk1 hCw ⊢
  replace hK := hK.up hk1
  refine qd rfl rfl rfl (fun _ => Val.move rfl) rfl <| qd rfl rfl rfl (fun _ => Val.move rfl) rfl <| qd rfl rfl rfl (fun _ => Val.shr rfl rfl (by first | omega | assumption | (simp; omega) | (simp; done)) (by simp [IntKind.bits] <;> omega)) rfl <| qd rfl rfl rfl (fun _ => Val.move rfl) rfl <| qd rfl rfl rfl (fun _ => Val.move rfl) rfl <| qd rfl rfl rfl (fun _ => Val.subI rfl rfl (by first | omega | assumption | (simp; omega) | (simp; done)) (by first | omega | assumption | (simp; omega) | (simp; done))) rfl <| qd rfl rfl rfl (fun _ => Val.shl_u32 rfl rfl (by first | omega | assumption | (simp; omega) | (simp; done)) (by first | omega | assumption | (simp; omega) | (simp; done))) rfl <| qd rfl rfl rfl (fun _ => Val.or_u32 rfl rfl) rfl <| qd rfl rfl rfl (fun _ => Val.assign rfl) rfl ?_
  refine WD.nil ?_
  clear hCw
  refine WC.ret1 rfl rfl ?_
  refine ⟨hK, ?_⟩
  simp only [rotr, Int.toNat_natCast, e1]

theorem mix_ok {w : World} {b : Nat} {l : List Int} (hb : Blk w b (l.map W32 ++ []) dV) (hl : l.length = 16) (i j k m : Nat) (hi : i < 16) (hj : j < 16) (hk : k < 16) (hm : m < 16) (x y : Int) :
    Calls Try.prog 152 #[.pointer (some ⟨b, 0, none⟩), .agg #[I (i : Int), I (j : Int), I (k : Int), I (m : Int)], W32 x, W32 y] w (Ret fun v w' => w.grownBy w' (some b) ∧ Blk w' b ((mixS l i j k m x y).map W32 ++ []) dV) := by
  obtain ⟨c, hc⟩ : ∃ c : Nat → Nat, c = oneC b := ⟨_, rfl⟩
  have hbv : BlkC c w 2 b (l.map W32 ++ []) dV := ⟨hb, by rw [hc, oneC_at]⟩
  have hA : Acc c w [2] c w := Acc.refl _ _ _
  clear hb
  refine enter (n := 140) (res := #[]) Try.func152 rfl rfl rfl rfl ?_
  refine cseq <| cregion ?_
  refine WR.eff (Eff.boxC c 105 rfl) rfl ?_
  rintro _ w1 ⟨b5, c1, rfl, hM1, hb5⟩
  replace hbv := hbv.mv hM1 rfl; replace hA := hA.mv hM1 rfl
  refine cnil <| cseq ?_
  refine WC.regionD (Kp c1 w1 []) [0, 1, 0, 1, 0, 1, 0, 1, 0, 0, 0, 0] [0, 1, 2, 3, 4, 5, 6, 7, 8, 9, 10, 11] mixed (by kernel_rfl) ?_
  have hM2 := Mv.drew c1 w1 []
  have hCw := Mv.drew c1 w1 []
  generalize w1.drew = w2 at hM2 hCw ⊢
  have hbv0 := hbv
  have hb50 := hb5
  replace hbv := hbv.mv hM2 rfl; replace hA := hA.mv hM2 rfl; replace hb5 := hb5.mv hM2 rfl
  refine qd rfl rfl rfl (fun _ => Val.indexArr arr176 rfl rfl (by first | omega | assumption | (simp; omega) | (simp; done)) (by first | omega | assumption | (simp; omega) | (simp; done))) rfl <| qc rfl rfl rfl hCw.kp (fun W hW => Val.loadB scl3 rfl (hb50.kp hW rfl).blk rfl) rfl <| qd rfl rfl rfl (fun _ => Val.indexArr arr176 rfl rfl (by first | omega | assumption | (simp; omega) | (simp; done)) (by first | omega | assumption | (simp; omega) | (simp; done))) rfl <| qc rfl rfl rfl hCw.kp (fun W hW => Val.loadB scl3 rfl (hb50.kp hW rfl).blk rfl) rfl <| qd rfl rfl rfl (fun _ => Val.indexArr arr176 rfl rfl (by first | omega | assumption | (simp; omega) | (simp; done)) (by first | omega | assumption | (simp; omega) | (simp; done))) rfl <| qc rfl rfl rfl hCw.kp (fun W hW => Val.loadB scl3 rfl (hb50.kp hW rfl).blk rfl) rfl <| qd rfl rfl rfl (fun _ => Val.indexArr arr176 rfl rfl (by first | omega | assumption | (simp; omega) | (simp; done)) (by first | omega | assumption | (simp; omega) | (simp; done))) rfl <| qc rfl rfl rfl hCw.kp (fun W hW => Val.loadB scl3 rfl (hb50.kp hW rfl).blk rfl) rfl <| qd rfl rfl rfl (fun _ => Val.assign rfl) rfl ?_
  refine qd rfl rfl rfl (fun _ => Val.assign rfl) rfl <| qd rfl rfl rfl (fun _ => Val.assign rfl) rfl <| qd rfl rfl rfl (fun _ => Val.assign rfl) rfl ?_
  refine WD.nil ?_
  clear hbv0 hb50
  clear hCw
  refine cseq ?_
  refine WC.regionD (Kp c1 w2 []) [0, 0, 0, 0, 1, 0, 0, 0, 0, 1, 0, 0, 0, 0, 0, 3] [0, 1, 2, 3, 4, 5, 6, 7, 8, 9, 10, 11, 12, 13, 14, 15] mixed (by kernel_rfl) ?_
  have hM3 := Mv.drew c1 w2 []
  have hCw := Mv.drew c1 w2 []
  generalize w2.drew = w3 at hM3 hCw ⊢
  have hbv0 := hbv
  have hb50 := hb5
  replace hbv := hbv.mv hM3 rfl; replace hA := hA.mv hM3 rfl; replace hb5 := hb5.mv hM3 rfl
  refine qd rfl rfl rfl (fun _ => Val.move rfl) rfl <| qd rfl rfl rfl (fun _ => Val.move rfl) rfl <| qd rfl rfl rfl (fun _ => Val.nilCheck rfl) rfl <| qd rfl rfl rfl (fun _ => Val.indexArr arr156 rfl rfl (by first | omega | assumption | (simp; omega) | (simp; done)) (by first | omega | assumption | (simp; omega) | (simp; done))) rfl <| qc rfl rfl rfl hCw.kp (fun W hW => Val.loadW scl136 rfl (hbv0.kp hW rfl).blk (by first | omega | assumption | (simp; omega) | (simp; done))) rfl <| qd rfl rfl rfl (fun _ => Val.move rfl) rfl <| qd rfl rfl rfl (fun _ => Val.move rfl) rfl <| qd rfl rfl rfl (fun _ => Val.nilCheck rfl) rfl <| qd rfl rfl rfl (fun _ => Val.indexArr arr156 rfl rfl (by first | omega | assumption | (simp; omega) | (simp; done)) (by first | omega | assumption | (simp; omega) | (simp; done))) rfl ?_
  refine qc rfl rfl rfl hCw.kp (fun W hW => Val.loadW scl136 rfl (hbv0.kp hW rfl).blk (by first | omega | assumption | (simp; omega) | (simp; done))) rfl <| qd rfl rfl rfl (fun _ => Val.move rfl) rfl <| qd rfl rfl rfl (fun _ => Val.add_u32 rfl rfl) rfl <| qd rfl rfl rfl (fun _ => Val.add_u32 rfl rfl) rfl <| qd rfl rfl rfl (fun _ => Val.nilCheck rfl) rfl <| qd rfl rfl rfl (fun _ => Val.indexArr arr156 rfl rfl (by first | omega | assumption | (simp; omega) | (simp; done)) (by first | omega | assumption | (simp; omega) | (simp; done))) rfl ?_
  refine WD.wild rfl rfl rfl (Eff.storeW scl136 rfl rfl hbv (by first | omega | assumption | (simp; omega) | (simp; done))) ?_
  rintro _ w4 ⟨hS, hM4⟩
  replace hA := hA.mv hM4 rfl; replace hb5 := hb5.mv hM4 rfl
  replace hbv := hS
  refine WD.nil ?_
  clear hbv0 hb50
  clear hCw
  refine cseq ?_
  refine WC.regionD (Kp c1 w4 []) [0, 0, 0, 0, 0, 0, 1, 0, 0, 0, 0, 1, 0, 2, 0, 0, 3] [0, 1, 2, 3, 4, 5, 6, 7, 8, 9, 10, 11, 12, 14, 13, 15, 16] mixed (by kernel_rfl) ?_
  have hM5 := Mv.drew c1 w4 []
  have hCw := Mv.drew c1 w4 []
  generalize w4.drew = w5 at hM5 hCw ⊢
  have hbv0 := hbv
  have hb50 := hb5
  replace hbv := hbv.mv hM5 rfl; replace hA := hA.mv hM5 rfl; replace hb5 := hb5.mv hM5 rfl
  refine qd rfl rfl rfl (fun _ => Val.move rfl) rfl <| qd rfl rfl rfl (fun _ => Val.move rfl) rfl <| qd rfl rfl rfl (fun _ => Val.move rfl) rfl <| qd rfl rfl rfl (fun _ => Val.move rfl) rfl <| qd rfl rfl rfl (fun _ => Val.nilCheck rfl) rfl <| qd rfl rfl rfl (fun _ => Val.indexArr arr156 rfl rfl (by first | omega | assumption | (simp; omega) | (simp; done)) (by first | omega | assumption | (simp; omega) | (simp; done))) rfl <| qc rfl rfl rfl hCw.kp (fun W hW => Val.loadW scl136 rfl (hbv0.kp hW rfl).blk (by first | omega | assumption | (simp; omega) | (simp; done))) rfl <| qd rfl rfl rfl (fun _ => Val.move rfl) rfl <| qd rfl rfl rfl (fun _ => Val.move rfl) rfl ?_
  refine qd rfl rfl rfl (fun _ => Val.nilCheck rfl) rfl <| qd rfl rfl rfl (fun _ => Val.indexArr arr156 rfl rfl (by first | omega | assumption | (simp; omega) | (simp; done)) (by first | omega | assumption | (simp; omega) | (simp; done))) rfl <| qc rfl rfl rfl hCw.kp (fun W hW => Val.loadW scl136 rfl (hbv0.kp hW rfl).blk (by first | omega | assumption | (simp; omega) | (simp; done))) rfl <| qd rfl rfl rfl (fun _ => Val.xor_u32 rfl rfl) rfl <| qd rfl rfl rfl (fun _ => Val.nilCheck rfl) rfl ?_
  refine WD.eff rfl rfl rfl (Eff.pureC c1 1 (Eff.call pf174 rfl (rot_ok _ 16 (by simp)))) rfl ?_
  rintro v48 w6 ⟨c6, hM6, hx6, rfl⟩
  refine ⟨fun hC => hC.step hCw hM6 rfl, ?_⟩
  replace hCw := hCw.tr hM6 rfl
  replace hbv := hbv.mv hM6 rfl; replace hA := hA.mv hM6 rfl; replace hb5 := hb5.mv hM6 rfl
  refine qd rfl rfl rfl (fun _ => Val.indexArr arr156 rfl rfl (by first | omega | assumption | (simp; omega) | (simp; done)) (by first | omega | assumption | (simp; omega) | (simp; done))) rfl ?_
  refine WD.wild rfl rfl rfl (Eff.storeW scl136 rfl rfl hbv (by first | omega | assumption | (simp; omega) | (simp; done))) ?_
  rintro _ w7 ⟨hS, hM7⟩
  replace hA := hA.mv hM7 rfl; replace hb5 := hb5.mv hM7 rfl
  replace hbv := hS
  refine WD.nil ?_
  clear hbv0 hb50
  clear hCw
  refine cseq ?_
  refine WC.regionD (Kp c6 w7 []) [0, 0, 0, 0, 1, 0, 0, 0, 0, 1, 0, 0, 0, 3] [0, 1, 2, 3, 4, 5, 6, 7, 8, 9, 10, 11, 12, 13] mixed (by kernel_rfl) ?_
  have hM8 := Mv.drew c6 w7 []
  have hCw := Mv.drew c6 w7 []
  generalize w7.drew = w8 at hM8 hCw ⊢
  have hbv0 := hbv
  have hb50 := hb5
  replace hbv := hbv.mv hM8 rfl; replace hA := hA.mv hM8 rfl; replace hb5 := hb5.mv hM8 rfl
  refine qd rfl rfl rfl (fun _ => Val.move rfl) rfl <| qd rfl rfl rfl (fun _ => Val.move rfl) rfl <| qd rfl rfl rfl (fun _ => Val.nilCheck rfl) rfl <| qd rfl rfl rfl (fun _ => Val.indexArr arr156 rfl rfl (by first | omega | assumption | (simp; omega) | (simp; done)) (by first | omega | assumption | (simp; omega) | (simp; done))) rfl <| qc rfl rfl rfl hCw.kp (fun W hW => Val.loadW scl136 rfl (hbv0.kp hW rfl).blk (by first | omega | assumption | (simp; omega) | (simp; done))) rfl <| qd rfl rfl rfl (fun _ => Val.move rfl) rfl <| qd rfl rfl rfl (fun _ => Val.move rfl) rfl <| qd rfl rfl rfl (fun _ => Val.nilCheck rfl) rfl <| qd rfl rfl rfl (fun _ => Val.indexArr arr156 rfl rfl (by first | omega | assumption | (simp; omega) | (simp; done)) (by first | omega | assumption | (simp; omega) | (simp; done))) rfl ?_
  refine qc rfl rfl rfl hCw.kp (fun W hW => Val.loadW scl136 rfl (hbv0.kp hW rfl).blk (by first | omega | assumption | (simp; omega) | (simp; done))) rfl <| qd rfl rfl rfl (fun _ => Val.add_u32 rfl rfl) rfl <| qd rfl rfl rfl (fun _ => Val.nilCheck rfl) rfl <| qd rfl rfl rfl (fun _ => Val.indexArr arr156 rfl rfl (by first | omega | assumption | (simp; omega) | (simp; done)) (by first | omega | assumption | (simp; omega) | (simp; done))) rfl ?_
  refine WD.wild rfl rfl rfl (Eff.storeW scl136 rfl rfl hbv (by first | omega | assumption | (simp; omega) | (simp; done))) ?_
  rintro _ w9 ⟨hS, hM9⟩
  replace hA := hA.mv hM9 rfl; replace hb5 := hb5.mv hM9 rfl
  replace hbv := hS
  refine WD.nil ?_
  clear hbv0 hb50
  clear hCw
  refine cseq ?_
  refine WC.regionD (Kp c6 w9 []) [0, 0, 0, 0, 0, 0, 1, 0, 0, 0, 0, 1, 0, 2, 0, 0, 3] [0, 1, 2, 3, 4, 5, 6, 7, 8, 9, 10, 11, 12, 14, 13, 15, 16] mixed (by kernel_rfl) ?_
  have hM10 := Mv.drew c6 w9 []
  have hCw := Mv.drew c6 w9 []
  generalize w9.drew = w10 at hM10 hCw ⊢
  have hbv0 := hbv
  have hb50 := hb5
  replace hbv := hbv.mv hM10 rfl; replace hA := hA.mv hM10 rfl; replace hb5 := hb5.mv hM10 rfl
  refine qd rfl rfl rfl (fun _ => Val.move rfl) rfl <| qd rfl rfl rfl (fun _ => Val.move rfl) rfl <| qd rfl rfl rfl (fun _ => Val.move rfl) rfl <| qd rfl rfl rfl (fun _ => Val.move rfl) rfl <| qd rfl rfl rfl (fun _ => Val.nilCheck rfl) rfl <| qd rfl rfl rfl (fun _ => Val.indexArr arr156 rfl rfl (by first | omega | assumption | (simp; omega) | (simp; done)) (by first | omega | assumption | (simp; omega) | (simp; done))) rfl <| qc rfl rfl rfl hCw.kp (fun W hW => Val.loadW scl136 rfl (hbv0.kp hW rfl).blk (by first | omega | assumption | (simp; omega) | (simp; done))) rfl <| qd rfl rfl rfl (fun _ => Val.move rfl) rfl <| qd rfl rfl rfl (fun _ => Val.move rfl) rfl ?_
  refine qd rfl rfl rfl (fun _ => Val.nilCheck rfl) rfl <| qd rfl rfl rfl (fun _ => Val.indexArr arr156 rfl rfl (by first | omega | assumption | (simp; omega) | (simp; done)) (by first | omega | assumption | (simp; omega) | (simp; done))) rfl <| qc rfl rfl rfl hCw.kp (fun W hW => Val.loadW scl136 rfl (hbv0.kp hW rfl).blk (by first | omega | assumption | (simp; omega) | (simp; done))) rfl <| qd rfl rfl rfl (fun _ => Val.xor_u32 rfl rfl) rfl <| qd rfl rfl rfl (fun _ => Val.nilCheck rfl) rfl ?_
  refine WD.eff rfl rfl rfl (Eff.pureC c6 1 (Eff.call pf174 rfl (rot_ok _ 12 (by simp)))) rfl ?_
  rintro v77 w11 ⟨c11, hM11, hx11, rfl⟩
  refine ⟨fun hC => hC.step hCw hM11 rfl, ?_⟩
  replace hCw := hCw.tr hM11 rfl
  replace hbv := hbv.mv hM11 rfl; replace hA := hA.mv hM11 rfl; replace hb5 := hb5.mv hM11 rfl
  refine qd rfl rfl rfl (fun _ => Val.indexArr arr156 rfl rfl (by first | omega | assumption | (simp; omega) | (simp; done)) (by first | omega | assumption | (simp; omega) | (simp; done))) rfl ?_
  refine WD.wild rfl rfl rfl (Eff.storeW scl136 rfl rfl hbv (by first | omega | assumption | (simp; omega) | (simp; done))) ?_
  rintro _ w12 ⟨hS, hM12⟩
  replace hA := hA.mv hM12 rfl; replace hb5 := hb5.mv hM12 rfl
  replace hbv := hS
  refine WD.nil ?_
  clear hbv0 hb50
  clear hCw
  refine cseq ?_
  refine WC.regionD (Kp c11 w12 []) [0, 0, 0, 0, 1, 0, 0, 0, 0, 1, 0, 0, 0, 0, 0, 3] [0, 1, 2, 3, 4, 5, 6, 7, 8, 9, 10, 11, 12, 13, 14, 15] mixed (by kernel_rfl) ?_
  have hM13 := Mv.drew c11 w12 []
  have hCw := Mv.drew c11 w12 []
  generalize w12.drew = w13 at hM13 hCw ⊢
  have hbv0 := hbv
  have hb50 := hb5
  replace hbv := hbv.mv hM13 rfl; replace hA := hA.mv hM13 rfl; replace hb5 := hb5.mv hM13 rfl
  refine qd rfl rfl rfl (fun _ => Val.move rfl) rfl <| qd rfl rfl rfl (fun _ => Val.move rfl) rfl <| qd rfl rfl rfl (fun _ => Val.nilCheck rfl) rfl <| qd rfl rfl rfl (fun _ => Val.indexArr arr156 rfl rfl (by first | omega | assumption | (simp; omega) | (simp; done)) (by first | omega | assumption | (simp; omega) | (simp; done))) rfl <| qc rfl rfl rfl hCw.kp (fun W hW => Val.loadW scl136 rfl (hbv0.kp hW rfl).blk (by first | omega | assumption | (simp; omega) | (simp; done))) rfl <| qd rfl rfl rfl (fun _ => Val.move rfl) rfl <| qd rfl rfl rfl (fun _ => Val.move rfl) rfl <| qd rfl rfl rfl (fun _ => Val.nilCheck rfl) rfl <| qd rfl rfl rfl (fun _ => Val.indexArr arr156 rfl rfl (by first | omega | assumption | (simp; omega) | (simp; done)) (by first | omega | assumption | (simp; omega) | (simp; done))) rfl ?_
  refine qc rfl rfl rfl hCw.kp (fun W hW => Val.loadW scl136 rfl (hbv0.kp hW rfl).blk (by first | omega | assumption | (simp; omega) | (simp; done))) rfl <| qd rfl rfl rfl (fun _ => Val.move rfl) rfl <| qd rfl rfl rfl (fun _ => Val.add_u32 rfl rfl) rfl <| qd rfl rfl rfl (fun _ => Val.add_u32 rfl rfl) rfl <| qd rfl rfl rfl (fun _ => Val.nilCheck rfl) rfl <| qd rfl rfl rfl (fun _ => Val.indexArr arr156 rfl rfl (by first | omega | assumption | (simp; omega) | (simp; done)) (by first | omega | assumption | (simp; omega) | (simp; done))) rfl ?_
  refine WD.wild rfl rfl rfl (Eff.storeW scl136 rfl rfl hbv (by first | omega | assumption | (simp; omega) | (simp; done))) ?_
  rintro _ w14 ⟨hS, hM14⟩
  replace hA := hA.mv hM14 rfl; replace hb5 := hb5.mv hM14 rfl
  replace hbv := hS
  refine WD.nil ?_
  clear hbv0 hb50
  clear hCw
  refine cseq ?_
  refine WC.regionD (Kp c11 w14 []) [0, 0, 0, 0, 0, 0, 1, 0, 0, 0, 0, 1, 0, 2, 0, 0, 3] [0, 1, 2, 3, 4, 5, 6, 7, 8, 9, 10, 11, 12, 14, 13, 15, 16] mixed (by kernel_rfl) ?_
  have hM15 := Mv.drew c11 w14 []
  have hCw := Mv.drew c11 w14 []
  generalize w14.drew = w15 at hM15 hCw ⊢
  have hbv0 := hbv
  have hb50 := hb5
  replace hbv := hbv.mv hM15 rfl; replace hA := hA.mv hM15 rfl; replace hb5 := hb5.mv hM15 rfl
  refine qd rfl rfl rfl (fun _ => Val.move rfl) rfl <| qd rfl rfl rfl (fun _ => Val.move rfl) rfl <| qd rfl rfl rfl (fun _ => Val.move rfl) rfl <| qd rfl rfl rfl (fun _ => Val.move rfl) rfl <| qd rfl rfl rfl (fun _ => Val.nilCheck rfl) rfl <| qd rfl rfl rfl (fun _ => Val.indexArr arr156 rfl rfl (by first | omega | assumption | (simp; omega) | (simp; done)) (by first | omega | assumption | (simp; omega) | (simp; done))) rfl <| qc rfl rfl rfl hCw.kp (fun W hW => Val.loadW scl136 rfl (hbv0.kp hW rfl).blk (by first | omega | assumption | (simp; omega) | (simp; done))) rfl <| qd rfl rfl rfl (fun _ => Val.move rfl) rfl <| qd rfl rfl rfl (fun _ => Val.move rfl) rfl ?_
  refine qd rfl rfl rfl (fun _ => Val.nilCheck rfl) rfl <| qd rfl rfl rfl (fun _ => Val.indexArr arr156 rfl rfl (by first | omega | assumption | (simp; omega) | (simp; done)) (by first | omega | assumption | (simp; omega) | (simp; done))) rfl <| qc rfl rfl rfl hCw.kp (fun W hW => Val.loadW scl136 rfl (hbv0.kp hW rfl).blk (by first | omega | assumption | (simp; omega) | (simp; done))) rfl <| qd rfl rfl rfl (fun _ => Val.xor_u32 rfl rfl) rfl <| qd rfl rfl rfl (fun _ => Val.nilCheck rfl) rfl ?_
  refine WD.eff rfl rfl rfl (Eff.pureC c11 1 (Eff.call pf174 rfl (rot_ok _ 8 (by simp)))) rfl ?_
  rintro v108 w16 ⟨c16, hM16, hx16, rfl⟩
  refine ⟨fun hC => hC.step hCw hM16 rfl, ?_⟩
  replace hCw := hCw.tr hM16 rfl
  replace hbv := hbv.mv hM16 rfl; replace hA := hA.mv hM16 rfl; replace hb5 := hb5.mv hM16 rfl
  refine qd rfl rfl rfl (fun _ => Val.indexArr arr156 rfl rfl (by first | omega | assumption | (simp; omega) | (simp; done)) (by first | omega | assumption | (simp; omega) | (simp; done))) rfl ?_
  refine WD.wild rfl rfl rfl (Eff.storeW scl136 rfl rfl hbv (by first | omega | assumption | (simp; omega) | (simp; done))) ?_
  rintro _ w17 ⟨hS, hM17⟩
  replace hA := hA.mv hM17 rfl; replace hb5 := hb5.mv hM17 rfl
  replace hbv := hS
  refine WD.nil ?_
  clear hbv0 hb50
  clear hCw
  refine cseq ?_
  refine WC.regionD (Kp c16 w17 []) [0, 0, 0, 0, 1, 0, 0, 0, 0, 1, 0, 0, 0, 3] [0, 1, 2, 3, 4, 5, 6, 7, 8, 9, 10, 11, 12, 13] mixed (by kernel_rfl) ?_
  have hM18 := Mv.drew c16 w17 []
  have hCw := Mv.drew c16 w17 []
  generalize w17.drew = w18 at hM18 hCw ⊢
  have hbv0 := hbv
  have hb50 := hb5
  replace hbv := hbv.mv hM18 rfl; replace hA := hA.mv hM18 rfl; replace hb5 := hb5.mv hM18 rfl
  refine qd rfl rfl rfl (fun _ => Val.move rfl) rfl <| qd rfl rfl rfl (fun _ => Val.move rfl) rfl <| qd rfl rfl rfl (fun _ => Val.nilCheck rfl) rfl <| qd rfl rfl rfl (fun _ => Val.indexArr arr156 rfl rfl (by first | omega | assumption | (simp; omega) | (simp; done)) (by first | omega | assumption | (simp; omega) | (simp; done))) rfl <| qc rfl rfl rfl hCw.kp (fun W hW => Val.loadW scl136 rfl (hbv0.kp hW rfl).blk (by first | omega | assumption | (simp; omega) | (simp; done))) rfl <| qd rfl rfl rfl (fun _ => Val.move rfl) rfl <| qd rfl rfl rfl (fun _ => Val.move rfl) rfl <| qd rfl rfl rfl (fun _ => Val.nilCheck rfl) rfl <| qd rfl rfl rfl (fun _ => Val.indexArr arr156 rfl rfl (by first | omega | assumption | (simp; omega) | (simp; done)) (by first | omega | assumption | (simp; omega) | (simp; done))) rfl ?_
  refine qc rfl rfl rfl hCw.kp (fun W hW => Val.loadW scl136 rfl (hbv0.kp hW rfl).blk (by first | omega | assumption | (simp; omega) | (simp; done))) rfl <| qd rfl rfl rfl (fun _ => Val.add_u32 rfl rfl) rfl <| qd rfl rfl rfl (fun _ => Val.nilCheck rfl) rfl <| qd rfl rfl rfl (fun _ => Val.indexArr arr156 rfl rfl (by first | omega | assumption | (simp; omega) | (simp; done)) (by first | omega | assumption | (simp; omega) | (simp; done))) rfl ?_
  refine WD.wild rfl rfl rfl (Eff.storeW scl136 rfl rfl hbv (by first | omega | assumption | (simp; omega) | (simp; done))) ?_
  rintro _ w19 ⟨hS, hM19⟩
  replace hA := hA.mv hM19 rfl; replace hb5 := hb5.mv hM19 rfl
  replace hbv := hS
  refine WD.nil ?_
  clear hbv0 hb50
  clear hCw
  refine WC.regionD (Kp c16 w19 []) [0, 0, 0, 0, 0, 0, 1, 0, 0, 0, 0, 1, 0, 2, 0, 0, 3] [0, 1, 2, 3, 4, 5, 6, 7, 8, 9, 10, 11, 12, 14, 13, 15, 16] mixed (by kernel_rfl) ?_
  have hM20 := Mv.drew c16 w19 []
  have hCw := Mv.drew c16 w19 []
  generalize w19.drew = w20 at hM20 hCw ⊢
  have hbv0 := hbv
  have hb50 := hb5
  replace hbv := hbv.mv hM20 rfl; replace hA := hA.mv hM20 rfl; replace hb5 := hb5.mv hM20 rfl
  refine qd rfl rfl rfl (fun _ => Val.move rfl) rfl <| qd rfl rfl rfl (fun _ => Val.move rfl) rfl <| qd rfl rfl rfl (fun _ => Val.move rfl) rfl <| qd rfl rfl rfl (fun _ => Val.move rfl) rfl <| qd rfl rfl rfl (fun _ => Val.nilCheck rfl) rfl <| qd rfl rfl rfl (fun _ => Val.indexArr arr156 rfl rfl (by first | omega | assumption | (simp; omega) | (simp; done)) (by first | omega | assumption | (simp; omega) | (simp; done))) rfl <| qc rfl rfl rfl hCw.kp (fun W hW => Val.loadW scl136 rfl (hbv0.kp hW rfl).blk (by first | omega | assumption | (simp; omega) | (simp; done))) rfl <| qd rfl rfl rfl (fun _ => Val.move rfl) rfl <| qd rfl rfl rfl (fun _ => Val.move rfl) rfl ?_
  refine qd rfl rfl rfl (fun _ => Val.nilCheck rfl) rfl <| qd rfl rfl rfl (fun _ => Val.indexArr arr156 rfl rfl (by first | omega | assumption | (simp; omega) | (simp; done)) (by first | omega | assumption | (simp; omega) | (simp; done))) rfl <| qc rfl rfl rfl hCw.kp (fun W hW => Val.loadW scl136 rfl (hbv0.kp hW rfl).blk (by first | omega | assumption | (simp; omega) | (simp; done))) rfl <| qd rfl rfl rfl (fun _ => Val.xor_u32 rfl rfl) rfl <| qd rfl rfl rfl (fun _ => Val.nilCheck rfl) rfl ?_
  refine WD.eff rfl rfl rfl (Eff.pureC c16 1 (Eff.call pf174 rfl (rot_ok _ 7 (by simp)))) rfl ?_
  rintro v137 w21 ⟨c21, hM21, hx21, rfl⟩
  refine ⟨fun hC => hC.step hCw hM21 rfl, ?_⟩
  replace hCw := hCw.tr hM21 rfl
  replace hbv := hbv.mv hM21 rfl; replace hA := hA.mv hM21 rfl; replace hb5 := hb5.mv hM21 rfl
  refine qd rfl rfl rfl (fun _ => Val.indexArr arr156 rfl rfl (by first | omega | assumption | (simp; omega) | (simp; done)) (by first | omega | assumption | (simp; omega) | (simp; done))) rfl ?_
  refine WD.wild rfl rfl rfl (Eff.storeW scl136 rfl rfl hbv (by first | omega | assumption | (simp; omega) | (simp; done))) ?_
  rintro _ w22 ⟨hS, hM22⟩
  replace hA := hA.mv hM22 rfl; replace hb5 := hb5.mv hM22 rfl
  replace hbv := hS
  refine WD.nil ?_
  clear hbv0 hb50
  clear hCw
  refine ⟨_, _, rfl, rfl, ?_⟩
  subst hc
  refine ⟨rfl, hA.grownOne, ?_⟩
  have e := hbv.blk
  simp only [Int.toNat_natCast] at e
  simpa only [mixS, w32_add] using e
end Go.Proofs.Ytnddlhjafkhdoaa

namespace Go.Proofs.Ytnddlhjafkhdoaa
open Go Go.Eng Go.RowKit Silo TryT

theorem rmix_ok {w : World} {b : Nat} {l : List Int} (hb : Blk w b (l.map W32 ++ []) dV) (hl : l.length = 16) (i j k m : Nat) (hi : i < 16) (hj : j < 16) (hk : k < 16) (hm : m < 16) (x y : Int) :
    Calls Try.prog 135 #[.pointer (some ⟨b, 0, none⟩), I (i : Int), I (j : Int), I (k : Int), I (m : Int), W32 x, W32 y] w (Ret fun v w' => w.grownBy w' (some b) ∧ Blk w' b ((mixS l i j k m x y).map W32 ++ []) dV) := by
  obtain ⟨c, hc⟩ : ∃ c : Nat → Nat, c = oneC b := ⟨_, rfl⟩
  have hbv : BlkC c w 2 b (l.map W32 ++ []) dV := ⟨hb, by rw [hc, oneC_at]⟩
  have hA : Acc c w [2] c w := Acc.refl _ _ _
  clear hb
  refine enter (n := 142) (res := #[]) Try.func135 rfl rfl rfl rfl ?_
  refine cseq ?_
  refine WC.regionD (Kp c w []) [0, 0, 0, 0, 0, 0, 1, 0, 0, 0, 0, 1, 0, 0, 0, 0, 0, 3] [0, 1, 2, 3, 4, 5, 6, 7, 8, 9, 10, 11, 12, 13, 14, 15, 16, 17] mixed (by kernel_rfl) ?_
  have hM1 := Mv.drew c w []
  have hCw := Mv.drew c w []
  generalize w.drew = w1 at hM1 hCw ⊢
  have hbv0 := hbv
  replace hbv := hbv.mv hM1 rfl; replace hA := hA.mv hM1 rfl
  refine qd rfl rfl rfl (fun _ => Val.move rfl) rfl <| qd rfl rfl rfl (fun _ => Val.move rfl) rfl <| qd rfl rfl rfl (fun _ => Val.move rfl) rfl <| qd rfl rfl rfl (fun _ => Val.move rfl) rfl <| qd rfl rfl rfl (fun _ => Val.nilCheck rfl) rfl <| qd rfl rfl rfl (fun _ => Val.indexArr arr156 rfl rfl (by first | omega | assumption | (simp; omega) | (simp; done)) (by first | omega | assumption | (simp; omega) | (simp; done))) rfl <| qc rfl rfl rfl hCw.kp (fun W hW => Val.loadW scl136 rfl (hbv0.kp hW rfl).blk (by first | omega | assumption | (simp; omega) | (simp; done))) rfl <| qd rfl rfl rfl (fun _ => Val.move rfl) rfl <| qd rfl rfl rfl (fun _ => Val.move rfl) rfl ?_
  refine qd rfl rfl rfl (fun _ => Val.nilCheck rfl) rfl <| qd rfl rfl rfl (fun _ => Val.indexArr arr156 rfl rfl (by first | omega | assumption | (simp; omega) | (simp; done)) (by first | omega | assumption | (simp; omega) | (simp; done))) rfl <| qc rfl rfl rfl hCw.kp (fun W hW => Val.loadW scl136 rfl (hbv0.kp hW rfl).blk (by first | omega | assumption | (simp; omega) | (simp; done))) rfl <| qd rfl rfl rfl (fun _ => Val.add_u32 rfl rfl) rfl <| qd rfl rfl rfl (fun _ => Val.move rfl) rfl <| qd rfl rfl rfl (fun _ => Val.add_u32 rfl rfl) rfl <| qd rfl rfl rfl (fun _ => Val.nilCheck rfl) rfl <| qd rfl rfl rfl (fun _ => Val.indexArr arr156 rfl rfl (by first | omega | assumption | (simp; omega) | (simp; done)) (by first | omega | assumption | (simp; omega) | (simp; done))) rfl ?_
  refine WD.wild rfl rfl rfl (Eff.storeW scl136 rfl rfl hbv (by first | omega | assumption | (simp; omega) | (simp; done))) ?_
  rintro _ w2 ⟨hS, hM2⟩
  replace hA := hA.mv hM2 rfl
  replace hbv := hS
  refine WD.nil ?_
  clear hbv0
  clear hCw
  refine cseq ?_
  refine WC.regionD (Kp c w2 []) [0, 0, 0, 0, 0, 0, 1, 0, 0, 0, 0, 1, 0, 2, 0, 0, 3] [0, 1, 2, 3, 4, 5, 6, 7, 8, 9, 10, 11, 12, 14, 13, 15, 16] mixed (by kernel_rfl) ?_
  have hM3 := Mv.drew c w2 []
  have hCw := Mv.drew c w2 []
  generalize w2.drew = w3 at hM3 hCw ⊢
  have hbv0 := hbv
  replace hbv := hbv.mv hM3 rfl; replace hA := hA.mv hM3 rfl
  refine qd rfl rfl rfl (fun _ => Val.move rfl) rfl <| qd rfl rfl rfl (fun _ => Val.move rfl) rfl <| qd rfl rfl rfl (fun _ => Val.move rfl) rfl <| qd rfl rfl rfl (fun _ => Val.move rfl) rfl <| qd rfl rfl rfl (fun _ => Val.nilCheck rfl) rfl <| qd rfl rfl rfl (fun _ => Val.indexArr arr156 rfl rfl (by first | omega | assumption | (simp; omega) | (simp; done)) (by first | omega | assumption | (simp; omega) | (simp; done))) rfl <| qc rfl rfl rfl hCw.kp (fun W hW => Val.loadW scl136 rfl (hbv0.kp hW rfl).blk (by first | omega | assumption | (simp; omega) | (simp; done))) rfl <| qd rfl rfl rfl (fun _ => Val.move rfl) rfl <| qd rfl rfl rfl (fun _ => Val.move rfl) rfl ?_
  refine qd rfl rfl rfl (fun _ => Val.nilCheck rfl) rfl <| qd rfl rfl rfl (fun _ => Val.indexArr arr156 rfl rfl (by first | omega | assumption | (simp; omega) | (simp; done)) (by first | omega | assumption | (simp; omega) | (simp; done))) rfl <| qc rfl rfl rfl hCw.kp (fun W hW => Val.loadW scl136 rfl (hbv0.kp hW rfl).blk (by first | omega | assumption | (simp; omega) | (simp; done))) rfl <| qd rfl rfl rfl (fun _ => Val.xor_u32 rfl rfl) rfl <| qd rfl rfl rfl (fun _ => Val.nilCheck rfl) rfl ?_
  refine WD.eff rfl rfl rfl (Eff.pureC c 1 (Eff.call pf154 rfl (rturned_ok _ 16 (by simp)))) rfl ?_
  rintro v44 w4 ⟨c4, hM4, hx4, rfl⟩
  refine ⟨fun hC => hC.step hCw hM4 rfl, ?_⟩
  replace hCw := hCw.tr hM4 rfl
  replace hbv := hbv.mv hM4 rfl; replace hA := hA.mv hM4 rfl
  refine qd rfl rfl rfl (fun _ => Val.indexArr arr156 rfl rfl (by first | omega | assumption | (simp; omega) | (simp; done)) (by first | omega | assumption | (simp; omega) | (simp; done))) rfl ?_
  refine WD.wild rfl rfl rfl (Eff.storeW scl136 rfl rfl hbv (by first | omega | assumption | (simp; omega) | (simp; done))) ?_
  rintro _ w5 ⟨hS, hM5⟩
  replace hA := hA.mv hM5 rfl
  replace hbv := hS
  refine WD.nil ?_
  clear hbv0
  clear hCw
  refine cseq ?_
  refine WC.regionD (Kp c4 w5 []) [0, 0, 0, 0, 0, 0, 1, 0, 0, 0, 0, 1, 0, 0, 0, 3] [0, 1, 2, 3, 4, 5, 6, 7, 8, 9, 10, 11, 12, 13, 14, 15] mixed (by kernel_rfl) ?_
  have hM6 := Mv.drew c4 w5 []
  have hCw := Mv.drew c4 w5 []
  generalize w5.drew = w6 at hM6 hCw ⊢
  have hbv0 := hbv
  replace hbv := hbv.mv hM6 rfl; replace hA := hA.mv hM6 rfl
  refine qd rfl rfl rfl (fun _ => Val.move rfl) rfl <| qd rfl rfl rfl (fun _ => Val.move rfl) rfl <| qd rfl rfl rfl (fun _ => Val.move rfl) rfl <| qd rfl rfl rfl (fun _ => Val.move rfl) rfl <| qd rfl rfl rfl (fun _ => Val.nilCheck rfl) rfl <| qd rfl rfl rfl (fun _ => Val.indexArr arr156 rfl rfl (by first | omega | assumption | (simp; omega) | (simp; done)) (by first | omega | assumption | (simp; omega) | (simp; done))) rfl <| qc rfl rfl rfl hCw.kp (fun W hW => Val.loadW scl136 rfl (hbv0.kp hW rfl).blk (by first | omega | assumption | (simp; omega) | (simp; done))) rfl <| qd rfl rfl rfl (fun _ => Val.move rfl) rfl <| qd rfl rfl rfl (fun _ => Val.move rfl) rfl ?_
  refine qd rfl rfl rfl (fun _ => Val.nilCheck rfl) rfl <| qd rfl rfl rfl (fun _ => Val.indexArr arr156 rfl rfl (by first | omega | assumption | (simp; omega) | (simp; done)) (by first | omega | assumption | (simp; omega) | (simp; done))) rfl <| qc rfl rfl rfl hCw.kp (fun W hW => Val.loadW scl136 rfl (hbv0.kp hW rfl).blk (by first | omega | assumption | (simp; omega) | (simp; done))) rfl <| qd rfl rfl rfl (fun _ => Val.add_u32 rfl rfl) rfl <| qd rfl rfl rfl (fun _ => Val.nilCheck rfl) rfl <| qd rfl rfl rfl (fun _ => Val.indexArr arr156 rfl rfl (by first | omega | assumption | (simp; omega) | (simp; done)) (by first | omega | assumption | (simp; omega) | (simp; done))) rfl ?_
  refine WD.wild rfl rfl rfl (Eff.storeW scl136 rfl rfl hbv (by first | omega | assumption | (simp; omega) | (simp; done))) ?_
  rintro _ w7 ⟨hS, hM7⟩
  replace hA := hA.mv hM7 rfl
  replace hbv := hS
  refine WD.nil ?_
  clear hbv0
  clear hCw
  refine cseq ?_
  refine WC.regionD (Kp c4 w7 []) [0, 0, 0, 0, 0, 0, 1, 0, 0, 0, 0, 1, 0, 2, 0, 0, 3] [0, 1, 2, 3, 4, 5, 6, 7, 8, 9, 10, 11, 12, 14, 13, 15, 16] mixed (by kernel_rfl) ?_
  have hM8 := Mv.drew c4 w7 []
  have hCw := Mv.drew c4 w7 []
  generalize w7.drew = w8 at hM8 hCw ⊢
  have hbv0 := hbv
  replace hbv := hbv.mv hM8 rfl; replace hA := hA.mv hM8 rfl
  refine qd rfl rfl rfl (fun _ => Val.move rfl) rfl <| qd rfl rfl rfl (fun _ => Val.move rfl) rfl <| qd rfl rfl rfl (fun _ => Val.move rfl) rfl <| qd rfl rfl rfl (fun _ => Val.move rfl) rfl <| qd rfl rfl rfl (fun _ => Val.nilCheck rfl) rfl <| qd rfl rfl rfl (fun _ => Val.indexArr arr156 rfl rfl (by first | omega | assumption | (simp; omega) | (simp; done)) (by first | omega | assumption | (simp; omega) | (simp; done))) rfl <| qc rfl rfl rfl hCw.kp (fun W hW => Val.loadW scl136 rfl (hbv0.kp hW rfl).blk (by first | omega | assumption | (simp; omega) | (simp; done))) rfl <| qd rfl rfl rfl (fun _ => Val.move rfl) rfl <| qd rfl rfl rfl (fun _ => Val.move rfl) rfl ?_
  refine qd rfl rfl rfl (fun _ => Val.nilCheck rfl) rfl <| qd rfl rfl rfl (fun _ => Val.indexArr arr156 rfl rfl (by first | omega | assumption | (simp; omega) | (simp; done)) (by first | omega | assumption | (simp; omega) | (simp; done))) rfl <| qc rfl rfl rfl hCw.kp (fun W hW => Val.loadW scl136 rfl (hbv0.kp hW rfl).blk (by first | omega | assumption | (simp; omega) | (simp; done))) rfl <| qd rfl rfl rfl (fun _ => Val.xor_u32 rfl rfl) rfl <| qd rfl rfl rfl (fun _ => Val.nilCheck rfl) rfl ?_
  refine WD.eff rfl rfl rfl (Eff.pureC c4 1 (Eff.call pf154 rfl (rturned_ok _ 12 (by simp)))) rfl ?_
  rintro v75 w9 ⟨c9, hM9, hx9, rfl⟩
  refine ⟨fun hC => hC.step hCw hM9 rfl, ?_⟩
  replace hCw := hCw.tr hM9 rfl
  replace hbv := hbv.mv hM9 rfl; replace hA := hA.mv hM9 rfl
  refine qd rfl rfl rfl (fun _ => Val.indexArr arr156 rfl rfl (by first | omega | assumption | (simp; omega) | (simp; done)) (by first | omega | assumption | (simp; omega) | (simp; done))) rfl ?_
  refine WD.wild rfl rfl rfl (Eff.storeW scl136 rfl rfl hbv (by first | omega | assumption | (simp; omega) | (simp; done))) ?_
  rintro _ w10 ⟨hS, hM10⟩
  replace hA := hA.mv hM10 rfl
  replace hbv := hS
  refine WD.nil ?_
  clear hbv0
  clear hCw
  refine cseq ?_
  refine WC.regionD (Kp c9 w10 []) [0, 0, 0, 0, 0, 0, 1, 0, 0, 0, 0, 1, 0, 0, 0, 0, 0, 3] [0, 1, 2, 3, 4, 5, 6, 7, 8, 9, 10, 11, 12, 13, 14, 15, 16, 17] mixed (by kernel_rfl) ?_
  have hM11 := Mv.drew c9 w10 []
  have hCw := Mv.drew c9 w10 []
  generalize w10.drew = w11 at hM11 hCw ⊢
  have hbv0 := hbv
  replace hbv := hbv.mv hM11 rfl; replace hA := hA.mv hM11 rfl
  refine qd rfl rfl rfl (fun _ => Val.move rfl) rfl <| qd rfl rfl rfl (fun _ => Val.move rfl) rfl <| qd rfl rfl rfl (fun _ => Val.move rfl) rfl <| qd rfl rfl rfl (fun _ => Val.move rfl) rfl <| qd rfl rfl rfl (fun _ => Val.nilCheck rfl) rfl <| qd rfl rfl rfl (fun _ => Val.indexArr arr156 rfl rfl (by first | omega | assumption | (simp; omega) | (simp; done)) (by first | omega | assumption | (simp; omega) | (simp; done))) rfl <| qc rfl rfl rfl hCw.kp (fun W hW => Val.loadW scl136 rfl (hbv0.kp hW rfl).blk (by first | omega | assumption | (simp; omega) | (simp; done))) rfl <| qd rfl rfl rfl (fun _ => Val.move rfl) rfl <| qd rfl rfl rfl (fun _ => Val.move rfl) rfl ?_
  refine qd rfl rfl rfl (fun _ => Val.nilCheck rfl) rfl <| qd rfl rfl rfl (fun _ => Val.indexArr arr156 rfl rfl (by first | omega | assumption | (simp; omega) | (simp; done)) (by first | omega | assumption | (simp; omega) | (simp; done))) rfl <| qc rfl rfl rfl hCw.kp (fun W hW => Val.loadW scl136 rfl (hbv0.kp hW rfl).blk (by first | omega | assumption | (simp; omega) | (simp; done))) rfl <| qd rfl rfl rfl (fun _ => Val.add_u32 rfl rfl) rfl <| qd rfl rfl rfl (fun _ => Val.move rfl) rfl <| qd rfl rfl rfl (fun _ => Val.add_u32 rfl rfl) rfl <| qd rfl rfl rfl (fun _ => Val.nilCheck rfl) rfl <| qd rfl rfl rfl (fun _ => Val.indexArr arr156 rfl rfl (by first | omega | assumption | (simp; omega) | (simp; done)) (by first | omega | assumption | (simp; omega) | (simp; done))) rfl ?_
  refine WD.wild rfl rfl rfl (Eff.storeW scl136 rfl rfl hbv (by first | omega | assumption | (simp; omega) | (simp; done))) ?_
  rintro _ w12 ⟨hS, hM12⟩
  replace hA := hA.mv hM12 rfl
  replace hbv := hS
  refine WD.nil ?_
  clear hbv0
  clear hCw
  refine cseq ?_
  refine WC.regionD (Kp c9 w12 []) [0, 0, 0, 0, 0, 0, 1, 0, 0, 0, 0, 1, 0, 2, 0, 0, 3] [0, 1, 2, 3, 4, 5, 6, 7, 8, 9, 10, 11, 12, 14, 13, 15, 16] mixed (by kernel_rfl) ?_
  have hM13 := Mv.drew c9 w12 []
  have hCw := Mv.drew c9 w12 []
  generalize w12.drew = w13 at hM13 hCw ⊢
  have hbv0 := hbv
  replace hbv := hbv.mv hM13 rfl; replace hA := hA.mv hM13 rfl
  refine qd rfl rfl rfl (fun _ => Val.move rfl) rfl <| qd rfl rfl rfl (fun _ => Val.move rfl) rfl <| qd rfl rfl rfl (fun _ => Val.move rfl) rfl <| qd rfl rfl rfl (fun _ => Val.move rfl) rfl <| qd rfl rfl rfl (fun _ => Val.nilCheck rfl) rfl <| qd rfl rfl rfl (fun _ => Val.indexArr arr156 rfl rfl (by first | omega | assumption | (simp; omega) | (simp; done)) (by first | omega | assumption | (simp; omega) | (simp; done))) rfl <| qc rfl rfl rfl hCw.kp (fun W hW => Val.loadW scl136 rfl (hbv0.kp hW rfl).blk (by first | omega | assumption | (simp; omega) | (simp; done))) rfl <| qd rfl rfl rfl (fun _ => Val.move rfl) rfl <| qd rfl rfl rfl (fun _ => Val.move rfl) rfl ?_
  refine qd rfl rfl rfl (fun _ => Val.nilCheck rfl) rfl <| qd rfl rfl rfl (fun _ => Val.indexArr arr156 rfl rfl (by first | omega | assumption | (simp; omega) | (simp; done)) (by first | omega | assumption | (simp; omega) | (simp; done))) rfl <| qc rfl rfl rfl hCw.kp (fun W hW => Val.loadW scl136 rfl (hbv0.kp hW rfl).blk (by first | omega | assumption | (simp; omega) | (simp; done))) rfl <| qd rfl rfl rfl (fun _ => Val.xor_u32 rfl rfl) rfl <| qd rfl rfl rfl (fun _ => Val.nilCheck rfl) rfl ?_
  refine WD.eff rfl rfl rfl (Eff.pureC c9 1 (Eff.call pf154 rfl (rturned_ok _ 8 (by simp)))) rfl ?_
  rintro v108 w14 ⟨c14, hM14, hx14, rfl⟩
  refine ⟨fun hC => hC.step hCw hM14 rfl, ?_⟩
  replace hCw := hCw.tr hM14 rfl
  replace hbv := hbv.mv hM14 rfl; replace hA := hA.mv hM14 rfl
  refine qd rfl rfl rfl (fun _ => Val.indexArr arr156 rfl rfl (by first | omega | assumption | (simp; omega) | (simp; done)) (by first | omega | assumption | (simp; omega) | (simp; done))) rfl ?_
  refine WD.wild rfl rfl rfl (Eff.storeW scl136 rfl rfl hbv (by first | omega | assumption | (simp; omega) | (simp; done))) ?_
  rintro _ w15 ⟨hS, hM15⟩
  replace hA := hA.mv hM15 rfl
  replace hbv := hS
  refine WD.nil ?_
  clear hbv0
  clear hCw
  refine cseq ?_
  refine WC.regionD (Kp c14 w15 []) [0, 0, 0, 0, 0, 0, 1, 0, 0, 0, 0, 1, 0, 0, 0, 3] [0, 1, 2, 3, 4, 5, 6, 7, 8, 9, 10, 11, 12, 13, 14, 15] mixed (by kernel_rfl) ?_
  have hM16 := Mv.drew c14 w15 []
  have hCw := Mv.drew c14 w15 []
  generalize w15.drew = w16 at hM16 hCw ⊢
  have hbv0 := hbv
  replace hbv := hbv.mv hM16 rfl; replace hA := hA.mv hM16 rfl
  refine qd rfl rfl rfl (fun _ => Val.move rfl) rfl <| qd rfl rfl rfl (fun _ => Val.move rfl) rfl <| qd rfl rfl rfl (fun _ => Val.move rfl) rfl <| qd rfl rfl rfl (fun _ => Val.move rfl) rfl <| qd rfl rfl rfl (fun _ => Val.nilCheck rfl) rfl <| qd rfl rfl rfl (fun _ => Val.indexArr arr156 rfl rfl (by first | omega | assumption | (simp; omega) | (simp; done)) (by first | omega | assumption | (simp; omega) | (simp; done))) rfl <| qc rfl rfl rfl hCw.kp (fun W hW => Val.loadW scl136 rfl (hbv0.kp hW rfl).blk (by first | omega | assumption | (simp; omega) | (simp; done))) rfl <| qd rfl rfl rfl (fun _ => Val.move rfl) rfl <| qd rfl rfl rfl (fun _ => Val.move rfl) rfl ?_
  refine qd rfl rfl rfl (fun _ => Val.nilCheck rfl) rfl <| qd rfl rfl rfl (fun _ => Val.indexArr arr156 rfl rfl (by first | omega | assumption | (simp; omega) | (simp; done)) (by first | omega | assumption | (simp; omega) | (simp; done))) rfl <| qc rfl rfl rfl hCw.kp (fun W hW => Val.loadW scl136 rfl (hbv0.kp hW rfl).blk (by first | omega | assumption | (simp; omega) | (simp; done))) rfl <| qd rfl rfl rfl (fun _ => Val.add_u32 rfl rfl) rfl <| qd rfl rfl rfl (fun _ => Val.nilCheck rfl) rfl <| qd rfl rfl rfl (fun _ => Val.indexArr arr156 rfl rfl (by first | omega | assumption | (simp; omega) | (simp; done)) (by first | omega | assumption | (simp; omega) | (simp; done))) rfl ?_
  refine WD.wild rfl rfl rfl (Eff.storeW scl136 rfl rfl hbv (by first | omega | assumption | (simp; omega) | (simp; done))) ?_
  rintro _ w17 ⟨hS, hM17⟩
  replace hA := hA.mv hM17 rfl
  replace hbv := hS
  refine WD.nil ?_
  clear hbv0
  clear hCw
  refine WC.regionD (Kp c14 w17 []) [0, 0, 0, 0, 0, 0, 1, 0, 0, 0, 0, 1, 0, 2, 0, 0, 3] [0, 1, 2, 3, 4, 5, 6, 7, 8, 9, 10, 11, 12, 14, 13, 15, 16] mixed (by kernel_rfl) ?_
  have hM18 := Mv.drew c14 w17 []
  have hCw := Mv.drew c14 w17 []
  generalize w17.drew = w18 at hM18 hCw ⊢
  have hbv0 := hbv
  replace hbv := hbv.mv hM18 rfl; replace hA := hA.mv hM18 rfl
  refine qd rfl rfl rfl (fun _ => Val.move rfl) rfl <| qd rfl rfl rfl (fun _ => Val.move rfl) rfl <| qd rfl rfl rfl (fun _ => Val.move rfl) rfl <| qd rfl rfl rfl (fun _ => Val.move rfl) rfl <| qd rfl rfl rfl (fun _ => Val.nilCheck rfl) rfl <| qd rfl rfl rfl (fun _ => Val.indexArr arr156 rfl rfl (by first | omega | assumption | (simp; omega) | (simp; done)) (by first | omega | assumption | (simp; omega) | (simp; done))) rfl <| qc rfl rfl rfl hCw.kp (fun W hW => Val.loadW scl136 rfl (hbv0.kp hW rfl).blk (by first | omega | assumption | (simp; omega) | (simp; done))) rfl <| qd rfl rfl rfl (fun _ => Val.move rfl) rfl <| qd rfl rfl rfl (fun _ => Val.move rfl) rfl ?_
  refine qd rfl rfl rfl (fun _ => Val.nilCheck rfl) rfl <| qd rfl rfl rfl (fun _ => Val.indexArr arr156 rfl rfl (by first | omega | assumption | (simp; omega) | (simp; done)) (by first | omega | assumption | (simp; omega) | (simp; done))) rfl <| qc rfl rfl rfl hCw.kp (fun W hW => Val.loadW scl136 rfl (hbv0.kp hW rfl).blk (by first | omega | assumption | (simp; omega) | (simp; done))) rfl <| qd rfl rfl rfl (fun _ => Val.xor_u32 rfl rfl) rfl <| qd rfl rfl rfl (fun _ => Val.nilCheck rfl) rfl ?_
  refine WD.eff rfl rfl rfl (Eff.pureC c14 1 (Eff.call pf154 rfl (rturned_ok _ 7 (by simp)))) rfl ?_
  rintro v139 w19 ⟨c19, hM19, hx19, rfl⟩
  refine ⟨fun hC => hC.step hCw hM19 rfl, ?_⟩
  replace hCw := hCw.tr hM19 rfl
  replace hbv := hbv.mv hM19 rfl; replace hA := hA.mv hM19 rfl
  refine qd rfl rfl rfl (fun _ => Val.indexArr arr156 rfl rfl (by first | omega | assumption | (simp; omega) | (simp; done)) (by first | omega | assumption | (simp; omega) | (simp; done))) rfl ?_
  refine WD.wild rfl rfl rfl (Eff.storeW scl136 rfl rfl hbv (by first | omega | assumption | (simp; omega) | (simp; done))) ?_
  rintro _ w20 ⟨hS, hM20⟩
  replace hA := hA.mv hM20 rfl
  replace hbv := hS
  refine WD.nil ?_
  clear hbv0
  clear hCw
  refine ⟨_, _, rfl, rfl, ?_⟩
  subst hc
  refine ⟨rfl, hA.grownOne, ?_⟩
  have e := hbv.blk
  simp only [Int.toNat_natCast] at e
  simpa only [mixS] using e

abbrev rowsV : List Value := rowsL.flatMap fun l => l.map fun n => I ((n : Nat) : Int)
abbrev quartV : List Value := quartL.flatMap fun l => l.map fun n => I ((n : Nat) : Int)
theorem rbegins_ok {w : World} : Calls Try.prog 115 #[] w (Ret fun v w' => Below w.heap.size w w' ∧ v = .agg (beginsL.map W32).toArray) := by
  obtain ⟨c, hO, hc⟩ := OldC.start w
  refine enter (n := 2) (res := #[.cell 0 137]) Try.func115 rfl rfl rfl rfl ?_
  refine cseq <| cregion ?_
  refine WR.eff (Eff.allocC c 100 zero137) rfl ?_
  rintro _ w1 ⟨b0, c1, rfl, hM1, hb0⟩
  replace hO := hO.mv hM1 rfl
  refine cnil <| cseq <| cregion <| qq (Val.build (cells := #[.int .u32 1779033703, .int .u32 3144134277, .int .u32 1013904242, .int .u32 2773480762, .int .u32 1359893119, .int .u32 2600822924, .int .u32 528734635, .int .u32 1541459225]) rfl (by kernel_rfl)) rfl ?_
  refine WR.eff_ (Eff.storeNC agg137 rfl rfl hb0 rfl rfl (by repeat (first | exact List.forall_mem_nil _ | refine List.forall_mem_cons.2 ⟨by first | rfl | assumption, ?_⟩))) ?_
  rintro _ w2 ⟨hS, hM2⟩
  replace hO := hO.mv hM2 rfl
  replace hb0 := hS
  refine cnil ?_
  refine WC.retR1 rfl (RVal.cellN agg137 rfl hb0.blk rfl) ?_
  exact ⟨hO.below, rfl⟩
theorem begins_ok {w : World} : Calls Try.prog 131 #[] w (Ret fun v w' => Below w.heap.size w w' ∧ v = .agg (beginsL.map W32).toArray) := by
  obtain ⟨c, hO, hc⟩ := OldC.start w
  refine enter (n := 2) (res := #[.cell 0 137]) Try.func131 rfl rfl rfl rfl ?_
  refine cseq <| cregion ?_
  refine WR.eff (Eff.allocC c 100 zero137) rfl ?_
  rintro _ w1 ⟨b0, c1, rfl, hM1, hb0⟩
  replace hO := hO.mv hM1 rfl
  refine cnil <| cseq <| cregion <| qq (Val.build (cells := #[.int .u32 1779033703, .int .u32 3144134277, .int .u32 1013904242, .int .u32 2773480762, .int .u32 1359893119, .int .u32 2600822924, .int .u32 528734635, .int .u32 1541459225]) rfl (by kernel_rfl)) rfl ?_
  refine WR.eff_ (Eff.storeNC agg137 rfl rfl hb0 rfl rfl (by repeat (first | exact List.forall_mem_nil _ | refine List.forall_mem_cons.2 ⟨by first | rfl | assumption, ?_⟩))) ?_
  rintro _ w2 ⟨hS, hM2⟩
  replace hO := hO.mv hM2 rfl
  replace hb0 := hS
  refine cnil ?_
  refine WC.retR1 rfl (RVal.cellN agg137 rfl hb0.blk rfl) ?_
  exact ⟨hO.below, rfl⟩
theorem rows_ok {w : World} : Calls Try.prog 134 #[] w (Ret fun v w' => Below w.heap.size w w' ∧ v = .agg rowsV.toArray) := by
  obtain ⟨c, hO, hc⟩ := OldC.start w
  refine enter (n := 12) (res := #[.cell 0 158]) Try.func134 rfl rfl rfl rfl ?_
  refine cseq <| cregion ?_
  refine WR.eff (Eff.allocC c 100 zero158) rfl ?_
  rintro _ w1 ⟨b0, c1, rfl, hM1, hb0⟩
  replace hO := hO.mv hM1 rfl
  refine cnil <| cseq <| cregion <| qq (Val.build (cells := #[.int .i64 0, .int .i64 1, .int .i64 2, .int .i64 3, .int .i64 4, .int .i64 5, .int .i64 6, .int .i64 7, .int .i64 8, .int .i64 9, .int .i64 10, .int .i64 11, .int .i64 12, .int .i64 13, .int .i64 14, .int .i64 15]) rfl (by kernel_rfl)) rfl <| qq (Val.build (cells := #[.int .i64 14, .int .i64 10, .int .i64 4, .int .i64 8, .int .i64 9, .int .i64 15, .int .i64 13, .int .i64 6, .int .i64 1, .int .i64 12, .int .i64 0, .int .i64 2, .int .i64 11, .int .i64 7, .int .i64 5, .int .i64 3]) rfl (by kernel_rfl)) rfl <| qq (Val.build (cells := #[.int .i64 11, .int .i64 8, .int .i64 12, .int .i64 0, .int .i64 5, .int .i64 2, .int .i64 15, .int .i64 13, .int .i64 10, .int .i64 14, .int .i64 3, .int .i64 6, .int .i64 7, .int .i64 1, .int .i64 9, .int .i64 4]) rfl (by kernel_rfl)) rfl <| qq (Val.build (cells := #[.int .i64 7, .int .i64 9, .int .i64 3, .int .i64 1, .int .i64 13, .int .i64 12, .int .i64 11, .int .i64 14, .int .i64 2, .int .i64 6, .int .i64 5, .int .i64 10, .int .i64 4, .int .i64 0, .int .i64 15, .int .i64 8]) rfl (by kernel_rfl)) rfl <| qq (Val.build (cells := #[.int .i64 9, .int .i64 0, .int .i64 5, .int .i64 7, .int .i64 2, .int .i64 4, .int .i64 10, .int .i64 15, .int .i64 14, .int .i64 1, .int .i64 11, .int .i64 12, .int .i64 6, .int .i64 8, .int .i64 3, .int .i64 13]) rfl (by kernel_rfl)) rfl <| qq (Val.build (cells := #[.int .i64 2, .int .i64 12, .int .i64 6, .int .i64 10, .int .i64 0, .int .i64 11, .int .i64 8, .int .i64 3, .int .i64 4, .int .i64 13, .int .i64 7, .int .i64 5, .int .i64 15, .int .i64 14, .int .i64 1, .int .i64 9]) rfl (by kernel_rfl)) rfl ?_
  refine qq (Val.build (cells := #[.int .i64 12, .int .i64 5, .int .i64 1, .int .i64 15, .int .i64 14, .int .i64 13, .int .i64 4, .int .i64 10, .int .i64 0, .int .i64 7, .int .i64 6, .int .i64 3, .int .i64 9, .int .i64 2, .int .i64 8, .int .i64 11]) rfl (by kernel_rfl)) rfl <| qq (Val.build (cells := #[.int .i64 13, .int .i64 11, .int .i64 7, .int .i64 14, .int .i64 12, .int .i64 1, .int .i64 3, .int .i64 9, .int .i64 5, .int .i64 0, .int .i64 15, .int .i64 4, .int .i64 8, .int .i64 6, .int .i64 2, .int .i64 10]) rfl (by kernel_rfl)) rfl <| qq (Val.build (cells := #[.int .i64 6, .int .i64 15, .int .i64 14, .int .i64 9, .int .i64 11, .int .i64 3, .int .i64 0, .int .i64 8, .int .i64 12, .int .i64 2, .int .i64 13, .int .i64 7, .int .i64 1, .int .i64 4, .int .i64 10, .int .i64 5]) rfl (by kernel_rfl)) rfl <| qq (Val.build (cells := #[.int .i64 10, .int .i64 2, .int .i64 8, .int .i64 4, .int .i64 7, .int .i64 6, .int .i64 1, .int .i64 5, .int .i64 15, .int .i64 11, .int .i64 9, .int .i64 14, .int .i64 3, .int .i64 12, .int .i64 13, .int .i64 0]) rfl (by kernel_rfl)) rfl <| qq (Val.build (cells := #[.int .i64 0, .int .i64 1, .int .i64 2, .int .i64 3, .int .i64 4, .int .i64 5, .int .i64 6, .int .i64 7, .int .i64 8, .int .i64 9, .int .i64 10, .int .i64 11, .int .i64 12, .int .i64 13, .int .i64 14, .int .i64 15, .int .i64 14, .int .i64 10, .int .i64 4, .int .i64 8, .int .i64 9, .int .i64 15, .int .i64 13, .int .i64 6, .int .i64 1, .int .i64 12, .int .i64 0, .int .i64 2, .int .i64 11, .int .i64 7, .int .i64 5, .int .i64 3, .int .i64 11, .int .i64 8, .int .i64 12, .int .i64 0, .int .i64 5, .int .i64 2, .int .i64 15, .int .i64 13, .int .i64 10, .int .i64 14, .int .i64 3, .int .i64 6, .int .i64 7, .int .i64 1, .int .i64 9, .int .i64 4, .int .i64 7, .int .i64 9, .int .i64 3, .int .i64 1, .int .i64 13, .int .i64 12, .int .i64 11, .int .i64 14, .int .i64 2, .int .i64 6, .int .i64 5, .int .i64 10, .int .i64 4, .int .i64 0, .int .i64 15, .int .i64 8, .int .i64 9, .int .i64 0, .int .i64 5, .int .i64 7, .int .i64 2, .int .i64 4, .int .i64 10, .int .i64 15, .int .i64 14, .int .i64 1, .int .i64 11, .int .i64 12, .int .i64 6, .int .i64 8, .int .i64 3, .int .i64 13, .int .i64 2, .int .i64 12, .int .i64 6, .int .i64 10, .int .i64 0, .int .i64 11, .int .i64 8, .int .i64 3, .int .i64 4, .int .i64 13, .int .i64 7, .int .i64 5, .int .i64 15, .int .i64 14, .int .i64 1, .int .i64 9, .int .i64 12, .int .i64 5, .int .i64 1, .int .i64 15, .int .i64 14, .int .i64 13, .int .i64 4, .int .i64 10, .int .i64 0, .int .i64 7, .int .i64 6, .int .i64 3, .int .i64 9, .int .i64 2, .int .i64 8, .int .i64 11, .int .i64 13, .int .i64 11, .int .i64 7, .int .i64 14, .int .i64 12, .int .i64 1, .int .i64 3, .int .i64 9, .int .i64 5, .int .i64 0, .int .i64 15, .int .i64 4, .int .i64 8, .int .i64 6, .int .i64 2, .int .i64 10, .int .i64 6, .int .i64 15, .int .i64 14, .int .i64 9, .int .i64 11, .int .i64 3, .int .i64 0, .int .i64 8, .int .i64 12, .int .i64 2, .int .i64 13, .int .i64 7, .int .i64 1, .int .i64 4, .int .i64 10, .int .i64 5, .int .i64 10, .int .i64 2, .int .i64 8, .int .i64 4, .int .i64 7, .int .i64 6, .int .i64 1, .int .i64 5, .int .i64 15, .int .i64 11, .int .i64 9, .int .i64 14, .int .i64 3, .int .i64 12, .int .i64 13, .int .i64 0]) rfl (by kernel_rfl)) rfl ?_
  refine WR.eff_ (Eff.storeNC agg158 rfl rfl hb0 rfl rfl (by repeat (first | exact List.forall_mem_nil _ | refine List.forall_mem_cons.2 ⟨by first | rfl | assumption, ?_⟩))) ?_
  rintro _ w2 ⟨hS, hM2⟩
  replace hO := hO.mv hM2 rfl
  replace hb0 := hS
  refine cnil ?_
  refine WC.retR1 rfl (RVal.cellN agg158 rfl hb0.blk rfl) ?_
  exact ⟨hO.below, rfl⟩
theorem orders_ok {w : World} : Calls Try.prog 150 #[] w (Ret fun v w' => Below w.heap.size w w' ∧ v = .agg rowsV.toArray) := by
  obtain ⟨c, hO, hc⟩ := OldC.start w
  refine enter (n := 12) (res := #[.cell 0 158]) Try.func150 rfl rfl rfl rfl ?_
  refine cseq <| cregion ?_
  refine WR.eff (Eff.allocC c 100 zero158) rfl ?_
  rintro _ w1 ⟨b0, c1, rfl, hM1, hb0⟩
  replace hO := hO.mv hM1 rfl
  refine cnil <| cseq <| cregion <| qq (Val.build (cells := #[.int .i64 0, .int .i64 1, .int .i64 2, .int .i64 3, .int .i64 4, .int .i64 5, .int .i64 6, .int .i64 7, .int .i64 8, .int .i64 9, .int .i64 10, .int .i64 11, .int .i64 12, .int .i64 13, .int .i64 14, .int .i64 15]) rfl (by kernel_rfl)) rfl <| qq (Val.build (cells := #[.int .i64 14, .int .i64 10, .int .i64 4, .int .i64 8, .int .i64 9, .int .i64 15, .int .i64 13, .int .i64 6, .int .i64 1, .int .i64 12, .int .i64 0, .int .i64 2, .int .i64 11, .int .i64 7, .int .i64 5, .int .i64 3]) rfl (by kernel_rfl)) rfl <| qq (Val.build (cells := #[.int .i64 11, .int .i64 8, .int .i64 12, .int .i64 0, .int .i64 5, .int .i64 2, .int .i64 15, .int .i64 13, .int .i64 10, .int .i64 14, .int .i64 3, .int .i64 6, .int .i64 7, .int .i64 1, .int .i64 9, .int .i64 4]) rfl (by kernel_rfl)) rfl <| qq (Val.build (cells := #[.int .i64 7, .int .i64 9, .int .i64 3, .int .i64 1, .int .i64 13, .int .i64 12, .int .i64 11, .int .i64 14, .int .i64 2, .int .i64 6, .int .i64 5, .int .i64 10, .int .i64 4, .int .i64 0, .int .i64 15, .int .i64 8]) rfl (by kernel_rfl)) rfl <| qq (Val.build (cells := #[.int .i64 9, .int .i64 0, .int .i64 5, .int .i64 7, .int .i64 2, .int .i64 4, .int .i64 10, .int .i64 15, .int .i64 14, .int .i64 1, .int .i64 11, .int .i64 12, .int .i64 6, .int .i64 8, .int .i64 3, .int .i64 13]) rfl (by kernel_rfl)) rfl <| qq (Val.build (cells := #[.int .i64 2, .int .i64 12, .int .i64 6, .int .i64 10, .int .i64 0, .int .i64 11, .int .i64 8, .int .i64 3, .int .i64 4, .int .i64 13, .int .i64 7, .int .i64 5, .int .i64 15, .int .i64 14, .int .i64 1, .int .i64 9]) rfl (by kernel_rfl)) rfl ?_
  refine qq (Val.build (cells := #[.int .i64 12, .int .i64 5, .int .i64 1, .int .i64 15, .int .i64 14, .int .i64 13, .int .i64 4, .int .i64 10, .int .i64 0, .int .i64 7, .int .i64 6, .int .i64 3, .int .i64 9, .int .i64 2, .int .i64 8, .int .i64 11]) rfl (by kernel_rfl)) rfl <| qq (Val.build (cells := #[.int .i64 13, .int .i64 11, .int .i64 7, .int .i64 14, .int .i64 12, .int .i64 1, .int .i64 3, .int .i64 9, .int .i64 5, .int .i64 0, .int .i64 15, .int .i64 4, .int .i64 8, .int .i64 6, .int .i64 2, .int .i64 10]) rfl (by kernel_rfl)) rfl <| qq (Val.build (cells := #[.int .i64 6, .int .i64 15, .int .i64 14, .int .i64 9, .int .i64 11, .int .i64 3, .int .i64 0, .int .i64 8, .int .i64 12, .int .i64 2, .int .i64 13, .int .i64 7, .int .i64 1, .int .i64 4, .int .i64 10, .int .i64 5]) rfl (by kernel_rfl)) rfl <| qq (Val.build (cells := #[.int .i64 10, .int .i64 2, .int .i64 8, .int .i64 4, .int .i64 7, .int .i64 6, .int .i64 1, .int .i64 5, .int .i64 15, .int .i64 11, .int .i64 9, .int .i64 14, .int .i64 3, .int .i64 12, .int .i64 13, .int .i64 0]) rfl (by kernel_rfl)) rfl <| qq (Val.build (cells := #[.int .i64 0, .int .i64 1, .int .i64 2, .int .i64 3, .int .i64 4, .int .i64 5, .int .i64 6, .int .i64 7, .int .i64 8, .int .i64 9, .int .i64 10, .int .i64 11, .int .i64 12, .int .i64 13, .int .i64 14, .int .i64 15, .int .i64 14, .int .i64 10, .int .i64 4, .int .i64 8, .int .i64 9, .int .i64 15, .int .i64 13, .int .i64 6, .int .i64 1, .int .i64 12, .int .i64 0, .int .i64 2, .int .i64 11, .int .i64 7, .int .i64 5, .int .i64 3, .int .i64 11, .int .i64 8, .int .i64 12, .int .i64 0, .int .i64 5, .int .i64 2, .int .i64 15, .int .i64 13, .int .i64 10, .int .i64 14, .int .i64 3, .int .i64 6, .int .i64 7, .int .i64 1, .int .i64 9, .int .i64 4, .int .i64 7, .int .i64 9, .int .i64 3, .int .i64 1, .int .i64 13, .int .i64 12, .int .i64 11, .int .i64 14, .int .i64 2, .int .i64 6, .int .i64 5, .int .i64 10, .int .i64 4, .int .i64 0, .int .i64 15, .int .i64 8, .int .i64 9, .int .i64 0, .int .i64 5, .int .i64 7, .int .i64 2, .int .i64 4, .int .i64 10, .int .i64 15, .int .i64 14, .int .i64 1, .int .i64 11, .int .i64 12, .int .i64 6, .int .i64 8, .int .i64 3, .int .i64 13, .int .i64 2, .int .i64 12, .int .i64 6, .int .i64 10, .int .i64 0, .int .i64 11, .int .i64 8, .int .i64 3, .int .i64 4, .int .i64 13, .int .i64 7, .int .i64 5, .int .i64 15, .int .i64 14, .int .i64 1, .int .i64 9, .int .i64 12, .int .i64 5, .int .i64 1, .int .i64 15, .int .i64 14, .int .i64 13, .int .i64 4, .int .i64 10, .int .i64 0, .int .i64 7, .int .i64 6, .int .i64 3, .int .i64 9, .int .i64 2, .int .i64 8, .int .i64 11, .int .i64 13, .int .i64 11, .int .i64 7, .int .i64 14, .int .i64 12, .int .i64 1, .int .i64 3, .int .i64 9, .int .i64 5, .int .i64 0, .int .i64 15, .int .i64 4, .int .i64 8, .int .i64 6, .int .i64 2, .int .i64 10, .int .i64 6, .int .i64 15, .int .i64 14, .int .i64 9, .int .i64 11, .int .i64 3, .int .i64 0, .int .i64 8, .int .i64 12, .int .i64 2, .int .i64 13, .int .i64 7, .int .i64 1, .int .i64 4, .int .i64 10, .int .i64 5, .int .i64 10, .int .i64 2, .int .i64 8, .int .i64 4, .int .i64 7, .int .i64 6, .int .i64 1, .int .i64 5, .int .i64 15, .int .i64 11, .int .i64 9, .int .i64 14, .int .i64 3, .int .i64 12, .int .i64 13, .int .i64 0]) rfl (by kernel_rfl)) rfl ?_
  refine WR.eff_ (Eff.storeNC agg158 rfl rfl hb0 rfl rfl (by repeat (first | exact List.forall_mem_nil _ | refine List.forall_mem_cons.2 ⟨by first | rfl | assumption, ?_⟩))) ?_
  rintro _ w2 ⟨hS, hM2⟩
  replace hO := hO.mv hM2 rfl
  replace hb0 := hS
  refine cnil ?_
  refine WC.retR1 rfl (RVal.cellN agg158 rfl hb0.blk rfl) ?_
  exact ⟨hO.below, rfl⟩
theorem quarters_ok {w : World} : Calls Try.prog 151 #[] w (Ret fun v w' => Below w.heap.size w w' ∧ v = .agg quartV.toArray) := by
  obtain ⟨c, hO, hc⟩ := OldC.start w
  refine enter (n := 10) (res := #[.cell 0 177]) Try.func151 rfl rfl rfl rfl ?_
  refine cseq <| cregion ?_
  refine WR.eff (Eff.allocC c 100 zero177) rfl ?_
  rintro _ w1 ⟨b0, c1, rfl, hM1, hb0⟩
  replace hO := hO.mv hM1 rfl
  refine cnil <| cseq <| cregion <| qq (Val.build (cells := #[.int .i64 0, .int .i64 4, .int .i64 8, .int .i64 12]) rfl (by kernel_rfl)) rfl <| qq (Val.build (cells := #[.int .i64 1, .int .i64 5, .int .i64 9, .int .i64 13]) rfl (by kernel_rfl)) rfl <| qq (Val.build (cells := #[.int .i64 2, .int .i64 6, .int .i64 10, .int .i64 14]) rfl (by kernel_rfl)) rfl <| qq (Val.build (cells := #[.int .i64 3, .int .i64 7, .int .i64 11, .int .i64 15]) rfl (by kernel_rfl)) rfl <| qq (Val.build (cells := #[.int .i64 0, .int .i64 5, .int .i64 10, .int .i64 15]) rfl (by kernel_rfl)) rfl <| qq (Val.build (cells := #[.int .i64 1, .int .i64 6, .int .i64 11, .int .i64 12]) rfl (by kernel_rfl)) rfl ?_
  refine qq (Val.build (cells := #[.int .i64 2, .int .i64 7, .int .i64 8, .int .i64 13]) rfl (by kernel_rfl)) rfl <| qq (Val.build (cells := #[.int .i64 3, .int .i64 4, .int .i64 9, .int .i64 14]) rfl (by kernel_rfl)) rfl <| qq (Val.build (cells := #[.int .i64 0, .int .i64 4, .int .i64 8, .int .i64 12, .int .i64 1, .int .i64 5, .int .i64 9, .int .i64 13, .int .i64 2, .int .i64 6, .int .i64 10, .int .i64 14, .int .i64 3, .int .i64 7, .int .i64 11, .int .i64 15, .int .i64 0, .int .i64 5, .int .i64 10, .int .i64 15, .int .i64 1, .int .i64 6, .int .i64 11, .int .i64 12, .int .i64 2, .int .i64 7, .int .i64 8, .int .i64 13, .int .i64 3, .int .i64 4, .int .i64 9, .int .i64 14]) rfl (by kernel_rfl)) rfl ?_
  refine WR.eff_ (Eff.storeNC agg177 rfl rfl hb0 rfl rfl (by repeat (first | exact List.forall_mem_nil _ | refine List.forall_mem_cons.2 ⟨by first | rfl | assumption, ?_⟩))) ?_
  rintro _ w2 ⟨hS, hM2⟩
  replace hO := hO.mv hM2 rfl
  replace hb0 := hS
  refine cnil ?_
  refine WC.retR1 rfl (RVal.cellN agg177 rfl hb0.blk rfl) ?_
  exact ⟨hO.below, rfl⟩
end Go.Proofs.Ytnddlhjafkhdoaa

namespace Silo
open Go Go.Eng
def wk (s : List UInt8) (k : Nat) : List Int := (List.range k).foldl (wordS s) (List.replicate 16 0)
theorem fold_succ {α : Type} (f : α → Nat → α) (a : α) (k : Nat) : (List.range (k + 1)).foldl f a = f ((List.range k).foldl f a) k := by rw [List.range_succ, List.foldl_append]; rfl
theorem wk_succ (s : List UInt8) (k : Nat) : wk s (k + 1) = wordS s (wk s k) k := fold_succ _ _ _
theorem wk_length (s : List UInt8) : ∀ k, (wk s k).length = 16
  | 0 => rfl
  | k + 1 => by rw [wk_succ, wordS, List.length_set, wk_length s k]
theorem wk_step {s : List UInt8} {k : Nat} (hk : k < s.length) : (wk s k).set ((k : Int) / 4).toNat (o32 (gW (wk s k) ((k : Int) / 4).toNat) (w32 (((s[k].toNat : Int) % 4294967296) * 2 ^ (8 * ((k : Int) % 4)).toNat))) = wk s (k + 1) := by
  have e1 : ((k : Int) / 4).toNat = k / 4 := by omega
  have e2 : (8 * ((k : Int) % 4)).toNat = 8 * (k % 4) := by omega
  have e3 : ((s[k].toNat : Int) % 4294967296) = s[k].toNat := by have := s[k].toNat_lt; omega
  rw [wk_succ, wordS, e1, e2, e3, List.getElem?_eq_getElem hk]; rfl
def vk (h : List Int) (k : Nat) : List Int := (List.range k).foldl (fun v i => (v.set i (gW h i)).set (i + 8) (gW beginsL i)) (List.replicate 16 0)
theorem vk_succ (h : List Int) (k : Nat) : vk h (k + 1) = ((vk h k).set k (gW h k)).set (k + 8) (gW beginsL k) := fold_succ _ _ _
theorem vk_length (h : List Int) : ∀ k, (vk h k).length = 16
  | 0 => rfl
  | k + 1 => by rw [vk_succ, List.length_set, List.length_set, vk_length h k]
theorem eight {h : List Int} (hl : h.length = 8) : ∃ a b c d e f g i, h = [a, b, c, d, e, f, g, i] := by
  match h, hl with
  | [a, b, c, d, e, f, g, i], _ => exact ⟨a, b, c, d, e, f, g, i, rfl⟩
theorem vk_eight {h : List Int} (hl : h.length = 8) : vk h 8 = h ++ beginsL := by
  obtain ⟨a, b, c, d, e, f, g, i, rfl⟩ := eight hl
  rfl
def rk (m : List Int) (v : List Int) (r : Nat) : List Int := (List.range r).foldl (roundsS m) v
theorem roundsS_length (m v : List Int) (r : Nat) : (roundsS m v r).length = v.length := by
  have key : ∀ k, ((List.range k).foldl (roundS m r) v).length = v.length := by
    intro k
    induction k with
    | zero => rfl
    | succ k ih => rw [fold_succ, roundS, mixS_length, ih]
  exact key 8
theorem rk_succ (m v : List Int) (r : Nat) : rk m v (r + 1) = roundsS m (rk m v r) r := fold_succ _ _ _
theorem rk_length (m v : List Int) : ∀ r, (rk m v r).length = v.length
  | 0 => rfl
  | r + 1 => by rw [rk_succ, roundsS_length, rk_length m v r]
def hck (h v : List Int) (k : Nat) : List Int := (List.range k).foldl (fun l i => l.set i (x32 (x32 (gW l i) (gW v i)) (gW v (i + 8)))) h
theorem hck_succ (h v : List Int) (k : Nat) : hck h v (k + 1) = (hck h v k).set k (x32 (x32 (gW (hck h v k) k) (gW v k)) (gW v (k + 8))) := fold_succ _ _ _
theorem hck_length (h v : List Int) : ∀ k, (hck h v k).length = h.length
  | 0 => rfl
  | k + 1 => by rw [hck_succ, List.length_set, hck_length h v k]
theorem hck_eight {h v : List Int} (hl : h.length = 8) : hck h v 8 = (List.range 8).map fun i => x32 (x32 (gW h i) (gW v i)) (gW v (i + 8)) := by
  obtain ⟨a, b, c, d, e, f, g, i, rfl⟩ := eight hl
  rfl
theorem startV_length {h : List Int} (hl : h.length = 8) (n : Int) (last : Bool) : (startV h n last).length = 16 := by
  cases last <;> simp [startV, hl, beginsL]
theorem wordsS_length (s : List UInt8) : (wordsS s).length = 16 := wk_length s _
theorem rounds_eq (m v : List Int) (r : Nat) {a0 a1 a2 a3 a4 a5 a6 a7 a8 a9 a10 a11 a12 a13 a14 a15 : Nat} (hr : rowsL[r]? = some [a0, a1, a2, a3, a4, a5, a6, a7, a8, a9, a10, a11, a12, a13, a14, a15]) :
    roundsS m v r = mixS (mixS (mixS (mixS (mixS (mixS (mixS (mixS v 0 4 8 12 (gW m a0) (gW m a1)) 1 5 9 13 (gW m a2) (gW m a3)) 2 6 10 14 (gW m a4) (gW m a5)) 3 7 11 15 (gW m a6) (gW m a7)) 0 5 10 15 (gW m a8) (gW m a9)) 1 6 11 12 (gW m a10) (gW m a11)) 2 7 8 13 (gW m a12) (gW m a13)) 3 4 9 14 (gW m a14) (gW m a15) := by
  have : List.range 8 = [0, 1, 2, 3, 4, 5, 6, 7] := rfl
  simp only [roundsS, this, List.foldl, roundS, g2, hr, Option.getD_some]
  rfl
theorem row_form (r : Nat) (h : r < 10) : ∃ a0 a1 a2 a3 a4 a5 a6 a7 a8 a9 a10 a11 a12 a13 a14 a15 : Nat, rowsL[r]? = some [a0, a1, a2, a3, a4, a5, a6, a7, a8, a9, a10, a11, a12, a13, a14, a15] ∧ a0 < 16 ∧ a1 < 16 ∧ a2 < 16 ∧ a3 < 16 ∧ a4 < 16 ∧ a5 < 16 ∧ a6 < 16 ∧ a7 < 16 ∧ a8 < 16 ∧ a9 < 16 ∧ a10 < 16 ∧ a11 < 16 ∧ a12 < 16 ∧ a13 < 16 ∧ a14 < 16 ∧ a15 < 16 := by
  have : r = 0 ∨ r = 1 ∨ r = 2 ∨ r = 3 ∨ r = 4 ∨ r = 5 ∨ r = 6 ∨ r = 7 ∨ r = 8 ∨ r = 9 := by omega
  rcases this with rfl | rfl | rfl | rfl | rfl | rfl | rfl | rfl | rfl | rfl <;> exact ⟨_, _, _, _, _, _, _, _, _, _, _, _, _, _, _, _, rfl, by decide⟩
end Silo
namespace Go.Proofs.Ytnddlhjafkhdoaa
open Go Go.Eng Go.RowKit Silo TryT
theorem rows_part (r : Nat) (h : r < 10) (l : List Nat) (hr : rowsL[r]? = some l) : (rowsV.drop (0 + r * 16)).take 16 = l.map fun n => I ((n : Nat) : Int) := by
  have : r = 0 ∨ r = 1 ∨ r = 2 ∨ r = 3 ∨ r = 4 ∨ r = 5 ∨ r = 6 ∨ r = 7 ∨ r = 8 ∨ r = 9 := by omega
  rcases this with rfl | rfl | rfl | rfl | rfl | rfl | rfl | rfl | rfl | rfl <;> (injection hr with hr; subst hr; rfl)
theorem one_rows : ∀ v ∈ rowsV, v.oneCell' = true := fun v hv => by
  obtain ⟨l, _, hl⟩ := List.mem_flatMap.1 hv
  obtain ⟨n, _, rfl⟩ := List.mem_map.1 hl
  rfl
theorem load_row {env : Env} {w : World} {x : Operand} {ty : TypeId} {b r : Nat} {l : List Nat} {T : TypeId} (hb : Blk w b rowsV T) (hx : evO env x = some (.pointer (some ⟨b, 0 + ((r : Nat) : Int).toNat * 16, none⟩))) (h : r < 10) (hr : rowsL[r]? = some l) :
    Val Try.prog env w (.load 157 x) ty (.agg (l.map fun n => I ((n : Nat) : Int)).toArray) := by
  have h1 := Val.loadSub (ty := ty) agg157 hx hb (by rw [show rowsV.length = 160 from rfl]; omega)
  rwa [Int.toNat_natCast, rows_part r h l hr] at h1
abbrev d8 : TypeId := 137

set_option maxHeartbeats 2000000 in
theorem rblock_ok {w : World} {b : Nat} {h : List Int} (hb : Blk w b (h.map W32 ++ []) d8) (hl : h.length = 8) (s : List UInt8) (hs : s.length ≤ 64) (n : Int) (h0 : 0 ≤ n) (hn : n < 9223372036854775808) (last : Bool) :
    Calls Try.prog 116 #[.pointer (some ⟨b, 0, none⟩), St s, .int .u64 n, .bool last] w (Ret fun v w' => w.grownBy w' (some b) ∧ Blk w' b ((blockS h s n last).map W32 ++ []) d8) := by
  obtain ⟨c, hc⟩ : ∃ c : Nat → Nat, c = oneC b := ⟨_, rfl⟩
  have hbh : BlkC c w 2 b (h.map W32 ++ []) d8 := ⟨hb, by rw [hc, oneC_at]⟩
  have hA : Acc c w [2, 108, 110, 111, 113, 115] c w := Acc.refl _ _ _
  clear hb
  refine enter (n := 177) (res := #[]) Try.func116 rfl rfl rfl rfl ?_
  refine cseq <| cregion ?_
  refine WR.eff (Eff.allocC c 108 zero156) rfl ?_
  rintro _ w1 ⟨b8, c1, rfl, hM1, hb8⟩
  replace hbh := hbh.mv hM1 rfl; replace hA := hA.mv hM1 rfl
  refine cnil <| cseq <| cseq <| cregion <| qq (Val.assign rfl) rfl <| cnil <| cblock ?_
  replace hb8 : BlkC _ _ 108 b8 ((wk s 0).map W32 ++ []) dV := hb8
  refine WC.loop (σ := Nat) (fun k => [(0, .pointer (some ⟨b, 0, none⟩)), (1, St s), (2, .int .u64 n), (3, .bool last), (8, .pointer (some ⟨b8, 0, none⟩)), (9, I k)]) (fun k w' => ∃ c', BlkC c' w' 2 b (h.map W32 ++ []) d8 ∧ BlkC c' w' 108 b8 ((wk s k).map W32 ++ []) dV ∧ Acc c w [2, 108, 110, 111, 113, 115] c' w' ∧ k ≤ s.length) (fun k => s.length - k) 0 (by repeat (first | exact Sub.nil _ | refine Sub.cons rfl ?_ | refine Sub.consM rfl ?_)) ⟨_, hbh, hb8, hA, by omega⟩ ?_
  clear hbh hb8 hA
  rintro k wl ⟨cl, hbh, hb8, hA, hk⟩
  have hlw := wk_length s k
  refine cseq <| cseq <| cregion <| qq (Val.move rfl) rfl <| qq (Val.move rfl) rfl <| qq (Val.slen Try.underlying9 rfl) rfl <| qq (Val.lss rfl rfl) rfl <| cnil ?_
  refine WC.cond rfl (fun hc2 => ?_) (fun hc2 => ?_)
  ·try simp only [tstS] at hc2
   have hkl : k < s.length := by omega
   refine cskip <| cseq <| cblock ?_
   refine WC.regionD (Kp cl wl []) [0, 0, 0, 0, 0, 1, 0, 0, 0, 0, 0, 0, 0, 0, 0, 0, 3] [0, 1, 2, 3, 4, 5, 6, 7, 8, 9, 10, 11, 12, 13, 14, 15, 16] mixed (by kernel_rfl) ?_
   have hM2 := Mv.drew cl wl []
   have hCw := Mv.drew cl wl []
   generalize wl.drew = w2 at hM2 hCw ⊢
   have hbh0 := hbh
   have hb80 := hb8
   replace hbh := hbh.mv hM2 rfl; replace hA := hA.mv hM2 rfl; replace hb8 := hb8.mv hM2 rfl
   refine qd rfl rfl rfl (fun _ => Val.move rfl) rfl <| qd rfl rfl rfl (fun _ => Val.quoI rfl rfl (by first | omega | assumption | (simp; omega) | (simp; done)) (by first | omega | assumption | (simp; omega) | (simp; done)) (by first | omega | assumption | (simp; omega) | (simp; done))) rfl <| qd rfl rfl rfl (fun _ => Val.move rfl) rfl <| qd rfl rfl rfl (fun _ => Val.quoI rfl rfl (by first | omega | assumption | (simp; omega) | (simp; done)) (by first | omega | assumption | (simp; omega) | (simp; done)) (by first | omega | assumption | (simp; omega) | (simp; done))) rfl <| qd rfl rfl rfl (fun _ => Val.indexArr arr156 rfl rfl (by first | omega | assumption | (simp; omega) | (simp; done)) (by first | omega | assumption | (simp; omega) | (simp; done))) rfl <| qc rfl rfl rfl hCw.kp (fun W hW => Val.loadW scl136 rfl (hb80.kp hW rfl).blk (by first | omega | assumption | (simp; omega) | (simp; done))) rfl <| qd rfl rfl rfl (fun _ => Val.move rfl) rfl <| qd rfl rfl rfl (fun _ => Val.move rfl) rfl <| qd rfl rfl rfl (fun _ => Val.sindex Try.underlying9 rfl rfl (by omega) (List.getElem?_eq_getElem hkl)) rfl ?_
   refine qd rfl rfl rfl (fun _ => Val.convToU32 Try.underlying5 Try.underlying136 rfl) rfl <| qd rfl rfl rfl (fun _ => Val.move rfl) rfl <| qd rfl rfl rfl (fun _ => Val.remI rfl rfl (by first | omega | assumption | (simp; omega) | (simp; done)) (by first | omega | assumption | (simp; omega) | (simp; done))) rfl <| qd rfl rfl rfl (fun _ => Val.mulI rfl rfl (by first | omega | assumption | (simp; omega) | (simp; done)) (by first | omega | assumption | (simp; omega) | (simp; done))) rfl <| qd rfl rfl rfl (fun _ => Val.shl_u32 rfl rfl (by first | omega | assumption | (simp; omega) | (simp; done)) (by first | omega | assumption | (simp; omega) | (simp; done))) rfl <| qd rfl rfl rfl (fun _ => Val.or_u32 rfl rfl) rfl <| qd rfl rfl rfl (fun _ => Val.indexArr arr156 rfl rfl (by first | omega | assumption | (simp; omega) | (simp; done)) (by first | omega | assumption | (simp; omega) | (simp; done))) rfl ?_
   refine WD.wild rfl rfl rfl (Eff.storeW scl136 rfl rfl hb8 (by first | omega | assumption | (simp; omega) | (simp; done))) ?_
   rintro _ w3 ⟨hS, hM3⟩
   replace hbh := hbh.mv hM3 rfl; replace hA := hA.mv hM3 rfl
   replace hb8 := hS
   refine WD.nil ?_
   clear hbh0 hb80
   clear hCw
   refine cregion <| qq (Val.move rfl) rfl <| qq (Val.addI rfl rfl (by first | omega | assumption | (simp; omega) | (simp; done)) (by first | omega | assumption | (simp; omega) | (simp; done))) rfl <| qq (Val.assign rfl) rfl <| cnil ?_
   rw [wk_step hkl] at hb8
   exact ⟨k + 1, (by repeat (first | exact Sub.nil _ | refine Sub.cons rfl ?_ | refine Sub.consM rfl ?_)), ⟨_, hbh, hb8, hA, hkl⟩, by omega⟩
  ·try simp only [tstS] at hc2
   have : k = s.length := by omega
   subst this
   refine WC.exit rfl ?_
   refine cseq <| cregion ?_
   refine WR.eff (Eff.allocC cl 110 zero156) rfl ?_
   rintro _ w4 ⟨b10, c4, rfl, hM4, hb10⟩
   replace hbh := hbh.mv hM4 rfl; replace hA := hA.mv hM4 rfl; replace hb8 := hb8.mv hM4 rfl
   refine cnil <| cseq <| cregion ?_
   refine WR.eff (Eff.pureC c4 1 (Eff.call pf115 rfl (rbegins_ok))) rfl ?_
   rintro v39 w5 ⟨c5, hM5, hx5, rfl⟩
   replace hbh := hbh.mv hM5 rfl; replace hA := hA.mv hM5 rfl; replace hb8 := hb8.mv hM5 rfl; replace hb10 := hb10.mv hM5 rfl
   refine WR.eff (Eff.allocC c5 111 zero137) rfl ?_
   rintro _ w6 ⟨b11, c6, rfl, hM6, hb11⟩
   replace hbh := hbh.mv hM6 rfl; replace hA := hA.mv hM6 rfl; replace hb8 := hb8.mv hM6 rfl; replace hb10 := hb10.mv hM6 rfl
   refine WR.eff_ (Eff.storeNC agg137 rfl rfl hb11 rfl rfl (by repeat (first | exact List.forall_mem_nil _ | refine List.forall_mem_cons.2 ⟨by first | rfl | assumption, ?_⟩))) ?_
   rintro _ w7 ⟨hS, hM7⟩
   replace hbh := hbh.mv hM7 rfl; replace hA := hA.mv hM7 rfl; replace hb8 := hb8.mv hM7 rfl; replace hb10 := hb10.mv hM7 rfl
   replace hb11 := hS
   refine cnil ?_
   replace hb11 := BlkC.words (l := beginsL) hb11
   refine cseq <| cseq <| cregion <| qq (Val.assign rfl) rfl <| cnil <| cblock ?_
   replace hb10 : BlkC _ _ 110 b10 ((vk h 0).map W32 ++ []) dV := hb10
   refine WC.loop (σ := Nat) (fun k => [(0, .pointer (some ⟨b, 0, none⟩)), (1, St s), (2, .int .u64 n), (3, .bool last), (8, .pointer (some ⟨b8, 0, none⟩)), (10, .pointer (some ⟨b10, 0, none⟩)), (11, .pointer (some ⟨b11, 0, none⟩)), (12, I k)]) (fun k w' => ∃ c', BlkC c' w' 2 b (h.map W32 ++ []) d8 ∧ BlkC c' w' 108 b8 ((wordsS s).map W32 ++ []) dV ∧ BlkC c' w' 110 b10 ((vk h k).map W32 ++ []) dV ∧ BlkC c' w' 111 b11 (beginsL.map W32 ++ []) d8 ∧ Acc c w [2, 108, 110, 111, 113, 115] c' w' ∧ k ≤ 8) (fun k => 8 - k) 0 (by repeat (first | exact Sub.nil _ | refine Sub.cons rfl ?_ | refine Sub.consM rfl ?_)) ⟨_, hbh, hb8, hb10, hb11, hA, by omega⟩ ?_
   clear hbh hb8 hb10 hb11 hA
   rintro k wm ⟨cm, hbh, hb8, hb10, hb11, hA, hk⟩
   have hlv := vk_length h k
   have hlb : beginsL.length = 8 := rfl
   refine cseq <| cseq <| cregion <| qq (Val.move rfl) rfl <| qq (Val.lss rfl rfl) rfl <| cnil ?_
   refine WC.cond rfl (fun hc8 => ?_) (fun hc8 => ?_)
   ·try simp only [tstS] at hc8
    have hk8 : k < 8 := by omega
    refine cskip <| cseq <| cblock ?_
    refine WC.regionD (Kp cm wm [110]) [0, 0, 0, 0, 0, 0, 0, 1, 0, 0, 1, 0, 2, 0, 2] [0, 1, 2, 3, 4, 5, 6, 7, 8, 9, 10, 11, 12, 13, 14] mixed (by kernel_rfl) ?_
    have hM8 := Mv.drew cm wm []
    have hCw := Mv.drew cm wm [110]
    generalize wm.drew = w8 at hM8 hCw ⊢
    have hbh0 := hbh
    have hb80 := hb8
    have hb100 := hb10
    have hb110 := hb11
    replace hbh := hbh.mv hM8 rfl; replace hA := hA.mv hM8 rfl; replace hb8 := hb8.mv hM8 rfl; replace hb10 := hb10.mv hM8 rfl; replace hb11 := hb11.mv hM8 rfl
    refine qd rfl rfl rfl (fun _ => Val.move rfl) rfl <| qd rfl rfl rfl (fun _ => Val.move rfl) rfl <| qd rfl rfl rfl (fun _ => Val.addI rfl rfl (by first | omega | assumption | (simp; omega) | (simp; done)) (by first | omega | assumption | (simp; omega) | (simp; done))) rfl <| qd rfl rfl rfl (fun _ => Val.move rfl) rfl <| qd rfl rfl rfl (fun _ => Val.move rfl) rfl <| qd rfl rfl rfl (fun _ => Val.nilCheck rfl) rfl <| qd rfl rfl rfl (fun _ => Val.indexArr arr137 rfl rfl (by first | omega | assumption | (simp; omega) | (simp; done)) (by first | omega | assumption | (simp; omega) | (simp; done))) rfl <| qc rfl rfl rfl hCw.kp (fun W hW => Val.loadW scl136 rfl (hbh0.kp hW rfl).blk (by first | omega | assumption | (simp; omega) | (simp; done))) rfl <| qd rfl rfl rfl (fun _ => Val.move rfl) rfl ?_
    refine qd rfl rfl rfl (fun _ => Val.indexArr arr137 rfl rfl (by first | omega | assumption | (simp; omega) | (simp; done)) (by first | omega | assumption | (simp; omega) | (simp; done))) rfl <| qc rfl rfl rfl hCw.kp (fun W hW => Val.loadW scl136 rfl (hb110.kp hW rfl).blk (by first | omega | assumption | (simp; omega) | (simp; done))) rfl <| qd rfl rfl rfl (fun _ => Val.indexArr arr156 rfl rfl (by first | omega | assumption | (simp; omega) | (simp; done)) (by first | omega | assumption | (simp; omega) | (simp; done))) rfl ?_
    refine WD.eff_ rfl rfl rfl (Eff.storeW scl136 rfl rfl hb10 (by first | omega | assumption | (simp; omega) | (simp; done))) ?_
    rintro _ w9 ⟨hS, hM9⟩
    refine ⟨fun hC => hC.step hCw hM9 rfl, ?_⟩
    replace hCw := hCw.tr hM9 rfl
    replace hbh := hbh.mv hM9 rfl; replace hA := hA.mv hM9 rfl; replace hb8 := hb8.mv hM9 rfl; replace hb11 := hb11.mv hM9 rfl
    replace hb10 := hS
    refine qd rfl rfl rfl (fun _ => Val.indexArr arr156 rfl rfl (by first | omega | assumption | (simp; omega) | (simp; done)) (by first | omega | assumption | (simp; omega) | (simp; done))) rfl ?_
    refine WD.eff_ rfl rfl rfl (Eff.storeW scl136 rfl rfl hb10 (by first | omega | assumption | (simp; omega) | (simp; done))) ?_
    rintro _ w10 ⟨hS, hM10⟩
    refine ⟨fun hC => hC.step hCw hM10 rfl, ?_⟩
    replace hCw := hCw.tr hM10 rfl
    replace hbh := hbh.mv hM10 rfl; replace hA := hA.mv hM10 rfl; replace hb8 := hb8.mv hM10 rfl; replace hb11 := hb11.mv hM10 rfl
    replace hb10 := hS
    refine WD.nil ?_
    clear hbh0 hb80 hb100 hb110
    clear hCw
    refine cregion <| qq (Val.move rfl) rfl <| qq (Val.addI rfl rfl (by first | omega | assumption | (simp; omega) | (simp; done)) (by first | omega | assumption | (simp; omega) | (simp; done))) rfl <| qq (Val.assign rfl) rfl <| cnil ?_
    simp only [Int.toNat_natCast, show ((k : Int) + 8).toNat = k + 8 by omega] at hb10
    rw [← vk_succ] at hb10
    exact ⟨k + 1, (by repeat (first | exact Sub.nil _ | refine Sub.cons rfl ?_ | refine Sub.consM rfl ?_)), ⟨_, hbh, hb8, hb10, hb11, hA, by omega⟩, by omega⟩
   ·try simp only [tstS] at hc8
    have : k = 8 := by omega
    subst this
    rw [vk_eight hl] at hb10
    have hlv : (h ++ beginsL).length = 16 := by rw [List.length_append, hl]; rfl
    refine WC.exit rfl ?_
    refine cseq <| cregion <| qq (Val.indexArr arr156 rfl rfl (by first | omega | assumption | (simp; omega) | (simp; done)) (by first | omega | assumption | (simp; omega) | (simp; done))) rfl <| qq (Val.loadW scl136 rfl hb10.blk (by first | omega | assumption | (simp; omega) | (simp; done))) rfl <| qq (Val.move rfl) rfl <| qq (Val.convToU32 Try.underlying141 Try.underlying136 rfl) rfl <| qq (Val.xor_u32 rfl rfl) rfl <| qq (Val.indexArr arr156 rfl rfl (by first | omega | assumption | (simp; omega) | (simp; done)) (by first | omega | assumption | (simp; omega) | (simp; done))) rfl ?_
    refine WR.eff_ (Eff.storeW scl136 rfl rfl hb10 (by first | omega | assumption | (simp; omega) | (simp; done))) ?_
    rintro _ w11 ⟨hS, hM11⟩
    replace hbh := hbh.mv hM11 rfl; replace hA := hA.mv hM11 rfl; replace hb8 := hb8.mv hM11 rfl; replace hb11 := hb11.mv hM11 rfl
    replace hb10 := hS
    refine cnil <| cseq <| cregion <| qq (Val.indexArr arr156 rfl rfl (by first | omega | assumption | (simp; omega) | (simp; done)) (by first | omega | assumption | (simp; omega) | (simp; done))) rfl <| qq (Val.loadW scl136 rfl hb10.blk (by first | omega | assumption | (simp; omega) | (simp; done))) rfl <| qq (Val.move rfl) rfl <| qq (Val.shr rfl rfl (by first | omega | assumption | (simp; omega) | (simp; done)) (by simp [IntKind.bits] <;> omega)) rfl <| qq (Val.convToU32 Try.underlying141 Try.underlying136 rfl) rfl <| qq (Val.xor_u32 rfl rfl) rfl ?_
    refine qq (Val.indexArr arr156 rfl rfl (by first | omega | assumption | (simp; omega) | (simp; done)) (by first | omega | assumption | (simp; omega) | (simp; done))) rfl ?_
    refine WR.eff_ (Eff.storeW scl136 rfl rfl hb10 (by first | omega | assumption | (simp; omega) | (simp; done))) ?_
    rintro _ w12 ⟨hS, hM12⟩
    replace hbh := hbh.mv hM12 rfl; replace hA := hA.mv hM12 rfl; replace hb8 := hb8.mv hM12 rfl; replace hb11 := hb11.mv hM12 rfl
    replace hb10 := hS
    refine cnil ?_
    rw [show (2 : Int) ^ (32 : Int).toNat = 4294967296 by decide] at hb10
    refine cseq <| cseq <| cregion <| qq (Val.move rfl) rfl <| cnil ?_
    refine WC.mono (N := fun e w' => ∃ c', Sub [(4000000, .tuple #[]), (0, .pointer (some ⟨b, 0, none⟩)), (8, .pointer (some ⟨b8, 0, none⟩)), (10, .pointer (some ⟨b10, 0, none⟩))] e ∧ BlkC c' w' 2 b (h.map W32 ++ []) d8 ∧ BlkC c' w' 108 b8 ((wordsS s).map W32 ++ []) dV ∧ BlkC c' w' 110 b10 ((startV h n last).map W32 ++ []) dV ∧ Acc c w [2, 108, 110, 111, 113, 115] c' w') ?_ ?_
    ·refine WC.cond rfl (fun hc13 => ?_) (fun hc13 => ?_)
     ·try simp only [tstS] at hc13
      refine cregion <| qq (Val.indexArr arr156 rfl rfl (by first | omega | assumption | (simp; omega) | (simp; done)) (by first | omega | assumption | (simp; omega) | (simp; done))) rfl <| qq (Val.loadW scl136 rfl hb10.blk (by first | omega | assumption | (simp; omega) | (simp; done))) rfl <| qq (Val.un_xor rfl) rfl <| qq (Val.indexArr arr156 rfl rfl (by first | omega | assumption | (simp; omega) | (simp; done)) (by first | omega | assumption | (simp; omega) | (simp; done))) rfl ?_
      refine WR.eff_ (Eff.storeW scl136 rfl rfl hb10 (by first | omega | assumption | (simp; omega) | (simp; done))) ?_
      rintro _ w13 ⟨hS, hM13⟩
      replace hbh := hbh.mv hM13 rfl; replace hA := hA.mv hM13 rfl; replace hb8 := hb8.mv hM13 rfl; replace hb11 := hb11.mv hM13 rfl
      replace hb10 := hS
      refine cnil ?_
      exact ⟨_, (by repeat (first | exact Sub.nil _ | refine Sub.cons rfl ?_ | refine Sub.consM rfl ?_)), hbh, hb8, by rw [startV, hc13]; exact hb10, hA⟩
     ·try simp only [tstS] at hc13
      refine cskip ?_
      exact ⟨_, (by repeat (first | exact Sub.nil _ | refine Sub.cons rfl ?_ | refine Sub.consM rfl ?_)), hbh, hb8, by rw [startV, hc13]; exact hb10, hA⟩
    ·skip
     rintro e9 w9 ⟨c9, hsub, hbh, hb8, hb10, hA⟩
     refine WC.sub hsub ?_
     clear hsub e9
     have hlw : (wordsS s).length = 16 := wordsS_length s
     refine cseq <| cregion ?_
     refine WR.eff (Eff.pureC c9 1 (Eff.call pf134 rfl (rows_ok))) rfl ?_
     rintro v75 w14 ⟨c14, hM14, hx14, rfl⟩
     replace hbh := hbh.mv hM14 rfl; replace hb8 := hb8.mv hM14 rfl; replace hb10 := hb10.mv hM14 rfl; replace hA := hA.mv hM14 rfl
     refine WR.eff (Eff.allocC c14 113 zero158) rfl ?_
     rintro _ w15 ⟨b13, c15, rfl, hM15, hb13⟩
     replace hbh := hbh.mv hM15 rfl; replace hb8 := hb8.mv hM15 rfl; replace hb10 := hb10.mv hM15 rfl; replace hA := hA.mv hM15 rfl
     refine WR.eff_ (Eff.storeNC agg158 rfl rfl hb13 rfl rfl one_rows) ?_
     rintro _ wA ⟨hS, hMA⟩
     replace hbh := hbh.mv hMA rfl; replace hb8 := hb8.mv hMA rfl; replace hb10 := hb10.mv hMA rfl; replace hA := hA.mv hMA rfl; replace hb13 := hS
     refine cnil <| cseq <| cseq <| cregion <| qq (Val.assign rfl) rfl <| cnil <| cblock ?_
     refine WC.loop (σ := Nat) (fun r => [(0, .pointer (some ⟨b, 0, none⟩)), (8, .pointer (some ⟨b8, 0, none⟩)), (10, .pointer (some ⟨b10, 0, none⟩)), (13, .pointer (some ⟨b13, 0, none⟩)), (14, I r)]) (fun r w' => ∃ c', BlkC c' w' 2 b (h.map W32 ++ []) d8 ∧ BlkC c' w' 108 b8 ((wordsS s).map W32 ++ []) dV ∧ BlkC c' w' 110 b10 ((rk (wordsS s) (startV h n last) r).map W32 ++ []) dV ∧ BlkC c' w' 113 b13 rowsV 158 ∧ Acc c w [2, 108, 110, 111, 113, 115] c' w' ∧ r ≤ 10) (fun r => 10 - r) 0 (by repeat (first | exact Sub.nil _ | refine Sub.cons rfl ?_ | refine Sub.consM rfl ?_)) ⟨_, hbh, hb8, hb10, hb13, hA, by omega⟩ ?_
     clear hbh hb8 hb10 hb13 hA
     rintro r wr ⟨cr, hbh, hb8, hb10, hb13, hA, hr⟩
     have hlr : (rk (wordsS s) (startV h n last) r).length = 16 := by rw [rk_length, startV_length hl]
     refine cseq <| cseq <| cregion <| qq (Val.move rfl) rfl <| qq (Val.lss rfl rfl) rfl <| cnil ?_
     refine WC.cond rfl (fun hc17 => ?_) (fun hc17 => ?_)
     ·try simp only [tstS] at hc17
      have hr10 : r < 10 := by omega
      generalize e0 : rk (wordsS s) (startV h n last) r = V0 at hb10 hlr
      obtain ⟨a0, a1, a2, a3, a4, a5, a6, a7, a8, a9, a10, a11, a12, a13, a14, a15, hrow, q0, q1, q2, q3, q4, q5, q6, q7, q8, q9, q10, q11, q12, q13, q14, q15⟩ := row_form r hr10
      refine cskip <| cseq <| cblock <| cseq <| cregion <| qq (Val.move rfl) rfl <| qq (Val.indexArr arr158 rfl rfl (by first | omega | assumption | (simp; omega) | (simp; done)) (by first | omega | assumption | (simp; omega) | (simp; done))) rfl ?_
      refine WR.val (load_row hb13.blk rfl hr10 hrow) rfl ?_
      refine WR.eff (Eff.allocC cr 115 zero157) rfl ?_
      rintro _ w16 ⟨b15, c16, rfl, hM16, hb15⟩
      replace hbh := hbh.mv hM16 rfl; replace hb8 := hb8.mv hM16 rfl; replace hb10 := hb10.mv hM16 rfl; replace hA := hA.mv hM16 rfl; replace hb13 := hb13.mv hM16 rfl
      refine WR.eff_ (Eff.storeNC agg157 rfl rfl hb15 rfl rfl (by repeat (first | exact List.forall_mem_nil _ | refine List.forall_mem_cons.2 ⟨by first | rfl | assumption, ?_⟩))) ?_
      rintro _ w17 ⟨hS, hM17⟩
      replace hbh := hbh.mv hM17 rfl; replace hb8 := hb8.mv hM17 rfl; replace hb10 := hb10.mv hM17 rfl; replace hA := hA.mv hM17 rfl; replace hb13 := hb13.mv hM17 rfl
      replace hb15 := hS
      refine cnil <| cseq ?_
      refine WC.regionD (Kp c16 w17 [110]) [0, 1, 0, 1, 0, 1, 0, 1, 2] [0, 1, 2, 3, 4, 5, 6, 7, 8] mixed (by kernel_rfl) ?_
      have hM18 := Mv.drew c16 w17 []
      have hCw := Mv.drew c16 w17 [110]
      generalize w17.drew = w18 at hM18 hCw ⊢
      have hbh0 := hbh
      have hb80 := hb8
      have hb100 := hb10
      have hb130 := hb13
      have hb150 := hb15
      replace hbh := hbh.mv hM18 rfl; replace hb8 := hb8.mv hM18 rfl; replace hb10 := hb10.mv hM18 rfl; replace hA := hA.mv hM18 rfl; replace hb13 := hb13.mv hM18 rfl; replace hb15 := hb15.mv hM18 rfl
      refine qd rfl rfl rfl (fun _ => Val.indexArr arr157 rfl rfl (by first | omega | assumption | (simp; omega) | (simp; done)) (by first | omega | assumption | (simp; omega) | (simp; done))) rfl <| qc rfl rfl rfl hCw.kp (fun W hW => Val.loadB scl3 rfl (hb150.kp hW rfl).blk rfl) rfl <| qd rfl rfl rfl (fun _ => Val.indexArr arr156 rfl rfl (by first | omega | assumption | (simp; omega) | (simp; done)) (by first | omega | assumption | (simp; omega) | (simp; done))) rfl <| qc rfl rfl rfl hCw.kp (fun W hW => Val.loadW scl136 rfl (hb80.kp hW rfl).blk (by first | omega | assumption | (simp; omega) | (simp; done))) rfl <| qd rfl rfl rfl (fun _ => Val.indexArr arr157 rfl rfl (by first | omega | assumption | (simp; omega) | (simp; done)) (by first | omega | assumption | (simp; omega) | (simp; done))) rfl <| qc rfl rfl rfl hCw.kp (fun W hW => Val.loadB scl3 rfl (hb150.kp hW rfl).blk rfl) rfl <| qd rfl rfl rfl (fun _ => Val.indexArr arr156 rfl rfl (by first | omega | assumption | (simp; omega) | (simp; done)) (by first | omega | assumption | (simp; omega) | (simp; done))) rfl <| qc rfl rfl rfl hCw.kp (fun W hW => Val.loadW scl136 rfl (hb80.kp hW rfl).blk (by first | omega | assumption | (simp; omega) | (simp; done))) rfl ?_
      refine WD.eff rfl rfl rfl (Eff.turnC hb10 (Eff.call pf135 rfl (rmix_ok hb10.blk hlr 0 4 8 12 (by decide) (by decide) (by decide) (by decide) _ _))) rfl ?_
      rintro v91 w19 ⟨c19, hM19, hb10⟩
      refine ⟨fun hC => hC.step hCw hM19 rfl, ?_⟩
      replace hCw := hCw.tr hM19 rfl
      replace hbh := hbh.mv hM19 rfl; replace hb8 := hb8.mv hM19 rfl; replace hA := hA.mv hM19 rfl; replace hb13 := hb13.mv hM19 rfl; replace hb15 := hb15.mv hM19 rfl
      simp only [Int.toNat_natCast] at hb10
      have hlr1 := mixS_length V0 0 4 8 12 (gW (wordsS s) a0) (gW (wordsS s) a1)
      rw [hlr] at hlr1
      generalize e1 : mixS V0 0 4 8 12 _ _ = V1 at hb10 hlr1
      replace hlr := hlr1
      refine WD.nil ?_
      clear hbh0 hb80 hb100 hb130 hb150
      clear hCw
      refine cseq ?_
      refine WC.regionD (Kp c19 w19 [110]) [0, 1, 0, 1, 0, 1, 0, 1, 2] [0, 1, 2, 3, 4, 5, 6, 7, 8] mixed (by kernel_rfl) ?_
      have hM20 := Mv.drew c19 w19 []
      have hCw := Mv.drew c19 w19 [110]
      generalize w19.drew = w20 at hM20 hCw ⊢
      have hbh0 := hbh
      have hb80 := hb8
      have hb100 := hb10
      have hb130 := hb13
      have hb150 := hb15
      replace hbh := hbh.mv hM20 rfl; replace hb8 := hb8.mv hM20 rfl; replace hb10 := hb10.mv hM20 rfl; replace hA := hA.mv hM20 rfl; replace hb13 := hb13.mv hM20 rfl; replace hb15 := hb15.mv hM20 rfl
      refine qd rfl rfl rfl (fun _ => Val.indexArr arr157 rfl rfl (by first | omega | assumption | (simp; omega) | (simp; done)) (by first | omega | assumption | (simp; omega) | (simp; done))) rfl <| qc rfl rfl rfl hCw.kp (fun W hW => Val.loadB scl3 rfl (hb150.kp hW rfl).blk rfl) rfl <| qd rfl rfl rfl (fun _ => Val.indexArr arr156 rfl rfl (by first | omega | assumption | (simp; omega) | (simp; done)) (by first | omega | assumption | (simp; omega) | (simp; done))) rfl <| qc rfl rfl rfl hCw.kp (fun W hW => Val.loadW scl136 rfl (hb80.kp hW rfl).blk (by first | omega | assumption | (simp; omega) | (simp; done))) rfl <| qd rfl rfl rfl (fun _ => Val.indexArr arr157 rfl rfl (by first | omega | assumption | (simp; omega) | (simp; done)) (by first | omega | assumption | (simp; omega) | (simp; done))) rfl <| qc rfl rfl rfl hCw.kp (fun W hW => Val.loadB scl3 rfl (hb150.kp hW rfl).blk rfl) rfl <| qd rfl rfl rfl (fun _ => Val.indexArr arr156 rfl rfl (by first | omega | assumption | (simp; omega) | (simp; done)) (by first | omega | assumption | (simp; omega) | (simp; done))) rfl <| qc rfl rfl rfl hCw.kp (fun W hW => Val.loadW scl136 rfl (hb80.kp hW rfl).blk (by first | omega | assumption | (simp; omega) | (simp; done))) rfl ?_
      refine WD.eff rfl rfl rfl (Eff.turnC hb10 (Eff.call pf135 rfl (rmix_ok hb10.blk hlr 1 5 9 13 (by decide) (by decide) (by decide) (by decide) _ _))) rfl ?_
      rintro v100 w21 ⟨c21, hM21, hb10⟩
      refine ⟨fun hC => hC.step hCw hM21 rfl, ?_⟩
      replace hCw := hCw.tr hM21 rfl
      replace hbh := hbh.mv hM21 rfl; replace hb8 := hb8.mv hM21 rfl; replace hA := hA.mv hM21 rfl; replace hb13 := hb13.mv hM21 rfl; replace hb15 := hb15.mv hM21 rfl
      simp only [Int.toNat_natCast] at hb10
      have hlr2 := mixS_length V1 1 5 9 13 (gW (wordsS s) a2) (gW (wordsS s) a3)
      rw [hlr] at hlr2
      generalize e2 : mixS V1 1 5 9 13 _ _ = V2 at hb10 hlr2
      replace hlr := hlr2
      refine WD.nil ?_
      clear hbh0 hb80 hb100 hb130 hb150
      clear hCw
      refine cseq ?_
      refine WC.regionD (Kp c21 w21 [110]) [0, 1, 0, 1, 0, 1, 0, 1, 2] [0, 1, 2, 3, 4, 5, 6, 7, 8] mixed (by kernel_rfl) ?_
      have hM22 := Mv.drew c21 w21 []
      have hCw := Mv.drew c21 w21 [110]
      generalize w21.drew = w22 at hM22 hCw ⊢
      have hbh0 := hbh
      have hb80 := hb8
      have hb100 := hb10
      have hb130 := hb13
      have hb150 := hb15
      replace hbh := hbh.mv hM22 rfl; replace hb8 := hb8.mv hM22 rfl; replace hb10 := hb10.mv hM22 rfl; replace hA := hA.mv hM22 rfl; replace hb13 := hb13.mv hM22 rfl; replace hb15 := hb15.mv hM22 rfl
      refine qd rfl rfl rfl (fun _ => Val.indexArr arr157 rfl rfl (by first | omega | assumption | (simp; omega) | (simp; done)) (by first | omega | assumption | (simp; omega) | (simp; done))) rfl <| qc rfl rfl rfl hCw.kp (fun W hW => Val.loadB scl3 rfl (hb150.kp hW rfl).blk rfl) rfl <| qd rfl rfl rfl (fun _ => Val.indexArr arr156 rfl rfl (by first | omega | assumption | (simp; omega) | (simp; done)) (by first | omega | assumption | (simp; omega) | (simp; done))) rfl <| qc rfl rfl rfl hCw.kp (fun W hW => Val.loadW scl136 rfl (hb80.kp hW rfl).blk (by first | omega | assumption | (simp; omega) | (simp; done))) rfl <| qd rfl rfl rfl (fun _ => Val.indexArr arr157 rfl rfl (by first | omega | assumption | (simp; omega) | (simp; done)) (by first | omega | assumption | (simp; omega) | (simp; done))) rfl <| qc rfl rfl rfl hCw.kp (fun W hW => Val.loadB scl3 rfl (hb150.kp hW rfl).blk rfl) rfl <| qd rfl rfl rfl (fun _ => Val.indexArr arr156 rfl rfl (by first | omega | assumption | (simp; omega) | (simp; done)) (by first | omega | assumption | (simp; omega) | (simp; done))) rfl <| qc rfl rfl rfl hCw.kp (fun W hW => Val.loadW scl136 rfl (hb80.kp hW rfl).blk (by first | omega | assumption | (simp; omega) | (simp; done))) rfl ?_
      refine WD.eff rfl rfl rfl (Eff.turnC hb10 (Eff.call pf135 rfl (rmix_ok hb10.blk hlr 2 6 10 14 (by decide) (by decide) (by decide) (by decide) _ _))) rfl ?_
      rintro v109 w23 ⟨c23, hM23, hb10⟩
      refine ⟨fun hC => hC.step hCw hM23 rfl, ?_⟩
      replace hCw := hCw.tr hM23 rfl
      replace hbh := hbh.mv hM23 rfl; replace hb8 := hb8.mv hM23 rfl; replace hA := hA.mv hM23 rfl; replace hb13 := hb13.mv hM23 rfl; replace hb15 := hb15.mv hM23 rfl
      simp only [Int.toNat_natCast] at hb10
      have hlr3 := mixS_length V2 2 6 10 14 (gW (wordsS s) a4) (gW (wordsS s) a5)
      rw [hlr] at hlr3
      generalize e3 : mixS V2 2 6 10 14 _ _ = V3 at hb10 hlr3
      replace hlr := hlr3
      refine WD.nil ?_
      clear hbh0 hb80 hb100 hb130 hb150
      clear hCw
      refine cseq ?_
      refine WC.regionD (Kp c23 w23 [110]) [0, 1, 0, 1, 0, 1, 0, 1, 2] [0, 1, 2, 3, 4, 5, 6, 7, 8] mixed (by kernel_rfl) ?_
      have hM24 := Mv.drew c23 w23 []
      have hCw := Mv.drew c23 w23 [110]
      generalize w23.drew = w24 at hM24 hCw ⊢
      have hbh0 := hbh
      have hb80 := hb8
      have hb100 := hb10
      have hb130 := hb13
      have hb150 := hb15
      replace hbh := hbh.mv hM24 rfl; replace hb8 := hb8.mv hM24 rfl; replace hb10 := hb10.mv hM24 rfl; replace hA := hA.mv hM24 rfl; replace hb13 := hb13.mv hM24 rfl; replace hb15 := hb15.mv hM24 rfl
      refine qd rfl rfl rfl (fun _ => Val.indexArr arr157 rfl rfl (by first | omega | assumption | (simp; omega) | (simp; done)) (by first | omega | assumption | (simp; omega) | (simp; done))) rfl <| qc rfl rfl rfl hCw.kp (fun W hW => Val.loadB scl3 rfl (hb150.kp hW rfl).blk rfl) rfl <| qd rfl rfl rfl (fun _ => Val.indexArr arr156 rfl rfl (by first | omega | assumption | (simp; omega) | (simp; done)) (by first | omega | assumption | (simp; omega) | (simp; done))) rfl <| qc rfl rfl rfl hCw.kp (fun W hW => Val.loadW scl136 rfl (hb80.kp hW rfl).blk (by first | omega | assumption | (simp; omega) | (simp; done))) rfl <| qd rfl rfl rfl (fun _ => Val.indexArr arr157 rfl rfl (by first | omega | assumption | (simp; omega) | (simp; done)) (by first | omega | assumption | (simp; omega) | (simp; done))) rfl <| qc rfl rfl rfl hCw.kp (fun W hW => Val.loadB scl3 rfl (hb150.kp hW rfl).blk rfl) rfl <| qd rfl rfl rfl (fun _ => Val.indexArr arr156 rfl rfl (by first | omega | assumption | (simp; omega) | (simp; done)) (by first | omega | assumption | (simp; omega) | (simp; done))) rfl <| qc rfl rfl rfl hCw.kp (fun W hW => Val.loadW scl136 rfl (hb80.kp hW rfl).blk (by first | omega | assumption | (simp; omega) | (simp; done))) rfl ?_
      refine WD.eff rfl rfl rfl (Eff.turnC hb10 (Eff.call pf135 rfl (rmix_ok hb10.blk hlr 3 7 11 15 (by decide) (by decide) (by decide) (by decide) _ _))) rfl ?_
      rintro v118 w25 ⟨c25, hM25, hb10⟩
      refine ⟨fun hC => hC.step hCw hM25 rfl, ?_⟩
      replace hCw := hCw.tr hM25 rfl
      replace hbh := hbh.mv hM25 rfl; replace hb8 := hb8.mv hM25 rfl; replace hA := hA.mv hM25 rfl; replace hb13 := hb13.mv hM25 rfl; replace hb15 := hb15.mv hM25 rfl
      simp only [Int.toNat_natCast] at hb10
      have hlr4 := mixS_length V3 3 7 11 15 (gW (wordsS s) a6) (gW (wordsS s) a7)
      rw [hlr] at hlr4
      generalize e4 : mixS V3 3 7 11 15 _ _ = V4 at hb10 hlr4
      replace hlr := hlr4
      refine WD.nil ?_
      clear hbh0 hb80 hb100 hb130 hb150
      clear hCw
      refine cseq ?_
      refine WC.regionD (Kp c25 w25 [110]) [0, 1, 0, 1, 0, 1, 0, 1, 2] [0, 1, 2, 3, 4, 5, 6, 7, 8] mixed (by kernel_rfl) ?_
      have hM26 := Mv.drew c25 w25 []
      have hCw := Mv.drew c25 w25 [110]
      generalize w25.drew = w26 at hM26 hCw ⊢
      have hbh0 := hbh
      have hb80 := hb8
      have hb100 := hb10
      have hb130 := hb13
      have hb150 := hb15
      replace hbh := hbh.mv hM26 rfl; replace hb8 := hb8.mv hM26 rfl; replace hb10 := hb10.mv hM26 rfl; replace hA := hA.mv hM26 rfl; replace hb13 := hb13.mv hM26 rfl; replace hb15 := hb15.mv hM26 rfl
      refine qd rfl rfl rfl (fun _ => Val.indexArr arr157 rfl rfl (by first | omega | assumption | (simp; omega) | (simp; done)) (by first | omega | assumption | (simp; omega) | (simp; done))) rfl <| qc rfl rfl rfl hCw.kp (fun W hW => Val.loadB scl3 rfl (hb150.kp hW rfl).blk rfl) rfl <| qd rfl rfl rfl (fun _ => Val.indexArr arr156 rfl rfl (by first | omega | assumption | (simp; omega) | (simp; done)) (by first | omega | assumption | (simp; omega) | (simp; done))) rfl <| qc rfl rfl rfl hCw.kp (fun W hW => Val.loadW scl136 rfl (hb80.kp hW rfl).blk (by first | omega | assumption | (simp; omega) | (simp; done))) rfl <| qd rfl rfl rfl (fun _ => Val.indexArr arr157 rfl rfl (by first | omega | assumption | (simp; omega) | (simp; done)) (by first | omega | assumption | (simp; omega) | (simp; done))) rfl <| qc rfl rfl rfl hCw.kp (fun W hW => Val.loadB scl3 rfl (hb150.kp hW rfl).blk rfl) rfl <| qd rfl rfl rfl (fun _ => Val.indexArr arr156 rfl rfl (by first | omega | assumption | (simp; omega) | (simp; done)) (by first | omega | assumption | (simp; omega) | (simp; done))) rfl <| qc rfl rfl rfl hCw.kp (fun W hW => Val.loadW scl136 rfl (hb80.kp hW rfl).blk (by first | omega | assumption | (simp; omega) | (simp; done))) rfl ?_
      refine WD.eff rfl rfl rfl (Eff.turnC hb10 (Eff.call pf135 rfl (rmix_ok hb10.blk hlr 0 5 10 15 (by decide) (by decide) (by decide) (by decide) _ _))) rfl ?_
      rintro v127 w27 ⟨c27, hM27, hb10⟩
      refine ⟨fun hC => hC.step hCw hM27 rfl, ?_⟩
      replace hCw := hCw.tr hM27 rfl
      replace hbh := hbh.mv hM27 rfl; replace hb8 := hb8.mv hM27 rfl; replace hA := hA.mv hM27 rfl; replace hb13 := hb13.mv hM27 rfl; replace hb15 := hb15.mv hM27 rfl
      simp only [Int.toNat_natCast] at hb10
      have hlr5 := mixS_length V4 0 5 10 15 (gW (wordsS s) a8) (gW (wordsS s) a9)
      rw [hlr] at hlr5
      generalize e5 : mixS V4 0 5 10 15 _ _ = V5 at hb10 hlr5
      replace hlr := hlr5
      refine WD.nil ?_
      clear hbh0 hb80 hb100 hb130 hb150
      clear hCw
      refine cseq ?_
      refine WC.regionD (Kp c27 w27 [110]) [0, 1, 0, 1, 0, 1, 0, 1, 2] [0, 1, 2, 3, 4, 5, 6, 7, 8] mixed (by kernel_rfl) ?_
      have hM28 := Mv.drew c27 w27 []
      have hCw := Mv.drew c27 w27 [110]
      generalize w27.drew = w28 at hM28 hCw ⊢
      have hbh0 := hbh
      have hb80 := hb8
      have hb100 := hb10
      have hb130 := hb13
      have hb150 := hb15
      replace hbh := hbh.mv hM28 rfl; replace hb8 := hb8.mv hM28 rfl; replace hb10 := hb10.mv hM28 rfl; replace hA := hA.mv hM28 rfl; replace hb13 := hb13.mv hM28 rfl; replace hb15 := hb15.mv hM28 rfl
      refine qd rfl rfl rfl (fun _ => Val.indexArr arr157 rfl rfl (by first | omega | assumption | (simp; omega) | (simp; done)) (by first | omega | assumption | (simp; omega) | (simp; done))) rfl <| qc rfl rfl rfl hCw.kp (fun W hW => Val.loadB scl3 rfl (hb150.kp hW rfl).blk rfl) rfl <| qd rfl rfl rfl (fun _ => Val.indexArr arr156 rfl rfl (by first | omega | assumption | (simp; omega) | (simp; done)) (by first | omega | assumption | (simp; omega) | (simp; done))) rfl <| qc rfl rfl rfl hCw.kp (fun W hW => Val.loadW scl136 rfl (hb80.kp hW rfl).blk (by first | omega | assumption | (simp; omega) | (simp; done))) rfl <| qd rfl rfl rfl (fun _ => Val.indexArr arr157 rfl rfl (by first | omega | assumption | (simp; omega) | (simp; done)) (by first | omega | assumption | (simp; omega) | (simp; done))) rfl <| qc rfl rfl rfl hCw.kp (fun W hW => Val.loadB scl3 rfl (hb150.kp hW rfl).blk rfl) rfl <| qd rfl rfl rfl (fun _ => Val.indexArr arr156 rfl rfl (by first | omega | assumption | (simp; omega) | (simp; done)) (by first | omega | assumption | (simp; omega) | (simp; done))) rfl <| qc rfl rfl rfl hCw.kp (fun W hW => Val.loadW scl136 rfl (hb80.kp hW rfl).blk (by first | omega | assumption | (simp; omega) | (simp; done))) rfl ?_
      refine WD.eff rfl rfl rfl (Eff.turnC hb10 (Eff.call pf135 rfl (rmix_ok hb10.blk hlr 1 6 11 12 (by decide) (by decide) (by decide) (by decide) _ _))) rfl ?_
      rintro v136 w29 ⟨c29, hM29, hb10⟩
      refine ⟨fun hC => hC.step hCw hM29 rfl, ?_⟩
      replace hCw := hCw.tr hM29 rfl
      replace hbh := hbh.mv hM29 rfl; replace hb8 := hb8.mv hM29 rfl; replace hA := hA.mv hM29 rfl; replace hb13 := hb13.mv hM29 rfl; replace hb15 := hb15.mv hM29 rfl
      simp only [Int.toNat_natCast] at hb10
      have hlr6 := mixS_length V5 1 6 11 12 (gW (wordsS s) a10) (gW (wordsS s) a11)
      rw [hlr] at hlr6
      generalize e6 : mixS V5 1 6 11 12 _ _ = V6 at hb10 hlr6
      replace hlr := hlr6
      refine WD.nil ?_
      clear hbh0 hb80 hb100 hb130 hb150
      clear hCw
      refine cseq ?_
      refine WC.regionD (Kp c29 w29 [110]) [0, 1, 0, 1, 0, 1, 0, 1, 2] [0, 1, 2, 3, 4, 5, 6, 7, 8] mixed (by kernel_rfl) ?_
      have hM30 := Mv.drew c29 w29 []
      have hCw := Mv.drew c29 w29 [110]
      generalize w29.drew = w30 at hM30 hCw ⊢
      have hbh0 := hbh
      have hb80 := hb8
      have hb100 := hb10
      have hb130 := hb13
      have hb150 := hb15
      replace hbh := hbh.mv hM30 rfl; replace hb8 := hb8.mv hM30 rfl; replace hb10 := hb10.mv hM30 rfl; replace hA := hA.mv hM30 rfl; replace hb13 := hb13.mv hM30 rfl; replace hb15 := hb15.mv hM30 rfl
      refine qd rfl rfl rfl (fun _ => Val.indexArr arr157 rfl rfl (by first | omega | assumption | (simp; omega) | (simp; done)) (by first | omega | assumption | (simp; omega) | (simp; done))) rfl <| qc rfl rfl rfl hCw.kp (fun W hW => Val.loadB scl3 rfl (hb150.kp hW rfl).blk rfl) rfl <| qd rfl rfl rfl (fun _ => Val.indexArr arr156 rfl rfl (by first | omega | assumption | (simp; omega) | (simp; done)) (by first | omega | assumption | (simp; omega) | (simp; done))) rfl <| qc rfl rfl rfl hCw.kp (fun W hW => Val.loadW scl136 rfl (hb80.kp hW rfl).blk (by first | omega | assumption | (simp; omega) | (simp; done))) rfl <| qd rfl rfl rfl (fun _ => Val.indexArr arr157 rfl rfl (by first | omega | assumption | (simp; omega) | (simp; done)) (by first | omega | assumption | (simp; omega) | (simp; done))) rfl <| qc rfl rfl rfl hCw.kp (fun W hW => Val.loadB scl3 rfl (hb150.kp hW rfl).blk rfl) rfl <| qd rfl rfl rfl (fun _ => Val.indexArr arr156 rfl rfl (by first | omega | assumption | (simp; omega) | (simp; done)) (by first | omega | assumption | (simp; omega) | (simp; done))) rfl <| qc rfl rfl rfl hCw.kp (fun W hW => Val.loadW scl136 rfl (hb80.kp hW rfl).blk (by first | omega | assumption | (simp; omega) | (simp; done))) rfl ?_
      refine WD.eff rfl rfl rfl (Eff.turnC hb10 (Eff.call pf135 rfl (rmix_ok hb10.blk hlr 2 7 8 13 (by decide) (by decide) (by decide) (by decide) _ _))) rfl ?_
      rintro v145 w31 ⟨c31, hM31, hb10⟩
      refine ⟨fun hC => hC.step hCw hM31 rfl, ?_⟩
      replace hCw := hCw.tr hM31 rfl
      replace hbh := hbh.mv hM31 rfl; replace hb8 := hb8.mv hM31 rfl; replace hA := hA.mv hM31 rfl; replace hb13 := hb13.mv hM31 rfl; replace hb15 := hb15.mv hM31 rfl
      simp only [Int.toNat_natCast] at hb10
      have hlr7 := mixS_length V6 2 7 8 13 (gW (wordsS s) a12) (gW (wordsS s) a13)
      rw [hlr] at hlr7
      generalize e7 : mixS V6 2 7 8 13 _ _ = V7 at hb10 hlr7
      replace hlr := hlr7
      refine WD.nil ?_
      clear hbh0 hb80 hb100 hb130 hb150
      clear hCw
      refine WC.regionD (Kp c31 w31 [110]) [0, 1, 0, 1, 0, 1, 0, 1, 2] [0, 1, 2, 3, 4, 5, 6, 7, 8] mixed (by kernel_rfl) ?_
      have hM32 := Mv.drew c31 w31 []
      have hCw := Mv.drew c31 w31 [110]
      generalize w31.drew = w32 at hM32 hCw ⊢
      have hbh0 := hbh
      have hb80 := hb8
      have hb100 := hb10
      have hb130 := hb13
      have hb150 := hb15
      replace hbh := hbh.mv hM32 rfl; replace hb8 := hb8.mv hM32 rfl; replace hb10 := hb10.mv hM32 rfl; replace hA := hA.mv hM32 rfl; replace hb13 := hb13.mv hM32 rfl; replace hb15 := hb15.mv hM32 rfl
      refine qd rfl rfl rfl (fun _ => Val.indexArr arr157 rfl rfl (by first | omega | assumption | (simp; omega) | (simp; done)) (by first | omega | assumption | (simp; omega) | (simp; done))) rfl <| qc rfl rfl rfl hCw.kp (fun W hW => Val.loadB scl3 rfl (hb150.kp hW rfl).blk rfl) rfl <| qd rfl rfl rfl (fun _ => Val.indexArr arr156 rfl rfl (by first | omega | assumption | (simp; omega) | (simp; done)) (by first | omega | assumption | (simp; omega) | (simp; done))) rfl <| qc rfl rfl rfl hCw.kp (fun W hW => Val.loadW scl136 rfl (hb80.kp hW rfl).blk (by first | omega | assumption | (simp; omega) | (simp; done))) rfl <| qd rfl rfl rfl (fun _ => Val.indexArr arr157 rfl rfl (by first | omega | assumption | (simp; omega) | (simp; done)) (by first | omega | assumption | (simp; omega) | (simp; done))) rfl <| qc rfl rfl rfl hCw.kp (fun W hW => Val.loadB scl3 rfl (hb150.kp hW rfl).blk rfl) rfl <| qd rfl rfl rfl (fun _ => Val.indexArr arr156 rfl rfl (by first | omega | assumption | (simp; omega) | (simp; done)) (by first | omega | assumption | (simp; omega) | (simp; done))) rfl <| qc rfl rfl rfl hCw.kp (fun W hW => Val.loadW scl136 rfl (hb80.kp hW rfl).blk (by first | omega | assumption | (simp; omega) | (simp; done))) rfl ?_
      refine WD.eff rfl rfl rfl (Eff.turnC hb10 (Eff.call pf135 rfl (rmix_ok hb10.blk hlr 3 4 9 14 (by decide) (by decide) (by decide) (by decide) _ _))) rfl ?_
      rintro v154 w33 ⟨c33, hM33, hb10⟩
      refine ⟨fun hC => hC.step hCw hM33 rfl, ?_⟩
      replace hCw := hCw.tr hM33 rfl
      replace hbh := hbh.mv hM33 rfl; replace hb8 := hb8.mv hM33 rfl; replace hA := hA.mv hM33 rfl; replace hb13 := hb13.mv hM33 rfl; replace hb15 := hb15.mv hM33 rfl
      simp only [Int.toNat_natCast] at hb10
      have hlr8 := mixS_length V7 3 4 9 14 (gW (wordsS s) a14) (gW (wordsS s) a15)
      rw [hlr] at hlr8
      generalize e8 : mixS V7 3 4 9 14 _ _ = V8 at hb10 hlr8
      replace hlr := hlr8
      refine WD.nil ?_
      clear hbh0 hb80 hb100 hb130 hb150
      clear hCw
      refine cregion <| qq (Val.move rfl) rfl <| qq (Val.addI rfl rfl (by first | omega | assumption | (simp; omega) | (simp; done)) (by first | omega | assumption | (simp; omega) | (simp; done))) rfl <| qq (Val.assign rfl) rfl <| cnil ?_
      have e9 : V8 = rk (wordsS s) (startV h n last) (r + 1) := by rw [rk_succ, rounds_eq _ _ r hrow, e0, e1, e2, e3, e4, e5, e6, e7, e8]
      rw [e9] at hb10
      exact ⟨r + 1, (by repeat (first | exact Sub.nil _ | refine Sub.cons rfl ?_ | refine Sub.consM rfl ?_)), ⟨_, hbh, hb8, hb10, hb13, hA, by omega⟩, by omega⟩
     ·try simp only [tstS] at hc17
      have : r = 10 := by omega
      subst this
      refine WC.exit rfl ?_
      refine cseq <| cregion <| qq (Val.assign rfl) rfl <| cnil <| cblock ?_
      refine WC.loop (σ := Nat) (fun k => [(0, .pointer (some ⟨b, 0, none⟩)), (10, .pointer (some ⟨b10, 0, none⟩)), (16, I k)]) (fun k w' => ∃ c', BlkC c' w' 2 b ((hck h (rk (wordsS s) (startV h n last) 10) k).map W32 ++ []) d8 ∧ BlkC c' w' 110 b10 ((rk (wordsS s) (startV h n last) 10).map W32 ++ []) dV ∧ Acc c w [2, 108, 110, 111, 113, 115] c' w' ∧ k ≤ 8) (fun k => 8 - k) 0 (by repeat (first | exact Sub.nil _ | refine Sub.cons rfl ?_ | refine Sub.consM rfl ?_)) ⟨_, hbh, hb10, hA, by omega⟩ ?_
      clear hbh hb8 hb10 hb13 hA
      rintro k wk' ⟨ck, hbh, hb10, hA, hk⟩
      have hlh : (hck h (rk (wordsS s) (startV h n last) 10) k).length = 8 := by rw [hck_length, hl]
      refine cseq <| cseq <| cregion <| qq (Val.move rfl) rfl <| qq (Val.lss rfl rfl) rfl <| cnil ?_
      refine WC.cond rfl (fun hc29 => ?_) (fun hc29 => ?_)
      ·try simp only [tstS] at hc29
       have hk8 : k < 8 := by omega
       refine cskip <| cseq <| cblock ?_
       refine WC.regionD (Kp ck wk' []) [0, 0, 0, 0, 0, 0, 1, 0, 0, 1, 0, 0, 0, 0, 1, 0, 0, 0, 3] [0, 1, 2, 3, 4, 5, 6, 7, 8, 9, 10, 11, 12, 13, 14, 15, 16, 17, 18] mixed (by kernel_rfl) ?_
       have hM34 := Mv.drew ck wk' []
       have hCw := Mv.drew ck wk' []
       generalize wk'.drew = w34 at hM34 hCw ⊢
       have hbh0 := hbh
       have hb100 := hb10
       replace hbh := hbh.mv hM34 rfl; replace hb10 := hb10.mv hM34 rfl; replace hA := hA.mv hM34 rfl
       refine qd rfl rfl rfl (fun _ => Val.move rfl) rfl <| qd rfl rfl rfl (fun _ => Val.move rfl) rfl <| qd rfl rfl rfl (fun _ => Val.move rfl) rfl <| qd rfl rfl rfl (fun _ => Val.move rfl) rfl <| qd rfl rfl rfl (fun _ => Val.nilCheck rfl) rfl <| qd rfl rfl rfl (fun _ => Val.indexArr arr137 rfl rfl (by first | omega | assumption | (simp; omega) | (simp; done)) (by first | omega | assumption | (simp; omega) | (simp; done))) rfl <| qc rfl rfl rfl hCw.kp (fun W hW => Val.loadW scl136 rfl (hbh0.kp hW rfl).blk (by first | omega | assumption | (simp; omega) | (simp; done))) rfl <| qd rfl rfl rfl (fun _ => Val.move rfl) rfl <| qd rfl rfl rfl (fun _ => Val.indexArr arr156 rfl rfl (by first | omega | assumption | (simp; omega) | (simp; done)) (by first | omega | assumption | (simp; omega) | (simp; done))) rfl ?_
       refine qc rfl rfl rfl hCw.kp (fun W hW => Val.loadW scl136 rfl (hb100.kp hW rfl).blk (by first | omega | assumption | (simp; omega) | (simp; done))) rfl <| qd rfl rfl rfl (fun _ => Val.xor_u32 rfl rfl) rfl <| qd rfl rfl rfl (fun _ => Val.move rfl) rfl <| qd rfl rfl rfl (fun _ => Val.addI rfl rfl (by first | omega | assumption | (simp; omega) | (simp; done)) (by first | omega | assumption | (simp; omega) | (simp; done))) rfl <| qd rfl rfl rfl (fun _ => Val.indexArr arr156 rfl rfl (by first | omega | assumption | (simp; omega) | (simp; done)) (by first | omega | assumption | (simp; omega) | (simp; done))) rfl <| qc rfl rfl rfl hCw.kp (fun W hW => Val.loadW scl136 rfl (hb100.kp hW rfl).blk (by first | omega | assumption | (simp; omega) | (simp; done))) rfl <| qd rfl rfl rfl (fun _ => Val.xor_u32 rfl rfl) rfl <| qd rfl rfl rfl (fun _ => Val.nilCheck rfl) rfl <| qd rfl rfl rfl (fun _ => Val.indexArr arr137 rfl rfl (by first | omega | assumption | (simp; omega) | (simp; done)) (by first | omega | assumption | (simp; omega) | (simp; done))) rfl ?_
       refine WD.wild rfl rfl rfl (Eff.storeW scl136 rfl rfl hbh (by first | omega | assumption | (simp; omega) | (simp; done))) ?_
       rintro _ w35 ⟨hS, hM35⟩
       replace hb10 := hb10.mv hM35 rfl; replace hA := hA.mv hM35 rfl
       replace hbh := hS
       refine WD.nil ?_
       clear hbh0 hb100
       clear hCw
       refine cregion <| qq (Val.move rfl) rfl <| qq (Val.addI rfl rfl (by first | omega | assumption | (simp; omega) | (simp; done)) (by first | omega | assumption | (simp; omega) | (simp; done))) rfl <| qq (Val.assign rfl) rfl <| cnil ?_
       simp only [Int.toNat_natCast, show ((k : Int) + 8).toNat = k + 8 by omega] at hbh
       rw [← hck_succ] at hbh
       exact ⟨k + 1, (by repeat (first | exact Sub.nil _ | refine Sub.cons rfl ?_ | refine Sub.consM rfl ?_)), ⟨_, hbh, hb10, hA, by omega⟩, by omega⟩
      ·try simp only [tstS] at hc29
       have : k = 8 := by omega
       subst this
       refine WC.exit rfl ?_
       refine ⟨_, _, rfl, rfl, ?_⟩
       subst hc
       rw [hck_eight hl] at hbh
       exact ⟨rfl, hA.grownOne, hbh.blk⟩
end Go.Proofs.Ytnddlhjafkhdoaa
