/- Closed facts on the types and functions of this translation, by program. No condition. -/
import Derived.Test.YtnddlhjafkhdoaaChecked
import Derived.Test.YtnddlhjafkhdoaaDraw
import Derived.Test.YtnddlhjafkhdoaaArr
import Derived.KernelRfl
set_option maxRecDepth 100000
namespace Go.Proofs.Ytnddlhjafkhdoaa.TryT
open Go Go.Eng

theorem agg25 : aggT Go.Proofs.Try.prog 25 = some 2 := by kernel_rfl
theorem agg29 : aggT Go.Proofs.Try.prog 29 = some 3 := by kernel_rfl
theorem agg50 : aggT Go.Proofs.Try.prog 50 = some 2 := by kernel_rfl
theorem agg62 : aggT Go.Proofs.Try.prog 62 = some 3 := by kernel_rfl
theorem agg78 : aggT Go.Proofs.Try.prog 78 = some 3 := by kernel_rfl
theorem agg85 : aggT Go.Proofs.Try.prog 85 = some 6 := by kernel_rfl
theorem agg118 : aggT Go.Proofs.Try.prog 118 = some 3 := by kernel_rfl
theorem agg137 : aggT Go.Proofs.Try.prog 137 = some 8 := by kernel_rfl
theorem agg157 : aggT Go.Proofs.Try.prog 157 = some 16 := by kernel_rfl
theorem agg158 : aggT Go.Proofs.Try.prog 158 = some 160 := by kernel_rfl
theorem agg176 : aggT Go.Proofs.Try.prog 176 = some 4 := by kernel_rfl
theorem agg177 : aggT Go.Proofs.Try.prog 177 = some 32 := by kernel_rfl
theorem arr137 : arrT Go.Proofs.Try.prog 137 = some (8, 136, 1) := by kernel_rfl
theorem arr156 : arrT Go.Proofs.Try.prog 156 = some (16, 136, 1) := by kernel_rfl
theorem arr157 : arrT Go.Proofs.Try.prog 157 = some (16, 3, 1) := by kernel_rfl
theorem arr158 : arrT Go.Proofs.Try.prog 158 = some (10, 157, 16) := by kernel_rfl
theorem arr176 : arrT Go.Proofs.Try.prog 176 = some (4, 3, 1) := by kernel_rfl
theorem arr177 : arrT Go.Proofs.Try.prog 177 = some (8, 176, 4) := by kernel_rfl
theorem flat62 : flatT Go.Proofs.Try.prog 62 = some [2, 2, 1] := by kernel_rfl
theorem fld25_0 : fldT Go.Proofs.Try.prog 25 0 = some 0 := by kernel_rfl
theorem fld25_1 : fldT Go.Proofs.Try.prog 25 1 = some 1 := by kernel_rfl
theorem fld29_0 : fldT Go.Proofs.Try.prog 29 0 = some 0 := by kernel_rfl
theorem fld29_1 : fldT Go.Proofs.Try.prog 29 1 = some 1 := by kernel_rfl
theorem fld29_2 : fldT Go.Proofs.Try.prog 29 2 = some 2 := by kernel_rfl
theorem fld50_0 : fldT Go.Proofs.Try.prog 50 0 = some 0 := by kernel_rfl
theorem fld50_1 : fldT Go.Proofs.Try.prog 50 1 = some 1 := by kernel_rfl
theorem fld62_0 : fldT Go.Proofs.Try.prog 62 0 = some 0 := by kernel_rfl
theorem fld62_1 : fldT Go.Proofs.Try.prog 62 1 = some 1 := by kernel_rfl
theorem fld62_2 : fldT Go.Proofs.Try.prog 62 2 = some 2 := by kernel_rfl
theorem fld78_0 : fldT Go.Proofs.Try.prog 78 0 = some 0 := by kernel_rfl
theorem fld78_1 : fldT Go.Proofs.Try.prog 78 1 = some 1 := by kernel_rfl
theorem fld78_2 : fldT Go.Proofs.Try.prog 78 2 = some 2 := by kernel_rfl
theorem fld85_0 : fldT Go.Proofs.Try.prog 85 0 = some 0 := by kernel_rfl
theorem fld85_1 : fldT Go.Proofs.Try.prog 85 1 = some 1 := by kernel_rfl
theorem fld85_2 : fldT Go.Proofs.Try.prog 85 2 = some 2 := by kernel_rfl
theorem fld85_3 : fldT Go.Proofs.Try.prog 85 3 = some 3 := by kernel_rfl
theorem fld85_4 : fldT Go.Proofs.Try.prog 85 4 = some 4 := by kernel_rfl
theorem fld85_5 : fldT Go.Proofs.Try.prog 85 5 = some 5 := by kernel_rfl
theorem fld100_0 : fldT Go.Proofs.Try.prog 100 0 = some 0 := by kernel_rfl
theorem fld100_1 : fldT Go.Proofs.Try.prog 100 1 = some 1 := by kernel_rfl
theorem fld100_2 : fldT Go.Proofs.Try.prog 100 2 = some 2 := by kernel_rfl
theorem fld100_3 : fldT Go.Proofs.Try.prog 100 3 = some 3 := by kernel_rfl
theorem fld100_4 : fldT Go.Proofs.Try.prog 100 4 = some 4 := by kernel_rfl
theorem fld100_5 : fldT Go.Proofs.Try.prog 100 5 = some 5 := by kernel_rfl
theorem fld100_6 : fldT Go.Proofs.Try.prog 100 6 = some 6 := by kernel_rfl
theorem fld115_0 : fldT Go.Proofs.Try.prog 115 0 = some 0 := by kernel_rfl
theorem fld115_1 : fldT Go.Proofs.Try.prog 115 1 = some 1 := by kernel_rfl
theorem fld115_2 : fldT Go.Proofs.Try.prog 115 2 = some 2 := by kernel_rfl
theorem fld115_3 : fldT Go.Proofs.Try.prog 115 3 = some 3 := by kernel_rfl
theorem fld115_4 : fldT Go.Proofs.Try.prog 115 4 = some 4 := by kernel_rfl
theorem fld118_0 : fldT Go.Proofs.Try.prog 118 0 = some 0 := by kernel_rfl
theorem fld118_1 : fldT Go.Proofs.Try.prog 118 1 = some 1 := by kernel_rfl
theorem fld118_2 : fldT Go.Proofs.Try.prog 118 2 = some 2 := by kernel_rfl
theorem fld154_0 : fldT Go.Proofs.Try.prog 154 0 = some 0 := by kernel_rfl
theorem fld154_1 : fldT Go.Proofs.Try.prog 154 1 = some 8 := by kernel_rfl
theorem fld154_2 : fldT Go.Proofs.Try.prog 154 2 = some 9 := by kernel_rfl
theorem fld170_0 : fldT Go.Proofs.Try.prog 170 0 = some 0 := by kernel_rfl
theorem fld170_1 : fldT Go.Proofs.Try.prog 170 1 = some 1 := by kernel_rfl
theorem pf10 : plainFn Go.Proofs.Try.prog 10 = true := by kernel_rfl
theorem pf14 : plainFn Go.Proofs.Try.prog 14 = true := by kernel_rfl
theorem pf15 : plainFn Go.Proofs.Try.prog 15 = true := by kernel_rfl
theorem pf16 : plainFn Go.Proofs.Try.prog 16 = true := by kernel_rfl
theorem pf17 : plainFn Go.Proofs.Try.prog 17 = true := by kernel_rfl
theorem pf18 : plainFn Go.Proofs.Try.prog 18 = true := by kernel_rfl
theorem pf19 : plainFn Go.Proofs.Try.prog 19 = true := by kernel_rfl
theorem pf20 : plainFn Go.Proofs.Try.prog 20 = true := by kernel_rfl
theorem pf21 : plainFn Go.Proofs.Try.prog 21 = true := by kernel_rfl
theorem pf22 : plainFn Go.Proofs.Try.prog 22 = true := by kernel_rfl
theorem pf23 : plainFn Go.Proofs.Try.prog 23 = true := by kernel_rfl
theorem pf24 : plainFn Go.Proofs.Try.prog 24 = true := by kernel_rfl
theorem pf25 : plainFn Go.Proofs.Try.prog 25 = true := by kernel_rfl
theorem pf26 : plainFn Go.Proofs.Try.prog 26 = true := by kernel_rfl
theorem pf27 : plainFn Go.Proofs.Try.prog 27 = true := by kernel_rfl
theorem pf28 : plainFn Go.Proofs.Try.prog 28 = true := by kernel_rfl
theorem pf29 : plainFn Go.Proofs.Try.prog 29 = true := by kernel_rfl
theorem pf30 : plainFn Go.Proofs.Try.prog 30 = true := by kernel_rfl
theorem pf31 : plainFn Go.Proofs.Try.prog 31 = true := by kernel_rfl
theorem pf32 : plainFn Go.Proofs.Try.prog 32 = true := by kernel_rfl
theorem pf33 : plainFn Go.Proofs.Try.prog 33 = true := by kernel_rfl
theorem pf34 : plainFn Go.Proofs.Try.prog 34 = true := by kernel_rfl
theorem pf35 : plainFn Go.Proofs.Try.prog 35 = true := by kernel_rfl
theorem pf36 : plainFn Go.Proofs.Try.prog 36 = true := by kernel_rfl
theorem pf37 : plainFn Go.Proofs.Try.prog 37 = true := by kernel_rfl
theorem pf38 : plainFn Go.Proofs.Try.prog 38 = true := by kernel_rfl
theorem pf39 : plainFn Go.Proofs.Try.prog 39 = true := by kernel_rfl
theorem pf40 : plainFn Go.Proofs.Try.prog 40 = true := by kernel_rfl
theorem pf41 : plainFn Go.Proofs.Try.prog 41 = true := by kernel_rfl
theorem pf42 : plainFn Go.Proofs.Try.prog 42 = true := by kernel_rfl
theorem pf43 : plainFn Go.Proofs.Try.prog 43 = true := by kernel_rfl
theorem pf44 : plainFn Go.Proofs.Try.prog 44 = true := by kernel_rfl
theorem pf45 : plainFn Go.Proofs.Try.prog 45 = true := by kernel_rfl
theorem pf46 : plainFn Go.Proofs.Try.prog 46 = true := by kernel_rfl
theorem pf47 : plainFn Go.Proofs.Try.prog 47 = true := by kernel_rfl
theorem pf48 : plainFn Go.Proofs.Try.prog 48 = true := by kernel_rfl
theorem pf49 : plainFn Go.Proofs.Try.prog 49 = true := by kernel_rfl
theorem pf50 : plainFn Go.Proofs.Try.prog 50 = true := by kernel_rfl
theorem pf51 : plainFn Go.Proofs.Try.prog 51 = true := by kernel_rfl
theorem pf52 : plainFn Go.Proofs.Try.prog 52 = true := by kernel_rfl
theorem pf53 : plainFn Go.Proofs.Try.prog 53 = true := by kernel_rfl
theorem pf54 : plainFn Go.Proofs.Try.prog 54 = true := by kernel_rfl
theorem pf55 : plainFn Go.Proofs.Try.prog 55 = true := by kernel_rfl
theorem pf56 : plainFn Go.Proofs.Try.prog 56 = true := by kernel_rfl
theorem pf57 : plainFn Go.Proofs.Try.prog 57 = true := by kernel_rfl
theorem pf58 : plainFn Go.Proofs.Try.prog 58 = true := by kernel_rfl
theorem pf59 : plainFn Go.Proofs.Try.prog 59 = true := by kernel_rfl
theorem pf60 : plainFn Go.Proofs.Try.prog 60 = true := by kernel_rfl
theorem pf61 : plainFn Go.Proofs.Try.prog 61 = true := by kernel_rfl
theorem pf62 : plainFn Go.Proofs.Try.prog 62 = true := by kernel_rfl
theorem pf63 : plainFn Go.Proofs.Try.prog 63 = true := by kernel_rfl
theorem pf64 : plainFn Go.Proofs.Try.prog 64 = true := by kernel_rfl
theorem pf65 : plainFn Go.Proofs.Try.prog 65 = true := by kernel_rfl
theorem pf66 : plainFn Go.Proofs.Try.prog 66 = true := by kernel_rfl
theorem pf67 : plainFn Go.Proofs.Try.prog 67 = true := by kernel_rfl
theorem pf68 : plainFn Go.Proofs.Try.prog 68 = true := by kernel_rfl
theorem pf69 : plainFn Go.Proofs.Try.prog 69 = true := by kernel_rfl
theorem pf70 : plainFn Go.Proofs.Try.prog 70 = true := by kernel_rfl
theorem pf71 : plainFn Go.Proofs.Try.prog 71 = true := by kernel_rfl
theorem pf72 : plainFn Go.Proofs.Try.prog 72 = true := by kernel_rfl
theorem pf73 : plainFn Go.Proofs.Try.prog 73 = true := by kernel_rfl
theorem pf74 : plainFn Go.Proofs.Try.prog 74 = true := by kernel_rfl
theorem pf75 : plainFn Go.Proofs.Try.prog 75 = true := by kernel_rfl
theorem pf76 : plainFn Go.Proofs.Try.prog 76 = true := by kernel_rfl
theorem pf77 : plainFn Go.Proofs.Try.prog 77 = true := by kernel_rfl
theorem pf78 : plainFn Go.Proofs.Try.prog 78 = true := by kernel_rfl
theorem pf79 : plainFn Go.Proofs.Try.prog 79 = true := by kernel_rfl
theorem pf80 : plainFn Go.Proofs.Try.prog 80 = true := by kernel_rfl
theorem pf81 : plainFn Go.Proofs.Try.prog 81 = true := by kernel_rfl
theorem pf82 : plainFn Go.Proofs.Try.prog 82 = true := by kernel_rfl
theorem pf83 : plainFn Go.Proofs.Try.prog 83 = true := by kernel_rfl
theorem pf84 : plainFn Go.Proofs.Try.prog 84 = true := by kernel_rfl
theorem pf85 : plainFn Go.Proofs.Try.prog 85 = true := by kernel_rfl
theorem pf86 : plainFn Go.Proofs.Try.prog 86 = true := by kernel_rfl
theorem pf87 : plainFn Go.Proofs.Try.prog 87 = true := by kernel_rfl
theorem pf88 : plainFn Go.Proofs.Try.prog 88 = true := by kernel_rfl
theorem pf89 : plainFn Go.Proofs.Try.prog 89 = true := by kernel_rfl
theorem pf90 : plainFn Go.Proofs.Try.prog 90 = true := by kernel_rfl
theorem pf91 : plainFn Go.Proofs.Try.prog 91 = true := by kernel_rfl
theorem pf92 : plainFn Go.Proofs.Try.prog 92 = true := by kernel_rfl
theorem pf93 : plainFn Go.Proofs.Try.prog 93 = true := by kernel_rfl
theorem pf94 : plainFn Go.Proofs.Try.prog 94 = true := by kernel_rfl
theorem pf95 : plainFn Go.Proofs.Try.prog 95 = true := by kernel_rfl
theorem pf96 : plainFn Go.Proofs.Try.prog 96 = true := by kernel_rfl
theorem pf97 : plainFn Go.Proofs.Try.prog 97 = true := by kernel_rfl
theorem pf98 : plainFn Go.Proofs.Try.prog 98 = true := by kernel_rfl
theorem pf99 : plainFn Go.Proofs.Try.prog 99 = true := by kernel_rfl
theorem pf100 : plainFn Go.Proofs.Try.prog 100 = true := by kernel_rfl
theorem pf101 : plainFn Go.Proofs.Try.prog 101 = true := by kernel_rfl
theorem pf102 : plainFn Go.Proofs.Try.prog 102 = true := by kernel_rfl
theorem pf103 : plainFn Go.Proofs.Try.prog 103 = true := by kernel_rfl
theorem pf104 : plainFn Go.Proofs.Try.prog 104 = true := by kernel_rfl
theorem pf105 : plainFn Go.Proofs.Try.prog 105 = true := by kernel_rfl
theorem pf106 : plainFn Go.Proofs.Try.prog 106 = true := by kernel_rfl
theorem pf107 : plainFn Go.Proofs.Try.prog 107 = true := by kernel_rfl
theorem pf108 : plainFn Go.Proofs.Try.prog 108 = true := by kernel_rfl
theorem pf109 : plainFn Go.Proofs.Try.prog 109 = true := by kernel_rfl
theorem pf110 : plainFn Go.Proofs.Try.prog 110 = true := by kernel_rfl
theorem pf111 : plainFn Go.Proofs.Try.prog 111 = true := by kernel_rfl
theorem pf112 : plainFn Go.Proofs.Try.prog 112 = true := by kernel_rfl
theorem pf113 : plainFn Go.Proofs.Try.prog 113 = true := by kernel_rfl
theorem pf114 : plainFn Go.Proofs.Try.prog 114 = true := by kernel_rfl
theorem pf115 : plainFn Go.Proofs.Try.prog 115 = true := by kernel_rfl
theorem pf116 : plainFn Go.Proofs.Try.prog 116 = true := by kernel_rfl
theorem pf117 : plainFn Go.Proofs.Try.prog 117 = true := by kernel_rfl
theorem pf118 : plainFn Go.Proofs.Try.prog 118 = true := by kernel_rfl
theorem pf119 : plainFn Go.Proofs.Try.prog 119 = true := by kernel_rfl
theorem pf120 : plainFn Go.Proofs.Try.prog 120 = true := by kernel_rfl
theorem pf121 : plainFn Go.Proofs.Try.prog 121 = true := by kernel_rfl
theorem pf122 : plainFn Go.Proofs.Try.prog 122 = true := by kernel_rfl
theorem pf123 : plainFn Go.Proofs.Try.prog 123 = true := by kernel_rfl
theorem pf124 : plainFn Go.Proofs.Try.prog 124 = true := by kernel_rfl
theorem pf125 : plainFn Go.Proofs.Try.prog 125 = true := by kernel_rfl
theorem pf126 : plainFn Go.Proofs.Try.prog 126 = true := by kernel_rfl
theorem pf127 : plainFn Go.Proofs.Try.prog 127 = true := by kernel_rfl
theorem pf128 : plainFn Go.Proofs.Try.prog 128 = true := by kernel_rfl
theorem pf129 : plainFn Go.Proofs.Try.prog 129 = true := by kernel_rfl
theorem pf130 : plainFn Go.Proofs.Try.prog 130 = true := by kernel_rfl
theorem pf131 : plainFn Go.Proofs.Try.prog 131 = true := by kernel_rfl
theorem pf132 : plainFn Go.Proofs.Try.prog 132 = true := by kernel_rfl
theorem pf133 : plainFn Go.Proofs.Try.prog 133 = true := by kernel_rfl
theorem pf134 : plainFn Go.Proofs.Try.prog 134 = true := by kernel_rfl
theorem pf135 : plainFn Go.Proofs.Try.prog 135 = true := by kernel_rfl
theorem pf136 : plainFn Go.Proofs.Try.prog 136 = true := by kernel_rfl
theorem pf137 : plainFn Go.Proofs.Try.prog 137 = true := by kernel_rfl
theorem pf138 : plainFn Go.Proofs.Try.prog 138 = true := by kernel_rfl
theorem pf139 : plainFn Go.Proofs.Try.prog 139 = true := by kernel_rfl
theorem pf140 : plainFn Go.Proofs.Try.prog 140 = true := by kernel_rfl
theorem pf141 : plainFn Go.Proofs.Try.prog 141 = true := by kernel_rfl
theorem pf142 : plainFn Go.Proofs.Try.prog 142 = true := by kernel_rfl
theorem pf143 : plainFn Go.Proofs.Try.prog 143 = true := by kernel_rfl
theorem pf144 : plainFn Go.Proofs.Try.prog 144 = true := by kernel_rfl
theorem pf145 : plainFn Go.Proofs.Try.prog 145 = true := by kernel_rfl
theorem pf146 : plainFn Go.Proofs.Try.prog 146 = true := by kernel_rfl
theorem pf147 : plainFn Go.Proofs.Try.prog 147 = true := by kernel_rfl
theorem pf148 : plainFn Go.Proofs.Try.prog 148 = true := by kernel_rfl
theorem pf149 : plainFn Go.Proofs.Try.prog 149 = true := by kernel_rfl
theorem pf150 : plainFn Go.Proofs.Try.prog 150 = true := by kernel_rfl
theorem pf151 : plainFn Go.Proofs.Try.prog 151 = true := by kernel_rfl
theorem pf152 : plainFn Go.Proofs.Try.prog 152 = true := by kernel_rfl
theorem pf153 : plainFn Go.Proofs.Try.prog 153 = true := by kernel_rfl
theorem pf154 : plainFn Go.Proofs.Try.prog 154 = true := by kernel_rfl
theorem pf155 : plainFn Go.Proofs.Try.prog 155 = true := by kernel_rfl
theorem pf156 : plainFn Go.Proofs.Try.prog 156 = true := by kernel_rfl
theorem pf157 : plainFn Go.Proofs.Try.prog 157 = true := by kernel_rfl
theorem pf158 : plainFn Go.Proofs.Try.prog 158 = true := by kernel_rfl
theorem pf159 : plainFn Go.Proofs.Try.prog 159 = true := by kernel_rfl
theorem pf160 : plainFn Go.Proofs.Try.prog 160 = true := by kernel_rfl
theorem pf161 : plainFn Go.Proofs.Try.prog 161 = true := by kernel_rfl
theorem pf162 : plainFn Go.Proofs.Try.prog 162 = true := by kernel_rfl
theorem pf163 : plainFn Go.Proofs.Try.prog 163 = true := by kernel_rfl
theorem pf164 : plainFn Go.Proofs.Try.prog 164 = true := by kernel_rfl
theorem pf165 : plainFn Go.Proofs.Try.prog 165 = true := by kernel_rfl
theorem pf167 : plainFn Go.Proofs.Try.prog 167 = true := by kernel_rfl
theorem pf168 : plainFn Go.Proofs.Try.prog 168 = true := by kernel_rfl
theorem pf169 : plainFn Go.Proofs.Try.prog 169 = true := by kernel_rfl
theorem pf170 : plainFn Go.Proofs.Try.prog 170 = true := by kernel_rfl
theorem pf171 : plainFn Go.Proofs.Try.prog 171 = true := by kernel_rfl
theorem pf172 : plainFn Go.Proofs.Try.prog 172 = true := by kernel_rfl
theorem pf173 : plainFn Go.Proofs.Try.prog 173 = true := by kernel_rfl
theorem pf174 : plainFn Go.Proofs.Try.prog 174 = true := by kernel_rfl
theorem pf175 : plainFn Go.Proofs.Try.prog 175 = true := by kernel_rfl
theorem pf176 : plainFn Go.Proofs.Try.prog 176 = true := by kernel_rfl
theorem pf177 : plainFn Go.Proofs.Try.prog 177 = true := by kernel_rfl
theorem pf178 : plainFn Go.Proofs.Try.prog 178 = true := by kernel_rfl
theorem pf179 : plainFn Go.Proofs.Try.prog 179 = true := by kernel_rfl
theorem pf180 : plainFn Go.Proofs.Try.prog 180 = true := by kernel_rfl
theorem pf183 : plainFn Go.Proofs.Try.prog 183 = true := by kernel_rfl
theorem pf184 : plainFn Go.Proofs.Try.prog 184 = true := by kernel_rfl
theorem pf185 : plainFn Go.Proofs.Try.prog 185 = true := by kernel_rfl
theorem pf186 : plainFn Go.Proofs.Try.prog 186 = true := by kernel_rfl
theorem pf187 : plainFn Go.Proofs.Try.prog 187 = true := by kernel_rfl
theorem pf188 : plainFn Go.Proofs.Try.prog 188 = true := by kernel_rfl
theorem pf189 : plainFn Go.Proofs.Try.prog 189 = true := by kernel_rfl
theorem pf190 : plainFn Go.Proofs.Try.prog 190 = true := by kernel_rfl
theorem pf191 : plainFn Go.Proofs.Try.prog 191 = true := by kernel_rfl
theorem pf192 : plainFn Go.Proofs.Try.prog 192 = true := by kernel_rfl
theorem pf193 : plainFn Go.Proofs.Try.prog 193 = true := by kernel_rfl
theorem pf194 : plainFn Go.Proofs.Try.prog 194 = true := by kernel_rfl
theorem pf195 : plainFn Go.Proofs.Try.prog 195 = true := by kernel_rfl
theorem pf196 : plainFn Go.Proofs.Try.prog 196 = true := by kernel_rfl
theorem pf197 : plainFn Go.Proofs.Try.prog 197 = true := by kernel_rfl
theorem scl3 : sclT Go.Proofs.Try.prog 3 = true := by kernel_rfl
theorem scl4 : sclT Go.Proofs.Try.prog 4 = true := by kernel_rfl
theorem scl5 : sclT Go.Proofs.Try.prog 5 = true := by kernel_rfl
theorem scl9 : sclT Go.Proofs.Try.prog 9 = true := by kernel_rfl
theorem scl22 : sclT Go.Proofs.Try.prog 22 = true := by kernel_rfl
theorem scl23 : sclT Go.Proofs.Try.prog 23 = true := by kernel_rfl
theorem scl48 : sclT Go.Proofs.Try.prog 48 = true := by kernel_rfl
theorem scl52 : sclT Go.Proofs.Try.prog 52 = true := by kernel_rfl
theorem scl68 : sclT Go.Proofs.Try.prog 68 = true := by kernel_rfl
theorem scl76 : sclT Go.Proofs.Try.prog 76 = true := by kernel_rfl
theorem scl80 : sclT Go.Proofs.Try.prog 80 = true := by kernel_rfl
theorem scl83 : sclT Go.Proofs.Try.prog 83 = true := by kernel_rfl
theorem scl97 : sclT Go.Proofs.Try.prog 97 = true := by kernel_rfl
theorem scl98 : sclT Go.Proofs.Try.prog 98 = true := by kernel_rfl
theorem scl113 : sclT Go.Proofs.Try.prog 113 = true := by kernel_rfl
theorem scl116 : sclT Go.Proofs.Try.prog 116 = true := by kernel_rfl
theorem scl136 : sclT Go.Proofs.Try.prog 136 = true := by kernel_rfl
theorem scl168 : sclT Go.Proofs.Try.prog 168 = true := by kernel_rfl
theorem scl197 : sclT Go.Proofs.Try.prog 197 = true := by kernel_rfl
theorem sl22 : slT Go.Proofs.Try.prog 22 = some (29, 3, 56, [.int .i64 0, .slice none 0 0, .slice none 0 0]) := by kernel_rfl
theorem sl23 : slT Go.Proofs.Try.prog 23 = some (9, 1, 16, [.string ⟨[].toArray⟩]) := by kernel_rfl
theorem sl48 : slT Go.Proofs.Try.prog 48 = some (52, 1, 24, [.slice none 0 0]) := by kernel_rfl
theorem sl52 : slT Go.Proofs.Try.prog 52 = some (62, 3, 40, [.string ⟨[].toArray⟩, .string ⟨[].toArray⟩, .bool false]) := by kernel_rfl
theorem sl68 : slT Go.Proofs.Try.prog 68 = some (5, 1, 1, [.int .u8 0]) := by kernel_rfl
theorem sl76 : slT Go.Proofs.Try.prog 76 = some (85, 6, 72, [.int .i64 0, .int .i64 0, .int .i64 0, .int .i64 0, .string ⟨[].toArray⟩, .slice none 0 0]) := by kernel_rfl
theorem sl83 : slT Go.Proofs.Try.prog 83 = some (3, 1, 8, [.int .i64 0]) := by kernel_rfl
theorem sl97 : slT Go.Proofs.Try.prog 97 = some (4, 1, 1, [.bool false]) := by kernel_rfl
theorem sl98 : slT Go.Proofs.Try.prog 98 = some (23, 1, 24, [.slice none 0 0]) := by kernel_rfl
theorem sl113 : slT Go.Proofs.Try.prog 113 = some (118, 3, 40, [.bool false, .slice none 0 0, .map none]) := by kernel_rfl
theorem sl175 : slT Go.Proofs.Try.prog 175 = some (136, 1, 4, [.int .u32 0]) := by kernel_rfl
theorem zero3 : zeroT Go.Proofs.Try.prog 3 = some [.int .i64 0] := by kernel_rfl
theorem zero23 : zeroT Go.Proofs.Try.prog 23 = some [.slice none 0 0] := by kernel_rfl
theorem zero29 : zeroT Go.Proofs.Try.prog 29 = some [.int .i64 0, .slice none 0 0, .slice none 0 0] := by kernel_rfl
theorem zero62 : zeroT Go.Proofs.Try.prog 62 = some [.string ⟨[].toArray⟩, .string ⟨[].toArray⟩, .bool false] := by kernel_rfl
theorem zero78 : zeroT Go.Proofs.Try.prog 78 = some [.int .i64 0, .int .i64 0, .slice none 0 0] := by kernel_rfl
theorem zero85 : zeroT Go.Proofs.Try.prog 85 = some [.int .i64 0, .int .i64 0, .int .i64 0, .int .i64 0, .string ⟨[].toArray⟩, .slice none 0 0] := by kernel_rfl
theorem zero100 : zeroT Go.Proofs.Try.prog 100 = some [.int .i64 0, .int .i64 0, .slice none 0 0, .slice none 0 0, .slice none 0 0, .int .i64 0, .int .i64 0] := by kernel_rfl
theorem zero115 : zeroT Go.Proofs.Try.prog 115 = some [.slice none 0 0, .int .i64 0, .bool false, .int .i64 0, .int .i64 0] := by kernel_rfl
theorem zero118 : zeroT Go.Proofs.Try.prog 118 = some [.bool false, .slice none 0 0, .map none] := by kernel_rfl
theorem zero137 : zeroT Go.Proofs.Try.prog 137 = some [.int .u32 0, .int .u32 0, .int .u32 0, .int .u32 0, .int .u32 0, .int .u32 0, .int .u32 0, .int .u32 0] := by kernel_rfl
theorem zero154 : zeroT Go.Proofs.Try.prog 154 = some [.int .u32 0, .int .u32 0, .int .u32 0, .int .u32 0, .int .u32 0, .int .u32 0, .int .u32 0, .int .u32 0, .string ⟨[].toArray⟩, .int .i64 0] := by kernel_rfl
theorem zero156 : zeroT Go.Proofs.Try.prog 156 = some [.int .u32 0, .int .u32 0, .int .u32 0, .int .u32 0, .int .u32 0, .int .u32 0, .int .u32 0, .int .u32 0, .int .u32 0, .int .u32 0, .int .u32 0, .int .u32 0, .int .u32 0, .int .u32 0, .int .u32 0, .int .u32 0] := by kernel_rfl
theorem zero157 : zeroT Go.Proofs.Try.prog 157 = some [.int .i64 0, .int .i64 0, .int .i64 0, .int .i64 0, .int .i64 0, .int .i64 0, .int .i64 0, .int .i64 0, .int .i64 0, .int .i64 0, .int .i64 0, .int .i64 0, .int .i64 0, .int .i64 0, .int .i64 0, .int .i64 0] := by kernel_rfl
theorem zero158 : zeroT Go.Proofs.Try.prog 158 = some [.int .i64 0, .int .i64 0, .int .i64 0, .int .i64 0, .int .i64 0, .int .i64 0, .int .i64 0, .int .i64 0, .int .i64 0, .int .i64 0, .int .i64 0, .int .i64 0, .int .i64 0, .int .i64 0, .int .i64 0, .int .i64 0, .int .i64 0, .int .i64 0, .int .i64 0, .int .i64 0, .int .i64 0, .int .i64 0, .int .i64 0, .int .i64 0, .int .i64 0, .int .i64 0, .int .i64 0, .int .i64 0, .int .i64 0, .int .i64 0, .int .i64 0, .int .i64 0, .int .i64 0, .int .i64 0, .int .i64 0, .int .i64 0, .int .i64 0, .int .i64 0, .int .i64 0, .int .i64 0, .int .i64 0, .int .i64 0, .int .i64 0, .int .i64 0, .int .i64 0, .int .i64 0, .int .i64 0, .int .i64 0, .int .i64 0, .int .i64 0, .int .i64 0, .int .i64 0, .int .i64 0, .int .i64 0, .int .i64 0, .int .i64 0, .int .i64 0, .int .i64 0, .int .i64 0, .int .i64 0, .int .i64 0, .int .i64 0, .int .i64 0, .int .i64 0, .int .i64 0, .int .i64 0, .int .i64 0, .int .i64 0, .int .i64 0, .int .i64 0, .int .i64 0, .int .i64 0, .int .i64 0, .int .i64 0, .int .i64 0, .int .i64 0, .int .i64 0, .int .i64 0, .int .i64 0, .int .i64 0, .int .i64 0, .int .i64 0, .int .i64 0, .int .i64 0, .int .i64 0, .int .i64 0, .int .i64 0, .int .i64 0, .int .i64 0, .int .i64 0, .int .i64 0, .int .i64 0, .int .i64 0, .int .i64 0, .int .i64 0, .int .i64 0, .int .i64 0, .int .i64 0, .int .i64 0, .int .i64 0, .int .i64 0, .int .i64 0, .int .i64 0, .int .i64 0, .int .i64 0, .int .i64 0, .int .i64 0, .int .i64 0, .int .i64 0, .int .i64 0, .int .i64 0, .int .i64 0, .int .i64 0, .int .i64 0, .int .i64 0, .int .i64 0, .int .i64 0, .int .i64 0, .int .i64 0, .int .i64 0, .int .i64 0, .int .i64 0, .int .i64 0, .int .i64 0, .int .i64 0, .int .i64 0, .int .i64 0, .int .i64 0, .int .i64 0, .int .i64 0, .int .i64 0, .int .i64 0, .int .i64 0, .int .i64 0, .int .i64 0, .int .i64 0, .int .i64 0, .int .i64 0, .int .i64 0, .int .i64 0, .int .i64 0, .int .i64 0, .int .i64 0, .int .i64 0, .int .i64 0, .int .i64 0, .int .i64 0, .int .i64 0, .int .i64 0, .int .i64 0, .int .i64 0, .int .i64 0, .int .i64 0, .int .i64 0, .int .i64 0, .int .i64 0, .int .i64 0, .int .i64 0, .int .i64 0, .int .i64 0] := by kernel_rfl
theorem zero170 : zeroT Go.Proofs.Try.prog 170 = some [.pointer none, .slice none 0 0] := by kernel_rfl
theorem zero176 : zeroT Go.Proofs.Try.prog 176 = some [.int .i64 0, .int .i64 0, .int .i64 0, .int .i64 0] := by kernel_rfl
theorem zero177 : zeroT Go.Proofs.Try.prog 177 = some [.int .i64 0, .int .i64 0, .int .i64 0, .int .i64 0, .int .i64 0, .int .i64 0, .int .i64 0, .int .i64 0, .int .i64 0, .int .i64 0, .int .i64 0, .int .i64 0, .int .i64 0, .int .i64 0, .int .i64 0, .int .i64 0, .int .i64 0, .int .i64 0, .int .i64 0, .int .i64 0, .int .i64 0, .int .i64 0, .int .i64 0, .int .i64 0, .int .i64 0, .int .i64 0, .int .i64 0, .int .i64 0, .int .i64 0, .int .i64 0, .int .i64 0, .int .i64 0] := by kernel_rfl
theorem zero197 : zeroT Go.Proofs.Try.prog 197 = some [.int .u64 0] := by kernel_rfl
theorem mixed : Go.Proofs.Try.prog.follows .mixedOrders = true := by kernel_rfl
end Go.Proofs.Ytnddlhjafkhdoaa.TryT
