/- The types of the program that the walks name. -/
import Derived.Test.YtggdddkbhigjoaaDoorProg
import Derived.Test.YtggdddkbhigjoaaDoorGwE
set_option linter.unusedVariables false
namespace Go.Proofs.YtggdddkbhigjoaaDoor
open Go Go.GW
theorem ti1 : ti Tryd.prog 1 = some (some (.nilFunc), 1, 8) := by kernel_rfl
theorem ti2 : ti Tryd.prog 2 = some (some (.int .i64 0), 1, 8) := by kernel_rfl
theorem ti3 : ti Tryd.prog 3 = some (some (.int .i64 0), 1, 8) := by kernel_rfl
theorem ti4 : ti Tryd.prog 4 = some (some (.bool false), 1, 1) := by kernel_rfl
theorem ti5 : ti Tryd.prog 5 = some (some (.int .u8 0), 1, 1) := by kernel_rfl
theorem ti6 : ti Tryd.prog 6 = some (some (.int .u8 0), 1, 1) := by kernel_rfl
theorem ti7 : ti Tryd.prog 7 = some (some (.agg #[.int .i64 0, .int .i64 0, .bool false, .int .u8 0]), 4, 24) := by kernel_rfl
theorem ti8 : ti Tryd.prog 8 = some (some (.agg #[.int .i64 0, .int .i64 0, .bool false, .int .u8 0]), 4, 24) := by kernel_rfl
theorem ti9 : ti Tryd.prog 9 = some (some (.string ⟨#[]⟩), 1, 16) := by kernel_rfl
theorem ti10 : ti Tryd.prog 10 = some (some (.string ⟨#[]⟩), 1, 16) := by kernel_rfl
theorem ti11 : ti Tryd.prog 11 = some (some (.string ⟨#[]⟩), 1, 16) := by kernel_rfl
theorem ti12 : ti Tryd.prog 12 = some (some (.int .u64 0), 1, 8) := by kernel_rfl
theorem ti13 : ti Tryd.prog 13 = some (some (.agg #[.string ⟨#[]⟩, .int .u64 0]), 2, 24) := by kernel_rfl
theorem ti14 : ti Tryd.prog 14 = some (some (.agg #[.string ⟨#[]⟩, .int .u64 0]), 2, 24) := by kernel_rfl
theorem ti15 : ti Tryd.prog 15 = some (some (.pointer none), 1, 8) := by kernel_rfl
theorem ti16 : ti Tryd.prog 16 = some (some (.pointer none), 1, 8) := by kernel_rfl
theorem ti17 : ti Tryd.prog 17 = some (some (.pointer none), 1, 8) := by kernel_rfl
theorem ti18 : ti Tryd.prog 18 = some (some (.agg #[.pointer none]), 1, 8) := by kernel_rfl
theorem ti19 : ti Tryd.prog 19 = some (some (.agg #[.pointer none]), 1, 8) := by kernel_rfl
theorem ti20 : ti Tryd.prog 20 = some (some (.nilIface), 1, 16) := by kernel_rfl
theorem ti21 : ti Tryd.prog 21 = some (some (.int .i32 0), 1, 4) := by kernel_rfl
theorem ti22 : ti Tryd.prog 22 = some (some (.pointer none), 1, 8) := by kernel_rfl
theorem ti23 : ti Tryd.prog 23 = some (some (.nilFunc), 1, 8) := by kernel_rfl
theorem ti24 : ti Tryd.prog 24 = some (some (.agg #[.int .i64 0, .int .i64 0]), 2, 16) := by kernel_rfl
theorem ti25 : ti Tryd.prog 25 = some (some (.agg #[.int .i64 0, .int .i64 0]), 2, 16) := by kernel_rfl
theorem ti26 : ti Tryd.prog 26 = some (some (.int .i64 0), 1, 8) := by kernel_rfl
theorem ti27 : ti Tryd.prog 27 = some (some (.agg #[.int .i64 0, .int .i64 0, .int .i64 0]), 3, 24) := by kernel_rfl
theorem ti28 : ti Tryd.prog 28 = some (some (.agg #[.int .i64 0, .int .i64 0, .int .i64 0]), 3, 24) := by kernel_rfl
theorem ti29 : ti Tryd.prog 29 = some (some (.slice none 0 0), 1, 24) := by kernel_rfl
theorem ti30 : ti Tryd.prog 30 = some (some (.agg #[.int .i64 0, .int .i64 0, .int .i64 0, .int .i64 0, .string ⟨#[]⟩, .slice none 0 0, .int .i64 0, .int .i64 0, .bool false]), 9, 96) := by kernel_rfl
theorem ti31 : ti Tryd.prog 31 = some (some (.agg #[.int .i64 0, .int .i64 0, .int .i64 0, .int .i64 0, .string ⟨#[]⟩, .slice none 0 0, .int .i64 0, .int .i64 0, .bool false]), 9, 96) := by kernel_rfl
theorem ti32 : ti Tryd.prog 32 = some (some (.nilFunc), 1, 8) := by kernel_rfl
theorem ti33 : ti Tryd.prog 33 = some (some (.int .i64 0), 1, 8) := by kernel_rfl
theorem ti35 : ti Tryd.prog 35 = some (some (.nilFunc), 1, 8) := by kernel_rfl
theorem ti36 : ti Tryd.prog 36 = some (some (.agg #[.int .i64 0, .int .i64 0]), 2, 16) := by kernel_rfl
theorem ti37 : ti Tryd.prog 37 = some (some (.agg #[.int .i64 0, .int .i64 0]), 2, 16) := by kernel_rfl
theorem ti38 : ti Tryd.prog 38 = some (some (.nilFunc), 1, 8) := by kernel_rfl
theorem ti39 : ti Tryd.prog 39 = some (some (.nilFunc), 1, 8) := by kernel_rfl
theorem ti40 : ti Tryd.prog 40 = some (some (.nilFunc), 1, 8) := by kernel_rfl
theorem ti41 : ti Tryd.prog 41 = some (some (.agg #[.int .i64 0, .int .i64 0, .int .i64 0, .bool false, .slice none 0 0, .int .i64 0, .int .i64 0]), 7, 72) := by kernel_rfl
theorem ti42 : ti Tryd.prog 42 = some (some (.agg #[.int .i64 0, .int .i64 0, .int .i64 0, .bool false, .slice none 0 0, .int .i64 0, .int .i64 0]), 7, 72) := by kernel_rfl
theorem ti44 : ti Tryd.prog 44 = some (some (.nilFunc), 1, 8) := by kernel_rfl
theorem ti45 : ti Tryd.prog 45 = some (some (.slice none 0 0), 1, 24) := by kernel_rfl
theorem ti47 : ti Tryd.prog 47 = some (some (.nilFunc), 1, 8) := by kernel_rfl
theorem ti48 : ti Tryd.prog 48 = some (some (.nilFunc), 1, 8) := by kernel_rfl
theorem ti49 : ti Tryd.prog 49 = some (some (.slice none 0 0), 1, 24) := by kernel_rfl
theorem ti50 : ti Tryd.prog 50 = some (some (.agg #[.int .i64 0, .int .i64 0, .int .i64 0, .int .i64 0, .int .i64 0, .int .i64 0]), 6, 48) := by kernel_rfl
theorem ti51 : ti Tryd.prog 51 = some (some (.agg #[.int .i64 0, .int .i64 0, .int .i64 0, .int .i64 0, .int .i64 0, .int .i64 0]), 6, 48) := by kernel_rfl
theorem ti52 : ti Tryd.prog 52 = some (some (.pointer none), 1, 8) := by kernel_rfl
theorem ti54 : ti Tryd.prog 54 = some (some (.nilFunc), 1, 8) := by kernel_rfl
theorem ti55 : ti Tryd.prog 55 = some (some (.pointer none), 1, 8) := by kernel_rfl
theorem ti56 : ti Tryd.prog 56 = some (some (.slice none 0 0), 1, 24) := by kernel_rfl
theorem ti57 : ti Tryd.prog 57 = some (some (.slice none 0 0), 1, 24) := by kernel_rfl
theorem ti58 : ti Tryd.prog 58 = some (some (.slice none 0 0), 1, 24) := by kernel_rfl
theorem ti59 : ti Tryd.prog 59 = some (some (.agg #[.int .i64 0, .int .i64 0, .int .i64 0, .int .i64 0, .int .i64 0, .int .i64 0, .int .i64 0, .int .i64 0, .int .i64 0]), 9, 72) := by kernel_rfl
theorem ti60 : ti Tryd.prog 60 = some (some (.agg #[.pointer none, .pointer none, .slice none 0 0, .slice none 0 0, .slice none 0 0, .int .i64 0, .int .i64 0, .int .i64 0, .int .i64 0, .int .i64 0, .int .i64 0, .int .i64 0, .int .i64 0, .int .i64 0]), 14, 160) := by kernel_rfl
theorem ti61 : ti Tryd.prog 61 = some (some (.agg #[.pointer none, .pointer none, .slice none 0 0, .slice none 0 0, .slice none 0 0, .int .i64 0, .int .i64 0, .int .i64 0, .int .i64 0, .int .i64 0, .int .i64 0, .int .i64 0, .int .i64 0, .int .i64 0]), 14, 160) := by kernel_rfl
theorem ti62 : ti Tryd.prog 62 = some (some (.nilFunc), 1, 8) := by kernel_rfl
theorem ti63 : ti Tryd.prog 63 = some (some (.nilFunc), 1, 8) := by kernel_rfl
theorem ti65 : ti Tryd.prog 65 = some (some (.nilFunc), 1, 8) := by kernel_rfl
theorem ti66 : ti Tryd.prog 66 = some (some (.nilFunc), 1, 8) := by kernel_rfl
theorem ti67 : ti Tryd.prog 67 = some (some (.nilFunc), 1, 8) := by kernel_rfl
theorem ti68 : ti Tryd.prog 68 = some (some (.nilFunc), 1, 8) := by kernel_rfl
theorem ti69 : ti Tryd.prog 69 = some (some (.nilFunc), 1, 8) := by kernel_rfl
theorem ti70 : ti Tryd.prog 70 = some (some (.slice none 0 0), 1, 24) := by kernel_rfl
theorem ti72 : ti Tryd.prog 72 = some (some (.nilFunc), 1, 8) := by kernel_rfl
theorem ti73 : ti Tryd.prog 73 = some (some (.slice none 0 0), 1, 24) := by kernel_rfl
theorem ti75 : ti Tryd.prog 75 = some (some (.nilFunc), 1, 8) := by kernel_rfl
theorem ti76 : ti Tryd.prog 76 = some (some (.agg #[.int .i32 0, .int .i64 0]), 2, 16) := by kernel_rfl
theorem ti77 : ti Tryd.prog 77 = some (some (.agg #[.int .i32 0, .int .i64 0]), 2, 16) := by kernel_rfl
theorem ti79 : ti Tryd.prog 79 = some (some (.nilFunc), 1, 8) := by kernel_rfl
theorem ti80 : ti Tryd.prog 80 = some (some (.nilFunc), 1, 8) := by kernel_rfl
theorem ti81 : ti Tryd.prog 81 = some (some (.nilFunc), 1, 8) := by kernel_rfl
theorem ti83 : ti Tryd.prog 83 = some (some (.nilFunc), 1, 8) := by kernel_rfl
theorem ti84 : ti Tryd.prog 84 = some (some (.slice none 0 0), 1, 24) := by kernel_rfl
theorem ti85 : ti Tryd.prog 85 = some (some (.nilFunc), 1, 8) := by kernel_rfl
theorem ti86 : ti Tryd.prog 86 = some (some (.nilFunc), 1, 8) := by kernel_rfl
theorem ti87 : ti Tryd.prog 87 = some (some (.nilFunc), 1, 8) := by kernel_rfl
theorem ti88 : ti Tryd.prog 88 = some (some (.nilFunc), 1, 8) := by kernel_rfl
theorem ti89 : ti Tryd.prog 89 = some (some (.nilFunc), 1, 8) := by kernel_rfl
theorem ti90 : ti Tryd.prog 90 = some (some (.nilFunc), 1, 8) := by kernel_rfl
theorem ti91 : ti Tryd.prog 91 = some (some (.nilFunc), 1, 8) := by kernel_rfl
theorem ti92 : ti Tryd.prog 92 = some (some (.nilFunc), 1, 8) := by kernel_rfl
theorem ti93 : ti Tryd.prog 93 = some (some (.nilFunc), 1, 8) := by kernel_rfl
theorem ti94 : ti Tryd.prog 94 = some (some (.nilFunc), 1, 8) := by kernel_rfl
theorem ti95 : ti Tryd.prog 95 = some (some (.map none), 1, 8) := by kernel_rfl
theorem ti96 : ti Tryd.prog 96 = some (some (.agg #[.slice none 0 0, .map none, .int .i64 0]), 3, 40) := by kernel_rfl
theorem ti97 : ti Tryd.prog 97 = some (some (.agg #[.slice none 0 0, .map none, .int .i64 0]), 3, 40) := by kernel_rfl
theorem ti98 : ti Tryd.prog 98 = some (some (.nilFunc), 1, 8) := by kernel_rfl
theorem ti99 : ti Tryd.prog 99 = some (some (.pointer none), 1, 8) := by kernel_rfl
theorem ti100 : ti Tryd.prog 100 = some (some (.agg #[.int .i64 0, .slice none 0 0, .bool false]), 3, 40) := by kernel_rfl
theorem ti101 : ti Tryd.prog 101 = some (some (.agg #[.int .i64 0, .slice none 0 0, .bool false]), 3, 40) := by kernel_rfl
theorem ti102 : ti Tryd.prog 102 = some (some (.slice none 0 0), 1, 24) := by kernel_rfl
theorem ti104 : ti Tryd.prog 104 = some (some (.nilFunc), 1, 8) := by kernel_rfl
theorem ti105 : ti Tryd.prog 105 = some (some (.nilFunc), 1, 8) := by kernel_rfl
theorem ti106 : ti Tryd.prog 106 = some (some (.nilFunc), 1, 8) := by kernel_rfl
theorem ti107 : ti Tryd.prog 107 = some (some (.nilFunc), 1, 8) := by kernel_rfl
theorem ti108 : ti Tryd.prog 108 = some (some (.nilFunc), 1, 8) := by kernel_rfl
theorem ti109 : ti Tryd.prog 109 = some (some (.nilFunc), 1, 8) := by kernel_rfl
theorem ti110 : ti Tryd.prog 110 = some (some (.nilFunc), 1, 8) := by kernel_rfl
theorem ti111 : ti Tryd.prog 111 = some (some (.agg #[.int .i64 0, .int .i64 0, .int .i64 0, .int .i64 0, .int .i64 0, .int .i64 0]), 6, 48) := by kernel_rfl
theorem ti112 : ti Tryd.prog 112 = some (some (.agg #[.int .i64 0, .int .i64 0, .int .i64 0, .int .i64 0, .int .i64 0, .int .i64 0]), 6, 48) := by kernel_rfl
theorem ti113 : ti Tryd.prog 113 = some (some (.pointer none), 1, 8) := by kernel_rfl
theorem ti114 : ti Tryd.prog 114 = some (some (.agg #[.pointer none]), 1, 8) := by kernel_rfl
theorem ti115 : ti Tryd.prog 115 = some (some (.agg #[.pointer none]), 1, 8) := by kernel_rfl
theorem ti116 : ti Tryd.prog 116 = some (some (.nilFunc), 1, 8) := by kernel_rfl
theorem ti117 : ti Tryd.prog 117 = some (some (.agg #[.slice none 0 0, .int .i64 0]), 2, 32) := by kernel_rfl
theorem ti118 : ti Tryd.prog 118 = some (some (.agg #[.slice none 0 0, .int .i64 0]), 2, 32) := by kernel_rfl
theorem ti120 : ti Tryd.prog 120 = some (some (.nilFunc), 1, 8) := by kernel_rfl
theorem ti121 : ti Tryd.prog 121 = some (some (.pointer none), 1, 8) := by kernel_rfl
theorem ti122 : ti Tryd.prog 122 = some (some (.slice none 0 0), 1, 24) := by kernel_rfl
theorem ti123 : ti Tryd.prog 123 = some (some (.agg #[.pointer none, .slice none 0 0]), 2, 32) := by kernel_rfl
theorem ti124 : ti Tryd.prog 124 = some (some (.agg #[.pointer none, .slice none 0 0]), 2, 32) := by kernel_rfl
theorem ti125 : ti Tryd.prog 125 = some (some (.nilFunc), 1, 8) := by kernel_rfl
theorem ti126 : ti Tryd.prog 126 = some (some (.agg #[.string ⟨#[]⟩, .int .i64 0]), 2, 24) := by kernel_rfl
theorem ti127 : ti Tryd.prog 127 = some (some (.agg #[.string ⟨#[]⟩, .int .i64 0]), 2, 24) := by kernel_rfl
theorem ti128 : ti Tryd.prog 128 = some (some (.nilFunc), 1, 8) := by kernel_rfl
theorem ti129 : ti Tryd.prog 129 = some (some (.nilIface), 1, 16) := by kernel_rfl
theorem ti130 : ti Tryd.prog 130 = some (some (.nilIface), 1, 16) := by kernel_rfl
theorem ti132 : ti Tryd.prog 132 = some (some (.nilFunc), 1, 8) := by kernel_rfl
theorem ti133 : ti Tryd.prog 133 = some (some (.nilFunc), 1, 8) := by kernel_rfl
theorem ti135 : ti Tryd.prog 135 = some (some (.nilFunc), 1, 8) := by kernel_rfl
theorem ti136 : ti Tryd.prog 136 = some (some (.nilFunc), 1, 8) := by kernel_rfl
theorem ti137 : ti Tryd.prog 137 = some (some (.nilFunc), 1, 8) := by kernel_rfl
theorem ti138 : ti Tryd.prog 138 = some (some (.nilFunc), 1, 8) := by kernel_rfl
theorem ti139 : ti Tryd.prog 139 = some (some (.nilFunc), 1, 8) := by kernel_rfl
theorem ti140 : ti Tryd.prog 140 = some (some (.nilFunc), 1, 8) := by kernel_rfl
theorem ti141 : ti Tryd.prog 141 = some (some (.nilFunc), 1, 8) := by kernel_rfl
theorem ti143 : ti Tryd.prog 143 = some (some (.nilFunc), 1, 8) := by kernel_rfl
theorem ti145 : ti Tryd.prog 145 = some (some (.nilFunc), 1, 8) := by kernel_rfl
theorem ti146 : ti Tryd.prog 146 = some (some (.nilFunc), 1, 8) := by kernel_rfl
theorem ti147 : ti Tryd.prog 147 = some (some (.nilFunc), 1, 8) := by kernel_rfl
theorem ti148 : ti Tryd.prog 148 = some (some (.nilFunc), 1, 8) := by kernel_rfl
theorem ti149 : ti Tryd.prog 149 = some (some (.agg #[.int .i64 0, .int .i64 0, .int .i64 0, .int .i64 0, .int .i64 0, .int .i64 0, .pointer none, .pointer none, .slice none 0 0, .int .i64 0, .int .i64 0]), 11, 104) := by kernel_rfl
theorem ti150 : ti Tryd.prog 150 = some (some (.agg #[.int .i64 0, .int .i64 0, .int .i64 0, .int .i64 0, .int .i64 0, .int .i64 0, .pointer none, .pointer none, .slice none 0 0, .int .i64 0, .int .i64 0]), 11, 104) := by kernel_rfl
theorem ti151 : ti Tryd.prog 151 = some (some (.nilFunc), 1, 8) := by kernel_rfl
theorem ti152 : ti Tryd.prog 152 = some (some (.pointer none), 1, 8) := by kernel_rfl
theorem ti153 : ti Tryd.prog 153 = some (some (.nilFunc), 1, 8) := by kernel_rfl
theorem ti154 : ti Tryd.prog 154 = some (some (.nilFunc), 1, 8) := by kernel_rfl
theorem ti155 : ti Tryd.prog 155 = some (some (.nilFunc), 1, 8) := by kernel_rfl
theorem ti156 : ti Tryd.prog 156 = some (some (.nilFunc), 1, 8) := by kernel_rfl
theorem ti158 : ti Tryd.prog 158 = some (some (.nilFunc), 1, 8) := by kernel_rfl
theorem ti159 : ti Tryd.prog 159 = some (some (.nilFunc), 1, 8) := by kernel_rfl
theorem ti160 : ti Tryd.prog 160 = some (some (.nilFunc), 1, 8) := by kernel_rfl
theorem ti161 : ti Tryd.prog 161 = some (some (.slice none 0 0), 1, 24) := by kernel_rfl
theorem ti162 : ti Tryd.prog 162 = some (some (.nilFunc), 1, 8) := by kernel_rfl
theorem ti163 : ti Tryd.prog 163 = some (some (.nilFunc), 1, 8) := by kernel_rfl
theorem ti164 : ti Tryd.prog 164 = some (some (.nilFunc), 1, 8) := by kernel_rfl
theorem ti166 : ti Tryd.prog 166 = some (some (.nilFunc), 1, 8) := by kernel_rfl
theorem ti167 : ti Tryd.prog 167 = some (some (.nilFunc), 1, 8) := by kernel_rfl
theorem ti168 : ti Tryd.prog 168 = some (some (.nilFunc), 1, 8) := by kernel_rfl
theorem ti169 : ti Tryd.prog 169 = some (some (.nilFunc), 1, 8) := by kernel_rfl
theorem ti170 : ti Tryd.prog 170 = some (some (.nilFunc), 1, 8) := by kernel_rfl
theorem ti171 : ti Tryd.prog 171 = some (some (.nilFunc), 1, 8) := by kernel_rfl
theorem ti172 : ti Tryd.prog 172 = some (some (.nilFunc), 1, 8) := by kernel_rfl
theorem ti173 : ti Tryd.prog 173 = some (some (.pointer none), 1, 8) := by kernel_rfl
theorem ti174 : ti Tryd.prog 174 = some (some (.nilFunc), 1, 8) := by kernel_rfl
theorem ti175 : ti Tryd.prog 175 = some (some (.int .u32 0), 1, 4) := by kernel_rfl
theorem ti176 : ti Tryd.prog 176 = some (some (.nilFunc), 1, 8) := by kernel_rfl
theorem ti178 : ti Tryd.prog 178 = some (some (.nilFunc), 1, 8) := by kernel_rfl
theorem ti180 : ti Tryd.prog 180 = some (some (.nilFunc), 1, 8) := by kernel_rfl
theorem ti181 : ti Tryd.prog 181 = some (some (.nilFunc), 1, 8) := by kernel_rfl
theorem ti182 : ti Tryd.prog 182 = some (some (.nilFunc), 1, 8) := by kernel_rfl
theorem ti183 : ti Tryd.prog 183 = some (some (.nilFunc), 1, 8) := by kernel_rfl
theorem ti184 : ti Tryd.prog 184 = some (some (.nilFunc), 1, 8) := by kernel_rfl
theorem ti185 : ti Tryd.prog 185 = some (some (.agg #[.int .i32 0, .int .i32 0]), 2, 8) := by kernel_rfl
theorem ti186 : ti Tryd.prog 186 = some (some (.agg #[.int .i32 0, .int .i32 0]), 2, 8) := by kernel_rfl
theorem ti187 : ti Tryd.prog 187 = some (some (.agg #[.int .i32 0, .int .i32 0, .int .i32 0, .int .i32 0, .int .i32 0, .int .i32 0, .int .i32 0, .int .i32 0, .int .i32 0, .int .i32 0]), 10, 40) := by kernel_rfl
theorem ti188 : ti Tryd.prog 188 = some (some (.int .u64 0), 1, 8) := by kernel_rfl
theorem ti189 : ti Tryd.prog 189 = some (some (.nilFunc), 1, 8) := by kernel_rfl
theorem ti190 : ti Tryd.prog 190 = some (some (.nilFunc), 1, 8) := by kernel_rfl
end Go.Proofs.YtggdddkbhigjoaaDoor
