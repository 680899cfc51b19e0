/-
  What the program's types are, for the layer Vc.
-/
import Derived.Test.YtlelhmbhhnokoaaDoorEnc
import Derived.Test.YtlelhmbhhnokoaaDoorProg
set_option linter.unusedVariables false
set_option linter.unusedSimpArgs false
set_option linter.unnecessarySimpa false
namespace Go.Vc
open Go.Proofs

theorem ti0 : tiOf Tryd.prog 0 = some ⟨false, 1, 0, .undef, [], 0, .other⟩ := by kernel_rfl
theorem ti1 : tiOf Tryd.prog 1 = some ⟨false, 1, 8, .val .nilFunc, [], 0, .other⟩ := by kernel_rfl
theorem ti2 : tiOf Tryd.prog 2 = some ⟨false, 1, 8, .val (.int .i64 0), [], 0, .int .i64⟩ := by kernel_rfl
theorem ti3 : tiOf Tryd.prog 3 = some ⟨false, 1, 8, .val (.int .i64 0), [], 0, .int .i64⟩ := by kernel_rfl
theorem ti4 : tiOf Tryd.prog 4 = some ⟨false, 1, 1, .val (.bool false), [], 0, .bool⟩ := by kernel_rfl
theorem ti5 : tiOf Tryd.prog 5 = some ⟨false, 1, 1, .val (.int .u8 0), [], 0, .int .u8⟩ := by kernel_rfl
theorem ti6 : tiOf Tryd.prog 6 = some ⟨false, 1, 1, .val (.int .u8 0), [], 0, .int .u8⟩ := by kernel_rfl
theorem ti7 : tiOf Tryd.prog 7 = some ⟨true, 4, 24, .agg [.val (.int .i64 0), .val (.int .i64 0), .val (.bool false), .val (.int .u8 0)], [(0, 1, false), (1, 1, false), (2, 1, false), (3, 1, false)], 0, .struct⟩ := by kernel_rfl
theorem ti8 : tiOf Tryd.prog 8 = some ⟨true, 4, 24, .agg [.val (.int .i64 0), .val (.int .i64 0), .val (.bool false), .val (.int .u8 0)], [(0, 1, false), (1, 1, false), (2, 1, false), (3, 1, false)], 0, .struct⟩ := by kernel_rfl
theorem ti9 : tiOf Tryd.prog 9 = some ⟨false, 1, 16, .val (.string ⟨#[]⟩), [], 0, .string⟩ := by kernel_rfl
theorem ti10 : tiOf Tryd.prog 10 = some ⟨false, 1, 16, .val (.string ⟨#[]⟩), [], 0, .string⟩ := by kernel_rfl
theorem ti11 : tiOf Tryd.prog 11 = some ⟨false, 1, 16, .val (.string ⟨#[]⟩), [], 0, .string⟩ := by kernel_rfl
theorem ti12 : tiOf Tryd.prog 12 = some ⟨false, 1, 8, .val (.int .u64 0), [], 0, .int .u64⟩ := by kernel_rfl
theorem ti13 : tiOf Tryd.prog 13 = some ⟨true, 2, 24, .agg [.val (.string ⟨#[]⟩), .val (.int .u64 0)], [(0, 1, false), (1, 1, false)], 0, .struct⟩ := by kernel_rfl
theorem ti14 : tiOf Tryd.prog 14 = some ⟨true, 2, 24, .agg [.val (.string ⟨#[]⟩), .val (.int .u64 0)], [(0, 1, false), (1, 1, false)], 0, .struct⟩ := by kernel_rfl
theorem ti15 : tiOf Tryd.prog 15 = some ⟨false, 1, 8, .val (.pointer none), [], 0, .other⟩ := by kernel_rfl
theorem ti16 : tiOf Tryd.prog 16 = some ⟨false, 1, 8, .val (.pointer none), [], 0, .other⟩ := by kernel_rfl
theorem ti17 : tiOf Tryd.prog 17 = some ⟨false, 1, 8, .val (.pointer none), [], 0, .other⟩ := by kernel_rfl
theorem ti18 : tiOf Tryd.prog 18 = some ⟨true, 1, 8, .agg [.val (.pointer none)], [(0, 1, false)], 0, .struct⟩ := by kernel_rfl
theorem ti19 : tiOf Tryd.prog 19 = some ⟨true, 1, 8, .agg [.val (.pointer none)], [(0, 1, false)], 0, .struct⟩ := by kernel_rfl
theorem ti20 : tiOf Tryd.prog 20 = some ⟨false, 1, 16, .val .nilIface, [], 0, .iface⟩ := by kernel_rfl
theorem ti21 : tiOf Tryd.prog 21 = some ⟨false, 1, 4, .val (.int .i32 0), [], 0, .int .i32⟩ := by kernel_rfl
theorem ti22 : tiOf Tryd.prog 22 = some ⟨false, 1, 8, .val .nilFunc, [], 0, .other⟩ := by kernel_rfl
theorem ti23 : tiOf Tryd.prog 23 = some ⟨true, 5, 40, .agg [.val (.int .i64 0), .val (.int .i64 0), .val (.int .i64 0), .val (.int .i64 0), .val (.int .i64 0)], [(0, 1, false), (1, 1, false), (2, 1, false), (3, 1, false), (4, 1, false)], 0, .struct⟩ := by kernel_rfl
theorem ti24 : tiOf Tryd.prog 24 = some ⟨true, 5, 40, .agg [.val (.int .i64 0), .val (.int .i64 0), .val (.int .i64 0), .val (.int .i64 0), .val (.int .i64 0)], [(0, 1, false), (1, 1, false), (2, 1, false), (3, 1, false), (4, 1, false)], 0, .struct⟩ := by kernel_rfl
theorem ti25 : tiOf Tryd.prog 25 = some ⟨false, 1, 24, .val (.slice none 0 0), [], 47, .slice⟩ := by kernel_rfl
theorem ti26 : tiOf Tryd.prog 26 = some ⟨true, 6, 64, .agg [.val (.int .i64 0), .val (.int .i64 0), .val (.int .i64 0), .val (.int .i64 0), .val (.int .i64 0), .val (.slice none 0 0)], [(0, 5, true), (5, 1, false)], 0, .struct⟩ := by kernel_rfl
theorem ti27 : tiOf Tryd.prog 27 = some ⟨true, 6, 64, .agg [.val (.int .i64 0), .val (.int .i64 0), .val (.int .i64 0), .val (.int .i64 0), .val (.int .i64 0), .val (.slice none 0 0)], [(0, 5, true), (5, 1, false)], 0, .struct⟩ := by kernel_rfl
theorem ti28 : tiOf Tryd.prog 28 = some ⟨false, 1, 24, .val (.slice none 0 0), [], 64, .slice⟩ := by kernel_rfl
theorem ti29 : tiOf Tryd.prog 29 = some ⟨false, 1, 8, .val .nilFunc, [], 0, .other⟩ := by kernel_rfl
theorem ti30 : tiOf Tryd.prog 30 = some ⟨false, 1, 8, .val .nilFunc, [], 0, .other⟩ := by kernel_rfl
theorem ti31 : tiOf Tryd.prog 31 = some ⟨false, 1, 0, .undef, [], 0, .other⟩ := by kernel_rfl
theorem ti32 : tiOf Tryd.prog 32 = some ⟨false, 1, 8, .val .nilFunc, [], 0, .other⟩ := by kernel_rfl
theorem ti33 : tiOf Tryd.prog 33 = some ⟨true, 5, 40, .agg [.val (.int .i64 0), .val (.int .i64 0), .val (.int .i64 0), .val (.int .i64 0), .val (.int .i64 0)], [(0, 1, false), (1, 1, false), (2, 1, false), (3, 1, false), (4, 1, false)], 0, .struct⟩ := by kernel_rfl
theorem ti34 : tiOf Tryd.prog 34 = some ⟨true, 6, 64, .agg [.val (.int .i64 0), .val (.int .i64 0), .val (.int .i64 0), .val (.int .i64 0), .val (.int .i64 0), .val (.slice none 0 0)], [(0, 5, true), (5, 1, false)], 0, .struct⟩ := by kernel_rfl
theorem ti35 : tiOf Tryd.prog 35 = some ⟨true, 6, 64, .agg [.val (.int .i64 0), .val (.int .i64 0), .val (.int .i64 0), .val (.int .i64 0), .val (.int .i64 0), .val (.slice none 0 0)], [(0, 5, true), (5, 1, false)], 0, .struct⟩ := by kernel_rfl
theorem ti36 : tiOf Tryd.prog 36 = some ⟨false, 1, 8, .val .nilFunc, [], 0, .other⟩ := by kernel_rfl
theorem ti37 : tiOf Tryd.prog 37 = some ⟨false, 1, 24, .val (.slice none 0 0), [], 62, .slice⟩ := by kernel_rfl
theorem ti38 : tiOf Tryd.prog 38 = some ⟨false, 1, 8, .val .nilFunc, [], 0, .other⟩ := by kernel_rfl
theorem ti39 : tiOf Tryd.prog 39 = some ⟨false, 1, 8, .val .nilFunc, [], 0, .other⟩ := by kernel_rfl
theorem ti40 : tiOf Tryd.prog 40 = some ⟨false, 1, 8, .val .nilFunc, [], 0, .other⟩ := by kernel_rfl
theorem ti41 : tiOf Tryd.prog 41 = some ⟨false, 1, 8, .val .nilFunc, [], 0, .other⟩ := by kernel_rfl
theorem ti42 : tiOf Tryd.prog 42 = some ⟨false, 1, 0, .undef, [], 0, .other⟩ := by kernel_rfl
theorem ti43 : tiOf Tryd.prog 43 = some ⟨false, 1, 8, .val .nilFunc, [], 0, .other⟩ := by kernel_rfl
theorem ti44 : tiOf Tryd.prog 44 = some ⟨false, 1, 8, .val .nilFunc, [], 0, .other⟩ := by kernel_rfl
theorem ti45 : tiOf Tryd.prog 45 = some ⟨false, 1, 8, .val .nilFunc, [], 0, .other⟩ := by kernel_rfl
theorem ti46 : tiOf Tryd.prog 46 = some ⟨false, 1, 8, .val .nilFunc, [], 0, .other⟩ := by kernel_rfl
theorem ti47 : tiOf Tryd.prog 47 = some ⟨false, 1, 24, .val (.slice none 0 0), [], 2, .slice⟩ := by kernel_rfl
theorem ti48 : tiOf Tryd.prog 48 = some ⟨false, 1, 0, .undef, [], 0, .other⟩ := by kernel_rfl
theorem ti49 : tiOf Tryd.prog 49 = some ⟨false, 1, 8, .val .nilFunc, [], 0, .other⟩ := by kernel_rfl
theorem ti50 : tiOf Tryd.prog 50 = some ⟨false, 1, 8, .val .nilFunc, [], 0, .other⟩ := by kernel_rfl
theorem ti51 : tiOf Tryd.prog 51 = some ⟨false, 1, 8, .val .nilFunc, [], 0, .other⟩ := by kernel_rfl
theorem ti52 : tiOf Tryd.prog 52 = some ⟨false, 1, 8, .val .nilFunc, [], 0, .other⟩ := by kernel_rfl
theorem ti53 : tiOf Tryd.prog 53 = some ⟨false, 1, 8, .val .nilFunc, [], 0, .other⟩ := by kernel_rfl
theorem ti54 : tiOf Tryd.prog 54 = some ⟨false, 1, 24, .val (.slice none 0 0), [], 9, .slice⟩ := by kernel_rfl
theorem ti55 : tiOf Tryd.prog 55 = some ⟨false, 1, 0, .undef, [], 0, .other⟩ := by kernel_rfl
theorem ti56 : tiOf Tryd.prog 56 = some ⟨false, 1, 8, .val .nilFunc, [], 0, .other⟩ := by kernel_rfl
theorem ti57 : tiOf Tryd.prog 57 = some ⟨false, 1, 8, .val .nilFunc, [], 0, .other⟩ := by kernel_rfl
theorem ti58 : tiOf Tryd.prog 58 = some ⟨false, 1, 8, .val .nilFunc, [], 0, .other⟩ := by kernel_rfl
theorem ti59 : tiOf Tryd.prog 59 = some ⟨false, 1, 8, .val .nilFunc, [], 0, .other⟩ := by kernel_rfl
theorem ti60 : tiOf Tryd.prog 60 = some ⟨false, 1, 8, .val .nilFunc, [], 0, .other⟩ := by kernel_rfl
theorem ti61 : tiOf Tryd.prog 61 = some ⟨true, 3, 24, .agg [.val (.bool false), .val (.int .i64 0), .val (.int .i64 0)], [(0, 1, false), (1, 1, false), (2, 1, false)], 0, .struct⟩ := by kernel_rfl
theorem ti62 : tiOf Tryd.prog 62 = some ⟨true, 3, 24, .agg [.val (.bool false), .val (.int .i64 0), .val (.int .i64 0)], [(0, 1, false), (1, 1, false), (2, 1, false)], 0, .struct⟩ := by kernel_rfl
theorem ti63 : tiOf Tryd.prog 63 = some ⟨false, 1, 8, .val .nilFunc, [], 0, .other⟩ := by kernel_rfl
theorem ti64 : tiOf Tryd.prog 64 = some ⟨true, 3, 24, .agg [.val (.bool false), .val (.int .i64 0), .val (.int .i64 0)], [(0, 1, false), (1, 1, false), (2, 1, false)], 0, .struct⟩ := by kernel_rfl
theorem ti65 : tiOf Tryd.prog 65 = some ⟨false, 1, 8, .val .nilFunc, [], 0, .other⟩ := by kernel_rfl
theorem ti66 : tiOf Tryd.prog 66 = some ⟨false, 1, 8, .val .nilFunc, [], 0, .other⟩ := by kernel_rfl
theorem ti67 : tiOf Tryd.prog 67 = some ⟨false, 1, 8, .val .nilFunc, [], 0, .other⟩ := by kernel_rfl
theorem ti68 : tiOf Tryd.prog 68 = some ⟨false, 1, 8, .val .nilFunc, [], 0, .other⟩ := by kernel_rfl
theorem ti69 : tiOf Tryd.prog 69 = some ⟨false, 1, 8, .val .nilFunc, [], 0, .other⟩ := by kernel_rfl
theorem ti70 : tiOf Tryd.prog 70 = some ⟨false, 1, 0, .undef, [], 0, .other⟩ := by kernel_rfl
theorem ti71 : tiOf Tryd.prog 71 = some ⟨false, 1, 8, .val .nilFunc, [], 0, .other⟩ := by kernel_rfl
theorem ti72 : tiOf Tryd.prog 72 = some ⟨false, 1, 8, .val .nilFunc, [], 0, .other⟩ := by kernel_rfl
theorem ti73 : tiOf Tryd.prog 73 = some ⟨false, 1, 8, .val .nilFunc, [], 0, .other⟩ := by kernel_rfl
theorem ti74 : tiOf Tryd.prog 74 = some ⟨false, 1, 0, .undef, [], 0, .other⟩ := by kernel_rfl
theorem ti75 : tiOf Tryd.prog 75 = some ⟨false, 1, 8, .val .nilFunc, [], 0, .other⟩ := by kernel_rfl
theorem ti76 : tiOf Tryd.prog 76 = some ⟨false, 1, 8, .val .nilFunc, [], 0, .other⟩ := by kernel_rfl
theorem ti77 : tiOf Tryd.prog 77 = some ⟨false, 1, 0, .undef, [], 0, .other⟩ := by kernel_rfl
theorem ti78 : tiOf Tryd.prog 78 = some ⟨false, 1, 8, .val .nilFunc, [], 0, .other⟩ := by kernel_rfl
theorem ti79 : tiOf Tryd.prog 79 = some ⟨false, 1, 8, .val .nilFunc, [], 0, .other⟩ := by kernel_rfl
theorem ti80 : tiOf Tryd.prog 80 = some ⟨false, 1, 8, .val .nilFunc, [], 0, .other⟩ := by kernel_rfl
theorem ti81 : tiOf Tryd.prog 81 = some ⟨false, 1, 8, .val .nilFunc, [], 0, .other⟩ := by kernel_rfl
theorem ti82 : tiOf Tryd.prog 82 = some ⟨false, 1, 8, .val .nilFunc, [], 0, .other⟩ := by kernel_rfl
theorem ti83 : tiOf Tryd.prog 83 = some ⟨false, 1, 8, .val .nilFunc, [], 0, .other⟩ := by kernel_rfl
theorem ti84 : tiOf Tryd.prog 84 = some ⟨false, 1, 8, .val .nilFunc, [], 0, .other⟩ := by kernel_rfl
theorem ti85 : tiOf Tryd.prog 85 = some ⟨false, 1, 8, .val .nilFunc, [], 0, .other⟩ := by kernel_rfl
theorem ti86 : tiOf Tryd.prog 86 = some ⟨false, 1, 8, .val .nilFunc, [], 0, .other⟩ := by kernel_rfl
theorem ti87 : tiOf Tryd.prog 87 = some ⟨false, 1, 8, .val .nilFunc, [], 0, .other⟩ := by kernel_rfl
theorem ti88 : tiOf Tryd.prog 88 = some ⟨false, 1, 8, .val .nilFunc, [], 0, .other⟩ := by kernel_rfl
theorem ti89 : tiOf Tryd.prog 89 = some ⟨false, 1, 8, .val .nilFunc, [], 0, .other⟩ := by kernel_rfl
theorem ti90 : tiOf Tryd.prog 90 = some ⟨false, 1, 8, .val .nilFunc, [], 0, .other⟩ := by kernel_rfl
theorem ti91 : tiOf Tryd.prog 91 = some ⟨false, 1, 8, .val .nilFunc, [], 0, .other⟩ := by kernel_rfl
theorem ti92 : tiOf Tryd.prog 92 = some ⟨false, 1, 8, .val .nilFunc, [], 0, .other⟩ := by kernel_rfl
theorem ti93 : tiOf Tryd.prog 93 = some ⟨false, 1, 8, .val .nilFunc, [], 0, .other⟩ := by kernel_rfl
theorem ti94 : tiOf Tryd.prog 94 = some ⟨false, 1, 8, .val .nilFunc, [], 0, .other⟩ := by kernel_rfl
theorem ti95 : tiOf Tryd.prog 95 = some ⟨false, 1, 8, .val .nilFunc, [], 0, .other⟩ := by kernel_rfl
theorem ti96 : tiOf Tryd.prog 96 = some ⟨false, 1, 8, .val .nilFunc, [], 0, .other⟩ := by kernel_rfl
theorem ti97 : tiOf Tryd.prog 97 = some ⟨false, 1, 8, .val .nilFunc, [], 0, .other⟩ := by kernel_rfl
theorem ti98 : tiOf Tryd.prog 98 = some ⟨false, 1, 8, .val .nilFunc, [], 0, .other⟩ := by kernel_rfl
theorem ti99 : tiOf Tryd.prog 99 = some ⟨false, 1, 8, .val .nilFunc, [], 0, .other⟩ := by kernel_rfl
theorem ti100 : tiOf Tryd.prog 100 = some ⟨false, 1, 16, .val .nilIface, [], 0, .iface⟩ := by kernel_rfl
theorem ti101 : tiOf Tryd.prog 101 = some ⟨false, 1, 16, .val .nilIface, [], 0, .iface⟩ := by kernel_rfl
theorem ti102 : tiOf Tryd.prog 102 = some ⟨false, 1, 0, .undef, [], 0, .other⟩ := by kernel_rfl
theorem ti103 : tiOf Tryd.prog 103 = some ⟨false, 1, 8, .val .nilFunc, [], 0, .other⟩ := by kernel_rfl
theorem ti104 : tiOf Tryd.prog 104 = some ⟨false, 1, 24, .val (.slice none 0 0), [], 5, .slice⟩ := by kernel_rfl
theorem ti105 : tiOf Tryd.prog 105 = some ⟨false, 1, 8, .val .nilFunc, [], 0, .other⟩ := by kernel_rfl
theorem ti106 : tiOf Tryd.prog 106 = some ⟨false, 1, 8, .val (.pointer none), [], 0, .other⟩ := by kernel_rfl
theorem ti107 : tiOf Tryd.prog 107 = some ⟨true, 2, 32, .agg [.val (.pointer none), .val (.slice none 0 0)], [(0, 1, false), (1, 1, false)], 0, .struct⟩ := by kernel_rfl
theorem ti108 : tiOf Tryd.prog 108 = some ⟨true, 2, 32, .agg [.val (.pointer none), .val (.slice none 0 0)], [(0, 1, false), (1, 1, false)], 0, .struct⟩ := by kernel_rfl
theorem ti109 : tiOf Tryd.prog 109 = some ⟨false, 1, 8, .val .nilFunc, [], 0, .other⟩ := by kernel_rfl
theorem ti110 : tiOf Tryd.prog 110 = some ⟨false, 1, 0, .undef, [], 0, .other⟩ := by kernel_rfl
theorem ti111 : tiOf Tryd.prog 111 = some ⟨false, 1, 8, .val .nilFunc, [], 0, .other⟩ := by kernel_rfl
theorem ti112 : tiOf Tryd.prog 112 = some ⟨false, 1, 8, .val .nilFunc, [], 0, .other⟩ := by kernel_rfl
theorem ti113 : tiOf Tryd.prog 113 = some ⟨false, 1, 8, .val .nilFunc, [], 0, .other⟩ := by kernel_rfl
theorem ti114 : tiOf Tryd.prog 114 = some ⟨false, 1, 8, .val .nilFunc, [], 0, .other⟩ := by kernel_rfl
theorem ti115 : tiOf Tryd.prog 115 = some ⟨false, 1, 8, .val .nilFunc, [], 0, .other⟩ := by kernel_rfl
theorem ti116 : tiOf Tryd.prog 116 = some ⟨false, 1, 8, .val .nilFunc, [], 0, .other⟩ := by kernel_rfl
theorem ti117 : tiOf Tryd.prog 117 = some ⟨false, 1, 8, .val .nilFunc, [], 0, .other⟩ := by kernel_rfl
theorem ti118 : tiOf Tryd.prog 118 = some ⟨false, 1, 8, .val .nilFunc, [], 0, .other⟩ := by kernel_rfl
theorem ti119 : tiOf Tryd.prog 119 = some ⟨false, 1, 8, .val .nilFunc, [], 0, .other⟩ := by kernel_rfl
theorem ti120 : tiOf Tryd.prog 120 = some ⟨false, 1, 8, .val .nilFunc, [], 0, .other⟩ := by kernel_rfl
theorem ti121 : tiOf Tryd.prog 121 = some ⟨false, 1, 8, .val (.pointer none), [], 0, .other⟩ := by kernel_rfl
theorem ti122 : tiOf Tryd.prog 122 = some ⟨false, 1, 0, .undef, [], 0, .other⟩ := by kernel_rfl
theorem ti123 : tiOf Tryd.prog 123 = some ⟨false, 1, 8, .val .nilFunc, [], 0, .other⟩ := by kernel_rfl
theorem ti124 : tiOf Tryd.prog 124 = some ⟨false, 1, 8, .val .nilFunc, [], 0, .other⟩ := by kernel_rfl
theorem ti125 : tiOf Tryd.prog 125 = some ⟨false, 1, 8, .val .nilFunc, [], 0, .other⟩ := by kernel_rfl
theorem ti126 : tiOf Tryd.prog 126 = some ⟨false, 1, 8, .val (.int .i64 0), [], 0, .int .i64⟩ := by kernel_rfl
theorem ti127 : tiOf Tryd.prog 127 = some ⟨false, 1, 8, .val (.int .u64 0), [], 0, .int .u64⟩ := by kernel_rfl
theorem ti128 : tiOf Tryd.prog 128 = some ⟨false, 1, 0, .undef, [], 0, .other⟩ := by kernel_rfl
theorem ti129 : tiOf Tryd.prog 129 = some ⟨false, 1, 8, .val .nilFunc, [], 0, .other⟩ := by kernel_rfl
theorem ti130 : tiOf Tryd.prog 130 = some ⟨false, 1, 8, .val (.int .u64 0), [], 0, .int .u64⟩ := by kernel_rfl
theorem ti131 : tiOf Tryd.prog 131 = some ⟨false, 1, 8, .val (.pointer none), [], 0, .other⟩ := by kernel_rfl
theorem ti132 : tiOf Tryd.prog 132 = some ⟨false, 1, 8, .val .nilFunc, [], 0, .other⟩ := by kernel_rfl
theorem ti133 : tiOf Tryd.prog 133 = some ⟨false, 1, 8, .val .nilFunc, [], 0, .other⟩ := by kernel_rfl
theorem ti134 : tiOf Tryd.prog 134 = some ⟨false, 1, 8, .val .nilFunc, [], 0, .other⟩ := by kernel_rfl
theorem ti135 : tiOf Tryd.prog 135 = some ⟨true, 24, 24, .agg [.val (.int .u8 0), .val (.int .u8 0), .val (.int .u8 0), .val (.int .u8 0), .val (.int .u8 0), .val (.int .u8 0), .val (.int .u8 0), .val (.int .u8 0), .val (.int .u8 0), .val (.int .u8 0), .val (.int .u8 0), .val (.int .u8 0), .val (.int .u8 0), .val (.int .u8 0), .val (.int .u8 0), .val (.int .u8 0), .val (.int .u8 0), .val (.int .u8 0), .val (.int .u8 0), .val (.int .u8 0), .val (.int .u8 0), .val (.int .u8 0), .val (.int .u8 0), .val (.int .u8 0)], [], 0, .other⟩ := by kernel_rfl
theorem ti136 : tiOf Tryd.prog 136 = some ⟨false, 1, 8, .val .nilFunc, [], 0, .other⟩ := by kernel_rfl
theorem ti137 : tiOf Tryd.prog 137 = some ⟨false, 1, 8, .val .nilFunc, [], 0, .other⟩ := by kernel_rfl
theorem ti138 : tiOf Tryd.prog 138 = some ⟨false, 1, 0, .undef, [], 0, .other⟩ := by kernel_rfl
theorem ti139 : tiOf Tryd.prog 139 = some ⟨false, 1, 8, .val .nilFunc, [], 0, .other⟩ := by kernel_rfl
theorem ti140 : tiOf Tryd.prog 140 = some ⟨false, 1, 8, .val (.pointer none), [], 0, .other⟩ := by kernel_rfl
theorem ti141 : tiOf Tryd.prog 141 = some ⟨false, 1, 8, .val .nilFunc, [], 0, .other⟩ := by kernel_rfl
theorem ti142 : tiOf Tryd.prog 142 = some ⟨false, 1, 8, .val .nilFunc, [], 0, .other⟩ := by kernel_rfl
theorem ti143 : tiOf Tryd.prog 143 = some ⟨false, 1, 8, .val .nilFunc, [], 0, .other⟩ := by kernel_rfl
theorem ti144 : tiOf Tryd.prog 144 = some ⟨false, 1, 8, .val .nilFunc, [], 0, .other⟩ := by kernel_rfl
theorem ti145 : tiOf Tryd.prog 145 = some ⟨false, 1, 0, .undef, [], 0, .other⟩ := by kernel_rfl
theorem ti146 : tiOf Tryd.prog 146 = some ⟨false, 1, 8, .val .nilFunc, [], 0, .other⟩ := by kernel_rfl
theorem ti147 : tiOf Tryd.prog 147 = some ⟨false, 1, 8, .val .nilFunc, [], 0, .other⟩ := by kernel_rfl
theorem ti148 : tiOf Tryd.prog 148 = some ⟨false, 1, 8, .val .nilFunc, [], 0, .other⟩ := by kernel_rfl
theorem ti149 : tiOf Tryd.prog 149 = some ⟨false, 1, 8, .val .nilFunc, [], 0, .other⟩ := by kernel_rfl
theorem ti150 : tiOf Tryd.prog 150 = some ⟨false, 1, 8, .val .nilFunc, [], 0, .other⟩ := by kernel_rfl
theorem ti151 : tiOf Tryd.prog 151 = some ⟨true, 3, 48, .agg [.val (.string ⟨#[]⟩), .val (.string ⟨#[]⟩), .val .nilIface], [(0, 1, false), (1, 1, false), (2, 1, false)], 0, .struct⟩ := by kernel_rfl
theorem ti152 : tiOf Tryd.prog 152 = some ⟨true, 3, 48, .agg [.val (.string ⟨#[]⟩), .val (.string ⟨#[]⟩), .val .nilIface], [(0, 1, false), (1, 1, false), (2, 1, false)], 0, .struct⟩ := by kernel_rfl
theorem ti153 : tiOf Tryd.prog 153 = some ⟨false, 1, 8, .val .nilFunc, [], 0, .other⟩ := by kernel_rfl
theorem ti154 : tiOf Tryd.prog 154 = some ⟨false, 1, 8, .val .nilFunc, [], 0, .other⟩ := by kernel_rfl
theorem ti155 : tiOf Tryd.prog 155 = some ⟨true, 20, 160, .agg [.val (.int .u64 0), .val (.int .u64 0), .val (.int .u64 0), .val (.int .u64 0), .val (.int .u64 0), .val (.int .u64 0), .val (.int .u64 0), .val (.int .u64 0), .val (.int .u64 0), .val (.int .u64 0), .val (.int .u64 0), .val (.int .u64 0), .val (.int .u64 0), .val (.int .u64 0), .val (.int .u64 0), .val (.int .u64 0), .val (.int .u64 0), .val (.int .u64 0), .val (.int .u64 0), .val (.int .u64 0)], [], 0, .other⟩ := by kernel_rfl
theorem ti156 : tiOf Tryd.prog 156 = some ⟨false, 1, 4, .val (.int .u32 0), [], 0, .int .u32⟩ := by kernel_rfl
theorem ti157 : tiOf Tryd.prog 157 = some ⟨true, 65, 65, .agg [.val (.int .u8 0), .val (.int .u8 0), .val (.int .u8 0), .val (.int .u8 0), .val (.int .u8 0), .val (.int .u8 0), .val (.int .u8 0), .val (.int .u8 0), .val (.int .u8 0), .val (.int .u8 0), .val (.int .u8 0), .val (.int .u8 0), .val (.int .u8 0), .val (.int .u8 0), .val (.int .u8 0), .val (.int .u8 0), .val (.int .u8 0), .val (.int .u8 0), .val (.int .u8 0), .val (.int .u8 0), .val (.int .u8 0), .val (.int .u8 0), .val (.int .u8 0), .val (.int .u8 0), .val (.int .u8 0), .val (.int .u8 0), .val (.int .u8 0), .val (.int .u8 0), .val (.int .u8 0), .val (.int .u8 0), .val (.int .u8 0), .val (.int .u8 0), .val (.int .u8 0), .val (.int .u8 0), .val (.int .u8 0), .val (.int .u8 0), .val (.int .u8 0), .val (.int .u8 0), .val (.int .u8 0), .val (.int .u8 0), .val (.int .u8 0), .val (.int .u8 0), .val (.int .u8 0), .val (.int .u8 0), .val (.int .u8 0), .val (.int .u8 0), .val (.int .u8 0), .val (.int .u8 0), .val (.int .u8 0), .val (.int .u8 0), .val (.int .u8 0), .val (.int .u8 0), .val (.int .u8 0), .val (.int .u8 0), .val (.int .u8 0), .val (.int .u8 0), .val (.int .u8 0), .val (.int .u8 0), .val (.int .u8 0), .val (.int .u8 0), .val (.int .u8 0), .val (.int .u8 0), .val (.int .u8 0), .val (.int .u8 0), .val (.int .u8 0)], [], 0, .other⟩ := by kernel_rfl
theorem ti158 : tiOf Tryd.prog 158 = some ⟨false, 1, 8, .val .nilFunc, [], 0, .other⟩ := by kernel_rfl
theorem ti159 : tiOf Tryd.prog 159 = some ⟨false, 1, 8, .val .nilFunc, [], 0, .other⟩ := by kernel_rfl
theorem ti160 : tiOf Tryd.prog 160 = some ⟨true, 256, 256, .agg [.val (.int .u8 0), .val (.int .u8 0), .val (.int .u8 0), .val (.int .u8 0), .val (.int .u8 0), .val (.int .u8 0), .val (.int .u8 0), .val (.int .u8 0), .val (.int .u8 0), .val (.int .u8 0), .val (.int .u8 0), .val (.int .u8 0), .val (.int .u8 0), .val (.int .u8 0), .val (.int .u8 0), .val (.int .u8 0), .val (.int .u8 0), .val (.int .u8 0), .val (.int .u8 0), .val (.int .u8 0), .val (.int .u8 0), .val (.int .u8 0), .val (.int .u8 0), .val (.int .u8 0), .val (.int .u8 0), .val (.int .u8 0), .val (.int .u8 0), .val (.int .u8 0), .val (.int .u8 0), .val (.int .u8 0), .val (.int .u8 0), .val (.int .u8 0), .val (.int .u8 0), .val (.int .u8 0), .val (.int .u8 0), .val (.int .u8 0), .val (.int .u8 0), .val (.int .u8 0), .val (.int .u8 0), .val (.int .u8 0), .val (.int .u8 0), .val (.int .u8 0), .val (.int .u8 0), .val (.int .u8 0), .val (.int .u8 0), .val (.int .u8 0), .val (.int .u8 0), .val (.int .u8 0), .val (.int .u8 0), .val (.int .u8 0), .val (.int .u8 0), .val (.int .u8 0), .val (.int .u8 0), .val (.int .u8 0), .val (.int .u8 0), .val (.int .u8 0), .val (.int .u8 0), .val (.int .u8 0), .val (.int .u8 0), .val (.int .u8 0), .val (.int .u8 0), .val (.int .u8 0), .val (.int .u8 0), .val (.int .u8 0), .val (.int .u8 0), .val (.int .u8 0), .val (.int .u8 0), .val (.int .u8 0), .val (.int .u8 0), .val (.int .u8 0), .val (.int .u8 0), .val (.int .u8 0), .val (.int .u8 0), .val (.int .u8 0), .val (.int .u8 0), .val (.int .u8 0), .val (.int .u8 0), .val (.int .u8 0), .val (.int .u8 0), .val (.int .u8 0), .val (.int .u8 0), .val (.int .u8 0), .val (.int .u8 0), .val (.int .u8 0), .val (.int .u8 0), .val (.int .u8 0), .val (.int .u8 0), .val (.int .u8 0), .val (.int .u8 0), .val (.int .u8 0), .val (.int .u8 0), .val (.int .u8 0), .val (.int .u8 0), .val (.int .u8 0), .val (.int .u8 0), .val (.int .u8 0), .val (.int .u8 0), .val (.int .u8 0), .val (.int .u8 0), .val (.int .u8 0), .val (.int .u8 0), .val (.int .u8 0), .val (.int .u8 0), .val (.int .u8 0), .val (.int .u8 0), .val (.int .u8 0), .val (.int .u8 0), .val (.int .u8 0), .val (.int .u8 0), .val (.int .u8 0), .val (.int .u8 0), .val (.int .u8 0), .val (.int .u8 0), .val (.int .u8 0), .val (.int .u8 0), .val (.int .u8 0), .val (.int .u8 0), .val (.int .u8 0), .val (.int .u8 0), .val (.int .u8 0), .val (.int .u8 0), .val (.int .u8 0), .val (.int .u8 0), .val (.int .u8 0), .val (.int .u8 0), .val (.int .u8 0), .val (.int .u8 0), .val (.int .u8 0), .val (.int .u8 0), .val (.int .u8 0), .val (.int .u8 0), .val (.int .u8 0), .val (.int .u8 0), .val (.int .u8 0), .val (.int .u8 0), .val (.int .u8 0), .val (.int .u8 0), .val (.int .u8 0), .val (.int .u8 0), .val (.int .u8 0), .val (.int .u8 0), .val (.int .u8 0), .val (.int .u8 0), .val (.int .u8 0), .val (.int .u8 0), .val (.int .u8 0), .val (.int .u8 0), .val (.int .u8 0), .val (.int .u8 0), .val (.int .u8 0), .val (.int .u8 0), .val (.int .u8 0), .val (.int .u8 0), .val (.int .u8 0), .val (.int .u8 0), .val (.int .u8 0), .val (.int .u8 0), .val (.int .u8 0), .val (.int .u8 0), .val (.int .u8 0), .val (.int .u8 0), .val (.int .u8 0), .val (.int .u8 0), .val (.int .u8 0), .val (.int .u8 0), .val (.int .u8 0), .val (.int .u8 0), .val (.int .u8 0), .val (.int .u8 0), .val (.int .u8 0), .val (.int .u8 0), .val (.int .u8 0), .val (.int .u8 0), .val (.int .u8 0), .val (.int .u8 0), .val (.int .u8 0), .val (.int .u8 0), .val (.int .u8 0), .val (.int .u8 0), .val (.int .u8 0), .val (.int .u8 0), .val (.int .u8 0), .val (.int .u8 0), .val (.int .u8 0), .val (.int .u8 0), .val (.int .u8 0), .val (.int .u8 0), .val (.int .u8 0), .val (.int .u8 0), .val (.int .u8 0), .val (.int .u8 0), .val (.int .u8 0), .val (.int .u8 0), .val (.int .u8 0), .val (.int .u8 0), .val (.int .u8 0), .val (.int .u8 0), .val (.int .u8 0), .val (.int .u8 0), .val (.int .u8 0), .val (.int .u8 0), .val (.int .u8 0), .val (.int .u8 0), .val (.int .u8 0), .val (.int .u8 0), .val (.int .u8 0), .val (.int .u8 0), .val (.int .u8 0), .val (.int .u8 0), .val (.int .u8 0), .val (.int .u8 0), .val (.int .u8 0), .val (.int .u8 0), .val (.int .u8 0), .val (.int .u8 0), .val (.int .u8 0), .val (.int .u8 0), .val (.int .u8 0), .val (.int .u8 0), .val (.int .u8 0), .val (.int .u8 0), .val (.int .u8 0), .val (.int .u8 0), .val (.int .u8 0), .val (.int .u8 0), .val (.int .u8 0), .val (.int .u8 0), .val (.int .u8 0), .val (.int .u8 0), .val (.int .u8 0), .val (.int .u8 0), .val (.int .u8 0), .val (.int .u8 0), .val (.int .u8 0), .val (.int .u8 0), .val (.int .u8 0), .val (.int .u8 0), .val (.int .u8 0), .val (.int .u8 0), .val (.int .u8 0), .val (.int .u8 0), .val (.int .u8 0), .val (.int .u8 0), .val (.int .u8 0), .val (.int .u8 0), .val (.int .u8 0), .val (.int .u8 0), .val (.int .u8 0), .val (.int .u8 0), .val (.int .u8 0), .val (.int .u8 0), .val (.int .u8 0), .val (.int .u8 0), .val (.int .u8 0), .val (.int .u8 0), .val (.int .u8 0)], [], 0, .other⟩ := by kernel_rfl
theorem ti161 : tiOf Tryd.prog 161 = some ⟨true, 2, 2, .agg [.val (.int .u8 0), .val (.int .u8 0)], [(0, 1, false), (1, 1, false)], 0, .struct⟩ := by kernel_rfl
theorem ti162 : tiOf Tryd.prog 162 = some ⟨true, 2, 2, .agg [.val (.int .u8 0), .val (.int .u8 0)], [(0, 1, false), (1, 1, false)], 0, .struct⟩ := by kernel_rfl
theorem ti163 : tiOf Tryd.prog 163 = some ⟨true, 32, 32, .agg [.val (.int .u8 0), .val (.int .u8 0), .val (.int .u8 0), .val (.int .u8 0), .val (.int .u8 0), .val (.int .u8 0), .val (.int .u8 0), .val (.int .u8 0), .val (.int .u8 0), .val (.int .u8 0), .val (.int .u8 0), .val (.int .u8 0), .val (.int .u8 0), .val (.int .u8 0), .val (.int .u8 0), .val (.int .u8 0), .val (.int .u8 0), .val (.int .u8 0), .val (.int .u8 0), .val (.int .u8 0), .val (.int .u8 0), .val (.int .u8 0), .val (.int .u8 0), .val (.int .u8 0), .val (.int .u8 0), .val (.int .u8 0), .val (.int .u8 0), .val (.int .u8 0), .val (.int .u8 0), .val (.int .u8 0), .val (.int .u8 0), .val (.int .u8 0)], [], 0, .other⟩ := by kernel_rfl
theorem ti164 : tiOf Tryd.prog 164 = some ⟨false, 1, 0, .undef, [], 0, .other⟩ := by kernel_rfl
theorem ti165 : tiOf Tryd.prog 165 = some ⟨false, 1, 8, .val .nilFunc, [], 0, .other⟩ := by kernel_rfl
theorem ti166 : tiOf Tryd.prog 166 = some ⟨false, 1, 8, .val .nilFunc, [], 0, .other⟩ := by kernel_rfl
theorem ti167 : tiOf Tryd.prog 167 = some ⟨false, 1, 0, .undef, [], 0, .other⟩ := by kernel_rfl
theorem ti168 : tiOf Tryd.prog 168 = some ⟨false, 1, 8, .val .nilFunc, [], 0, .other⟩ := by kernel_rfl
theorem ti169 : tiOf Tryd.prog 169 = some ⟨false, 1, 8, .val (.pointer none), [], 0, .other⟩ := by kernel_rfl
theorem ti170 : tiOf Tryd.prog 170 = some ⟨true, 1, 16, .agg [.val (.string ⟨#[]⟩)], [(0, 1, false)], 0, .struct⟩ := by kernel_rfl
theorem ti171 : tiOf Tryd.prog 171 = some ⟨true, 1, 16, .agg [.val (.string ⟨#[]⟩)], [(0, 1, false)], 0, .struct⟩ := by kernel_rfl
theorem ti172 : tiOf Tryd.prog 172 = some ⟨false, 1, 8, .val .nilFunc, [], 0, .other⟩ := by kernel_rfl
theorem ti173 : tiOf Tryd.prog 173 = some ⟨true, 32, 32, .agg [.val (.int .u8 0), .val (.int .u8 0), .val (.int .u8 0), .val (.int .u8 0), .val (.int .u8 0), .val (.int .u8 0), .val (.int .u8 0), .val (.int .u8 0), .val (.int .u8 0), .val (.int .u8 0), .val (.int .u8 0), .val (.int .u8 0), .val (.int .u8 0), .val (.int .u8 0), .val (.int .u8 0), .val (.int .u8 0), .val (.int .u8 0), .val (.int .u8 0), .val (.int .u8 0), .val (.int .u8 0), .val (.int .u8 0), .val (.int .u8 0), .val (.int .u8 0), .val (.int .u8 0), .val (.int .u8 0), .val (.int .u8 0), .val (.int .u8 0), .val (.int .u8 0), .val (.int .u8 0), .val (.int .u8 0), .val (.int .u8 0), .val (.int .u8 0)], [], 0, .other⟩ := by kernel_rfl
theorem ti174 : tiOf Tryd.prog 174 = some ⟨true, 64, 64, .agg [.val (.int .u8 0), .val (.int .u8 0), .val (.int .u8 0), .val (.int .u8 0), .val (.int .u8 0), .val (.int .u8 0), .val (.int .u8 0), .val (.int .u8 0), .val (.int .u8 0), .val (.int .u8 0), .val (.int .u8 0), .val (.int .u8 0), .val (.int .u8 0), .val (.int .u8 0), .val (.int .u8 0), .val (.int .u8 0), .val (.int .u8 0), .val (.int .u8 0), .val (.int .u8 0), .val (.int .u8 0), .val (.int .u8 0), .val (.int .u8 0), .val (.int .u8 0), .val (.int .u8 0), .val (.int .u8 0), .val (.int .u8 0), .val (.int .u8 0), .val (.int .u8 0), .val (.int .u8 0), .val (.int .u8 0), .val (.int .u8 0), .val (.int .u8 0), .val (.int .u8 0), .val (.int .u8 0), .val (.int .u8 0), .val (.int .u8 0), .val (.int .u8 0), .val (.int .u8 0), .val (.int .u8 0), .val (.int .u8 0), .val (.int .u8 0), .val (.int .u8 0), .val (.int .u8 0), .val (.int .u8 0), .val (.int .u8 0), .val (.int .u8 0), .val (.int .u8 0), .val (.int .u8 0), .val (.int .u8 0), .val (.int .u8 0), .val (.int .u8 0), .val (.int .u8 0), .val (.int .u8 0), .val (.int .u8 0), .val (.int .u8 0), .val (.int .u8 0), .val (.int .u8 0), .val (.int .u8 0), .val (.int .u8 0), .val (.int .u8 0), .val (.int .u8 0), .val (.int .u8 0), .val (.int .u8 0), .val (.int .u8 0)], [], 0, .other⟩ := by kernel_rfl
theorem ti175 : tiOf Tryd.prog 175 = some ⟨true, 4, 40, .agg [.val (.pointer none), .val (.pointer none), .val (.pointer none), .val (.string ⟨#[]⟩)], [(0, 1, false), (1, 1, false), (2, 1, false), (3, 1, false)], 0, .struct⟩ := by kernel_rfl
theorem ti176 : tiOf Tryd.prog 176 = some ⟨true, 4, 40, .agg [.val (.pointer none), .val (.pointer none), .val (.pointer none), .val (.string ⟨#[]⟩)], [(0, 1, false), (1, 1, false), (2, 1, false), (3, 1, false)], 0, .struct⟩ := by kernel_rfl
theorem ti177 : tiOf Tryd.prog 177 = some ⟨true, 0, 0, .agg [], [], 0, .other⟩ := by kernel_rfl
theorem ti178 : tiOf Tryd.prog 178 = some ⟨true, 0, 0, .agg [], [(0, 0, true)], 0, .struct⟩ := by kernel_rfl
theorem ti179 : tiOf Tryd.prog 179 = some ⟨true, 0, 0, .agg [], [(0, 0, true)], 0, .struct⟩ := by kernel_rfl
theorem ti180 : tiOf Tryd.prog 180 = some ⟨false, 1, 1, .val (.int .u8 0), [], 0, .int .u8⟩ := by kernel_rfl
theorem ti181 : tiOf Tryd.prog 181 = some ⟨false, 1, 1, .val (.int .u8 0), [], 0, .int .u8⟩ := by kernel_rfl
theorem ti182 : tiOf Tryd.prog 182 = some ⟨false, 1, 8, .val .nilFunc, [], 0, .other⟩ := by kernel_rfl
theorem ti183 : tiOf Tryd.prog 183 = some ⟨false, 1, 4, .val (.int .i32 0), [], 0, .int .i32⟩ := by kernel_rfl
theorem ti184 : tiOf Tryd.prog 184 = some ⟨false, 1, 4, .val (.int .i32 0), [], 0, .int .i32⟩ := by kernel_rfl
theorem ti185 : tiOf Tryd.prog 185 = some ⟨true, 11, 48, .agg [.val (.int .u64 0), .val (.int .u64 0), .val (.int .u32 0), .val (.int .u8 0), .val (.int .u8 0), .val (.int .u8 0), .val (.int .u8 0), .val .nilFunc, .val (.pointer none), .val (.int .i32 0), .val (.int .i32 0)], [(0, 1, false), (1, 1, false), (2, 1, false), (3, 1, false), (4, 1, false), (5, 1, false), (6, 1, false), (7, 1, false), (8, 1, false), (9, 1, false), (10, 1, false)], 0, .struct⟩ := by kernel_rfl
theorem ti186 : tiOf Tryd.prog 186 = some ⟨true, 11, 48, .agg [.val (.int .u64 0), .val (.int .u64 0), .val (.int .u32 0), .val (.int .u8 0), .val (.int .u8 0), .val (.int .u8 0), .val (.int .u8 0), .val .nilFunc, .val (.pointer none), .val (.int .i32 0), .val (.int .i32 0)], [(0, 1, false), (1, 1, false), (2, 1, false), (3, 1, false), (4, 1, false), (5, 1, false), (6, 1, false), (7, 1, false), (8, 1, false), (9, 1, false), (10, 1, false)], 0, .struct⟩ := by kernel_rfl
attribute [go_sem] ti0 ti1 ti2 ti3 ti4 ti5 ti6 ti7 ti8 ti9 ti10 ti11 ti12 ti13 ti14 ti15 ti16 ti17 ti18 ti19
attribute [go_sem] ti20 ti21 ti22 ti23 ti24 ti25 ti26 ti27 ti28 ti29 ti30 ti31 ti32 ti33 ti34 ti35 ti36 ti37 ti38 ti39
attribute [go_sem] ti40 ti41 ti42 ti43 ti44 ti45 ti46 ti47 ti48 ti49 ti50 ti51 ti52 ti53 ti54 ti55 ti56 ti57 ti58 ti59
attribute [go_sem] ti60 ti61 ti62 ti63 ti64 ti65 ti66 ti67 ti68 ti69 ti70 ti71 ti72 ti73 ti74 ti75 ti76 ti77 ti78 ti79
attribute [go_sem] ti80 ti81 ti82 ti83 ti84 ti85 ti86 ti87 ti88 ti89 ti90 ti91 ti92 ti93 ti94 ti95 ti96 ti97 ti98 ti99
attribute [go_sem] ti100 ti101 ti102 ti103 ti104 ti105 ti106 ti107 ti108 ti109 ti110 ti111 ti112 ti113 ti114 ti115 ti116 ti117 ti118 ti119
attribute [go_sem] ti120 ti121 ti122 ti123 ti124 ti125 ti126 ti127 ti128 ti129 ti130 ti131 ti132 ti133 ti134 ti135 ti136 ti137 ti138 ti139
attribute [go_sem] ti140 ti141 ti142 ti143 ti144 ti145 ti146 ti147 ti148 ti149 ti150 ti151 ti152 ti153 ti154 ti155 ti156 ti157 ti158 ti159
attribute [go_sem] ti160 ti161 ti162 ti163 ti164 ti165 ti166 ti167 ti168 ti169 ti170 ti171 ti172 ti173 ti174 ti175 ti176 ti177 ti178 ti179
attribute [go_sem] ti180 ti181 ti182 ti183 ti184 ti185 ti186
end Go.Vc
