/-
  What the program's types are, for the layer Vc.
-/
import Derived.Test.YtlelhmbhhnokoaaEnc
import Derived.Test.YtlelhmbhhnokoaaProg
set_option linter.unusedVariables false
set_option linter.unusedSimpArgs false
set_option linter.unnecessarySimpa false
namespace Go.Vc
open Go.Proofs

theorem ti0 : tiOf Try.prog 0 = some ⟨false, 1, 0, .undef, [], 0, .other⟩ := by kernel_rfl
theorem ti1 : tiOf Try.prog 1 = some ⟨false, 1, 8, .val .nilFunc, [], 0, .other⟩ := by kernel_rfl
theorem ti2 : tiOf Try.prog 2 = some ⟨false, 1, 8, .val (.int .i64 0), [], 0, .int .i64⟩ := by kernel_rfl
theorem ti3 : tiOf Try.prog 3 = some ⟨false, 1, 8, .val (.int .i64 0), [], 0, .int .i64⟩ := by kernel_rfl
theorem ti4 : tiOf Try.prog 4 = some ⟨false, 1, 1, .val (.bool false), [], 0, .bool⟩ := by kernel_rfl
theorem ti5 : tiOf Try.prog 5 = some ⟨false, 1, 1, .val (.int .u8 0), [], 0, .int .u8⟩ := by kernel_rfl
theorem ti6 : tiOf Try.prog 6 = some ⟨false, 1, 1, .val (.int .u8 0), [], 0, .int .u8⟩ := by kernel_rfl
theorem ti7 : tiOf Try.prog 7 = some ⟨true, 4, 24, .agg [.val (.int .i64 0), .val (.int .i64 0), .val (.bool false), .val (.int .u8 0)], [(0, 1, false), (1, 1, false), (2, 1, false), (3, 1, false)], 0, .struct⟩ := by kernel_rfl
theorem ti8 : tiOf Try.prog 8 = some ⟨true, 4, 24, .agg [.val (.int .i64 0), .val (.int .i64 0), .val (.bool false), .val (.int .u8 0)], [(0, 1, false), (1, 1, false), (2, 1, false), (3, 1, false)], 0, .struct⟩ := by kernel_rfl
theorem ti9 : tiOf Try.prog 9 = some ⟨false, 1, 16, .val (.string ⟨#[]⟩), [], 0, .string⟩ := by kernel_rfl
theorem ti10 : tiOf Try.prog 10 = some ⟨false, 1, 16, .val (.string ⟨#[]⟩), [], 0, .string⟩ := by kernel_rfl
theorem ti11 : tiOf Try.prog 11 = some ⟨false, 1, 16, .val (.string ⟨#[]⟩), [], 0, .string⟩ := by kernel_rfl
theorem ti12 : tiOf Try.prog 12 = some ⟨false, 1, 8, .val (.int .u64 0), [], 0, .int .u64⟩ := by kernel_rfl
theorem ti13 : tiOf Try.prog 13 = some ⟨true, 2, 24, .agg [.val (.string ⟨#[]⟩), .val (.int .u64 0)], [(0, 1, false), (1, 1, false)], 0, .struct⟩ := by kernel_rfl
theorem ti14 : tiOf Try.prog 14 = some ⟨true, 2, 24, .agg [.val (.string ⟨#[]⟩), .val (.int .u64 0)], [(0, 1, false), (1, 1, false)], 0, .struct⟩ := by kernel_rfl
theorem ti15 : tiOf Try.prog 15 = some ⟨false, 1, 8, .val (.pointer none), [], 0, .other⟩ := by kernel_rfl
theorem ti16 : tiOf Try.prog 16 = some ⟨false, 1, 8, .val (.pointer none), [], 0, .other⟩ := by kernel_rfl
theorem ti17 : tiOf Try.prog 17 = some ⟨false, 1, 8, .val (.pointer none), [], 0, .other⟩ := by kernel_rfl
theorem ti18 : tiOf Try.prog 18 = some ⟨true, 1, 8, .agg [.val (.pointer none)], [(0, 1, false)], 0, .struct⟩ := by kernel_rfl
theorem ti19 : tiOf Try.prog 19 = some ⟨true, 1, 8, .agg [.val (.pointer none)], [(0, 1, false)], 0, .struct⟩ := by kernel_rfl
theorem ti20 : tiOf Try.prog 20 = some ⟨false, 1, 16, .val .nilIface, [], 0, .iface⟩ := by kernel_rfl
theorem ti21 : tiOf Try.prog 21 = some ⟨false, 1, 4, .val (.int .i32 0), [], 0, .int .i32⟩ := by kernel_rfl
theorem ti22 : tiOf Try.prog 22 = some ⟨true, 5, 40, .agg [.val (.int .i64 0), .val (.int .i64 0), .val (.int .i64 0), .val (.int .i64 0), .val (.int .i64 0)], [(0, 1, false), (1, 1, false), (2, 1, false), (3, 1, false), (4, 1, false)], 0, .struct⟩ := by kernel_rfl
theorem ti23 : tiOf Try.prog 23 = some ⟨true, 5, 40, .agg [.val (.int .i64 0), .val (.int .i64 0), .val (.int .i64 0), .val (.int .i64 0), .val (.int .i64 0)], [(0, 1, false), (1, 1, false), (2, 1, false), (3, 1, false), (4, 1, false)], 0, .struct⟩ := by kernel_rfl
theorem ti24 : tiOf Try.prog 24 = some ⟨false, 1, 24, .val (.slice none 0 0), [], 59, .slice⟩ := by kernel_rfl
theorem ti25 : tiOf Try.prog 25 = some ⟨true, 6, 64, .agg [.val (.int .i64 0), .val (.int .i64 0), .val (.int .i64 0), .val (.int .i64 0), .val (.int .i64 0), .val (.slice none 0 0)], [(0, 5, true), (5, 1, false)], 0, .struct⟩ := by kernel_rfl
theorem ti26 : tiOf Try.prog 26 = some ⟨true, 6, 64, .agg [.val (.int .i64 0), .val (.int .i64 0), .val (.int .i64 0), .val (.int .i64 0), .val (.int .i64 0), .val (.slice none 0 0)], [(0, 5, true), (5, 1, false)], 0, .struct⟩ := by kernel_rfl
theorem ti27 : tiOf Try.prog 27 = some ⟨false, 1, 24, .val (.slice none 0 0), [], 53, .slice⟩ := by kernel_rfl
theorem ti28 : tiOf Try.prog 28 = some ⟨false, 1, 8, .val .nilFunc, [], 0, .other⟩ := by kernel_rfl
theorem ti29 : tiOf Try.prog 29 = some ⟨false, 1, 8, .val .nilFunc, [], 0, .other⟩ := by kernel_rfl
theorem ti30 : tiOf Try.prog 30 = some ⟨false, 1, 24, .val (.slice none 0 0), [], 49, .slice⟩ := by kernel_rfl
theorem ti31 : tiOf Try.prog 31 = some ⟨false, 1, 0, .undef, [], 0, .other⟩ := by kernel_rfl
theorem ti32 : tiOf Try.prog 32 = some ⟨false, 1, 8, .val .nilFunc, [], 0, .other⟩ := by kernel_rfl
theorem ti33 : tiOf Try.prog 33 = some ⟨true, 5, 40, .agg [.val (.int .i64 0), .val (.int .i64 0), .val (.int .i64 0), .val (.int .i64 0), .val (.int .i64 0)], [(0, 1, false), (1, 1, false), (2, 1, false), (3, 1, false), (4, 1, false)], 0, .struct⟩ := by kernel_rfl
theorem ti34 : tiOf Try.prog 34 = some ⟨true, 6, 64, .agg [.val (.int .i64 0), .val (.int .i64 0), .val (.int .i64 0), .val (.int .i64 0), .val (.int .i64 0), .val (.slice none 0 0)], [(0, 5, true), (5, 1, false)], 0, .struct⟩ := by kernel_rfl
theorem ti35 : tiOf Try.prog 35 = some ⟨true, 6, 64, .agg [.val (.int .i64 0), .val (.int .i64 0), .val (.int .i64 0), .val (.int .i64 0), .val (.int .i64 0), .val (.slice none 0 0)], [(0, 5, true), (5, 1, false)], 0, .struct⟩ := by kernel_rfl
theorem ti36 : tiOf Try.prog 36 = some ⟨false, 1, 8, .val .nilFunc, [], 0, .other⟩ := by kernel_rfl
theorem ti37 : tiOf Try.prog 37 = some ⟨false, 1, 8, .val .nilFunc, [], 0, .other⟩ := by kernel_rfl
theorem ti38 : tiOf Try.prog 38 = some ⟨false, 1, 8, .val .nilFunc, [], 0, .other⟩ := by kernel_rfl
theorem ti39 : tiOf Try.prog 39 = some ⟨false, 1, 8, .val .nilFunc, [], 0, .other⟩ := by kernel_rfl
theorem ti40 : tiOf Try.prog 40 = some ⟨false, 1, 8, .val .nilFunc, [], 0, .other⟩ := by kernel_rfl
theorem ti41 : tiOf Try.prog 41 = some ⟨false, 1, 8, .val .nilFunc, [], 0, .other⟩ := by kernel_rfl
theorem ti42 : tiOf Try.prog 42 = some ⟨false, 1, 8, .val .nilFunc, [], 0, .other⟩ := by kernel_rfl
theorem ti43 : tiOf Try.prog 43 = some ⟨false, 1, 8, .val .nilFunc, [], 0, .other⟩ := by kernel_rfl
theorem ti44 : tiOf Try.prog 44 = some ⟨false, 1, 8, .val .nilFunc, [], 0, .other⟩ := by kernel_rfl
theorem ti45 : tiOf Try.prog 45 = some ⟨false, 1, 8, .val .nilFunc, [], 0, .other⟩ := by kernel_rfl
theorem ti46 : tiOf Try.prog 46 = some ⟨false, 1, 8, .val .nilFunc, [], 0, .other⟩ := by kernel_rfl
theorem ti47 : tiOf Try.prog 47 = some ⟨false, 1, 8, .val .nilFunc, [], 0, .other⟩ := by kernel_rfl
theorem ti48 : tiOf Try.prog 48 = some ⟨true, 3, 24, .agg [.val (.bool false), .val (.int .i64 0), .val (.int .i64 0)], [(0, 1, false), (1, 1, false), (2, 1, false)], 0, .struct⟩ := by kernel_rfl
theorem ti49 : tiOf Try.prog 49 = some ⟨true, 3, 24, .agg [.val (.bool false), .val (.int .i64 0), .val (.int .i64 0)], [(0, 1, false), (1, 1, false), (2, 1, false)], 0, .struct⟩ := by kernel_rfl
theorem ti50 : tiOf Try.prog 50 = some ⟨false, 1, 8, .val .nilFunc, [], 0, .other⟩ := by kernel_rfl
theorem ti51 : tiOf Try.prog 51 = some ⟨false, 1, 8, .val .nilFunc, [], 0, .other⟩ := by kernel_rfl
theorem ti52 : tiOf Try.prog 52 = some ⟨false, 1, 8, .val .nilFunc, [], 0, .other⟩ := by kernel_rfl
theorem ti53 : tiOf Try.prog 53 = some ⟨true, 3, 24, .agg [.val (.bool false), .val (.int .i64 0), .val (.int .i64 0)], [(0, 1, false), (1, 1, false), (2, 1, false)], 0, .struct⟩ := by kernel_rfl
theorem ti54 : tiOf Try.prog 54 = some ⟨false, 1, 8, .val .nilFunc, [], 0, .other⟩ := by kernel_rfl
theorem ti55 : tiOf Try.prog 55 = some ⟨false, 1, 8, .val .nilFunc, [], 0, .other⟩ := by kernel_rfl
theorem ti56 : tiOf Try.prog 56 = some ⟨false, 1, 8, .val .nilFunc, [], 0, .other⟩ := by kernel_rfl
theorem ti57 : tiOf Try.prog 57 = some ⟨false, 1, 8, .val .nilFunc, [], 0, .other⟩ := by kernel_rfl
theorem ti58 : tiOf Try.prog 58 = some ⟨false, 1, 8, .val .nilFunc, [], 0, .other⟩ := by kernel_rfl
theorem ti59 : tiOf Try.prog 59 = some ⟨false, 1, 24, .val (.slice none 0 0), [], 2, .slice⟩ := by kernel_rfl
theorem ti60 : tiOf Try.prog 60 = some ⟨false, 1, 8, .val .nilFunc, [], 0, .other⟩ := by kernel_rfl
theorem ti61 : tiOf Try.prog 61 = some ⟨false, 1, 8, .val .nilFunc, [], 0, .other⟩ := by kernel_rfl
theorem ti62 : tiOf Try.prog 62 = some ⟨false, 1, 8, .val .nilFunc, [], 0, .other⟩ := by kernel_rfl
theorem ti63 : tiOf Try.prog 63 = some ⟨false, 1, 8, .val .nilFunc, [], 0, .other⟩ := by kernel_rfl
theorem ti64 : tiOf Try.prog 64 = some ⟨false, 1, 8, .val .nilFunc, [], 0, .other⟩ := by kernel_rfl
theorem ti65 : tiOf Try.prog 65 = some ⟨false, 1, 8, .val .nilFunc, [], 0, .other⟩ := by kernel_rfl
theorem ti66 : tiOf Try.prog 66 = some ⟨false, 1, 8, .val .nilFunc, [], 0, .other⟩ := by kernel_rfl
theorem ti67 : tiOf Try.prog 67 = some ⟨false, 1, 8, .val .nilFunc, [], 0, .other⟩ := by kernel_rfl
theorem ti68 : tiOf Try.prog 68 = some ⟨false, 1, 8, .val .nilFunc, [], 0, .other⟩ := by kernel_rfl
theorem ti69 : tiOf Try.prog 69 = some ⟨false, 1, 8, .val .nilFunc, [], 0, .other⟩ := by kernel_rfl
theorem ti70 : tiOf Try.prog 70 = some ⟨false, 1, 8, .val .nilFunc, [], 0, .other⟩ := by kernel_rfl
theorem ti71 : tiOf Try.prog 71 = some ⟨false, 1, 8, .val .nilFunc, [], 0, .other⟩ := by kernel_rfl
theorem ti72 : tiOf Try.prog 72 = some ⟨false, 1, 8, .val .nilFunc, [], 0, .other⟩ := by kernel_rfl
theorem ti73 : tiOf Try.prog 73 = some ⟨false, 1, 8, .val .nilFunc, [], 0, .other⟩ := by kernel_rfl
theorem ti74 : tiOf Try.prog 74 = some ⟨false, 1, 8, .val .nilFunc, [], 0, .other⟩ := by kernel_rfl
theorem ti75 : tiOf Try.prog 75 = some ⟨false, 1, 8, .val (.int .u64 0), [], 0, .int .u64⟩ := by kernel_rfl
theorem ti76 : tiOf Try.prog 76 = some ⟨false, 1, 8, .val .nilFunc, [], 0, .other⟩ := by kernel_rfl
theorem ti77 : tiOf Try.prog 77 = some ⟨true, 4, 40, .agg [.val (.pointer none), .val (.pointer none), .val (.pointer none), .val (.string ⟨#[]⟩)], [(0, 1, false), (1, 1, false), (2, 1, false), (3, 1, false)], 0, .struct⟩ := by kernel_rfl
theorem ti78 : tiOf Try.prog 78 = some ⟨true, 4, 40, .agg [.val (.pointer none), .val (.pointer none), .val (.pointer none), .val (.string ⟨#[]⟩)], [(0, 1, false), (1, 1, false), (2, 1, false), (3, 1, false)], 0, .struct⟩ := by kernel_rfl
theorem ti79 : tiOf Try.prog 79 = some ⟨true, 0, 0, .agg [], [], 0, .other⟩ := by kernel_rfl
theorem ti80 : tiOf Try.prog 80 = some ⟨true, 0, 0, .agg [], [(0, 0, true)], 0, .struct⟩ := by kernel_rfl
theorem ti81 : tiOf Try.prog 81 = some ⟨true, 0, 0, .agg [], [(0, 0, true)], 0, .struct⟩ := by kernel_rfl
theorem ti82 : tiOf Try.prog 82 = some ⟨false, 1, 8, .val .nilFunc, [], 0, .other⟩ := by kernel_rfl
theorem ti83 : tiOf Try.prog 83 = some ⟨false, 1, 4, .val (.int .u32 0), [], 0, .int .u32⟩ := by kernel_rfl
theorem ti84 : tiOf Try.prog 84 = some ⟨false, 1, 1, .val (.int .u8 0), [], 0, .int .u8⟩ := by kernel_rfl
theorem ti85 : tiOf Try.prog 85 = some ⟨false, 1, 1, .val (.int .u8 0), [], 0, .int .u8⟩ := by kernel_rfl
theorem ti86 : tiOf Try.prog 86 = some ⟨false, 1, 8, .val .nilFunc, [], 0, .other⟩ := by kernel_rfl
theorem ti87 : tiOf Try.prog 87 = some ⟨false, 1, 8, .val (.pointer none), [], 0, .other⟩ := by kernel_rfl
theorem ti88 : tiOf Try.prog 88 = some ⟨false, 1, 4, .val (.int .i32 0), [], 0, .int .i32⟩ := by kernel_rfl
theorem ti89 : tiOf Try.prog 89 = some ⟨false, 1, 4, .val (.int .i32 0), [], 0, .int .i32⟩ := by kernel_rfl
theorem ti90 : tiOf Try.prog 90 = some ⟨true, 11, 48, .agg [.val (.int .u64 0), .val (.int .u64 0), .val (.int .u32 0), .val (.int .u8 0), .val (.int .u8 0), .val (.int .u8 0), .val (.int .u8 0), .val .nilFunc, .val (.pointer none), .val (.int .i32 0), .val (.int .i32 0)], [(0, 1, false), (1, 1, false), (2, 1, false), (3, 1, false), (4, 1, false), (5, 1, false), (6, 1, false), (7, 1, false), (8, 1, false), (9, 1, false), (10, 1, false)], 0, .struct⟩ := by kernel_rfl
theorem ti91 : tiOf Try.prog 91 = some ⟨true, 11, 48, .agg [.val (.int .u64 0), .val (.int .u64 0), .val (.int .u32 0), .val (.int .u8 0), .val (.int .u8 0), .val (.int .u8 0), .val (.int .u8 0), .val .nilFunc, .val (.pointer none), .val (.int .i32 0), .val (.int .i32 0)], [(0, 1, false), (1, 1, false), (2, 1, false), (3, 1, false), (4, 1, false), (5, 1, false), (6, 1, false), (7, 1, false), (8, 1, false), (9, 1, false), (10, 1, false)], 0, .struct⟩ := by kernel_rfl
theorem ti92 : tiOf Try.prog 92 = some ⟨false, 1, 8, .val (.pointer none), [], 0, .other⟩ := by kernel_rfl
attribute [go_sem] ti0 ti1 ti2 ti3 ti4 ti5 ti6 ti7 ti8 ti9 ti10 ti11 ti12 ti13 ti14 ti15 ti16 ti17 ti18 ti19
attribute [go_sem] ti20 ti21 ti22 ti23 ti24 ti25 ti26 ti27 ti28 ti29 ti30 ti31 ti32 ti33 ti34 ti35 ti36 ti37 ti38 ti39
attribute [go_sem] ti40 ti41 ti42 ti43 ti44 ti45 ti46 ti47 ti48 ti49 ti50 ti51 ti52 ti53 ti54 ti55 ti56 ti57 ti58 ti59
attribute [go_sem] ti60 ti61 ti62 ti63 ti64 ti65 ti66 ti67 ti68 ti69 ti70 ti71 ti72 ti73 ti74 ti75 ti76 ti77 ti78 ti79
attribute [go_sem] ti80 ti81 ti82 ti83 ti84 ti85 ti86 ti87 ti88 ti89 ti90 ti91 ti92
end Go.Vc
