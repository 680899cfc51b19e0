/-
  DERIVED: THE SHELF's CONTRACTS AT THIS DUMP, IN PLAIN WORDS (tools/lay-plain.mjs out of 'YtponkoaomcgohaaLay0.lean', which tools/lay-shelf.mjs wrote): THE SAME DECLARATIONS UNDER THE SAME NAMES: 'import', 'namespace', 'open', 'def', 'theorem' AND NOTHING ELSE: no command of the shelf's: FOR A HAND-IN. Each laying: the table of numbers ('.._ren') and one theorem, a field a fact of the dump's own or the kernel's comparison; each contract: ONE APPLICATION.
-/
import Derived.Shelf.SlGeneric
import Derived.Ground.SlgnProg
import Derived.Shelf.SortG.Plain
import Derived.Shelf.SlicesG.CompactI
import Derived.Shelf.SortG.SortNone
import Derived.Test.YtponkoaomcgohaaProg
set_option linter.unusedVariables false
set_option linter.unusedSimpArgs false
set_option linter.unnecessarySimpa false
namespace Go.Proofs
open Go.Shelf
def Try.laySort_ren : Go.Shelf.Ren := ⟨fun | 53 => 94 | 64 => 107 | 63 => 106 | 78 => 118 | 79 => 119 | 70 => 109 | 71 => 110 | 72 => 111 | 73 => 112 | 74 => 113 | 75 => 114 | 59 => 115 | 76 => 116 | 77 => 117 | 88 => 120 | 89 => 121 | 90 => 122 | 91 => 123 | 92 => 124 | 68 => 125 | 96 => 126 | n => n, fun | 22 => 27 | 23 => 2 | 3 => 3 | 51 => 128 | 0 => 0 | 67 => 140 | 69 => 142 | 4 => 4 | 61 => 132 | 60 => 131 | 44 => 137 | 5 => 5 | 9 => 9 | 75 => 143 | 79 => 147 | 83 => 149 | 84 => 150 | n => n, fun | n => n⟩
theorem Try.laySort : Go.Proofs.SlLaysN.n53 Try.prog Try.laySort_ren := {
  mixed := by kernel_rfl
  f53 := ⟨Try.f94.name, by decide, Try.func94.trans (congrArg some (by kernel_rfl))⟩
  f59 := ⟨Try.f115.name, by decide, Try.func115.trans (congrArg some (by kernel_rfl))⟩
  f63 := ⟨Try.f106.name, by decide, Try.func106.trans (congrArg some (by kernel_rfl))⟩
  f64 := Try.func107.trans (congrArg some (by kernel_rfl))
  f68 := ⟨Try.f125.name, by decide, Try.func125.trans (congrArg some (by kernel_rfl))⟩
  f70 := ⟨Try.f109.name, by decide, Try.func109.trans (congrArg some (by kernel_rfl))⟩
  f71 := ⟨Try.f110.name, by decide, Try.func110.trans (congrArg some (by kernel_rfl))⟩
  f72 := ⟨Try.f111.name, by decide, Try.func111.trans (congrArg some (by kernel_rfl))⟩
  f73 := ⟨Try.f112.name, by decide, Try.func112.trans (congrArg some (by kernel_rfl))⟩
  f74 := ⟨Try.f113.name, by decide, Try.func113.trans (congrArg some (by kernel_rfl))⟩
  f75 := ⟨Try.f114.name, by decide, Try.func114.trans (congrArg some (by kernel_rfl))⟩
  f76 := ⟨Try.f116.name, by decide, Try.func116.trans (congrArg some (by kernel_rfl))⟩
  f77 := ⟨Try.f117.name, by decide, Try.func117.trans (congrArg some (by kernel_rfl))⟩
  f78 := Try.func118.trans (congrArg some (by kernel_rfl))
  f79 := Try.func119.trans (congrArg some (by kernel_rfl))
  f88 := ⟨Try.f120.name, by decide, Try.func120.trans (congrArg some (by kernel_rfl))⟩
  f89 := Try.func121.trans (congrArg some (by kernel_rfl))
  f90 := Try.func122.trans (congrArg some (by kernel_rfl))
  f91 := ⟨Try.f123.name, by decide, Try.func123.trans (congrArg some (by kernel_rfl))⟩
  f92 := ⟨Try.f124.name, by decide, Try.func124.trans (congrArg some (by kernel_rfl))⟩
  f96 := ⟨Try.f126.name, by decide, Try.func126.trans (congrArg some (by kernel_rfl))⟩
  t0 := Try.underlying0
  a0 := Try.isAgg0
  z0 := Try.sizeOf0
  v0 := Try.zeroValue0
  t3 := Try.underlying3
  a3 := Try.isAgg3
  z3 := Try.sizeOf3
  v3 := Try.zeroValue3
  t4 := Try.underlying4
  a4 := Try.isAgg4
  z4 := Try.sizeOf4
  v4 := Try.zeroValue4
  t5 := Try.underlying5
  a5 := Try.isAgg5
  z5 := Try.sizeOf5
  v5 := Try.zeroValue5
  t9 := Try.underlying9
  a9 := Try.isAgg9
  z9 := Try.sizeOf9
  v9 := Try.zeroValue9
  t22 := Try.underlying27
  a22 := Try.isAgg27
  z22 := Try.sizeOf27
  v22 := Try.zeroValue27
  t23 := Try.underlying2
  a23 := Try.isAgg2
  z23 := Try.sizeOf2
  v23 := Try.zeroValue2
  t44 := Try.underlying137
  a44 := Try.isAgg137
  z44 := Try.sizeOf137
  v44 := Try.zeroValue137
  t51 := Try.underlying128
  a51 := Try.isAgg128
  z51 := Try.sizeOf128
  v51 := Try.zeroValue128
  t60 := Try.underlying131
  a60 := Try.isAgg131
  z60 := Try.sizeOf131
  v60 := Try.zeroValue131
  t61 := Try.underlying132
  a61 := Try.isAgg132
  z61 := Try.sizeOf132
  v61 := Try.zeroValue132
  t67 := Try.underlying140
  a67 := Try.isAgg140
  z67 := Try.sizeOf140
  v67 := Try.zeroValue140
  t69 := Try.underlying142
  a69 := Try.isAgg142
  z69 := Try.sizeOf142
  v69 := Try.zeroValue142
  t75 := Try.underlying143
  a75 := Try.isAgg143
  z75 := Try.sizeOf143
  v75 := Try.zeroValue143
  t79 := Try.underlying147
  a79 := Try.isAgg147
  z79 := Try.sizeOf147
  v79 := Try.zeroValue147
  t83 := Try.underlying149
  a83 := Try.isAgg149
  z83 := Try.sizeOf149
  v83 := Try.zeroValue149
  t84 := Try.underlying150
  a84 := Try.isAgg150
  z84 := Try.sizeOf150
  v84 := Try.zeroValue150 }
def Try.layCompact_ren : Go.Shelf.Ren := ⟨fun | 43 => 95 | n => n, fun | 22 => 27 | 23 => 2 | 3 => 3 | 4 => 4 | 0 => 0 | n => n, fun | n => n⟩
theorem Try.layCompact : Go.Proofs.SlLaysN.n43 Try.prog Try.layCompact_ren := {
  mixed := by kernel_rfl
  f43 := ⟨Try.f95.name, by decide, Try.func95.trans (congrArg some (by kernel_rfl))⟩
  t0 := Try.underlying0
  a0 := Try.isAgg0
  z0 := Try.sizeOf0
  v0 := Try.zeroValue0
  t3 := Try.underlying3
  a3 := Try.isAgg3
  z3 := Try.sizeOf3
  v3 := Try.zeroValue3
  t4 := Try.underlying4
  a4 := Try.isAgg4
  z4 := Try.sizeOf4
  v4 := Try.zeroValue4
  t22 := Try.underlying27
  a22 := Try.isAgg27
  z22 := Try.sizeOf27
  v22 := Try.zeroValue27
  t23 := Try.underlying2
  a23 := Try.isAgg2
  z23 := Try.sizeOf2
  v23 := Try.zeroValue2
  i23 := by kernel_rfl }
end Go.Proofs
