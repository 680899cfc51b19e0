/-
  Systems and items, read as data.
-/
import Derived.Test.YtlelhmbhhnokoaaDoorVcTop
import Derived.Test.YtlelhmbhhnokoaaDoorOrd
set_option linter.unusedVariables false
set_option linter.unusedSimpArgs false
set_option linter.unnecessarySimpa false
namespace Go.Vc
open Go.Proofs
set_option maxRecDepth 100000
theorem dec_Int : Dec Tryd.prog 2 I64 (fun n : Int => [eI n]) := Dec.i64 Tryd.underlying2
theorem dec_Int64S : Dec Tryd.prog 47 (fun xs : List Int => xs.length ≤ maxLen ∧ ∀ a ∈ xs, I64 a) (fun xs => [eIs xs]) :=
  Dec.slice false 1 Tryd.underlying47 (by kernel_rfl) (by decide) (fun _ => rfl) (fun _ => rfl) (Dec.i64 Tryd.underlying2)
theorem dec_Int64SS : Dec Tryd.prog 25 (fun xs : List (List Int) => xs.length ≤ maxLen ∧ ∀ x ∈ xs, x.length ≤ maxLen ∧ ∀ a ∈ x, I64 a) (fun xs => [eIss xs]) :=
  Dec.slice false 1 Tryd.underlying25 (by kernel_rfl) (by decide) (fun _ => rfl) (fun _ => rfl) dec_Int64S
theorem dec_Maker : Dec Tryd.prog 24 (fun m : MkM => I64 m.chambers ∧ I64 m.depths ∧ I64 m.step ∧ I64 m.same ∧ I64 m.least) (fun m => [eI m.chambers, eI m.depths, eI m.step, eI m.same, eI m.least]) :=
  (Dec.struct Tryd.underlying24 (n := 5) (by kernel_rfl) (.cons rfl (n := 1) (by kernel_rfl) (fun _ => rfl) (Dec.i64 Tryd.underlying2) (.cons rfl (n := 1) (by kernel_rfl) (fun _ => rfl) (Dec.i64 Tryd.underlying2)
    (.cons rfl (n := 1) (by kernel_rfl) (fun _ => rfl) (Dec.i64 Tryd.underlying2) (.cons rfl (n := 1) (by kernel_rfl) (fun _ => rfl) (Dec.i64 Tryd.underlying2) (.cons rfl (n := 1) (by kernel_rfl) (fun _ => rfl) (Dec.i64 Tryd.underlying2) (.nil _)))))) (fun _ => rfl)).map
    fun p h => ⟨⟨p.1, p.2.1, p.2.2.1, p.2.2.2.1, p.2.2.2.2.1⟩, ⟨h.1, h.2.1, h.2.2.1, h.2.2.2.1, h.2.2.2.2.1⟩, rfl⟩
theorem dec_System : Dec Tryd.prog 27 (fun s : MkM × List (List Int) => (I64 s.1.chambers ∧ I64 s.1.depths ∧ I64 s.1.step ∧ I64 s.1.same ∧ I64 s.1.least) ∧ s.2.length ≤ maxLen ∧ ∀ x ∈ s.2, x.length ≤ maxLen ∧ ∀ a ∈ x, I64 a)
    (fun s => [eI s.1.chambers, eI s.1.depths, eI s.1.step, eI s.1.same, eI s.1.least, eIss s.2]) :=
  (Dec.struct Tryd.underlying27 (n := 6) (by kernel_rfl) (.cons rfl (n := 5) (by kernel_rfl) (fun _ => rfl) dec_Maker (.cons rfl (n := 1) (by kernel_rfl) (fun _ => rfl) dec_Int64SS (.nil _))) (fun _ => rfl)).map
    fun p h => ⟨(p.1, p.2.1), ⟨h.1, h.2.1⟩, rfl⟩
theorem dec_Item : Dec Tryd.prog 64 (fun x : ItM => I64 x.index ∧ I64 x.copies) (fun x => [eB x.key, eI x.index, eI x.copies]) :=
  (Dec.struct Tryd.underlying64 (n := 3) (by kernel_rfl) (.cons rfl (n := 1) (by kernel_rfl) (fun _ => rfl) (Dec.bool Tryd.underlying4) (.cons rfl (n := 1) (by kernel_rfl) (fun _ => rfl) (Dec.i64 Tryd.underlying2)
    (.cons rfl (n := 1) (by kernel_rfl) (fun _ => rfl) (Dec.i64 Tryd.underlying2) (.nil _)))) (fun _ => rfl)).map
    fun p h => ⟨⟨p.1, p.2.1, p.2.2.1⟩, ⟨h.2.1, h.2.2.1⟩, rfl⟩
theorem dec_ItemS : Dec Tryd.prog 28 (fun xs : List ItM => xs.length ≤ maxLen ∧ ∀ a ∈ xs, I64 a.index ∧ I64 a.copies) (fun xs => [eIts xs]) :=
  Dec.slice true 3 Tryd.underlying28 (by kernel_rfl) (by decide) (fun h => by cases h) (fun _ => rfl) dec_Item
end Go.Vc
