/-
  Systems and items, read as data.
-/
import Derived.Test.YtlelhmbhhnokoaaVcTop
import Derived.Test.YtlelhmbhhnokoaaOrd
set_option linter.unusedVariables false
set_option linter.unusedSimpArgs false
set_option linter.unnecessarySimpa false
namespace Go.Vc
open Go.Proofs
set_option maxRecDepth 100000
theorem dec_Int : Dec Try.prog 2 I64 (fun n : Int => [eI n]) := Dec.i64 Try.underlying2
theorem dec_Int64S : Dec Try.prog 59 (fun xs : List Int => xs.length ≤ maxLen ∧ ∀ a ∈ xs, I64 a) (fun xs => [eIs xs]) :=
  Dec.slice false 1 Try.underlying59 (by kernel_rfl) (by decide) (fun _ => rfl) (fun _ => rfl) (Dec.i64 Try.underlying2)
theorem dec_Int64SS : Dec Try.prog 24 (fun xs : List (List Int) => xs.length ≤ maxLen ∧ ∀ x ∈ xs, x.length ≤ maxLen ∧ ∀ a ∈ x, I64 a) (fun xs => [eIss xs]) :=
  Dec.slice false 1 Try.underlying24 (by kernel_rfl) (by decide) (fun _ => rfl) (fun _ => rfl) dec_Int64S
theorem dec_Maker : Dec Try.prog 23 (fun m : MkM => I64 m.chambers ∧ I64 m.depths ∧ I64 m.step ∧ I64 m.same ∧ I64 m.least) (fun m => [eI m.chambers, eI m.depths, eI m.step, eI m.same, eI m.least]) :=
  (Dec.struct Try.underlying23 (n := 5) (by kernel_rfl) (.cons rfl (n := 1) (by kernel_rfl) (fun _ => rfl) (Dec.i64 Try.underlying2) (.cons rfl (n := 1) (by kernel_rfl) (fun _ => rfl) (Dec.i64 Try.underlying2)
    (.cons rfl (n := 1) (by kernel_rfl) (fun _ => rfl) (Dec.i64 Try.underlying2) (.cons rfl (n := 1) (by kernel_rfl) (fun _ => rfl) (Dec.i64 Try.underlying2) (.cons rfl (n := 1) (by kernel_rfl) (fun _ => rfl) (Dec.i64 Try.underlying2) (.nil _)))))) (fun _ => rfl)).map
    fun p h => ⟨⟨p.1, p.2.1, p.2.2.1, p.2.2.2.1, p.2.2.2.2.1⟩, ⟨h.1, h.2.1, h.2.2.1, h.2.2.2.1, h.2.2.2.2.1⟩, rfl⟩
theorem dec_System : Dec Try.prog 26 (fun s : MkM × List (List Int) => (I64 s.1.chambers ∧ I64 s.1.depths ∧ I64 s.1.step ∧ I64 s.1.same ∧ I64 s.1.least) ∧ s.2.length ≤ maxLen ∧ ∀ x ∈ s.2, x.length ≤ maxLen ∧ ∀ a ∈ x, I64 a)
    (fun s => [eI s.1.chambers, eI s.1.depths, eI s.1.step, eI s.1.same, eI s.1.least, eIss s.2]) :=
  (Dec.struct Try.underlying26 (n := 6) (by kernel_rfl) (.cons rfl (n := 5) (by kernel_rfl) (fun _ => rfl) dec_Maker (.cons rfl (n := 1) (by kernel_rfl) (fun _ => rfl) dec_Int64SS (.nil _))) (fun _ => rfl)).map
    fun p h => ⟨(p.1, p.2.1), ⟨h.1, h.2.1⟩, rfl⟩
theorem dec_Item : Dec Try.prog 53 (fun x : ItM => I64 x.index ∧ I64 x.copies) (fun x => [eB x.key, eI x.index, eI x.copies]) :=
  (Dec.struct Try.underlying53 (n := 3) (by kernel_rfl) (.cons rfl (n := 1) (by kernel_rfl) (fun _ => rfl) (Dec.bool Try.underlying4) (.cons rfl (n := 1) (by kernel_rfl) (fun _ => rfl) (Dec.i64 Try.underlying2)
    (.cons rfl (n := 1) (by kernel_rfl) (fun _ => rfl) (Dec.i64 Try.underlying2) (.nil _)))) (fun _ => rfl)).map
    fun p h => ⟨⟨p.1, p.2.1, p.2.2.1⟩, ⟨h.2.1, h.2.2.1⟩, rfl⟩
theorem dec_ItemS : Dec Try.prog 27 (fun xs : List ItM => xs.length ≤ maxLen ∧ ∀ a ∈ xs, I64 a.index ∧ I64 a.copies) (fun xs => [eIts xs]) :=
  Dec.slice true 3 Try.underlying27 (by kernel_rfl) (by decide) (fun h => by cases h) (fun _ => rfl) dec_Item
end Go.Vc
