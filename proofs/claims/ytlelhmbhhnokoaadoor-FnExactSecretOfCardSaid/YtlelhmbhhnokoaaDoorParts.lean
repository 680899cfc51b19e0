/-
  The parts of a text between a byte, read as numbers, plain.
-/
import Derived.Test.YtlelhmbhhnokoaaDoorDecim
import Derived.Test.YtlelhmbhhnokoaaDoorNum
set_option linter.unusedVariables false
set_option linter.unusedSimpArgs false
set_option linter.unnecessarySimpa false
namespace Go.Vc
open Go.Lib
theorem itoa_no {c : UInt8} (hc : ¬ (48 ≤ c.toNat ∧ c.toNat ≤ 57)) (h45 : c ≠ 45) (v : Int) : c ∉ itoa v := by
  unfold itoa
  split
  · intro h
    rcases List.mem_cons.1 h with h | h
    · exact h45 h
    · exact hc (dig_all _ c h)
  · intro h; exact hc (dig_all _ c h)
theorem no32 (v : Int) : (32 : UInt8) ∉ itoa v := itoa_no (by decide) (by decide) v
theorem no10 (v : Int) : (10 : UInt8) ∉ itoa v := itoa_no (by decide) (by decide) v
theorem no44 (v : Int) : (44 : UInt8) ∉ itoa v := itoa_no (by decide) (by decide) v
def partN (c : UInt8) (s : List UInt8) : List Int × Bool := if ((spl c s).all fun w => (numI w).2) = true then ((spl c s).map fun w => (numI w).1, true) else ([], false)
theorem i64_of {n : Int} (h : -1000000 ≤ n ∧ n ≤ 1000000) : I64 n := by unfold I64; omega
theorem nd_small {n : Nat} (h : n < 100) : nDigits n ≤ 13 := by
  by_cases h1 : n < 10
  · rw [nDigits_small h1]; omega
  · rw [nDigits_big h1, nDigits_small (by omega)]; omega
theorem itoa_len {v : Int} (h : I64 v) : (itoa v).length ≤ 21 := itoa_length_le v h.1 h.2
theorem spl_len_no {c : UInt8} {l : List UInt8} (h : c ∉ l) : (spl c l).length = 1 := by rw [spl_none h]; rfl
end Go.Vc
