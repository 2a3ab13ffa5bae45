/- Plain facts of this session. No condition. -/
import Derived.Test.YtelgaglbkcacnaaHlcA
import Derived.Test.YtelgaglbkcacnaaB4
set_option linter.unusedSimpArgs false
set_option linter.unusedVariables false
namespace Go.Proofs.Ytelgaglbkcacnaa.Pure
open Go.RowKit Go.Proofs.Ytelgaglbkcacnaa.Open Go.Proofs.Ytelgaglbkcacnaa.B Go.Proofs.YtelgaglbkcacnaaW.PrintWords Go.Proofs.YtelgaglbkcacnaaW.PrintLast

theorem rin_eq (a b c : Int) : R01_in.f a b c = some (decide (b ≤ a ∧ a ≤ c)) := by
  unfold R01_in.f
  by_cases h : a ≥ b
  · rw [if_pos h]
    simp [show b ≤ a from h]
  · rw [if_neg h]
    simp [show ¬ b ≤ a from h]
theorem stamp_eq (a0 a1 a2 : Int) : R01_Stamp.f a0 a1 a2 = some (decide (rightS a0 a1 a2)) := by
  unfold R01_Stamp.f rightS
  simp only [rin_eq, Option.bind_some, decide_eq_true_eq]
  by_cases h0 : 0 ≤ a0 ∧ a0 ≤ 1099511627776
  · by_cases h1 : 0 ≤ a1 ∧ a1 ≤ 65536
    · simp [h0, h1]
    · simp [h0, h1]
  · simp [h0]


end Go.Proofs.Ytelgaglbkcacnaa.Pure
