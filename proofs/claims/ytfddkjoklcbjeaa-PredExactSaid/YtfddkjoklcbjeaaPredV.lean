/- Plain facts of this session. No condition. -/
import Derived.Test.YtfddkjoklcbjeaaPredD
import Derived.Test.YtfddkjoklcbjeaaB3
set_option linter.unusedSimpArgs false
set_option linter.unusedVariables false
namespace Go.Proofs.Ytfddkjoklcbjeaa.Pure
open Go.RowKit Go.Proofs.Ytfddkjoklcbjeaa.Open Go.Proofs.Ytfddkjoklcbjeaa.B Go.Proofs.YtfddkjoklcbjeaaW.PrintWords Go.Proofs.YtfddkjoklcbjeaaW.PrintLast
theorem rin1_eq (a b c : Int) : R01_in.f a b c = some (decide (b ≤ a ∧ a ≤ c)) := by
  unfold R01_in.f
  by_cases h : a ≥ b
  · rw [if_pos h]; simp [show b ≤ a from h]
  · rw [if_neg h]; simp [show ¬ b ≤ a from h]
theorem rvalue_eq (v : S23) : R01_Value.f v.f0 v.f1 v.f2 = some (decide (okV v)) := by
  unfold R01_Value.f okV
  simp only [rin1_eq, Option.bind_some, decide_eq_true_eq]
  by_cases h1 : v.f0 = 1
  · simp only [h1, if_true]
    by_cases a : v.f1 = 0 <;> by_cases b : v.f2.toList = [] <;> simp [a, b]
  · by_cases h2 : v.f0 = 2
    · simp only [h2]
      have e : (0 ≤ v.f1 ∧ v.f1 ≤ 1) ↔ (v.f1 = 0 ∨ v.f1 = 1) := by omega
      by_cases b : v.f2.toList = [] <;> by_cases a : v.f1 = 0 ∨ v.f1 = 1 <;> simp [e, a, b]
    · by_cases h3 : v.f0 = 3
      · simp only [h3]
        by_cases a : -1152921504606846976 ≤ v.f1 ∧ v.f1 ≤ 1152921504606846976 <;> by_cases b : v.f2.toList = [] <;> simp [a, b]
      · by_cases h4 : v.f0 = 4
        · simp only [h4]
          by_cases a : v.f1 = 0 <;> by_cases b : (v.f2.size : Int) ≤ 24 <;> simp [a, b]
        · simp [h1, h2, h3, h4]

end Go.Proofs.Ytfddkjoklcbjeaa.Pure
