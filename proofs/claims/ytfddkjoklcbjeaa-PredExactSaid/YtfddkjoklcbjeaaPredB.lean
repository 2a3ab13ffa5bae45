/- Plain facts of this session. No condition. -/
import Derived.Test.YtfddkjoklcbjeaaPredA
import Derived.Test.YtfddkjoklcbjeaaB6
set_option linter.unusedSimpArgs false
set_option linter.unusedVariables false
namespace Go.Proofs.Ytfddkjoklcbjeaa.Pure
open Go.RowKit Go.Proofs.Ytfddkjoklcbjeaa.Open Go.Proofs.Ytfddkjoklcbjeaa.B Go.Proofs.YtfddkjoklcbjeaaW.PrintWords Go.Proofs.YtfddkjoklcbjeaaW.PrintLast
theorem holds_eq (k : Nat) (p0 p1 p2 : Int) (v : S23) (l : List S23) : pred_Holds.f (k + 5) p0 p1 p2 v.f0 v.f1 v.f2 l = some (holdsS p0 p1 p2 v l) := by
  unfold pred_Holds.f holdsS
  simp only [pin_eq, other_eq, Option.bind_some, decide_eq_true_eq]
  by_cases h1 : 0 ≤ p1 ∧ p1 < (l.length : Int)
  · rw [if_pos h1]
    by_cases h3 : p0 = 3 ∨ p0 = 4
    · rw [if_pos h3]
      by_cases h2 : 0 ≤ p2 ∧ p2 < (l.length : Int)
      · rw [pred_Holds.j0]
        simp only [compareV, Option.bind_some]
        rcases h3 with rfl | rfl <;> simp [h1, h2]
      · rw [pred_Holds.j0]
        simp [h1, h2]
        intro h; omega
    · rw [if_neg h3, pred_Holds.j0]
      simp only [compareV, Option.bind_some]
      have n3 : ¬ p0 = 3 := fun h => h3 (.inl h)
      have n4 : ¬ p0 = 4 := fun h => h3 (.inr h)
      rw [decide_eq_true h1, decide_eq_true (show ¬ (p0 = 3 ∨ p0 = 4) from h3), if_neg (by simp), if_pos h1.1, if_pos h1.2]
      simp only [Bool.true_or, Bool.true_and, if_neg n3, if_neg n4]
      by_cases e1 : p0 = 1
      · simp only [if_pos e1]
      · simp only [if_neg e1]
        by_cases e2 : p0 = 2
        · simp only [if_pos e2]
        · simp only [if_neg e2]
          by_cases e5 : p0 = 5
          · simp only [if_pos e5]
          · simp only [if_neg e5]
            by_cases e6 : p0 = 6
            · simp only [if_pos e6]
            · simp only [if_neg e6]
  · rw [if_neg h1, pred_Holds.j0]
    simp [h1]

end Go.Proofs.Ytfddkjoklcbjeaa.Pure
