/- Plain facts of this session. No condition. -/
import Derived.Test.YtfddkjoklcbjeaaPredA
import Derived.Test.YtfddkjoklcbjeaaB2
set_option linter.unusedSimpArgs false
set_option linter.unusedVariables false
namespace Go.Proofs.Ytfddkjoklcbjeaa.Pure
open Go.RowKit Go.Proofs.Ytfddkjoklcbjeaa.Open Go.Proofs.Ytfddkjoklcbjeaa.B Go.Proofs.YtfddkjoklcbjeaaW.PrintWords Go.Proofs.YtfddkjoklcbjeaaW.PrintLast
/-- The error's number of a predicate. -/
def checkS (p0 p1 p2 : Int) (v : S23) (l : List Int) : Int :=
  if ¬ ((1 ≤ p0 ∧ p0 ≤ 6) ∧ (0 ≤ p1 ∧ p1 < l.length) ∧ ((p0 = 3 ∨ p0 = 4) → (0 ≤ p2 ∧ p2 < l.length)) ∧ ((p0 = 1 ∨ p0 = 2) → okV v)) then 1
  else if ((p0 = 1 ∨ p0 = 2) ∧ ¬ fitsV v (rd l p1)) ∨ ((p0 = 3 ∨ p0 = 4) ∧ ¬ rd l p2 = rd l p1) then 10 else 0
theorem pcheck_eq (k : Nat) (p0 p1 p2 : Int) (v : S23) (l : List Int) : pred_Check.f (k + 1) p0 p1 p2 v.f0 v.f1 v.f2 l = some (checkS p0 p1 p2 v l) := by
  unfold pred_Check.f checkS
  simp only [pin_eq, other_eq, given_eq, vcheck_eq, Option.bind_some, decide_eq_true_eq]
  by_cases h0 : 1 ≤ p0 ∧ p0 ≤ 6
  · rw [if_neg (by omega), if_neg (by omega)]
    by_cases h1 : 0 ≤ p1 ∧ p1 < (l.length : Int)
    · rw [if_pos h1]
      by_cases h3 : p0 = 3 ∨ p0 = 4
      · rw [if_pos h3]
        have hg : ¬ (p0 = 1 ∨ p0 = 2) := by omega
        by_cases h2 : 0 ≤ p2 ∧ p2 < (l.length : Int)
        · rw [if_pos h2, if_neg hg, pred_Check.j0]
          simp only [given_eq, other_eq, Option.bind_some, decide_eq_true_eq, Bool.false_eq_true, if_false, hg, h3, if_true, h1, h2, h0]
          by_cases e : rd l p2 = rd l p1 <;> simp [e]
        · rw [if_neg h2, pred_Check.j0]
          simp [h0, h1, h2, h3]
      · rw [if_neg h3]
        by_cases hg : p0 = 1 ∨ p0 = 2
        · rw [if_pos hg]
          by_cases ho : okV v
          · rw [pred_Check.j0]
            simp only [given_eq, other_eq, vfits_eq, Option.bind_some, decide_eq_true_eq, ho, if_true, hg, h1, h3, if_false, h0]
            by_cases e : fitsV v (rd l p1) <;> simp [e]
          · rw [pred_Check.j0]
            simp [ho, h0, h1, h3, hg]
        · rw [if_neg hg, pred_Check.j0]
          simp [given_eq, other_eq, hg, h3, h0, h1]
    · rw [if_neg h1, pred_Check.j0]
      simp [h1]
  · have : p0 < 1 ∨ p0 > 6 := by omega
    simp only [h0, false_and, not_false_eq_true, if_true]
    rcases this with h | h
    · rw [if_pos h, pred_Check.j0]; simp
    · rw [if_neg (by omega), if_pos h, pred_Check.j0]; simp

end Go.Proofs.Ytfddkjoklcbjeaa.Pure
