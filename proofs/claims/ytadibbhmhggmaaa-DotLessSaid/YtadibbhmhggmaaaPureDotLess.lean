/- Proves the plain statement of DotLess: dots are ordered by peer, then by number; of any three the order is total. No condition beyond the statement's own. -/
import Derived.Test.YtadibbhmhggmaaaDotC
import Derived.Test.YtadibbhmhggmaaaSayDotLess
set_option linter.unusedSimpArgs false
set_option linter.unusedVariables false
namespace Go.Proofs.Ytadibbhmhggmaaa.Pure
open Go.RowKit Go.Proofs.Ytadibbhmhggmaaa.Open Go.Proofs.Ytadibbhmhggmaaa.B Go.Proofs.YtadibbhmhggmaaaW.PrintWords Go.Proofs.YtadibbhmhggmaaaW.PrintLast
theorem DotLess : L05_DotLess.Pure := by
  intro a0 a1 b0 b1 c0 c1 _ _ _ _ _ _
  refine ⟨30, ?_⟩
  have L : ∀ x0 x1 y0 y1, dot_Less.f 30 x0 x1 y0 y1 = some (lessD x0 x1 y0 y1) := fun x0 x1 y0 y1 => less_eq 27 x0 x1 y0 y1
  have M : ∀ x0 x1 y0 y1, dot_Less.f 29 x0 x1 y0 y1 = some (lessD x0 x1 y0 y1) := fun x0 x1 y0 y1 => less_eq 26 x0 x1 y0 y1
  have W : L05_wakes.f 29 = some true := wakes_eq 21
  have aa : lessD a0 a1 a0 a1 = false := by unfold lessD; simp
  have J : L05_DotLess.j0 30 (lessD a0 a1 b0 b1) false a0 a1 b0 b1 c0 c1 = some true := by
    rw [L05_DotLess.j0, if_neg (by simp)]
    simp only [M, W, Option.bind_some]
    have tr : lessD a0 a1 b0 b1 = true → lessD b0 b1 c0 c1 = true → lessD a0 a1 c0 c1 = true := by
      unfold lessD
      simp only [decide_eq_true_eq]
      omega
    by_cases h1 : lessD a0 a1 b0 b1 = true
    · have fin : (if a0 < b0 then some true else (if a0 = b0 then (if a1 < b1 then some true else some false) else some false)) = some true := by
        unfold lessD at h1
        simp only [decide_eq_true_eq] at h1
        by_cases h : a0 < b0
        · rw [if_pos h]
        · rw [if_neg h, if_pos (by omega), if_pos (by omega)]
      rw [if_pos h1]
      by_cases h2 : lessD b0 b1 c0 c1 = true
      · rw [if_pos h2, if_pos (tr h1 h2)]
        exact fin
      · rw [if_neg h2]
        exact fin
    · rw [if_neg h1]
      unfold lessD at h1
      simp only [decide_eq_true_eq] at h1
      rw [if_neg (by omega)]
      by_cases h : a0 = b0
      · rw [if_pos h, if_neg (by omega)]
      · rw [if_neg h]
  unfold L05_DotLess.f
  simp only [L, keepDot_eq, Option.bind_some, aa]
  by_cases h1 : lessD a0 a1 b0 b1 = true
  · have h2 : lessD b0 b1 a0 a1 = false := by
      unfold lessD at *
      simp at *
      omega
    have h3 : ¬ (a0 = b0 ∧ a1 = b1) := by
      unfold lessD at h1
      simp at h1
      omega
    rw [if_pos h1, h2, if_neg (by simp), decide_eq_false h3, if_neg (by simp)]
    exact J
  · rw [if_neg h1]
    have e : lessD b0 b1 a0 a1 = decide (¬ (a0 = b0 ∧ a1 = b1)) := by
      unfold lessD at *
      simp only [decide_eq_true_eq] at h1
      by_cases h : a0 = b0 ∧ a1 = b1
      · simp [h]
      · rw [decide_eq_true h, decide_eq_true (show b0 < a0 ∨ b0 = a0 ∧ b1 < a1 by omega)]
    by_cases h : a0 = b0 ∧ a1 = b1
    · rw [e, decide_eq_false (show ¬ ¬ (a0 = b0 ∧ a1 = b1) from fun h2 => h2 h), if_neg (by simp), decide_eq_true h, if_pos rfl]
      exact J
    · rw [e, decide_eq_true h, if_pos rfl, decide_eq_false h, if_neg (by simp)]
      exact J

end Go.Proofs.Ytadibbhmhggmaaa.Pure
