/- Plain facts of this session. No condition. -/
import Derived.Test.YtfddkjoklcbjeaaPredV
import Derived.Test.YtfddkjoklcbjeaaB4
import Derived.Test.YtfddkjoklcbjeaaB7
import Derived.Test.YtfddkjoklcbjeaaB8
set_option linter.unusedSimpArgs false
set_option linter.unusedVariables false
namespace Go.Proofs.Ytfddkjoklcbjeaa.Pure
open Go.RowKit Go.Proofs.Ytfddkjoklcbjeaa.Open Go.Proofs.Ytfddkjoklcbjeaa.B Go.Proofs.YtfddkjoklcbjeaaW.PrintWords Go.Proofs.YtfddkjoklcbjeaaW.PrintLast
theorem rin_eq (a b c : Int) : R14_in.f a b c = some (decide (b ≤ a ∧ a ≤ c)) := by
  unfold R14_in.f
  by_cases h : a ≥ b
  · rw [if_pos h]; simp [show b ≤ a from h]
  · rw [if_neg h]; simp [show ¬ b ≤ a from h]
theorem rfits_eq (v : S23) (t : Int) : R01_Fits.f v.f0 v.f1 v.f2 t = some (decide (fitsV v t)) := by
  unfold R01_Fits.f R01_Type.f fitsV
  simp only [rin1_eq, rvalue_eq, Option.bind_some, decide_eq_true_eq]
  by_cases h : 2 ≤ t ∧ t ≤ 4
  · by_cases ho : okV v
    · by_cases e1 : v.f0 = t
      · simp [h, ho, e1]
      · by_cases e2 : v.f0 = 1 <;> simp [h, ho, e1, e2]
    · simp [h, ho]
  · simp [h]
theorem rcompare_eq (a b : S23) : R01_Compare.f a.f0 a.f1 a.f2 b.f0 b.f1 b.f2 = some (cmpV a b) := by
  unfold R01_Compare.f R01_sign.f cmpV
  rcases cmpI_cases a.f0 b.f0 with ⟨h, e, _⟩ | ⟨h, e, _⟩ | ⟨h, e, _⟩
  · rw [e, if_neg (by omega)]; simp [h]
  · rw [e, if_pos h]
    rcases cmpI_cases a.f1 b.f1 with ⟨h1, e1, _⟩ | ⟨h1, e1, _⟩ | ⟨h1, e1, _⟩
    · rw [e1, if_neg (by omega)]; simp [h1]
    · rw [e1, if_pos h1]
      unfold cmpL
      rcases bytes_tri a.f2.toList b.f2.toList with ⟨h2, h3, h4⟩ | ⟨h2, h3, h4⟩ | ⟨h2, h3, h4⟩
      · simp [h2, h4]
      · rw [if_pos h4]; simp [h2, h3]
      · simp [h2, h3, h4]
    · rw [e1, if_neg (by omega)]; simp [show ¬ a.f1 < b.f1 by omega]
  · rw [e, if_neg (by omega)]; simp [show ¬ a.f0 < b.f0 by omega]
theorem place_eq (a : Int) (n : Nat) (hn : n ≤ 9223372036854775807) : (0 ≤ a ∧ a ≤ wrap64 ((n : Int) - 1)) ↔ (0 ≤ a ∧ a < n) := by
  have : wrap64 ((n : Int) - 1) = (n : Int) - 1 := by unfold wrap64; omega
  rw [this]
  omega
theorem rholds_eq (p0 p1 p2 : Int) (v : S23) (l : List S23) (hl : l.length ≤ 9223372036854775807) : R14_Holds.f p0 p1 p2 v.f0 v.f1 v.f2 l = some (holdsS p0 p1 p2 v l) := by
  unfold R14_Holds.f holdsS
  simp only [rin_eq, rcompare_eq, Option.bind_some, decide_eq_true_eq, place_eq _ _ hl]
  by_cases h1 : 0 ≤ p1 ∧ p1 < (l.length : Int)
  · rw [if_pos h1, if_pos h1.1, if_pos h1.2, decide_eq_true h1]
    by_cases e1 : p0 = 1
    · simp [e1]
    · by_cases e2 : p0 = 2
      · simp [e2]
      · by_cases h2 : 0 ≤ p2 ∧ p2 < (l.length : Int)
        · by_cases e3 : p0 = 3
          · simp [e3, h2]
          · by_cases e4 : p0 = 4
            · simp [e4, h2]
            · simp only [if_neg e1, if_neg e2, if_neg e3, if_neg e4]
              by_cases e5 : p0 = 5
              · simp [e5]
              · by_cases e6 : p0 = 6 <;> simp [e5, e6, h2]
        · by_cases e3 : p0 = 3
          · simp [e3, h2]
          · by_cases e4 : p0 = 4
            · simp [e4, h2]
            · simp only [if_neg e1, if_neg e2, if_neg e3, if_neg e4]
              by_cases e5 : p0 = 5
              · simp [e5]
              · by_cases e6 : p0 = 6
                · simp [e6]
                · simp [e3, e4, e5, e6]
  · rw [if_neg h1]
    simp [h1]
theorem rpred_eq (k : Nat) (p0 p1 p2 : Int) (v : S23) (l : List Int) (hl : l.length ≤ 9223372036854775807) : R14_Pred.f (k + 3) p0 p1 p2 v.f0 v.f1 v.f2 l = some (checkS p0 p1 p2 v l) := by
  have b3 : (if p0 = 3 then R14_Pred.j0 (k + 3) l true p0 p1 p2 v.f0 v.f1 v.f2 else R14_Pred.j0 (k + 3) l (p0 == 4) p0 p1 p2 v.f0 v.f1 v.f2) = R14_Pred.j0 (k + 3) l (decide (p0 = 3 ∨ p0 = 4)) p0 p1 p2 v.f0 v.f1 v.f2 := by
    by_cases h : p0 = 3
    · simp [h]
    · rw [if_neg h]
      by_cases h4 : p0 = 4
      · simp [h4]
      · rw [show (p0 == 4) = false by simpa using h4, decide_eq_false (by omega)]
  unfold R14_Pred.f
  rw [b3, R14_Pred.j0]
  have b1 : (if p0 = 1 then R14_Pred.j1 (k + 2) l (decide (p0 = 3 ∨ p0 = 4)) true p0 p1 p2 v.f0 v.f1 v.f2 else R14_Pred.j1 (k + 2) l (decide (p0 = 3 ∨ p0 = 4)) (p0 == 2) p0 p1 p2 v.f0 v.f1 v.f2) = R14_Pred.j1 (k + 2) l (decide (p0 = 3 ∨ p0 = 4)) (decide (p0 = 1 ∨ p0 = 2)) p0 p1 p2 v.f0 v.f1 v.f2 := by
    by_cases h : p0 = 1
    · simp [h]
    · rw [if_neg h]
      by_cases h4 : p0 = 2
      · simp [h4]
      · rw [show (p0 == 2) = false by simpa using h4, decide_eq_false (p := p0 = 1 ∨ p0 = 2) (by omega)]
  rw [b1, R14_Pred.j1]
  simp only [rin_eq, rvalue_eq, Option.bind_some, decide_eq_true_eq, place_eq _ _ hl]
  unfold checkS
  by_cases h0 : 1 ≤ p0 ∧ p0 ≤ 6
  · rw [if_pos h0]
    by_cases h1 : 0 ≤ p1 ∧ p1 < (l.length : Int)
    · rw [if_pos h1]
      by_cases h3 : p0 = 3 ∨ p0 = 4
      · have hg : ¬ (p0 = 1 ∨ p0 = 2) := by omega
        rw [if_pos h3]
        by_cases h2 : 0 ≤ p2 ∧ p2 < (l.length : Int)
        · rw [if_pos h2, if_neg hg, R14_Pred.j2]
          simp only [hg, h3, h0, h1, h2, decide_true, decide_false, Bool.false_eq_true, if_false, if_true, and_self, true_and, false_and, not_true, false_or, imp_self, implies_true, false_implies, true_implies]
          by_cases e : rd l p2 = rd l p1 <;> simp [e]
        · rw [if_neg h2, R14_Pred.j2]
          simp [h0, h1, h2, h3]
      · rw [if_neg h3]
        by_cases hg : p0 = 1 ∨ p0 = 2
        · rw [if_pos hg, R14_Pred.j2]
          by_cases ho : okV v
          · simp only [rfits_eq, Option.bind_some, decide_eq_true_eq, hg, h3, h0, h1, ho, decide_true, decide_false, Bool.not_true, Bool.false_eq_true, if_false, if_true, and_self, true_and, false_and, not_true, or_false, implies_true, false_implies, true_implies]
            by_cases e : fitsV v (rd l p1) <;> simp [e]
          · simp [ho, h0, h1, h3, hg]
        · rw [if_neg hg, R14_Pred.j2]
          simp [hg, h3, h0, h1]
    · rw [if_neg h1, R14_Pred.j2]
      simp [h1]
  · rw [if_neg h0, R14_Pred.j2]
    simp [h0]

end Go.Proofs.Ytfddkjoklcbjeaa.Pure
