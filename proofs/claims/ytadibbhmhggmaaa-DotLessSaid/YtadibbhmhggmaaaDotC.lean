/- Plain facts of this session. No condition. -/
import Derived.Test.YtadibbhmhggmaaaDotB
import Derived.Test.YtadibbhmhggmaaaB9
import Derived.Test.YtadibbhmhggmaaaB10
set_option linter.unusedSimpArgs false
set_option linter.unusedVariables false
namespace Go.Proofs.Ytadibbhmhggmaaa.Pure
open Go.RowKit Go.Proofs.Ytadibbhmhggmaaa.Open Go.Proofs.Ytadibbhmhggmaaa.B Go.Proofs.YtadibbhmhggmaaaW.PrintWords Go.Proofs.YtadibbhmhggmaaaW.PrintLast
theorem compare_eq (a b : Int) : cmp_Compare_int.f a b = some (if a < b then -1 else if a > b then 1 else 0) := by
  unfold cmp_Compare_int.f cmp_isNaN_int.f
  simp
  split <;> simp_all
  split <;> rfl
theorem or2 (k : Nat) (a b : Int) : cmp_Or_int.f (k + 3) [a, b] = some (if a = 0 then b else a) := by
  have e0 : rd [a, b] 0 = a := rfl
  have e1 : rd [a, b] 1 = b := rfl
  have w0 : wrap64 (0 + 1) = 1 := by unfold wrap64; omega
  have w1 : wrap64 (1 + 1) = 2 := by unfold wrap64; omega
  unfold cmp_Or_int.f
  simp only [List.length_cons, List.length_nil]
  rw [cmp_Or_int.l0]
  simp only [e0, w0]
  by_cases ha : a = 0
  · subst ha
    simp
    rw [cmp_Or_int.l0]
    simp only [e1, w1]
    by_cases hb : b = 0
    · subst hb
      simp
      rw [cmp_Or_int.l0]
      simp
    · simp [hb]
  · simp [ha]
def lessD (a0 a1 b0 b1 : Int) : Bool := decide (a0 < b0 ∨ (a0 = b0 ∧ a1 < b1))
theorem less_eq (k : Nat) (a0 a1 b0 b1 : Int) : dot_Less.f (k + 3) a0 a1 b0 b1 = some (lessD a0 a1 b0 b1) := by
  unfold dot_Less.f dot_Compare.f lessD
  simp only [compare_eq, Option.bind_some, or2]
  by_cases h0 : a0 < b0
  · simp [h0]
  · by_cases h1 : a0 > b0
    · have : ¬ a0 = b0 := by omega
      simp [h0, h1, this]
    · have : a0 = b0 := by omega
      subst this
      by_cases h2 : a1 < b1
      · simp [h2]
      · by_cases h3 : a1 > b1 <;> simp [h2, h3]
theorem keepDot_eq (a0 a1 b0 b1 : Int) : keep_Dot.f a0 a1 b0 b1 = some (decide (a0 = b0 ∧ a1 = b1)) := by
  unfold keep_Dot.f
  by_cases h : a0 = b0
  · by_cases h1 : a1 = b1 <;> simp [h, h1]
  · simp [h]

end Go.Proofs.Ytadibbhmhggmaaa.Pure
