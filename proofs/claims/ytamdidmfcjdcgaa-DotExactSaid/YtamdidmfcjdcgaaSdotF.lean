/- What functions of raddlelaw05 answer. No condition. -/
import Derived.Test.YtamdidmfcjdcgaaSdotE
set_option linter.unusedVariables false
set_option linter.unusedSimpArgs false
set_option maxRecDepth 100000
namespace Go.Proofs.Ytamdidmfcjdcgaa.D
open Go Go.Proofs

theorem wakes_ok : FnB Try.prog 16 [] (vb true) := by
  refine fnB_intro cf16 (by simp) ?_
  simp (config := {contextual := true, maxSteps := 1000000}) only [go_sem, ints, intRows, iv_c, Nat.reduceAdd, Nat.reduceBEq, Nat.reduceEqDiff, Nat.reduceLeDiff, Nat.reduceLT, reduceIte, Nat.le_refl, true_or, or_true, and_self, Int.reduceLE, Int.reduceLT, Int.reduceNeg, Int.natCast_nonneg, Int.reduceToNat, c16]
  refine caS_i (Merge_ok [2, 0] [1, 3]) trivial ?_
  have e : mergeV [2, 0] [1, 3] = ([2, 3], 0) := by rfl
  simp (config := {contextual := true, maxSteps := 1000000}) only [go_sem, ints, intRows, iv_c, Nat.reduceAdd, Nat.reduceBEq, Nat.reduceEqDiff, Nat.reduceLeDiff, Nat.reduceLT, reduceIte, Nat.le_refl, true_or, or_true, and_self, Int.reduceLE, Int.reduceLT, Int.reduceNeg, Int.natCast_nonneg, Int.reduceToNat, e]
  refine caS_i (Ints_ok [2, 3] [2, 3] (by simp [maxLen])) trivial ?_
  simp (config := {contextual := true, maxSteps := 1000000}) only [go_sem, ints, intRows, iv_c, Nat.reduceAdd, Nat.reduceBEq, Nat.reduceEqDiff, Nat.reduceLeDiff, Nat.reduceLT, reduceIte, Nat.le_refl, true_or, or_true, and_self, Int.reduceLE, Int.reduceLT, Int.reduceNeg, Int.natCast_nonneg, Int.reduceToNat, e]
  refine caS_i (Has_ok [2, 3] ⟨1, 3⟩) trivial ?_
  have e2 : hasB [2, 3] ⟨1, 3⟩ = true := by decide
  simp (config := {contextual := true, maxSteps := 1000000}) only [go_sem, ints, intRows, iv_c, Nat.reduceAdd, Nat.reduceBEq, Nat.reduceEqDiff, Nat.reduceLeDiff, Nat.reduceLT, reduceIte, Nat.le_refl, true_or, or_true, and_self, Int.reduceLE, Int.reduceLT, Int.reduceNeg, Int.natCast_nonneg, Int.reduceToNat, e2]
  refine caS_i (Next_ok [2, 3] ⟨0, 3⟩ (by simp [inI]) (by simp [inI])) trivial ?_
  have e3 : nextB [2, 3] ⟨0, 3⟩ = true := by decide
  simp (config := {contextual := true, maxSteps := 1000000}) only [go_sem, ints, intRows, iv_c, Nat.reduceAdd, Nat.reduceBEq, Nat.reduceEqDiff, Nat.reduceLeDiff, Nat.reduceLT, reduceIte, Nat.le_refl, true_or, or_true, and_self, Int.reduceLE, Int.reduceLT, Int.reduceNeg, Int.natCast_nonneg, Int.reduceToNat, e3]
  refine caS_i (Le_ok [0, 0] [2, 3] (by simp [maxLen])) trivial ?_
  have e4 : leB [0, 0] [2, 3] = true := by decide
  simp (config := {contextual := true, maxSteps := 1000000}) only [go_sem, ints, intRows, iv_c, Nat.reduceAdd, Nat.reduceBEq, Nat.reduceEqDiff, Nat.reduceLeDiff, Nat.reduceLT, reduceIte, Nat.le_refl, true_or, or_true, and_self, Int.reduceLE, Int.reduceLT, Int.reduceNeg, Int.natCast_nonneg, Int.reduceToNat, e4]

/-- More than is played? -/
def heavyB (l : List (List Int)) : Bool := decide (30 < l.length ∨ ∃ v ∈ l, 30 < v.length)
theorem Heavy_ok {fl : Fl} (l : List (List Int)) : FnB Try.prog 17 [intRows fl l] (vb (heavyB l)) := by
  refine fnB_intro cf17 (by simp) ?_
  simp (config := {contextual := true, maxSteps := 1000000}) only [go_sem, ints, intRows, iv_c, Nat.reduceAdd, Nat.reduceBEq, Nat.reduceEqDiff, Nat.reduceLeDiff, Nat.reduceLT, reduceIte, Nat.le_refl, true_or, or_true, and_self, Int.reduceLE, Int.reduceLT, Int.reduceNeg, Int.natCast_nonneg, Int.reduceToNat, c17]
  refine ⟨fun h => ?_, fun h => ?_⟩ <;> simp at h
  · simp [heavyB]; left; omega
  refine wpC_lp (fun env ob n => env 0 = intRows fl l ∧ ∃ i : Nat, env 3 = vi i ∧ i ≤ l.length ∧ ∀ v ∈ l.take i, ¬ 30 < v.length) (fun env ob n => (l.length - iv (env 3)).toNat) ?_ ?_
  · simp (config := {contextual := true, maxSteps := 1000000}) only [go_sem, ints, intRows, iv_c, Nat.reduceAdd, Nat.reduceBEq, Nat.reduceEqDiff, Nat.reduceLeDiff, Nat.reduceLT, reduceIte, Nat.le_refl, true_or, or_true, and_self, Int.reduceLE, Int.reduceLT, Int.reduceNeg, Int.natCast_nonneg, Int.reduceToNat]
    simp
    exact ⟨0, by simp⟩
  rintro env ob n ⟨h0, i, h3, hi, he⟩
  simp (config := {contextual := true, maxSteps := 1000000}) only [go_sem, ints, intRows, iv_c, Nat.reduceAdd, Nat.reduceBEq, Nat.reduceEqDiff, Nat.reduceLeDiff, Nat.reduceLT, reduceIte, Nat.le_refl, true_or, or_true, and_self, Int.reduceLE, Int.reduceLT, Int.reduceNeg, Int.natCast_nonneg, Int.reduceToNat, h0, h3]
  refine ⟨fun hlt => ?_, fun hge => ?_⟩
  · simp at hlt
    refine ⟨by omega, fun hb => ?_, fun hg => ⟨⟨i + 1, ?_, by omega, (take_succ_iff hlt).2 ⟨he, by simp at hg; omega⟩⟩, ?_⟩⟩
    · simp at hb
      have : heavyB l = true := by simp only [heavyB]; rw [decide_eq_true]; right; exact ⟨gN l i, by rw [gN_eq hlt]; exact List.getElem_mem _, by omega⟩
      rw [this]
    · rw [w64 (by omega)]; simp
    · rw [w64 (by omega)]; omega
  · simp at hge
    rw [List.take_of_length_le (by omega)] at he
    have : heavyB l = false := by
      simp only [heavyB]; rw [decide_eq_false]; rintro (h2 | ⟨v, h2, h3⟩)
      · omega
      · exact he v h2 h3
    rw [this]
end Go.Proofs.Ytamdidmfcjdcgaa.D
