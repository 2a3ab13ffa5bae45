/- MatExact. No condition. -/
import Derived.Test.YtamdidmfcjdcgaaSmatE
set_option linter.unusedVariables false
set_option linter.unusedSimpArgs false
set_option maxRecDepth 100000
namespace Go.Proofs.Ytamdidmfcjdcgaa.D
open Go Go.Proofs

theorem heavy_no {l : List (List Int)} (h : heavyB l = false) : l.length ≤ 30 ∧ ∀ v ∈ l, v.length ≤ 30 := by
  simp only [heavyB, decide_eq_false_iff_not] at h
  refine ⟨by omega, fun v hv => ?_⟩
  rcases Nat.lt_or_ge 30 v.length with h2 | h2
  · exact absurd (.inr ⟨v, hv, h2⟩) h
  · exact h2

set_option maxHeartbeats 2000000 in
theorem MatExact_ok (m : List (List Int)) (hv : List Int) (p : Int) (s : List Int) (n : Int) : FnB Try.prog 8 [intRows .b m, ints .b hv, vi p, ints .b s, vi n] (vb true) := by
  refine fnB_intro cf8 (by simp) ?_
  simp (config := {contextual := true, maxSteps := 1000000}) only [go_sem, ints, intRows, iv_c, Nat.reduceAdd, Nat.reduceBEq, Nat.reduceEqDiff, Nat.reduceLeDiff, Nat.reduceLT, reduceIte, Nat.le_refl, true_or, or_true, and_self, Int.reduceLE, Int.reduceLT, Int.reduceNeg, Int.natCast_nonneg, Int.reduceToNat, c8]
  first | refine caS_i (Heavy_ok m) trivial ?_ | refine caD_i (Heavy_ok m) trivial ?_ | refine gC_i (fun _ => Heavy_ok m) trivial ?_ | refine gCD_i (fun _ => Heavy_ok m) trivial ?_
  by_cases hh : heavyB m = true
  · simp (config := {contextual := true, maxSteps := 1000000}) only [go_sem, ints, intRows, iv_c, Nat.reduceAdd, Nat.reduceBEq, Nat.reduceEqDiff, Nat.reduceLeDiff, Nat.reduceLT, reduceIte, Nat.le_refl, true_or, or_true, and_self, Int.reduceLE, Int.reduceLT, Int.reduceNeg, Int.natCast_nonneg, Int.reduceToNat, hh]
  have hh : heavyB m = false := by simpa using hh
  simp (config := {contextual := true, maxSteps := 1000000}) only [go_sem, ints, intRows, iv_c, Nat.reduceAdd, Nat.reduceBEq, Nat.reduceEqDiff, Nat.reduceLeDiff, Nat.reduceLT, reduceIte, Nat.le_refl, true_or, or_true, and_self, Int.reduceLE, Int.reduceLT, Int.reduceNeg, Int.natCast_nonneg, Int.reduceToNat, hh]
  first | refine caS_i (Heavy_ok [hv, s]) trivial ?_ | refine caD_i (Heavy_ok [hv, s]) trivial ?_ | refine gC_i (fun _ => Heavy_ok [hv, s]) trivial ?_ | refine gCD_i (fun _ => Heavy_ok [hv, s]) trivial ?_
  by_cases hh2 : heavyB [hv, s] = true
  · simp (config := {contextual := true, maxSteps := 1000000}) only [go_sem, ints, intRows, iv_c, Nat.reduceAdd, Nat.reduceBEq, Nat.reduceEqDiff, Nat.reduceLeDiff, Nat.reduceLT, reduceIte, Nat.le_refl, true_or, or_true, and_self, Int.reduceLE, Int.reduceLT, Int.reduceNeg, Int.natCast_nonneg, Int.reduceToNat, hh2]
  have hh2 : heavyB [hv, s] = false := by simpa using hh2
  simp (config := {contextual := true, maxSteps := 1000000}) only [go_sem, ints, intRows, iv_c, Nat.reduceAdd, Nat.reduceBEq, Nat.reduceEqDiff, Nat.reduceLeDiff, Nat.reduceLT, reduceIte, Nat.le_refl, true_or, or_true, and_self, Int.reduceLE, Int.reduceLT, Int.reduceNeg, Int.natCast_nonneg, Int.reduceToNat, hh2]
  obtain ⟨hm1, hm2⟩ := heavy_no hh
  have hs := (heavy_no hh2).2
  have hs1 := hs hv (by simp)
  have hs2 := hs s (by simp)
  first | refine caS_i (TwinIntRows_ok m (by unfold maxLen; omega) (fun v h => by have := hm2 v h; unfold maxLen; omega)) trivial ?_ | refine caD_i (TwinIntRows_ok m (by unfold maxLen; omega) (fun v h => by have := hm2 v h; unfold maxLen; omega)) trivial ?_ | refine gC_i (fun _ => TwinIntRows_ok m (by unfold maxLen; omega) (fun v h => by have := hm2 v h; unfold maxLen; omega)) trivial ?_ | refine gCD_i (fun _ => TwinIntRows_ok m (by unfold maxLen; omega) (fun v h => by have := hm2 v h; unfold maxLen; omega)) trivial ?_
  simp (config := {contextual := true, maxSteps := 1000000}) only [go_sem, ints, intRows, iv_c, Nat.reduceAdd, Nat.reduceBEq, Nat.reduceEqDiff, Nat.reduceLeDiff, Nat.reduceLT, reduceIte, Nat.le_refl, true_or, or_true, and_self, Int.reduceLE, Int.reduceLT, Int.reduceNeg, Int.natCast_nonneg, Int.reduceToNat]
  first | refine caS_i (TwinInts_ok hv (by unfold maxLen; omega)) trivial ?_ | refine caD_i (TwinInts_ok hv (by unfold maxLen; omega)) trivial ?_ | refine gC_i (fun _ => TwinInts_ok hv (by unfold maxLen; omega)) trivial ?_ | refine gCD_i (fun _ => TwinInts_ok hv (by unfold maxLen; omega)) trivial ?_
  simp (config := {contextual := true, maxSteps := 1000000}) only [go_sem, ints, intRows, iv_c, Nat.reduceAdd, Nat.reduceBEq, Nat.reduceEqDiff, Nat.reduceLeDiff, Nat.reduceLT, reduceIte, Nat.le_refl, true_or, or_true, and_self, Int.reduceLE, Int.reduceLT, Int.reduceNeg, Int.natCast_nonneg, Int.reduceToNat]
  first | refine caS_i (TwinInts_ok s (by unfold maxLen; omega)) trivial ?_ | refine caD_i (TwinInts_ok s (by unfold maxLen; omega)) trivial ?_ | refine gC_i (fun _ => TwinInts_ok s (by unfold maxLen; omega)) trivial ?_ | refine gCD_i (fun _ => TwinInts_ok s (by unfold maxLen; omega)) trivial ?_
  simp (config := {contextual := true, maxSteps := 1000000}) only [go_sem, ints, intRows, iv_c, Nat.reduceAdd, Nat.reduceBEq, Nat.reduceEqDiff, Nat.reduceLeDiff, Nat.reduceLT, reduceIte, Nat.le_refl, true_or, or_true, and_self, Int.reduceLE, Int.reduceLT, Int.reduceNeg, Int.natCast_nonneg, Int.reduceToNat]
  first | refine caS_i (Matrix_ok m) trivial ?_ | refine caD_i (Matrix_ok m) trivial ?_ | refine gC_i (fun _ => Matrix_ok m) trivial ?_ | refine gCD_i (fun _ => Matrix_ok m) trivial ?_
  simp (config := {contextual := true, maxSteps := 1000000}) only [go_sem, ints, intRows, iv_c, Nat.reduceAdd, Nat.reduceBEq, Nat.reduceEqDiff, Nat.reduceLeDiff, Nat.reduceLT, reduceIte, Nat.le_refl, true_or, or_true, and_self, Int.reduceLE, Int.reduceLT, Int.reduceNeg, Int.natCast_nonneg, Int.reduceToNat]
  first | refine caS_i (New_ok n) trivial ?_ | refine caD_i (New_ok n) trivial ?_ | refine gC_i (fun _ => New_ok n) trivial ?_ | refine gCD_i (fun _ => New_ok n) trivial ?_
  obtain ⟨X, e, hX, hX0, hcase⟩ : ∃ X e, newV n = (X, e) ∧ (∀ i k, i < X.length → k < (gN X i).length → gN (gN X i) k = 0) ∧ ((n < 1 ∨ 5 < n) ∧ e = 1 ∧ X.length = 0 ∨ (1 ≤ n ∧ n ≤ 5) ∧ e = 0 ∧ (X.length : Int) = n ∧ matE X = 0) := by
    by_cases h : 1 ≤ n ∧ n ≤ 5
    · refine ⟨newM n.toNat, 0, if_pos h, fun i k hi hk => ?_, .inr ⟨h, rfl, by simp [newM]; omega, matE_new (by omega)⟩⟩
      have hi' : i < n.toNat := by simpa [newM] using hi
      rw [newM, gN_rep hi'] at hk ⊢
      exact gN_rep (by simpa using hk)
    · exact ⟨[], 1, if_neg h, fun i k hi _ => by simp at hi, .inl ⟨by omega, rfl, rfl⟩⟩
  have hr1 : m.length ≤ maxLen := by unfold maxLen; omega
  have hE5 : X.length ≤ 5 := by rcases hcase with h | h <;> omega
  have hXr : ∀ i, i < X.length → (gN X i).length ≤ 5 := fun i hi => by
    rcases hcase with ⟨_, _, h⟩ | ⟨_, _, _, h⟩
    · omega
    · have := (matE_at h).2 _ (gN_mem hi); omega
  rcases hcase with ⟨hn, rfl, hXl⟩ | ⟨hn, rfl, hXl, hXE⟩
  case' inl =>
    have hn' : (decide (n < 1) || decide (5 < n)) = true := by simp; omega
    have hXl' : decide ((0 : Int) < X.length) = false := by rw [hXl]; rfl
    simp (config := {contextual := true, maxSteps := 1000000}) only [go_sem, ints, intRows, iv_c, Nat.reduceAdd, Nat.reduceBEq, Nat.reduceEqDiff, Nat.reduceLeDiff, Nat.reduceLT, reduceIte, Nat.le_refl, true_or, or_true, and_self, Int.reduceLE, Int.reduceLT, Int.reduceNeg, Int.natCast_nonneg, Int.reduceToNat, hX, hn', hXl']
  case' inr =>
    have hn' : (decide (n < 1) || decide (5 < n)) = false := by simp; omega
    have hXl' : decide ((X.length : Int) = n) = true := by simpa using hXl
    simp (config := {contextual := true, maxSteps := 1000000}) only [go_sem, ints, intRows, iv_c, Nat.reduceAdd, Nat.reduceBEq, Nat.reduceEqDiff, Nat.reduceLeDiff, Nat.reduceLT, reduceIte, Nat.le_refl, true_or, or_true, and_self, Int.reduceLE, Int.reduceLT, Int.reduceNeg, Int.natCast_nonneg, Int.reduceToNat, hX, hn', hXl']
    first | refine caS_i (Matrix_ok X) trivial ?_ | refine caD_i (Matrix_ok X) trivial ?_ | refine gC_i (fun _ => Matrix_ok X) trivial ?_ | refine gCD_i (fun _ => Matrix_ok X) trivial ?_
    simp (config := {contextual := true, maxSteps := 1000000}) only [go_sem, ints, intRows, iv_c, Nat.reduceAdd, Nat.reduceBEq, Nat.reduceEqDiff, Nat.reduceLeDiff, Nat.reduceLT, reduceIte, Nat.le_refl, true_or, or_true, and_self, Int.reduceLE, Int.reduceLT, Int.reduceNeg, Int.natCast_nonneg, Int.reduceToNat, hXE]
  all_goals
    refine wpC_lp (fun env ob n' => env 0 = intRows .b m ∧ env 1 = ints .b hv ∧ env 2 = vi p ∧ env 3 = ints .b s ∧ env 11 = intRows .b m ∧ env 12 = ints .b hv ∧ env 13 = ints .b s ∧ env 14 = vi (matE m) ∧ env 15 = intRows .b X ∧ ∃ i : Nat, env 17 = vi i ∧ i ≤ X.length) (fun env _ _ => (X.length - iv (env 17)).toNat) ?_ ?_
    · simp (config := {contextual := true, maxSteps := 1000000}) only [go_sem, ints, intRows, iv_c, Nat.reduceAdd, Nat.reduceBEq, Nat.reduceEqDiff, Nat.reduceLeDiff, Nat.reduceLT, reduceIte, Nat.le_refl, true_or, or_true, and_self, Int.reduceLE, Int.reduceLT, Int.reduceNeg, Int.natCast_nonneg, Int.reduceToNat]
      exact ⟨0, rfl, by omega⟩
    clear hn' hXl'
    rintro env ob n' ⟨h0, h1, h2, h3, h11, h12, h13, h14, h15, i, h17, hi⟩
    simp (config := {contextual := true, maxSteps := 1000000}) only [go_sem, ints, intRows, iv_c, Nat.reduceAdd, Nat.reduceBEq, Nat.reduceEqDiff, Nat.reduceLeDiff, Nat.reduceLT, reduceIte, Nat.le_refl, true_or, or_true, and_self, Int.reduceLE, Int.reduceLT, Int.reduceNeg, Int.natCast_nonneg, Int.reduceToNat, h0, h1, h2, h3, h11, h12, h13, h14, h15, h17]
    refine ⟨fun hlt => ?_, fun hge => ?_⟩
    · simp at hlt
      refine wpC_lp (fun env ob n' => env 0 = intRows .b m ∧ env 1 = ints .b hv ∧ env 2 = vi p ∧ env 3 = ints .b s ∧ env 11 = intRows .b m ∧ env 12 = ints .b hv ∧ env 13 = ints .b s ∧ env 14 = vi (matE m) ∧ env 15 = intRows .b X ∧ env 17 = vi i ∧ ∃ k : Nat, env 18 = vi k ∧ k ≤ (gN X i).length) (fun env _ _ => ((gN X i).length - iv (env 18)).toNat) ?_ ?_
      · simp (config := {contextual := true, maxSteps := 1000000}) only [go_sem, ints, intRows, iv_c, Nat.reduceAdd, Nat.reduceBEq, Nat.reduceEqDiff, Nat.reduceLeDiff, Nat.reduceLT, reduceIte, Nat.le_refl, true_or, or_true, and_self, Int.reduceLE, Int.reduceLT, Int.reduceNeg, Int.natCast_nonneg, Int.reduceToNat, h0, h1, h2, h3, h11, h12, h13, h14, h15, h17]
        exact ⟨0, rfl, by omega⟩
      clear h0 h1 h2 h3 h11 h12 h13 h14 h15 h17
      rintro env ob n' ⟨h0, h1, h2, h3, h11, h12, h13, h14, h15, h17, k, h18, hk⟩
      simp (config := {contextual := true, maxSteps := 1000000}) only [go_sem, ints, intRows, iv_c, Nat.reduceAdd, Nat.reduceBEq, Nat.reduceEqDiff, Nat.reduceLeDiff, Nat.reduceLT, reduceIte, Nat.le_refl, true_or, or_true, and_self, Int.reduceLE, Int.reduceLT, Int.reduceNeg, Int.natCast_nonneg, Int.reduceToNat, h0, h1, h2, h3, h11, h12, h13, h14, h15, h17, h18]
      have hle := hXr i hlt
      refine ⟨by omega, fun hk2 => ?_, fun hk2 => ?_⟩
      · simp at hk2
        have hz := hX0 i k hlt hk2
        refine ⟨by omega, by omega, fun h => by rw [hz] at h; simp at h, fun _ => ⟨⟨k + 1, ?_, by omega⟩, ?_⟩⟩
        · rw [w64 (by omega)]; simp
        · rw [w64 (by omega)]; omega
      · refine ⟨⟨i + 1, ?_, by omega⟩, ?_⟩
        · rw [w64 (by omega)]; simp
        · rw [w64 (by omega)]; omega
    simp at hge
    first | refine caS_i (Learn_ok m hv p s hr1) trivial ?_ | refine caD_i (Learn_ok m hv p s hr1) trivial ?_ | refine gC_i (fun _ => Learn_ok m hv p s hr1) trivial ?_ | refine gCD_i (fun _ => Learn_ok m hv p s hr1) trivial ?_
    simp (config := {contextual := true, maxSteps := 1000000}) only [go_sem, ints, intRows, iv_c, Nat.reduceAdd, Nat.reduceBEq, Nat.reduceEqDiff, Nat.reduceLeDiff, Nat.reduceLT, reduceIte, Nat.le_refl, true_or, or_true, and_self, Int.reduceLE, Int.reduceLT, Int.reduceNeg, Int.natCast_nonneg, Int.reduceToNat, h0, h1, h2, h3, h11, h12, h13, h14, h15, h17]
    first | refine caS_i (Frontier_ok m hr1) trivial ?_ | refine caD_i (Frontier_ok m hr1) trivial ?_ | refine gC_i (fun _ => Frontier_ok m hr1) trivial ?_ | refine gCD_i (fun _ => Frontier_ok m hr1) trivial ?_
    simp (config := {contextual := true, maxSteps := 1000000}) only [go_sem, ints, intRows, iv_c, Nat.reduceAdd, Nat.reduceBEq, Nat.reduceEqDiff, Nat.reduceLeDiff, Nat.reduceLT, reduceIte, Nat.le_refl, true_or, or_true, and_self, Int.reduceLE, Int.reduceLT, Int.reduceNeg, Int.natCast_nonneg, Int.reduceToNat, h0, h1, h2, h3, h11, h12, h13, h14, h15, h17]
    first | refine caS_i (MCheck_ok m hr1) trivial ?_ | refine caD_i (MCheck_ok m hr1) trivial ?_ | refine gC_i (fun _ => MCheck_ok m hr1) trivial ?_ | refine gCD_i (fun _ => MCheck_ok m hr1) trivial ?_
    simp (config := {contextual := true, maxSteps := 1000000}) only [go_sem, ints, intRows, iv_c, Nat.reduceAdd, Nat.reduceBEq, Nat.reduceEqDiff, Nat.reduceLeDiff, Nat.reduceLT, reduceIte, Nat.le_refl, true_or, or_true, and_self, Int.reduceLE, Int.reduceLT, Int.reduceNeg, Int.natCast_nonneg, Int.reduceToNat, h0, h1, h2, h3, h11, h12, h13, h14, h15, h17]
    first | refine caS_i (IntRows_ok m m hr1 (fun v h => by have := hm2 v h; unfold maxLen; omega)) trivial ?_ | refine caD_i (IntRows_ok m m hr1 (fun v h => by have := hm2 v h; unfold maxLen; omega)) trivial ?_ | refine gC_i (fun _ => IntRows_ok m m hr1 (fun v h => by have := hm2 v h; unfold maxLen; omega)) trivial ?_ | refine gCD_i (fun _ => IntRows_ok m m hr1 (fun v h => by have := hm2 v h; unfold maxLen; omega)) trivial ?_
    simp (config := {contextual := true, maxSteps := 1000000}) only [go_sem, ints, intRows, iv_c, Nat.reduceAdd, Nat.reduceBEq, Nat.reduceEqDiff, Nat.reduceLeDiff, Nat.reduceLT, reduceIte, Nat.le_refl, true_or, or_true, and_self, Int.reduceLE, Int.reduceLT, Int.reduceNeg, Int.natCast_nonneg, Int.reduceToNat, h0, h1, h2, h3, h11, h12, h13, h14, h15, h17, eq_self]
    first | refine caS_i (Ints_ok hv hv (by unfold maxLen; omega)) trivial ?_ | refine caD_i (Ints_ok hv hv (by unfold maxLen; omega)) trivial ?_ | refine gC_i (fun _ => Ints_ok hv hv (by unfold maxLen; omega)) trivial ?_ | refine gCD_i (fun _ => Ints_ok hv hv (by unfold maxLen; omega)) trivial ?_
    simp (config := {contextual := true, maxSteps := 1000000}) only [go_sem, ints, intRows, iv_c, Nat.reduceAdd, Nat.reduceBEq, Nat.reduceEqDiff, Nat.reduceLeDiff, Nat.reduceLT, reduceIte, Nat.le_refl, true_or, or_true, and_self, Int.reduceLE, Int.reduceLT, Int.reduceNeg, Int.natCast_nonneg, Int.reduceToNat, h0, h1, h2, h3, h11, h12, h13, h14, h15, h17, eq_self]
    by_cases hE : matE m = 0
    rotate_left
    · have hE' : decide (matE m = 0) = false := by simpa using hE
      have l1 : learnV m hv p s = ([], false, matE m) := if_pos hE
      have l2 : frontV m = ([], matE m) := if_pos hE
      have l3 : IntKind.i64.wrap ((([] : List (List Int)).length : Int) + (([] : List Int).length : Int)) = 0 := by decide
      first | refine caS_i (Ints_ok s s (by unfold maxLen; omega)) trivial ?_ | refine caD_i (Ints_ok s s (by unfold maxLen; omega)) trivial ?_ | refine gC_i (fun _ => Ints_ok s s (by unfold maxLen; omega)) trivial ?_ | refine gCD_i (fun _ => Ints_ok s s (by unfold maxLen; omega)) trivial ?_
      simp (config := {contextual := true, maxSteps := 1000000}) only [go_sem, ints, intRows, iv_c, Nat.reduceAdd, Nat.reduceBEq, Nat.reduceEqDiff, Nat.reduceLeDiff, Nat.reduceLT, reduceIte, Nat.le_refl, true_or, or_true, and_self, Int.reduceLE, Int.reduceLT, Int.reduceNeg, Int.natCast_nonneg, Int.reduceToNat, h0, h1, h2, h3, h11, h12, h13, h14, h15, h17, eq_self, l1, l2, l3, hE']
      first | refine caS_i (wakes11_ok) trivial ?_ | refine caD_i (wakes11_ok) trivial ?_ | refine gC_i (fun _ => wakes11_ok) trivial ?_ | refine gCD_i (fun _ => wakes11_ok) trivial ?_
      simp (config := {contextual := true, maxSteps := 1000000}) only [go_sem, ints, intRows, iv_c, Nat.reduceAdd, Nat.reduceBEq, Nat.reduceEqDiff, Nat.reduceLeDiff, Nat.reduceLT, reduceIte, Nat.le_refl, true_or, or_true, and_self, Int.reduceLE, Int.reduceLT, Int.reduceNeg, Int.natCast_nonneg, Int.reduceToNat]
      rfl
    obtain ⟨L, l2, l4, l5, _⟩ := front_yes hE
    have l3 : leastV m = (L, 0) := by rw [← l2, frontV, if_neg (by simpa using hE)]
    first | refine caS_i (Ints_ok s s (by unfold maxLen; omega)) trivial ?_ | refine caD_i (Ints_ok s s (by unfold maxLen; omega)) trivial ?_ | refine gC_i (fun _ => Ints_ok s s (by unfold maxLen; omega)) trivial ?_ | refine gCD_i (fun _ => Ints_ok s s (by unfold maxLen; omega)) trivial ?_
    simp (config := {contextual := true, maxSteps := 1000000}) only [go_sem, ints, intRows, iv_c, Nat.reduceAdd, Nat.reduceBEq, Nat.reduceEqDiff, Nat.reduceLeDiff, Nat.reduceLT, reduceIte, Nat.le_refl, true_or, or_true, and_self, Int.reduceLE, Int.reduceLT, Int.reduceNeg, Int.natCast_nonneg, Int.reduceToNat, h0, h1, h2, h3, h11, h12, h13, h14, h15, h17, eq_self, l2, hE]
    first | refine caS_i (RLeast_ok m hr1) trivial ?_ | refine caD_i (RLeast_ok m hr1) trivial ?_ | refine gC_i (fun _ => RLeast_ok m hr1) trivial ?_ | refine gCD_i (fun _ => RLeast_ok m hr1) trivial ?_
    simp (config := {contextual := true, maxSteps := 1000000}) only [go_sem, ints, intRows, iv_c, Nat.reduceAdd, Nat.reduceBEq, Nat.reduceEqDiff, Nat.reduceLeDiff, Nat.reduceLT, reduceIte, Nat.le_refl, true_or, or_true, and_self, Int.reduceLE, Int.reduceLT, Int.reduceNeg, Int.natCast_nonneg, Int.reduceToNat, h0, h1, h2, h3, h11, h12, h13, h14, h15, h17, l3, l2]
    first | refine caS_i (Ints_ok L L (by have := vecE_range _ l4; unfold maxLen; omega)) trivial ?_ | refine caD_i (Ints_ok L L (by have := vecE_range _ l4; unfold maxLen; omega)) trivial ?_ | refine gC_i (fun _ => Ints_ok L L (by have := vecE_range _ l4; unfold maxLen; omega)) trivial ?_ | refine gCD_i (fun _ => Ints_ok L L (by have := vecE_range _ l4; unfold maxLen; omega)) trivial ?_
    simp (config := {contextual := true, maxSteps := 1000000}) only [go_sem, ints, intRows, iv_c, Nat.reduceAdd, Nat.reduceBEq, Nat.reduceEqDiff, Nat.reduceLeDiff, Nat.reduceLT, reduceIte, Nat.le_refl, true_or, or_true, and_self, Int.reduceLE, Int.reduceLT, Int.reduceNeg, Int.natCast_nonneg, Int.reduceToNat, h0, h1, h2, h3, h11, h12, h13, h14, h15, h17, eq_self]
    refine gC_i (fun _ => Vector_ok hv) trivial ?_
    simp (config := {contextual := true, maxSteps := 1000000}) only [go_sem, ints, intRows, iv_c, Nat.reduceAdd, Nat.reduceBEq, Nat.reduceEqDiff, Nat.reduceLeDiff, Nat.reduceLT, reduceIte, Nat.le_refl, true_or, or_true, and_self, Int.reduceLE, Int.reduceLT, Int.reduceNeg, Int.natCast_nonneg, Int.reduceToNat, h0, h1, h2, h3, h11, h12, h13, h14, h15, h17]
    refine gC_i (fun _ => Vector_ok s) trivial ?_
    simp (config := {contextual := true, maxSteps := 1000000}) only [go_sem, ints, intRows, iv_c, Nat.reduceAdd, Nat.reduceBEq, Nat.reduceEqDiff, Nat.reduceLeDiff, Nat.reduceLT, reduceIte, Nat.le_refl, true_or, or_true, and_self, Int.reduceLE, Int.reduceLT, Int.reduceNeg, Int.natCast_nonneg, Int.reduceToNat, h0, h1, h2, h3, h11, h12, h13, h14, h15, h17]
    by_cases hok : learnOk m hv p s = true
    rotate_left
    · have hok' : learnOk m hv p s = false := by simpa using hok
      have l6 : learnV m hv p s = ([], false, 1) := by rw [learnV, if_neg (by simpa using hE), if_pos hok']
      refine ⟨fun hc => ?_, fun hc => ?_⟩
      · simp (config := {contextual := true, maxSteps := 1000000}) only [go_sem, ints, intRows, iv_c, Nat.reduceAdd, Nat.reduceBEq, Nat.reduceEqDiff, Nat.reduceLeDiff, Nat.reduceLT, reduceIte, Nat.le_refl, true_or, or_true, and_self, Int.reduceLE, Int.reduceLT, Int.reduceNeg, Int.natCast_nonneg, Int.reduceToNat, h0, h1, h2, h3, h11, h12, h13, h14, h15, h17, l6]
        first | refine caS_i (wakes11_ok) trivial ?_ | refine caD_i (wakes11_ok) trivial ?_ | refine gC_i (fun _ => wakes11_ok) trivial ?_ | refine gCD_i (fun _ => wakes11_ok) trivial ?_
        simp (config := {contextual := true, maxSteps := 1000000}) only [go_sem, ints, intRows, iv_c, Nat.reduceAdd, Nat.reduceBEq, Nat.reduceEqDiff, Nat.reduceLeDiff, Nat.reduceLT, reduceIte, Nat.le_refl, true_or, or_true, and_self, Int.reduceLE, Int.reduceLT, Int.reduceNeg, Int.natCast_nonneg, Int.reduceToNat]
      · refine absurd ?_ hok
        simp at hc
        obtain ⟨⟨⟨⟨⟨d1, d2⟩, d3⟩, d4⟩, d5⟩, d6⟩ := hc
        simp [learnOk, vecB, d1, d2, d3, d4]; omega
    obtain ⟨⟨a1, a2⟩, ⟨b1, b2⟩, c1, c2⟩ := learn_y hok
    refine ⟨fun hc => ?_, fun hc => ?_⟩
    · simp [a1, a2, b1, b2] at hc; omega
    · obtain ⟨x, ok, e1, e2, e3, e4, e5, e6, e7, e8⟩ := learn_all (p := p.toNat) hE a1 a2 b1 b2 (by omega)
      have l6 : learnV m hv p s = (x, ok, 0) := by rw [← e1]; congr 1; omega
      first | refine caS_i (RLearn_ok m hv p s hE hok) trivial ?_ | refine caD_i (RLearn_ok m hv p s hE hok) trivial ?_ | refine gC_i (fun _ => RLearn_ok m hv p s hE hok) trivial ?_ | refine gCD_i (fun _ => RLearn_ok m hv p s hE hok) trivial ?_
      simp (config := {contextual := true, maxSteps := 1000000}) only [go_sem, ints, intRows, iv_c, Nat.reduceAdd, Nat.reduceBEq, Nat.reduceEqDiff, Nat.reduceLeDiff, Nat.reduceLT, reduceIte, Nat.le_refl, true_or, or_true, and_self, Int.reduceLE, Int.reduceLT, Int.reduceNeg, Int.natCast_nonneg, Int.reduceToNat, h0, h1, h2, h3, h11, h12, h13, h14, h15, h17, l6, beq_self_eq_true]
      first | refine caS_i (IntRows_ok x x (by unfold maxLen; omega) (fun v hv => by rw [((matE_at e5).2 v hv).1]; unfold maxLen; omega)) trivial ?_ | refine caD_i (IntRows_ok x x (by unfold maxLen; omega) (fun v hv => by rw [((matE_at e5).2 v hv).1]; unfold maxLen; omega)) trivial ?_ | refine gC_i (fun _ => IntRows_ok x x (by unfold maxLen; omega) (fun v hv => by rw [((matE_at e5).2 v hv).1]; unfold maxLen; omega)) trivial ?_ | refine gCD_i (fun _ => IntRows_ok x x (by unfold maxLen; omega) (fun v hv => by rw [((matE_at e5).2 v hv).1]; unfold maxLen; omega)) trivial ?_
      simp (config := {contextual := true, maxSteps := 1000000}) only [go_sem, ints, intRows, iv_c, Nat.reduceAdd, Nat.reduceBEq, Nat.reduceEqDiff, Nat.reduceLeDiff, Nat.reduceLT, reduceIte, Nat.le_refl, true_or, or_true, and_self, Int.reduceLE, Int.reduceLT, Int.reduceNeg, Int.natCast_nonneg, Int.reduceToNat, h0, h1, h2, h3, h11, h12, h13, h14, h15, h17, eq_self]
      first | refine caS_i (wakes11_ok) trivial ?_ | refine caD_i (wakes11_ok) trivial ?_ | refine gC_i (fun _ => wakes11_ok) trivial ?_ | refine gCD_i (fun _ => wakes11_ok) trivial ?_
      simp (config := {contextual := true, maxSteps := 1000000}) only [go_sem, ints, intRows, iv_c, Nat.reduceAdd, Nat.reduceBEq, Nat.reduceEqDiff, Nat.reduceLeDiff, Nat.reduceLT, reduceIte, Nat.le_refl, true_or, or_true, and_self, Int.reduceLE, Int.reduceLT, Int.reduceNeg, Int.natCast_nonneg, Int.reduceToNat]
theorem MatExact_law (m : List (List Int)) (hv : List Int) (p : Int) (s : List Int) (n : Int) (_ : gList (gList (gInt .i64)) m) (_ : gList (gInt .i64) hv) (_ : gInt .i64 p) (_ : gList (gInt .i64) s) (_ : gInt .i64 n) : FnB Try.prog 8 [intRows .b m, ints .b hv, vi p, ints .b s, vi n] (vb true) := MatExact_ok m hv p s n
end Go.Proofs.Ytamdidmfcjdcgaa.D
