/- The least of several, plainly. No condition. -/
import Derived.Test.YtamdidmfcjdcgaaSdotF
set_option linter.unusedVariables false
set_option linter.unusedSimpArgs false
set_option maxRecDepth 100000
namespace Go.Proofs.Ytamdidmfcjdcgaa.D
open Go Go.Proofs

theorem eachV_yes {p : Int → Int → Int} {a b : List Int} (ha : vecE a = 0) (hb : vecE b = 0) (hl : a.length = b.length) : eachV p a b = (List.zipWith p a b, 0) := by simp [eachV, ha, hb, hl]
theorem eachV_zero {p : Int → Int → Int} {a b : List Int} (h : (eachV p a b).2 = 0) : vecE a = 0 ∧ vecE b = 0 ∧ a.length = b.length ∧ (eachV p a b).1 = List.zipWith p a b := by
  unfold eachV at *
  by_cases h1 : vecE a = 0 <;> by_cases h2 : vecE b = 0 <;> by_cases h3 : a.length = b.length <;> simp [h1, h2, h3] at h ⊢
theorem zip_self (v : List Int) : List.zipWith min v v = v := List.ext_getElem (by simp) (by simp)
theorem gN_zip {p : Int → Int → Int} {a b : List Int} {i : Nat} (h1 : i < a.length) (h2 : i < b.length) : gN (List.zipWith p a b) i = p (gN a i) (gN b i) := by
  rw [gN_eq (by simp; omega), gN_eq h1, gN_eq h2]; simp
theorem leB_left {a b : List Int} (h : a.length = b.length) : leB (List.zipWith min a b) a = true := by
  simp only [leB, allB]; rw [decide_eq_true]
  refine ⟨by simp; omega, fun i hi => ?_⟩
  have : i < a.length := by simp at hi; omega
  rw [gN_zip this (by omega)]; simp; omega
theorem leB_right {a b : List Int} (h : a.length = b.length) : leB (List.zipWith min a b) b = true := by
  simp only [leB, allB]; rw [decide_eq_true]
  refine ⟨by simp; omega, fun i hi => ?_⟩
  have : i < a.length := by simp at hi; omega
  rw [gN_zip this (by omega)]; simp; omega
theorem leastF_app : ∀ (l : List (List Int)) (out v : List Int), leastF out (l ++ [v]) = if (leastF out l).2 ≠ 0 then ([], (leastF out l).2) else if (eachV min (leastF out l).1 v).2 ≠ 0 then ([], (eachV min (leastF out l).1 v).2) else ((eachV min (leastF out l).1 v).1, 0)
  | [], out, v => by by_cases h : (eachV min out v).2 = 0 <;> simp [leastF, h]
  | w :: l, out, v => by
    simp only [List.cons_append, leastF]
    by_cases h : (eachV min out w).2 = 0
    · simp [h]; simpa using leastF_app l (eachV min out w).1 v
    · simp [h]
theorem firstE_app {v : List Int} (hv : vecE v = 0) : ∀ l : List (List Int), firstE (l ++ [v]) = firstE l
  | [] => by simp [firstE, hv]
  | w :: l => by simp only [List.cons_append, firstE, firstE_app hv l]
theorem leastF_err : ∀ (l : List (List Int)) (out : List Int), (leastF out l).2 = 0 ∨ (leastF out l).1 = []
  | [], out => .inl rfl
  | w :: l, out => by
    simp only [leastF]; split
    · exact .inr rfl
    · exact leastF_err l _
theorem leastV_err (l : List (List Int)) : (leastV l).2 = 0 ∨ (leastV l).1 = [] := by
  unfold leastV; split
  · exact .inr rfl
  · split
    · exact .inr rfl
    · exact leastF_err _ _
theorem leastV_one {v : List Int} (hv : vecE v = 0) : leastV [v] = (v, 0) := by
  simp [leastV, firstE, hv, leastF, gN, eachV_yes hv hv rfl, zip_self]
theorem leastV_app {v : List Int} (hv : vecE v = 0) (l : List (List Int)) (h : (leastV l).2 = 0) (h2 : (leastV (l ++ [v])).2 = 0) : leB (leastV (l ++ [v])).1 (leastV l).1 = true ∧ leB (leastV (l ++ [v])).1 v = true := by
  have hl : l ≠ [] := by intro e; subst e; simp [leastV] at h
  have hf : firstE l = 0 := by
    by_cases h3 : firstE l = 0
    · exact h3
    · simp [leastV, hl, h3] at h
  have e1 : leastV l = leastF (gN l 0) l := by simp [leastV, hl, hf]
  have e2 : leastV (l ++ [v]) = leastF (gN l 0) (l ++ [v]) := by
    have : gN (l ++ [v]) 0 = gN l 0 := by obtain ⟨x, m, rfl⟩ := List.exists_cons_of_ne_nil hl; rfl
    simp [leastV, firstE_app hv, hf, this]
  rw [e1] at h ⊢
  rw [e2, leastF_app] at h2 ⊢
  simp [h] at h2 ⊢
  by_cases h3 : (eachV min (leastF (gN l 0) l).1 v).2 = 0
  · simp [h3]
    obtain ⟨k1, k2, k3, k4⟩ := eachV_zero h3
    rw [k4]
    exact ⟨leB_left k3, leB_right k3⟩
  · simp [h3] at h2
theorem leastV_two {v : List Int} (hv : vecE v = 0) : leastV [v, List.replicate v.length 0] = (List.replicate v.length 0, 0) := by
  obtain ⟨h1, h2, h3⟩ := vecE_range v hv
  have hz : vecE (List.replicate v.length 0) = 0 := by
    rw [vecE, if_pos (by simp; omega), if_pos]
    intro n hn; rw [List.eq_of_mem_replicate hn]; omega
  have e : List.zipWith min v (List.replicate v.length 0) = List.replicate v.length 0 := by
    refine List.ext_getElem (by simp) fun i h4 h5 => ?_
    simp
    have h6 : i < v.length := by simpa using h5
    have := h3 v[i] (List.getElem_mem _)
    omega
  simp [leastV, firstE, hv, hz, leastF, gN, eachV_yes hv hv rfl, zip_self, eachV_yes hv hz (by simp), e]

theorem DotLeast_ok (l : List (List Int)) (v : List Int) : FnB Try.prog 4 [intRows .b l, ints .b v] (vb true) := by
  refine fnB_intro cf4 (by simp) ?_
  simp (config := {contextual := true, maxSteps := 1000000}) only [go_sem, ints, intRows, iv_c, Nat.reduceAdd, Nat.reduceBEq, Nat.reduceEqDiff, Nat.reduceLeDiff, Nat.reduceLT, reduceIte, Nat.le_refl, true_or, or_true, and_self, Int.reduceLE, Int.reduceLT, Int.reduceNeg, Int.natCast_nonneg, Int.reduceToNat, c4]
  refine caS_i (Heavy_ok l) trivial ?_
  by_cases h1 : heavyB l = true
  · simp (config := {contextual := true, maxSteps := 1000000}) only [go_sem, ints, intRows, iv_c, Nat.reduceAdd, Nat.reduceBEq, Nat.reduceEqDiff, Nat.reduceLeDiff, Nat.reduceLT, reduceIte, Nat.le_refl, true_or, or_true, and_self, Int.reduceLE, Int.reduceLT, Int.reduceNeg, Int.natCast_nonneg, Int.reduceToNat, h1]
  simp at h1
  have hl : l.length ≤ maxLen := by simp [heavyB] at h1; unfold maxLen; omega
  simp (config := {contextual := true, maxSteps := 1000000}) only [go_sem, ints, intRows, iv_c, Nat.reduceAdd, Nat.reduceBEq, Nat.reduceEqDiff, Nat.reduceLeDiff, Nat.reduceLT, reduceIte, Nat.le_refl, true_or, or_true, and_self, Int.reduceLE, Int.reduceLT, Int.reduceNeg, Int.natCast_nonneg, Int.reduceToNat, h1]
  refine caS_i (Heavy_ok [v]) trivial ?_
  by_cases h2 : heavyB [v] = true
  · simp (config := {contextual := true, maxSteps := 1000000}) only [go_sem, ints, intRows, iv_c, Nat.reduceAdd, Nat.reduceBEq, Nat.reduceEqDiff, Nat.reduceLeDiff, Nat.reduceLT, reduceIte, Nat.le_refl, true_or, or_true, and_self, Int.reduceLE, Int.reduceLT, Int.reduceNeg, Int.natCast_nonneg, Int.reduceToNat, h2]
  simp at h2
  simp (config := {contextual := true, maxSteps := 1000000}) only [go_sem, ints, intRows, iv_c, Nat.reduceAdd, Nat.reduceBEq, Nat.reduceEqDiff, Nat.reduceLeDiff, Nat.reduceLT, reduceIte, Nat.le_refl, true_or, or_true, and_self, Int.reduceLE, Int.reduceLT, Int.reduceNeg, Int.natCast_nonneg, Int.reduceToNat, h2]
  refine caS_i (Vector_ok v) trivial ?_
  by_cases hv : vecE v = 0
  rotate_left
  · have : decide (vecE v = 0) = false := by simpa using hv
    simp (config := {contextual := true, maxSteps := 1000000}) only [go_sem, ints, intRows, iv_c, Nat.reduceAdd, Nat.reduceBEq, Nat.reduceEqDiff, Nat.reduceLeDiff, Nat.reduceLT, reduceIte, Nat.le_refl, true_or, or_true, and_self, Int.reduceLE, Int.reduceLT, Int.reduceNeg, Int.natCast_nonneg, Int.reduceToNat, this]
  simp (config := {contextual := true, maxSteps := 1000000}) only [go_sem, ints, intRows, iv_c, Nat.reduceAdd, Nat.reduceBEq, Nat.reduceEqDiff, Nat.reduceLeDiff, Nat.reduceLT, reduceIte, Nat.le_refl, true_or, or_true, and_self, Int.reduceLE, Int.reduceLT, Int.reduceNeg, Int.natCast_nonneg, Int.reduceToNat, hv]
  refine caS_i (Least_ok [v] (by simp [maxLen])) trivial ?_
  obtain ⟨k1, k2, k3⟩ := vecE_range v hv
  simp (config := {contextual := true, maxSteps := 1000000}) only [go_sem, ints, intRows, iv_c, Nat.reduceAdd, Nat.reduceBEq, Nat.reduceEqDiff, Nat.reduceLeDiff, Nat.reduceLT, reduceIte, Nat.le_refl, true_or, or_true, and_self, Int.reduceLE, Int.reduceLT, Int.reduceNeg, Int.natCast_nonneg, Int.reduceToNat, leastV_one hv]
  refine ⟨by simp [maxLen]; omega, caS_i (Least_ok [v, List.replicate v.length 0] (by simp [maxLen])) trivial ?_⟩
  simp (config := {contextual := true, maxSteps := 1000000}) only [go_sem, ints, intRows, iv_c, Nat.reduceAdd, Nat.reduceBEq, Nat.reduceEqDiff, Nat.reduceLeDiff, Nat.reduceLT, reduceIte, Nat.le_refl, true_or, or_true, and_self, Int.reduceLE, Int.reduceLT, Int.reduceNeg, Int.natCast_nonneg, Int.reduceToNat, leastV_two hv]
  refine caS_i (Ints_ok v v (by unfold maxLen; omega)) trivial ?_
  simp (config := {contextual := true, maxSteps := 1000000}) only [go_sem, ints, intRows, iv_c, Nat.reduceAdd, Nat.reduceBEq, Nat.reduceEqDiff, Nat.reduceLeDiff, Nat.reduceLT, reduceIte, Nat.le_refl, true_or, or_true, and_self, Int.reduceLE, Int.reduceLT, Int.reduceNeg, Int.natCast_nonneg, Int.reduceToNat, List.length_replicate]
  refine wpC_lp (fun env ob n => env 0 = intRows .b l ∧ env 1 = ints .b v ∧ env 7 = ints .b (List.replicate v.length 0) ∧ ∃ i : Nat, env 9 = vi i ∧ i ≤ v.length) (fun env ob n => (v.length - iv (env 9)).toNat) ?_ ?_
  · simp (config := {contextual := true, maxSteps := 1000000}) only [go_sem, ints, intRows, iv_c, Nat.reduceAdd, Nat.reduceBEq, Nat.reduceEqDiff, Nat.reduceLeDiff, Nat.reduceLT, reduceIte, Nat.le_refl, true_or, or_true, and_self, Int.reduceLE, Int.reduceLT, Int.reduceNeg, Int.natCast_nonneg, Int.reduceToNat]
    simp
    exact ⟨0, by simp⟩
  rintro env ob n ⟨h0, h1', h7, i, h9, hi⟩
  simp (config := {contextual := true, maxSteps := 1000000}) only [go_sem, ints, intRows, iv_c, Nat.reduceAdd, Nat.reduceBEq, Nat.reduceEqDiff, Nat.reduceLeDiff, Nat.reduceLT, reduceIte, Nat.le_refl, true_or, or_true, and_self, Int.reduceLE, Int.reduceLT, Int.reduceNeg, Int.natCast_nonneg, Int.reduceToNat, h0, h1', h7, h9, List.length_replicate]
  refine ⟨fun hlt => ?_, fun hge => ?_⟩
  · simp at hlt
    have hz : gN (List.replicate v.length (0 : Int)) i = 0 := by simp [gN, hlt]
    simp (config := {contextual := true, maxSteps := 1000000}) only [go_sem, ints, intRows, iv_c, Nat.reduceAdd, Nat.reduceBEq, Nat.reduceEqDiff, Nat.reduceLeDiff, Nat.reduceLT, reduceIte, Nat.le_refl, true_or, or_true, and_self, Int.reduceLE, Int.reduceLT, Int.reduceNeg, Int.natCast_nonneg, Int.reduceToNat, hz]
    refine ⟨by omega, ⟨i + 1, ?_, by omega⟩, ?_⟩
    · rw [w64 (by omega)]; simp
    · rw [w64 (by omega)]; omega
  refine caS_i (Least_ok l hl) trivial ?_
  simp (config := {contextual := true, maxSteps := 1000000}) only [go_sem, ints, intRows, iv_c, Nat.reduceAdd, Nat.reduceBEq, Nat.reduceEqDiff, Nat.reduceLeDiff, Nat.reduceLT, reduceIte, Nat.le_refl, true_or, or_true, and_self, Int.reduceLE, Int.reduceLT, Int.reduceNeg, Int.natCast_nonneg, Int.reduceToNat, h0, h1']
  refine nxS_app Own.nil (Nat.zero_le _) rfl (allIntRows l) (by simpa using hl) fun v1 ob1 ho1 _ => ?_
  rw [List.nil_append] at ho1
  simp (config := {contextual := true, maxSteps := 1000000}) only [go_sem, ints, intRows, iv_c, Nat.reduceAdd, Nat.reduceBEq, Nat.reduceEqDiff, Nat.reduceLeDiff, Nat.reduceLT, reduceIte, Nat.le_refl, true_or, or_true, and_self, Int.reduceLE, Int.reduceLT, Int.reduceNeg, Int.natCast_nonneg, Int.reduceToNat, h0, h1']
  have hl30 : l.length ≤ 30 := by simp [heavyB] at h1; omega
  refine nxS_app ho1 (Nat.le_succ_of_le (by omega)) rfl rfl (by simp [maxLen]; omega) fun v2 ob2 ho2 _ => ?_
  have e : List.map (fun v => [V.im Fl.b (List.map (fun n => [vi n]) v)]) l ++ [[V.im Fl.b (List.map (fun n => [vi n]) v)]] = List.map (fun v => [V.im Fl.b (List.map (fun n => [vi n]) v)]) (l ++ [v]) := by simp
  rw [e] at ho2
  rcases ho2 with ⟨ho2, _⟩ | ⟨_, id, cap, _, rfl, hob⟩
  · simp at ho2
  have hw : (leastV l).2 = 0 ∨ (leastV l).1 = [] := leastV_err l
  have hw2 : (leastV (l ++ [v])).2 = 0 ∨ (leastV (l ++ [v])).1 = [] := leastV_err _
  simp (config := {contextual := true, maxSteps := 1000000}) only [go_sem, ints, intRows, iv_c, Nat.reduceAdd, Nat.reduceBEq, Nat.reduceEqDiff, Nat.reduceLeDiff, Nat.reduceLT, reduceIte, Nat.le_refl, true_or, or_true, and_self, Int.reduceLE, Int.reduceLT, Int.reduceNeg, Int.natCast_nonneg, Int.reduceToNat, h0, h1', hob]
  refine caS_i (Least_ok (l ++ [v]) (by simp [maxLen]; omega)) trivial ?_
  by_cases h3 : (leastV l).2 = 0 <;> by_cases h4 : (leastV (l ++ [v])).2 = 0
  · obtain ⟨k4, k5⟩ := leastV_app hv l h3 h4
    simp (config := {contextual := true, maxSteps := 1000000}) only [go_sem, ints, intRows, iv_c, Nat.reduceAdd, Nat.reduceBEq, Nat.reduceEqDiff, Nat.reduceLeDiff, Nat.reduceLT, reduceIte, Nat.le_refl, true_or, or_true, and_self, Int.reduceLE, Int.reduceLT, Int.reduceNeg, Int.natCast_nonneg, Int.reduceToNat, h0, h1', h3, h4]
    have h5 : (leastV (l ++ [v])).1.length = v.length := by simp [leB, allB] at k5; exact k5.1
    refine caS_i (Le_ok _ _ (by rw [h5]; unfold maxLen; omega)) trivial ?_
    simp (config := {contextual := true, maxSteps := 1000000}) only [go_sem, ints, intRows, iv_c, Nat.reduceAdd, Nat.reduceBEq, Nat.reduceEqDiff, Nat.reduceLeDiff, Nat.reduceLT, reduceIte, Nat.le_refl, true_or, or_true, and_self, Int.reduceLE, Int.reduceLT, Int.reduceNeg, Int.natCast_nonneg, Int.reduceToNat, h0, h1', h3, h4, k4]
    refine caS_i (Le_ok _ _ (by rw [h5]; unfold maxLen; omega)) trivial ?_
    simp (config := {contextual := true, maxSteps := 1000000}) only [go_sem, ints, intRows, iv_c, Nat.reduceAdd, Nat.reduceBEq, Nat.reduceEqDiff, Nat.reduceLeDiff, Nat.reduceLT, reduceIte, Nat.le_refl, true_or, or_true, and_self, Int.reduceLE, Int.reduceLT, Int.reduceNeg, Int.natCast_nonneg, Int.reduceToNat, h0, h1', h3, h4, k5]
    refine caS_i wakes_ok trivial ?_
    simp (config := {contextual := true, maxSteps := 1000000}) only [go_sem, ints, intRows, iv_c, Nat.reduceAdd, Nat.reduceBEq, Nat.reduceEqDiff, Nat.reduceLeDiff, Nat.reduceLT, reduceIte, Nat.le_refl, true_or, or_true, and_self, Int.reduceLE, Int.reduceLT, Int.reduceNeg, Int.natCast_nonneg, Int.reduceToNat]
  · have h5 := hw2.resolve_left h4
    have h6 : decide ((leastV (l ++ [v])).2 = 0) = false := by simpa using h4
    simp (config := {contextual := true, maxSteps := 1000000}) only [go_sem, ints, intRows, iv_c, Nat.reduceAdd, Nat.reduceBEq, Nat.reduceEqDiff, Nat.reduceLeDiff, Nat.reduceLT, reduceIte, Nat.le_refl, true_or, or_true, and_self, Int.reduceLE, Int.reduceLT, Int.reduceNeg, Int.natCast_nonneg, Int.reduceToNat, h0, h1', h3, h5, h6, List.map_nil]
    refine caS_i wakes_ok trivial ?_
    simp (config := {contextual := true, maxSteps := 1000000}) only [go_sem, ints, intRows, iv_c, Nat.reduceAdd, Nat.reduceBEq, Nat.reduceEqDiff, Nat.reduceLeDiff, Nat.reduceLT, reduceIte, Nat.le_refl, true_or, or_true, and_self, Int.reduceLE, Int.reduceLT, Int.reduceNeg, Int.natCast_nonneg, Int.reduceToNat]
  · have h5 := hw.resolve_left h3
    have h6 : decide ((leastV l).2 = 0) = false := by simpa using h3
    simp (config := {contextual := true, maxSteps := 1000000}) only [go_sem, ints, intRows, iv_c, Nat.reduceAdd, Nat.reduceBEq, Nat.reduceEqDiff, Nat.reduceLeDiff, Nat.reduceLT, reduceIte, Nat.le_refl, true_or, or_true, and_self, Int.reduceLE, Int.reduceLT, Int.reduceNeg, Int.natCast_nonneg, Int.reduceToNat, h0, h1', h4, h5, h6, List.map_nil]
    refine caS_i wakes_ok trivial ?_
    simp (config := {contextual := true, maxSteps := 1000000}) only [go_sem, ints, intRows, iv_c, Nat.reduceAdd, Nat.reduceBEq, Nat.reduceEqDiff, Nat.reduceLeDiff, Nat.reduceLT, reduceIte, Nat.le_refl, true_or, or_true, and_self, Int.reduceLE, Int.reduceLT, Int.reduceNeg, Int.natCast_nonneg, Int.reduceToNat]
  · have h5 := hw2.resolve_left h4
    have h6 : decide ((leastV (l ++ [v])).2 = 0) = false := by simpa using h4
    have h7 := hw.resolve_left h3
    have h8 : decide ((leastV l).2 = 0) = false := by simpa using h3
    simp (config := {contextual := true, maxSteps := 1000000}) only [go_sem, ints, intRows, iv_c, Nat.reduceAdd, Nat.reduceBEq, Nat.reduceEqDiff, Nat.reduceLeDiff, Nat.reduceLT, reduceIte, Nat.le_refl, true_or, or_true, and_self, Int.reduceLE, Int.reduceLT, Int.reduceNeg, Int.natCast_nonneg, Int.reduceToNat, h0, h1', h5, h6, h7, h8, List.map_nil]
    refine caS_i wakes_ok trivial ?_
    simp (config := {contextual := true, maxSteps := 1000000}) only [go_sem, ints, intRows, iv_c, Nat.reduceAdd, Nat.reduceBEq, Nat.reduceEqDiff, Nat.reduceLeDiff, Nat.reduceLT, reduceIte, Nat.le_refl, true_or, or_true, and_self, Int.reduceLE, Int.reduceLT, Int.reduceNeg, Int.natCast_nonneg, Int.reduceToNat]
/-- The law, at arguments that read as data. -/
theorem DotLeast_law (l : List (List Int)) (v : List Int) (hl : gList (gList (gInt .i64)) l) (hv : gList (gInt .i64) v) : FnB Try.prog 4 [intRows .b l, ints .b v] (vb true) := DotLeast_ok l v
end Go.Proofs.Ytamdidmfcjdcgaa.D
