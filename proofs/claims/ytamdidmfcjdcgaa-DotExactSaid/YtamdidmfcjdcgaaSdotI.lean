/- DotLattice. No condition. -/
import Derived.Test.YtamdidmfcjdcgaaSdotH
set_option linter.unusedVariables false
set_option linter.unusedSimpArgs false
set_option maxRecDepth 100000
namespace Go.Proofs.Ytamdidmfcjdcgaa.D
open Go Go.Proofs

theorem dec10 : decide ((1 : Int) = 0) = false := (rfl)
set_option maxHeartbeats 2000000 in
theorem DotLattice_ok (a b c : List Int) (d : Dt) (hd : inI d.n) : FnB Try.prog 5 [ints .b a, ints .b b, ints .b c, .ag (dotV d)] (vb true) := by
  refine fnB_intro cf5 (by simp) ?_
  by_cases h1 : a.length = b.length
  rotate_left
  · have h1' : decide ((a.length : Int) = b.length) = false := by simp; omega
    simp (config := {contextual := true, maxSteps := 1000000}) only [go_sem, ints, intRows, iv_c, Nat.reduceAdd, Nat.reduceBEq, Nat.reduceEqDiff, Nat.reduceLeDiff, Nat.reduceLT, reduceIte, Nat.le_refl, true_or, or_true, and_self, Int.reduceLE, Int.reduceLT, Int.reduceNeg, Int.natCast_nonneg, Int.reduceToNat, c5, dotV, h1']
  have h1' : decide ((a.length : Int) = b.length) = true := by simp; omega
  by_cases h2 : b.length = c.length
  rotate_left
  · have h2' : decide ((b.length : Int) = c.length) = false := by simp; omega
    simp (config := {contextual := true, maxSteps := 1000000}) only [go_sem, ints, intRows, iv_c, Nat.reduceAdd, Nat.reduceBEq, Nat.reduceEqDiff, Nat.reduceLeDiff, Nat.reduceLT, reduceIte, Nat.le_refl, true_or, or_true, and_self, Int.reduceLE, Int.reduceLT, Int.reduceNeg, Int.natCast_nonneg, Int.reduceToNat, c5, dotV, h1', h2']
  have h2' : decide ((b.length : Int) = c.length) = true := by simp; omega
  simp (config := {contextual := true, maxSteps := 1000000}) only [go_sem, ints, intRows, iv_c, Nat.reduceAdd, Nat.reduceBEq, Nat.reduceEqDiff, Nat.reduceLeDiff, Nat.reduceLT, reduceIte, Nat.le_refl, true_or, or_true, and_self, Int.reduceLE, Int.reduceLT, Int.reduceNeg, Int.natCast_nonneg, Int.reduceToNat, c5, dotV, h1', h2']
  refine caS_i (Vector_ok a) trivial ?_
  by_cases ha : vecE a = 0
  rotate_left
  · have ha' : decide (vecE a = 0) = false := by simpa using ha
    simp (config := {contextual := true, maxSteps := 1000000}) only [go_sem, ints, intRows, iv_c, Nat.reduceAdd, Nat.reduceBEq, Nat.reduceEqDiff, Nat.reduceLeDiff, Nat.reduceLT, reduceIte, Nat.le_refl, true_or, or_true, and_self, Int.reduceLE, Int.reduceLT, Int.reduceNeg, Int.natCast_nonneg, Int.reduceToNat, dotV, ha']
  simp (config := {contextual := true, maxSteps := 1000000}) only [go_sem, ints, intRows, iv_c, Nat.reduceAdd, Nat.reduceBEq, Nat.reduceEqDiff, Nat.reduceLeDiff, Nat.reduceLT, reduceIte, Nat.le_refl, true_or, or_true, and_self, Int.reduceLE, Int.reduceLT, Int.reduceNeg, Int.natCast_nonneg, Int.reduceToNat, dotV, ha]
  refine caS_i (Vector_ok b) trivial ?_
  by_cases hb : vecE b = 0
  rotate_left
  · have hb' : decide (vecE b = 0) = false := by simpa using hb
    simp (config := {contextual := true, maxSteps := 1000000}) only [go_sem, ints, intRows, iv_c, Nat.reduceAdd, Nat.reduceBEq, Nat.reduceEqDiff, Nat.reduceLeDiff, Nat.reduceLT, reduceIte, Nat.le_refl, true_or, or_true, and_self, Int.reduceLE, Int.reduceLT, Int.reduceNeg, Int.natCast_nonneg, Int.reduceToNat, dotV, hb']
  simp (config := {contextual := true, maxSteps := 1000000}) only [go_sem, ints, intRows, iv_c, Nat.reduceAdd, Nat.reduceBEq, Nat.reduceEqDiff, Nat.reduceLeDiff, Nat.reduceLT, reduceIte, Nat.le_refl, true_or, or_true, and_self, Int.reduceLE, Int.reduceLT, Int.reduceNeg, Int.natCast_nonneg, Int.reduceToNat, dotV, hb]
  refine caS_i (Vector_ok c) trivial ?_
  by_cases hc : vecE c = 0
  rotate_left
  · have hc' : decide (vecE c = 0) = false := by simpa using hc
    simp (config := {contextual := true, maxSteps := 1000000}) only [go_sem, ints, intRows, iv_c, Nat.reduceAdd, Nat.reduceBEq, Nat.reduceEqDiff, Nat.reduceLeDiff, Nat.reduceLT, reduceIte, Nat.le_refl, true_or, or_true, and_self, Int.reduceLE, Int.reduceLT, Int.reduceNeg, Int.natCast_nonneg, Int.reduceToNat, dotV, hc']
  simp (config := {contextual := true, maxSteps := 1000000}) only [go_sem, ints, intRows, iv_c, Nat.reduceAdd, Nat.reduceBEq, Nat.reduceEqDiff, Nat.reduceLeDiff, Nat.reduceLT, reduceIte, Nat.le_refl, true_or, or_true, and_self, Int.reduceLE, Int.reduceLT, Int.reduceNeg, Int.natCast_nonneg, Int.reduceToNat, dotV, hc]
  obtain ⟨k1, k2, k3⟩ := vecE_range a ha
  have hm := merge_yes ha hb h1
  have hn := merge_yes hb ha h1.symm
  have hl := least3 ha hb hc h1 h2
  have hMN : List.zipWith max b a = List.zipWith max a b := zip_comm (fun _ _ => by omega) _ _
  rw [hMN] at hn
  have hMv : vecE (List.zipWith max a b) = 0 := vecE_zip max_or ha hb h1
  have hML : (List.zipWith max a b).length = a.length := by simp; omega
  have hMi : ∀ i, i < a.length → gN (List.zipWith max a b) i = max (gN a i) (gN b i) := fun i hi => gN_zip hi (by omega)
  have hLL : (List.zipWith min (List.zipWith min a b) c).length = a.length := by simp; omega
  have hLi : ∀ i, i < a.length → gN (List.zipWith min (List.zipWith min a b) c) i = min (min (gN a i) (gN b i)) (gN c i) := fun i hi => by
    rw [gN_zip (by simp; omega) (by omega), gN_zip hi (by omega)]
  generalize List.zipWith max a b = M at *
  generalize List.zipWith min (List.zipWith min a b) c = L at *
  refine caS_i (Merge_ok a b) trivial ?_
  simp (config := {contextual := true, maxSteps := 1000000}) only [go_sem, ints, intRows, iv_c, Nat.reduceAdd, Nat.reduceBEq, Nat.reduceEqDiff, Nat.reduceLeDiff, Nat.reduceLT, reduceIte, Nat.le_refl, true_or, or_true, and_self, Int.reduceLE, Int.reduceLT, Int.reduceNeg, Int.natCast_nonneg, Int.reduceToNat, dotV, hm]
  refine caS_i (Merge_ok b a) trivial ?_
  simp (config := {contextual := true, maxSteps := 1000000}) only [go_sem, ints, intRows, iv_c, Nat.reduceAdd, Nat.reduceBEq, Nat.reduceEqDiff, Nat.reduceLeDiff, Nat.reduceLT, reduceIte, Nat.le_refl, true_or, or_true, and_self, Int.reduceLE, Int.reduceLT, Int.reduceNeg, Int.natCast_nonneg, Int.reduceToNat, dotV, hn]
  refine caS_i (Least_ok [a, b, c] (by simp [maxLen])) trivial ?_
  simp (config := {contextual := true, maxSteps := 1000000}) only [go_sem, ints, intRows, iv_c, Nat.reduceAdd, Nat.reduceBEq, Nat.reduceEqDiff, Nat.reduceLeDiff, Nat.reduceLT, reduceIte, Nat.le_refl, true_or, or_true, and_self, Int.reduceLE, Int.reduceLT, Int.reduceNeg, Int.natCast_nonneg, Int.reduceToNat, dotV, hl, hML, hLL]
  refine caS_i (Ints_ok M M (by unfold maxLen; omega)) trivial ?_
  simp (config := {contextual := true, maxSteps := 1000000}) only [go_sem, ints, intRows, iv_c, Nat.reduceAdd, Nat.reduceBEq, Nat.reduceEqDiff, Nat.reduceLeDiff, Nat.reduceLT, reduceIte, Nat.le_refl, true_or, or_true, and_self, Int.reduceLE, Int.reduceLT, Int.reduceNeg, Int.natCast_nonneg, Int.reduceToNat, dotV]
  have e1 : leB a M = true := leB_iff.2 ⟨by omega, fun i hi => by rw [hMi i hi]; omega⟩
  have e2 : leB b M = true := leB_iff.2 ⟨by omega, fun i hi => by rw [hMi i (by omega)]; omega⟩
  have e3 : leB L a = true := leB_iff.2 ⟨by omega, fun i hi => by rw [hLi i (by omega)]; omega⟩
  have e4 : leB L b = true := leB_iff.2 ⟨by omega, fun i hi => by rw [hLi i (by omega)]; omega⟩
  have e5 : leB L c = true := leB_iff.2 ⟨by omega, fun i hi => by rw [hLi i (by omega)]; omega⟩
  refine caS_i (Le_ok a M (by unfold maxLen; omega)) trivial ?_
  simp (config := {contextual := true, maxSteps := 1000000}) only [go_sem, ints, intRows, iv_c, Nat.reduceAdd, Nat.reduceBEq, Nat.reduceEqDiff, Nat.reduceLeDiff, Nat.reduceLT, reduceIte, Nat.le_refl, true_or, or_true, and_self, Int.reduceLE, Int.reduceLT, Int.reduceNeg, Int.natCast_nonneg, Int.reduceToNat, dotV, e1]
  refine caS_i (Le_ok b M (by unfold maxLen; omega)) trivial ?_
  simp (config := {contextual := true, maxSteps := 1000000}) only [go_sem, ints, intRows, iv_c, Nat.reduceAdd, Nat.reduceBEq, Nat.reduceEqDiff, Nat.reduceLeDiff, Nat.reduceLT, reduceIte, Nat.le_refl, true_or, or_true, and_self, Int.reduceLE, Int.reduceLT, Int.reduceNeg, Int.natCast_nonneg, Int.reduceToNat, dotV, e2]
  refine caS_i (Le_ok L a (by unfold maxLen; omega)) trivial ?_
  simp (config := {contextual := true, maxSteps := 1000000}) only [go_sem, ints, intRows, iv_c, Nat.reduceAdd, Nat.reduceBEq, Nat.reduceEqDiff, Nat.reduceLeDiff, Nat.reduceLT, reduceIte, Nat.le_refl, true_or, or_true, and_self, Int.reduceLE, Int.reduceLT, Int.reduceNeg, Int.natCast_nonneg, Int.reduceToNat, dotV, e3]
  refine caS_i (Le_ok L b (by unfold maxLen; omega)) trivial ?_
  simp (config := {contextual := true, maxSteps := 1000000}) only [go_sem, ints, intRows, iv_c, Nat.reduceAdd, Nat.reduceBEq, Nat.reduceEqDiff, Nat.reduceLeDiff, Nat.reduceLT, reduceIte, Nat.le_refl, true_or, or_true, and_self, Int.reduceLE, Int.reduceLT, Int.reduceNeg, Int.natCast_nonneg, Int.reduceToNat, dotV, e4]
  refine caS_i (Le_ok L c (by unfold maxLen; omega)) trivial ?_
  simp (config := {contextual := true, maxSteps := 1000000}) only [go_sem, ints, intRows, iv_c, Nat.reduceAdd, Nat.reduceBEq, Nat.reduceEqDiff, Nat.reduceLeDiff, Nat.reduceLT, reduceIte, Nat.le_refl, true_or, or_true, and_self, Int.reduceLE, Int.reduceLT, Int.reduceNeg, Int.natCast_nonneg, Int.reduceToNat, dotV, e5]
  have e6 : leB M c = (leB a c && leB b c) := by
    rw [Bool.eq_iff_iff, Bool.and_eq_true, leB_iff, leB_iff, leB_iff]
    constructor
    · rintro ⟨h3, h4⟩
      exact ⟨⟨by omega, fun i hi => by have := h4 i (by omega); rw [hMi i hi] at this; omega⟩, ⟨by omega, fun i hi => by have := h4 i (by omega); rw [hMi i (by omega)] at this; omega⟩⟩
    · rintro ⟨⟨h3, h4⟩, ⟨h5, h6⟩⟩
      exact ⟨by omega, fun i hi => by rw [hMi i (by omega)]; have := h4 i (by omega); have := h6 i (by omega); omega⟩
  have e7 : decide (M = b) = leB a b := by
    rw [Bool.eq_iff_iff, decide_eq_true_iff, leB_iff, list_iff]
    constructor
    · rintro ⟨h3, h4⟩
      exact ⟨h1, fun i hi => by have := h4 i (by omega); rw [hMi i hi] at this; omega⟩
    · rintro ⟨h3, h4⟩
      exact ⟨by omega, fun i hi => by rw [hMi i (by omega)]; have := h4 i (by omega); omega⟩
  refine caS_i (Le_ok a c (by unfold maxLen; omega)) trivial ?_
  simp (config := {contextual := true, maxSteps := 1000000}) only [go_sem, ints, intRows, iv_c, Nat.reduceAdd, Nat.reduceBEq, Nat.reduceEqDiff, Nat.reduceLeDiff, Nat.reduceLT, reduceIte, Nat.le_refl, true_or, or_true, and_self, Int.reduceLE, Int.reduceLT, Int.reduceNeg, Int.natCast_nonneg, Int.reduceToNat, dotV]
  refine gC_i (fun _ => Le_ok b c (by unfold maxLen; omega)) trivial ?_
  simp (config := {contextual := true, maxSteps := 1000000}) only [go_sem, ints, intRows, iv_c, Nat.reduceAdd, Nat.reduceBEq, Nat.reduceEqDiff, Nat.reduceLeDiff, Nat.reduceLT, reduceIte, Nat.le_refl, true_or, or_true, and_self, Int.reduceLE, Int.reduceLT, Int.reduceNeg, Int.natCast_nonneg, Int.reduceToNat, dotV]
  refine caS_i (Le_ok M c (by unfold maxLen; omega)) trivial ?_
  simp (config := {contextual := true, maxSteps := 1000000}) only [go_sem, ints, intRows, iv_c, Nat.reduceAdd, Nat.reduceBEq, Nat.reduceEqDiff, Nat.reduceLeDiff, Nat.reduceLT, reduceIte, Nat.le_refl, true_or, or_true, and_self, Int.reduceLE, Int.reduceLT, Int.reduceNeg, Int.natCast_nonneg, Int.reduceToNat, dotV, e6]
  refine caS_i (Le_ok a b (by unfold maxLen; omega)) trivial ?_
  simp (config := {contextual := true, maxSteps := 1000000}) only [go_sem, ints, intRows, iv_c, Nat.reduceAdd, Nat.reduceBEq, Nat.reduceEqDiff, Nat.reduceLeDiff, Nat.reduceLT, reduceIte, Nat.le_refl, true_or, or_true, and_self, Int.reduceLE, Int.reduceLT, Int.reduceNeg, Int.natCast_nonneg, Int.reduceToNat, dotV]
  refine caS_i (Ints_ok M b (by unfold maxLen; omega)) trivial ?_
  simp (config := {contextual := true, maxSteps := 1000000}) only [go_sem, ints, intRows, iv_c, Nat.reduceAdd, Nat.reduceBEq, Nat.reduceEqDiff, Nat.reduceLeDiff, Nat.reduceLT, reduceIte, Nat.le_refl, true_or, or_true, and_self, Int.reduceLE, Int.reduceLT, Int.reduceNeg, Int.natCast_nonneg, Int.reduceToNat, dotV, e7]
  refine wpC_lp (fun env ob n => env 0 = ints .b a ∧ env 1 = ints .b b ∧ env 2 = ints .b c ∧ env 7 = .pt 0 0 0 ∧ ob 0 = some ⟨2, [dotV d], none⟩ ∧ env 9 = ints .b M ∧ env 13 = ints .b L ∧ ∃ i : Nat, env 15 = vi i ∧ i ≤ a.length) (fun env ob n => (a.length - iv (env 15)).toNat) ?_ ?_
  · simp (config := {contextual := true, maxSteps := 1000000}) only [go_sem, ints, intRows, iv_c, Nat.reduceAdd, Nat.reduceBEq, Nat.reduceEqDiff, Nat.reduceLeDiff, Nat.reduceLT, reduceIte, Nat.le_refl, true_or, or_true, and_self, Int.reduceLE, Int.reduceLT, Int.reduceNeg, Int.natCast_nonneg, Int.reduceToNat, dotV]
    simp
    exact ⟨0, by simp⟩
  rintro env ob n ⟨h0, h1'', h2'', h7, hob, h9, h13, i, h15, hi⟩
  simp (config := {contextual := true, maxSteps := 1000000}) only [go_sem, ints, intRows, iv_c, Nat.reduceAdd, Nat.reduceBEq, Nat.reduceEqDiff, Nat.reduceLeDiff, Nat.reduceLT, reduceIte, Nat.le_refl, true_or, or_true, and_self, Int.reduceLE, Int.reduceLT, Int.reduceNeg, Int.natCast_nonneg, Int.reduceToNat, h0, h1'', h2'', h7, hob, h9, h13, h15, dotV, hLL, hML]
  constructor
  · intro hlt
    have hlt : (i : Int) < a.length := of_decide_eq_true hlt
    have w1 : IntKind.i64.wrap ((i : Int) + 1) = i + 1 := w64 (by omega)
    rw [w1]
    have pl : gN L i = gN a i ∨ gN L i = gN b i ∨ gN L i = gN c i := by rw [hLi i (by omega)]; omega
    have pm : gN M i = gN a i ∨ gN M i = gN b i := by rw [hMi i (by omega)]; omega
    refine ⟨hlt, hlt, fun _ => hlt, fun _ => by omega, fun _ => hlt, fun _ => by omega, fun _ => hlt, fun _ => hlt, fun _ => hlt, fun _ => by omega, fun h => absurd h ?_, fun _ => ⟨⟨i + 1, by simp, by omega⟩, by omega⟩⟩
    rcases pl with e | e | e <;> rcases pm with f | f <;> simp [e, f]
  intro hlt
  have f3 : hasB M d = (hasB a d || hasB b d) := by
    simp only [hasB, ← Bool.decide_or]
    by_cases hp : 0 ≤ d.p ∧ d.p < a.length
    · have := hMi d.p.toNat (by omega); apply decide_eq_decide.2; omega
    · apply decide_eq_decide.2; omega
  have f4 : hasB L d = ((hasB a d && hasB b d) && hasB c d) := by
    simp only [hasB, ← Bool.decide_and]
    by_cases hp : 0 ≤ d.p ∧ d.p < a.length
    · have := hLi d.p.toNat (by omega); apply decide_eq_decide.2; omega
    · apply decide_eq_decide.2; omega
  have f1 : (hasB a d && !hasB M d) = false := by rw [f3]; cases hasB a d <;> simp
  refine caD_i (Has_ok a d) trivial ?_
  simp (config := {contextual := true, maxSteps := 1000000}) only [go_sem, ints, intRows, iv_c, Nat.reduceAdd, Nat.reduceBEq, Nat.reduceEqDiff, Nat.reduceLeDiff, Nat.reduceLT, reduceIte, Nat.le_refl, true_or, or_true, and_self, Int.reduceLE, Int.reduceLT, Int.reduceNeg, Int.natCast_nonneg, Int.reduceToNat, h0, h1'', h2'', h7, hob, h9, h13, h15, dotV]
  refine gCD_i (fun _ => Has_ok M d) trivial ?_
  simp (config := {contextual := true, maxSteps := 1000000}) only [go_sem, ints, intRows, iv_c, Nat.reduceAdd, Nat.reduceBEq, Nat.reduceEqDiff, Nat.reduceLeDiff, Nat.reduceLT, reduceIte, Nat.le_refl, true_or, or_true, and_self, Int.reduceLE, Int.reduceLT, Int.reduceNeg, Int.natCast_nonneg, Int.reduceToNat, h0, h1'', h2'', h7, hob, h9, h13, h15, dotV, f1]
  refine caD_i (Has_ok L d) trivial ?_
  simp (config := {contextual := true, maxSteps := 1000000}) only [go_sem, ints, intRows, iv_c, Nat.reduceAdd, Nat.reduceBEq, Nat.reduceEqDiff, Nat.reduceLeDiff, Nat.reduceLT, reduceIte, Nat.le_refl, true_or, or_true, and_self, Int.reduceLE, Int.reduceLT, Int.reduceNeg, Int.natCast_nonneg, Int.reduceToNat, h0, h1'', h2'', h7, hob, h9, h13, h15, dotV]
  refine caD_i (Has_ok a d) trivial ?_
  simp (config := {contextual := true, maxSteps := 1000000}) only [go_sem, ints, intRows, iv_c, Nat.reduceAdd, Nat.reduceBEq, Nat.reduceEqDiff, Nat.reduceLeDiff, Nat.reduceLT, reduceIte, Nat.le_refl, true_or, or_true, and_self, Int.reduceLE, Int.reduceLT, Int.reduceNeg, Int.natCast_nonneg, Int.reduceToNat, h0, h1'', h2'', h7, hob, h9, h13, h15, dotV]
  refine gCD_i (fun _ => Has_ok b d) trivial ?_
  simp (config := {contextual := true, maxSteps := 1000000}) only [go_sem, ints, intRows, iv_c, Nat.reduceAdd, Nat.reduceBEq, Nat.reduceEqDiff, Nat.reduceLeDiff, Nat.reduceLT, reduceIte, Nat.le_refl, true_or, or_true, and_self, Int.reduceLE, Int.reduceLT, Int.reduceNeg, Int.natCast_nonneg, Int.reduceToNat, h0, h1'', h2'', h7, hob, h9, h13, h15, dotV]
  refine gCD_i (fun _ => Has_ok c d) trivial ?_
  simp (config := {contextual := true, maxSteps := 1000000}) only [go_sem, ints, intRows, iv_c, Nat.reduceAdd, Nat.reduceBEq, Nat.reduceEqDiff, Nat.reduceLeDiff, Nat.reduceLT, reduceIte, Nat.le_refl, true_or, or_true, and_self, Int.reduceLE, Int.reduceLT, Int.reduceNeg, Int.natCast_nonneg, Int.reduceToNat, h0, h1'', h2'', h7, hob, h9, h13, h15, dotV, f4]
  refine caD_i (Has_ok M d) trivial ?_
  simp (config := {contextual := true, maxSteps := 1000000}) only [go_sem, ints, intRows, iv_c, Nat.reduceAdd, Nat.reduceBEq, Nat.reduceEqDiff, Nat.reduceLeDiff, Nat.reduceLT, reduceIte, Nat.le_refl, true_or, or_true, and_self, Int.reduceLE, Int.reduceLT, Int.reduceNeg, Int.natCast_nonneg, Int.reduceToNat, h0, h1'', h2'', h7, hob, h9, h13, h15, dotV]
  refine caD_i (Has_ok a d) trivial ?_
  simp (config := {contextual := true, maxSteps := 1000000}) only [go_sem, ints, intRows, iv_c, Nat.reduceAdd, Nat.reduceBEq, Nat.reduceEqDiff, Nat.reduceLeDiff, Nat.reduceLT, reduceIte, Nat.le_refl, true_or, or_true, and_self, Int.reduceLE, Int.reduceLT, Int.reduceNeg, Int.natCast_nonneg, Int.reduceToNat, h0, h1'', h2'', h7, hob, h9, h13, h15, dotV]
  refine gCD_i (fun _ => Has_ok b d) trivial ?_
  simp (config := {contextual := true, maxSteps := 1000000}) only [go_sem, ints, intRows, iv_c, Nat.reduceAdd, Nat.reduceBEq, Nat.reduceEqDiff, Nat.reduceLeDiff, Nat.reduceLT, reduceIte, Nat.le_refl, true_or, or_true, and_self, Int.reduceLE, Int.reduceLT, Int.reduceNeg, Int.natCast_nonneg, Int.reduceToNat, h0, h1'', h2'', h7, hob, h9, h13, h15, dotV, f3, bne_self_eq_false, Bool.not_true, Bool.not_false, decide_true]
  have hai : ∀ n ∈ a, inI n := fun n hn => by have := k3 n hn; unfold inI; omega
  by_cases hnx : nextB a d = true
  rotate_left
  · have hnx : nextB a d = false := by simpa using hnx
    have e : addV a d = ([], 1) := by rw [addV, if_neg (by simpa using ha), if_pos (Or.inl hnx)]
    refine caS_i (Add_ok a d hd hai) trivial ?_
    simp (config := {contextual := true, maxSteps := 1000000}) only [go_sem, ints, intRows, iv_c, Nat.reduceAdd, Nat.reduceBEq, Nat.reduceEqDiff, Nat.reduceLeDiff, Nat.reduceLT, reduceIte, Nat.le_refl, true_or, or_true, and_self, Int.reduceLE, Int.reduceLT, Int.reduceNeg, Int.natCast_nonneg, Int.reduceToNat, h0, h1'', h2'', h7, hob, h9, h13, h15, dotV, e]
    refine caS_i (Next_ok a d hd hai) trivial ?_
    simp (config := {contextual := true, maxSteps := 1000000}) only [go_sem, ints, intRows, iv_c, Nat.reduceAdd, Nat.reduceBEq, Nat.reduceEqDiff, Nat.reduceLeDiff, Nat.reduceLT, reduceIte, Nat.le_refl, true_or, or_true, and_self, Int.reduceLE, Int.reduceLT, Int.reduceNeg, Int.natCast_nonneg, Int.reduceToNat, h0, h1'', h2'', h7, hob, h9, h13, h15, dotV, hnx, List.length_nil, (rfl : ((0 : Nat) : Int) = 0)]
    refine caS_i wakes_ok trivial ?_
    simp (config := {contextual := true, maxSteps := 1000000}) only [go_sem, ints, intRows, iv_c, Nat.reduceAdd, Nat.reduceBEq, Nat.reduceEqDiff, Nat.reduceLeDiff, Nat.reduceLT, reduceIte, Nat.le_refl, true_or, or_true, and_self, Int.reduceLE, Int.reduceLT, Int.reduceNeg, Int.natCast_nonneg, Int.reduceToNat]
  by_cases hbg : 1073741824 < d.n
  · have e : addV a d = ([], 1) := by rw [addV, if_neg (by simpa using ha), if_pos (Or.inr hbg)]
    refine caS_i (Add_ok a d hd hai) trivial ?_
    simp (config := {contextual := true, maxSteps := 1000000}) only [go_sem, ints, intRows, iv_c, Nat.reduceAdd, Nat.reduceBEq, Nat.reduceEqDiff, Nat.reduceLeDiff, Nat.reduceLT, reduceIte, Nat.le_refl, true_or, or_true, and_self, Int.reduceLE, Int.reduceLT, Int.reduceNeg, Int.natCast_nonneg, Int.reduceToNat, h0, h1'', h2'', h7, hob, h9, h13, h15, dotV, e]
    refine caS_i (Next_ok a d hd hai) trivial ?_
    simp (config := {contextual := true, maxSteps := 1000000}) only [go_sem, ints, intRows, iv_c, Nat.reduceAdd, Nat.reduceBEq, Nat.reduceEqDiff, Nat.reduceLeDiff, Nat.reduceLT, reduceIte, Nat.le_refl, true_or, or_true, and_self, Int.reduceLE, Int.reduceLT, Int.reduceNeg, Int.natCast_nonneg, Int.reduceToNat, h0, h1'', h2'', h7, hob, h9, h13, h15, dotV, hnx, dec10]
    refine caS_i wakes_ok trivial ?_
    simp (config := {contextual := true, maxSteps := 1000000}) only [go_sem, ints, intRows, iv_c, Nat.reduceAdd, Nat.reduceBEq, Nat.reduceEqDiff, Nat.reduceLeDiff, Nat.reduceLT, reduceIte, Nat.le_refl, true_or, or_true, and_self, Int.reduceLE, Int.reduceLT, Int.reduceNeg, Int.natCast_nonneg, Int.reduceToNat]
  have e : addV a d = (a.set d.p.toNat d.n, 0) := by rw [addV, if_neg (by simpa using ha), if_neg (by simp [hnx]; omega)]
  have hp : 0 ≤ d.p ∧ d.p < a.length ∧ d.n = gN a d.p.toNat + 1 := by simpa [nextB] using hnx
  obtain ⟨hp1, hp2, hp3⟩ := hp
  have hlt : d.p.toNat < a.length := by omega
  have hk := (vecE_at ha hlt)
  have g1 : hasB (a.set d.p.toNat d.n) d = true := by
    simp only [hasB, List.length_set, decide_eq_true_iff]
    rw [gN_eq (by simpa using hlt)]; simp; omega
  have g2 : hasB a d = false := by simp only [hasB, decide_eq_false_iff_not]; omega
  have g3 : leB a (a.set d.p.toNat d.n) = true := by
    refine leB_iff.2 ⟨by simp, fun i hi => ?_⟩
    rw [gN_eq (l := a.set _ _) (by simpa using hi), List.getElem_set]
    split
    · rename_i hh; subst hh; omega
    · rw [gN_eq hi]; exact Int.le_refl _
  refine caS_i (Add_ok a d hd hai) trivial ?_
  simp (config := {contextual := true, maxSteps := 1000000}) only [go_sem, ints, intRows, iv_c, Nat.reduceAdd, Nat.reduceBEq, Nat.reduceEqDiff, Nat.reduceLeDiff, Nat.reduceLT, reduceIte, Nat.le_refl, true_or, or_true, and_self, Int.reduceLE, Int.reduceLT, Int.reduceNeg, Int.natCast_nonneg, Int.reduceToNat, h0, h1'', h2'', h7, hob, h9, h13, h15, dotV, e]
  refine caS_i (Next_ok a d hd hai) trivial ?_
  simp (config := {contextual := true, maxSteps := 1000000}) only [go_sem, ints, intRows, iv_c, Nat.reduceAdd, Nat.reduceBEq, Nat.reduceEqDiff, Nat.reduceLeDiff, Nat.reduceLT, reduceIte, Nat.le_refl, true_or, or_true, and_self, Int.reduceLE, Int.reduceLT, Int.reduceNeg, Int.natCast_nonneg, Int.reduceToNat, h0, h1'', h2'', h7, hob, h9, h13, h15, dotV, hnx]
  refine caS_i (Has_ok _ d) trivial ?_
  simp (config := {contextual := true, maxSteps := 1000000}) only [go_sem, ints, intRows, iv_c, Nat.reduceAdd, Nat.reduceBEq, Nat.reduceEqDiff, Nat.reduceLeDiff, Nat.reduceLT, reduceIte, Nat.le_refl, true_or, or_true, and_self, Int.reduceLE, Int.reduceLT, Int.reduceNeg, Int.natCast_nonneg, Int.reduceToNat, h0, h1'', h2'', h7, hob, h9, h13, h15, dotV, g1]
  refine caS_i (Has_ok a d) trivial ?_
  simp (config := {contextual := true, maxSteps := 1000000}) only [go_sem, ints, intRows, iv_c, Nat.reduceAdd, Nat.reduceBEq, Nat.reduceEqDiff, Nat.reduceLeDiff, Nat.reduceLT, reduceIte, Nat.le_refl, true_or, or_true, and_self, Int.reduceLE, Int.reduceLT, Int.reduceNeg, Int.natCast_nonneg, Int.reduceToNat, h0, h1'', h2'', h7, hob, h9, h13, h15, dotV, g2]
  refine caS_i (Le_ok a _ (by unfold maxLen; omega)) trivial ?_
  simp (config := {contextual := true, maxSteps := 1000000}) only [go_sem, ints, intRows, iv_c, Nat.reduceAdd, Nat.reduceBEq, Nat.reduceEqDiff, Nat.reduceLeDiff, Nat.reduceLT, reduceIte, Nat.le_refl, true_or, or_true, and_self, Int.reduceLE, Int.reduceLT, Int.reduceNeg, Int.natCast_nonneg, Int.reduceToNat, h0, h1'', h2'', h7, hob, h9, h13, h15, dotV, g3]
  refine caS_i wakes_ok trivial ?_
  simp (config := {contextual := true, maxSteps := 1000000}) only [go_sem, ints, intRows, iv_c, Nat.reduceAdd, Nat.reduceBEq, Nat.reduceEqDiff, Nat.reduceLeDiff, Nat.reduceLT, reduceIte, Nat.le_refl, true_or, or_true, and_self, Int.reduceLE, Int.reduceLT, Int.reduceNeg, Int.natCast_nonneg, Int.reduceToNat]

def gDt (d : Dt) : Prop := gInt .i64 d.p ∧ gInt .i64 d.n
theorem DotLattice_law (a b c : List Int) (d : Dt) (ha : gList (gInt .i64) a) (hb : gList (gInt .i64) b) (hc : gList (gInt .i64) c) (hd : gDt d) : FnB Try.prog 5 [ints .b a, ints .b b, ints .b c, .ag (dotV d)] (vb true) :=
  DotLattice_ok a b c d (by have := hd.2; simp [gInt, Lit.wf, IntKind.min, IntKind.max, IntKind.signed, IntKind.bits] at this; unfold inI; omega)
end Go.Proofs.Ytamdidmfcjdcgaa.D
