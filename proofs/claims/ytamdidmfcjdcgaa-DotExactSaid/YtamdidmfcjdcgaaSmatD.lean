/- What the reference's functions answer: twins, matrices, vectors. No condition. -/
import Derived.Test.YtamdidmfcjdcgaaSmatC
set_option linter.unusedVariables false
set_option linter.unusedSimpArgs false
set_option maxRecDepth 100000
namespace Go.Proofs.Ytamdidmfcjdcgaa.D
open Go Go.Proofs

theorem TwinInts_ok {fl : Fl} (l : List Int) (hl : l.length ≤ maxLen) : FnB Try.prog 24 [ints fl l] (ints .o l) := by
  refine fnB_intro cf24 (by simp) ?_
  simp (config := {contextual := true, maxSteps := 1000000}) only [go_sem, ints, intRows, iv_c, Nat.reduceAdd, Nat.reduceBEq, Nat.reduceEqDiff, Nat.reduceLeDiff, Nat.reduceLT, reduceIte, Nat.le_refl, true_or, or_true, and_self, Int.reduceLE, Int.reduceLT, Int.reduceNeg, Int.natCast_nonneg, Int.reduceToNat, c24]
  refine nxS_app Own.nil (Nat.zero_le _) rfl (allInts l) (by simpa using hl) fun v' ob' ho _ => ?_
  simp (config := {contextual := true, maxSteps := 1000000}) only [go_sem, ints, intRows, iv_c, Nat.reduceAdd, Nat.reduceBEq, Nat.reduceEqDiff, Nat.reduceLeDiff, Nat.reduceLT, reduceIte, Nat.le_refl, true_or, or_true, and_self, Int.reduceLE, Int.reduceLT, Int.reduceNeg, Int.natCast_nonneg, Int.reduceToNat]
  rw [List.nil_append] at ho
  rw [out_own ho (fun ob' => gInts ob' l) [] (fun _ => rfl)]; rfl

theorem take_gN {α : Type} [Inhabited α] {l : List α} {i : Nat} (h : i < l.length) : l.take (i + 1) = l.take i ++ [gN l i] := by
  rw [List.take_add_one, gN_at h]; simp
theorem TwinIntRows_ok {fl : Fl} (l : List (List Int)) (hl : l.length ≤ maxLen) (hr : ∀ v ∈ l, v.length ≤ maxLen) : FnB Try.prog 25 [intRows fl l] (intRows .o l) := by
  unfold maxLen at hl
  refine fnB_intro cf25 (by simp) ?_
  simp (config := {contextual := true, maxSteps := 1000000}) only [go_sem, ints, intRows, iv_c, Nat.reduceAdd, Nat.reduceBEq, Nat.reduceEqDiff, Nat.reduceLeDiff, Nat.reduceLT, reduceIte, Nat.le_refl, true_or, or_true, and_self, Int.reduceLE, Int.reduceLT, Int.reduceNeg, Int.natCast_nonneg, Int.reduceToNat, c25]
  refine wpC_lp (fun env ob n' => env 0 = intRows fl l ∧ ∃ i : Nat, env 4 = vi i ∧ i ≤ l.length ∧ Own n' ob (env 3) 1 ((l.take i).map fun v => [ints .b v])) (fun env ob _ => (l.length - iv (env 4)).toNat) ?_ ?_
  · simp (config := {contextual := true, maxSteps := 1000000}) only [go_sem, ints, intRows, iv_c, Nat.reduceAdd, Nat.reduceBEq, Nat.reduceEqDiff, Nat.reduceLeDiff, Nat.reduceLT, reduceIte, Nat.le_refl, true_or, or_true, and_self, Int.reduceLE, Int.reduceLT, Int.reduceNeg, Int.natCast_nonneg, Int.reduceToNat]
    exact ⟨0, rfl, by omega, Own.nil⟩
  rintro env ob n' ⟨h0, i, h4, hi, ho⟩
  simp (config := {contextual := true, maxSteps := 1000000}) only [go_sem, ints, intRows, iv_c, Nat.reduceAdd, Nat.reduceBEq, Nat.reduceEqDiff, Nat.reduceLeDiff, Nat.reduceLT, reduceIte, Nat.le_refl, true_or, or_true, and_self, Int.reduceLE, Int.reduceLT, Int.reduceNeg, Int.natCast_nonneg, Int.reduceToNat, h0, h4]
  refine ⟨fun hlt => ?_, fun hge => ?_⟩
  · simp at hlt
    refine ⟨by omega, ?_⟩
    first | refine caS_i (TwinInts_ok (gN l i) (hr _ (gN_mem hlt))) trivial ?_ | refine caD_i (TwinInts_ok (gN l i) (hr _ (gN_mem hlt))) trivial ?_ | refine gC_i (fun _ => TwinInts_ok (gN l i) (hr _ (gN_mem hlt))) trivial ?_ | refine gCD_i (fun _ => TwinInts_ok (gN l i) (hr _ (gN_mem hlt))) trivial ?_
    simp (config := {contextual := true, maxSteps := 1000000}) only [go_sem, ints, intRows, iv_c, Nat.reduceAdd, Nat.reduceBEq, Nat.reduceEqDiff, Nat.reduceLeDiff, Nat.reduceLT, reduceIte, Nat.le_refl, true_or, or_true, and_self, Int.reduceLE, Int.reduceLT, Int.reduceNeg, Int.natCast_nonneg, Int.reduceToNat, h0, h4]
    refine nxS_app ho (by omega) rfl rfl (by simp [maxLen]; omega) fun v' ob' ho' _ => ?_
    simp (config := {contextual := true, maxSteps := 1000000}) only [go_sem, ints, intRows, iv_c, Nat.reduceAdd, Nat.reduceBEq, Nat.reduceEqDiff, Nat.reduceLeDiff, Nat.reduceLT, reduceIte, Nat.le_refl, true_or, or_true, and_self, Int.reduceLE, Int.reduceLT, Int.reduceNeg, Int.natCast_nonneg, Int.reduceToNat, h0, h4]
    refine ⟨⟨i + 1, ?_, by omega, ?_⟩, ?_⟩
    · rw [w64 (by omega)]; simp
    · rw [take_gN hlt, List.map_append]; exact ho'.mono (by omega)
    · rw [w64 (by omega)]; omega
  · simp at hge
    rw [List.take_of_length_le (by omega)] at ho
    rw [out_own ho (fun ob' => gIntRows ob' _) _ (fun _ => rfl)]; rfl

theorem refIn9_ok (n lo hi : Int) : FnB Try.prog 53 [vi n, vi lo, vi hi] (vb (decide (lo ≤ n ∧ n ≤ hi))) := by
  refine fnB_intro cf53 (by simp) ?_
  simp (config := {contextual := true, maxSteps := 1000000}) only [go_sem, ints, intRows, iv_c, Nat.reduceAdd, Nat.reduceBEq, Nat.reduceEqDiff, Nat.reduceLeDiff, Nat.reduceLT, reduceIte, Nat.le_refl, true_or, or_true, and_self, Int.reduceLE, Int.reduceLT, Int.reduceNeg, Int.natCast_nonneg, Int.reduceToNat, c53]
  simp

theorem Matrix_ok {fl : Fl} (m : List (List Int)) : FnB Try.prog 35 [intRows fl m] (vi (matE m)) := by
  refine fnB_intro cf35 (by simp) ?_
  simp (config := {contextual := true, maxSteps := 1000000}) only [go_sem, ints, intRows, iv_c, Nat.reduceAdd, Nat.reduceBEq, Nat.reduceEqDiff, Nat.reduceLeDiff, Nat.reduceLT, reduceIte, Nat.le_refl, true_or, or_true, and_self, Int.reduceLE, Int.reduceLT, Int.reduceNeg, Int.natCast_nonneg, Int.reduceToNat, c35]
  first | refine caS_i (refIn9_ok _ _ _) trivial ?_ | refine caD_i (refIn9_ok _ _ _) trivial ?_ | refine gC_i (fun _ => refIn9_ok _ _ _) trivial ?_ | refine gCD_i (fun _ => refIn9_ok _ _ _) trivial ?_
  simp (config := {contextual := true, maxSteps := 1000000}) only [go_sem, ints, intRows, iv_c, Nat.reduceAdd, Nat.reduceBEq, Nat.reduceEqDiff, Nat.reduceLeDiff, Nat.reduceLT, reduceIte, Nat.le_refl, true_or, or_true, and_self, Int.reduceLE, Int.reduceLT, Int.reduceNeg, Int.natCast_nonneg, Int.reduceToNat]
  refine ⟨fun h => ?_, fun h => ?_⟩ <;> simp at h
  · rw [matE, if_neg]; omega
  refine wpC_lp (fun env ob n' => env 0 = intRows fl m ∧ ∃ i : Nat, env 3 = vi i ∧ i ≤ m.length ∧ ∀ v ∈ m.take i, v.length = m.length) (fun env ob _ => (m.length - iv (env 3)).toNat) ?_ ?_
  · simp (config := {contextual := true, maxSteps := 1000000}) only [go_sem, ints, intRows, iv_c, Nat.reduceAdd, Nat.reduceBEq, Nat.reduceEqDiff, Nat.reduceLeDiff, Nat.reduceLT, reduceIte, Nat.le_refl, true_or, or_true, and_self, Int.reduceLE, Int.reduceLT, Int.reduceNeg, Int.natCast_nonneg, Int.reduceToNat]
    exact ⟨0, rfl, by omega, by simp⟩
  rintro env ob n' ⟨h0, i, h3, hi, he⟩
  simp (config := {contextual := true, maxSteps := 1000000}) only [go_sem, ints, intRows, iv_c, Nat.reduceAdd, Nat.reduceBEq, Nat.reduceEqDiff, Nat.reduceLeDiff, Nat.reduceLT, reduceIte, Nat.le_refl, true_or, or_true, and_self, Int.reduceLE, Int.reduceLT, Int.reduceNeg, Int.natCast_nonneg, Int.reduceToNat, h0, h3]
  refine ⟨fun hlt => ?_, fun hge => ?_⟩
  · simp at hlt
    refine ⟨by omega, fun hb => ?_, fun hg => ⟨⟨i + 1, ?_, by omega, (take_succ_iff hlt).2 ⟨he, by simp at hg; omega⟩⟩, ?_⟩⟩
    · simp at hb
      rw [matE, if_neg]; rintro ⟨_, _, h3⟩; exact hb (by rw [h3 _ (gN_mem hlt)])
    · rw [w64 (by omega)]; simp
    · rw [w64 (by omega)]; omega
  simp at hge
  rw [List.take_of_length_le (by omega)] at he
  refine wpC_lp (fun env ob n' => env 0 = intRows fl m ∧ ∃ i : Nat, env 4 = vi i ∧ i ≤ m.length ∧ ∀ v ∈ m.take i, vecE v = 0) (fun env ob _ => (m.length - iv (env 4)).toNat) ?_ ?_
  · simp (config := {contextual := true, maxSteps := 1000000}) only [go_sem, ints, intRows, iv_c, Nat.reduceAdd, Nat.reduceBEq, Nat.reduceEqDiff, Nat.reduceLeDiff, Nat.reduceLT, reduceIte, Nat.le_refl, true_or, or_true, and_self, Int.reduceLE, Int.reduceLT, Int.reduceNeg, Int.natCast_nonneg, Int.reduceToNat, h0]
    exact ⟨0, rfl, by omega, by simp⟩
  clear h0 h3 hi hge
  rintro env ob n' ⟨h0, i, h3, hi, he2⟩
  simp (config := {contextual := true, maxSteps := 1000000}) only [go_sem, ints, intRows, iv_c, Nat.reduceAdd, Nat.reduceBEq, Nat.reduceEqDiff, Nat.reduceLeDiff, Nat.reduceLT, reduceIte, Nat.le_refl, true_or, or_true, and_self, Int.reduceLE, Int.reduceLT, Int.reduceNeg, Int.natCast_nonneg, Int.reduceToNat, h0, h3]
  refine ⟨fun hlt => ?_, fun hge => ?_⟩
  · simp at hlt
    refine ⟨by omega, ?_⟩
    first | refine caS_i (Vector_ok (gN m i)) trivial ?_ | refine caD_i (Vector_ok (gN m i)) trivial ?_ | refine gC_i (fun _ => Vector_ok (gN m i)) trivial ?_ | refine gCD_i (fun _ => Vector_ok (gN m i)) trivial ?_
    simp (config := {contextual := true, maxSteps := 1000000}) only [go_sem, ints, intRows, iv_c, Nat.reduceAdd, Nat.reduceBEq, Nat.reduceEqDiff, Nat.reduceLeDiff, Nat.reduceLT, reduceIte, Nat.le_refl, true_or, or_true, and_self, Int.reduceLE, Int.reduceLT, Int.reduceNeg, Int.natCast_nonneg, Int.reduceToNat, h0, h3]
    refine ⟨fun hb => ?_, fun hg => ⟨⟨i + 1, ?_, by omega, (take_succ_iff hlt).2 ⟨he2, by simpa using hg⟩⟩, ?_⟩⟩
    · simp at hb
      rw [matE, if_pos ⟨by omega, by omega, he⟩, if_neg]; exact fun h3 => hb (h3 _ (gN_mem hlt))
    · rw [w64 (by omega)]; simp
    · rw [w64 (by omega)]; omega
  simp at hge
  rw [List.take_of_length_le (by omega)] at he2
  rw [matE, if_pos ⟨by omega, by omega, he⟩, if_pos he2]

/-- Learning, of the reference: of a right matrix, right vectors, a peer. -/
theorem RLearn_ok {fl fm fn : Fl} (m : List (List Int)) (have_ : List Int) (p : Int) (safe : List Int) (hE : matE m = 0) (ok : learnOk m have_ p safe = true) :
    FnB Try.prog 41 [intRows fl m, ints fm have_, vi p, ints fn safe] (.tp [intRows .o (learnV m have_ p safe).1, vb (learnV m have_ p safe).2.1]) := by
  have hv := matE_at hE
  obtain ⟨⟨a1, a2⟩, ⟨b1, b2⟩, c1, c2⟩ := learn_y ok
  have hlen : (m.length = 0) = False := by simp; intro e; rw [e] at hv; simp at hv
  have hp : p.toNat < m.length := by omega
  refine fnB_intro cf41 (by simp) ?_
  simp (config := {contextual := true, maxSteps := 1000000}) only [go_sem, ints, intRows, iv_c, Nat.reduceAdd, Nat.reduceBEq, Nat.reduceEqDiff, Nat.reduceLeDiff, Nat.reduceLT, reduceIte, Nat.le_refl, true_or, or_true, and_self, Int.reduceLE, Int.reduceLT, Int.reduceNeg, Int.natCast_nonneg, Int.reduceToNat, c41]
  first | refine caS_i (TwinIntRows_ok m (by unfold maxLen; omega) (fun v hh => by rw [(hv.2 v hh).1]; unfold maxLen; omega)) (fun ch hch => by obtain ⟨_, _, rfl⟩ := List.mem_map.1 hch; rfl) ?_ | refine caD_i (TwinIntRows_ok m (by unfold maxLen; omega) (fun v hh => by rw [(hv.2 v hh).1]; unfold maxLen; omega)) (fun ch hch => by obtain ⟨_, _, rfl⟩ := List.mem_map.1 hch; rfl) ?_ | refine gC_i (fun _ => TwinIntRows_ok m (by unfold maxLen; omega) (fun v hh => by rw [(hv.2 v hh).1]; unfold maxLen; omega)) (fun ch hch => by obtain ⟨_, _, rfl⟩ := List.mem_map.1 hch; rfl) ?_ | refine gCD_i (fun _ => TwinIntRows_ok m (by unfold maxLen; omega) (fun v hh => by rw [(hv.2 v hh).1]; unfold maxLen; omega)) (fun ch hch => by obtain ⟨_, _, rfl⟩ := List.mem_map.1 hch; rfl) ?_
  simp (config := {contextual := true, maxSteps := 1000000}) only [go_sem, ints, intRows, iv_c, Nat.reduceAdd, Nat.reduceBEq, Nat.reduceEqDiff, Nat.reduceLeDiff, Nat.reduceLT, reduceIte, Nat.le_refl, true_or, or_true, and_self, Int.reduceLE, Int.reduceLT, Int.reduceNeg, Int.natCast_nonneg, Int.reduceToNat, hlen]
  by_cases hlt : gN have_ p.toNat < gN safe p.toNat
  · have hlt' : decide (gN have_ p.toNat < gN safe p.toNat) = true := by simpa using hlt
    have e : learnV m have_ p safe = (m, false, 0) := by rw [learnV, if_neg (by simpa using hE), if_neg (by simp [ok]), if_pos hlt]
    rw [e]
    simp (config := {contextual := true, maxSteps := 1000000}) only [go_sem, ints, intRows, iv_c, Nat.reduceAdd, Nat.reduceBEq, Nat.reduceEqDiff, Nat.reduceLeDiff, Nat.reduceLT, reduceIte, Nat.le_refl, true_or, or_true, and_self, Int.reduceLE, Int.reduceLT, Int.reduceNeg, Int.natCast_nonneg, Int.reduceToNat, hlt']
    refine ⟨by omega, by omega, ?_⟩
    rw [out_at _ (fun _ _ => by simp [gV]) (updO_s _ _ _) rfl (by omega) _ (fun _ => rfl)]; rfl
  have hlt' : decide (gN have_ p.toNat < gN safe p.toNat) = false := by simpa using hlt
  have e : learnV m have_ p safe = (m.set p.toNat (List.zipWith max (gN m p.toNat) safe), true, 0) := by rw [learnV, if_neg (by simpa using hE), if_neg (by simp [ok]), if_neg hlt]
  rw [e]
  simp (config := {contextual := true, maxSteps := 1000000}) only [go_sem, ints, intRows, iv_c, Nat.reduceAdd, Nat.reduceBEq, Nat.reduceEqDiff, Nat.reduceLeDiff, Nat.reduceLT, reduceIte, Nat.le_refl, true_or, or_true, and_self, Int.reduceLE, Int.reduceLT, Int.reduceNeg, Int.natCast_nonneg, Int.reduceToNat, hlt']
  refine ⟨by omega, by omega, by omega, ?_⟩
  have hr := hv.2 (gN m p.toNat) (gN_mem hp)
  first | refine caS_i (RMerge_ok (gN m p.toNat) safe (by unfold maxLen; omega) (by omega)) trivial ?_ | refine caD_i (RMerge_ok (gN m p.toNat) safe (by unfold maxLen; omega) (by omega)) trivial ?_ | refine gC_i (fun _ => RMerge_ok (gN m p.toNat) safe (by unfold maxLen; omega) (by omega)) trivial ?_ | refine gCD_i (fun _ => RMerge_ok (gN m p.toNat) safe (by unfold maxLen; omega) (by omega)) trivial ?_
  simp (config := {contextual := true, maxSteps := 1000000}) only [go_sem, ints, intRows, iv_c, Nat.reduceAdd, Nat.reduceBEq, Nat.reduceEqDiff, Nat.reduceLeDiff, Nat.reduceLT, reduceIte, Nat.le_refl, true_or, or_true, and_self, Int.reduceLE, Int.reduceLT, Int.reduceNeg, Int.natCast_nonneg, Int.reduceToNat]
  refine ⟨by omega, hp, ?_⟩
  rw [out_at _ (fun _ _ => by simp [gV]) (updO_s _ _ _) (by simp) (by simp; intro e; rw [e] at hp; simp at hp) _ (fun _ => rfl)]; rfl

/-- The least, of the reference. -/
theorem leastF_bad {n : Nat} : ∀ (l : List (List Int)) (out : List Int), vecE out = 0 → out.length = n → (∀ v ∈ l, vecE v = 0) → (∃ v ∈ l, v.length ≠ n) → leastF out l = ([], 2)
  | [], out, _, _, _, h => by obtain ⟨v, hv, _⟩ := h; simp at hv
  | v :: l, out, h1, h2, h3, h4 => by
    have hv := h3 v (by simp)
    by_cases e : v.length = n
    · have e : eachV min out v = (List.zipWith min out v, 0) := eachV_yes h1 hv (by omega)
      rw [leastF, e]
      simp only [ne_eq, not_true_eq_false, if_false]
      refine leastF_bad (n := n) l _ (vecE_zip min_or h1 hv (by omega)) (by simp; omega) (fun w hw => h3 w (by simp [hw])) ?_
      obtain ⟨w, hw, hn⟩ := h4
      rcases List.mem_cons.1 hw with rfl | hw
      · exact absurd ‹_› hn
      · exact ⟨w, hw, hn⟩
    · have e : eachV min out v = ([], 2) := by rw [eachV, if_neg (by simpa using h1), if_neg (by simpa using hv), if_pos (by omega)]
      rw [leastF, e]; simp

set_option maxHeartbeats 1000000 in
theorem RLeast_ok {fl : Fl} (l : List (List Int)) (hl : l.length ≤ maxLen) : FnB Try.prog 33 [intRows fl l] (.tp [ints .o (leastV l).1, vi (leastV l).2]) := by
  unfold maxLen at hl
  refine fnB_intro cf33 (by simp) ?_
  simp (config := {contextual := true, maxSteps := 1000000}) only [go_sem, ints, intRows, iv_c, Nat.reduceAdd, Nat.reduceBEq, Nat.reduceEqDiff, Nat.reduceLeDiff, Nat.reduceLT, reduceIte, Nat.le_refl, true_or, or_true, and_self, Int.reduceLE, Int.reduceLT, Int.reduceNeg, Int.natCast_nonneg, Int.reduceToNat, c33]
  refine ⟨fun h => ?_, fun h => ?_⟩ <;> simp at h
  · subst h; rfl
  have hpos : 0 < l.length := List.length_pos_iff.2 h
  refine wpC_lp (fun env ob n => env 0 = intRows fl l ∧ ∃ i : Nat, env 4 = vi i ∧ i ≤ l.length ∧ ∀ v ∈ l.take i, vecE v = 0) (fun env ob n => (l.length - iv (env 4)).toNat) ?_ ?_
  · simp (config := {contextual := true, maxSteps := 1000000}) only [go_sem, ints, intRows, iv_c, Nat.reduceAdd, Nat.reduceBEq, Nat.reduceEqDiff, Nat.reduceLeDiff, Nat.reduceLT, reduceIte, Nat.le_refl, true_or, or_true, and_self, Int.reduceLE, Int.reduceLT, Int.reduceNeg, Int.natCast_nonneg, Int.reduceToNat]
    exact ⟨0, rfl, by omega, by simp⟩
  rintro env ob n ⟨h0, i, h4, hi, he⟩
  simp (config := {contextual := true, maxSteps := 1000000}) only [go_sem, ints, intRows, iv_c, Nat.reduceAdd, Nat.reduceBEq, Nat.reduceEqDiff, Nat.reduceLeDiff, Nat.reduceLT, reduceIte, Nat.le_refl, true_or, or_true, and_self, Int.reduceLE, Int.reduceLT, Int.reduceNeg, Int.natCast_nonneg, Int.reduceToNat, h0, h4]
  refine ⟨fun hlt => ?_, fun hge => ?_⟩
  · simp at hlt
    refine ⟨by omega, ?_⟩
    first | refine caS_i (Vector_ok (gN l i)) trivial ?_ | refine caD_i (Vector_ok (gN l i)) trivial ?_ | refine gC_i (fun _ => Vector_ok (gN l i)) trivial ?_ | refine gCD_i (fun _ => Vector_ok (gN l i)) trivial ?_
    simp (config := {contextual := true, maxSteps := 1000000}) only [go_sem, ints, intRows, iv_c, Nat.reduceAdd, Nat.reduceBEq, Nat.reduceEqDiff, Nat.reduceLeDiff, Nat.reduceLT, reduceIte, Nat.le_refl, true_or, or_true, and_self, Int.reduceLE, Int.reduceLT, Int.reduceNeg, Int.natCast_nonneg, Int.reduceToNat, h0, h4]
    refine ⟨fun hb => ?_, fun hg => ⟨⟨i + 1, ?_, by omega, (take_succ_iff hlt).2 ⟨he, by simpa using hg⟩⟩, ?_⟩⟩
    · simp at hb
      have e := firstE_at hlt he hb
      have : leastV l = ([], vecE (gN l i)) := by rw [leastV, if_neg h, if_pos (by rw [e]; exact hb), e]
      rw [this]; rfl
    · rw [w64 (by omega)]; simp
    · rw [w64 (by omega)]; omega
  simp at hge
  rw [List.take_of_length_le (by omega)] at he
  have hl0 : leastV l = leastF (gN l 0) l := by rw [leastV, if_neg h, if_neg (by rw [firstE_no he]; simp)]
  have hE0 := he (gN l 0) (gN_mem hpos)
  have h00 := vecE_range _ hE0
  have hlen : ((gN l 0).length = 0) = False := by simp; intro e; rw [e] at h00; simp at h00
  refine wpC_lp (fun env ob n => env 0 = intRows fl l ∧ ∃ i : Nat, env 6 = vi i ∧ i ≤ l.length ∧ ∀ v ∈ l.take i, v.length = (gN l 0).length) (fun env ob n => (l.length - iv (env 6)).toNat) ?_ ?_
  · simp (config := {contextual := true, maxSteps := 1000000}) only [go_sem, ints, intRows, iv_c, Nat.reduceAdd, Nat.reduceBEq, Nat.reduceEqDiff, Nat.reduceLeDiff, Nat.reduceLT, reduceIte, Nat.le_refl, true_or, or_true, and_self, Int.reduceLE, Int.reduceLT, Int.reduceNeg, Int.natCast_nonneg, Int.reduceToNat, h0]
    exact ⟨0, rfl, by omega, by simp⟩
  clear h0 h4 hi hge
  rintro env ob n ⟨h0, i, h6, hi, he2⟩
  simp (config := {contextual := true, maxSteps := 1000000}) only [go_sem, ints, intRows, iv_c, Nat.reduceAdd, Nat.reduceBEq, Nat.reduceEqDiff, Nat.reduceLeDiff, Nat.reduceLT, reduceIte, Nat.le_refl, true_or, or_true, and_self, Int.reduceLE, Int.reduceLT, Int.reduceNeg, Int.natCast_nonneg, Int.reduceToNat, h0, h6]
  refine ⟨fun hlt => ?_, fun hge => ?_⟩
  · simp at hlt
    refine ⟨by omega, by omega, fun hb => ?_, fun hg => ⟨⟨i + 1, ?_, by omega, (take_succ_iff hlt).2 ⟨he2, by simp at hg; omega⟩⟩, ?_⟩⟩
    · simp at hb
      have : leastV l = ([], 2) := by rw [hl0]; exact leastF_bad l _ hE0 rfl he ⟨gN l i, gN_mem hlt, by omega⟩
      rw [this]; rfl
    · rw [w64 (by omega)]; simp
    · rw [w64 (by omega)]; omega
  simp at hge
  rw [List.take_of_length_le (by omega)] at he2
  refine ⟨by omega, ?_⟩
  first | refine caS_i (TwinInts_ok (gN l 0) (by unfold maxLen; omega)) (fun ch hch => by obtain ⟨_, _, rfl⟩ := List.mem_map.1 hch; rfl) ?_ | refine caD_i (TwinInts_ok (gN l 0) (by unfold maxLen; omega)) (fun ch hch => by obtain ⟨_, _, rfl⟩ := List.mem_map.1 hch; rfl) ?_ | refine gC_i (fun _ => TwinInts_ok (gN l 0) (by unfold maxLen; omega)) (fun ch hch => by obtain ⟨_, _, rfl⟩ := List.mem_map.1 hch; rfl) ?_ | refine gCD_i (fun _ => TwinInts_ok (gN l 0) (by unfold maxLen; omega)) (fun ch hch => by obtain ⟨_, _, rfl⟩ := List.mem_map.1 hch; rfl) ?_
  simp (config := {contextual := true, maxSteps := 1000000}) only [go_sem, ints, intRows, iv_c, Nat.reduceAdd, Nat.reduceBEq, Nat.reduceEqDiff, Nat.reduceLeDiff, Nat.reduceLT, reduceIte, Nat.le_refl, true_or, or_true, and_self, Int.reduceLE, Int.reduceLT, Int.reduceNeg, Int.natCast_nonneg, Int.reduceToNat, h0, hlen]
  refine wpC_lp (fun env ob n => env 0 = intRows fl l ∧ ∃ (i id : Nat) (out : List Int), env 8 = vi i ∧ i ≤ l.length ∧ env 7 = .sl id 0 out.length ∧ ob id = some ⟨1, out.map fun n => [vi n], none⟩ ∧ vecE out = 0 ∧ out.length = (gN l 0).length ∧ leastV l = leastF out (l.drop i)) (fun env ob n => (l.length - iv (env 8)).toNat) ?_ ?_
  · simp (config := {contextual := true, maxSteps := 1000000}) only [go_sem, ints, intRows, iv_c, Nat.reduceAdd, Nat.reduceBEq, Nat.reduceEqDiff, Nat.reduceLeDiff, Nat.reduceLT, reduceIte, Nat.le_refl, true_or, or_true, and_self, Int.reduceLE, Int.reduceLT, Int.reduceNeg, Int.natCast_nonneg, Int.reduceToNat, h0]
    exact ⟨0, _, gN l 0, rfl, by omega, rfl, updO_s _ _ _, hE0, rfl, by simpa using hl0⟩
  clear h0 h6 hi hge
  rintro env ob n ⟨h0, i, id, out, h8, hi, h7, hob, hoE, hoL, hlf⟩
  simp (config := {contextual := true, maxSteps := 1000000}) only [go_sem, ints, intRows, iv_c, Nat.reduceAdd, Nat.reduceBEq, Nat.reduceEqDiff, Nat.reduceLeDiff, Nat.reduceLT, reduceIte, Nat.le_refl, true_or, or_true, and_self, Int.reduceLE, Int.reduceLT, Int.reduceNeg, Int.natCast_nonneg, Int.reduceToNat, h0, h8, h7, hob]
  refine ⟨fun hlt => ?_, fun hge => ?_⟩
  · simp at hlt
    have hv := he (gN l i) (gN_mem hlt)
    have hvl := he2 (gN l i) (gN_mem hlt)
    refine wpC_lp (fun env ob n => env 0 = intRows fl l ∧ env 8 = vi i ∧ ∃ (j : Nat) (cur : List Int), env 9 = vi j ∧ j ≤ out.length ∧ env 7 = .sl id 0 out.length ∧ ob id = some ⟨1, cur.map fun n => [vi n], none⟩ ∧ cur.length = out.length ∧ ∀ k, k < out.length → gN cur k = if k < j then min (gN out k) (gN (gN l i) k) else gN out k) (fun env ob n => (out.length - iv (env 9)).toNat) ?_ ?_
    · simp (config := {contextual := true, maxSteps := 1000000}) only [go_sem, ints, intRows, iv_c, Nat.reduceAdd, Nat.reduceBEq, Nat.reduceEqDiff, Nat.reduceLeDiff, Nat.reduceLT, reduceIte, Nat.le_refl, true_or, or_true, and_self, Int.reduceLE, Int.reduceLT, Int.reduceNeg, Int.natCast_nonneg, Int.reduceToNat, h0, h8, h7, hob]
      exact ⟨0, out, rfl, by omega, rfl, by simp⟩
    clear h0 h8 h7 hob
    rintro env ob n ⟨h0, h8, j, cur, h9, hj, h7, hob, hcl, hc⟩
    simp (config := {contextual := true, maxSteps := 1000000}) only [go_sem, ints, intRows, iv_c, Nat.reduceAdd, Nat.reduceBEq, Nat.reduceEqDiff, Nat.reduceLeDiff, Nat.reduceLT, reduceIte, Nat.le_refl, true_or, or_true, and_self, Int.reduceLE, Int.reduceLT, Int.reduceNeg, Int.natCast_nonneg, Int.reduceToNat, h0, h8, h9, h7, hob]
    refine ⟨fun hlt2 => ?_, fun hge2 => ?_⟩
    · simp at hlt2
      refine ⟨by omega, by omega, by omega, by omega, by omega, by omega, ⟨j + 1, cur.set j (min (gN cur j) (gN (gN l i) j)), ?_, by omega, rfl, by simp [hcl], fun k hk => ?_⟩, ?_⟩
      · rw [w64 (by omega)]; simp
      · by_cases hkj : k = j
        · subst hkj; rw [gN_set (by omega), if_pos (by omega), hc k hk, if_neg (by omega)]
        · rw [gN_set2 hkj, hc k hk]; by_cases h : k < j
          · rw [if_pos h, if_pos (by omega)]
          · rw [if_neg h, if_neg (by omega)]
      · rw [w64 (by omega)]; omega
    · simp at hge2
      have hce : cur = List.zipWith min out (gN l i) := list_iff'.2 ⟨by simp; omega, fun k hk => by rw [hc k (by omega), if_pos (by omega), gN_zip (by omega) (by omega)]⟩
      have e : eachV min out (gN l i) = (List.zipWith min out (gN l i), 0) := eachV_yes hoE hv (by omega)
      rw [drop_gN hlt, leastF, e, if_neg (by simp)] at hlf
      refine ⟨⟨i + 1, id, cur, ?_, by omega, by rw [hcl], hob, ?_, by omega, by rw [hlf, hce]⟩, ?_⟩
      · rw [w64 (by omega)]; simp
      · rw [hce]; exact vecE_zip min_or hoE hv (by omega)
      · rw [w64 (by omega)]; omega
  · simp at hge
    rw [List.drop_eq_nil_of_le (by omega), leastF] at hlf
    rw [out_at _ (fun _ _ => rfl) hob rfl (by intro e; rw [e] at hoL; omega) _ (fun _ => rfl), hlf]; rfl

theorem RHas_ok {fl : Fl} (v : List Int) (d : Dt) (hv : v.length ≤ maxLen) : FnB Try.prog 27 [ints fl v, .ag (dotV d)] (vb (hasB v d)) := by
  unfold maxLen at hv
  refine fnB_intro cf27 (by simp) ?_
  simp (config := {contextual := true, maxSteps := 1000000}) only [go_sem, ints, intRows, iv_c, Nat.reduceAdd, Nat.reduceBEq, Nat.reduceEqDiff, Nat.reduceLeDiff, Nat.reduceLT, reduceIte, Nat.le_refl, true_or, or_true, and_self, Int.reduceLE, Int.reduceLT, Int.reduceNeg, Int.natCast_nonneg, Int.reduceToNat, c27, dotV]
  first | refine caS_i (refIn_ok _ _ _) trivial ?_ | refine caD_i (refIn_ok _ _ _) trivial ?_ | refine gC_i (fun _ => refIn_ok _ _ _) trivial ?_ | refine gCD_i (fun _ => refIn_ok _ _ _) trivial ?_
  simp (config := {contextual := true, maxSteps := 1000000}) only [go_sem, ints, intRows, iv_c, Nat.reduceAdd, Nat.reduceBEq, Nat.reduceEqDiff, Nat.reduceLeDiff, Nat.reduceLT, reduceIte, Nat.le_refl, true_or, or_true, and_self, Int.reduceLE, Int.reduceLT, Int.reduceNeg, Int.natCast_nonneg, Int.reduceToNat, dotV]
  simp only [hasB]
  by_cases h0 : v.length = 0
  · rw [h0]
    have e : IntKind.i64.wrap (((0 : Nat) : Int) - 1) = -1 := by decide
    rw [e]
    have e1 : decide (0 ≤ d.p ∧ d.p ≤ -1) = false := by rw [decide_eq_false_iff_not]; omega
    have e2 : decide (0 ≤ d.p ∧ d.p < ((0 : Nat) : Int) ∧ 1 ≤ d.n ∧ d.n ≤ gN v d.p.toNat) = false := by rw [decide_eq_false_iff_not]; omega
    rw [e1, e2]; simp
  rw [w64 (by omega)]
  generalize gN v d.p.toNat = z
  simp only [← Bool.decide_and, decide_eq_true_iff, V.c.injEq, Value.bool.injEq, decide_eq_decide]
  omega

theorem RNext_ok {fl : Fl} (v : List Int) (d : Dt) (hl : v.length ≤ maxLen) (hn : inI d.n) (hv : ∀ n ∈ v, inI n) : FnB Try.prog 28 [ints fl v, .ag (dotV d)] (vb (nextB v d)) := by
  unfold maxLen at hl
  refine fnB_intro cf28 (by simp) ?_
  simp (config := {contextual := true, maxSteps := 1000000}) only [go_sem, ints, intRows, iv_c, Nat.reduceAdd, Nat.reduceBEq, Nat.reduceEqDiff, Nat.reduceLeDiff, Nat.reduceLT, reduceIte, Nat.le_refl, true_or, or_true, and_self, Int.reduceLE, Int.reduceLT, Int.reduceNeg, Int.natCast_nonneg, Int.reduceToNat, c28, dotV]
  first | refine caS_i (refIn_ok _ _ _) trivial ?_ | refine caD_i (refIn_ok _ _ _) trivial ?_ | refine gC_i (fun _ => refIn_ok _ _ _) trivial ?_ | refine gCD_i (fun _ => refIn_ok _ _ _) trivial ?_
  simp (config := {contextual := true, maxSteps := 1000000}) only [go_sem, ints, intRows, iv_c, Nat.reduceAdd, Nat.reduceBEq, Nat.reduceEqDiff, Nat.reduceLeDiff, Nat.reduceLT, reduceIte, Nat.le_refl, true_or, or_true, and_self, Int.reduceLE, Int.reduceLT, Int.reduceNeg, Int.natCast_nonneg, Int.reduceToNat, dotV]
  have e0 : decide (0 ≤ d.p ∧ d.p ≤ IntKind.i64.wrap ((v.length : Int) - 1)) = decide (0 ≤ d.p ∧ d.p < v.length) := by
    by_cases h0 : v.length = 0
    · rw [h0]
      have e : IntKind.i64.wrap (((0 : Nat) : Int) - 1) = -1 := by decide
      rw [e, decide_eq_decide]; omega
    · rw [w64 (by omega), decide_eq_decide]; omega
  rw [e0]
  simp only [nextB]
  by_cases h1 : 0 ≤ d.p ∧ d.p < v.length
  · have h2 := hv (gN v d.p.toNat) (gN_mem (by omega))
    generalize gN v d.p.toNat = z at *
    unfold inI at *
    refine ⟨fun _ => h1, fun _ => h1, ?_⟩
    by_cases h3 : z < d.n
    · rw [w64 (by omega)]
      simp only [← Bool.decide_and, V.c.injEq, Value.bool.injEq, decide_eq_decide]; omega
    · have e1 : decide (z < d.n) = false := by simpa using h3
      have e2 : decide (0 ≤ d.p ∧ d.p < v.length ∧ d.n = z + 1) = false := by rw [decide_eq_false_iff_not]; omega
      rw [e1, e2]; simp
  · have e1 : decide (0 ≤ d.p ∧ d.p < (v.length : Int)) = false := by rw [decide_eq_false_iff_not]; exact h1
    have e2 : decide (0 ≤ d.p ∧ d.p < v.length ∧ d.n = gN v d.p.toNat + 1) = false := by rw [decide_eq_false_iff_not]; omega
    rw [e1, e2]; simp
theorem RLe_ok {fl fm : Fl} (a b : List Int) (ha : a.length ≤ maxLen) : FnB Try.prog 29 [ints fl a, ints fm b] (vb (leB a b)) := by
  unfold maxLen at ha
  refine fnB_intro cf29 (by simp) ?_
  simp (config := {contextual := true, maxSteps := 1000000}) only [go_sem, ints, intRows, iv_c, Nat.reduceAdd, Nat.reduceBEq, Nat.reduceEqDiff, Nat.reduceLeDiff, Nat.reduceLT, reduceIte, Nat.le_refl, true_or, or_true, and_self, Int.reduceLE, Int.reduceLT, Int.reduceNeg, Int.natCast_nonneg, Int.reduceToNat, c29]
  refine ⟨?_, ?_⟩
  · intro h; simp at h
    have : leB a b = false := by rw [← Bool.not_eq_true, leB_iff]; rintro ⟨h1, _⟩; omega
    rw [this]
  · intro h; simp at h
    refine wpC_lp (fun env ob n => env 0 = ints fl a ∧ env 1 = ints fm b ∧ ∃ i : Nat, env 5 = vi i ∧ i ≤ a.length ∧ ∀ j, j < i → gN a j ≤ gN b j) (fun env ob n => (a.length - iv (env 5)).toNat) ?_ ?_
    · simp (config := {contextual := true, maxSteps := 1000000}) only [go_sem, ints, intRows, iv_c, Nat.reduceAdd, Nat.reduceBEq, Nat.reduceEqDiff, Nat.reduceLeDiff, Nat.reduceLT, reduceIte, Nat.le_refl, true_or, or_true, and_self, Int.reduceLE, Int.reduceLT, Int.reduceNeg, Int.natCast_nonneg, Int.reduceToNat]
      exact ⟨0, rfl, by omega, by omega⟩
    · rintro env ob n ⟨h0, h1, i, h5, hi, he⟩
      simp (config := {contextual := true, maxSteps := 1000000}) only [go_sem, ints, intRows, iv_c, Nat.reduceAdd, Nat.reduceBEq, Nat.reduceEqDiff, Nat.reduceLeDiff, Nat.reduceLT, reduceIte, Nat.le_refl, true_or, or_true, and_self, Int.reduceLE, Int.reduceLT, Int.reduceNeg, Int.natCast_nonneg, Int.reduceToNat, h0, h1, h5]
      refine ⟨fun hlt => ?_, fun hge => ?_⟩
      · simp at hlt
        refine ⟨by omega, by omega, fun hb => ?_, fun hg => ⟨⟨i + 1, ?_, by omega, fun j hj => ?_⟩, ?_⟩⟩
        · simp at hb
          have : leB a b = false := by rw [← Bool.not_eq_true, leB_iff]; rintro ⟨_, h2⟩; have := h2 i hlt; omega
          rw [this]
        · rw [w64 (by omega)]; simp
        · simp at hg
          by_cases hji : j = i
          · subst hji; omega
          · exact he j (by omega)
        · rw [w64 (by omega)]; omega
      · simp at hge
        have : leB a b = true := leB_iff.2 ⟨by omega, fun j hj => he j (by omega)⟩
        rw [this]
end Go.Proofs.Ytamdidmfcjdcgaa.D
