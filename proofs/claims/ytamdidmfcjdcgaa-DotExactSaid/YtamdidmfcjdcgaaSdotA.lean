/- What functions of raddlekeep, raddleref01 and dot answer. No condition. -/
import Derived.Test.YtamdidmfcjdcgaaI
set_option linter.unusedVariables false
set_option linter.unusedSimpArgs false
set_option maxRecDepth 100000
namespace Go.Proofs.Ytamdidmfcjdcgaa.D
open Go Go.Proofs

theorem refIn_ok (n lo hi : Int) : FnB Try.prog 46 [vi n, vi lo, vi hi] (vb (decide (lo ≤ n ∧ n ≤ hi))) := by
  refine fnB_intro cf46 (by simp) ?_
  simp (config := {contextual := true, maxSteps := 1000000}) only [go_sem, ints, intRows, iv_c, Nat.reduceAdd, Nat.reduceBEq, Nat.reduceEqDiff, Nat.reduceLeDiff, Nat.reduceLT, reduceIte, Nat.le_refl, true_or, or_true, and_self, Int.reduceLE, Int.reduceLT, Int.reduceNeg, Int.natCast_nonneg, Int.reduceToNat, c46]
  simp

theorem in_ok {fl : Fl} (l : List Int) (p : Int) : FnB Try.prog 42 [ints fl l, vi p] (vb (decide (0 ≤ p ∧ p < l.length))) := by
  refine fnB_intro cf42 (by simp) ?_
  simp (config := {contextual := true, maxSteps := 1000000}) only [go_sem, ints, intRows, iv_c, Nat.reduceAdd, Nat.reduceBEq, Nat.reduceEqDiff, Nat.reduceLeDiff, Nat.reduceLT, reduceIte, Nat.le_refl, true_or, or_true, and_self, Int.reduceLE, Int.reduceLT, Int.reduceNeg, Int.natCast_nonneg, Int.reduceToNat, c42]
  simp

theorem take_succ_iff {α : Type} [Inhabited α] {p : α → Prop} {l : List α} {i : Nat} (h : i < l.length) : (∀ n ∈ l.take (i + 1), p n) ↔ (∀ n ∈ l.take i, p n) ∧ p (gN l i) := by
  rw [List.take_add_one, gN_at h]; simp [or_imp, forall_and]
theorem take_succ_eq {α : Type} [Inhabited α] {a b : List α} {i : Nat} (h : i < a.length) (h' : i < b.length) (e : a.take i = b.take i) (e' : gN a i = gN b i) : a.take (i + 1) = b.take (i + 1) := by
  rw [List.take_add_one, List.take_add_one, gN_at h, gN_at h', e, e']

theorem Ints_ok {fl fm : Fl} (a b : List Int) (ha : a.length ≤ maxLen) : FnB Try.prog 20 [ints fl a, ints fm b] (vb (decide (a = b))) := by
  unfold maxLen at ha
  refine fnB_intro cf20 (by simp) ?_
  simp (config := {contextual := true, maxSteps := 1000000}) only [go_sem, ints, intRows, iv_c, Nat.reduceAdd, Nat.reduceBEq, Nat.reduceEqDiff, Nat.reduceLeDiff, Nat.reduceLT, reduceIte, Nat.le_refl, true_or, or_true, and_self, Int.reduceLE, Int.reduceLT, Int.reduceNeg, Int.natCast_nonneg, Int.reduceToNat, c20]
  refine ⟨?_, ?_⟩
  · intro h; simp at h ⊢
    intro e; exact absurd (congrArg List.length e) (by omega)
  · intro h; simp at h
    refine wpC_lp (fun env ob n => env 0 = ints fl a ∧ env 1 = ints fm b ∧ ∃ i : Nat, env 5 = vi i ∧ i ≤ a.length ∧ a.take i = b.take i) (fun env ob n => (a.length - iv (env 5)).toNat) ?_ ?_
    · simp (config := {contextual := true, maxSteps := 1000000}) only [go_sem, ints, intRows, iv_c, Nat.reduceAdd, Nat.reduceBEq, Nat.reduceEqDiff, Nat.reduceLeDiff, Nat.reduceLT, reduceIte, Nat.le_refl, true_or, or_true, and_self, Int.reduceLE, Int.reduceLT, Int.reduceNeg, Int.natCast_nonneg, Int.reduceToNat]
      simp
      exact ⟨0, by simp⟩
    · rintro env ob n ⟨h0, h1, i, h5, hi, he⟩
      simp (config := {contextual := true, maxSteps := 1000000}) only [go_sem, ints, intRows, iv_c, Nat.reduceAdd, Nat.reduceBEq, Nat.reduceEqDiff, Nat.reduceLeDiff, Nat.reduceLT, reduceIte, Nat.le_refl, true_or, or_true, and_self, Int.reduceLE, Int.reduceLT, Int.reduceNeg, Int.natCast_nonneg, Int.reduceToNat, h0, h1, h5]
      simp
      refine ⟨fun hlt => ⟨by omega, by omega, fun hne e => hne (by rw [e]), fun heq => ⟨⟨i + 1, ?_, by omega, take_succ_eq (by omega) (by omega) he heq⟩, ?_⟩⟩, fun hge => ?_⟩
      · rw [w64 (by omega)]; simp
      · rw [w64 (by omega)]; omega
      · rw [List.take_of_length_le (by omega), List.take_of_length_le (by omega)] at he; exact he

/-- Whether a vector may be. -/
def vecE (v : List Int) : Int := if 1 ≤ v.length ∧ v.length ≤ 5 then (if ∀ n ∈ v, 0 ≤ n ∧ n ≤ 1073741824 then 0 else 1) else 2

theorem Vector_ok {fl : Fl} (v : List Int) : FnB Try.prog 18 [ints fl v] (vi (vecE v)) := by
  refine fnB_intro cf18 (by simp) ?_
  simp (config := {contextual := true, maxSteps := 1000000}) only [go_sem, ints, intRows, iv_c, Nat.reduceAdd, Nat.reduceBEq, Nat.reduceEqDiff, Nat.reduceLeDiff, Nat.reduceLT, reduceIte, Nat.le_refl, true_or, or_true, and_self, Int.reduceLE, Int.reduceLT, Int.reduceNeg, Int.natCast_nonneg, Int.reduceToNat, c18]
  refine caS_i (refIn_ok _ _ _) trivial ?_
  simp (config := {contextual := true, maxSteps := 1000000}) only [go_sem, ints, intRows, iv_c, Nat.reduceAdd, Nat.reduceBEq, Nat.reduceEqDiff, Nat.reduceLeDiff, Nat.reduceLT, reduceIte, Nat.le_refl, true_or, or_true, and_self, Int.reduceLE, Int.reduceLT, Int.reduceNeg, Int.natCast_nonneg, Int.reduceToNat]
  refine ⟨?_, ?_⟩
  · intro h; simp at h
    rw [vecE, if_neg (by omega)]
  · intro h; simp at h
    refine wpC_lp (fun env ob n => env 0 = ints fl v ∧ ∃ i : Nat, env 3 = vi i ∧ i ≤ v.length ∧ ∀ n ∈ v.take i, 0 ≤ n ∧ n ≤ 1073741824) (fun env ob n => (v.length - iv (env 3)).toNat) ?_ ?_
    · simp (config := {contextual := true, maxSteps := 1000000}) only [go_sem, ints, intRows, iv_c, Nat.reduceAdd, Nat.reduceBEq, Nat.reduceEqDiff, Nat.reduceLeDiff, Nat.reduceLT, reduceIte, Nat.le_refl, true_or, or_true, and_self, Int.reduceLE, Int.reduceLT, Int.reduceNeg, Int.natCast_nonneg, Int.reduceToNat]
      simp
      exact ⟨0, by simp⟩
    · rintro env ob n ⟨h0, i, h3, hi, he⟩
      simp (config := {contextual := true, maxSteps := 1000000}) only [go_sem, ints, intRows, iv_c, Nat.reduceAdd, Nat.reduceBEq, Nat.reduceEqDiff, Nat.reduceLeDiff, Nat.reduceLT, reduceIte, Nat.le_refl, true_or, or_true, and_self, Int.reduceLE, Int.reduceLT, Int.reduceNeg, Int.natCast_nonneg, Int.reduceToNat, h0, h3]
      refine ⟨fun hlt => ?_, fun hge => ?_⟩
      · simp at hlt
        refine ⟨by omega, caS_i (refIn_ok _ _ _) trivial ?_⟩
        simp (config := {contextual := true, maxSteps := 1000000}) only [go_sem, ints, intRows, iv_c, Nat.reduceAdd, Nat.reduceBEq, Nat.reduceEqDiff, Nat.reduceLeDiff, Nat.reduceLT, reduceIte, Nat.le_refl, true_or, or_true, and_self, Int.reduceLE, Int.reduceLT, Int.reduceNeg, Int.natCast_nonneg, Int.reduceToNat, h0, h3]
        simp
        refine ⟨fun hb => ?_, fun hg hg2 => ⟨⟨i + 1, ?_, by omega, (take_succ_iff hlt).2 ⟨he, hg, hg2⟩⟩, ?_⟩⟩
        · unfold vecE; rw [if_pos (by omega), if_neg]
          intro hall; have := hall (gN v i) (by rw [gN_eq hlt]; exact List.getElem_mem _); omega
        · rw [w64 (by omega)]; simp
        · rw [w64 (by omega)]; omega
      · simp at hge
        rw [List.take_of_length_le (by omega)] at he
        rw [vecE, if_pos (by omega), if_pos he]
end Go.Proofs.Ytamdidmfcjdcgaa.D
