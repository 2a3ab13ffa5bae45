/- What functions of dot answer: dots. No condition. -/
import Derived.Test.YtamdidmfcjdcgaaSdotB
set_option linter.unusedVariables false
set_option linter.unusedSimpArgs false
set_option maxRecDepth 100000
namespace Go.Proofs.Ytamdidmfcjdcgaa.D
open Go Go.Proofs

structure Dt where
  p : Int
  n : Int
instance : Inhabited Dt := ⟨⟨0, 0⟩⟩
def dotV (d : Dt) : List V := [vi d.p, vi d.n]
def hasB (v : List Int) (d : Dt) : Bool := decide (0 ≤ d.p ∧ d.p < v.length ∧ 1 ≤ d.n ∧ d.n ≤ gN v d.p.toNat)
def nextB (v : List Int) (d : Dt) : Bool := decide (0 ≤ d.p ∧ d.p < v.length ∧ d.n = gN v d.p.toNat + 1)
def inI (n : Int) : Prop := -9223372036854775808 ≤ n ∧ n ≤ 9223372036854775807

theorem Has_ok {fl : Fl} (v : List Int) (d : Dt) : FnB Try.prog 12 [ints fl v, .ag (dotV d)] (vb (hasB v d)) := by
  refine fnB_intro cf12 (by simp) ?_
  simp (config := {contextual := true, maxSteps := 1000000}) only [go_sem, ints, intRows, iv_c, Nat.reduceAdd, Nat.reduceBEq, Nat.reduceEqDiff, Nat.reduceLeDiff, Nat.reduceLT, reduceIte, Nat.le_refl, true_or, or_true, and_self, Int.reduceLE, Int.reduceLT, Int.reduceNeg, Int.natCast_nonneg, Int.reduceToNat, c12, dotV]
  refine caD_i (in_ok v d.p) trivial ?_
  simp (config := {contextual := true, maxSteps := 1000000}) only [go_sem, ints, intRows, iv_c, Nat.reduceAdd, Nat.reduceBEq, Nat.reduceEqDiff, Nat.reduceLeDiff, Nat.reduceLT, reduceIte, Nat.le_refl, true_or, or_true, and_self, Int.reduceLE, Int.reduceLT, Int.reduceNeg, Int.natCast_nonneg, Int.reduceToNat, dotV]
  simp only [hasB]
  generalize gN v d.p.toNat = z
  by_cases h1 : 0 ≤ d.p ∧ d.p < v.length <;> by_cases h2 : 1 ≤ d.n <;> simp [h1, h2]
  · intro h3 h4; exact absurd ⟨h3, h4⟩ h1

theorem Next_ok {fl : Fl} (v : List Int) (d : Dt) (hn : inI d.n) (hv : ∀ n ∈ v, inI n) : FnB Try.prog 13 [ints fl v, .ag (dotV d)] (vb (nextB v d)) := by
  refine fnB_intro cf13 (by simp) ?_
  simp (config := {contextual := true, maxSteps := 1000000}) only [go_sem, ints, intRows, iv_c, Nat.reduceAdd, Nat.reduceBEq, Nat.reduceEqDiff, Nat.reduceLeDiff, Nat.reduceLT, reduceIte, Nat.le_refl, true_or, or_true, and_self, Int.reduceLE, Int.reduceLT, Int.reduceNeg, Int.natCast_nonneg, Int.reduceToNat, c13, dotV]
  refine caD_i (in_ok v d.p) trivial ?_
  simp (config := {contextual := true, maxSteps := 1000000}) only [go_sem, ints, intRows, iv_c, Nat.reduceAdd, Nat.reduceBEq, Nat.reduceEqDiff, Nat.reduceLeDiff, Nat.reduceLT, reduceIte, Nat.le_refl, true_or, or_true, and_self, Int.reduceLE, Int.reduceLT, Int.reduceNeg, Int.natCast_nonneg, Int.reduceToNat, dotV]
  simp only [nextB]
  by_cases h1 : 0 ≤ d.p ∧ d.p < v.length
  · have h2 := hv (gN v d.p.toNat) (by rw [gN_eq (by omega)]; exact List.getElem_mem _)
    generalize gN v d.p.toNat = z at *
    unfold inI at *
    simp [h1]
    by_cases h3 : z < d.n
    · simp [h3]; rw [w64 (by omega)]; omega
    · simp [h3]; intro h; omega
  · simp only [h1, decide_false]; simp; intro h3 h4; exact absurd ⟨h3, h4⟩ h1

/-- Copied. -/
theorem CloneInts_ok (v : List Int) (hv : v.length ≤ maxLen) (f : Fl) : FnB Try.prog 43 [ints f v] (ints .o v) := by
  refine fnB_intro cf43 (by simp) ?_
  by_cases h : v = []
  · subst h
    simp (config := {contextual := true, maxSteps := 1000000}) only [go_sem, ints, intRows, iv_c, Nat.reduceAdd, Nat.reduceBEq, Nat.reduceEqDiff, Nat.reduceLeDiff, Nat.reduceLT, reduceIte, Nat.le_refl, true_or, or_true, and_self, Int.reduceLE, Int.reduceLT, Int.reduceNeg, Int.natCast_nonneg, Int.reduceToNat, c43, List.map_nil]
    refine nxS_app Own.nil (Nat.zero_le _) rfl rfl (by simp [maxLen]) fun v' ob' ho _ => ?_
    simp (config := {contextual := true, maxSteps := 1000000}) only [go_sem, ints, intRows, iv_c, Nat.reduceAdd, Nat.reduceBEq, Nat.reduceEqDiff, Nat.reduceLeDiff, Nat.reduceLT, reduceIte, Nat.le_refl, true_or, or_true, and_self, Int.reduceLE, Int.reduceLT, Int.reduceNeg, Int.natCast_nonneg, Int.reduceToNat]
    rw [out_own ho (fun ob' => by simp) [] (fun _ => rfl)]; rfl
  · simp (config := {contextual := true, maxSteps := 1000000}) only [go_sem, ints, intRows, iv_c, Nat.reduceAdd, Nat.reduceBEq, Nat.reduceEqDiff, Nat.reduceLeDiff, Nat.reduceLT, reduceIte, Nat.le_refl, true_or, or_true, and_self, Int.reduceLE, Int.reduceLT, Int.reduceNeg, Int.natCast_nonneg, Int.reduceToNat, c43, h]
    refine nxS_app Own.nil (Nat.zero_le _) rfl (allInts v) (by simpa using hv) fun v' ob' ho _ => ?_
    simp (config := {contextual := true, maxSteps := 1000000}) only [go_sem, ints, intRows, iv_c, Nat.reduceAdd, Nat.reduceBEq, Nat.reduceEqDiff, Nat.reduceLeDiff, Nat.reduceLT, reduceIte, Nat.le_refl, true_or, or_true, and_self, Int.reduceLE, Int.reduceLT, Int.reduceNeg, Int.natCast_nonneg, Int.reduceToNat]
    rw [List.nil_append] at ho
    rw [out_own ho (fun ob' => gInts ob' v) [] (fun _ => rfl)]; rfl
theorem CloneIntRows_ok (v : List (List Int)) (hv : v.length ≤ maxLen) (f : Fl) : FnB Try.prog 62 [intRows f v] (intRows .o v) := by
  refine fnB_intro cf62 (by simp) ?_
  by_cases h : v = []
  · subst h
    simp (config := {contextual := true, maxSteps := 1000000}) only [go_sem, ints, intRows, iv_c, Nat.reduceAdd, Nat.reduceBEq, Nat.reduceEqDiff, Nat.reduceLeDiff, Nat.reduceLT, reduceIte, Nat.le_refl, true_or, or_true, and_self, Int.reduceLE, Int.reduceLT, Int.reduceNeg, Int.natCast_nonneg, Int.reduceToNat, c62, List.map_nil]
    refine nxS_app Own.nil (Nat.zero_le _) rfl rfl (by simp [maxLen]) fun v' ob' ho _ => ?_
    simp (config := {contextual := true, maxSteps := 1000000}) only [go_sem, ints, intRows, iv_c, Nat.reduceAdd, Nat.reduceBEq, Nat.reduceEqDiff, Nat.reduceLeDiff, Nat.reduceLT, reduceIte, Nat.le_refl, true_or, or_true, and_self, Int.reduceLE, Int.reduceLT, Int.reduceNeg, Int.natCast_nonneg, Int.reduceToNat]
    rw [out_own ho (fun ob' => by simp) [] (fun _ => rfl)]; rfl
  · simp (config := {contextual := true, maxSteps := 1000000}) only [go_sem, ints, intRows, iv_c, Nat.reduceAdd, Nat.reduceBEq, Nat.reduceEqDiff, Nat.reduceLeDiff, Nat.reduceLT, reduceIte, Nat.le_refl, true_or, or_true, and_self, Int.reduceLE, Int.reduceLT, Int.reduceNeg, Int.natCast_nonneg, Int.reduceToNat, c62, h]
    refine nxS_app Own.nil (Nat.zero_le _) rfl (allIntRows v) (by simpa using hv) fun v' ob' ho _ => ?_
    simp (config := {contextual := true, maxSteps := 1000000}) only [go_sem, ints, intRows, iv_c, Nat.reduceAdd, Nat.reduceBEq, Nat.reduceEqDiff, Nat.reduceLeDiff, Nat.reduceLT, reduceIte, Nat.le_refl, true_or, or_true, and_self, Int.reduceLE, Int.reduceLT, Int.reduceNeg, Int.natCast_nonneg, Int.reduceToNat]
    rw [List.nil_append] at ho
    rw [out_own ho (fun ob' => gIntRows ob' v) [] (fun _ => rfl)]; rfl
end Go.Proofs.Ytamdidmfcjdcgaa.D
