/- What functions of dot answer: the least of several. No condition. -/
import Derived.Test.YtamdidmfcjdcgaaSdotD
set_option linter.unusedVariables false
set_option linter.unusedSimpArgs false
set_option maxRecDepth 100000
namespace Go.Proofs.Ytamdidmfcjdcgaa.D
open Go Go.Proofs

def firstE : List (List Int) → Int
  | [] => 0
  | v :: l => if vecE v ≠ 0 then vecE v else firstE l
theorem firstE_at : ∀ {l : List (List Int)} {i : Nat}, i < l.length → (∀ v ∈ l.take i, vecE v = 0) → vecE (gN l i) ≠ 0 → firstE l = vecE (gN l i)
  | [], i, h, _, _ => by simp at h
  | v :: l, 0, h, h1, h2 => by simp [gN] at h2; simp [firstE, gN, h2]
  | v :: l, i + 1, h, h1, h2 => by
    have : vecE v = 0 := h1 v (by simp)
    simp only [firstE, this]
    simp
    have e : gN (v :: l) (i + 1) = gN l i := by simp [gN]
    rw [e] at h2 ⊢
    exact firstE_at (by simpa using h) (fun w hw => h1 w (by simp [hw])) h2
theorem firstE_no : ∀ {l : List (List Int)}, (∀ v ∈ l, vecE v = 0) → firstE l = 0
  | [], _ => rfl
  | v :: l, h => by simp only [firstE, h v (by simp)]; simp; exact firstE_no fun w hw => h w (by simp [hw])

def leastF : List Int → List (List Int) → List Int × Int
  | out, [] => (out, 0)
  | out, v :: l => if (eachV min out v).2 ≠ 0 then ([], (eachV min out v).2) else leastF (eachV min out v).1 l
/-- The least of several. -/
def leastV (l : List (List Int)) : List Int × Int :=
  if l = [] then ([], 2) else if firstE l ≠ 0 then ([], firstE l) else leastF (gN l 0) l

theorem eachV_len {p : Int → Int → Int} {a b : List Int} : ((eachV p a b).2 = 0 → (eachV p a b).1.length = a.length ∧ a.length ≠ 0) ∧ ((eachV p a b).2 ≠ 0 → (eachV p a b).1 = []) := by
  unfold eachV
  split
  · rename_i h; exact ⟨fun h2 => absurd h2 h, fun _ => rfl⟩
  · split
    · rename_i h; exact ⟨fun h2 => absurd h2 h, fun _ => rfl⟩
    · split
      · exact ⟨fun h2 => (by cases h2), fun _ => rfl⟩
      · rename_i h h1 h2
        have := vecE_range a (by simpa using h)
        exact ⟨fun _ => ⟨by simp; omega, by omega⟩, fun h => absurd rfl h⟩

theorem drop_gN {α : Type} [Inhabited α] {l : List α} {i : Nat} (h : i < l.length) : l.drop i = gN l i :: l.drop (i + 1) := by
  rw [gN_eq h]; exact List.drop_eq_getElem_cons h

theorem Least_ok {fl : Fl} (l : List (List Int)) (hl : l.length ≤ maxLen) : FnB Try.prog 19 [intRows fl l] (.tp [ints .o (leastV l).1, vi (leastV l).2]) := by
  unfold maxLen at hl
  refine fnB_intro cf19 (by simp) ?_
  simp (config := {contextual := true, maxSteps := 1000000}) only [go_sem, ints, intRows, iv_c, Nat.reduceAdd, Nat.reduceBEq, Nat.reduceEqDiff, Nat.reduceLeDiff, Nat.reduceLT, reduceIte, Nat.le_refl, true_or, or_true, and_self, Int.reduceLE, Int.reduceLT, Int.reduceNeg, Int.natCast_nonneg, Int.reduceToNat, c19]
  refine ⟨fun h => ?_, fun h => ?_⟩ <;> simp at h
  · subst h; rfl
  have hpos : 0 < l.length := List.length_pos_iff.2 h
  refine wpC_lp (fun env ob n => env 0 = intRows fl l ∧ env 15 = intRows fl l ∧ env 16 = vi l.length ∧ ∃ i : Nat, env 17 = vi i ∧ i ≤ l.length ∧ ∀ v ∈ l.take i, vecE v = 0) (fun env ob n => (l.length - iv (env 17)).toNat) ?_ ?_
  · simp (config := {contextual := true, maxSteps := 1000000}) only [go_sem, ints, intRows, iv_c, Nat.reduceAdd, Nat.reduceBEq, Nat.reduceEqDiff, Nat.reduceLeDiff, Nat.reduceLT, reduceIte, Nat.le_refl, true_or, or_true, and_self, Int.reduceLE, Int.reduceLT, Int.reduceNeg, Int.natCast_nonneg, Int.reduceToNat]
    simp
    exact ⟨0, by simp⟩
  rintro env ob n ⟨h0, h15, h16, i, h17, hi, he⟩
  simp (config := {contextual := true, maxSteps := 1000000}) only [go_sem, ints, intRows, iv_c, Nat.reduceAdd, Nat.reduceBEq, Nat.reduceEqDiff, Nat.reduceLeDiff, Nat.reduceLT, reduceIte, Nat.le_refl, true_or, or_true, and_self, Int.reduceLE, Int.reduceLT, Int.reduceNeg, Int.natCast_nonneg, Int.reduceToNat, h0, h15, h16, h17]
  refine ⟨fun hlt => ?_, fun hge => ?_⟩
  · simp at hlt
    refine ⟨by omega, caS_i (Check_ok _) trivial ?_⟩
    simp (config := {contextual := true, maxSteps := 1000000}) only [go_sem, ints, intRows, iv_c, Nat.reduceAdd, Nat.reduceBEq, Nat.reduceEqDiff, Nat.reduceLeDiff, Nat.reduceLT, reduceIte, Nat.le_refl, true_or, or_true, and_self, Int.reduceLE, Int.reduceLT, Int.reduceNeg, Int.natCast_nonneg, Int.reduceToNat, h0, h15, h16, h17]
    refine ⟨fun hb => ?_, fun hg => ⟨⟨i + 1, ?_, by omega, (take_succ_iff hlt).2 ⟨he, by simpa using hg⟩⟩, ?_⟩⟩
    · simp at hb
      have e := firstE_at hlt he hb
      have : leastV l = ([], vecE (gN l i)) := by rw [leastV, if_neg h, if_pos (by rw [e]; exact hb), e]
      rw [this]; rfl
    · rw [w64 (by omega)]; simp
    · rw [w64 (by omega)]; omega
  simp at hge
  rw [List.take_of_length_le (by omega)] at he
  have hl0 : leastV l = leastF (gN l 0) l := by rw [leastV, if_neg h, if_neg (by rw [firstE_no he]; simp)]
  have h00 := vecE_range _ (he (gN l 0) (by rw [gN_eq hpos]; exact List.getElem_mem _))
  have hlen : ((gN l 0).length = 0) = False := by simp; intro e; rw [e] at h00; simp at h00
  refine ⟨by omega, caS_i (CloneInts_ok _ (by unfold maxLen; omega) _) (fun ch hch => by obtain ⟨_, _, rfl⟩ := List.mem_map.1 hch; rfl) ?_⟩
  simp (config := {contextual := true, maxSteps := 1000000}) only [go_sem, ints, intRows, iv_c, Nat.reduceAdd, Nat.reduceBEq, Nat.reduceEqDiff, Nat.reduceLeDiff, Nat.reduceLT, reduceIte, Nat.le_refl, true_or, or_true, and_self, Int.reduceLE, Int.reduceLT, Int.reduceNeg, Int.natCast_nonneg, Int.reduceToNat, h0, hlen]
  refine wpC_lp (fun env ob n => env 0 = intRows fl l ∧ env 31 = intRows fl l ∧ env 32 = vi l.length ∧ ∃ (i id : Nat) (out : List Int), env 33 = vi i ∧ i ≤ l.length ∧ env 7 = .sl id 0 out.length ∧ ob id = some ⟨1, out.map fun n => [vi n], none⟩ ∧ out.length ≠ 0 ∧ leastV l = leastF out (l.drop i)) (fun env ob n => (l.length - iv (env 33)).toNat) ?_ ?_
  · simp (config := {contextual := true, maxSteps := 1000000}) only [go_sem, ints, intRows, iv_c, Nat.reduceAdd, Nat.reduceBEq, Nat.reduceEqDiff, Nat.reduceLeDiff, Nat.reduceLT, reduceIte, Nat.le_refl, true_or, or_true, and_self, Int.reduceLE, Int.reduceLT, Int.reduceNeg, Int.natCast_nonneg, Int.reduceToNat, h0]
    simp
    exact ⟨0, rfl, by omega, _, gN l 0, ⟨rfl, rfl⟩, updO_s _ _ _, by intro e; rw [e] at h00; simp at h00, by simpa using hl0⟩
  rintro env ob n ⟨h0, h31, h32, i, id, out, h33, hi, h7, hob, hne, hlf⟩
  simp (config := {contextual := true, maxSteps := 1000000}) only [go_sem, ints, intRows, iv_c, Nat.reduceAdd, Nat.reduceBEq, Nat.reduceEqDiff, Nat.reduceLeDiff, Nat.reduceLT, reduceIte, Nat.le_refl, true_or, or_true, and_self, Int.reduceLE, Int.reduceLT, Int.reduceNeg, Int.natCast_nonneg, Int.reduceToNat, h0, h31, h32, h33, h7, hob]
  refine ⟨fun hlt => ?_, fun hge => ?_⟩
  · simp at hlt
    refine ⟨by omega, caS_i (each_ok out (gN l i) _ _ min_ok) (fun s hs ch hch => ?_) ?_⟩
    · simp [ints] at hs; subst hs; obtain ⟨_, _, rfl⟩ := List.mem_map.1 hch; rfl
    rw [drop_gN hlt, leastF] at hlf
    obtain ⟨k1, k2⟩ := @eachV_len min out (gN l i)
    by_cases hz : (eachV min out (gN l i)).2 = 0
    · have hlen : ((eachV min out (gN l i)).1.length = 0) = False := by simp; intro e; have := k1 hz; rw [e] at this; simp at this; omega
      rw [if_neg (by simpa using hz)] at hlf
      simp (config := {contextual := true, maxSteps := 1000000}) only [go_sem, ints, intRows, iv_c, Nat.reduceAdd, Nat.reduceBEq, Nat.reduceEqDiff, Nat.reduceLeDiff, Nat.reduceLT, reduceIte, Nat.le_refl, true_or, or_true, and_self, Int.reduceLE, Int.reduceLT, Int.reduceNeg, Int.natCast_nonneg, Int.reduceToNat, h0, h31, h32, h33, h7, hob, hlen, hz]
      refine ⟨⟨i + 1, _, (eachV min out (gN l i)).1, ?_, by omega, rfl, updO_s _ _ _, ?_, hlf⟩, ?_⟩
      · rw [w64 (by omega)]; simp
      · simpa using hlen
      · rw [w64 (by omega)]; omega
    · have hnil := k2 hz
      rw [if_pos hz] at hlf
      simp (config := {contextual := true, maxSteps := 1000000}) only [go_sem, ints, intRows, iv_c, Nat.reduceAdd, Nat.reduceBEq, Nat.reduceEqDiff, Nat.reduceLeDiff, Nat.reduceLT, reduceIte, Nat.le_refl, true_or, or_true, and_self, Int.reduceLE, Int.reduceLT, Int.reduceNeg, Int.natCast_nonneg, Int.reduceToNat, h0, h31, h32, h33, h7, hob, hnil, hz, List.map_nil]
      rw [hlf]; rfl
  · simp at hge
    rw [List.drop_eq_nil_of_le (by omega), leastF] at hlf
    rw [out_at _ (fun _ _ => rfl) hob rfl hne _ (fun _ => rfl), hlf]; rfl
end Go.Proofs.Ytamdidmfcjdcgaa.D
