/- What functions of dot answer: vectors. No condition. -/
import Derived.Test.YtamdidmfcjdcgaaSdotC
set_option linter.unusedVariables false
set_option linter.unusedSimpArgs false
set_option maxRecDepth 100000
namespace Go.Proofs.Ytamdidmfcjdcgaa.D
open Go Go.Proofs

/-- Place by place. -/
def allB (p : Int → Int → Bool) (a b : List Int) : Bool := decide (a.length = b.length ∧ ∀ i, i < a.length → p (gN a i) (gN b i) = true)

theorem EqualFunc_ok {fl fm : Fl} (a b : List Int) (f : Nat) (caps : List V) (p : Int → Int → Bool) (ha : a.length ≤ maxLen) (hc : ∀ ob, caps.map (resV ob 6) = caps) (hp : ∀ x y, FnB Try.prog f (vi x :: vi y :: caps) (vb (p x y))) :
    FnB Try.prog 44 [ints fl a, ints fm b, .fn f caps] (vb (allB p a b)) := by
  unfold maxLen at ha
  refine fnB_intro cf44 (by simp) ?_
  simp (config := {contextual := true, maxSteps := 1000000}) only [go_sem, ints, intRows, iv_c, Nat.reduceAdd, Nat.reduceBEq, Nat.reduceEqDiff, Nat.reduceLeDiff, Nat.reduceLT, reduceIte, Nat.le_refl, true_or, or_true, and_self, Int.reduceLE, Int.reduceLT, Int.reduceNeg, Int.natCast_nonneg, Int.reduceToNat, c44]
  refine ⟨?_, ?_⟩
  · intro h; simp at h
    simp only [allB]; rw [decide_eq_false]; rintro ⟨h1, _⟩; omega
  · intro h; simp at h
    refine wpC_lp (fun env ob n => env 0 = ints fl a ∧ env 1 = ints fm b ∧ env 2 = .fn f caps ∧ env 15 = ints fl a ∧ env 16 = vi a.length ∧ ∃ i : Nat, env 17 = vi i ∧ i ≤ a.length ∧ ∀ j, j < i → p (gN a j) (gN b j) = true) (fun env ob n => (a.length - iv (env 17)).toNat) ?_ ?_
    · simp (config := {contextual := true, maxSteps := 1000000}) only [go_sem, ints, intRows, iv_c, Nat.reduceAdd, Nat.reduceBEq, Nat.reduceEqDiff, Nat.reduceLeDiff, Nat.reduceLT, reduceIte, Nat.le_refl, true_or, or_true, and_self, Int.reduceLE, Int.reduceLT, Int.reduceNeg, Int.natCast_nonneg, Int.reduceToNat]
      simp
      exact ⟨0, by simp⟩
    · rintro env ob n ⟨h0, h1, h2, h15, h16, i, h17, hi, he⟩
      simp (config := {contextual := true, maxSteps := 1000000}) only [go_sem, ints, intRows, iv_c, Nat.reduceAdd, Nat.reduceBEq, Nat.reduceEqDiff, Nat.reduceLeDiff, Nat.reduceLT, reduceIte, Nat.le_refl, true_or, or_true, and_self, Int.reduceLE, Int.reduceLT, Int.reduceNeg, Int.natCast_nonneg, Int.reduceToNat, h0, h1, h2, h15, h16, h17, List.map_append, List.map_cons, hc]
      refine ⟨fun hlt => ?_, fun hge => ?_⟩
      · simp at hlt
        refine ⟨by omega, by omega, caS_i (hp _ _) trivial ?_⟩
        simp (config := {contextual := true, maxSteps := 1000000}) only [go_sem, ints, intRows, iv_c, Nat.reduceAdd, Nat.reduceBEq, Nat.reduceEqDiff, Nat.reduceLeDiff, Nat.reduceLT, reduceIte, Nat.le_refl, true_or, or_true, and_self, Int.reduceLE, Int.reduceLT, Int.reduceNeg, Int.natCast_nonneg, Int.reduceToNat, h0, h1, h2, h15, h16, h17]
        simp
        refine ⟨fun hb => ?_, fun hg => ⟨⟨i + 1, ?_, by omega, fun j hj => ?_⟩, ?_⟩⟩
        · simp only [allB]; rw [decide_eq_false]; rintro ⟨_, h⟩; rw [h i hlt] at hb; cases hb
        · rw [w64 (by omega)]; simp
        · by_cases hji : j = i
          · subst hji; exact hg
          · exact he j (by omega)
        · rw [w64 (by omega)]; omega
      · simp at hge
        simp only [allB]; rw [decide_eq_true]; exact ⟨by omega, fun j hj => he j (by omega)⟩

theorem le1_ok (x y : Int) : FnB Try.prog 45 [vi x, vi y] (vb (decide (x ≤ y))) := by
  refine fnB_intro cf45 (by simp) ?_
  simp (config := {contextual := true, maxSteps := 1000000}) only [go_sem, ints, intRows, iv_c, Nat.reduceAdd, Nat.reduceBEq, Nat.reduceEqDiff, Nat.reduceLeDiff, Nat.reduceLT, reduceIte, Nat.le_refl, true_or, or_true, and_self, Int.reduceLE, Int.reduceLT, Int.reduceNeg, Int.natCast_nonneg, Int.reduceToNat, c45]

/-- No number is greater. -/
def leB (a b : List Int) : Bool := allB (fun x y => decide (x ≤ y)) a b
theorem Le_ok {fl fm : Fl} (a b : List Int) (ha : a.length ≤ maxLen) : FnB Try.prog 15 [ints fl a, ints fm b] (vb (leB a b)) := by
  refine fnB_intro cf15 (by simp) ?_
  simp (config := {contextual := true, maxSteps := 1000000}) only [go_sem, ints, intRows, iv_c, Nat.reduceAdd, Nat.reduceBEq, Nat.reduceEqDiff, Nat.reduceLeDiff, Nat.reduceLT, reduceIte, Nat.le_refl, true_or, or_true, and_self, Int.reduceLE, Int.reduceLT, Int.reduceNeg, Int.natCast_nonneg, Int.reduceToNat, c15]
  refine caS_i (EqualFunc_ok a b _ [] _ ha (fun _ => rfl) le1_ok) trivial ?_
  simp (config := {contextual := true, maxSteps := 1000000}) only [go_sem, ints, intRows, iv_c, Nat.reduceAdd, Nat.reduceBEq, Nat.reduceEqDiff, Nat.reduceLeDiff, Nat.reduceLT, reduceIte, Nat.le_refl, true_or, or_true, and_self, Int.reduceLE, Int.reduceLT, Int.reduceNeg, Int.natCast_nonneg, Int.reduceToNat, leB]

theorem vecE_range (v : List Int) : vecE v = 0 → 1 ≤ v.length ∧ v.length ≤ 5 ∧ ∀ n ∈ v, 0 ≤ n ∧ n ≤ 1073741824 := by
  unfold vecE; split
  · rename_i h; split
    · rename_i h2; exact fun _ => ⟨h.1, h.2, h2⟩
    · intro h; cases h
  · intro h; cases h

/-- With the next dot. -/
def addV (v : List Int) (d : Dt) : List Int × Int :=
  if vecE v ≠ 0 then ([], vecE v) else if nextB v d = false ∨ 1073741824 < d.n then ([], 1) else (v.set d.p.toNat d.n, 0)

theorem Add_ok {fl : Fl} (v : List Int) (d : Dt) (hn : inI d.n) (hv : ∀ n ∈ v, inI n) : FnB Try.prog 14 [ints fl v, .ag (dotV d)] (.tp [ints .o (addV v d).1, vi (addV v d).2]) := by
  refine fnB_intro cf14 (by simp) ?_
  simp (config := {contextual := true, maxSteps := 1000000}) only [go_sem, ints, intRows, iv_c, Nat.reduceAdd, Nat.reduceBEq, Nat.reduceEqDiff, Nat.reduceLeDiff, Nat.reduceLT, reduceIte, Nat.le_refl, true_or, or_true, and_self, Int.reduceLE, Int.reduceLT, Int.reduceNeg, Int.natCast_nonneg, Int.reduceToNat, c14, dotV]
  refine caS_i (Check_ok v) trivial ?_
  simp (config := {contextual := true, maxSteps := 1000000}) only [go_sem, ints, intRows, iv_c, Nat.reduceAdd, Nat.reduceBEq, Nat.reduceEqDiff, Nat.reduceLeDiff, Nat.reduceLT, reduceIte, Nat.le_refl, true_or, or_true, and_self, Int.reduceLE, Int.reduceLT, Int.reduceNeg, Int.natCast_nonneg, Int.reduceToNat, dotV]
  refine ⟨fun h => ?_, fun h => ?_⟩ <;> simp at h
  · have e : addV v d = ([], vecE v) := if_pos h
    rw [e]; rfl
  · obtain ⟨hl1, hl2, _⟩ := vecE_range v h
    refine caS_i (Next_ok v d hn hv) trivial ?_
    simp (config := {contextual := true, maxSteps := 1000000}) only [go_sem, ints, intRows, iv_c, Nat.reduceAdd, Nat.reduceBEq, Nat.reduceEqDiff, Nat.reduceLeDiff, Nat.reduceLT, reduceIte, Nat.le_refl, true_or, or_true, and_self, Int.reduceLE, Int.reduceLT, Int.reduceNeg, Int.natCast_nonneg, Int.reduceToNat, dotV]
    refine ⟨fun h2 => ?_, fun h2 => ?_⟩ <;> simp at h2
    · have e : addV v d = ([], 1) := by rw [addV, if_neg (by simpa using h), if_pos h2]
      rw [e]; rfl
    · obtain ⟨h2, h3⟩ := h2
      have e : addV v d = (v.set d.p.toNat d.n, 0) := by rw [addV, if_neg (by simpa using h), if_neg]; rintro (h4 | h4); · rw [h2] at h4; cases h4
                                                         · omega
      have hp : 0 ≤ d.p ∧ d.p < v.length := by simp [nextB] at h2; exact ⟨h2.1, h2.2.1⟩
      have hlen : (v.length = 0) = False := by simp; intro e; rw [e] at hl1; simp at hl1
      have hlen2 : d.p.toNat < v.length := by omega
      rw [e]
      refine caS_i (CloneInts_ok v (by unfold maxLen; omega) _) (fun ch hch => by obtain ⟨_, _, rfl⟩ := List.mem_map.1 hch; rfl) ?_
      simp (config := {contextual := true, maxSteps := 1000000}) only [go_sem, ints, intRows, iv_c, Nat.reduceAdd, Nat.reduceBEq, Nat.reduceEqDiff, Nat.reduceLeDiff, Nat.reduceLT, reduceIte, Nat.le_refl, true_or, or_true, and_self, Int.reduceLE, Int.reduceLT, Int.reduceNeg, Int.natCast_nonneg, Int.reduceToNat, dotV, hlen, hlen2]
      exact ⟨hp, by rw [out_at _ (fun _ _ => rfl) (updO_s _ _ _) (by simp) (by simp; intro e; rw [e] at hl1; simp at hl1) _ (fun _ => rfl)]; rfl⟩

/-- Of two, place by place. -/
def eachV (p : Int → Int → Int) (a b : List Int) : List Int × Int :=
  if vecE a ≠ 0 then ([], vecE a) else if vecE b ≠ 0 then ([], vecE b) else if a.length ≠ b.length then ([], 2) else (List.zipWith p a b, 0)

theorem each_ok {fl fm : Fl} (a b : List Int) (f : Nat) (p : Int → Int → Int) (hp : ∀ x y, FnB Try.prog f [vi x, vi y] (vi (p x y))) :
    FnB Try.prog 47 [ints fl a, ints fm b, .fn f []] (.tp [ints .o (eachV p a b).1, vi (eachV p a b).2]) := by
  refine fnB_intro cf47 (by simp) ?_
  simp (config := {contextual := true, maxSteps := 1000000}) only [go_sem, ints, intRows, iv_c, Nat.reduceAdd, Nat.reduceBEq, Nat.reduceEqDiff, Nat.reduceLeDiff, Nat.reduceLT, reduceIte, Nat.le_refl, true_or, or_true, and_self, Int.reduceLE, Int.reduceLT, Int.reduceNeg, Int.natCast_nonneg, Int.reduceToNat, c47]
  refine caS_i (Check_ok a) trivial ?_
  simp (config := {contextual := true, maxSteps := 1000000}) only [go_sem, ints, intRows, iv_c, Nat.reduceAdd, Nat.reduceBEq, Nat.reduceEqDiff, Nat.reduceLeDiff, Nat.reduceLT, reduceIte, Nat.le_refl, true_or, or_true, and_self, Int.reduceLE, Int.reduceLT, Int.reduceNeg, Int.natCast_nonneg, Int.reduceToNat]
  refine caS_i (Check_ok b) trivial ?_
  simp (config := {contextual := true, maxSteps := 1000000}) only [go_sem, ints, intRows, iv_c, Nat.reduceAdd, Nat.reduceBEq, Nat.reduceEqDiff, Nat.reduceLeDiff, Nat.reduceLT, reduceIte, Nat.le_refl, true_or, or_true, and_self, Int.reduceLE, Int.reduceLT, Int.reduceNeg, Int.natCast_nonneg, Int.reduceToNat]
  refine ⟨fun h => ?_, fun h => ⟨fun h2 => ?_, fun h2 => ⟨fun h3 => ?_, fun h3 => ?_⟩⟩⟩
  · have e : eachV p a b = ([], vecE a) := if_pos (by simpa using h)
    rw [e]; rfl
  · have e : eachV p a b = ([], vecE b) := by rw [eachV, if_neg (by simpa using h), if_pos (by simpa using h2)]
    rw [e]; rfl
  · have e : eachV p a b = ([], 2) := by rw [eachV, if_neg (by simpa using h), if_neg (by simpa using h2), if_pos (by simp at h3; omega)]
    rw [e]; rfl
  · simp at h h2 h3
    obtain ⟨hl1, hl2, _⟩ := vecE_range a h
    have h4 : a.length = b.length := by omega
    have hlen : (a.length = 0) = False := by simp; intro e; rw [e] at hl1; simp at hl1
    have e : eachV p a b = (List.zipWith p a b, 0) := by rw [eachV, if_neg (by simpa using h), if_neg (by simpa using h2), if_neg (by omega)]
    rw [e]
    refine caS_i (CloneInts_ok a (by unfold maxLen; omega) _) (fun ch hch => by obtain ⟨_, _, rfl⟩ := List.mem_map.1 hch; rfl) ?_
    simp (config := {contextual := true, maxSteps := 1000000}) only [go_sem, ints, intRows, iv_c, Nat.reduceAdd, Nat.reduceBEq, Nat.reduceEqDiff, Nat.reduceLeDiff, Nat.reduceLT, reduceIte, Nat.le_refl, true_or, or_true, and_self, Int.reduceLE, Int.reduceLT, Int.reduceNeg, Int.natCast_nonneg, Int.reduceToNat, hlen]
    refine wpC_lp (fun env ob n => env 0 = ints fl a ∧ env 1 = ints fm b ∧ env 2 = .fn f [] ∧ env 33 = vi a.length ∧ ∃ (i id : Nat) (l : List Int), env 34 = vi i ∧ i ≤ a.length ∧ env 10 = .sl id 0 a.length ∧ ob id = some ⟨1, l.map fun n => [vi n], none⟩ ∧ l.length = a.length ∧ ∀ j, j < i → gN l j = p (gN a j) (gN b j)) (fun env ob n => (a.length - iv (env 34)).toNat) ?_ ?_
    · simp (config := {contextual := true, maxSteps := 1000000}) only [go_sem, ints, intRows, iv_c, Nat.reduceAdd, Nat.reduceBEq, Nat.reduceEqDiff, Nat.reduceLeDiff, Nat.reduceLT, reduceIte, Nat.le_refl, true_or, or_true, and_self, Int.reduceLE, Int.reduceLT, Int.reduceNeg, Int.natCast_nonneg, Int.reduceToNat]
      simp

      exact ⟨0, rfl, by omega, a, updO_s _ _ _, rfl, by omega⟩
    · rintro env ob n ⟨h0, h1, h2', h33, i, id, l, h34, hi, h10, hob, hll, he⟩
      simp (config := {contextual := true, maxSteps := 1000000}) only [go_sem, ints, intRows, iv_c, Nat.reduceAdd, Nat.reduceBEq, Nat.reduceEqDiff, Nat.reduceLeDiff, Nat.reduceLT, reduceIte, Nat.le_refl, true_or, or_true, and_self, Int.reduceLE, Int.reduceLT, Int.reduceNeg, Int.natCast_nonneg, Int.reduceToNat, h0, h1, h2', h33, h34, h10, hob]
      refine ⟨fun hlt => ?_, fun hge => ?_⟩
      · simp at hlt
        refine ⟨by omega, by omega, caD_i (hp _ _) trivial ?_⟩
        simp (config := {contextual := true, maxSteps := 1000000}) only [go_sem, ints, intRows, iv_c, Nat.reduceAdd, Nat.reduceBEq, Nat.reduceEqDiff, Nat.reduceLeDiff, Nat.reduceLT, reduceIte, Nat.le_refl, true_or, or_true, and_self, Int.reduceLE, Int.reduceLT, Int.reduceNeg, Int.natCast_nonneg, Int.reduceToNat, h0, h1, h2', h33, h34, h10, hob, hll, hlt]
        refine ⟨by omega, ⟨i + 1, id, l.set i (p (gN a i) (gN b i)), ?_, by omega, rfl, updO_s _ _ _, by simp [hll], fun j hj => ?_⟩, ?_⟩
        · rw [w64 (by omega)]; simp
        · by_cases hji : j = i
          · subst hji; simp [gN, hll, hlt]
          · have : gN (l.set i (p (gN a i) (gN b i))) j = gN l j := by simp [gN, List.getElem?_set, hji, Ne.symm hji]
            rw [this]; exact he j (by omega)
        · rw [w64 (by omega)]; omega
      · simp at hge
        have hz : l = List.zipWith p a b := by
          refine List.ext_getElem (by simp [hll, h4]) fun j h5 h6 => ?_
          have := he j (by omega)
          rw [gN_eq h5, gN_eq (by omega), gN_eq (by omega)] at this
          simpa using this
        rw [out_at _ (fun _ _ => rfl) hob hll.symm (by omega) _ (fun _ => rfl), hz]; rfl

theorem max_ok (x y : Int) : FnB Try.prog 49 [vi x, vi y] (vi (max x y)) := by
  refine fnB_intro cf49 (by simp) ?_
  simp (config := {contextual := true, maxSteps := 1000000}) only [go_sem, ints, intRows, iv_c, Nat.reduceAdd, Nat.reduceBEq, Nat.reduceEqDiff, Nat.reduceLeDiff, Nat.reduceLT, reduceIte, Nat.le_refl, true_or, or_true, and_self, Int.reduceLE, Int.reduceLT, Int.reduceNeg, Int.natCast_nonneg, Int.reduceToNat, c49]
theorem min_ok (x y : Int) : FnB Try.prog 48 [vi x, vi y] (vi (min x y)) := by
  refine fnB_intro cf48 (by simp) ?_
  simp (config := {contextual := true, maxSteps := 1000000}) only [go_sem, ints, intRows, iv_c, Nat.reduceAdd, Nat.reduceBEq, Nat.reduceEqDiff, Nat.reduceLeDiff, Nat.reduceLT, reduceIte, Nat.le_refl, true_or, or_true, and_self, Int.reduceLE, Int.reduceLT, Int.reduceNeg, Int.natCast_nonneg, Int.reduceToNat, c48]
def mergeV (a b : List Int) : List Int × Int := eachV max a b
theorem Merge_ok {fl fm : Fl} (a b : List Int) : FnB Try.prog 21 [ints fl a, ints fm b] (.tp [ints .o (mergeV a b).1, vi (mergeV a b).2]) := by
  refine fnB_intro cf21 (by simp) ?_
  simp (config := {contextual := true, maxSteps := 1000000}) only [go_sem, ints, intRows, iv_c, Nat.reduceAdd, Nat.reduceBEq, Nat.reduceEqDiff, Nat.reduceLeDiff, Nat.reduceLT, reduceIte, Nat.le_refl, true_or, or_true, and_self, Int.reduceLE, Int.reduceLT, Int.reduceNeg, Int.natCast_nonneg, Int.reduceToNat, c21]
  refine caS_i (each_ok a b _ _ max_ok) (fun s hs ch hch => ?_) ?_
  · simp [ints] at hs; subst hs; obtain ⟨_, _, rfl⟩ := List.mem_map.1 hch; rfl
  by_cases h : (eachV max a b).1 = []
  · simp (config := {contextual := true, maxSteps := 1000000}) only [go_sem, ints, intRows, iv_c, Nat.reduceAdd, Nat.reduceBEq, Nat.reduceEqDiff, Nat.reduceLeDiff, Nat.reduceLT, reduceIte, Nat.le_refl, true_or, or_true, and_self, Int.reduceLE, Int.reduceLT, Int.reduceNeg, Int.natCast_nonneg, Int.reduceToNat, mergeV, h, List.map_nil]
  · have hlen : ((eachV max a b).1.length = 0) = False := by simpa using h
    simp (config := {contextual := true, maxSteps := 1000000}) only [go_sem, ints, intRows, iv_c, Nat.reduceAdd, Nat.reduceBEq, Nat.reduceEqDiff, Nat.reduceLeDiff, Nat.reduceLT, reduceIte, Nat.le_refl, true_or, or_true, and_self, Int.reduceLE, Int.reduceLT, Int.reduceNeg, Int.natCast_nonneg, Int.reduceToNat, mergeV, hlen]
    rw [out_at _ (fun _ _ => rfl) (updO_s _ _ _) rfl (by simpa using h) _ (fun _ => rfl)]; rfl
end Go.Proofs.Ytamdidmfcjdcgaa.D
