/- MatAll. No condition. -/
import Derived.Test.YtamdidmfcjdcgaaSmatB
set_option linter.unusedVariables false
set_option linter.unusedSimpArgs false
set_option maxRecDepth 100000
namespace Go.Proofs.Ytamdidmfcjdcgaa.D
open Go Go.Proofs

/-- Appending to a slice of one's own, in a region of any order. -/
theorem nxD_app {P : Program} {nid : Nat} {env : Env} {ob : OB} {K : Env → OB → Prop} {l : List RO} {dl : Ups} {d : Option Nat} {n k : Nat} {v x : V} {rows xs : List (List V)} (h : Own n ob v k rows) (hn : n ≤ nid) (hx : rowsOf ob x = some xs) (hk : xs.all (okRow k) = true) (hlen : rows.length + xs.length ≤ maxLen)
    (hK : ∀ v' ob', Own (nid + 1) ob' v' k (rows ++ xs) → (∀ id, id < n → v ≠ .sl id 0 rows.length → ob' id = ob id) → wpD P l (nid + 1) (put env d v') ob' dl K) : nxD P true d l nid env ob dl K (opF (.app k) [v, x] ob nid) := by
  obtain ⟨v', us, e, h1, h2⟩ := app_own h hn hx hk hlen
  rw [e]
  exact hK _ _ h1 h2

theorem take_zip {a b : List Int} {p : Int → Int → Int} {i : Nat} (h : i < a.length) (h' : i < b.length) : (List.zipWith p a b).take (i + 1) = (List.zipWith p a b).take i ++ [p (gN a i) (gN b i)] := by
  rw [List.take_add_one, gN_eq h, gN_eq h']; congr 1
  rw [List.getElem?_eq_getElem (by simp; omega)]; simp

theorem RMerge_ok {fl fm : Fl} (a b : List Int) (ha : a.length ≤ maxLen) (hab : a.length ≤ b.length) : FnB Try.prog 31 [ints fl a, ints fm b] (ints .o (List.zipWith max a b)) := by
  unfold maxLen at ha
  refine fnB_intro cf31 (by simp) ?_
  simp (config := {contextual := true, maxSteps := 1000000}) only [go_sem, ints, intRows, iv_c, Nat.reduceAdd, Nat.reduceBEq, Nat.reduceEqDiff, Nat.reduceLeDiff, Nat.reduceLT, reduceIte, Nat.le_refl, true_or, or_true, and_self, Int.reduceLE, Int.reduceLT, Int.reduceNeg, Int.natCast_nonneg, Int.reduceToNat, c31]
  refine wpC_lp (fun env ob n' => env 0 = ints fl a ∧ env 1 = ints fm b ∧ ∃ i : Nat, env 6 = vi i ∧ i ≤ a.length ∧ Own n' ob (env 5) 1 (((List.zipWith max a b).take i).map fun n => [vi n])) (fun env ob _ => (a.length - iv (env 6)).toNat) ?_ ?_
  · simp (config := {contextual := true, maxSteps := 1000000}) only [go_sem, ints, intRows, iv_c, Nat.reduceAdd, Nat.reduceBEq, Nat.reduceEqDiff, Nat.reduceLeDiff, Nat.reduceLT, reduceIte, Nat.le_refl, true_or, or_true, and_self, Int.reduceLE, Int.reduceLT, Int.reduceNeg, Int.natCast_nonneg, Int.reduceToNat]
    exact ⟨0, rfl, by omega, Own.nil⟩
  rintro env ob n' ⟨h0, h1, i, h6, hi, ho⟩
  simp (config := {contextual := true, maxSteps := 1000000}) only [go_sem, ints, intRows, iv_c, Nat.reduceAdd, Nat.reduceBEq, Nat.reduceEqDiff, Nat.reduceLeDiff, Nat.reduceLT, reduceIte, Nat.le_refl, true_or, or_true, and_self, Int.reduceLE, Int.reduceLT, Int.reduceNeg, Int.natCast_nonneg, Int.reduceToNat, h0, h1, h6]
  refine ⟨fun hlt => ?_, fun hge => ?_⟩
  · simp at hlt
    refine ⟨by omega, by omega, ?_⟩
    refine nxD_app ho (by omega) rfl rfl (by simp [maxLen]; omega) fun v' ob' ho' _ => ?_
    simp (config := {contextual := true, maxSteps := 1000000}) only [go_sem, ints, intRows, iv_c, Nat.reduceAdd, Nat.reduceBEq, Nat.reduceEqDiff, Nat.reduceLeDiff, Nat.reduceLT, reduceIte, Nat.le_refl, true_or, or_true, and_self, Int.reduceLE, Int.reduceLT, Int.reduceNeg, Int.natCast_nonneg, Int.reduceToNat, h0, h1, h6]
    refine ⟨⟨i + 1, ?_, by omega, ?_⟩, ?_⟩
    · rw [w64 (by omega)]; simp
    · rw [take_zip hlt (by omega), List.map_append]; exact ho'.mono (by omega)
    · rw [w64 (by omega)]; omega
  · simp at hge
    rw [List.take_of_length_le (by simp; omega)] at ho
    rw [out_own ho (fun ob' => gInts ob' _) _ (fun _ => rfl)]; rfl

/-- The least of right vectors of one length. -/
theorem leastF_yes {n : Nat} : ∀ (l : List (List Int)) (out : List Int), vecE out = 0 → out.length = n → (∀ v ∈ l, vecE v = 0 ∧ v.length = n) →
    ∃ L, leastF out l = (L, 0) ∧ vecE L = 0 ∧ L.length = n ∧ ∀ k, k < n → (gN L k ≤ gN out k ∧ ∀ v ∈ l, gN L k ≤ gN v k) ∧ (gN L k = gN out k ∨ ∃ v ∈ l, gN L k = gN v k)
  | [], out, h1, h2, _ => ⟨out, rfl, h1, h2, fun k hk => ⟨⟨Int.le_refl _, fun v hv => (by simp at hv)⟩, .inl rfl⟩⟩
  | v :: l, out, h1, h2, h3 => by
    have hv := h3 v (by simp)
    have e : eachV min out v = (List.zipWith min out v, 0) := eachV_yes h1 hv.1 (by omega)
    obtain ⟨L, a1, a2, a3, a4⟩ := leastF_yes l (List.zipWith min out v) (vecE_zip min_or h1 hv.1 (by omega)) (by simp; omega) (fun w hw => h3 w (by simp [hw]))
    refine ⟨L, by rw [leastF, e]; simpa using a1, a2, a3, fun k hk => ?_⟩
    obtain ⟨⟨b1, b2⟩, b3⟩ := a4 k hk
    rw [gN_zip (by omega) (by omega)] at b1 b3
    refine ⟨⟨by omega, fun w hw => ?_⟩, ?_⟩
    · rcases List.mem_cons.1 hw with rfl | hw
      · omega
      · exact b2 w hw
    · rcases b3 with b3 | ⟨w, hw, b3⟩
      · rcases min_or (gN out k) (gN v k) with e | e
        · exact .inl (by omega)
        · exact .inr ⟨v, by simp, by omega⟩
      · exact .inr ⟨w, by simp [hw], b3⟩
theorem least_yes {n : Nat} {l : List (List Int)} (h0 : l ≠ []) (h : ∀ v ∈ l, vecE v = 0 ∧ v.length = n) :
    ∃ L, leastV l = (L, 0) ∧ vecE L = 0 ∧ L.length = n ∧ ∀ k, k < n → (∀ v ∈ l, gN L k ≤ gN v k) ∧ ∃ v ∈ l, gN L k = gN v k := by
  have hpos : 0 < l.length := List.length_pos_iff.2 h0
  have hm : gN l 0 ∈ l := by rw [gN_eq hpos]; exact List.getElem_mem _
  obtain ⟨L, a1, a2, a3, a4⟩ := leastF_yes (n := n) l (gN l 0) (h _ hm).1 (h _ hm).2 h
  refine ⟨L, by rw [leastV, if_neg h0, if_neg (by rw [firstE_no fun v hv => (h v hv).1]; simp), a1], a2, a3, fun k hk => ?_⟩
  obtain ⟨⟨b1, b2⟩, b3⟩ := a4 k hk
  refine ⟨b2, ?_⟩
  rcases b3 with b3 | b3
  · exact ⟨_, hm, b3⟩
  · exact b3
theorem list_iff' {α : Type} [Inhabited α] {a b : List α} : a = b ↔ a.length = b.length ∧ ∀ i, i < a.length → gN a i = gN b i :=
  ⟨fun h => by subst h; exact ⟨rfl, fun _ _ => rfl⟩, fun ⟨h1, h2⟩ => List.ext_getElem h1 fun i h3 h4 => by have := h2 i h3; rw [gN_eq h3, gN_eq h4] at this; exact this⟩
theorem matE_mk {m : List (List Int)} (h1 : 1 ≤ m.length ∧ m.length ≤ 5) (h : ∀ i, i < m.length → (gN m i).length = m.length ∧ vecE (gN m i) = 0) : matE m = 0 := by
  have h' : ∀ v ∈ m, v.length = m.length ∧ vecE v = 0 := fun v hv => by
    obtain ⟨i, hi, rfl⟩ := List.getElem_of_mem hv
    have := h i hi; rw [gN_eq hi] at this; exact this
  rw [matE, if_pos ⟨h1.1, h1.2, fun v hv => (h' v hv).1⟩, if_pos fun v hv => (h' v hv).2]
theorem gN_set2 {α : Type} [Inhabited α] {l : List α} {i j : Nat} (h : j ≠ i) (x : α) : gN (l.set i x) j = gN l j := by simp [gN, List.getElem?_set, Ne.symm h]
theorem gN_mem {α : Type} [Inhabited α] {l : List α} {i : Nat} (h : i < l.length) : gN l i ∈ l := by rw [gN_eq h]; exact List.getElem_mem _
theorem gN_rep {α : Type} [Inhabited α] {n i : Nat} {x : α} (h : i < n) : gN (List.replicate n x) i = x := by rw [gN_eq (by simpa using h)]; simp

set_option maxHeartbeats 2000000 in
theorem MatAll_ok (l : List (List Int)) (less : Int) : FnB Try.prog 9 [intRows .b l, vi less] (vb true) := by
  refine fnB_intro cf9 (by simp) ?_
  simp (config := {contextual := true, maxSteps := 1000000}) only [go_sem, ints, intRows, iv_c, Nat.reduceAdd, Nat.reduceBEq, Nat.reduceEqDiff, Nat.reduceLeDiff, Nat.reduceLT, reduceIte, Nat.le_refl, true_or, or_true, and_self, Int.reduceLE, Int.reduceLT, Int.reduceNeg, Int.natCast_nonneg, Int.reduceToNat, c9]
  intro hn
  have hn1 : 1 ≤ l.length ∧ l.length ≤ 5 := by simp at hn; omega
  have hR : ∀ H v : List Int, H.length = l.length → v.length = l.length → (List.zipWith max H v).length = l.length := fun H v h1 h2 => by simp [h1, h2]
  refine ⟨by simp [maxLen]; omega, ?_⟩
  refine wpC_lp (fun env ob n' => env 0 = intRows .b l ∧ env 1 = vi less ∧ env 5 = vi l.length ∧ ∃ (i : Nat) (H : List Int), env 7 = vi i ∧ i ≤ l.length ∧ env 6 = ints .b H ∧ H.length = l.length ∧ vecE H = 0 ∧ ∀ j, j < i → ((gN l j).length = l.length ∧ vecE (gN l j) = 0) ∧ ∀ k, k < l.length → gN (gN l j) k ≤ gN H k) (fun env ob _ => (l.length - iv (env 7)).toNat) ?_ ?_
  · simp (config := {contextual := true, maxSteps := 1000000}) only [go_sem, ints, intRows, iv_c, Nat.reduceAdd, Nat.reduceBEq, Nat.reduceEqDiff, Nat.reduceLeDiff, Nat.reduceLT, reduceIte, Nat.le_refl, true_or, or_true, and_self, Int.reduceLE, Int.reduceLT, Int.reduceNeg, Int.natCast_nonneg, Int.reduceToNat]
    exact ⟨0, List.replicate l.length 0, rfl, by omega, by simp, by simp, vecE_rep hn1, by omega⟩
  rintro env ob n' ⟨h0, h1, h5, i, H, h7, hi, h6, hHl, hHv, hH⟩
  simp (config := {contextual := true, maxSteps := 1000000}) only [go_sem, ints, intRows, iv_c, Nat.reduceAdd, Nat.reduceBEq, Nat.reduceEqDiff, Nat.reduceLeDiff, Nat.reduceLT, reduceIte, Nat.le_refl, true_or, or_true, and_self, Int.reduceLE, Int.reduceLT, Int.reduceNeg, Int.natCast_nonneg, Int.reduceToNat, h0, h1, h5, h7, h6]
  refine ⟨fun hlt => ?_, fun hge => ?_⟩
  · simp at hlt
    have hlt' : ((i : Int) < l.length) = True := by simp; omega
    simp (config := {contextual := true, maxSteps := 1000000}) only [go_sem, ints, intRows, iv_c, Nat.reduceAdd, Nat.reduceBEq, Nat.reduceEqDiff, Nat.reduceLeDiff, Nat.reduceLT, reduceIte, Nat.le_refl, true_or, or_true, and_self, Int.reduceLE, Int.reduceLT, Int.reduceNeg, Int.natCast_nonneg, Int.reduceToNat, hlt']
    refine gC_i (fun _ => Vector_ok (gN l i)) trivial ?_
    simp (config := {contextual := true, maxSteps := 1000000}) only [go_sem, ints, intRows, iv_c, Nat.reduceAdd, Nat.reduceBEq, Nat.reduceEqDiff, Nat.reduceLeDiff, Nat.reduceLT, reduceIte, Nat.le_refl, true_or, or_true, and_self, Int.reduceLE, Int.reduceLT, Int.reduceNeg, Int.natCast_nonneg, Int.reduceToNat, h0, h1, h5, h7, h6]
    intro hr
    have hr1 : (gN l i).length = l.length ∧ vecE (gN l i) = 0 := by
      simp at hr; exact ⟨by omega, hr.2⟩
    refine ⟨by omega, ?_⟩
    first | refine caS_i (RMerge_ok H (gN l i) (by unfold maxLen; omega) (by omega)) trivial ?_ | refine caD_i (RMerge_ok H (gN l i) (by unfold maxLen; omega) (by omega)) trivial ?_ | refine gC_i (fun _ => RMerge_ok H (gN l i) (by unfold maxLen; omega) (by omega)) trivial ?_ | refine gCD_i (fun _ => RMerge_ok H (gN l i) (by unfold maxLen; omega) (by omega)) trivial ?_
    simp (config := {contextual := true, maxSteps := 1000000}) only [go_sem, ints, intRows, iv_c, Nat.reduceAdd, Nat.reduceBEq, Nat.reduceEqDiff, Nat.reduceLeDiff, Nat.reduceLT, reduceIte, Nat.le_refl, true_or, or_true, and_self, Int.reduceLE, Int.reduceLT, Int.reduceNeg, Int.natCast_nonneg, Int.reduceToNat, h0, h1, h5, h7, h6]
    refine ⟨⟨i + 1, List.zipWith max H (gN l i), ?_, by omega, rfl, by simp; omega, vecE_zip max_or hHv hr1.2 (by omega), fun j hj => ?_⟩, ?_⟩
    · rw [w64 (by omega)]; simp
    · by_cases hji : j = i
      · subst hji
        exact ⟨hr1, fun k hk => by rw [gN_zip (by omega) (by omega)]; omega⟩
      · have := hH j (by omega)
        exact ⟨this.1, fun k hk => by have := this.2 k hk; rw [gN_zip (by omega) (by omega)]; omega⟩
    · rw [w64 (by omega)]; omega
  simp at hge
  have hge : i = l.length := by omega
  subst hge
  obtain ⟨L, b1, b2⟩ := modU less (k := (l.length : Int)) (by omega)
  have b3 : IntKind.u64.wrap (l.length : Int) = l.length := u64 (by omega)
  have z : ((l.length : Int) = 0) = False := by simp; intro e; rw [e] at hn1; simp at hn1
  have f1 : newV (l.length : Int) = (newM l.length, 0) := if_pos (by omega)
  simp (config := {contextual := true, maxSteps := 1000000}) only [go_sem, ints, intRows, iv_c, Nat.reduceAdd, Nat.reduceBEq, Nat.reduceEqDiff, Nat.reduceLeDiff, Nat.reduceLT, reduceIte, Nat.le_refl, true_or, or_true, and_self, Int.reduceLE, Int.reduceLT, Int.reduceNeg, Int.natCast_nonneg, Int.reduceToNat, h0, h1, h5, h7, h6, b3, z, b1, if_false]
  first | refine caS_i (New_ok l.length) trivial ?_ | refine caD_i (New_ok l.length) trivial ?_ | refine gC_i (fun _ => New_ok l.length) trivial ?_ | refine gCD_i (fun _ => New_ok l.length) trivial ?_
  simp (config := {contextual := true, maxSteps := 1000000}) only [go_sem, ints, intRows, iv_c, Nat.reduceAdd, Nat.reduceBEq, Nat.reduceEqDiff, Nat.reduceLeDiff, Nat.reduceLT, reduceIte, Nat.le_refl, true_or, or_true, and_self, Int.reduceLE, Int.reduceLT, Int.reduceNeg, Int.natCast_nonneg, Int.reduceToNat, h0, h1, h5, h7, h6, f1]
  first | refine caS_i (New_ok l.length) trivial ?_ | refine caD_i (New_ok l.length) trivial ?_ | refine gC_i (fun _ => New_ok l.length) trivial ?_ | refine gCD_i (fun _ => New_ok l.length) trivial ?_
  simp (config := {contextual := true, maxSteps := 1000000}) only [go_sem, ints, intRows, iv_c, Nat.reduceAdd, Nat.reduceBEq, Nat.reduceEqDiff, Nat.reduceLeDiff, Nat.reduceLT, reduceIte, Nat.le_refl, true_or, or_true, and_self, Int.reduceLE, Int.reduceLT, Int.reduceNeg, Int.natCast_nonneg, Int.reduceToNat, h0, h1, h5, h7, h6, f1]
  refine wpC_lp (fun env ob n' => env 0 = intRows .b l ∧ env 1 = vi L ∧ env 5 = vi l.length ∧ env 6 = ints .b H ∧ env 11 = vi 0 ∧ ∃ (i : Nat) (M F : List (List Int)), env 12 = vi i ∧ i ≤ l.length ∧ env 8 = intRows .b M ∧ env 10 = intRows .b F ∧ M.length = l.length ∧ F.length = l.length ∧ (∀ j, j < l.length → gN M j = if j < i then gN l j else List.replicate l.length 0) ∧ ∀ j, j < l.length → gN F j = if j < i ∧ j ≠ L then gN l j else List.replicate l.length 0) (fun env ob _ => (l.length - iv (env 12)).toNat) ?_ ?_
  · simp (config := {contextual := true, maxSteps := 1000000}) only [go_sem, ints, intRows, iv_c, Nat.reduceAdd, Nat.reduceBEq, Nat.reduceEqDiff, Nat.reduceLeDiff, Nat.reduceLT, reduceIte, Nat.le_refl, true_or, or_true, and_self, Int.reduceLE, Int.reduceLT, Int.reduceNeg, Int.natCast_nonneg, Int.reduceToNat, h0, h5, h6]
    exact ⟨0, newM l.length, newM l.length, rfl, by omega, rfl, rfl, by simp [newM], by simp [newM], fun j hj => by simp [newM, gN_rep hj], fun j hj => by simp [newM, gN_rep hj]⟩
  clear h0 h1 h5 h7 h6
  rintro env ob n' ⟨h0, h1, h5, h6, h11, i, M, F, h12, hi, h8, h10, hMl, hFl, hM, hF⟩
  simp (config := {contextual := true, maxSteps := 1000000}) only [go_sem, ints, intRows, iv_c, Nat.reduceAdd, Nat.reduceBEq, Nat.reduceEqDiff, Nat.reduceLeDiff, Nat.reduceLT, reduceIte, Nat.le_refl, true_or, or_true, and_self, Int.reduceLE, Int.reduceLT, Int.reduceNeg, Int.natCast_nonneg, Int.reduceToNat, h0, h1, h5, h6, h11, h12, h8, h10]
  have hrow : ∀ j, j < l.length → (gN l j).length = l.length ∧ vecE (gN l j) = 0 := fun j hj => (hH j hj).1
  have hrep : (List.replicate l.length (0 : Int)).length = l.length ∧ vecE (List.replicate l.length 0) = 0 := ⟨by simp, vecE_rep hn1⟩
  have hME : matE M = 0 := matE_mk (by omega) fun j hj => by rw [hMl, hM j (by omega)]; split; exact hrow j (by omega); exact hrep
  have hFE : matE F = 0 := matE_mk (by omega) fun j hj => by rw [hFl, hF j (by omega)]; split; exact hrow j (by omega); exact hrep
  refine ⟨fun hlt => ?_, fun hge => ?_⟩
  · simp at hlt
    have hz : List.zipWith max (List.replicate l.length 0) (gN l i) = gN l i := zip_rep (hrow i hlt).1 fun x hx => ((vecE_range _ (hrow i hlt).2).2.2 x hx).1
    have e1 : learnV M H (i : Int) (gN l i) = (M.set i (gN l i), true, 0) := by
      rw [learn_yes hME (by omega) hHv (by rw [(hrow i hlt).1, hMl]) (hrow i hlt).2 (by omega) ((hH i hlt).2 i hlt), hM i hlt, if_neg (by omega), hz]
    have e2 : i ≠ L → learnV F H (i : Int) (gN l i) = (F.set i (gN l i), true, 0) := fun hne => by
      rw [learn_yes hFE (by omega) hHv (by rw [(hrow i hlt).1, hFl]) (hrow i hlt).2 (by omega) ((hH i hlt).2 i hlt), hF i hlt, if_neg (by omega), hz]
    have hM' : ∀ j, j < l.length → gN (M.set i (gN l i)) j = if j < i + 1 then gN l j else List.replicate l.length 0 := fun j hj => by
      by_cases hji : j = i
      · subst hji; rw [gN_set (by omega), if_pos (by omega)]
      · rw [gN_set2 hji, hM j hj]; by_cases h : j < i
        · rw [if_pos h, if_pos (by omega)]
        · rw [if_neg h, if_neg (by omega)]
    refine ⟨by omega, ?_⟩
    first | refine caS_i (Learn_ok M H i (gN l i) (by unfold maxLen; omega)) trivial ?_ | refine caD_i (Learn_ok M H i (gN l i) (by unfold maxLen; omega)) trivial ?_ | refine gC_i (fun _ => Learn_ok M H i (gN l i) (by unfold maxLen; omega)) trivial ?_ | refine gCD_i (fun _ => Learn_ok M H i (gN l i) (by unfold maxLen; omega)) trivial ?_
    simp (config := {contextual := true, maxSteps := 1000000}) only [go_sem, ints, intRows, iv_c, Nat.reduceAdd, Nat.reduceBEq, Nat.reduceEqDiff, Nat.reduceLeDiff, Nat.reduceLT, reduceIte, Nat.le_refl, true_or, or_true, and_self, Int.reduceLE, Int.reduceLT, Int.reduceNeg, Int.natCast_nonneg, Int.reduceToNat, h0, h1, h5, h6, h11, h12, h8, h10, e1]
    by_cases hne : i = L
    · have hne' : decide ((i : Int) = L) = true := by simp; omega
      simp (config := {contextual := true, maxSteps := 1000000}) only [go_sem, ints, intRows, iv_c, Nat.reduceAdd, Nat.reduceBEq, Nat.reduceEqDiff, Nat.reduceLeDiff, Nat.reduceLT, reduceIte, Nat.le_refl, true_or, or_true, and_self, Int.reduceLE, Int.reduceLT, Int.reduceNeg, Int.natCast_nonneg, Int.reduceToNat, h0, h1, h5, h6, h11, h12, h8, h10, e1, hne']
      refine ⟨⟨i + 1, M.set i (gN l i), F, ?_, by omega, rfl, rfl, by simp [hMl], hFl, hM', fun j hj => ?_⟩, ?_⟩
      · rw [w64 (by omega)]; simp
      · rw [hF j hj]
        by_cases h : j < i
        · rw [if_pos (by omega), if_pos (by omega)]
        · rw [if_neg (by omega), if_neg (by omega)]
      · rw [w64 (by omega)]; omega
    have hne' : decide ((i : Int) = L) = false := by simp; omega
    simp (config := {contextual := true, maxSteps := 1000000}) only [go_sem, ints, intRows, iv_c, Nat.reduceAdd, Nat.reduceBEq, Nat.reduceEqDiff, Nat.reduceLeDiff, Nat.reduceLT, reduceIte, Nat.le_refl, true_or, or_true, and_self, Int.reduceLE, Int.reduceLT, Int.reduceNeg, Int.natCast_nonneg, Int.reduceToNat, h0, h1, h5, h6, h11, h12, h8, h10, e1, hne']
    refine ⟨by omega, ?_⟩
    first | refine caS_i (Learn_ok F H i (gN l i) (by unfold maxLen; omega)) trivial ?_ | refine caD_i (Learn_ok F H i (gN l i) (by unfold maxLen; omega)) trivial ?_ | refine gC_i (fun _ => Learn_ok F H i (gN l i) (by unfold maxLen; omega)) trivial ?_ | refine gCD_i (fun _ => Learn_ok F H i (gN l i) (by unfold maxLen; omega)) trivial ?_
    simp (config := {contextual := true, maxSteps := 1000000}) only [go_sem, ints, intRows, iv_c, Nat.reduceAdd, Nat.reduceBEq, Nat.reduceEqDiff, Nat.reduceLeDiff, Nat.reduceLT, reduceIte, Nat.le_refl, true_or, or_true, and_self, Int.reduceLE, Int.reduceLT, Int.reduceNeg, Int.natCast_nonneg, Int.reduceToNat, h0, h1, h5, h6, h11, h12, h8, h10, e2 hne]
    refine ⟨⟨i + 1, M.set i (gN l i), F.set i (gN l i), ?_, by omega, rfl, rfl, by simp [hMl], by simp [hFl], hM', fun j hj => ?_⟩, ?_⟩
    · rw [w64 (by omega)]; simp
    · by_cases hji : j = i
      · subst hji; rw [gN_set (by omega), if_pos (by omega)]
      · rw [gN_set2 hji, hF j hj]; by_cases h : j < i ∧ j ≠ L
        · rw [if_pos h, if_pos (by omega)]
        · rw [if_neg h, if_neg (by omega)]
    · rw [w64 (by omega)]; omega
  simp at hge
  have hge : i = l.length := by omega
  subst hge
  have hMeq : M = l := list_iff'.2 ⟨hMl, fun j hj => by rw [hM j (by omega), if_pos (by omega)]⟩
  subst hMeq
  have hlne : M ≠ [] := by intro e; rw [e] at hn1; simp at hn1
  have hlE : ∀ v ∈ M, vecE v = 0 ∧ v.length = M.length := fun v hv => by
    obtain ⟨j, hj, rfl⟩ := List.getElem_of_mem hv
    have := hrow j hj; rw [gN_eq hj] at this; exact ⟨this.2, this.1⟩
  have hFE2 : ∀ v ∈ F, vecE v = 0 ∧ v.length = M.length := fun v hv => by
    have := matE_at hFE
    have := this.2 v hv
    exact ⟨this.2, by omega⟩
  have hFne : F ≠ [] := by intro e; rw [e] at hFl; simp at hFl; omega
  obtain ⟨LM, c1, c2, c3, c4⟩ := least_yes hlne hlE
  obtain ⟨LF, d1, d2, d3, d4⟩ := least_yes hFne hFE2
  have hLF : LF = List.replicate M.length 0 := list_iff'.2 ⟨by simp [d3], fun k hk => by
    obtain ⟨x1, w, hw, x2⟩ := d4 k (by omega)
    have x3 := x1 _ (gN_mem (l := F) (i := L) (by omega))
    rw [hF L (by omega), if_neg (by omega), gN_rep (by omega)] at x3
    have x4 := (vecE_range _ (hFE2 w hw).1).2.2 (gN w k) (gN_mem (by rw [(hFE2 w hw).2]; omega))
    rw [gN_rep (by omega)]; omega⟩
  have g1 : frontV M = (LM, 0) := by rw [frontV, if_neg (by simpa using hME), c1]
  have g2 : frontV F = (List.replicate M.length 0, 0) := by rw [frontV, if_neg (by simpa using hFE), d1, hLF]
  first | refine caS_i (Frontier_ok M (by unfold maxLen; omega)) trivial ?_ | refine caD_i (Frontier_ok M (by unfold maxLen; omega)) trivial ?_ | refine gC_i (fun _ => Frontier_ok M (by unfold maxLen; omega)) trivial ?_ | refine gCD_i (fun _ => Frontier_ok M (by unfold maxLen; omega)) trivial ?_
  simp (config := {contextual := true, maxSteps := 1000000}) only [go_sem, ints, intRows, iv_c, Nat.reduceAdd, Nat.reduceBEq, Nat.reduceEqDiff, Nat.reduceLeDiff, Nat.reduceLT, reduceIte, Nat.le_refl, true_or, or_true, and_self, Int.reduceLE, Int.reduceLT, Int.reduceNeg, Int.natCast_nonneg, Int.reduceToNat, h0, h1, h5, h6, h11, h12, h8, h10, g1]
  first | refine caS_i (Frontier_ok F (by unfold maxLen; omega)) trivial ?_ | refine caD_i (Frontier_ok F (by unfold maxLen; omega)) trivial ?_ | refine gC_i (fun _ => Frontier_ok F (by unfold maxLen; omega)) trivial ?_ | refine gCD_i (fun _ => Frontier_ok F (by unfold maxLen; omega)) trivial ?_
  simp (config := {contextual := true, maxSteps := 1000000}) only [go_sem, ints, intRows, iv_c, Nat.reduceAdd, Nat.reduceBEq, Nat.reduceEqDiff, Nat.reduceLeDiff, Nat.reduceLT, reduceIte, Nat.le_refl, true_or, or_true, and_self, Int.reduceLE, Int.reduceLT, Int.reduceNeg, Int.natCast_nonneg, Int.reduceToNat, h0, h1, h5, h6, h11, h12, h8, h10, g2]
  first | refine caS_i (Least_ok M (by unfold maxLen; omega)) trivial ?_ | refine caD_i (Least_ok M (by unfold maxLen; omega)) trivial ?_ | refine gC_i (fun _ => Least_ok M (by unfold maxLen; omega)) trivial ?_ | refine gCD_i (fun _ => Least_ok M (by unfold maxLen; omega)) trivial ?_
  simp (config := {contextual := true, maxSteps := 1000000}) only [go_sem, ints, intRows, iv_c, Nat.reduceAdd, Nat.reduceBEq, Nat.reduceEqDiff, Nat.reduceLeDiff, Nat.reduceLT, reduceIte, Nat.le_refl, true_or, or_true, and_self, Int.reduceLE, Int.reduceLT, Int.reduceNeg, Int.natCast_nonneg, Int.reduceToNat, h0, h1, h5, h6, h11, h12, h8, h10, c1]
  first | refine caS_i (Ints_ok LM LM (by unfold maxLen; omega)) trivial ?_ | refine caD_i (Ints_ok LM LM (by unfold maxLen; omega)) trivial ?_ | refine gC_i (fun _ => Ints_ok LM LM (by unfold maxLen; omega)) trivial ?_ | refine gCD_i (fun _ => Ints_ok LM LM (by unfold maxLen; omega)) trivial ?_
  simp (config := {contextual := true, maxSteps := 1000000}) only [go_sem, ints, intRows, iv_c, Nat.reduceAdd, Nat.reduceBEq, Nat.reduceEqDiff, Nat.reduceLeDiff, Nat.reduceLT, reduceIte, Nat.le_refl, true_or, or_true, and_self, Int.reduceLE, Int.reduceLT, Int.reduceNeg, Int.natCast_nonneg, Int.reduceToNat, h0, h1, h5, h6, h11, h12, h8, h10, eq_self]
  refine ⟨by simp [maxLen]; omega, ?_⟩
  first | refine caS_i (Ints_ok (List.replicate M.length 0) (List.replicate M.length 0) (by simp [maxLen]; omega)) trivial ?_ | refine caD_i (Ints_ok (List.replicate M.length 0) (List.replicate M.length 0) (by simp [maxLen]; omega)) trivial ?_ | refine gC_i (fun _ => Ints_ok (List.replicate M.length 0) (List.replicate M.length 0) (by simp [maxLen]; omega)) trivial ?_ | refine gCD_i (fun _ => Ints_ok (List.replicate M.length 0) (List.replicate M.length 0) (by simp [maxLen]; omega)) trivial ?_
  simp (config := {contextual := true, maxSteps := 1000000}) only [go_sem, ints, intRows, iv_c, Nat.reduceAdd, Nat.reduceBEq, Nat.reduceEqDiff, Nat.reduceLeDiff, Nat.reduceLT, reduceIte, Nat.le_refl, true_or, or_true, and_self, Int.reduceLE, Int.reduceLT, Int.reduceNeg, Int.natCast_nonneg, Int.reduceToNat, h0, h1, h5, h6, h11, h12, h8, h10, eq_self]
  first | refine caS_i (IntRows_ok M M (by unfold maxLen; omega) (fun v hv => by rw [(hlE v hv).2]; unfold maxLen; omega)) trivial ?_ | refine caD_i (IntRows_ok M M (by unfold maxLen; omega) (fun v hv => by rw [(hlE v hv).2]; unfold maxLen; omega)) trivial ?_ | refine gC_i (fun _ => IntRows_ok M M (by unfold maxLen; omega) (fun v hv => by rw [(hlE v hv).2]; unfold maxLen; omega)) trivial ?_ | refine gCD_i (fun _ => IntRows_ok M M (by unfold maxLen; omega) (fun v hv => by rw [(hlE v hv).2]; unfold maxLen; omega)) trivial ?_
  simp (config := {contextual := true, maxSteps := 1000000}) only [go_sem, ints, intRows, iv_c, Nat.reduceAdd, Nat.reduceBEq, Nat.reduceEqDiff, Nat.reduceLeDiff, Nat.reduceLT, reduceIte, Nat.le_refl, true_or, or_true, and_self, Int.reduceLE, Int.reduceLT, Int.reduceNeg, Int.natCast_nonneg, Int.reduceToNat, h0, h1, h5, h6, h11, h12, h8, h10, eq_self]
  first | refine caS_i (wakes11_ok) trivial ?_ | refine caD_i (wakes11_ok) trivial ?_ | refine gC_i (fun _ => wakes11_ok) trivial ?_ | refine gCD_i (fun _ => wakes11_ok) trivial ?_
  simp (config := {contextual := true, maxSteps := 1000000}) only [go_sem, ints, intRows, iv_c, Nat.reduceAdd, Nat.reduceBEq, Nat.reduceEqDiff, Nat.reduceLeDiff, Nat.reduceLT, reduceIte, Nat.le_refl, true_or, or_true, and_self, Int.reduceLE, Int.reduceLT, Int.reduceNeg, Int.natCast_nonneg, Int.reduceToNat]
theorem MatAll_law (l : List (List Int)) (less : Int) (hl : gList (gList (gInt .i64)) l) (_ : gInt .i64 less) : FnB Try.prog 9 [intRows .b l, vi less] (vb true) := MatAll_ok l less
end Go.Proofs.Ytamdidmfcjdcgaa.D
