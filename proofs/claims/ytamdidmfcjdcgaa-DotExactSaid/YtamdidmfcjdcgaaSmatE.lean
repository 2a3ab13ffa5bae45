/- MatRises. No condition. -/
import Derived.Test.YtamdidmfcjdcgaaSmatD
set_option linter.unusedVariables false
set_option linter.unusedSimpArgs false
set_option maxRecDepth 100000
namespace Go.Proofs.Ytamdidmfcjdcgaa.D
open Go Go.Proofs

/-- What learning does. -/
theorem learn_all {m : List (List Int)} {h_ : List Int} {p : Nat} {safe : List Int} (h : matE m = 0) (h1 : h_.length = m.length) (h2 : vecE h_ = 0) (h3 : safe.length = m.length) (h4 : vecE safe = 0) (h5 : p < m.length) :
    ∃ x ok, learnV m h_ (p : Int) safe = (x, ok, 0) ∧ learnV x h_ (p : Int) safe = (x, ok, 0) ∧ ok = decide (gN safe p ≤ gN h_ p) ∧ x.length = m.length ∧ matE x = 0 ∧ (∀ k, k < m.length → leB (gN m k) (gN x k) = true) ∧ (∀ k, k < m.length → k ≠ p → gN m k = gN x k) ∧ (ok = true → leB safe (gN x p) = true) := by
  have hm := matE_at h
  have hr : ∀ k, k < m.length → (gN m k).length = m.length ∧ vecE (gN m k) = 0 := fun k hk => hm.2 _ (gN_mem hk)
  by_cases h6 : gN safe p ≤ gN h_ p
  · have hp := hr p h5
    have hz : ∀ k, k < m.length → gN (List.zipWith max (gN m p) safe) k = max (gN (gN m p) k) (gN safe k) := fun k hk => gN_zip (by omega) (by omega)
    have hzl : (List.zipWith max (gN m p) safe).length = m.length := by simp; omega
    have hE : matE (m.set p (List.zipWith max (gN m p) safe)) = 0 := by
      refine matE_mk (by simpa using hm.1) fun i hi => ?_
      simp at hi
      by_cases hip : i = p
      · subst hip; rw [gN_set hi]; exact ⟨by simpa using hzl, vecE_zip max_or hp.2 h4 (by omega)⟩
      · rw [gN_set2 hip]; simpa using hr i hi
    refine ⟨m.set p (List.zipWith max (gN m p) safe), true, learn_yes h h1 h2 h3 h4 h5 h6, ?_, by simp [h6], by simp, hE, fun k hk => ?_, fun k hk hkp => by rw [gN_set2 hkp], fun _ => ?_⟩
    · rw [learn_yes hE (by simpa using h1) h2 (by simpa using h3) h4 (by simpa using h5) h6, gN_set h5, List.set_set]
      have : List.zipWith max (List.zipWith max (gN m p) safe) safe = List.zipWith max (gN m p) safe := list_iff'.2 ⟨by simp <;> omega, fun k hk => by
        simp at hk; rw [gN_zip (by simp; omega) (by omega), gN_zip (by omega) (by omega)]; omega⟩
      rw [this]
    · by_cases hkp : k = p
      · subst hkp; rw [gN_set h5]; exact leB_iff.2 ⟨by omega, fun i hi => by rw [hz i (by omega)]; omega⟩
      · rw [gN_set2 hkp]; exact leB_iff.2 ⟨rfl, fun _ _ => Int.le_refl _⟩
    · rw [gN_set h5]; exact leB_iff.2 ⟨by omega, fun i hi => by rw [hz i (by omega)]; omega⟩
  · have e := learn_no h h1 h2 h3 h4 h5 (by omega)
    exact ⟨m, false, e, e, by simp; omega, rfl, h, fun k hk => leB_iff.2 ⟨rfl, fun _ _ => Int.le_refl _⟩, fun _ _ _ => rfl, fun h => by cases h⟩

theorem front_yes {m : List (List Int)} (h : matE m = 0) : ∃ L, frontV m = (L, 0) ∧ vecE L = 0 ∧ L.length = m.length ∧ ∀ k, k < m.length → (∀ j, j < m.length → gN L k ≤ gN (gN m j) k) ∧ ∃ j, j < m.length ∧ gN L k = gN (gN m j) k := by
  have hm := matE_at h
  obtain ⟨L, a1, a2, a3, a4⟩ := least_yes (n := m.length) (l := m) (by intro e; rw [e] at hm; simp at hm) fun v hv => ⟨(hm.2 v hv).2, (hm.2 v hv).1⟩
  refine ⟨L, by rw [frontV, if_neg (by simpa using h), a1], a2, a3, fun k hk => ?_⟩
  obtain ⟨b1, v, hv, b2⟩ := a4 k hk
  refine ⟨fun j hj => b1 _ (gN_mem hj), ?_⟩
  obtain ⟨j, hj, rfl⟩ := List.getElem_of_mem hv
  exact ⟨j, hj, by rw [b2, gN_eq hj]⟩

set_option maxHeartbeats 2000000 in
theorem MatRises_ok (n : Int) (l : List (List Int)) (peers : List Int) (d : Dt) : FnB Try.prog 11 [vi n, intRows .b l, ints .b peers, .ag (dotV d)] (vb true) := by
  refine fnB_intro cf11 (by simp) ?_
  obtain ⟨N, a1, a2⟩ := modU n (k := 5) (by omega)
  have a3 : IntKind.i64.wrap (1 + (N : Int)) = ((N + 1 : Nat) : Int) := by rw [w64 (by omega)]; omega
  have a4 : IntKind.u64.wrap ((N + 1 : Nat) : Int) = ((N + 1 : Nat) : Int) := u64 (by omega)
  have z : (((N + 1 : Nat) : Int) = 0) = False := by simp; omega
  have hN : 1 ≤ N + 1 ∧ N + 1 ≤ 5 := by omega
  generalize N + 1 = N at *
  simp (config := {contextual := true, maxSteps := 1000000}) only [go_sem, ints, intRows, iv_c, Nat.reduceAdd, Nat.reduceBEq, Nat.reduceEqDiff, Nat.reduceLeDiff, Nat.reduceLT, reduceIte, Nat.le_refl, true_or, or_true, and_self, Int.reduceLE, Int.reduceLT, Int.reduceNeg, Int.natCast_nonneg, Int.reduceToNat, c11, Int.reduceEq, ite_false, if_false, a1, a3, a4, z, dotV]
  have f1 : newV N = (newM N, 0) := if_pos (by omega)
  intro hh
  have hh : l.length ≤ 30 ∧ peers.length ≤ 100 := by simp at hh; omega
  first | refine caS_i (New_ok N) trivial ?_ | refine caD_i (New_ok N) trivial ?_ | refine gC_i (fun _ => New_ok N) trivial ?_ | refine gCD_i (fun _ => New_ok N) trivial ?_
  simp (config := {contextual := true, maxSteps := 1000000}) only [go_sem, ints, intRows, iv_c, Nat.reduceAdd, Nat.reduceBEq, Nat.reduceEqDiff, Nat.reduceLeDiff, Nat.reduceLT, reduceIte, Nat.le_refl, true_or, or_true, and_self, Int.reduceLE, Int.reduceLT, Int.reduceNeg, Int.natCast_nonneg, Int.reduceToNat, f1, dotV]
  refine wpC_lp (fun env ob n => env 0 = vi N ∧ env 1 = intRows .b l ∧ env 2 = ints .b peers ∧ env 7 = .pt 0 0 0 ∧ ob 0 = some ⟨2, [dotV d], none⟩ ∧ ∃ (i : Nat) (M : List (List Int)), env 11 = vi i ∧ i ≤ peers.length ∧ env 9 = intRows .b M ∧ M.length = N ∧ matE M = 0) (fun env ob n => (peers.length - iv (env 11)).toNat) ?_ ?_
  · simp (config := {contextual := true, maxSteps := 1000000}) only [go_sem, ints, intRows, iv_c, Nat.reduceAdd, Nat.reduceBEq, Nat.reduceEqDiff, Nat.reduceLeDiff, Nat.reduceLT, reduceIte, Nat.le_refl, true_or, or_true, and_self, Int.reduceLE, Int.reduceLT, Int.reduceNeg, Int.natCast_nonneg, Int.reduceToNat, dotV]
    exact ⟨0, newM N, rfl, by omega, rfl, by simp [newM], matE_new hN⟩
  rintro env ob n ⟨h0, h1, h2, h7, hob, i, M, h11, hi, h9, hMl, hME⟩
  have w1 : IntKind.i64.wrap ((i : Int) + 1) = ((i + 1 : Nat) : Int) := by rw [w64 (by omega)]; omega
  simp (config := {contextual := true, maxSteps := 1000000}) only [go_sem, ints, intRows, iv_c, Nat.reduceAdd, Nat.reduceBEq, Nat.reduceEqDiff, Nat.reduceLeDiff, Nat.reduceLT, reduceIte, Nat.le_refl, true_or, or_true, and_self, Int.reduceLE, Int.reduceLT, Int.reduceNeg, Int.natCast_nonneg, Int.reduceToNat, h0, h1, h2, h7, hob, h11, h9, w1, dotV, Int.toNat_natCast]
  refine ⟨fun hlt => ?_, fun hge => ?_⟩
  · simp at hlt
    refine ⟨by omega, fun _ => by omega, fun _ => by omega, ?_⟩
    refine gC_i (fun _ => Vector_ok (gN l i)) trivial ?_
    simp (config := {contextual := true, maxSteps := 1000000}) only [go_sem, ints, intRows, iv_c, Nat.reduceAdd, Nat.reduceBEq, Nat.reduceEqDiff, Nat.reduceLeDiff, Nat.reduceLT, reduceIte, Nat.le_refl, true_or, or_true, and_self, Int.reduceLE, Int.reduceLT, Int.reduceNeg, Int.natCast_nonneg, Int.reduceToNat, h0, h1, h2, h7, hob, h11, h9, w1, dotV, Int.toNat_natCast]
    refine ⟨fun _ => by omega, ?_⟩
    refine gC_i (fun _ => Vector_ok (gN l (i + 1))) trivial ?_
    simp (config := {contextual := true, maxSteps := 1000000}) only [go_sem, ints, intRows, iv_c, Nat.reduceAdd, Nat.reduceBEq, Nat.reduceEqDiff, Nat.reduceLeDiff, Nat.reduceLT, reduceIte, Nat.le_refl, true_or, or_true, and_self, Int.reduceLE, Int.reduceLT, Int.reduceNeg, Int.natCast_nonneg, Int.reduceToNat, h0, h1, h2, h7, hob, h11, h9, w1, dotV, Int.toNat_natCast]
    refine ⟨fun hc => ?_, fun hc => ?_⟩
    · refine ⟨⟨i + 1, M, rfl, by omega, rfl, hMl, hME⟩, by omega⟩
    obtain ⟨r1, r2, r3, r4⟩ : (gN l i).length = N ∧ (gN l (i + 1)).length = N ∧ vecE (gN l i) = 0 ∧ vecE (gN l (i + 1)) = 0 := by
      simp at hc; exact ⟨by omega, by omega, hc.1.2, hc.2⟩
    refine ⟨by omega, ?_⟩
    obtain ⟨p, p1, p2⟩ := modU (gN peers i) (k := (N : Int)) (by omega)
    have hp : p < M.length := by omega
    obtain ⟨X, ok, e1, e2, e3, e4, e5, e6, e7, e8⟩ := learn_all hME (by omega) r3 (by omega) r4 hp
    obtain ⟨WM, m1, m2, m3, m4⟩ := front_yes hME
    obtain ⟨WX, x1, x2, x3, x4⟩ := front_yes e5
    simp (config := {contextual := true, maxSteps := 1000000}) only [go_sem, ints, intRows, iv_c, Nat.reduceAdd, Nat.reduceBEq, Nat.reduceEqDiff, Nat.reduceLeDiff, Nat.reduceLT, reduceIte, Nat.le_refl, true_or, or_true, and_self, Int.reduceLE, Int.reduceLT, Int.reduceNeg, Int.natCast_nonneg, Int.reduceToNat, h0, h1, h2, h7, hob, h11, h9, w1, dotV, Int.toNat_natCast, a4, z, if_false, p1]
    first | refine caS_i (Frontier_ok M (by unfold maxLen; omega)) trivial ?_ | refine caD_i (Frontier_ok M (by unfold maxLen; omega)) trivial ?_ | refine gC_i (fun _ => Frontier_ok M (by unfold maxLen; omega)) trivial ?_ | refine gCD_i (fun _ => Frontier_ok M (by unfold maxLen; omega)) trivial ?_
    simp (config := {contextual := true, maxSteps := 1000000}) only [go_sem, ints, intRows, iv_c, Nat.reduceAdd, Nat.reduceBEq, Nat.reduceEqDiff, Nat.reduceLeDiff, Nat.reduceLT, reduceIte, Nat.le_refl, true_or, or_true, and_self, Int.reduceLE, Int.reduceLT, Int.reduceNeg, Int.natCast_nonneg, Int.reduceToNat, h0, h1, h2, h7, hob, h11, h9, w1, dotV, Int.toNat_natCast, m1]
    repeat (refine ⟨by omega, ?_⟩)
    first | refine caS_i (Learn_ok M (gN l i) p (gN l (i + 1)) (by unfold maxLen; omega)) trivial ?_ | refine caD_i (Learn_ok M (gN l i) p (gN l (i + 1)) (by unfold maxLen; omega)) trivial ?_ | refine gC_i (fun _ => Learn_ok M (gN l i) p (gN l (i + 1)) (by unfold maxLen; omega)) trivial ?_ | refine gCD_i (fun _ => Learn_ok M (gN l i) p (gN l (i + 1)) (by unfold maxLen; omega)) trivial ?_
    simp (config := {contextual := true, maxSteps := 1000000}) only [go_sem, ints, intRows, iv_c, Nat.reduceAdd, Nat.reduceBEq, Nat.reduceEqDiff, Nat.reduceLeDiff, Nat.reduceLT, reduceIte, Nat.le_refl, true_or, or_true, and_self, Int.reduceLE, Int.reduceLT, Int.reduceNeg, Int.natCast_nonneg, Int.reduceToNat, h0, h1, h2, h7, hob, h11, h9, w1, dotV, Int.toNat_natCast, e1]
    repeat (refine ⟨by omega, ?_⟩)
    first | refine caS_i (Learn_ok X (gN l i) p (gN l (i + 1)) (by unfold maxLen; omega)) trivial ?_ | refine caD_i (Learn_ok X (gN l i) p (gN l (i + 1)) (by unfold maxLen; omega)) trivial ?_ | refine gC_i (fun _ => Learn_ok X (gN l i) p (gN l (i + 1)) (by unfold maxLen; omega)) trivial ?_ | refine gCD_i (fun _ => Learn_ok X (gN l i) p (gN l (i + 1)) (by unfold maxLen; omega)) trivial ?_
    simp (config := {contextual := true, maxSteps := 1000000}) only [go_sem, ints, intRows, iv_c, Nat.reduceAdd, Nat.reduceBEq, Nat.reduceEqDiff, Nat.reduceLeDiff, Nat.reduceLT, reduceIte, Nat.le_refl, true_or, or_true, and_self, Int.reduceLE, Int.reduceLT, Int.reduceNeg, Int.natCast_nonneg, Int.reduceToNat, h0, h1, h2, h7, hob, h11, h9, w1, dotV, Int.toNat_natCast, e2]
    first | refine caS_i (Frontier_ok X (by unfold maxLen; omega)) trivial ?_ | refine caD_i (Frontier_ok X (by unfold maxLen; omega)) trivial ?_ | refine gC_i (fun _ => Frontier_ok X (by unfold maxLen; omega)) trivial ?_ | refine gCD_i (fun _ => Frontier_ok X (by unfold maxLen; omega)) trivial ?_
    have f0 : (ok == decide (gN (gN l (i + 1)) p ≤ gN (gN l i) p)) = true := by rw [e3]; simp
    have f2 : leB WM WX = true := leB_iff.2 ⟨by omega, fun k hk => by
      have y1 := (m4 k (by omega)).1; obtain ⟨_, j, y2, y3⟩ := x4 k (by omega)
      have y4 := (leB_iff.1 (e6 j (by omega))).2 k (by rw [((matE_at hME).2 _ (gN_mem (by omega))).1]; omega)
      have := y1 j (by omega); omega⟩
    have f3 : ∀ k, k < N → leB WX (gN X k) = true := fun k hk => leB_iff.2 ⟨by rw [((matE_at e5).2 _ (gN_mem (by omega))).1]; omega, fun j hj => (x4 j (by omega)).1 k (by omega)⟩
    simp (config := {contextual := true, maxSteps := 1000000}) only [go_sem, ints, intRows, iv_c, Nat.reduceAdd, Nat.reduceBEq, Nat.reduceEqDiff, Nat.reduceLeDiff, Nat.reduceLT, reduceIte, Nat.le_refl, true_or, or_true, and_self, Int.reduceLE, Int.reduceLT, Int.reduceNeg, Int.natCast_nonneg, Int.reduceToNat, h0, h1, h2, h7, hob, h11, h9, w1, dotV, Int.toNat_natCast, x1, f0, Bool.false_or, Bool.not_true]
    repeat (refine ⟨by omega, ?_⟩)
    first | refine caS_i (IntRows_ok X X (by unfold maxLen; omega) (fun v hv => by rw [((matE_at e5).2 v hv).1]; unfold maxLen; omega)) trivial ?_ | refine caD_i (IntRows_ok X X (by unfold maxLen; omega) (fun v hv => by rw [((matE_at e5).2 v hv).1]; unfold maxLen; omega)) trivial ?_ | refine gC_i (fun _ => IntRows_ok X X (by unfold maxLen; omega) (fun v hv => by rw [((matE_at e5).2 v hv).1]; unfold maxLen; omega)) trivial ?_ | refine gCD_i (fun _ => IntRows_ok X X (by unfold maxLen; omega) (fun v hv => by rw [((matE_at e5).2 v hv).1]; unfold maxLen; omega)) trivial ?_
    simp (config := {contextual := true, maxSteps := 1000000}) only [go_sem, ints, intRows, iv_c, Nat.reduceAdd, Nat.reduceBEq, Nat.reduceEqDiff, Nat.reduceLeDiff, Nat.reduceLT, reduceIte, Nat.le_refl, true_or, or_true, and_self, Int.reduceLE, Int.reduceLT, Int.reduceNeg, Int.natCast_nonneg, Int.reduceToNat, h0, h1, h2, h7, hob, h11, h9, w1, dotV, Int.toNat_natCast, eq_self]
    first | refine caS_i (Le_ok WM WX (by unfold maxLen; omega)) trivial ?_ | refine caD_i (Le_ok WM WX (by unfold maxLen; omega)) trivial ?_ | refine gC_i (fun _ => Le_ok WM WX (by unfold maxLen; omega)) trivial ?_ | refine gCD_i (fun _ => Le_ok WM WX (by unfold maxLen; omega)) trivial ?_
    simp (config := {contextual := true, maxSteps := 1000000}) only [go_sem, ints, intRows, iv_c, Nat.reduceAdd, Nat.reduceBEq, Nat.reduceEqDiff, Nat.reduceLeDiff, Nat.reduceLT, reduceIte, Nat.le_refl, true_or, or_true, and_self, Int.reduceLE, Int.reduceLT, Int.reduceNeg, Int.natCast_nonneg, Int.reduceToNat, h0, h1, h2, h7, hob, h11, h9, w1, dotV, Int.toNat_natCast, f2]
    have hXl : X.length = N := by omega
    first | refine caS_i (MCheck_ok X (by unfold maxLen; omega)) trivial ?_ | refine caD_i (MCheck_ok X (by unfold maxLen; omega)) trivial ?_ | refine gC_i (fun _ => MCheck_ok X (by unfold maxLen; omega)) trivial ?_ | refine gCD_i (fun _ => MCheck_ok X (by unfold maxLen; omega)) trivial ?_
    simp (config := {contextual := true, maxSteps := 1000000}) only [go_sem, ints, intRows, iv_c, Nat.reduceAdd, Nat.reduceBEq, Nat.reduceEqDiff, Nat.reduceLeDiff, Nat.reduceLT, reduceIte, Nat.le_refl, true_or, or_true, and_self, Int.reduceLE, Int.reduceLT, Int.reduceNeg, Int.natCast_nonneg, Int.reduceToNat, h0, h1, h2, h7, hob, h11, h9, w1, dotV, Int.toNat_natCast, e5, hXl, eq_self, Bool.or_false]
    refine wpC_lp (fun env ob n => env 0 = vi N ∧ env 1 = intRows .b l ∧ env 2 = ints .b peers ∧ env 7 = .pt 0 0 0 ∧ ob 0 = some ⟨2, [dotV d], none⟩ ∧ env 11 = vi i ∧ env 9 = intRows .b M ∧ env 12 = vi p ∧ env 15 = intRows .b X ∧ env 16 = vb ok ∧ env 21 = ints .b WX ∧ ∃ (k : Nat) (all : Bool), env 24 = vi k ∧ k ≤ N ∧ env 23 = vb all ∧ (all = true ↔ ∀ j, j < k → hasB (gN X j) d = true)) (fun env ob n => (N - iv (env 24)).toNat) ?_ ?_
    · simp (config := {contextual := true, maxSteps := 1000000}) only [go_sem, ints, intRows, iv_c, Nat.reduceAdd, Nat.reduceBEq, Nat.reduceEqDiff, Nat.reduceLeDiff, Nat.reduceLT, reduceIte, Nat.le_refl, true_or, or_true, and_self, Int.reduceLE, Int.reduceLT, Int.reduceNeg, Int.natCast_nonneg, Int.reduceToNat, h0, h1, h2, h7, hob, h11, h9, w1, dotV, Int.toNat_natCast]
      exact ⟨0, true, rfl, by omega, rfl, by simp⟩
    clear h0 h1 h2 h7 hob h11 h9
    rintro env ob n ⟨h0, h1, h2, h7, hob, h11, h9, h12, h15, h16, h21, k, all, h24, hk, h23, hall⟩
    simp (config := {contextual := true, maxSteps := 1000000}) only [go_sem, ints, intRows, iv_c, Nat.reduceAdd, Nat.reduceBEq, Nat.reduceEqDiff, Nat.reduceLeDiff, Nat.reduceLT, reduceIte, Nat.le_refl, true_or, or_true, and_self, Int.reduceLE, Int.reduceLT, Int.reduceNeg, Int.natCast_nonneg, Int.reduceToNat, h0, h1, h2, h7, hob, h11, h9, h12, h15, h16, h21, h23, h24, w1, dotV, Int.toNat_natCast]
    refine ⟨fun hlt2 => ?_, fun hge2 => ?_⟩
    · simp at hlt2
      repeat (refine ⟨by omega, ?_⟩)
      first | refine caS_i (Le_ok (gN M k) (gN X k) (by rw [((matE_at hME).2 _ (gN_mem (by omega))).1]; unfold maxLen; omega)) trivial ?_ | refine caD_i (Le_ok (gN M k) (gN X k) (by rw [((matE_at hME).2 _ (gN_mem (by omega))).1]; unfold maxLen; omega)) trivial ?_ | refine gC_i (fun _ => Le_ok (gN M k) (gN X k) (by rw [((matE_at hME).2 _ (gN_mem (by omega))).1]; unfold maxLen; omega)) trivial ?_ | refine gCD_i (fun _ => Le_ok (gN M k) (gN X k) (by rw [((matE_at hME).2 _ (gN_mem (by omega))).1]; unfold maxLen; omega)) trivial ?_
      have g1 := e6 k (by omega)
      have g2 := f3 k hlt2
      simp (config := {contextual := true, maxSteps := 1000000}) only [go_sem, ints, intRows, iv_c, Nat.reduceAdd, Nat.reduceBEq, Nat.reduceEqDiff, Nat.reduceLeDiff, Nat.reduceLT, reduceIte, Nat.le_refl, true_or, or_true, and_self, Int.reduceLE, Int.reduceLT, Int.reduceNeg, Int.natCast_nonneg, Int.reduceToNat, h0, h1, h2, h7, hob, h11, h9, h12, h15, h16, h21, h23, h24, w1, dotV, Int.toNat_natCast, g1]
      repeat (refine ⟨by omega, ?_⟩)
      first | refine caS_i (Le_ok WX (gN X k) (by unfold maxLen; omega)) trivial ?_ | refine caD_i (Le_ok WX (gN X k) (by unfold maxLen; omega)) trivial ?_ | refine gC_i (fun _ => Le_ok WX (gN X k) (by unfold maxLen; omega)) trivial ?_ | refine gCD_i (fun _ => Le_ok WX (gN X k) (by unfold maxLen; omega)) trivial ?_
      simp (config := {contextual := true, maxSteps := 1000000}) only [go_sem, ints, intRows, iv_c, Nat.reduceAdd, Nat.reduceBEq, Nat.reduceEqDiff, Nat.reduceLeDiff, Nat.reduceLT, reduceIte, Nat.le_refl, true_or, or_true, and_self, Int.reduceLE, Int.reduceLT, Int.reduceNeg, Int.natCast_nonneg, Int.reduceToNat, h0, h1, h2, h7, hob, h11, h9, h12, h15, h16, h21, h23, h24, w1, dotV, Int.toNat_natCast, g2]
      refine ⟨fun _ => by omega, fun _ => by omega, ?_⟩
      refine gCD_i (fun _ => Ints_ok (gN M k) (gN X k) (by rw [((matE_at hME).2 _ (gN_mem (by omega))).1]; unfold maxLen; omega)) trivial ?_
      have g3 : (if decide ((k : Int) = p) = true then false else !decide (gN M k = gN X k)) = false := by
        by_cases hkp : k = p
        · simp [hkp]
        · have := e7 k (by omega) hkp; simp [this]
      have w2 : IntKind.i64.wrap ((k : Int) + 1) = ((k + 1 : Nat) : Int) := by rw [w64 (by omega)]; omega
      simp (config := {contextual := true, maxSteps := 1000000}) only [go_sem, ints, intRows, iv_c, Nat.reduceAdd, Nat.reduceBEq, Nat.reduceEqDiff, Nat.reduceLeDiff, Nat.reduceLT, reduceIte, Nat.le_refl, true_or, or_true, and_self, Int.reduceLE, Int.reduceLT, Int.reduceNeg, Int.natCast_nonneg, Int.reduceToNat, h0, h1, h2, h7, hob, h11, h9, h12, h15, h16, h21, h23, h24, w1, dotV, Int.toNat_natCast, g3, w2]
      refine ⟨fun _ => by omega, ?_⟩
      refine gCD_i (fun _ => Has_ok (gN X k) d) trivial ?_
      simp (config := {contextual := true, maxSteps := 1000000}) only [go_sem, ints, intRows, iv_c, Nat.reduceAdd, Nat.reduceBEq, Nat.reduceEqDiff, Nat.reduceLeDiff, Nat.reduceLT, reduceIte, Nat.le_refl, true_or, or_true, and_self, Int.reduceLE, Int.reduceLT, Int.reduceNeg, Int.natCast_nonneg, Int.reduceToNat, h0, h1, h2, h7, hob, h11, h9, h12, h15, h16, h21, h23, h24, w1, dotV, Int.toNat_natCast, g3, w2]
      refine ⟨⟨k + 1, _, rfl, by omega, rfl, ?_⟩, by omega⟩
      rw [Bool.and_eq_true, hall]
      refine ⟨fun ⟨y1, y2⟩ j hj => ?_, fun hj => ⟨fun j hj2 => hj j (by omega), hj k (by omega)⟩⟩
      by_cases hjk : j = k
      · subst hjk; exact y2
      · exact y1 j (by omega)
    · simp at hge2
      have hke : k = N := by omega
      subst hke
      have hfin : all = hasB WX d := by
        rw [Bool.eq_iff_iff, hall]
        have hl : ∀ j, j < k → (gN X j).length = k := fun j hj => by rw [((matE_at e5).2 _ (gN_mem (by omega))).1]; omega
        simp only [hasB, decide_eq_true_iff]
        constructor
        · intro hj
          have y0 := hj 0 (by omega)
          rw [hl 0 (by omega)] at y0
          obtain ⟨_, j, y2, y3⟩ := x4 d.p.toNat (by omega)
          have y4 := hj j (by omega)
          omega
        · rintro ⟨y1, y2, y3, y4⟩ j hj
          have := (x4 d.p.toNat (by omega)).1 j (by omega)
          rw [hl j hj]; omega
      first | refine caS_i (Has_ok WX d) trivial ?_ | refine caD_i (Has_ok WX d) trivial ?_ | refine gC_i (fun _ => Has_ok WX d) trivial ?_ | refine gCD_i (fun _ => Has_ok WX d) trivial ?_
      simp (config := {contextual := true, maxSteps := 1000000}) only [go_sem, ints, intRows, iv_c, Nat.reduceAdd, Nat.reduceBEq, Nat.reduceEqDiff, Nat.reduceLeDiff, Nat.reduceLT, reduceIte, Nat.le_refl, true_or, or_true, and_self, Int.reduceLE, Int.reduceLT, Int.reduceNeg, Int.natCast_nonneg, Int.reduceToNat, h0, h1, h2, h7, hob, h11, h9, h12, h15, h16, h21, h23, h24, w1, dotV, Int.toNat_natCast, hfin, bne_self_eq_false]
      refine ⟨fun _ => by omega, fun _ => by omega, ?_⟩
      refine gCD_i (fun _ => Le_ok (gN l (i + 1)) (gN X p) (by unfold maxLen; omega)) trivial ?_
      have g4 : (ok && !leB (gN l (i + 1)) (gN X p)) = false := by
        cases hok : ok
        · rfl
        · rw [e8 hok]; rfl
      simp (config := {contextual := true, maxSteps := 1000000}) only [go_sem, ints, intRows, iv_c, Nat.reduceAdd, Nat.reduceBEq, Nat.reduceEqDiff, Nat.reduceLeDiff, Nat.reduceLT, reduceIte, Nat.le_refl, true_or, or_true, and_self, Int.reduceLE, Int.reduceLT, Int.reduceNeg, Int.natCast_nonneg, Int.reduceToNat, h0, h1, h2, h7, hob, h11, h9, h12, h15, h16, h21, h23, h24, w1, dotV, Int.toNat_natCast, g4]
      refine ⟨⟨i + 1, X, rfl, by omega, rfl, by omega, e5⟩, by omega⟩
  · simp at hge
    first | refine caS_i (wakes11_ok) trivial ?_ | refine caD_i (wakes11_ok) trivial ?_ | refine gC_i (fun _ => wakes11_ok) trivial ?_ | refine gCD_i (fun _ => wakes11_ok) trivial ?_
    simp (config := {contextual := true, maxSteps := 1000000}) only [go_sem, ints, intRows, iv_c, Nat.reduceAdd, Nat.reduceBEq, Nat.reduceEqDiff, Nat.reduceLeDiff, Nat.reduceLT, reduceIte, Nat.le_refl, true_or, or_true, and_self, Int.reduceLE, Int.reduceLT, Int.reduceNeg, Int.natCast_nonneg, Int.reduceToNat]
theorem MatRises_law (n : Int) (l : List (List Int)) (peers : List Int) (d : Dt) (_ : gInt .i64 n) (_ : gList (gList (gInt .i64)) l) (_ : gList (gInt .i64) peers) (_ : gDt d) : FnB Try.prog 11 [vi n, intRows .b l, ints .b peers, .ag (dotV d)] (vb true) := MatRises_ok n l peers d
end Go.Proofs.Ytamdidmfcjdcgaa.D
