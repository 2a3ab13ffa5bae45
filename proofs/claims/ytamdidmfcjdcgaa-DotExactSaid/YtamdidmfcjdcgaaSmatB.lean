/- MatLater. No condition. -/
import Derived.Test.YtamdidmfcjdcgaaSmatA
set_option linter.unusedVariables false
set_option linter.unusedSimpArgs false
set_option maxRecDepth 100000
namespace Go.Proofs.Ytamdidmfcjdcgaa.D
open Go Go.Proofs

theorem w1 : newV 2 = ([[0, 0], [0, 0]], 0) := by decide
theorem w2 : learnV [[0, 0], [0, 0]] [3, 2] 1 [1, 2] = ([[0, 0], [1, 2]], true, 0) := by decide
theorem w3 : frontV [[0, 0], [1, 2]] = ([0, 0], 0) := by decide
@[go_sem] theorem ia_1 (ob : OB) (f : Fl) (r : List V) (x : V) (l : List (List V)) : iaV ob 1 (.im f (r :: [x] :: l)) 1 = some (.bp [x]) := by simp [iaV]; omega
theorem wakes11_ok : FnB Try.prog 40 [] (vb true) := by
  refine fnB_intro cf40 (by simp) ?_
  simp (config := {contextual := true, maxSteps := 1000000}) only [go_sem, ints, intRows, iv_c, Nat.reduceAdd, Nat.reduceBEq, Nat.reduceEqDiff, Nat.reduceLeDiff, Nat.reduceLT, reduceIte, Nat.le_refl, true_or, or_true, and_self, Int.reduceLE, Int.reduceLT, Int.reduceNeg, Int.natCast_nonneg, Int.reduceToNat, c40]
  first | refine caS_i (New_ok 2) trivial ?_ | refine caD_i (New_ok 2) trivial ?_ | refine gC_i (fun _ => New_ok 2) trivial ?_ | refine gCD_i (fun _ => New_ok 2) trivial ?_
  simp (config := {contextual := true, maxSteps := 1000000}) only [go_sem, ints, intRows, iv_c, Nat.reduceAdd, Nat.reduceBEq, Nat.reduceEqDiff, Nat.reduceLeDiff, Nat.reduceLT, reduceIte, Nat.le_refl, true_or, or_true, and_self, Int.reduceLE, Int.reduceLT, Int.reduceNeg, Int.natCast_nonneg, Int.reduceToNat, w1]
  first | refine caS_i (Learn_ok [[0, 0], [0, 0]] [3, 2] 1 [1, 2] (by simp [maxLen])) trivial ?_ | refine caD_i (Learn_ok [[0, 0], [0, 0]] [3, 2] 1 [1, 2] (by simp [maxLen])) trivial ?_ | refine gC_i (fun _ => Learn_ok [[0, 0], [0, 0]] [3, 2] 1 [1, 2] (by simp [maxLen])) trivial ?_ | refine gCD_i (fun _ => Learn_ok [[0, 0], [0, 0]] [3, 2] 1 [1, 2] (by simp [maxLen])) trivial ?_
  simp (config := {contextual := true, maxSteps := 1000000}) only [go_sem, ints, intRows, iv_c, Nat.reduceAdd, Nat.reduceBEq, Nat.reduceEqDiff, Nat.reduceLeDiff, Nat.reduceLT, reduceIte, Nat.le_refl, true_or, or_true, and_self, Int.reduceLE, Int.reduceLT, Int.reduceNeg, Int.natCast_nonneg, Int.reduceToNat, w2]
  first | refine caS_i (Frontier_ok [[0, 0], [1, 2]] (by simp [maxLen])) trivial ?_ | refine caD_i (Frontier_ok [[0, 0], [1, 2]] (by simp [maxLen])) trivial ?_ | refine gC_i (fun _ => Frontier_ok [[0, 0], [1, 2]] (by simp [maxLen])) trivial ?_ | refine gCD_i (fun _ => Frontier_ok [[0, 0], [1, 2]] (by simp [maxLen])) trivial ?_
  simp (config := {contextual := true, maxSteps := 1000000}) only [go_sem, ints, intRows, iv_c, Nat.reduceAdd, Nat.reduceBEq, Nat.reduceEqDiff, Nat.reduceLeDiff, Nat.reduceLT, reduceIte, Nat.le_refl, true_or, or_true, and_self, Int.reduceLE, Int.reduceLT, Int.reduceNeg, Int.natCast_nonneg, Int.reduceToNat, w3]
  first | refine caS_i (Ints_ok [1, 2] [1, 2] (by simp [maxLen])) trivial ?_ | refine caD_i (Ints_ok [1, 2] [1, 2] (by simp [maxLen])) trivial ?_ | refine gC_i (fun _ => Ints_ok [1, 2] [1, 2] (by simp [maxLen])) trivial ?_ | refine gCD_i (fun _ => Ints_ok [1, 2] [1, 2] (by simp [maxLen])) trivial ?_
  simp (config := {contextual := true, maxSteps := 1000000}) only [go_sem, ints, intRows, iv_c, Nat.reduceAdd, Nat.reduceBEq, Nat.reduceEqDiff, Nat.reduceLeDiff, Nat.reduceLT, reduceIte, Nat.le_refl, true_or, or_true, and_self, Int.reduceLE, Int.reduceLT, Int.reduceNeg, Int.natCast_nonneg, Int.reduceToNat]
  first | refine caS_i (Ints_ok [0, 0] [0, 0] (by simp [maxLen])) trivial ?_ | refine caD_i (Ints_ok [0, 0] [0, 0] (by simp [maxLen])) trivial ?_ | refine gC_i (fun _ => Ints_ok [0, 0] [0, 0] (by simp [maxLen])) trivial ?_ | refine gCD_i (fun _ => Ints_ok [0, 0] [0, 0] (by simp [maxLen])) trivial ?_
  simp (config := {contextual := true, maxSteps := 1000000}) only [go_sem, ints, intRows, iv_c, Nat.reduceAdd, Nat.reduceBEq, Nat.reduceEqDiff, Nat.reduceLeDiff, Nat.reduceLT, reduceIte, Nat.le_refl, true_or, or_true, and_self, Int.reduceLE, Int.reduceLT, Int.reduceNeg, Int.natCast_nonneg, Int.reduceToNat]

/-- What is over, of a whole number read without sign. -/
theorem u64_range (n : Int) : 0 ≤ IntKind.u64.wrap n ∧ IntKind.u64.wrap n < 18446744073709551616 := by
  unfold IntKind.wrap IntKind.signed IntKind.bits; simp; omega
theorem u64 {n : Int} (h : 0 ≤ n ∧ n < 18446744073709551616) : IntKind.u64.wrap n = n := by
  unfold IntKind.wrap IntKind.signed IntKind.bits; simp; omega
theorem modU (n : Int) {k : Int} (h : 0 < k ∧ k < 9223372036854775808) : ∃ x : Nat, IntKind.i64.wrap ((IntKind.u64.wrap n).tmod k) = x ∧ (x : Int) < k := by
  have h1 := u64_range n
  have h2 : (IntKind.u64.wrap n).tmod k = (IntKind.u64.wrap n) % k := Int.tmod_eq_emod_of_nonneg h1.1
  have h3 := Int.emod_nonneg (IntKind.u64.wrap n) (Int.ne_of_gt h.1)
  have h4 := Int.emod_lt_of_pos (IntKind.u64.wrap n) h.1
  refine ⟨(IntKind.u64.wrap n % k).toNat, ?_, by omega⟩
  rw [h2, w64 (by omega)]; omega

theorem vecE_rep {n : Nat} (h : 1 ≤ n ∧ n ≤ 5) : vecE (List.replicate n 0) = 0 :=
  vecE_mk (by simp; omega) (by simp; omega) fun i hi => by rw [gN_eq hi]; simp
theorem vecE_set {v : List Int} (h : vecE v = 0) (p : Nat) {x : Int} (hx : 0 ≤ x ∧ x ≤ 1073741824) : vecE (v.set p x) = 0 := by
  have h1 := vecE_range v h
  refine vecE_mk (by simp; omega) (by simp; omega) fun i hi => ?_
  rw [gN_eq hi, List.getElem_set]
  split
  · exact hx
  · exact h1.2.2 _ (List.getElem_mem _)
theorem matE_new {n : Nat} (h : 1 ≤ n ∧ n ≤ 5) : matE (newM n) = 0 := by
  rw [matE, if_pos, if_pos]
  · intro v hv; rw [List.eq_of_mem_replicate hv]; exact vecE_rep h
  · refine ⟨by simp [newM]; omega, by simp [newM]; omega, fun v hv => ?_⟩
    rw [List.eq_of_mem_replicate hv]; simp [newM]
theorem learnOk_y {m : List (List Int)} {h_ : List Int} {p : Nat} {safe : List Int} (h1 : h_.length = m.length) (h2 : vecE h_ = 0) (h3 : safe.length = m.length) (h4 : vecE safe = 0) (h5 : p < m.length) : learnOk m h_ (p : Int) safe = true := by
  simp [learnOk, vecB, h1, h2, h3, h4]; omega
theorem learn_no {m : List (List Int)} {h_ : List Int} {p : Nat} {safe : List Int} (h : matE m = 0) (h1 : h_.length = m.length) (h2 : vecE h_ = 0) (h3 : safe.length = m.length) (h4 : vecE safe = 0) (h5 : p < m.length) (h6 : gN h_ p < gN safe p) : learnV m h_ (p : Int) safe = (m, false, 0) := by
  rw [learnV, if_neg (by simpa using h), if_neg (by rw [learnOk_y h1 h2 h3 h4 h5]; simp), Int.toNat_natCast, if_pos h6]
theorem learn_yes {m : List (List Int)} {h_ : List Int} {p : Nat} {safe : List Int} (h : matE m = 0) (h1 : h_.length = m.length) (h2 : vecE h_ = 0) (h3 : safe.length = m.length) (h4 : vecE safe = 0) (h5 : p < m.length) (h6 : gN safe p ≤ gN h_ p) : learnV m h_ (p : Int) safe = (m.set p (List.zipWith max (gN m p) safe), true, 0) := by
  rw [learnV, if_neg (by simpa using h), if_neg (by rw [learnOk_y h1 h2 h3 h4 h5]; simp), Int.toNat_natCast, if_neg (by omega)]
theorem gN_set {α : Type} [Inhabited α] {l : List α} {i : Nat} (h : i < l.length) (x : α) : gN (l.set i x) i = x := by rw [gN_eq (by simpa using h)]; simp
theorem zip_rep {n : Nat} {v : List Int} (h : v.length = n) (h0 : ∀ x ∈ v, 0 ≤ x) : List.zipWith max (List.replicate n 0) v = v := by
  refine List.ext_getElem (by simp [h]) fun i h1 h2 => ?_
  have := h0 v[i] (List.getElem_mem _)
  simp; omega

theorem MatLater_ok (n p k more : Int) : FnB Try.prog 10 [vi n, vi p, vi k, vi more] (vb true) := by
  refine fnB_intro cf10 (by simp) ?_
  obtain ⟨N, a1, a2⟩ := modU n (k := 5) (by omega)
  have a3 : IntKind.i64.wrap (1 + (N : Int)) = ((N + 1 : Nat) : Int) := by rw [w64 (by omega)]; omega
  have a4 : IntKind.u64.wrap ((N + 1 : Nat) : Int) = ((N + 1 : Nat) : Int) := u64 (by omega)
  obtain ⟨p', b1, b2⟩ := modU p (k := ((N + 1 : Nat) : Int)) (by omega)
  obtain ⟨k', c1, c2⟩ := modU k (k := 1000) (by omega)
  obtain ⟨m', d1, d2⟩ := modU more (k := 1000) (by omega)
  have d3 : IntKind.i64.wrap (1 + (m' : Int)) = ((m' + 1 : Nat) : Int) := by rw [w64 (by omega)]; omega
  have e1 : IntKind.i64.wrap ((k' : Int) + ((m' + 1 : Nat) : Int)) = ((k' + m' + 1 : Nat) : Int) := by rw [w64 (by omega)]; omega
  have z : (((N + 1 : Nat) : Int) = 0) = False := by simp; omega
  have hN : 1 ≤ N + 1 ∧ N + 1 ≤ 5 := by omega
  generalize N + 1 = N at *
  simp (config := {contextual := true, maxSteps := 1000000}) only [go_sem, ints, intRows, iv_c, Nat.reduceAdd, Nat.reduceBEq, Nat.reduceEqDiff, Nat.reduceLeDiff, Nat.reduceLT, reduceIte, Nat.le_refl, true_or, or_true, and_self, Int.reduceLE, Int.reduceLT, Int.reduceNeg, Int.natCast_nonneg, Int.reduceToNat, c10, Int.reduceEq, ite_false, if_false, a1, a3, a4, z, b1, c1, d1, d3, e1]
  have f1 : newV N = (newM N, 0) := if_pos (by omega)
  have hl : (newM N).length = N := by simp [newM]
  have hp : p' < N := by omega
  have v0 := vecE_rep hN
  have v1 := vecE_set v0 p' (x := k') (by omega)
  have v2 := vecE_set v0 p' (x := (k' + m' + 1 : Nat)) (by omega)
  have f2 : learnV (newM N) ((List.replicate N 0).set p' k') p' ((List.replicate N 0).set p' (k' + m' + 1 : Nat)) = (newM N, false, 0) :=
    learn_no (matE_new hN) (by simp [hl]) v1 (by simp [hl]) v2 (by omega) (by rw [gN_set (by simpa using hp), gN_set (by simpa using hp)]; omega)
  have f3 : learnV (newM N) ((List.replicate N 0).set p' (k' + m' + 1 : Nat)) p' ((List.replicate N 0).set p' (k' + m' + 1 : Nat)) = ((newM N).set p' ((List.replicate N 0).set p' (k' + m' + 1 : Nat)), true, 0) := by
    rw [learn_yes (matE_new hN) (by simp [hl]) v2 (by simp [hl]) v2 (by omega) (Int.le_refl _)]
    have : gN (newM N) p' = List.replicate N 0 := by rw [gN_eq (by omega)]; simp [newM]
    rw [this, zip_rep (by simp) fun x hx => ((vecE_range _ v2).2.2 x hx).1]
  have hN0 : (N = 0) = False := by simp; omega
  have hN1 : ((N : Int) ≤ maxLen) = True := by simp [maxLen]; omega
  have hp1 : (p' < N) = True := by simpa using hp
  have hp2 : ((p' : Int) < N) = True := by simpa using hp
  have hT : ∀ x : Int, (((List.replicate N (0 : Int)).set p' x).map fun n => [vi n]).take N = ((List.replicate N (0 : Int)).set p' x).map fun n => [vi n] := fun x => List.take_of_length_le (by simp)
  first | refine caS_i (New_ok N) trivial ?_ | refine caD_i (New_ok N) trivial ?_ | refine gC_i (fun _ => New_ok N) trivial ?_ | refine gCD_i (fun _ => New_ok N) trivial ?_
  simp (config := {contextual := true, maxSteps := 1000000}) only [go_sem, ints, intRows, iv_c, Nat.reduceAdd, Nat.reduceBEq, Nat.reduceEqDiff, Nat.reduceLeDiff, Nat.reduceLT, reduceIte, Nat.le_refl, true_or, or_true, and_self, Int.reduceLE, Int.reduceLT, Int.reduceNeg, Int.natCast_nonneg, Int.reduceToNat, f1, hN0, hN1, hp1, hp2, hT, e1, Int.toNat_natCast, List.length_replicate, List.length_set]
  first | refine caS_i (Learn_ok (newM N) ((List.replicate N 0).set p' k') p' ((List.replicate N 0).set p' (k' + m' + 1 : Nat)) (by simp [maxLen, hl]; omega)) trivial ?_ | refine caD_i (Learn_ok (newM N) ((List.replicate N 0).set p' k') p' ((List.replicate N 0).set p' (k' + m' + 1 : Nat)) (by simp [maxLen, hl]; omega)) trivial ?_ | refine gC_i (fun _ => Learn_ok (newM N) ((List.replicate N 0).set p' k') p' ((List.replicate N 0).set p' (k' + m' + 1 : Nat)) (by simp [maxLen, hl]; omega)) trivial ?_ | refine gCD_i (fun _ => Learn_ok (newM N) ((List.replicate N 0).set p' k') p' ((List.replicate N 0).set p' (k' + m' + 1 : Nat)) (by simp [maxLen, hl]; omega)) trivial ?_
  simp (config := {contextual := true, maxSteps := 1000000}) only [go_sem, ints, intRows, iv_c, Nat.reduceAdd, Nat.reduceBEq, Nat.reduceEqDiff, Nat.reduceLeDiff, Nat.reduceLT, reduceIte, Nat.le_refl, true_or, or_true, and_self, Int.reduceLE, Int.reduceLT, Int.reduceNeg, Int.natCast_nonneg, Int.reduceToNat, f2, hp1, hp2, hT, e1, Int.toNat_natCast, List.length_replicate, List.length_set]
  first | refine caS_i (IntRows_ok (newM N) (newM N) (by simp [maxLen, hl]; omega) (fun v hv => by rw [List.eq_of_mem_replicate hv]; simp [maxLen]; omega)) trivial ?_ | refine caD_i (IntRows_ok (newM N) (newM N) (by simp [maxLen, hl]; omega) (fun v hv => by rw [List.eq_of_mem_replicate hv]; simp [maxLen]; omega)) trivial ?_ | refine gC_i (fun _ => IntRows_ok (newM N) (newM N) (by simp [maxLen, hl]; omega) (fun v hv => by rw [List.eq_of_mem_replicate hv]; simp [maxLen]; omega)) trivial ?_ | refine gCD_i (fun _ => IntRows_ok (newM N) (newM N) (by simp [maxLen, hl]; omega) (fun v hv => by rw [List.eq_of_mem_replicate hv]; simp [maxLen]; omega)) trivial ?_
  simp (config := {contextual := true, maxSteps := 1000000}) only [go_sem, ints, intRows, iv_c, Nat.reduceAdd, Nat.reduceBEq, Nat.reduceEqDiff, Nat.reduceLeDiff, Nat.reduceLT, reduceIte, Nat.le_refl, true_or, or_true, and_self, Int.reduceLE, Int.reduceLT, Int.reduceNeg, Int.natCast_nonneg, Int.reduceToNat, hN0, hN1, hp1, hp2, hT, e1, Int.toNat_natCast, List.length_replicate, List.length_set, List.set_set]
  first | refine caS_i (Learn_ok (newM N) ((List.replicate N 0).set p' (k' + m' + 1 : Nat)) p' ((List.replicate N 0).set p' (k' + m' + 1 : Nat)) (by simp [maxLen, hl]; omega)) trivial ?_ | refine caD_i (Learn_ok (newM N) ((List.replicate N 0).set p' (k' + m' + 1 : Nat)) p' ((List.replicate N 0).set p' (k' + m' + 1 : Nat)) (by simp [maxLen, hl]; omega)) trivial ?_ | refine gC_i (fun _ => Learn_ok (newM N) ((List.replicate N 0).set p' (k' + m' + 1 : Nat)) p' ((List.replicate N 0).set p' (k' + m' + 1 : Nat)) (by simp [maxLen, hl]; omega)) trivial ?_ | refine gCD_i (fun _ => Learn_ok (newM N) ((List.replicate N 0).set p' (k' + m' + 1 : Nat)) p' ((List.replicate N 0).set p' (k' + m' + 1 : Nat)) (by simp [maxLen, hl]; omega)) trivial ?_
  have g1 : gN ((newM N).set p' ((List.replicate N 0).set p' ((k' + m' + 1 : Nat) : Int))) p' = (List.replicate N 0).set p' ((k' + m' + 1 : Nat) : Int) := gN_set (by omega) _
  simp (config := {contextual := true, maxSteps := 1000000}) only [go_sem, ints, intRows, iv_c, Nat.reduceAdd, Nat.reduceBEq, Nat.reduceEqDiff, Nat.reduceLeDiff, Nat.reduceLT, reduceIte, Nat.le_refl, true_or, or_true, and_self, Int.reduceLE, Int.reduceLT, Int.reduceNeg, Int.natCast_nonneg, Int.reduceToNat, f3, g1, hl, eq_self, hp1, hp2, hT, e1, Int.toNat_natCast, List.length_replicate, List.length_set]
  first | refine caS_i (Ints_ok ((List.replicate N 0).set p' (k' + m' + 1 : Nat)) ((List.replicate N 0).set p' (k' + m' + 1 : Nat)) (by simp [maxLen]; omega)) trivial ?_ | refine caD_i (Ints_ok ((List.replicate N 0).set p' (k' + m' + 1 : Nat)) ((List.replicate N 0).set p' (k' + m' + 1 : Nat)) (by simp [maxLen]; omega)) trivial ?_ | refine gC_i (fun _ => Ints_ok ((List.replicate N 0).set p' (k' + m' + 1 : Nat)) ((List.replicate N 0).set p' (k' + m' + 1 : Nat)) (by simp [maxLen]; omega)) trivial ?_ | refine gCD_i (fun _ => Ints_ok ((List.replicate N 0).set p' (k' + m' + 1 : Nat)) ((List.replicate N 0).set p' (k' + m' + 1 : Nat)) (by simp [maxLen]; omega)) trivial ?_
  simp (config := {contextual := true, maxSteps := 1000000}) only [go_sem, ints, intRows, iv_c, Nat.reduceAdd, Nat.reduceBEq, Nat.reduceEqDiff, Nat.reduceLeDiff, Nat.reduceLT, reduceIte, Nat.le_refl, true_or, or_true, and_self, Int.reduceLE, Int.reduceLT, Int.reduceNeg, Int.natCast_nonneg, Int.reduceToNat, eq_self]
  first | refine caS_i (wakes11_ok) trivial ?_ | refine caD_i (wakes11_ok) trivial ?_ | refine gC_i (fun _ => wakes11_ok) trivial ?_ | refine gCD_i (fun _ => wakes11_ok) trivial ?_
  simp (config := {contextual := true, maxSteps := 1000000}) only [go_sem, ints, intRows, iv_c, Nat.reduceAdd, Nat.reduceBEq, Nat.reduceEqDiff, Nat.reduceLeDiff, Nat.reduceLT, reduceIte, Nat.le_refl, true_or, or_true, and_self, Int.reduceLE, Int.reduceLT, Int.reduceNeg, Int.natCast_nonneg, Int.reduceToNat]
theorem MatLater_law (n p k more : Int) (_ : gInt .i64 n) (_ : gInt .i64 p) (_ : gInt .i64 k) (_ : gInt .i64 more) : FnB Try.prog 10 [vi n, vi p, vi k, vi more] (vb true) := MatLater_ok n p k more
end Go.Proofs.Ytamdidmfcjdcgaa.D
