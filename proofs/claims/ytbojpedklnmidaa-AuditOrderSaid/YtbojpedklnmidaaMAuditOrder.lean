/- AuditOrder, packed. No condition beyond the statement's own. -/
import Derived.Test.YtbojpedklnmidaaMAuditOrdere
import Derived.Test.YtbojpedklnmidaaRows
import Derived.WalkKit
import Derived.ProofKit
import Derived.OpenShut
import Derived.ShutString
import Derived.ChangeOld
import Derived.Below
import Derived.SizedLaws
section
set_option linter.unusedVariables false
set_option linter.unusedSimpArgs false
set_option linter.constructorNameAsVariable false
set_option maxRecDepth 100000

/- The order of operations: the walk of the statement. No condition. -/
namespace Go.Proofs.Ytbojpedklnmidaa.D
open Go Go.Proofs

theorem heavyOs_dots {l : List Opx} (h : heavyOs l = false) : ∀ x ∈ l, x.dots.length ≤ 100 := fun x hx => by
  simp only [heavyOs, Bool.or_eq_false_iff] at h
  have := List.any_eq_false.1 h.2 x hx
  have h2 : heavyO x = false := by simpa using this
  simp [heavyO] at h2
  omega
theorem own_rows {n k : Nat} {ob : OB} {v : V} {rows : List (List V)} (h : Own n ob v k rows) : rowsOf ob v = some rows := by
  rcases h with ⟨h4, h5⟩ | ⟨_, id, c, _, h5, h6⟩
  · rw [h5, h4]; rfl
  · rw [h5]; simp only [rowsOf, h6, Option.bind_some]; rw [if_pos (by simp), List.drop_zero, List.take_of_length_le (by simp)]
theorem sameL_refl {α : Type} [Inhabited α] {e : α → α → Bool} (h : ∀ x, e x x = true) (a : List α) : sameL e a a = true := sameL_iff.2 ⟨rfl, fun j _ => h _⟩
theorem sameT_refl (a : List (List (List Vl))) : sameL (sameL (sameL eqV)) a a = true := sameL_refl (sameL_refl (sameL_refl fun x => by simp [eqV])) a
set_option maxHeartbeats 4000000 in
theorem AuditOrder_ok (n : Int) (f : List (List Int)) (l : List Opx) (turn : Int) (hn : ∀ x ∈ l, inI x.dot.n) : FnB Try.prog 4 [vi n, tbs .b f, ops .b l, vi turn] (vb true) := by
  refine fnB_intro cf4 (by simp) ?_
  simp (config := {contextual := true, maxSteps := 1000000}) only [go_sem, ints, intRows, iv_c, Nat.reduceAdd, Nat.reduceBEq, Nat.reduceEqDiff, Nat.reduceLeDiff, Nat.reduceLT, reduceIte, Nat.le_refl, true_or, or_true, and_self, Int.reduceLE, Int.reduceLT, Int.reduceEq, Int.reduceNeg, Int.natCast_nonneg, Int.reduceToNat, ops, vals, dots, c4, tbs]
  first | refine caS_i (HeavyForms_ok f) trivial ?_ | refine caD_i (HeavyForms_ok f) trivial ?_ | refine gC_i (fun _ => HeavyForms_ok f) trivial ?_ | refine gCD_i (fun _ => HeavyForms_ok f) trivial ?_ | refine caE_i (HeavyForms_ok f) trivial ?_
  simp (config := {contextual := true, maxSteps := 1000000}) only [go_sem, ints, intRows, iv_c, Nat.reduceAdd, Nat.reduceBEq, Nat.reduceEqDiff, Nat.reduceLeDiff, Nat.reduceLT, reduceIte, Nat.le_refl, true_or, or_true, and_self, Int.reduceLE, Int.reduceLT, Int.reduceEq, Int.reduceNeg, Int.natCast_nonneg, Int.reduceToNat, ops, vals, dots, tbs]
  first | refine caS_i (HeavyOs_ok l) trivial ?_ | refine caD_i (HeavyOs_ok l) trivial ?_ | refine gC_i (fun _ => HeavyOs_ok l) trivial ?_ | refine gCD_i (fun _ => HeavyOs_ok l) trivial ?_ | refine caE_i (HeavyOs_ok l) trivial ?_
  simp (config := {contextual := true, maxSteps := 1000000}) only [go_sem, ints, intRows, iv_c, Nat.reduceAdd, Nat.reduceBEq, Nat.reduceEqDiff, Nat.reduceLeDiff, Nat.reduceLT, reduceIte, Nat.le_refl, true_or, or_true, and_self, Int.reduceLE, Int.reduceLT, Int.reduceEq, Int.reduceNeg, Int.natCast_nonneg, Int.reduceToNat, ops, vals, dots, tbs]
  refine fun hb => ?_
  have hh : heavyF f = false ∧ heavyOs l = false ∧ l.length ≤ 40 ∧ l.length ≠ 0 := by
    simp only [Bool.or_eq_false_iff, decide_eq_false_iff_not] at hb
    exact ⟨hb.1.1.1, hb.1.1.2, by omega, by omega⟩
  obtain ⟨hf1, hh1, hl, hl0⟩ := hh
  clear hb
  have hok := heavyOs_ok hh1 hn
  have hfl : f.length ≤ 1000 ∧ ∀ c ∈ f, c.length ≤ 1000 := by
    unfold heavyF at hf1
    rw [Bool.or_eq_false_iff] at hf1
    refine ⟨by have := of_decide_eq_false hf1.1; omega, fun c hc => ?_⟩
    have := List.any_eq_false.1 hf1.2 c hc
    simp at this; omega
  refine wpC_lp (fun env ob n' => env 0 = vi n ∧ env 1 = tbs .b f ∧ env 2 = ops .b l ∧ env 3 = vi turn ∧ ∃ i : Nat, env 9 = vi i ∧ i ≤ l.length ∧ ∀ j, j < i → checkG n f (gN l j) = 0 ∧ ∀ k, k < j → cmpT (gN l j).st (gN l k).st ≠ 0) (fun env ob _ => (l.length - iv (env 9)).toNat) ?_ ?_
  · simp (config := {contextual := true, maxSteps := 1000000}) only [go_sem, ints, intRows, iv_c, Nat.reduceAdd, Nat.reduceBEq, Nat.reduceEqDiff, Nat.reduceLeDiff, Nat.reduceLT, reduceIte, Nat.le_refl, true_or, or_true, and_self, Int.reduceLE, Int.reduceLT, Int.reduceEq, Int.reduceNeg, Int.natCast_nonneg, Int.reduceToNat, ops, vals, dots, tbs]
    exact ⟨0, rfl, by omega, fun j hj => by omega⟩
  rintro env ob n' ⟨h0, h1, h2, h3, i, h9, hi, he⟩
  have w1 : IntKind.i64.wrap ((i : Int) + 1) = ((i + 1 : Nat) : Int) := by rw [w64 (by omega)]; omega
  simp (config := {contextual := true, maxSteps := 1000000}) only [go_sem, ints, intRows, iv_c, Nat.reduceAdd, Nat.reduceBEq, Nat.reduceEqDiff, Nat.reduceLeDiff, Nat.reduceLT, reduceIte, Nat.le_refl, true_or, or_true, and_self, Int.reduceLE, Int.reduceLT, Int.reduceEq, Int.reduceNeg, Int.natCast_nonneg, Int.reduceToNat, ops, vals, dots, h0, h1, h2, h3, h9, tbs, w1]
  refine ⟨fun hlt => ?_, fun hge => ?_⟩
  · simp only [decide_eq_true_eq] at hlt
    have hxo := hok _ (gN_mem (show i < l.length by omega))
    refine ⟨by omega, ?_⟩
    first | refine caS_i (LCheck_ok n f (gN l i) hfl.1 hfl.2 hxo.v hxo.s) trivial ?_ | refine caD_i (LCheck_ok n f (gN l i) hfl.1 hfl.2 hxo.v hxo.s) trivial ?_ | refine gC_i (fun _ => LCheck_ok n f (gN l i) hfl.1 hfl.2 hxo.v hxo.s) trivial ?_ | refine gCD_i (fun _ => LCheck_ok n f (gN l i) hfl.1 hfl.2 hxo.v hxo.s) trivial ?_ | refine caE_i (LCheck_ok n f (gN l i) hfl.1 hfl.2 hxo.v hxo.s) trivial ?_
    simp (config := {contextual := true, maxSteps := 1000000}) only [go_sem, ints, intRows, iv_c, Nat.reduceAdd, Nat.reduceBEq, Nat.reduceEqDiff, Nat.reduceLeDiff, Nat.reduceLT, reduceIte, Nat.le_refl, true_or, or_true, and_self, Int.reduceLE, Int.reduceLT, Int.reduceEq, Int.reduceNeg, Int.natCast_nonneg, Int.reduceToNat, ops, vals, dots, h0, h1, h2, h3, h9, tbs, w1]
    refine fun hc => ?_
    have hc0 : checkG n f (gN l i) = 0 := by simpa using hc
    refine wpC_lp (fun env ob n' => env 0 = vi n ∧ env 1 = tbs .b f ∧ env 2 = ops .b l ∧ env 3 = vi turn ∧ env 9 = vi i ∧ ∃ k : Nat, env 10 = vi k ∧ k ≤ i ∧ ∀ j, j < k → cmpT (gN l i).st (gN l j).st ≠ 0) (fun env ob _ => (i - iv (env 10)).toNat) ?_ ?_
    · simp (config := {contextual := true, maxSteps := 1000000}) only [go_sem, ints, intRows, iv_c, Nat.reduceAdd, Nat.reduceBEq, Nat.reduceEqDiff, Nat.reduceLeDiff, Nat.reduceLT, reduceIte, Nat.le_refl, true_or, or_true, and_self, Int.reduceLE, Int.reduceLT, Int.reduceEq, Int.reduceNeg, Int.natCast_nonneg, Int.reduceToNat, ops, vals, dots, h0, h1, h2, h3, h9, tbs]
      exact ⟨0, rfl, by omega, fun j hj => by omega⟩
    clear h0 h1 h2 h3 h9 env
    rintro env ob2 n2 ⟨h0, h1, h2, h3, h9, k, h10, hk, hj⟩
    have w2 : IntKind.i64.wrap ((k : Int) + 1) = ((k + 1 : Nat) : Int) := by rw [w64 (by omega)]; omega
    simp (config := {contextual := true, maxSteps := 1000000}) only [go_sem, ints, intRows, iv_c, Nat.reduceAdd, Nat.reduceBEq, Nat.reduceEqDiff, Nat.reduceLeDiff, Nat.reduceLT, reduceIte, Nat.le_refl, true_or, or_true, and_self, Int.reduceLE, Int.reduceLT, Int.reduceEq, Int.reduceNeg, Int.natCast_nonneg, Int.reduceToNat, ops, vals, dots, h0, h1, h2, h3, h9, h10, tbs, w1, w2]
    refine ⟨fun hltk => ?_, fun hgek => ?_⟩
    · simp only [decide_eq_true_eq] at hltk
      refine ⟨by omega, by omega, ?_⟩
      first | refine caS_i (CompareStamps_ok (gN l i).st (gN l k).st) trivial ?_ | refine caD_i (CompareStamps_ok (gN l i).st (gN l k).st) trivial ?_ | refine gC_i (fun _ => CompareStamps_ok (gN l i).st (gN l k).st) trivial ?_ | refine gCD_i (fun _ => CompareStamps_ok (gN l i).st (gN l k).st) trivial ?_ | refine caE_i (CompareStamps_ok (gN l i).st (gN l k).st) trivial ?_
      simp (config := {contextual := true, maxSteps := 1000000}) only [go_sem, ints, intRows, iv_c, Nat.reduceAdd, Nat.reduceBEq, Nat.reduceEqDiff, Nat.reduceLeDiff, Nat.reduceLT, reduceIte, Nat.le_refl, true_or, or_true, and_self, Int.reduceLE, Int.reduceLT, Int.reduceEq, Int.reduceNeg, Int.natCast_nonneg, Int.reduceToNat, ops, vals, dots, h0, h1, h2, h3, h9, h10, tbs, w1, w2]
      refine fun hne => ⟨⟨k + 1, rfl, by omega, fun j hj2 => ?_⟩, by omega⟩
      by_cases hjk : j = k
      · subst hjk; exact of_decide_eq_false hne
      · exact hj j (by omega)
    · simp only [decide_eq_false_iff_not] at hgek
      refine ⟨⟨i + 1, rfl, by omega, fun j hj2 => ?_⟩, by omega⟩
      by_cases hji : j = i
      · subst hji; exact ⟨hc0, fun k' hk' => hj k' (by omega)⟩
      · exact he j (by omega)
  simp only [decide_eq_false_iff_not] at hge
  obtain rfl : i = l.length := by omega
  obtain ⟨T, qT1, qT2⟩ := modU turn (k := (l.length : Int)) (by omega)
  have hul : IntKind.u64.wrap (l.length : Int) = (l.length : Int) := u64 (by omega)
  have hm0 : ((l.length : Int) = 0) = False := eq_false (by omega)
  clear w1 h9 hi
  refine wpC_lp (fun env ob n' => env 0 = vi n ∧ env 1 = tbs .b f ∧ env 2 = ops .b l ∧ env 3 = vi turn ∧ ∃ i : Nat, env 12 = vi i ∧ i ≤ l.length ∧ Own n' ob (env 11) 12 (((List.range i).map fun j => gN l ((T + l.length - j) % l.length)).map opV)) (fun env ob _ => (l.length - iv (env 12)).toNat) ?_ ?_
  · simp (config := {contextual := true, maxSteps := 1000000}) only [go_sem, ints, intRows, iv_c, Nat.reduceAdd, Nat.reduceBEq, Nat.reduceEqDiff, Nat.reduceLeDiff, Nat.reduceLT, reduceIte, Nat.le_refl, true_or, or_true, and_self, Int.reduceLE, Int.reduceLT, Int.reduceEq, Int.reduceNeg, Int.natCast_nonneg, Int.reduceToNat, ops, vals, dots, h0, h1, h2, h3, tbs]
    exact ⟨0, rfl, by omega, Own.nil⟩
  clear h0 h1 h2 h3 env
  rintro env ob2 n2 ⟨h0, h1, h2, h3, i, h12, hi, ho⟩
  have w1 : IntKind.i64.wrap ((i : Int) + 1) = ((i + 1 : Nat) : Int) := by rw [w64 (by omega)]; omega
  simp (config := {contextual := true, maxSteps := 1000000}) only [go_sem, ints, intRows, iv_c, Nat.reduceAdd, Nat.reduceBEq, Nat.reduceEqDiff, Nat.reduceLeDiff, Nat.reduceLT, reduceIte, Nat.le_refl, true_or, or_true, and_self, Int.reduceLE, Int.reduceLT, Int.reduceEq, Int.reduceNeg, Int.natCast_nonneg, Int.reduceToNat, ops, vals, dots, h0, h1, h2, h3, h12, tbs, w1]
  refine ⟨fun hlt => ?_, fun hge => ?_⟩
  · simp only [decide_eq_true_eq] at hlt
    have v1 : IntKind.i64.wrap ((l.length : Int) - (i : Int)) = ((l.length - i : Nat) : Int) := by rw [w64 (by omega)]; omega
    have v2 : IntKind.i64.wrap (((l.length - i : Nat) : Int) + (T : Int)) = ((T + l.length - i : Nat) : Int) := by rw [w64 (by omega)]; omega
    have v3 : (((T + l.length - i : Nat) : Int)).tmod (l.length : Int) = (((T + l.length - i) % l.length : Nat) : Int) := (Int.ofNat_tmod _ _).symm
    have v4 := Nat.mod_lt (T + l.length - i) (show 0 < l.length by omega)
    simp (config := {contextual := true, maxSteps := 1000000}) only [go_sem, ints, intRows, iv_c, Nat.reduceAdd, Nat.reduceBEq, Nat.reduceEqDiff, Nat.reduceLeDiff, Nat.reduceLT, reduceIte, Nat.le_refl, true_or, or_true, and_self, Int.reduceLE, Int.reduceLT, Int.reduceEq, Int.reduceNeg, Int.natCast_nonneg, Int.reduceToNat, ops, vals, dots, h0, h1, h2, h3, h12, tbs, w1, hul, hm0, qT1, v1, v2, v3]
    refine ⟨by omega, ?_⟩
    refine nxS_any (xs := [opV (gN l ((T + l.length - i) % l.length))]) ho (by omega) rfl (by simpa using allOps [gN l ((T + l.length - i) % l.length)]) (by simp; unfold maxLen; omega) fun v' ob3 u2 u3 u4 => ?_
    simp (config := {contextual := true, maxSteps := 1000000}) only [go_sem, ints, intRows, iv_c, Nat.reduceAdd, Nat.reduceBEq, Nat.reduceEqDiff, Nat.reduceLeDiff, Nat.reduceLT, reduceIte, Nat.le_refl, true_or, or_true, and_self, Int.reduceLE, Int.reduceLT, Int.reduceEq, Int.reduceNeg, Int.natCast_nonneg, Int.reduceToNat, ops, vals, dots, h0, h1, h2, h3, h12, tbs, w1]
    refine ⟨⟨i + 1, rfl, by omega, ?_⟩, by omega⟩
    rw [List.map_map] at u2
    rw [List.range_succ, List.map_append]
    exact u2.mono (by omega)
  simp only [decide_eq_false_iff_not] at hge
  obtain rfl : i = l.length := by omega
  clear w1 hi
  generalize hO : ((List.range l.length).map fun j => gN l ((T + l.length - j) % l.length)) = O at *
  have hOl : O.length = l.length := by rw [← hO]; simp
  have hOm : ∀ x ∈ O, x ∈ l := fun x hx => by
    rw [← hO] at hx
    obtain ⟨j, _, rfl⟩ := List.mem_map.1 hx
    exact gN_mem (Nat.mod_lt _ (by omega))
  have hxs : ∀ x ∈ l, OkO x ∧ x.dots.length ≤ 100 := fun x hx => ⟨hok x hx, by
    have := heavyOs_dots hh1 x hx; omega⟩
  have hch : ∀ x ∈ l, checkG n f x = 0 := fun x hx => by
    obtain ⟨j, hj, rfl⟩ := gN_mem_iff.1 hx
    exact (he j hj).1
  have hu : ∀ x ∈ l, ∀ y ∈ l, cmpT x.st y.st = 0 → x = y := fun x hx y hy h => by
    obtain ⟨i, hi, rfl⟩ := gN_mem_iff.1 hx
    obtain ⟨j, hj, rfl⟩ := gN_mem_iff.1 hy
    rcases Nat.lt_trichotomy i j with h2 | h2 | h2
    · refine ((he j hj).2 i h2 ?_).elim
      rcases cmpT_r (gN l i).st (gN l j).st with ⟨e, _⟩ | ⟨_, e⟩ | ⟨e, _⟩
      · omega
      · rw [← e, e]; rw [e] at h; exact h
      · omega
    · rw [h2]
    · exact ((he i hi).2 j h2 h).elim
  have hl1 : l ≠ [] := fun h => hl0 (by rw [h]; rfl)
  have hp : O.Perm l := by rw [← hO]; exact perm_turn (by omega)
  have hmC : ∀ x, x ∈ l ↔ x ∈ l ++ O := fun x => by rw [List.mem_append, hp.mem_iff, or_self]
  have hmO : ∀ x, x ∈ l ↔ x ∈ O := fun x => hp.mem_iff.symm
  have e1 : madeE n f l = 0 := made_0 hl1 hch
  have e2 : madeE n f O = 0 := (made_mem hmO hu).1.symm.trans e1
  have e3 : madeE n f (l ++ O) = 0 := (made_mem hmC hu).1.symm.trans e1
  have m2 : madeT n f O = madeT n f l := (made_mem hmO hu).2.symm
  have m3 : madeT n f (l ++ O) = madeT n f l := (made_mem hmC hu).2.symm
  have vE : (vectorT n l).2 = 0 := vector_0 hl1 hch
  have vO : vectorT n O = vectorT n l := (vector_mem hmO).symm
  have hvl : (vectorT n l).1.length ≤ maxLen := by
    unfold vectorT maxLen; split
    · rw [vecF_len]; omega
    · exact Nat.zero_le _
  have c2 : closedB n O = closedB n l := closed_perm hp
  have hsm := made_small (n := n) (f := f) (l := l) hfl (by omega) fun x hx => (hxs x hx).2
  first | refine caS_i (AMade_ok (fl := .b) (fm := .b) n f l (by omega) hxs) trivial ?_ | refine caD_i (AMade_ok (fl := .b) (fm := .b) n f l (by omega) hxs) trivial ?_ | refine gC_i (fun _ => AMade_ok (fl := .b) (fm := .b) n f l (by omega) hxs) trivial ?_ | refine gCD_i (fun _ => AMade_ok (fl := .b) (fm := .b) n f l (by omega) hxs) trivial ?_ | refine caE_i (AMade_ok (fl := .b) (fm := .b) n f l (by omega) hxs) trivial ?_
  obtain ⟨fO, hfO⟩ := resO ho
  have gO : resV ob2 6 (env 11) = ops fO O := hfO 2
  simp (config := {contextual := true, maxSteps := 1000000}) only [go_sem, ints, intRows, iv_c, Nat.reduceAdd, Nat.reduceBEq, Nat.reduceEqDiff, Nat.reduceLeDiff, Nat.reduceLT, reduceIte, Nat.le_refl, true_or, or_true, and_self, Int.reduceLE, Int.reduceLT, Int.reduceEq, Int.reduceNeg, Int.natCast_nonneg, Int.reduceToNat, ops, vals, dots, h0, h1, h2, h3, tbs, e1, e2, e3, m2, m3, vE, vO, c2]
  rw [gO]
  first | refine caS_i (AMade_ok (fl := .b) (fm := fO) n f O (by omega) (fun x hx => hxs x (hOm x hx))) trivial ?_ | refine caD_i (AMade_ok (fl := .b) (fm := fO) n f O (by omega) (fun x hx => hxs x (hOm x hx))) trivial ?_ | refine gC_i (fun _ => AMade_ok (fl := .b) (fm := fO) n f O (by omega) (fun x hx => hxs x (hOm x hx))) trivial ?_ | refine gCD_i (fun _ => AMade_ok (fl := .b) (fm := fO) n f O (by omega) (fun x hx => hxs x (hOm x hx))) trivial ?_ | refine caE_i (AMade_ok (fl := .b) (fm := fO) n f O (by omega) (fun x hx => hxs x (hOm x hx))) trivial ?_
  simp (config := {contextual := true, maxSteps := 1000000}) only [go_sem, ints, intRows, iv_c, Nat.reduceAdd, Nat.reduceBEq, Nat.reduceEqDiff, Nat.reduceLeDiff, Nat.reduceLT, reduceIte, Nat.le_refl, true_or, or_true, and_self, Int.reduceLE, Int.reduceLT, Int.reduceEq, Int.reduceNeg, Int.natCast_nonneg, Int.reduceToNat, ops, vals, dots, h0, h1, h2, h3, tbs, e1, e2, e3, m2, m3, vE, vO, c2]
  have ho3 := fun (ob3 : OB) (h : ∀ j, j < n2 → ob3 j = ob2 j) => own_fr ho (Nat.le_succ n2) fun j hj _ => h j hj
  refine nxS_any (n := n2) (xs := l.map opV) Own.nil (by omega) rfl (allOps l) (by simp; unfold maxLen; omega) fun v1 ob3 u2 u3 u4 => ?_
  have ho3 := ho3 ob3 fun j hj => u3 j (by omega) fun len h => by cases h
  simp (config := {contextual := true, maxSteps := 1000000}) only [go_sem, ints, intRows, iv_c, Nat.reduceAdd, Nat.reduceBEq, Nat.reduceEqDiff, Nat.reduceLeDiff, Nat.reduceLT, reduceIte, Nat.le_refl, true_or, or_true, and_self, Int.reduceLE, Int.reduceLT, Int.reduceEq, Int.reduceNeg, Int.natCast_nonneg, Int.reduceToNat, ops, vals, dots, h0, h1, h2, h3, tbs, e1, e2, e3, m2, m3, vE, vO, c2]
  refine nxS_any (xs := O.map opV) u2 (by omega) (own_rows ho3) (allOps O) (by simp; unfold maxLen; omega) fun v2 ob4 u5 u6 u7 => ?_
  rw [List.nil_append, ← List.map_append] at u5
  obtain ⟨fC, hfC⟩ := resO u5
  have gC : resV ob4 6 v2 = ops fC (l ++ O) := hfC 2
  simp (config := {contextual := true, maxSteps := 1000000}) only [go_sem, ints, intRows, iv_c, Nat.reduceAdd, Nat.reduceBEq, Nat.reduceEqDiff, Nat.reduceLeDiff, Nat.reduceLT, reduceIte, Nat.le_refl, true_or, or_true, and_self, Int.reduceLE, Int.reduceLT, Int.reduceEq, Int.reduceNeg, Int.natCast_nonneg, Int.reduceToNat, ops, vals, dots, h0, h1, h2, h3, tbs, e1, e2, e3, m2, m3, vE, vO, c2]
  rw [gC]
  first | refine caS_i (AMade_ok (fl := .b) (fm := fC) n f (l ++ O) (by simp; omega) (fun x hx => (List.mem_append.1 hx).elim (hxs x) fun h => hxs x (hOm x h))) trivial ?_ | refine caD_i (AMade_ok (fl := .b) (fm := fC) n f (l ++ O) (by simp; omega) (fun x hx => (List.mem_append.1 hx).elim (hxs x) fun h => hxs x (hOm x h))) trivial ?_ | refine gC_i (fun _ => AMade_ok (fl := .b) (fm := fC) n f (l ++ O) (by simp; omega) (fun x hx => (List.mem_append.1 hx).elim (hxs x) fun h => hxs x (hOm x h))) trivial ?_ | refine gCD_i (fun _ => AMade_ok (fl := .b) (fm := fC) n f (l ++ O) (by simp; omega) (fun x hx => (List.mem_append.1 hx).elim (hxs x) fun h => hxs x (hOm x h))) trivial ?_ | refine caE_i (AMade_ok (fl := .b) (fm := fC) n f (l ++ O) (by simp; omega) (fun x hx => (List.mem_append.1 hx).elim (hxs x) fun h => hxs x (hOm x h))) trivial ?_
  simp (config := {contextual := true, maxSteps := 1000000}) only [go_sem, ints, intRows, iv_c, Nat.reduceAdd, Nat.reduceBEq, Nat.reduceEqDiff, Nat.reduceLeDiff, Nat.reduceLT, reduceIte, Nat.le_refl, true_or, or_true, and_self, Int.reduceLE, Int.reduceLT, Int.reduceEq, Int.reduceNeg, Int.natCast_nonneg, Int.reduceToNat, ops, vals, dots, h0, h1, h2, h3, tbs, e1, e2, e3, m2, m3, vE, vO, c2]
  first | refine caS_i (AVector_ok (fl := .b) n l (by unfold maxLen; omega)) trivial ?_ | refine caD_i (AVector_ok (fl := .b) n l (by unfold maxLen; omega)) trivial ?_ | refine gC_i (fun _ => AVector_ok (fl := .b) n l (by unfold maxLen; omega)) trivial ?_ | refine gCD_i (fun _ => AVector_ok (fl := .b) n l (by unfold maxLen; omega)) trivial ?_ | refine caE_i (AVector_ok (fl := .b) n l (by unfold maxLen; omega)) trivial ?_
  simp (config := {contextual := true, maxSteps := 1000000}) only [go_sem, ints, intRows, iv_c, Nat.reduceAdd, Nat.reduceBEq, Nat.reduceEqDiff, Nat.reduceLeDiff, Nat.reduceLT, reduceIte, Nat.le_refl, true_or, or_true, and_self, Int.reduceLE, Int.reduceLT, Int.reduceEq, Int.reduceNeg, Int.natCast_nonneg, Int.reduceToNat, ops, vals, dots, h0, h1, h2, h3, tbs, e1, e2, e3, m2, m3, vE, vO, c2]
  have ho4 := own_fr ho3 (Nat.le_succ _) fun j hj _ => u6 j (by omega) fun len h => by
    rcases u4 with h' | ⟨_, h'⟩ <;> rw [h'] at h <;> simp at h; omega
  obtain ⟨fO4, hfO4⟩ := resO ho4
  have gO4 : resV ob4 6 (env 11) = ops fO4 O := hfO4 2
  rw [gO4]
  first | refine caS_i (AVector_ok (fl := fO4) n O (by unfold maxLen; omega)) trivial ?_ | refine caD_i (AVector_ok (fl := fO4) n O (by unfold maxLen; omega)) trivial ?_ | refine gC_i (fun _ => AVector_ok (fl := fO4) n O (by unfold maxLen; omega)) trivial ?_ | refine gCD_i (fun _ => AVector_ok (fl := fO4) n O (by unfold maxLen; omega)) trivial ?_ | refine caE_i (AVector_ok (fl := fO4) n O (by unfold maxLen; omega)) trivial ?_
  simp (config := {contextual := true, maxSteps := 1000000}) only [go_sem, ints, intRows, iv_c, Nat.reduceAdd, Nat.reduceBEq, Nat.reduceEqDiff, Nat.reduceLeDiff, Nat.reduceLT, reduceIte, Nat.le_refl, true_or, or_true, and_self, Int.reduceLE, Int.reduceLT, Int.reduceEq, Int.reduceNeg, Int.natCast_nonneg, Int.reduceToNat, ops, vals, dots, h0, h1, h2, h3, tbs, e1, e2, e3, m2, m3, vE, vO, c2]
  first | refine caS_i (KTables_ok (fl := .b) (fm := .b) (madeT n f l) (madeT n f l) hsm.1 hsm.2) trivial ?_ | refine caD_i (KTables_ok (fl := .b) (fm := .b) (madeT n f l) (madeT n f l) hsm.1 hsm.2) trivial ?_ | refine gC_i (fun _ => KTables_ok (fl := .b) (fm := .b) (madeT n f l) (madeT n f l) hsm.1 hsm.2) trivial ?_ | refine gCD_i (fun _ => KTables_ok (fl := .b) (fm := .b) (madeT n f l) (madeT n f l) hsm.1 hsm.2) trivial ?_ | refine caE_i (KTables_ok (fl := .b) (fm := .b) (madeT n f l) (madeT n f l) hsm.1 hsm.2) trivial ?_
  simp (config := {contextual := true, maxSteps := 1000000}) only [go_sem, ints, intRows, iv_c, Nat.reduceAdd, Nat.reduceBEq, Nat.reduceEqDiff, Nat.reduceLeDiff, Nat.reduceLT, reduceIte, Nat.le_refl, true_or, or_true, and_self, Int.reduceLE, Int.reduceLT, Int.reduceEq, Int.reduceNeg, Int.natCast_nonneg, Int.reduceToNat, ops, vals, dots, h0, h1, h2, h3, tbs, sameT_refl]
  first | refine caS_i (KTables_ok (fl := .b) (fm := .b) (madeT n f l) (madeT n f l) hsm.1 hsm.2) trivial ?_ | refine caD_i (KTables_ok (fl := .b) (fm := .b) (madeT n f l) (madeT n f l) hsm.1 hsm.2) trivial ?_ | refine gC_i (fun _ => KTables_ok (fl := .b) (fm := .b) (madeT n f l) (madeT n f l) hsm.1 hsm.2) trivial ?_ | refine gCD_i (fun _ => KTables_ok (fl := .b) (fm := .b) (madeT n f l) (madeT n f l) hsm.1 hsm.2) trivial ?_ | refine caE_i (KTables_ok (fl := .b) (fm := .b) (madeT n f l) (madeT n f l) hsm.1 hsm.2) trivial ?_
  simp (config := {contextual := true, maxSteps := 1000000}) only [go_sem, ints, intRows, iv_c, Nat.reduceAdd, Nat.reduceBEq, Nat.reduceEqDiff, Nat.reduceLeDiff, Nat.reduceLT, reduceIte, Nat.le_refl, true_or, or_true, and_self, Int.reduceLE, Int.reduceLT, Int.reduceEq, Int.reduceNeg, Int.natCast_nonneg, Int.reduceToNat, ops, vals, dots, h0, h1, h2, h3, tbs, sameT_refl]
  first | refine caS_i (Ints_ok (fl := .b) (fm := .b) (vectorT n l).1 (vectorT n l).1 hvl) trivial ?_ | refine caD_i (Ints_ok (fl := .b) (fm := .b) (vectorT n l).1 (vectorT n l).1 hvl) trivial ?_ | refine gC_i (fun _ => Ints_ok (fl := .b) (fm := .b) (vectorT n l).1 (vectorT n l).1 hvl) trivial ?_ | refine gCD_i (fun _ => Ints_ok (fl := .b) (fm := .b) (vectorT n l).1 (vectorT n l).1 hvl) trivial ?_ | refine caE_i (Ints_ok (fl := .b) (fm := .b) (vectorT n l).1 (vectorT n l).1 hvl) trivial ?_
  simp (config := {contextual := true, maxSteps := 1000000}) only [go_sem, ints, intRows, iv_c, Nat.reduceAdd, Nat.reduceBEq, Nat.reduceEqDiff, Nat.reduceLeDiff, Nat.reduceLT, reduceIte, Nat.le_refl, true_or, or_true, and_self, Int.reduceLE, Int.reduceLT, Int.reduceEq, Int.reduceNeg, Int.natCast_nonneg, Int.reduceToNat, ops, vals, dots, h0, h1, h2, h3, tbs, sameT_refl]
  first | refine caS_i (Closed_ok (fl := .b) n l (by unfold maxLen; omega) hn) trivial ?_ | refine caD_i (Closed_ok (fl := .b) n l (by unfold maxLen; omega) hn) trivial ?_ | refine gC_i (fun _ => Closed_ok (fl := .b) n l (by unfold maxLen; omega) hn) trivial ?_ | refine gCD_i (fun _ => Closed_ok (fl := .b) n l (by unfold maxLen; omega) hn) trivial ?_ | refine caE_i (Closed_ok (fl := .b) n l (by unfold maxLen; omega) hn) trivial ?_
  simp (config := {contextual := true, maxSteps := 1000000}) only [go_sem, ints, intRows, iv_c, Nat.reduceAdd, Nat.reduceBEq, Nat.reduceEqDiff, Nat.reduceLeDiff, Nat.reduceLT, reduceIte, Nat.le_refl, true_or, or_true, and_self, Int.reduceLE, Int.reduceLT, Int.reduceEq, Int.reduceNeg, Int.natCast_nonneg, Int.reduceToNat, ops, vals, dots, h0, h1, h2, h3, tbs, sameT_refl]
  rw [gO4]
  first | refine caS_i (Closed_ok (fl := fO4) n O (by unfold maxLen; omega) fun x hx => hn x (hOm x hx)) trivial ?_ | refine caD_i (Closed_ok (fl := fO4) n O (by unfold maxLen; omega) fun x hx => hn x (hOm x hx)) trivial ?_ | refine gC_i (fun _ => Closed_ok (fl := fO4) n O (by unfold maxLen; omega) fun x hx => hn x (hOm x hx)) trivial ?_ | refine gCD_i (fun _ => Closed_ok (fl := fO4) n O (by unfold maxLen; omega) fun x hx => hn x (hOm x hx)) trivial ?_ | refine caE_i (Closed_ok (fl := fO4) n O (by unfold maxLen; omega) fun x hx => hn x (hOm x hx)) trivial ?_
  simp (config := {contextual := true, maxSteps := 1000000}) only [go_sem, ints, intRows, iv_c, Nat.reduceAdd, Nat.reduceBEq, Nat.reduceEqDiff, Nat.reduceLeDiff, Nat.reduceLT, reduceIte, Nat.le_refl, true_or, or_true, and_self, Int.reduceLE, Int.reduceLT, Int.reduceEq, Int.reduceNeg, Int.natCast_nonneg, Int.reduceToNat, ops, vals, dots, h0, h1, h2, h3, tbs, sameT_refl, c2]
  first | refine caS_i (wakes26_ok) trivial ?_ | refine caD_i (wakes26_ok) trivial ?_ | refine gC_i (fun _ => wakes26_ok) trivial ?_ | refine gCD_i (fun _ => wakes26_ok) trivial ?_ | refine caE_i (wakes26_ok) trivial ?_
  simp (config := {contextual := true, maxSteps := 1000000}) only [go_sem, ints, intRows, iv_c, Nat.reduceAdd, Nat.reduceBEq, Nat.reduceEqDiff, Nat.reduceLeDiff, Nat.reduceLT, reduceIte, Nat.le_refl, true_or, or_true, and_self, Int.reduceLE, Int.reduceLT, Int.reduceEq, Int.reduceNeg, Int.natCast_nonneg, Int.reduceToNat, ops, vals, dots, h0, h1, h2, h3, tbs]
theorem AuditOrder_law (n : Int) (f : List (List Int)) (l : List Opx) (turn : Int) (_ : gInt .i64 n) (_ : gList gTb f) (hl : gList gOpx l) (_ : gInt .i64 turn) : FnB Try.prog 4 [vi n, tbs .b f, ops .b l, vi turn] (vb true) := AuditOrder_ok n f l turn fun x hx => gi (hl.2 x hx).1.2
end Go.Proofs.Ytbojpedklnmidaa.D
end
section
set_option linter.unusedVariables false
set_option linter.unusedSimpArgs false
set_option linter.constructorNameAsVariable false
/- The row of AuditOrder, out of what the law answers to plain values. No condition beyond the statement's own. -/
namespace Go.Proofs.Ytbojpedklnmidaa.auditOrder
open Go.ChangeShapes Go.WideShapes Go.ChangeAt Go.RowKit Go.Proofs.Ytbojpedklnmidaa.D
open Go.ChangeMaps (open_string shut_string)
theorem own : ownKnob Try.prog.godebug = none := by kernel_rfl
theorem laidOut : laidOutB Try.prog = true := by kernel_rfl
theorem opn73 {H : Type} {enc : TypeId × Value → H} : Opn enc Try.prog 73 tbV gTb := by
  intro W base sp held fuel cs x h
  obtain ⟨xs, n, rfl, rfl, hl, hxl, hf⟩ := DataW.trod_struct Try.underlying73 h
  obtain ⟨a0, K0, G0⟩ := opn_field (sz := 1) hxl hf 0 _ rfl (opn_slice (sz := 1) Try.underlying23 (opn_int Try.underlying3) (by kernel_rfl) (by decide) (fun _ => rfl)) (by kernel_rfl)
  have hc : Try.prog.cellsOf 73 = 1 := by kernel_rfl
  rw [hc] at hl
  exact ⟨a0, (rv_last K0 hl), G0⟩
theorem opn28 {H : Type} {enc : TypeId × Value → H} : Opn enc Try.prog 28 dotV gDt := by
  intro W base sp held fuel cs x h
  obtain ⟨xs, n, rfl, rfl, hl, hxl, hf⟩ := DataW.trod_struct Try.underlying28 h
  obtain ⟨a0, K0, G0⟩ := opn_field (sz := 1) hxl hf 0 _ rfl (opn_int Try.underlying3) (by kernel_rfl)
  obtain ⟨a1, K1, G1⟩ := opn_field (sz := 1) hxl hf 1 _ rfl (opn_int Try.underlying3) (by kernel_rfl)
  have hc : Try.prog.cellsOf 28 = 2 := by kernel_rfl
  rw [hc] at hl
  exact ⟨⟨a0, a1⟩, (rv_fields K0 (rv_last K1 hl)), ⟨G0, G1⟩⟩
theorem opn30 {H : Type} {enc : TypeId × Value → H} : Opn enc Try.prog 30 stV gSt3 := by
  intro W base sp held fuel cs x h
  obtain ⟨xs, n, rfl, rfl, hl, hxl, hf⟩ := DataW.trod_struct Try.underlying30 h
  obtain ⟨a0, K0, G0⟩ := opn_field (sz := 1) hxl hf 0 _ rfl (opn_int Try.underlying3) (by kernel_rfl)
  obtain ⟨a1, K1, G1⟩ := opn_field (sz := 1) hxl hf 1 _ rfl (opn_int Try.underlying3) (by kernel_rfl)
  obtain ⟨a2, K2, G2⟩ := opn_field (sz := 1) hxl hf 2 _ rfl (opn_int Try.underlying3) (by kernel_rfl)
  have hc : Try.prog.cellsOf 30 = 3 := by kernel_rfl
  rw [hc] at hl
  exact ⟨⟨a0, a1, a2⟩, (rv_fields K0 (rv_fields K1 (rv_last K2 hl))), ⟨G0, G1, G2⟩⟩
theorem opn60 {H : Type} {enc : TypeId × Value → H} : Opn enc Try.prog 60 vlV gVl := by
  intro W base sp held fuel cs x h
  obtain ⟨xs, n, rfl, rfl, hl, hxl, hf⟩ := DataW.trod_struct Try.underlying60 h
  obtain ⟨a0, K0, G0⟩ := opn_field (sz := 1) hxl hf 0 _ rfl (opn_int Try.underlying3) (by kernel_rfl)
  obtain ⟨a1, K1, G1⟩ := opn_field (sz := 1) hxl hf 1 _ rfl (opn_int Try.underlying3) (by kernel_rfl)
  obtain ⟨a2, K2, G2⟩ := opn_field (sz := 1) hxl hf 2 _ rfl (opn_string Try.underlying9) (by kernel_rfl)
  have hc : Try.prog.cellsOf 60 = 3 := by kernel_rfl
  rw [hc] at hl
  exact ⟨⟨a0, a1, a2⟩, (rv_fields K0 (rv_fields K1 (rv_last K2 hl))), ⟨G0, G1, G2⟩⟩
theorem opn34 {H : Type} {enc : TypeId × Value → H} : Opn enc Try.prog 34 opV gOpx := by
  intro W base sp held fuel cs x h
  obtain ⟨xs, n, rfl, rfl, hl, hxl, hf⟩ := DataW.trod_struct Try.underlying34 h
  obtain ⟨a0, K0, G0⟩ := opn_field (sz := 2) hxl hf 0 _ rfl opn28 (by kernel_rfl)
  obtain ⟨a1, K1, G1⟩ := opn_field (sz := 1) hxl hf 1 _ rfl (opn_slice (sz := 1) Try.underlying23 (opn_int Try.underlying3) (by kernel_rfl) (by decide) (fun _ => rfl)) (by kernel_rfl)
  obtain ⟨a2, K2, G2⟩ := opn_field (sz := 3) hxl hf 2 _ rfl opn30 (by kernel_rfl)
  obtain ⟨a3, K3, G3⟩ := opn_field (sz := 1) hxl hf 3 _ rfl (opn_int Try.underlying3) (by kernel_rfl)
  obtain ⟨a4, K4, G4⟩ := opn_field (sz := 1) hxl hf 4 _ rfl (opn_int Try.underlying3) (by kernel_rfl)
  obtain ⟨a5, K5, G5⟩ := opn_field (sz := 1) hxl hf 5 _ rfl (opn_string Try.underlying9) (by kernel_rfl)
  obtain ⟨a6, K6, G6⟩ := opn_field (sz := 1) hxl hf 6 _ rfl (opn_int Try.underlying3) (by kernel_rfl)
  obtain ⟨a7, K7, G7⟩ := opn_field (sz := 1) hxl hf 7 _ rfl (opn_slice (sz := 3) Try.underlying31 opn60 (by kernel_rfl) (by decide) (fun _ => rfl)) (by kernel_rfl)
  obtain ⟨a8, K8, G8⟩ := opn_field (sz := 1) hxl hf 8 _ rfl (opn_slice (sz := 2) Try.underlying32 opn28 (by kernel_rfl) (by decide) (fun _ => rfl)) (by kernel_rfl)
  have hc : Try.prog.cellsOf 34 = 12 := by kernel_rfl
  rw [hc] at hl
  exact ⟨⟨a0, a1, a2, a3, a4, a5, a6, a7, a8⟩, (rv_fields K0 (rv_fields K1 (rv_fields K2 (rv_fields K3 (rv_fields K4 (rv_fields K5 (rv_fields K6 (rv_fields K7 (rv_last K8 hl))))))))), ⟨G0, G1, G2, G3, G4, G5, G6, G7, G8⟩⟩
set_option maxRecDepth 100000 in
set_option maxHeartbeats 2000000 in
theorem lifted (os : Os) (started : os.Started) (H : Type) (enc : TypeId × Value → H) :
    ReturnsInHanded {} Try.checked os 4 .any (Rows.auditOrderSpec.pre6 enc Try.prog Try.f4 Rows.auditOrderRow.domain false) (Rows.auditOrderSpec.post enc Try.prog Try.f4 false true false false) := by
  refine returnsInHanded_of_change_sized (C := Try.checked) own started (by kernel_rfl) Try.func4
    (ChangeSpec.witness6 (enc := enc) (C := Try.checked) false ⟨#[], #[.int .i64 0, .slice none 0 0, .slice none 0 0, .int .i64 0], []⟩ 8 (by kernel_rfl) (by kernel_rfl) (by kernel_rfl) (by kernel_rfl)) ?_
  intro W base args ds gs before hval0 hW hcnd hsz0 _
  have hval : ∀ (j : Nat) t v, Try.f4.params[j]? = some t → args[j]? = some v → Value.okWide Try.prog W .any base t v := hval0
  have hW' := hW
  obtain ⟨p, q, hA0, hV, rfl, hfz, hnd⟩ := hW
  have hA : DataW.TrodAll enc Try.prog W 0 (fun _ => true) true Try.f4.params.toList args.toList ds p := hA0
  rw [Try.params4] at hA hval
  obtain ⟨v0, vs0, d0, ds0, p0, q0, hargs, rfl, rfl, h0, r0⟩ := trodAll_cons hA
  obtain ⟨v1, vs1, d1, ds1, p1, q1, rfl, rfl, rfl, h1, r1⟩ := trodAll_cons r0
  obtain ⟨v2, vs2, d2, ds2, p2, q2, rfl, rfl, rfl, h2, r2⟩ := trodAll_cons r1
  obtain ⟨v3, vs3, d3, ds3, p3, q3, rfl, rfl, rfl, h3, r3⟩ := trodAll_cons r2
  obtain ⟨rfl, rfl, rfl⟩ := trodAll_nil r3
  obtain rfl : args = #[v0, v1, v2, v3] := by cases args; simp_all
  obtain ⟨rfl, rfl⟩ := trodVars_none hV
  have k0 := h0
  have lt0 : ∀ x ∈ p0, x.block < W.heap.size := by obtain ⟨m, hm⟩ := k0; exact DataW.trod_lt m _ _ _ hm
  obtain ⟨_, e0⟩ := okWide_int Try.underlying3 (hval 0 3 v0 rfl rfl)
  obtain ⟨a0, R0, G0⟩ := arg_one (opn_int Try.underlying3) (by rw [e0]; rfl) h0
  have k1 := h1
  have lt1 : ∀ x ∈ p1, x.block < W.heap.size := by obtain ⟨m, hm⟩ := k1; exact DataW.trod_lt m _ _ _ hm
  obtain ⟨_, _, _, e1⟩ := okWide_slice Try.underlying43 (hval 1 43 v1 rfl rfl)
  obtain ⟨a1, R1, G1⟩ := arg_one (opn_slice (sz := 1) Try.underlying43 opn73 (by kernel_rfl) (by decide) (fun _ => rfl)) (by rw [e1]; rfl) h1
  have k2 := h2
  have lt2 : ∀ x ∈ p2, x.block < W.heap.size := by obtain ⟨m, hm⟩ := k2; exact DataW.trod_lt m _ _ _ hm
  obtain ⟨_, _, _, e2⟩ := okWide_slice Try.underlying22 (hval 2 22 v2 rfl rfl)
  obtain ⟨a2, R2, G2⟩ := arg_one (opn_slice (sz := 12) Try.underlying22 opn34 (by kernel_rfl) (by decide) (fun _ => rfl)) (by rw [e2]; rfl) h2
  have k3 := h3
  have lt3 : ∀ x ∈ p3, x.block < W.heap.size := by obtain ⟨m, hm⟩ := k3; exact DataW.trod_lt m _ _ _ hm
  obtain ⟨_, e3⟩ := okWide_int Try.underlying3 (hval 3 3 v3 rfl rfl)
  obtain ⟨a3, R3, G3⟩ := arg_one (opn_int Try.underlying3) (by rw [e3]; rfl) h3
  clear hA0 hval0 hsz0
  have hfn := AuditOrder_law a0 a1 a2 a3 G0 G1 G2 G3
  refine (hfn.2 bkA W [v0, v1, v2, v3] (RVs_cons R0 (RVs_cons R1 (RVs_cons R2 (RVs_cons R3 RVs_nil))))).mono fun e W' ⟨x, he, hr, bel⟩ => ?_
  subst he
  obtain rfl := res_true hr
  exact ⟨_, rfl, _, _, _, [], _, [], hW', trodAll_mk1 (shut_bool Try.underlying4 _), (trodAll_cons_mk (Below.trod laidOut (by kernel_rfl) (of_decide_eq_true (by kernel_rfl)) k0 bel lt0) (trodAll_cons_mk (Below.trod laidOut (by kernel_rfl) (of_decide_eq_true (by kernel_rfl)) k1 bel lt1) (trodAll_cons_mk (Below.trod laidOut (by kernel_rfl) (of_decide_eq_true (by kernel_rfl)) k2 bel lt2) (trodAll_cons_mk (Below.trod laidOut (by kernel_rfl) (of_decide_eq_true (by kernel_rfl)) k3 bel lt3) trodAll_mk0)))), rfl, bel.frame _, fun h => by cases h⟩
theorem over : Rows.auditOrderRow.holds Try.pinned (OpenSpec.ofChange Rows.auditOrderSpec) :=
  OpenClaim.holds_of_wide 4 Try.f4 rfl rfl rfl rfl rfl rfl rfl ⟨rfl, rfl, rfl, rfl, rfl⟩ rfl rfl rfl rfl rfl (by kernel_rfl) Try.func4 (by kernel_rfl)
    (of_decide_eq_true (by kernel_rfl)) (by unfold Func.isWrapper; first | (rw [if_pos (by decide +kernel)]; kernel_rfl) | (rw [if_neg (by decide +kernel)]; exact ⟨rfl, rfl⟩))
    (fun os started H enc _ => lifted os started H enc)
theorem proved : Rows.AuditOrderSaid := over
#print axioms proved
end Go.Proofs.Ytbojpedklnmidaa.auditOrder
namespace Go.Proofs.Ytbojpedklnmidaa
/-- The row, under a short name, for the claim. -/
theorem auditOrder_holds : Rows.AuditOrderSaid := auditOrder.proved
end Go.Proofs.Ytbojpedklnmidaa
end
