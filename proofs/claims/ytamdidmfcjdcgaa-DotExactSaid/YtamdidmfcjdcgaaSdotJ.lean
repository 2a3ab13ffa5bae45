/- Comparing dots; spoiling; DotExact. No condition. -/
import Derived.Test.YtamdidmfcjdcgaaSmatF
set_option linter.unusedVariables false
set_option linter.unusedSimpArgs false
set_option maxRecDepth 100000
namespace Go.Proofs.Ytamdidmfcjdcgaa.D
open Go Go.Proofs

def cmpI (x y : Int) : Int := if x < y then -1 else if y < x then 1 else 0
theorem isNaN_ok (x : Int) : FnB Try.prog 64 [vi x] (vb false) := by
  refine fnB_intro cf64 (by simp) ?_
  simp (config := {contextual := true, maxSteps := 1000000}) only [go_sem, ints, intRows, iv_c, Nat.reduceAdd, Nat.reduceBEq, Nat.reduceEqDiff, Nat.reduceLeDiff, Nat.reduceLT, reduceIte, Nat.le_refl, true_or, or_true, and_self, Int.reduceLE, Int.reduceLT, Int.reduceEq, Int.reduceNeg, Int.natCast_nonneg, Int.reduceToNat, c64]
theorem cmpI_ok (x y : Int) : FnB Try.prog 60 [vi x, vi y] (vi (cmpI x y)) := by
  refine fnB_intro cf60 (by simp) ?_
  simp (config := {contextual := true, maxSteps := 1000000}) only [go_sem, ints, intRows, iv_c, Nat.reduceAdd, Nat.reduceBEq, Nat.reduceEqDiff, Nat.reduceLeDiff, Nat.reduceLT, reduceIte, Nat.le_refl, true_or, or_true, and_self, Int.reduceLE, Int.reduceLT, Int.reduceEq, Int.reduceNeg, Int.natCast_nonneg, Int.reduceToNat, c60]
  first | refine caS_i (isNaN_ok x) trivial ?_ | refine caD_i (isNaN_ok x) trivial ?_ | refine gC_i (fun _ => isNaN_ok x) trivial ?_ | refine gCD_i (fun _ => isNaN_ok x) trivial ?_
  simp (config := {contextual := true, maxSteps := 1000000}) only [go_sem, ints, intRows, iv_c, Nat.reduceAdd, Nat.reduceBEq, Nat.reduceEqDiff, Nat.reduceLeDiff, Nat.reduceLT, reduceIte, Nat.le_refl, true_or, or_true, and_self, Int.reduceLE, Int.reduceLT, Int.reduceEq, Int.reduceNeg, Int.natCast_nonneg, Int.reduceToNat]
  first | refine caS_i (isNaN_ok y) trivial ?_ | refine caD_i (isNaN_ok y) trivial ?_ | refine gC_i (fun _ => isNaN_ok y) trivial ?_ | refine gCD_i (fun _ => isNaN_ok y) trivial ?_
  simp (config := {contextual := true, maxSteps := 1000000}) only [go_sem, ints, intRows, iv_c, Nat.reduceAdd, Nat.reduceBEq, Nat.reduceEqDiff, Nat.reduceLeDiff, Nat.reduceLT, reduceIte, Nat.le_refl, true_or, or_true, and_self, Int.reduceLE, Int.reduceLT, Int.reduceEq, Int.reduceNeg, Int.natCast_nonneg, Int.reduceToNat]
  refine ⟨fun h => ?_, fun h => ⟨fun h2 => ?_, fun h2 => ?_⟩⟩ <;> simp at *
  · rw [cmpI, if_pos h]
  · rw [cmpI, if_neg (by omega), if_pos h2]
  · rw [cmpI, if_neg (by omega), if_neg (by omega)]
def orV : List Int → Int
  | [] => 0
  | x :: l => if x ≠ 0 then x else orV l
theorem cmpOr_ok {fl : Fl} (l : List Int) (hl : l.length ≤ maxLen) : FnB Try.prog 59 [ints fl l] (vi (orV l)) := by
  unfold maxLen at hl
  refine fnB_intro cf59 (by simp) ?_
  simp (config := {contextual := true, maxSteps := 1000000}) only [go_sem, ints, intRows, iv_c, Nat.reduceAdd, Nat.reduceBEq, Nat.reduceEqDiff, Nat.reduceLeDiff, Nat.reduceLT, reduceIte, Nat.le_refl, true_or, or_true, and_self, Int.reduceLE, Int.reduceLT, Int.reduceEq, Int.reduceNeg, Int.natCast_nonneg, Int.reduceToNat, c59]
  refine wpC_lp (fun env ob n' => env 3 = vi 0 ∧ env 6 = ints fl l ∧ env 7 = vi l.length ∧ ∃ i : Nat, env 8 = vi i ∧ i ≤ l.length ∧ orV l = orV (l.drop i)) (fun env ob _ => (l.length - iv (env 8)).toNat) ?_ ?_
  · simp (config := {contextual := true, maxSteps := 1000000}) only [go_sem, ints, intRows, iv_c, Nat.reduceAdd, Nat.reduceBEq, Nat.reduceEqDiff, Nat.reduceLeDiff, Nat.reduceLT, reduceIte, Nat.le_refl, true_or, or_true, and_self, Int.reduceLE, Int.reduceLT, Int.reduceEq, Int.reduceNeg, Int.natCast_nonneg, Int.reduceToNat]
    exact ⟨0, rfl, by omega, by simp⟩
  rintro env ob n' ⟨h3, h6, h7, i, h8, hi, he⟩
  simp (config := {contextual := true, maxSteps := 1000000}) only [go_sem, ints, intRows, iv_c, Nat.reduceAdd, Nat.reduceBEq, Nat.reduceEqDiff, Nat.reduceLeDiff, Nat.reduceLT, reduceIte, Nat.le_refl, true_or, or_true, and_self, Int.reduceLE, Int.reduceLT, Int.reduceEq, Int.reduceNeg, Int.natCast_nonneg, Int.reduceToNat, h3, h6, h7, h8]
  refine ⟨fun hlt => ?_, fun hge => ?_⟩
  · simp at hlt
    rw [drop_gN hlt, orV] at he
    refine ⟨by omega, fun hb => ?_, fun hg => ⟨⟨i + 1, ?_, by omega, ?_⟩, ?_⟩⟩
    · simp at hb; rw [if_pos hb] at he; rw [he]
    · rw [w64 (by omega)]; simp
    · simp at hg; rw [if_neg (by simpa using hg)] at he; exact he
    · rw [w64 (by omega)]; omega
  · simp at hge
    rw [List.drop_eq_nil_of_le (by omega), orV] at he
    rw [he]
def cmpD (a b : Dt) : Int := orV [cmpI a.p b.p, cmpI a.n b.n]
theorem cmpD_ok (a b : Dt) : FnB Try.prog 50 [.ag (dotV a), .ag (dotV b)] (vi (cmpD a b)) := by
  refine fnB_intro cf50 (by simp) ?_
  simp (config := {contextual := true, maxSteps := 1000000}) only [go_sem, ints, intRows, iv_c, Nat.reduceAdd, Nat.reduceBEq, Nat.reduceEqDiff, Nat.reduceLeDiff, Nat.reduceLT, reduceIte, Nat.le_refl, true_or, or_true, and_self, Int.reduceLE, Int.reduceLT, Int.reduceEq, Int.reduceNeg, Int.natCast_nonneg, Int.reduceToNat, c50, dotV]
  first | refine caS_i (cmpI_ok a.p b.p) trivial ?_ | refine caD_i (cmpI_ok a.p b.p) trivial ?_ | refine gC_i (fun _ => cmpI_ok a.p b.p) trivial ?_ | refine gCD_i (fun _ => cmpI_ok a.p b.p) trivial ?_
  simp (config := {contextual := true, maxSteps := 1000000}) only [go_sem, ints, intRows, iv_c, Nat.reduceAdd, Nat.reduceBEq, Nat.reduceEqDiff, Nat.reduceLeDiff, Nat.reduceLT, reduceIte, Nat.le_refl, true_or, or_true, and_self, Int.reduceLE, Int.reduceLT, Int.reduceEq, Int.reduceNeg, Int.natCast_nonneg, Int.reduceToNat]
  first | refine caS_i (cmpI_ok a.n b.n) trivial ?_ | refine caD_i (cmpI_ok a.n b.n) trivial ?_ | refine gC_i (fun _ => cmpI_ok a.n b.n) trivial ?_ | refine gCD_i (fun _ => cmpI_ok a.n b.n) trivial ?_
  simp (config := {contextual := true, maxSteps := 1000000}) only [go_sem, ints, intRows, iv_c, Nat.reduceAdd, Nat.reduceBEq, Nat.reduceEqDiff, Nat.reduceLeDiff, Nat.reduceLT, reduceIte, Nat.le_refl, true_or, or_true, and_self, Int.reduceLE, Int.reduceLT, Int.reduceEq, Int.reduceNeg, Int.natCast_nonneg, Int.reduceToNat]
  first | refine caS_i (cmpOr_ok [cmpI a.p b.p, cmpI a.n b.n] (by simp [maxLen])) trivial ?_ | refine caD_i (cmpOr_ok [cmpI a.p b.p, cmpI a.n b.n] (by simp [maxLen])) trivial ?_ | refine gC_i (fun _ => cmpOr_ok [cmpI a.p b.p, cmpI a.n b.n] (by simp [maxLen])) trivial ?_ | refine gCD_i (fun _ => cmpOr_ok [cmpI a.p b.p, cmpI a.n b.n] (by simp [maxLen])) trivial ?_
  simp (config := {contextual := true, maxSteps := 1000000}) only [go_sem, ints, intRows, iv_c, Nat.reduceAdd, Nat.reduceBEq, Nat.reduceEqDiff, Nat.reduceLeDiff, Nat.reduceLT, reduceIte, Nat.le_refl, true_or, or_true, and_self, Int.reduceLE, Int.reduceLT, Int.reduceEq, Int.reduceNeg, Int.natCast_nonneg, Int.reduceToNat, cmpD]
def lessD (a b : Dt) : Bool := decide (a.p < b.p ∨ a.p = b.p ∧ a.n < b.n)
theorem cmpD_less (a b : Dt) : decide (cmpD a b < 0) = lessD a b := by
  unfold cmpD lessD orV orV orV cmpI
  rw [decide_eq_decide]
  repeat' split
  all_goals first | omega | simp_all | skip
theorem Less_ok (a b : Dt) : FnB Try.prog 22 [.ag (dotV a), .ag (dotV b)] (vb (lessD a b)) := by
  refine fnB_intro cf22 (by simp) ?_
  simp (config := {contextual := true, maxSteps := 1000000}) only [go_sem, ints, intRows, iv_c, Nat.reduceAdd, Nat.reduceBEq, Nat.reduceEqDiff, Nat.reduceLeDiff, Nat.reduceLT, reduceIte, Nat.le_refl, true_or, or_true, and_self, Int.reduceLE, Int.reduceLT, Int.reduceEq, Int.reduceNeg, Int.natCast_nonneg, Int.reduceToNat, c22, dotV]
  first | refine caS_i (cmpD_ok a b) trivial ?_ | refine caD_i (cmpD_ok a b) trivial ?_ | refine gC_i (fun _ => cmpD_ok a b) trivial ?_ | refine gCD_i (fun _ => cmpD_ok a b) trivial ?_
  simp (config := {contextual := true, maxSteps := 1000000}) only [go_sem, ints, intRows, iv_c, Nat.reduceAdd, Nat.reduceBEq, Nat.reduceEqDiff, Nat.reduceLeDiff, Nat.reduceLT, reduceIte, Nat.le_refl, true_or, or_true, and_self, Int.reduceLE, Int.reduceLT, Int.reduceEq, Int.reduceNeg, Int.natCast_nonneg, Int.reduceToNat, cmpD_less]
theorem RLess_ok (a b : Dt) : FnB Try.prog 30 [.ag (dotV a), .ag (dotV b)] (vb (lessD a b)) := by
  refine fnB_intro cf30 (by simp) ?_
  simp (config := {contextual := true, maxSteps := 1000000}) only [go_sem, ints, intRows, iv_c, Nat.reduceAdd, Nat.reduceBEq, Nat.reduceEqDiff, Nat.reduceLeDiff, Nat.reduceLT, reduceIte, Nat.le_refl, true_or, or_true, and_self, Int.reduceLE, Int.reduceLT, Int.reduceEq, Int.reduceNeg, Int.natCast_nonneg, Int.reduceToNat, c30, dotV]
  simp only [lessD, V.c.injEq, Value.bool.injEq]
  rw [Bool.eq_iff_iff]; simp

/-- Spoilt: what it holds is not known any more. -/
theorem Spoil_ok {v : V} {l : List Int} {n nid : Nat} {ob : OB} {C : V → OB → Nat → Prop} (h : Own n ob v 1 (l.map fun n => [vi n])) (hn : n ≤ nid) (hl : l.length ≤ maxLen)
    (hC : ∀ ob' n', nid ≤ n' → (∀ id, (∀ len, v ≠ .sl id 0 len) → ob' id = ob id) → C (.tp []) ob' n') : FnS Try.prog 32 [v] ob nid C := by
  unfold maxLen at hl
  refine fnS_intro cf32 (by simp) ?_
  simp (config := {contextual := true, maxSteps := 1000000}) only [go_sem, ints, intRows, iv_c, Nat.reduceAdd, Nat.reduceBEq, Nat.reduceEqDiff, Nat.reduceLeDiff, Nat.reduceLT, reduceIte, Nat.le_refl, true_or, or_true, and_self, Int.reduceLE, Int.reduceLT, Int.reduceEq, Int.reduceNeg, Int.natCast_nonneg, Int.reduceToNat, c32]
  rcases h with ⟨h1, rfl⟩ | ⟨h1, id, cap, hid, rfl, hob⟩
  · refine wpC_lp (fun env ob' n' => env 0 = .z ∧ env 2 = vi 0 ∧ ob' = ob ∧ nid ≤ n') (fun env ob _ => 0) ?_ ?_
    · simp (config := {contextual := true, maxSteps := 1000000}) only [go_sem, ints, intRows, iv_c, Nat.reduceAdd, Nat.reduceBEq, Nat.reduceEqDiff, Nat.reduceLeDiff, Nat.reduceLT, reduceIte, Nat.le_refl, true_or, or_true, and_self, Int.reduceLE, Int.reduceLT, Int.reduceEq, Int.reduceNeg, Int.natCast_nonneg, Int.reduceToNat]
      exact Nat.le_succ _
    rintro env ob' n' ⟨h0, h2, rfl, hn'⟩
    simp (config := {contextual := true, maxSteps := 1000000}) only [go_sem, ints, intRows, iv_c, Nat.reduceAdd, Nat.reduceBEq, Nat.reduceEqDiff, Nat.reduceLeDiff, Nat.reduceLT, reduceIte, Nat.le_refl, true_or, or_true, and_self, Int.reduceLE, Int.reduceLT, Int.reduceEq, Int.reduceNeg, Int.natCast_nonneg, Int.reduceToNat, h0, h2]
    exact hC _ _ (by omega) fun _ _ => rfl
  · have hl0 : (l.map fun n => [vi n]).length = l.length := by simp
    rw [hl0] at hC ⊢
    refine wpC_lp (fun env ob' n' => env 0 = .sl id 0 l.length ∧ (∀ j, j ≠ id → ob' j = ob j) ∧ nid ≤ n' ∧ ∃ (i : Nat) (cur : List Int), env 2 = vi i ∧ i ≤ l.length ∧ ob' id = some ⟨1, cur.map fun n => [vi n], cap⟩ ∧ cur.length = l.length) (fun env ob _ => (l.length - iv (env 2)).toNat) ?_ ?_
    · simp (config := {contextual := true, maxSteps := 1000000}) only [go_sem, ints, intRows, iv_c, Nat.reduceAdd, Nat.reduceBEq, Nat.reduceEqDiff, Nat.reduceLeDiff, Nat.reduceLT, reduceIte, Nat.le_refl, true_or, or_true, and_self, Int.reduceLE, Int.reduceLT, Int.reduceEq, Int.reduceNeg, Int.natCast_nonneg, Int.reduceToNat]
      exact ⟨by omega, 0, l, rfl, by omega, hob, rfl⟩
    rintro env ob' n' ⟨h0, hfr, hn', i, cur, h2, hi, hob', hcl⟩
    simp (config := {contextual := true, maxSteps := 1000000}) only [go_sem, ints, intRows, iv_c, Nat.reduceAdd, Nat.reduceBEq, Nat.reduceEqDiff, Nat.reduceLeDiff, Nat.reduceLT, reduceIte, Nat.le_refl, true_or, or_true, and_self, Int.reduceLE, Int.reduceLT, Int.reduceEq, Int.reduceNeg, Int.natCast_nonneg, Int.reduceToNat, h0, h2, hob']
    refine ⟨fun hlt => ?_, fun hge => ?_⟩
    · simp at hlt
      refine ⟨by omega, by omega, ⟨fun j hj => ?_, by omega, i + 1, _, ?_, by omega, rfl, by simpa using hcl⟩, ?_⟩
      · simp only [updO, hj, if_false]; exact hfr j hj
      · rw [w64 (by omega)]; simp
      · rw [w64 (by omega)]; omega
    · exact hC _ _ (by omega) fun j hj => hfr j fun e => hj l.length (by rw [e])

theorem leastF_len : ∀ (l : List (List Int)) (out : List Int), vecE out = 0 → (leastF out l).1.length ≤ 5
  | [], out, h => by have := vecE_range _ h; simpa [leastF] using this.2.1
  | v :: l, out, h => by
    rw [leastF]
    split
    · simp
    · rename_i h1
      have h1 : (eachV min out v).2 = 0 := by simpa using h1
      have h2 := (@eachV_len min out v).1 h1
      refine leastF_len l _ ?_
      have h3 : vecE v = 0 ∧ out.length = v.length := by
        unfold eachV at h1
        split at h1
        · exact absurd h ‹_›
        · split at h1
          · exact absurd h1 ‹_›
          · rename_i h4; split at h1
            · cases h1
            · rename_i h5; exact ⟨by simpa using h4, by omega⟩
      rw [eachV_yes h h3.1 h3.2]
      exact vecE_zip min_or h h3.1 h3.2
theorem least_len (l : List (List Int)) : (leastV l).1.length ≤ 5 := by
  unfold leastV
  split
  · simp
  · split
    · simp
    · rename_i h1 h2
      refine leastF_len l _ ?_
      cases l with
      | nil => exact absurd rfl h1
      | cons v l =>
        have h2 : firstE (v :: l) = 0 := by simpa using h2
        simp only [firstE] at h2
        simp only [gN, List.getElem?_cons_zero, Option.getD_some]
        split at h2
        · exact h2
        · rename_i h3; simpa using h3
theorem gi {n : Int} (h : gInt .i64 n) : inI n := by simp [gInt, Lit.wf, IntKind.min, IntKind.max, IntKind.signed, IntKind.bits] at h; unfold inI; omega

set_option maxHeartbeats 4000000 in
theorem DotExact_ok (a b : List Int) (d f : Dt) (l : List (List Int)) (hd : inI d.n) (ha : ∀ n ∈ a, inI n) : FnB Try.prog 7 [ints .b a, ints .b b, .ag (dotV d), .ag (dotV f), intRows .b l] (vb true) := by
  refine fnB_intro cf7 (by simp) ?_
  simp (config := {contextual := true, maxSteps := 1000000}) only [go_sem, ints, intRows, iv_c, Nat.reduceAdd, Nat.reduceBEq, Nat.reduceEqDiff, Nat.reduceLeDiff, Nat.reduceLT, reduceIte, Nat.le_refl, true_or, or_true, and_self, Int.reduceLE, Int.reduceLT, Int.reduceEq, Int.reduceNeg, Int.natCast_nonneg, Int.reduceToNat, c7, dotV]
  first | refine caS_i (Heavy_ok [a, b]) trivial ?_ | refine caD_i (Heavy_ok [a, b]) trivial ?_ | refine gC_i (fun _ => Heavy_ok [a, b]) trivial ?_ | refine gCD_i (fun _ => Heavy_ok [a, b]) trivial ?_
  by_cases hh : heavyB [a, b] = true
  · simp (config := {contextual := true, maxSteps := 1000000}) only [go_sem, ints, intRows, iv_c, Nat.reduceAdd, Nat.reduceBEq, Nat.reduceEqDiff, Nat.reduceLeDiff, Nat.reduceLT, reduceIte, Nat.le_refl, true_or, or_true, and_self, Int.reduceLE, Int.reduceLT, Int.reduceEq, Int.reduceNeg, Int.natCast_nonneg, Int.reduceToNat, hh, dotV]
  have hh : heavyB [a, b] = false := by simpa using hh
  simp (config := {contextual := true, maxSteps := 1000000}) only [go_sem, ints, intRows, iv_c, Nat.reduceAdd, Nat.reduceBEq, Nat.reduceEqDiff, Nat.reduceLeDiff, Nat.reduceLT, reduceIte, Nat.le_refl, true_or, or_true, and_self, Int.reduceLE, Int.reduceLT, Int.reduceEq, Int.reduceNeg, Int.natCast_nonneg, Int.reduceToNat, hh, dotV]
  first | refine caS_i (Heavy_ok l) trivial ?_ | refine caD_i (Heavy_ok l) trivial ?_ | refine gC_i (fun _ => Heavy_ok l) trivial ?_ | refine gCD_i (fun _ => Heavy_ok l) trivial ?_
  by_cases hh2 : heavyB l = true
  · simp (config := {contextual := true, maxSteps := 1000000}) only [go_sem, ints, intRows, iv_c, Nat.reduceAdd, Nat.reduceBEq, Nat.reduceEqDiff, Nat.reduceLeDiff, Nat.reduceLT, reduceIte, Nat.le_refl, true_or, or_true, and_self, Int.reduceLE, Int.reduceLT, Int.reduceEq, Int.reduceNeg, Int.natCast_nonneg, Int.reduceToNat, hh2, dotV]
  have hh2 : heavyB l = false := by simpa using hh2
  simp (config := {contextual := true, maxSteps := 1000000}) only [go_sem, ints, intRows, iv_c, Nat.reduceAdd, Nat.reduceBEq, Nat.reduceEqDiff, Nat.reduceLeDiff, Nat.reduceLT, reduceIte, Nat.le_refl, true_or, or_true, and_self, Int.reduceLE, Int.reduceLT, Int.reduceEq, Int.reduceNeg, Int.natCast_nonneg, Int.reduceToNat, hh2, dotV]
  obtain ⟨hl1, hl2⟩ := heavy_no hh2
  have hs := (heavy_no hh).2
  have hs1 := hs a (by simp)
  have hs2 := hs b (by simp)
  have hal : a.length ≤ maxLen := by unfold maxLen; omega
  have hbl : b.length ≤ maxLen := by unfold maxLen; omega
  have hll : l.length ≤ maxLen := by unfold maxLen; omega
  have hLL : (leastV l).1.length ≤ maxLen := by have := least_len l; unfold maxLen; omega
  have hlr : ∀ v ∈ l, v.length ≤ maxLen := fun v h => by have := hl2 v h; unfold maxLen; omega
  first | refine caS_i (TwinInts_ok a hal) trivial ?_ | refine caD_i (TwinInts_ok a hal) trivial ?_ | refine gC_i (fun _ => TwinInts_ok a hal) trivial ?_ | refine gCD_i (fun _ => TwinInts_ok a hal) trivial ?_
  simp (config := {contextual := true, maxSteps := 1000000}) only [go_sem, ints, intRows, iv_c, Nat.reduceAdd, Nat.reduceBEq, Nat.reduceEqDiff, Nat.reduceLeDiff, Nat.reduceLT, reduceIte, Nat.le_refl, true_or, or_true, and_self, Int.reduceLE, Int.reduceLT, Int.reduceEq, Int.reduceNeg, Int.natCast_nonneg, Int.reduceToNat, dotV]
  first | refine caS_i (TwinInts_ok b hbl) trivial ?_ | refine caD_i (TwinInts_ok b hbl) trivial ?_ | refine gC_i (fun _ => TwinInts_ok b hbl) trivial ?_ | refine gCD_i (fun _ => TwinInts_ok b hbl) trivial ?_
  simp (config := {contextual := true, maxSteps := 1000000}) only [go_sem, ints, intRows, iv_c, Nat.reduceAdd, Nat.reduceBEq, Nat.reduceEqDiff, Nat.reduceLeDiff, Nat.reduceLT, reduceIte, Nat.le_refl, true_or, or_true, and_self, Int.reduceLE, Int.reduceLT, Int.reduceEq, Int.reduceNeg, Int.natCast_nonneg, Int.reduceToNat, dotV]
  first | refine caS_i (TwinIntRows_ok l hll hlr) trivial ?_ | refine caD_i (TwinIntRows_ok l hll hlr) trivial ?_ | refine gC_i (fun _ => TwinIntRows_ok l hll hlr) trivial ?_ | refine gCD_i (fun _ => TwinIntRows_ok l hll hlr) trivial ?_
  simp (config := {contextual := true, maxSteps := 1000000}) only [go_sem, ints, intRows, iv_c, Nat.reduceAdd, Nat.reduceBEq, Nat.reduceEqDiff, Nat.reduceLeDiff, Nat.reduceLT, reduceIte, Nat.le_refl, true_or, or_true, and_self, Int.reduceLE, Int.reduceLT, Int.reduceEq, Int.reduceNeg, Int.natCast_nonneg, Int.reduceToNat, dotV]
  first | refine caS_i (Vector_ok a) trivial ?_ | refine caD_i (Vector_ok a) trivial ?_ | refine gC_i (fun _ => Vector_ok a) trivial ?_ | refine gCD_i (fun _ => Vector_ok a) trivial ?_
  simp (config := {contextual := true, maxSteps := 1000000}) only [go_sem, ints, intRows, iv_c, Nat.reduceAdd, Nat.reduceBEq, Nat.reduceEqDiff, Nat.reduceLeDiff, Nat.reduceLT, reduceIte, Nat.le_refl, true_or, or_true, and_self, Int.reduceLE, Int.reduceLT, Int.reduceEq, Int.reduceNeg, Int.natCast_nonneg, Int.reduceToNat, dotV]
  first | refine caS_i (Check_ok a) trivial ?_ | refine caD_i (Check_ok a) trivial ?_ | refine gC_i (fun _ => Check_ok a) trivial ?_ | refine gCD_i (fun _ => Check_ok a) trivial ?_
  simp (config := {contextual := true, maxSteps := 1000000}) only [go_sem, ints, intRows, iv_c, Nat.reduceAdd, Nat.reduceBEq, Nat.reduceEqDiff, Nat.reduceLeDiff, Nat.reduceLT, reduceIte, Nat.le_refl, true_or, or_true, and_self, Int.reduceLE, Int.reduceLT, Int.reduceEq, Int.reduceNeg, Int.natCast_nonneg, Int.reduceToNat, dotV, eq_self]
  first | refine caS_i (Has_ok a d) trivial ?_ | refine caD_i (Has_ok a d) trivial ?_ | refine gC_i (fun _ => Has_ok a d) trivial ?_ | refine gCD_i (fun _ => Has_ok a d) trivial ?_
  simp (config := {contextual := true, maxSteps := 1000000}) only [go_sem, ints, intRows, iv_c, Nat.reduceAdd, Nat.reduceBEq, Nat.reduceEqDiff, Nat.reduceLeDiff, Nat.reduceLT, reduceIte, Nat.le_refl, true_or, or_true, and_self, Int.reduceLE, Int.reduceLT, Int.reduceEq, Int.reduceNeg, Int.natCast_nonneg, Int.reduceToNat, dotV]
  first | refine caS_i (RHas_ok a d hal) trivial ?_ | refine caD_i (RHas_ok a d hal) trivial ?_ | refine gC_i (fun _ => RHas_ok a d hal) trivial ?_ | refine gCD_i (fun _ => RHas_ok a d hal) trivial ?_
  simp (config := {contextual := true, maxSteps := 1000000}) only [go_sem, ints, intRows, iv_c, Nat.reduceAdd, Nat.reduceBEq, Nat.reduceEqDiff, Nat.reduceLeDiff, Nat.reduceLT, reduceIte, Nat.le_refl, true_or, or_true, and_self, Int.reduceLE, Int.reduceLT, Int.reduceEq, Int.reduceNeg, Int.natCast_nonneg, Int.reduceToNat, dotV, bne_self_eq_false]
  first | refine caS_i (Next_ok a d hd ha) trivial ?_ | refine caD_i (Next_ok a d hd ha) trivial ?_ | refine gC_i (fun _ => Next_ok a d hd ha) trivial ?_ | refine gCD_i (fun _ => Next_ok a d hd ha) trivial ?_
  simp (config := {contextual := true, maxSteps := 1000000}) only [go_sem, ints, intRows, iv_c, Nat.reduceAdd, Nat.reduceBEq, Nat.reduceEqDiff, Nat.reduceLeDiff, Nat.reduceLT, reduceIte, Nat.le_refl, true_or, or_true, and_self, Int.reduceLE, Int.reduceLT, Int.reduceEq, Int.reduceNeg, Int.natCast_nonneg, Int.reduceToNat, dotV]
  first | refine caS_i (RNext_ok a d hal hd ha) trivial ?_ | refine caD_i (RNext_ok a d hal hd ha) trivial ?_ | refine gC_i (fun _ => RNext_ok a d hal hd ha) trivial ?_ | refine gCD_i (fun _ => RNext_ok a d hal hd ha) trivial ?_
  simp (config := {contextual := true, maxSteps := 1000000}) only [go_sem, ints, intRows, iv_c, Nat.reduceAdd, Nat.reduceBEq, Nat.reduceEqDiff, Nat.reduceLeDiff, Nat.reduceLT, reduceIte, Nat.le_refl, true_or, or_true, and_self, Int.reduceLE, Int.reduceLT, Int.reduceEq, Int.reduceNeg, Int.natCast_nonneg, Int.reduceToNat, dotV, bne_self_eq_false]
  first | refine caS_i (Le_ok a b hal) trivial ?_ | refine caD_i (Le_ok a b hal) trivial ?_ | refine gC_i (fun _ => Le_ok a b hal) trivial ?_ | refine gCD_i (fun _ => Le_ok a b hal) trivial ?_
  simp (config := {contextual := true, maxSteps := 1000000}) only [go_sem, ints, intRows, iv_c, Nat.reduceAdd, Nat.reduceBEq, Nat.reduceEqDiff, Nat.reduceLeDiff, Nat.reduceLT, reduceIte, Nat.le_refl, true_or, or_true, and_self, Int.reduceLE, Int.reduceLT, Int.reduceEq, Int.reduceNeg, Int.natCast_nonneg, Int.reduceToNat, dotV]
  first | refine caS_i (RLe_ok a b hal) trivial ?_ | refine caD_i (RLe_ok a b hal) trivial ?_ | refine gC_i (fun _ => RLe_ok a b hal) trivial ?_ | refine gCD_i (fun _ => RLe_ok a b hal) trivial ?_
  simp (config := {contextual := true, maxSteps := 1000000}) only [go_sem, ints, intRows, iv_c, Nat.reduceAdd, Nat.reduceBEq, Nat.reduceEqDiff, Nat.reduceLeDiff, Nat.reduceLT, reduceIte, Nat.le_refl, true_or, or_true, and_self, Int.reduceLE, Int.reduceLT, Int.reduceEq, Int.reduceNeg, Int.natCast_nonneg, Int.reduceToNat, dotV, bne_self_eq_false]
  first | refine caS_i (Less_ok d f) trivial ?_ | refine caD_i (Less_ok d f) trivial ?_ | refine gC_i (fun _ => Less_ok d f) trivial ?_ | refine gCD_i (fun _ => Less_ok d f) trivial ?_
  simp (config := {contextual := true, maxSteps := 1000000}) only [go_sem, ints, intRows, iv_c, Nat.reduceAdd, Nat.reduceBEq, Nat.reduceEqDiff, Nat.reduceLeDiff, Nat.reduceLT, reduceIte, Nat.le_refl, true_or, or_true, and_self, Int.reduceLE, Int.reduceLT, Int.reduceEq, Int.reduceNeg, Int.natCast_nonneg, Int.reduceToNat, dotV]
  first | refine caS_i (RLess_ok d f) trivial ?_ | refine caD_i (RLess_ok d f) trivial ?_ | refine gC_i (fun _ => RLess_ok d f) trivial ?_ | refine gCD_i (fun _ => RLess_ok d f) trivial ?_
  simp (config := {contextual := true, maxSteps := 1000000}) only [go_sem, ints, intRows, iv_c, Nat.reduceAdd, Nat.reduceBEq, Nat.reduceEqDiff, Nat.reduceLeDiff, Nat.reduceLT, reduceIte, Nat.le_refl, true_or, or_true, and_self, Int.reduceLE, Int.reduceLT, Int.reduceEq, Int.reduceNeg, Int.natCast_nonneg, Int.reduceToNat, dotV, bne_self_eq_false]
  refine cut_ca (fun env ob n => env 0 = ints .b a ∧ env 1 = ints .b b ∧ env 4 = intRows .b l ∧ env 11 = ints .b a ∧ env 12 = ints .b b ∧ env 13 = intRows .b l ∧ env 14 = vi (vecE a)) ?_ ?_
  · first | refine caS_i (Add_ok a d hd ha) trivial ?_ | refine caD_i (Add_ok a d hd ha) trivial ?_ | refine gC_i (fun _ => Add_ok a d hd ha) trivial ?_ | refine gCD_i (fun _ => Add_ok a d hd ha) trivial ?_
    by_cases hE : vecE a = 0
    rotate_left
    · have e : addV a d = ([], vecE a) := if_pos hE
      have hE' : decide (vecE a = 0) = false := by simpa using hE
      simp (config := {contextual := true, maxSteps := 1000000}) only [go_sem, ints, intRows, iv_c, Nat.reduceAdd, Nat.reduceBEq, Nat.reduceEqDiff, Nat.reduceLeDiff, Nat.reduceLT, reduceIte, Nat.le_refl, true_or, or_true, and_self, Int.reduceLE, Int.reduceLT, Int.reduceEq, Int.reduceNeg, Int.natCast_nonneg, Int.reduceToNat, dotV, e, hE', eq_self]
    by_cases hx : nextB a d = false ∨ 1073741824 < d.n
    · have e : addV a d = ([], 1) := by rw [addV, if_neg (by simpa using hE), if_pos hx]
      simp (config := {contextual := true, maxSteps := 1000000}) only [go_sem, ints, intRows, iv_c, Nat.reduceAdd, Nat.reduceBEq, Nat.reduceEqDiff, Nat.reduceLeDiff, Nat.reduceLT, reduceIte, Nat.le_refl, true_or, or_true, and_self, Int.reduceLE, Int.reduceLT, Int.reduceEq, Int.reduceNeg, Int.natCast_nonneg, Int.reduceToNat, dotV, e, hE, eq_self]
      first | refine caS_i (RNext_ok a d hal hd ha) trivial ?_ | refine caD_i (RNext_ok a d hal hd ha) trivial ?_ | refine gC_i (fun _ => RNext_ok a d hal hd ha) trivial ?_ | refine gCD_i (fun _ => RNext_ok a d hal hd ha) trivial ?_
      have hx' : (if nextB a d = true then decide (1073741824 < d.n) else true) = true := by
        rcases hx with h | h
        · simp [h]
        · cases nextB a d <;> simp [h]
      simp (config := {contextual := true, maxSteps := 1000000}) only [go_sem, ints, intRows, iv_c, Nat.reduceAdd, Nat.reduceBEq, Nat.reduceEqDiff, Nat.reduceLeDiff, Nat.reduceLT, reduceIte, Nat.le_refl, true_or, or_true, and_self, Int.reduceLE, Int.reduceLT, Int.reduceEq, Int.reduceNeg, Int.natCast_nonneg, Int.reduceToNat, dotV, e, hE, eq_self, hx']
    have e : addV a d = (a.set d.p.toNat d.n, 0) := by rw [addV, if_neg (by simpa using hE), if_neg hx]
    have hnx : nextB a d = true := by
      cases h : nextB a d
      · exact absurd (.inl h) hx
      · rfl
    have hbg : decide (1073741824 < d.n) = false := by
      rw [decide_eq_false_iff_not]; exact fun h => hx (.inr h)
    have hp : 0 ≤ d.p ∧ d.p < a.length := by simp [nextB] at hnx; exact ⟨hnx.1, hnx.2.1⟩
    have hlen : (a.length = 0) = False := by simp; intro e; rw [e] at hp; simp at hp; omega
    simp (config := {contextual := true, maxSteps := 1000000}) only [go_sem, ints, intRows, iv_c, Nat.reduceAdd, Nat.reduceBEq, Nat.reduceEqDiff, Nat.reduceLeDiff, Nat.reduceLT, reduceIte, Nat.le_refl, true_or, or_true, and_self, Int.reduceLE, Int.reduceLT, Int.reduceEq, Int.reduceNeg, Int.natCast_nonneg, Int.reduceToNat, dotV, e, hE, eq_self]
    first | refine caS_i (RNext_ok a d hal hd ha) trivial ?_ | refine caD_i (RNext_ok a d hal hd ha) trivial ?_ | refine gC_i (fun _ => RNext_ok a d hal hd ha) trivial ?_ | refine gCD_i (fun _ => RNext_ok a d hal hd ha) trivial ?_
    simp (config := {contextual := true, maxSteps := 1000000}) only [go_sem, ints, intRows, iv_c, Nat.reduceAdd, Nat.reduceBEq, Nat.reduceEqDiff, Nat.reduceLeDiff, Nat.reduceLT, reduceIte, Nat.le_refl, true_or, or_true, and_self, Int.reduceLE, Int.reduceLT, Int.reduceEq, Int.reduceNeg, Int.natCast_nonneg, Int.reduceToNat, dotV, e, hE, eq_self, hnx, hbg]
    first | refine caS_i (TwinInts_ok a hal) (fun ch hch => by obtain ⟨_, _, rfl⟩ := List.mem_map.1 hch; rfl) ?_ | refine caD_i (TwinInts_ok a hal) (fun ch hch => by obtain ⟨_, _, rfl⟩ := List.mem_map.1 hch; rfl) ?_ | refine gC_i (fun _ => TwinInts_ok a hal) (fun ch hch => by obtain ⟨_, _, rfl⟩ := List.mem_map.1 hch; rfl) ?_ | refine gCD_i (fun _ => TwinInts_ok a hal) (fun ch hch => by obtain ⟨_, _, rfl⟩ := List.mem_map.1 hch; rfl) ?_
    have hT : ((a.set d.p.toNat d.n).map fun n => [vi n]).take a.length = (a.set d.p.toNat d.n).map fun n => [vi n] := List.take_of_length_le (by simp)
    simp (config := {contextual := true, maxSteps := 1000000}) only [go_sem, ints, intRows, iv_c, Nat.reduceAdd, Nat.reduceBEq, Nat.reduceEqDiff, Nat.reduceLeDiff, Nat.reduceLT, reduceIte, Nat.le_refl, true_or, or_true, and_self, Int.reduceLE, Int.reduceLT, Int.reduceEq, Int.reduceNeg, Int.natCast_nonneg, Int.reduceToNat, dotV, e, hE, eq_self, hnx, hbg, hlen, hT, List.length_set]
    refine ⟨hp, by omega, ?_⟩
    first | refine caS_i (Ints_ok (a.set d.p.toNat d.n) (a.set d.p.toNat d.n) (by simpa using hal)) trivial ?_ | refine caD_i (Ints_ok (a.set d.p.toNat d.n) (a.set d.p.toNat d.n) (by simpa using hal)) trivial ?_ | refine gC_i (fun _ => Ints_ok (a.set d.p.toNat d.n) (a.set d.p.toNat d.n) (by simpa using hal)) trivial ?_ | refine gCD_i (fun _ => Ints_ok (a.set d.p.toNat d.n) (a.set d.p.toNat d.n) (by simpa using hal)) trivial ?_
    simp (config := {contextual := true, maxSteps := 1000000}) only [go_sem, ints, intRows, iv_c, Nat.reduceAdd, Nat.reduceBEq, Nat.reduceEqDiff, Nat.reduceLeDiff, Nat.reduceLT, reduceIte, Nat.le_refl, true_or, or_true, and_self, Int.reduceLE, Int.reduceLT, Int.reduceEq, Int.reduceNeg, Int.natCast_nonneg, Int.reduceToNat, eq_self]
  rintro env ob n ⟨h0, h1, h4, h11, h12, h13, h14⟩
  simp (config := {contextual := true, maxSteps := 1000000}) only [go_sem, ints, intRows, iv_c, Nat.reduceAdd, Nat.reduceBEq, Nat.reduceEqDiff, Nat.reduceLeDiff, Nat.reduceLT, reduceIte, Nat.le_refl, true_or, or_true, and_self, Int.reduceLE, Int.reduceLT, Int.reduceEq, Int.reduceNeg, Int.natCast_nonneg, Int.reduceToNat, h0, h1, h4, h11, h12, h13, h14]
  have fin : mergeV a b = eachV max a b := rfl
  first | refine caS_i (Merge_ok a b) (fun s hs ch hch => by simp [ints, intRows] at hs; subst hs; obtain ⟨_, _, rfl⟩ := List.mem_map.1 hch; rfl) ?_ | refine caD_i (Merge_ok a b) (fun s hs ch hch => by simp [ints, intRows] at hs; subst hs; obtain ⟨_, _, rfl⟩ := List.mem_map.1 hch; rfl) ?_ | refine gC_i (fun _ => Merge_ok a b) (fun s hs ch hch => by simp [ints, intRows] at hs; subst hs; obtain ⟨_, _, rfl⟩ := List.mem_map.1 hch; rfl) ?_ | refine gCD_i (fun _ => Merge_ok a b) (fun s hs ch hch => by simp [ints, intRows] at hs; subst hs; obtain ⟨_, _, rfl⟩ := List.mem_map.1 hch; rfl) ?_
  have hc : vecE a ≠ 0 ∨ (vecE a = 0 ∧ vecE b ≠ 0) ∨ (vecE a = 0 ∧ vecE b = 0 ∧ a.length ≠ b.length) ∨ (vecE a = 0 ∧ vecE b = 0 ∧ a.length = b.length) := by omega
  rcases hc with hE | ⟨hE, hF⟩ | ⟨hE, hF, hL⟩ | ⟨hE, hF, hL⟩
  case' inl =>
    have hE' : decide (vecE a = 0) = false := by simpa using hE
    have e : mergeV a b = ([], vecE a) := if_pos hE
    simp (config := {contextual := true, maxSteps := 1000000}) only [go_sem, ints, intRows, iv_c, Nat.reduceAdd, Nat.reduceBEq, Nat.reduceEqDiff, Nat.reduceLeDiff, Nat.reduceLT, reduceIte, Nat.le_refl, true_or, or_true, and_self, Int.reduceLE, Int.reduceLT, Int.reduceEq, Int.reduceNeg, Int.natCast_nonneg, Int.reduceToNat, h0, h1, h4, h11, h12, h13, h14, e, hE', eq_self, List.map_nil, List.length_nil]
    refine rcS_i (Spoil_ok (l := []) Own.nil (Nat.zero_le _) (Nat.zero_le _) fun ob' n' _ _ => ?_)
  case' inr.inl =>
    have hF' : decide (vecE b = 0) = false := by simpa using hF
    have e : mergeV a b = ([], vecE b) := by rw [fin, eachV, if_neg (by simpa using hE), if_pos (by simpa using hF)]
    simp (config := {contextual := true, maxSteps := 1000000}) only [go_sem, ints, intRows, iv_c, Nat.reduceAdd, Nat.reduceBEq, Nat.reduceEqDiff, Nat.reduceLeDiff, Nat.reduceLT, reduceIte, Nat.le_refl, true_or, or_true, and_self, Int.reduceLE, Int.reduceLT, Int.reduceEq, Int.reduceNeg, Int.natCast_nonneg, Int.reduceToNat, h0, h1, h4, h11, h12, h13, h14, e, hE, hF', eq_self, List.map_nil, List.length_nil]
    first | refine caS_i (Vector_ok b) trivial ?_ | refine caD_i (Vector_ok b) trivial ?_ | refine gC_i (fun _ => Vector_ok b) trivial ?_ | refine gCD_i (fun _ => Vector_ok b) trivial ?_
    simp (config := {contextual := true, maxSteps := 1000000}) only [go_sem, ints, intRows, iv_c, Nat.reduceAdd, Nat.reduceBEq, Nat.reduceEqDiff, Nat.reduceLeDiff, Nat.reduceLT, reduceIte, Nat.le_refl, true_or, or_true, and_self, Int.reduceLE, Int.reduceLT, Int.reduceEq, Int.reduceNeg, Int.natCast_nonneg, Int.reduceToNat, h0, h1, h4, h11, h12, h13, h14, e, hE, hF', eq_self, List.map_nil, List.length_nil]
    refine rcS_i (Spoil_ok (l := []) Own.nil (Nat.zero_le _) (Nat.zero_le _) fun ob' n' _ _ => ?_)
  case' inr.inr.inl =>
    have hL' : decide ((a.length : Int) = b.length) = false := by simp; omega
    have e : mergeV a b = ([], 2) := by rw [fin, eachV, if_neg (by simpa using hE), if_neg (by simpa using hF), if_pos (by omega)]
    simp (config := {contextual := true, maxSteps := 1000000}) only [go_sem, ints, intRows, iv_c, Nat.reduceAdd, Nat.reduceBEq, Nat.reduceEqDiff, Nat.reduceLeDiff, Nat.reduceLT, reduceIte, Nat.le_refl, true_or, or_true, and_self, Int.reduceLE, Int.reduceLT, Int.reduceEq, Int.reduceNeg, Int.natCast_nonneg, Int.reduceToNat, h0, h1, h4, h11, h12, h13, h14, e, hE, hF, hL', eq_self, List.map_nil, List.length_nil]
    first | refine caS_i (Vector_ok b) trivial ?_ | refine caD_i (Vector_ok b) trivial ?_ | refine gC_i (fun _ => Vector_ok b) trivial ?_ | refine gCD_i (fun _ => Vector_ok b) trivial ?_
    simp (config := {contextual := true, maxSteps := 1000000}) only [go_sem, ints, intRows, iv_c, Nat.reduceAdd, Nat.reduceBEq, Nat.reduceEqDiff, Nat.reduceLeDiff, Nat.reduceLT, reduceIte, Nat.le_refl, true_or, or_true, and_self, Int.reduceLE, Int.reduceLT, Int.reduceEq, Int.reduceNeg, Int.natCast_nonneg, Int.reduceToNat, h0, h1, h4, h11, h12, h13, h14, e, hE, hF, hL', eq_self, List.map_nil, List.length_nil]
    refine rcS_i (Spoil_ok (l := []) Own.nil (Nat.zero_le _) (Nat.zero_le _) fun ob' n' _ _ => ?_)
  case' inr.inr.inr =>
    have hL' : decide ((a.length : Int) = b.length) = true := by simp; omega
    have e : mergeV a b = (List.zipWith max a b, 0) := merge_yes hE hF hL
    have hz : (List.zipWith max a b).length = a.length := by simp; omega
    have h1a := vecE_range _ hE
    have hlen : (a.length = 0) = False := by simp; intro e; rw [e] at h1a; simp at h1a
    have hT : ((List.zipWith max a b).map fun n => [vi n]).take a.length = (List.zipWith max a b).map fun n => [vi n] := List.take_of_length_le (by simp; omega)
    simp (config := {contextual := true, maxSteps := 1000000}) only [go_sem, ints, intRows, iv_c, Nat.reduceAdd, Nat.reduceBEq, Nat.reduceEqDiff, Nat.reduceLeDiff, Nat.reduceLT, reduceIte, Nat.le_refl, true_or, or_true, and_self, Int.reduceLE, Int.reduceLT, Int.reduceEq, Int.reduceNeg, Int.natCast_nonneg, Int.reduceToNat, h0, h1, h4, h11, h12, h13, h14, e, hE, hF, hL', eq_self, hz, hlen]
    first | refine caS_i (Vector_ok b) trivial ?_ | refine caD_i (Vector_ok b) trivial ?_ | refine gC_i (fun _ => Vector_ok b) trivial ?_ | refine gCD_i (fun _ => Vector_ok b) trivial ?_
    simp (config := {contextual := true, maxSteps := 1000000}) only [go_sem, ints, intRows, iv_c, Nat.reduceAdd, Nat.reduceBEq, Nat.reduceEqDiff, Nat.reduceLeDiff, Nat.reduceLT, reduceIte, Nat.le_refl, true_or, or_true, and_self, Int.reduceLE, Int.reduceLT, Int.reduceEq, Int.reduceNeg, Int.natCast_nonneg, Int.reduceToNat, h0, h1, h4, h11, h12, h13, h14, e, hE, hF, hL', eq_self, hz, hlen]
    first | refine caS_i (RMerge_ok a b hal (by omega)) trivial ?_ | refine caD_i (RMerge_ok a b hal (by omega)) trivial ?_ | refine gC_i (fun _ => RMerge_ok a b hal (by omega)) trivial ?_ | refine gCD_i (fun _ => RMerge_ok a b hal (by omega)) trivial ?_
    simp (config := {contextual := true, maxSteps := 1000000}) only [go_sem, ints, intRows, iv_c, Nat.reduceAdd, Nat.reduceBEq, Nat.reduceEqDiff, Nat.reduceLeDiff, Nat.reduceLT, reduceIte, Nat.le_refl, true_or, or_true, and_self, Int.reduceLE, Int.reduceLT, Int.reduceEq, Int.reduceNeg, Int.natCast_nonneg, Int.reduceToNat, h0, h1, h4, h11, h12, h13, h14, e, hE, hF, hL', eq_self, hz, hlen, hT, Nat.le_refl]
    first | refine caS_i (Ints_ok (List.zipWith max a b) (List.zipWith max a b) (by unfold maxLen; omega)) trivial ?_ | refine caD_i (Ints_ok (List.zipWith max a b) (List.zipWith max a b) (by unfold maxLen; omega)) trivial ?_ | refine gC_i (fun _ => Ints_ok (List.zipWith max a b) (List.zipWith max a b) (by unfold maxLen; omega)) trivial ?_ | refine gCD_i (fun _ => Ints_ok (List.zipWith max a b) (List.zipWith max a b) (by unfold maxLen; omega)) trivial ?_
    simp (config := {contextual := true, maxSteps := 1000000}) only [go_sem, ints, intRows, iv_c, Nat.reduceAdd, Nat.reduceBEq, Nat.reduceEqDiff, Nat.reduceLeDiff, Nat.reduceLT, reduceIte, Nat.le_refl, true_or, or_true, and_self, Int.reduceLE, Int.reduceLT, Int.reduceEq, Int.reduceNeg, Int.natCast_nonneg, Int.reduceToNat, h0, h1, h4, h11, h12, h13, h14, e, hE, hF, hL', eq_self, hz, hlen, hT]
    refine rcS_i (Spoil_ok (n := n + 1 + 1 + 1) (l := List.zipWith max a b) (.inr ⟨by intro e; have := congrArg List.length e; rw [List.length_map, List.length_nil] at this; omega, n + 1 + 1, none, by omega, by rw [List.length_map, hz], updO_s _ _ _⟩) (by omega) (by unfold maxLen; omega) fun ob' n' _ _ => ?_)
  all_goals
    simp (config := {contextual := true, maxSteps := 1000000}) only [go_sem, ints, intRows, iv_c, Nat.reduceAdd, Nat.reduceBEq, Nat.reduceEqDiff, Nat.reduceLeDiff, Nat.reduceLT, reduceIte, Nat.le_refl, true_or, or_true, and_self, Int.reduceLE, Int.reduceLT, Int.reduceEq, Int.reduceNeg, Int.natCast_nonneg, Int.reduceToNat, h0, h1, h4, h11, h12, h13]
    first | refine caS_i (Least_ok l hll) trivial ?_ | refine caD_i (Least_ok l hll) trivial ?_ | refine gC_i (fun _ => Least_ok l hll) trivial ?_ | refine gCD_i (fun _ => Least_ok l hll) trivial ?_
    simp (config := {contextual := true, maxSteps := 1000000}) only [go_sem, ints, intRows, iv_c, Nat.reduceAdd, Nat.reduceBEq, Nat.reduceEqDiff, Nat.reduceLeDiff, Nat.reduceLT, reduceIte, Nat.le_refl, true_or, or_true, and_self, Int.reduceLE, Int.reduceLT, Int.reduceEq, Int.reduceNeg, Int.natCast_nonneg, Int.reduceToNat, h0, h1, h4, h11, h12, h13]
    first | refine caS_i (RLeast_ok l hll) trivial ?_ | refine caD_i (RLeast_ok l hll) trivial ?_ | refine gC_i (fun _ => RLeast_ok l hll) trivial ?_ | refine gCD_i (fun _ => RLeast_ok l hll) trivial ?_
    simp (config := {contextual := true, maxSteps := 1000000}) only [go_sem, ints, intRows, iv_c, Nat.reduceAdd, Nat.reduceBEq, Nat.reduceEqDiff, Nat.reduceLeDiff, Nat.reduceLT, reduceIte, Nat.le_refl, true_or, or_true, and_self, Int.reduceLE, Int.reduceLT, Int.reduceEq, Int.reduceNeg, Int.natCast_nonneg, Int.reduceToNat, h0, h1, h4, h11, h12, h13, eq_self]
    first | refine caS_i (Ints_ok (leastV l).1 (leastV l).1 hLL) trivial ?_ | refine caD_i (Ints_ok (leastV l).1 (leastV l).1 hLL) trivial ?_ | refine gC_i (fun _ => Ints_ok (leastV l).1 (leastV l).1 hLL) trivial ?_ | refine gCD_i (fun _ => Ints_ok (leastV l).1 (leastV l).1 hLL) trivial ?_
    simp (config := {contextual := true, maxSteps := 1000000}) only [go_sem, ints, intRows, iv_c, Nat.reduceAdd, Nat.reduceBEq, Nat.reduceEqDiff, Nat.reduceLeDiff, Nat.reduceLT, reduceIte, Nat.le_refl, true_or, or_true, and_self, Int.reduceLE, Int.reduceLT, Int.reduceEq, Int.reduceNeg, Int.natCast_nonneg, Int.reduceToNat, h0, h1, h4, h11, h12, h13, eq_self]
    first | refine caS_i (Ints_ok a a hal) trivial ?_ | refine caD_i (Ints_ok a a hal) trivial ?_ | refine gC_i (fun _ => Ints_ok a a hal) trivial ?_ | refine gCD_i (fun _ => Ints_ok a a hal) trivial ?_
    simp (config := {contextual := true, maxSteps := 1000000}) only [go_sem, ints, intRows, iv_c, Nat.reduceAdd, Nat.reduceBEq, Nat.reduceEqDiff, Nat.reduceLeDiff, Nat.reduceLT, reduceIte, Nat.le_refl, true_or, or_true, and_self, Int.reduceLE, Int.reduceLT, Int.reduceEq, Int.reduceNeg, Int.natCast_nonneg, Int.reduceToNat, h0, h1, h4, h11, h12, h13, eq_self]
    first | refine caS_i (Ints_ok b b hbl) trivial ?_ | refine caD_i (Ints_ok b b hbl) trivial ?_ | refine gC_i (fun _ => Ints_ok b b hbl) trivial ?_ | refine gCD_i (fun _ => Ints_ok b b hbl) trivial ?_
    simp (config := {contextual := true, maxSteps := 1000000}) only [go_sem, ints, intRows, iv_c, Nat.reduceAdd, Nat.reduceBEq, Nat.reduceEqDiff, Nat.reduceLeDiff, Nat.reduceLT, reduceIte, Nat.le_refl, true_or, or_true, and_self, Int.reduceLE, Int.reduceLT, Int.reduceEq, Int.reduceNeg, Int.natCast_nonneg, Int.reduceToNat, h0, h1, h4, h11, h12, h13, eq_self]
    first | refine caS_i (IntRows_ok l l hll hlr) trivial ?_ | refine caD_i (IntRows_ok l l hll hlr) trivial ?_ | refine gC_i (fun _ => IntRows_ok l l hll hlr) trivial ?_ | refine gCD_i (fun _ => IntRows_ok l l hll hlr) trivial ?_
    simp (config := {contextual := true, maxSteps := 1000000}) only [go_sem, ints, intRows, iv_c, Nat.reduceAdd, Nat.reduceBEq, Nat.reduceEqDiff, Nat.reduceLeDiff, Nat.reduceLT, reduceIte, Nat.le_refl, true_or, or_true, and_self, Int.reduceLE, Int.reduceLT, Int.reduceEq, Int.reduceNeg, Int.natCast_nonneg, Int.reduceToNat, h0, h1, h4, h11, h12, h13, eq_self]
    first | refine caS_i (wakes_ok) trivial ?_ | refine caD_i (wakes_ok) trivial ?_ | refine gC_i (fun _ => wakes_ok) trivial ?_ | refine gCD_i (fun _ => wakes_ok) trivial ?_
    simp (config := {contextual := true, maxSteps := 1000000}) only [go_sem, ints, intRows, iv_c, Nat.reduceAdd, Nat.reduceBEq, Nat.reduceEqDiff, Nat.reduceLeDiff, Nat.reduceLT, reduceIte, Nat.le_refl, true_or, or_true, and_self, Int.reduceLE, Int.reduceLT, Int.reduceEq, Int.reduceNeg, Int.natCast_nonneg, Int.reduceToNat]
theorem DotExact_law (a b : List Int) (d f : Dt) (l : List (List Int)) (ha : gList (gInt .i64) a) (_ : gList (gInt .i64) b) (hd : gDt d) (_ : gDt f) (_ : gList (gList (gInt .i64)) l) : FnB Try.prog 7 [ints .b a, ints .b b, .ag (dotV d), .ag (dotV f), intRows .b l] (vb true) :=
  DotExact_ok a b d f l (gi hd.2) fun n hn => gi (ha.2 n hn)
end Go.Proofs.Ytamdidmfcjdcgaa.D
