/- Proves HlcChains: times told one behind the other rise and no two are alike. Conditions: none beyond the statement's own guards. -/
import Derived.Test.YtelgaglbkcacnaaPHlcChainsx3
import Derived.Test.YtelgaglbkcacnaaWSized
/- The row names this word without its seat. -/
theorem Go.Proofs.Ytelgaglbkcacnaa.PrintWords.sized_ints : type_of% @Go.Proofs.YtelgaglbkcacnaaW.PrintWords.sized_ints := @Go.Proofs.YtelgaglbkcacnaaW.PrintWords.sized_ints
set_option linter.unusedSimpArgs false
set_option linter.unusedVariables false
namespace Go.Proofs.Ytelgaglbkcacnaa.Pure
open Go.RowKit Go.Proofs.Ytelgaglbkcacnaa.PHlcChains Go.Proofs.YtelgaglbkcacnaaW.PrintWords Go.Proofs.YtelgaglbkcacnaaW.PrintLast

/-- How two numbers are ordered. -/
def cmpI (a b : Int) : Int := if a < b then -1 else if a > b then 1 else 0
theorem cmpI_self (a : Int) : cmpI a a = 0 := by unfold cmpI; simp
theorem cmpI_lt {a b : Int} (h : a < b) : cmpI a b = -1 := by unfold cmpI; rw [if_pos h]
theorem cmpI_gt {a b : Int} (h : b < a) : cmpI a b = 1 := by unfold cmpI; rw [if_neg (by omega), if_pos h]
theorem cmpI_zero {a b : Int} : cmpI a b = 0 ↔ a = b := by
  unfold cmpI
  split
  · simp; omega
  · split
    · simp; omega
    · simp; omega
/-- How two times are ordered. -/
def cmpS (a0 a1 a2 b0 b1 b2 : Int) : Int := if cmpI a0 b0 = 0 then (if cmpI a1 b1 = 0 then cmpI a2 b2 else cmpI a1 b1) else cmpI a0 b0
theorem compare_eq (a b : Int) : cmp_Compare_int.f a b = some (cmpI a b) := by
  unfold cmp_Compare_int.f cmp_isNaN_int.f cmpI
  simp
  split <;> simp_all
  split <;> rfl
theorem or3 (k : Nat) (a b c : Int) : cmp_Or_int.f (k + 4) [a, b, c] = some (if a = 0 then (if b = 0 then c else b) else a) := by
  have e0 : rd [a, b, c] 0 = a := rfl
  have e1 : rd [a, b, c] 1 = b := rfl
  have e2 : rd [a, b, c] 2 = c := rfl
  have w0 : wrap64 (0 + 1) = 1 := by unfold wrap64; omega
  have w1 : wrap64 (1 + 1) = 2 := by unfold wrap64; omega
  have w2 : wrap64 (2 + 1) = 3 := by unfold wrap64; omega
  unfold cmp_Or_int.f
  simp only [List.length_cons, List.length_nil]
  rw [cmp_Or_int.l0]
  simp only [e0, w0]
  by_cases ha : a = 0
  · subst ha
    simp
    rw [cmp_Or_int.l0]
    simp only [e1, w1]
    by_cases hb : b = 0
    · subst hb
      simp
      rw [cmp_Or_int.l0]
      simp only [e2, w2]
      by_cases hc : c = 0
      · subst hc
        simp
        rw [cmp_Or_int.l0]
        simp
      · simp [hc]
    · simp [hb]
  · simp [ha]
theorem compareS (k : Nat) (a0 a1 a2 b0 b1 b2 : Int) : hlc_Compare.f (k + 4) a0 a1 a2 b0 b1 b2 = some (cmpS a0 a1 a2 b0 b1 b2) := by
  unfold hlc_Compare.f cmpS
  simp only [compare_eq, Option.bind_some, or3]
theorem in_eq (a b : Int) : hlc_in.f a b = some (decide (0 ≤ a ∧ a ≤ b)) := by
  unfold hlc_in.f
  by_cases h : a ≥ 0
  · rw [if_pos h]
    simp [show 0 ≤ a from h]
  · rw [if_neg h]
    simp [show ¬ 0 ≤ a from h]
/-- A right time. -/
def rightS (a0 a1 a2 : Int) : Prop := (0 ≤ a0 ∧ a0 ≤ 1099511627776) ∧ (0 ≤ a1 ∧ a1 ≤ 65536) ∧ (0 ≤ a2 ∧ a2 ≤ 4)
instance (a0 a1 a2 : Int) : Decidable (rightS a0 a1 a2) := by unfold rightS; infer_instance
theorem check_eq (a0 a1 a2 : Int) : hlc_Check.f a0 a1 a2 = some (if rightS a0 a1 a2 then 0 else 1) := by
  unfold hlc_Check.f rightS
  simp only [in_eq, Option.bind_some, decide_eq_true_eq]
  by_cases h0 : 0 ≤ a0 ∧ a0 ≤ 1099511627776
  · by_cases h1 : 0 ≤ a1 ∧ a1 ≤ 65536
    · by_cases h2 : 0 ≤ a2 ∧ a2 ≤ 4 <;> simp [h0, h1, h2]
    · simp [h0, h1]
  · simp [h0]
/-- A peer's next time, and the error's number. -/
def nextS (a0 a1 a2 w p : Int) : Int × Int × Int × Int :=
  if ¬ (rightS a0 a1 a2 ∧ (0 ≤ w ∧ w ≤ 1099511627776) ∧ (0 ≤ p ∧ p ≤ 4)) then (0, 0, 0, 1)
  else if w > a0 then (w, 0, p, 0) else if a1 ≥ 65536 then (0, 0, 0, 12) else (a0, a1 + 1, p, 0)
theorem next_eq (k : Nat) (a0 a1 a2 w p : Int) : hlc_Next.f (k + 1) a0 a1 a2 w p = some (nextS a0 a1 a2 w p) := by
  unfold hlc_Next.f nextS
  simp only [check_eq, in_eq, Option.bind_some]
  by_cases h : rightS a0 a1 a2
  · by_cases h1 : 0 ≤ w ∧ w ≤ 1099511627776
    · by_cases h2 : 0 ≤ p ∧ p ≤ 4
      · simp [h, h1, h2, hlc_Next.j0]
        have hw : wrap64 (a1 + 1) = a1 + 1 := by
          unfold rightS at h
          unfold wrap64
          omega
        rw [hw]
        by_cases h3 : a0 < w
        · simp [h3]
        · by_cases h4 : 65536 ≤ a1 <;> simp [h3, h4]
      · simp [h, h1, h2, hlc_Next.j0]
    · simp [h, h1, hlc_Next.j0]
  · simp [h, hlc_Next.j0]
theorem wakes_eq (k : Nat) : raddlelaw06_wakes.f (k + 4) = some true := by
  unfold raddlelaw06_wakes.f
  rw [show k + 4 = (k + 3) + 1 from rfl, next_eq]
  have e : nextS 5 3 1 5 0 = (5, 4, 0, 0) := by decide
  rw [e]
  simp only [Option.bind_some]
  rw [show k + 3 + 1 = k + 4 from rfl, compareS]
  decide

theorem tmod_range (x m : Int) (hx : 0 ≤ x) (hm : 0 < m) : 0 ≤ Int.tmod x m ∧ Int.tmod x m < m := by
  rw [Int.tmod_eq_emod_of_nonneg hx]
  exact ⟨Int.emod_nonneg _ (by omega), Int.emod_lt_of_pos _ hm⟩
theorem u64_nonneg (x : Int) : 0 ≤ IntKind.u64.wrap x := by
  simp [IntKind.wrap, IntKind.signed, IntKind.bits]
  omega
theorem wrap_small (x : Int) (h0 : 0 ≤ x) (h1 : x ≤ 1099511627777) : wrap64 x = x := by unfold wrap64; omega
theorem cmp_next (a0 a1 a2 w p : Int) (ha : rightS a0 a1 a2) (hl : a1 < 65536) (hw : 0 ≤ w ∧ w ≤ 1099511627776) (hp : 0 ≤ p ∧ p ≤ 4) :
    ∃ n0 n1 n2, nextS a0 a1 a2 w p = (n0, n1, n2, 0) ∧ cmpS n0 n1 n2 a0 a1 a2 = 1 ∧ rightS n0 n1 n2 ∧ n1 ≤ a1 + 1 := by
  unfold nextS
  rw [if_neg (by simp [ha, hw, hp])]
  unfold rightS at ha
  by_cases h : w > a0
  · rw [if_pos h]
    refine ⟨_, _, _, rfl, ?_, ?_, ?_⟩
    · unfold cmpS
      rw [cmpI_gt h]
      simp
    · unfold rightS; omega
    · omega
  · rw [if_neg h, if_neg (by omega)]
    refine ⟨_, _, _, rfl, ?_, ?_, ?_⟩
    · unfold cmpS
      rw [cmpI_self, cmpI_gt (show a1 < a1 + 1 by omega)]
      simp
    · unfold rightS; omega
    · omega
theorem loop (l0 l1 : List Int) (h0 : l0.length ≤ 100) : ∀ (d k : Nat) (i a0 a1 a2 : Int), 0 ≤ i → i ≤ l0.length → (l0.length : Int) - i = d → 2 * d + 10 ≤ k →
    rightS a0 a1 a2 → a1 ≤ i → raddlelaw06_HlcChains.l0 k l0 l1 i a0 a1 a2 = some true := by
  intro d
  induction d with
  | zero =>
    intro k i a0 a1 a2 hi hi2 hd hk ha hl
    obtain ⟨k, rfl⟩ : ∃ m, k = (m + 4) + 1 + 1 := ⟨k - 6, by omega⟩
    rw [raddlelaw06_HlcChains.l0, if_neg (by omega), raddlelaw06_HlcChains.j2]
    simp [wakes_eq]
  | succ d ih =>
    intro k i a0 a1 a2 hi hi2 hd hk ha hl
    obtain ⟨k, rfl⟩ : ∃ m, k = (m + 4) + 1 + 1 := ⟨k - 6, by omega⟩
    have hlt : i < (l0.length : Int) := by omega
    rw [raddlelaw06_HlcChains.l0, if_pos hlt, raddlelaw06_HlcChains.j2]
    by_cases h1 : i < (l1.length : Int)
    · simp only [h1, decide_true, if_true]
      rw [if_pos hi, if_pos hlt]
      have r1 := tmod_range (IntKind.u64.wrap (rd l0 i)) 1099511627777 (u64_nonneg _) (by omega)
      have r2 := tmod_range (IntKind.u64.wrap (rd l1 i)) 5 (u64_nonneg _) (by omega)
      rw [wrap_small _ r1.1 (by omega), wrap_small _ r2.1 (by omega)]
      obtain ⟨n0, n1, n2, hn, hc, hr, hb⟩ := cmp_next a0 a1 a2 _ _ ha (by omega) ⟨r1.1, by omega⟩ ⟨r2.1, by omega⟩
      rw [show k + 4 = (k + 3) + 1 from rfl, next_eq, hn]
      simp only [Option.bind_some, if_true]
      rw [show k + 3 + 1 = k + 4 from rfl, compareS, hc]
      simp only [Option.bind_some, if_true]
      rw [wrap_small _ (by omega) (by omega)]
      exact ih (k + 4) (i + 1) n0 n1 n2 (by omega) (by omega) (by omega) (by omega) hr (by omega)
    · simp [h1, wakes_eq]

theorem HlcChains : raddlelaw06_HlcChains.Pure := by
  intro l0 l1 _ _ _ _ _ _
  refine ⟨300, ?_⟩
  unfold raddlelaw06_HlcChains.f
  by_cases h : (l0.length : Int) > 100
  · rw [if_pos h]; simp [raddlelaw06_HlcChains.j0]
  · rw [if_neg h, raddlelaw06_HlcChains.j0]
    by_cases h1 : (l1.length : Int) > 100
    · simp [h1]
    · simp only [h1, decide_false]
      exact loop l0 l1 (by omega) l0.length _ 0 0 0 0 (by omega) (by omega) (by omega) (by omega) (by decide) (by omega)

end Go.Proofs.Ytelgaglbkcacnaa.Pure
