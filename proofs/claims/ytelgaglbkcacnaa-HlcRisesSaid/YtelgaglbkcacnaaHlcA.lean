/- Plain facts of this session. No condition. -/
import Derived.Test.YtelgaglbkcacnaaB2
import Derived.Test.YtelgaglbkcacnaaOpen
set_option linter.unusedSimpArgs false
set_option linter.unusedVariables false
namespace Go.Proofs.Ytelgaglbkcacnaa.Pure
open Go.RowKit Go.Proofs.Ytelgaglbkcacnaa.Open Go.Proofs.Ytelgaglbkcacnaa.B Go.Proofs.YtelgaglbkcacnaaW.PrintWords Go.Proofs.YtelgaglbkcacnaaW.PrintLast
/-- How two numbers are ordered. -/
def cmpI (a b : Int) : Int := if a < b then -1 else if a > b then 1 else 0
theorem cmpI_self (a : Int) : cmpI a a = 0 := by unfold cmpI; simp
theorem cmpI_lt {a b : Int} (h : a < b) : cmpI a b = -1 := by unfold cmpI; rw [if_pos h]
theorem cmpI_gt {a b : Int} (h : b < a) : cmpI a b = 1 := by unfold cmpI; rw [if_neg (by omega), if_pos h]
theorem cmpI_zero {a b : Int} : cmpI a b = 0 ↔ a = b := by
  unfold cmpI
  split
  · simp; omega
  · split
    · simp; omega
    · simp; omega
/-- How two times are ordered. -/
def cmpS (a0 a1 a2 b0 b1 b2 : Int) : Int := if cmpI a0 b0 = 0 then (if cmpI a1 b1 = 0 then cmpI a2 b2 else cmpI a1 b1) else cmpI a0 b0
theorem compare_eq (a b : Int) : cmp_Compare_int.f a b = some (cmpI a b) := by
  unfold cmp_Compare_int.f cmp_isNaN_int.f cmpI
  simp
  split <;> simp_all
  split <;> rfl
theorem or3 (k : Nat) (a b c : Int) : cmp_Or_int.f (k + 4) [a, b, c] = some (if a = 0 then (if b = 0 then c else b) else a) := by
  have e0 : rd [a, b, c] 0 = a := rfl
  have e1 : rd [a, b, c] 1 = b := rfl
  have e2 : rd [a, b, c] 2 = c := rfl
  have w0 : wrap64 (0 + 1) = 1 := by unfold wrap64; omega
  have w1 : wrap64 (1 + 1) = 2 := by unfold wrap64; omega
  have w2 : wrap64 (2 + 1) = 3 := by unfold wrap64; omega
  unfold cmp_Or_int.f
  simp only [List.length_cons, List.length_nil]
  rw [cmp_Or_int.l0]
  simp only [e0, w0]
  by_cases ha : a = 0
  · subst ha
    simp
    rw [cmp_Or_int.l0]
    simp only [e1, w1]
    by_cases hb : b = 0
    · subst hb
      simp
      rw [cmp_Or_int.l0]
      simp only [e2, w2]
      by_cases hc : c = 0
      · subst hc
        simp
        rw [cmp_Or_int.l0]
        simp
      · simp [hc]
    · simp [hb]
  · simp [ha]
theorem compareS (k : Nat) (a0 a1 a2 b0 b1 b2 : Int) : hlc_Compare.f (k + 4) a0 a1 a2 b0 b1 b2 = some (cmpS a0 a1 a2 b0 b1 b2) := by
  unfold hlc_Compare.f cmpS
  simp only [compare_eq, Option.bind_some, or3]
theorem in_eq (a b : Int) : hlc_in.f a b = some (decide (0 ≤ a ∧ a ≤ b)) := by
  unfold hlc_in.f
  by_cases h : a ≥ 0
  · rw [if_pos h]
    simp [show 0 ≤ a from h]
  · rw [if_neg h]
    simp [show ¬ 0 ≤ a from h]
/-- A right time. -/
def rightS (a0 a1 a2 : Int) : Prop := (0 ≤ a0 ∧ a0 ≤ 1099511627776) ∧ (0 ≤ a1 ∧ a1 ≤ 65536) ∧ (0 ≤ a2 ∧ a2 ≤ 4)
instance (a0 a1 a2 : Int) : Decidable (rightS a0 a1 a2) := by unfold rightS; infer_instance
theorem check_eq (a0 a1 a2 : Int) : hlc_Check.f a0 a1 a2 = some (if rightS a0 a1 a2 then 0 else 1) := by
  unfold hlc_Check.f rightS
  simp only [in_eq, Option.bind_some, decide_eq_true_eq]
  by_cases h0 : 0 ≤ a0 ∧ a0 ≤ 1099511627776
  · by_cases h1 : 0 ≤ a1 ∧ a1 ≤ 65536
    · by_cases h2 : 0 ≤ a2 ∧ a2 ≤ 4 <;> simp [h0, h1, h2]
    · simp [h0, h1]
  · simp [h0]
/-- A peer's next time, and the error's number. -/
def nextS (a0 a1 a2 w p : Int) : Int × Int × Int × Int :=
  if ¬ (rightS a0 a1 a2 ∧ (0 ≤ w ∧ w ≤ 1099511627776) ∧ (0 ≤ p ∧ p ≤ 4)) then (0, 0, 0, 1)
  else if w > a0 then (w, 0, p, 0) else if a1 ≥ 65536 then (0, 0, 0, 12) else (a0, a1 + 1, p, 0)
theorem next_eq (k : Nat) (a0 a1 a2 w p : Int) : hlc_Next.f (k + 1) a0 a1 a2 w p = some (nextS a0 a1 a2 w p) := by
  unfold hlc_Next.f nextS
  simp only [check_eq, in_eq, Option.bind_some]
  by_cases h : rightS a0 a1 a2
  · by_cases h1 : 0 ≤ w ∧ w ≤ 1099511627776
    · by_cases h2 : 0 ≤ p ∧ p ≤ 4
      · simp [h, h1, h2, hlc_Next.j0]
        have hw : wrap64 (a1 + 1) = a1 + 1 := by
          unfold rightS at h
          unfold wrap64
          omega
        rw [hw]
        by_cases h3 : a0 < w
        · simp [h3]
        · by_cases h4 : 65536 ≤ a1 <;> simp [h3, h4]
      · simp [h, h1, h2, hlc_Next.j0]
    · simp [h, h1, hlc_Next.j0]
  · simp [h, hlc_Next.j0]
theorem wakes_eq (k : Nat) : L06_wakes.f (k + 4) = some true := by
  unfold L06_wakes.f
  rw [show k + 4 = (k + 3) + 1 from rfl, next_eq]
  have e : nextS 5 3 1 5 0 = (5, 4, 0, 0) := by decide
  rw [e]
  simp only [Option.bind_some]
  rw [show k + 3 + 1 = k + 4 from rfl, compareS]
  decide

def ltS (a0 a1 a2 b0 b1 b2 : Int) : Prop := a0 < b0 ∨ (a0 = b0 ∧ (a1 < b1 ∨ (a1 = b1 ∧ a2 < b2)))
theorem cmpI_cases (a b : Int) : (a < b ∧ cmpI a b = -1) ∨ (a = b ∧ cmpI a b = 0) ∨ (b < a ∧ cmpI a b = 1) := by
  rcases Int.lt_trichotomy a b with h | h | h
  · exact .inl ⟨h, cmpI_lt h⟩
  · exact .inr (.inl ⟨h, cmpI_zero.2 h⟩)
  · exact .inr (.inr ⟨h, cmpI_gt h⟩)
theorem cmpS_cases (a0 a1 a2 b0 b1 b2 : Int) : (ltS a0 a1 a2 b0 b1 b2 ∧ cmpS a0 a1 a2 b0 b1 b2 = -1) ∨ ((a0 = b0 ∧ a1 = b1 ∧ a2 = b2) ∧ cmpS a0 a1 a2 b0 b1 b2 = 0) ∨ (ltS b0 b1 b2 a0 a1 a2 ∧ cmpS a0 a1 a2 b0 b1 b2 = 1) := by
  unfold cmpS ltS
  rcases cmpI_cases a0 b0 with ⟨h, e⟩ | ⟨h, e⟩ | ⟨h, e⟩
  · exact .inl ⟨.inl h, by rw [e]; simp⟩
  · rcases cmpI_cases a1 b1 with ⟨h1, e1⟩ | ⟨h1, e1⟩ | ⟨h1, e1⟩
    · exact .inl ⟨.inr ⟨h, .inl h1⟩, by rw [e, e1]; simp⟩
    · rcases cmpI_cases a2 b2 with ⟨h2, e2⟩ | ⟨h2, e2⟩ | ⟨h2, e2⟩
      · exact .inl ⟨.inr ⟨h, .inr ⟨h1, h2⟩⟩, by rw [e, e1, e2]; simp⟩
      · exact .inr (.inl ⟨⟨h, h1, h2⟩, by rw [e, e1, e2]; simp⟩)
      · exact .inr (.inr ⟨.inr ⟨h.symm, .inr ⟨h1.symm, h2⟩⟩, by rw [e, e1, e2]; simp⟩)
    · exact .inr (.inr ⟨.inr ⟨h.symm, .inl h1⟩, by rw [e, e1]; simp⟩)
  · exact .inr (.inr ⟨.inl h, by rw [e]; simp⟩)
theorem tmod_range (x m : Int) (hx : 0 ≤ x) (hm : 0 < m) : 0 ≤ Int.tmod x m ∧ Int.tmod x m < m := by
  rw [Int.tmod_eq_emod_of_nonneg hx]
  exact ⟨Int.emod_nonneg _ (by omega), Int.emod_lt_of_pos _ hm⟩
theorem u64_nonneg (x : Int) : 0 ≤ IntKind.u64.wrap x := by
  simp [IntKind.wrap, IntKind.signed, IntKind.bits]
  omega
theorem wrap_small (x : Int) (h0 : 0 ≤ x) (h1 : x ≤ 9223372036854775807) : wrap64 x = x := by unfold wrap64; omega
/-- A number modulo m, as the program works it out. -/
theorem mod_small (x m : Int) (h0 : 0 < m) (h1 : m ≤ 9223372036854775807) : ∃ y, wrap64 (Int.tmod (IntKind.u64.wrap x) m) = y ∧ 0 ≤ y ∧ y < m := by
  have r := tmod_range (IntKind.u64.wrap x) m (u64_nonneg _) h0
  exact ⟨_, wrap_small _ r.1 (by omega), r.1, r.2⟩
/-- What follows of a next time. -/
theorem next_cases (a0 a1 a2 w p : Int) :
    (¬ (rightS a0 a1 a2 ∧ (0 ≤ w ∧ w ≤ 1099511627776) ∧ (0 ≤ p ∧ p ≤ 4)) ∧ nextS a0 a1 a2 w p = (0, 0, 0, 1)) ∨
    ((rightS a0 a1 a2 ∧ (0 ≤ w ∧ w ≤ 1099511627776) ∧ (0 ≤ p ∧ p ≤ 4)) ∧
      ((w > a0 ∧ nextS a0 a1 a2 w p = (w, 0, p, 0)) ∨ (w ≤ a0 ∧ a1 ≥ 65536 ∧ nextS a0 a1 a2 w p = (0, 0, 0, 12)) ∨ (w ≤ a0 ∧ a1 < 65536 ∧ nextS a0 a1 a2 w p = (a0, a1 + 1, p, 0)))) := by
  unfold nextS
  by_cases h : rightS a0 a1 a2 ∧ (0 ≤ w ∧ w ≤ 1099511627776) ∧ (0 ≤ p ∧ p ≤ 4)
  · refine .inr ⟨h, ?_⟩
    rw [if_neg (fun hn => hn h)]
    by_cases h1 : w > a0
    · exact .inl ⟨h1, by rw [if_pos h1]⟩
    · by_cases h2 : a1 ≥ 65536
      · exact .inr (.inl ⟨by omega, h2, by rw [if_neg h1, if_pos h2]⟩)
      · exact .inr (.inr ⟨by omega, by omega, by rw [if_neg h1, if_neg h2]⟩)
  · exact .inl ⟨h, by rw [if_pos h]⟩


end Go.Proofs.Ytelgaglbkcacnaa.Pure
