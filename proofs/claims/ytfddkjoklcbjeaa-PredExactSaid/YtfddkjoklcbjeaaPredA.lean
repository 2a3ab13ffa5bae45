/- Plain facts of this session. No condition. -/
import Derived.Test.YtfddkjoklcbjeaaB5
import Derived.Test.YtfddkjoklcbjeaaB1
import Derived.Test.YtfddkjoklcbjeaaOpen
set_option linter.unusedSimpArgs false
set_option linter.unusedVariables false
namespace Go.Proofs.Ytfddkjoklcbjeaa.Pure
open Go.RowKit Go.Proofs.Ytfddkjoklcbjeaa.Open Go.Proofs.Ytfddkjoklcbjeaa.B Go.Proofs.YtfddkjoklcbjeaaW.PrintWords Go.Proofs.YtfddkjoklcbjeaaW.PrintLast
def cmpI (a b : Int) : Int := if a < b then -1 else if a > b then 1 else 0
theorem cmpI_lt {a b : Int} (h : a < b) : cmpI a b = -1 := by unfold cmpI; rw [if_pos h]
theorem cmpI_gt {a b : Int} (h : b < a) : cmpI a b = 1 := by unfold cmpI; rw [if_neg (by omega), if_pos h]
theorem cmpI_self (a : Int) : cmpI a a = 0 := by unfold cmpI; simp
theorem compare_eq (a b : Int) : cmp_Compare_int.f a b = some (cmpI a b) := by
  unfold cmp_Compare_int.f cmp_isNaN_int.f cmpI
  simp
  split <;> simp_all
  split <;> rfl
def cmpL (x y : ByteArray) : Int := if Op.bytesLess x.toList y.toList = true then -1 else if Op.bytesLess y.toList x.toList = true then 1 else 0
theorem compareL_eq (x y : ByteArray) : cmp_Compare_string.f x y = some (cmpL x y) := by
  unfold cmp_Compare_string.f cmp_isNaN_string.f cmpL
  simp only [Option.bind_some, bne_self_eq_false, Bool.false_eq_true, if_false]
  split <;> simp_all
  split <;> rfl
theorem cmpI_cases (a b : Int) : (a < b ∧ cmpI a b = -1 ∧ cmpI b a = 1) ∨ (a = b ∧ cmpI a b = 0 ∧ cmpI b a = 0) ∨ (b < a ∧ cmpI a b = 1 ∧ cmpI b a = -1) := by
  rcases Int.lt_trichotomy a b with h | h | h
  · exact .inl ⟨h, cmpI_lt h, cmpI_gt h⟩
  · subst h; exact .inr (.inl ⟨rfl, cmpI_self _, cmpI_self _⟩)
  · exact .inr (.inr ⟨h, cmpI_gt h, cmpI_lt h⟩)
theorem cmpL_cases (x y : ByteArray) : (x.toList ≠ y.toList ∧ cmpL x y = -1 ∧ cmpL y x = 1) ∨ (x.toList = y.toList ∧ cmpL x y = 0 ∧ cmpL y x = 0) ∨ (x.toList ≠ y.toList ∧ cmpL x y = 1 ∧ cmpL y x = -1) := by
  unfold cmpL
  rcases bytes_tri x.toList y.toList with ⟨h1, h2, h3⟩ | ⟨h1, h2, h3⟩ | ⟨h1, h2, h3⟩
  · simp [h1, h2, h3]
  · exact .inr (.inl ⟨h3, by simp only [h1, h2]; rfl, by simp only [h1, h2]; rfl⟩)
  · simp [h1, h2, h3]
/-- How two values are ordered. -/
def cmpV (a b : S23) : Int := if cmpI a.f0 b.f0 = 0 then (if cmpI a.f1 b.f1 = 0 then cmpL a.f2 b.f2 else cmpI a.f1 b.f1) else cmpI a.f0 b.f0
def eqV (a b : S23) : Bool := decide (a.f0 = b.f0 ∧ a.f1 = b.f1) && (a.f2.toList == b.f2.toList)
theorem cmpV_cases (a b : S23) : (eqV a b = false ∧ cmpV a b = -1 ∧ cmpV b a = 1) ∨ (eqV a b = true ∧ cmpV a b = 0 ∧ cmpV b a = 0) ∨ (eqV a b = false ∧ cmpV a b = 1 ∧ cmpV b a = -1) := by
  unfold cmpV eqV
  rcases cmpI_cases a.f0 b.f0 with ⟨h, e, e'⟩ | ⟨h, e, e'⟩ | ⟨h, e, e'⟩
  · rw [e, e']
    simp
    omega
  · rcases cmpI_cases a.f1 b.f1 with ⟨h1, e1, e1'⟩ | ⟨h1, e1, e1'⟩ | ⟨h1, e1, e1'⟩
    · rw [e, e', e1, e1']
      simp
      omega
    · rw [e, e', e1, e1']
      rcases cmpL_cases a.f2 b.f2 with ⟨h2, e2, e2'⟩ | ⟨h2, e2, e2'⟩ | ⟨h2, e2, e2'⟩ <;> rw [e2, e2'] <;> simp [h, h1, h2]
    · rw [e, e', e1, e1']
      simp
      omega
  · rw [e, e']
    simp
    omega
theorem or3 (k : Nat) (a b c : Int) : cmp_Or_int.f (k + 4) [a, b, c] = some (if a = 0 then (if b = 0 then c else b) else a) := by
  have e0 : rd [a, b, c] 0 = a := rfl
  have e1 : rd [a, b, c] 1 = b := rfl
  have e2 : rd [a, b, c] 2 = c := rfl
  have w0 : wrap64 (0 + 1) = 1 := by unfold wrap64; omega
  have w1 : wrap64 (1 + 1) = 2 := by unfold wrap64; omega
  have w2 : wrap64 (2 + 1) = 3 := by unfold wrap64; omega
  unfold cmp_Or_int.f
  simp only [List.length_cons, List.length_nil]
  rw [cmp_Or_int.l0]
  simp only [e0, w0]
  by_cases ha : a = 0
  · subst ha
    simp
    rw [cmp_Or_int.l0]
    simp only [e1, w1]
    by_cases hb : b = 0
    · subst hb
      simp
      rw [cmp_Or_int.l0]
      simp only [e2, w2]
      by_cases hc : c = 0
      · subst hc
        simp
        rw [cmp_Or_int.l0]
        simp
      · simp [hc]
    · simp [hb]
  · simp [ha]
theorem compareV (k : Nat) (a b : S23) : value_Compare.f (k + 4) a.f0 a.f1 a.f2 b.f0 b.f1 b.f2 = some (cmpV a b) := by
  unfold value_Compare.f cmpV
  simp only [compare_eq, compareL_eq, Option.bind_some, or3]
theorem pin_eq (a n : Int) : pred_in.f a n = some (decide (0 ≤ a ∧ a < n)) := by
  unfold pred_in.f
  by_cases h : a ≥ 0
  · rw [if_pos h]; simp [show 0 ≤ a from h]
  · rw [if_neg h]; simp [show ¬ 0 ≤ a from h]
theorem other_eq (p0 p1 p2 p3 p4 : Int) (p5 : ByteArray) : pred_other.f p0 p1 p2 p3 p4 p5 = some (decide (p0 = 3 ∨ p0 = 4)) := by
  unfold pred_other.f
  by_cases h : p0 = 3
  · simp [h]
  · rw [if_neg h]
    by_cases h4 : p0 = 4 <;> simp [h, h4]
theorem given_eq (p0 p1 p2 p3 p4 : Int) (p5 : ByteArray) : pred_given.f p0 p1 p2 p3 p4 p5 = some (decide (p0 = 1 ∨ p0 = 2)) := by
  unfold pred_given.f
  by_cases h : p0 = 1
  · simp [h]
  · rw [if_neg h]
    by_cases h4 : p0 = 2 <;> simp [h, h4]
/-- A right value. -/
def okV (v : S23) : Prop := (v.f0 = 1 ∧ v.f1 = 0 ∧ v.f2.toList = []) ∨ (v.f0 = 2 ∧ (v.f1 = 0 ∨ v.f1 = 1) ∧ v.f2.toList = []) ∨ (v.f0 = 3 ∧ (-1152921504606846976 ≤ v.f1 ∧ v.f1 ≤ 1152921504606846976) ∧ v.f2.toList = []) ∨ (v.f0 = 4 ∧ v.f1 = 0 ∧ (v.f2.size : Int) ≤ 24)
instance (v : S23) : Decidable (okV v) := by unfold okV; infer_instance
theorem within_eq (n : Int) : value_within.f n 1152921504606846976 = some (decide (-1152921504606846976 ≤ n ∧ n ≤ 1152921504606846976)) := by
  unfold value_within.f
  have e : wrap64 (-1152921504606846976) = -1152921504606846976 := by unfold wrap64; omega
  rw [e]
  by_cases h : n ≥ -1152921504606846976
  · rw [if_pos h]; simp [show -1152921504606846976 ≤ n from h]
  · rw [if_neg h]; simp [show ¬ -1152921504606846976 ≤ n from h]
theorem vcheck_eq (v : S23) : value_Check.f v.f0 v.f1 v.f2 = some (if okV v then 0 else 1) := by
  unfold value_Check.f okV
  simp only [within_eq, Option.bind_some, decide_eq_true_eq]
  by_cases h1 : v.f0 = 1
  · simp only [h1, if_true]
    by_cases a : v.f1 = 0 <;> by_cases b : v.f2.toList = [] <;> simp [a, b]
  · by_cases h2 : v.f0 = 2
    · simp only [h2]
      by_cases b : v.f2.toList = [] <;> by_cases a : v.f1 = 0 <;> by_cases a' : v.f1 = 1 <;> simp [a, a', b]
    · by_cases h3 : v.f0 = 3
      · simp only [h3]
        by_cases a : -1152921504606846976 ≤ v.f1 ∧ v.f1 ≤ 1152921504606846976 <;> by_cases b : v.f2.toList = [] <;> simp [a, b]
      · by_cases h4 : v.f0 = 4
        · simp only [h4]
          by_cases a : v.f1 = 0 <;> by_cases b : (v.f2.size : Int) ≤ 24 <;> simp [a, b]
        · simp [h1, h2, h3, h4]
def fitsV (v : S23) (t : Int) : Prop := (2 ≤ t ∧ t ≤ 4) ∧ okV v ∧ (v.f0 = t ∨ v.f0 = 1)
instance (v : S23) (t : Int) : Decidable (fitsV v t) := by unfold fitsV; infer_instance
theorem vfits_eq (v : S23) (t : Int) : value_Fits.f v.f0 v.f1 v.f2 t = some (decide (fitsV v t)) := by
  unfold value_Fits.f fitsV
  simp only [vcheck_eq, Option.bind_some]
  by_cases h : 2 ≤ t ∧ t ≤ 4
  · have ht : t = 2 ∨ t = 3 ∨ t = 4 := by omega
    by_cases ho : okV v
    · by_cases e1 : v.f0 = t
      · rcases ht with rfl | rfl | rfl <;> simp [ho, e1]
      · by_cases e2 : v.f0 = 1
        · rcases ht with rfl | rfl | rfl <;> simp [ho, e2]
        · rcases ht with rfl | rfl | rfl <;> simp [ho, e1, e2]
    · rcases ht with rfl | rfl | rfl <;> simp [ho]
  · rw [if_neg (by omega), if_neg (by omega), if_neg (by omega)]
    simp [h]
theorem wrap_small (x : Int) (h0 : 0 ≤ x) (h1 : x ≤ 9223372036854775807) : wrap64 x = x := by unfold wrap64; omega
theorem long_some (l : List S23) (hl : l.length ≤ 9223372036854775806) : ∀ (d k : Nat) (i : Int), 0 ≤ i → i ≤ l.length → (l.length : Int) - i = d → d < k → ∃ b, L03_Long.l0 k l i = some b := by
  intro d
  induction d with
  | zero =>
    intro k i h0 h1 hd hk
    obtain ⟨k, rfl⟩ : ∃ q, k = q + 1 := ⟨k - 1, by omega⟩
    exact ⟨false, by rw [L03_Long.l0, if_neg (by omega)]⟩
  | succ d ih =>
    intro k i h0 h1 hd hk
    obtain ⟨k, rfl⟩ : ∃ q, k = q + 1 := ⟨k - 1, by omega⟩
    rw [L03_Long.l0, if_pos (by omega), if_pos h0]
    split
    · exact ⟨_, rfl⟩
    · rw [wrap_small _ (by omega) (by omega)]
      exact ih k (i + 1) (by omega) (by omega) (by omega) (by omega)
theorem long_one (k : Nat) (v : S23) : ∃ b, L03_Long.f (k + 2) [v] = some b := long_some [v] (by simp) 1 (k + 2) 0 (by omega) (by simp) (by simp) (by omega)
theorem heavy_some (l : List S23) (k : Nat) : ∃ b, L04_Heavy.f (k + 50) l = some b ∧ (b = false → l.length ≤ 40) := by
  unfold L04_Heavy.f
  by_cases h : (l.length : Int) > 40
  · exact ⟨true, by rw [if_pos h], by simp⟩
  · obtain ⟨b, hb⟩ := long_some l (by omega) l.length (k + 50) 0 (by omega) (by omega) (by omega) (by omega)
    exact ⟨b, by rw [if_neg h]; unfold L03_Long.f; rw [hb]; rfl, fun _ => by omega⟩
/-- Does a predicate hold of a row? -/
def holdsS (p0 p1 p2 : Int) (v : S23) (l : List S23) : Bool :=
  decide (0 ≤ p1 ∧ p1 < l.length) && (decide (¬ (p0 = 3 ∨ p0 = 4)) || decide (0 ≤ p2 ∧ p2 < l.length)) &&
  (if p0 = 1 then (cmpV (rd_T23 l p1) v == 0) else if p0 = 2 then decide (cmpV (rd_T23 l p1) v < 0) else if p0 = 3 then (cmpV (rd_T23 l p1) (rd_T23 l p2) == 0) else if p0 = 4 then decide (cmpV (rd_T23 l p1) (rd_T23 l p2) < 0)
    else if p0 = 5 then ((rd_T23 l p1).f0 == 1) else if p0 = 6 then ((rd_T23 l p1).f0 != 1) else false)

end Go.Proofs.Ytfddkjoklcbjeaa.Pure
