/- Plain facts of this session. No condition. -/
import Derived.Test.YtadibbhmhggmaaaB1
import Derived.Test.YtadibbhmhggmaaaB3
import Derived.Test.YtadibbhmhggmaaaB4
import Derived.Test.YtadibbhmhggmaaaB5
import Derived.Test.YtadibbhmhggmaaaOpen
set_option linter.unusedSimpArgs false
set_option linter.unusedVariables false
namespace Go.Proofs.Ytadibbhmhggmaaa.Pure
open Go.RowKit Go.Proofs.Ytadibbhmhggmaaa.Open Go.Proofs.Ytadibbhmhggmaaa.B Go.Proofs.YtadibbhmhggmaaaW.PrintWords Go.Proofs.YtadibbhmhggmaaaW.PrintLast
theorem wrap_small (x : Int) (h0 : 0 ≤ x) (h1 : x ≤ 9223372036854775807) : wrap64 x = x := by unfold wrap64; omega
theorem rd_eq (l : List Int) (i : Nat) (h : i < l.length) : rd l (i : Int) = l[i] := by
  unfold rd
  rw [List.getD_eq_getElem?_getD, Int.toNat_natCast, List.getElem?_eq_getElem h]
  rfl
def badD (x : Int) : Bool := decide (x < 0) || decide (x > 1073741824)
/-- A vector's error. -/
def checkD (v : List Int) : Int := if v.length < 1 ∨ v.length > 5 then 2 else if v.any badD = true then 1 else 0
def okD (v : List Int) : Prop := checkD v = 0
theorem okD_iff (v : List Int) : okD v ↔ (1 ≤ v.length ∧ v.length ≤ 5 ∧ ∀ x ∈ v, 0 ≤ x ∧ x ≤ 1073741824) := by
  unfold okD checkD
  by_cases h : v.length < 1 ∨ v.length > 5
  · rw [if_pos h]; simp; omega
  · rw [if_neg h]
    by_cases hb : v.any badD = true
    · rw [if_pos hb]
      simp only [List.any_eq_true] at hb
      obtain ⟨x, hx, hb⟩ := hb
      simp only [show ¬ (1 : Int) = 0 by omega, false_iff, not_and]
      intro _ _ hall
      have := hall x hx
      unfold badD at hb
      simp at hb
      omega
    · rw [if_neg hb]
      simp only [true_iff]
      refine ⟨by omega, by omega, fun x hx => ?_⟩
      have h2 : ¬ badD x = true := fun h3 => hb (List.any_eq_true.2 ⟨x, hx, h3⟩)
      unfold badD at h2
      simp at h2
      omega
theorem checkD_cases (v : List Int) : checkD v = 0 ∨ checkD v = 1 ∨ checkD v = 2 := by
  unfold checkD
  split
  · simp
  · split <;> simp
theorem index_check (l : List Int) (hl : l.length ≤ 100) : ∀ (d k i : Nat), i ≤ l.length → l.length - i = d → d < k →
    ∃ r, slices_IndexFunc_int_int_at_dot_Check_1.l0 k l l.length i = some r ∧ (0 ≤ r ↔ (l.drop i).any badD = true) := by
  intro d
  induction d with
  | zero =>
    intro k i hi hd hk
    obtain ⟨k, rfl⟩ : ∃ q, k = q + 1 := ⟨k - 1, by omega⟩
    refine ⟨-1, by rw [slices_IndexFunc_int_int_at_dot_Check_1.l0, if_neg (by omega)], ?_⟩
    rw [List.drop_of_length_le (by omega)]
    simp
  | succ d ih =>
    intro k i hi hd hk
    obtain ⟨k, rfl⟩ : ∃ q, k = q + 1 := ⟨k - 1, by omega⟩
    have hlt : i < l.length := by omega
    rw [slices_IndexFunc_int_int_at_dot_Check_1.l0, if_pos (by omega), if_pos (by omega), if_pos (by omega), rd_eq l i hlt, List.drop_eq_getElem_cons hlt]
    have e : dot_Check_1.f l[i] = some (badD l[i]) := by
      unfold dot_Check_1.f badD
      by_cases h : l[i] < 0 <;> simp [h]
    rw [e]
    simp only [Option.bind_some, List.any_cons]
    by_cases hb : badD l[i] = true
    · exact ⟨i, by rw [if_pos hb], by simp [hb]⟩
    · rw [if_neg hb, wrap_small _ (by omega) (by omega)]
      obtain ⟨r, h1, h2⟩ := ih k (i + 1) (by omega) (by omega) (by omega)
      refine ⟨r, h1, ?_⟩
      simp only [Bool.not_eq_true] at hb
      rw [hb, h2]
      simp
theorem check_eq (k : Nat) (v : List Int) : dot_Check.f (k + 8) v = some (checkD v) := by
  unfold dot_Check.f checkD
  by_cases h : (v.length : Int) < 1
  · rw [if_pos h, if_pos (by omega), dot_Check.j0]; rfl
  · rw [if_neg h, dot_Check.j0]
    by_cases h2 : (v.length : Int) > 5
    · rw [decide_eq_true h2, if_pos (show v.length < 1 ∨ v.length > 5 by omega)]; rfl
    · rw [decide_eq_false h2, if_neg (by simp), if_neg (show ¬ (v.length < 1 ∨ v.length > 5) by omega)]
      unfold slices_ContainsFunc_int_int_at_dot_Check_1.f slices_IndexFunc_int_int_at_dot_Check_1.f
      obtain ⟨r, h3, h4⟩ := index_check v (by omega) v.length (k + 7) 0 (by omega) (by omega) (by omega)
      have h5 : slices_IndexFunc_int_int_at_dot_Check_1.l0 (k + 7) v v.length 0 = some r := h3
      rw [h5]
      simp only [Option.bind_some, decide_eq_true_eq]
      rw [List.drop_zero] at h4
      by_cases hr : r ≥ 0
      · rw [if_pos hr, if_pos (h4.1 hr)]
      · rw [if_neg hr, if_neg (fun h => hr (h4.2 h))]
def hasD (v : List Int) (p n : Int) : Bool := decide (0 ≤ p ∧ p < v.length ∧ 1 ≤ n ∧ n ≤ rd v p)
theorem in_eq (v : List Int) (p : Int) : dot_in.f v p = some (decide (0 ≤ p ∧ p < v.length)) := by
  unfold dot_in.f
  by_cases h : p ≥ 0
  · rw [if_pos h]; simp [show 0 ≤ p from h]
  · rw [if_neg h]; simp [show ¬ 0 ≤ p from h]
theorem has_eq (v : List Int) (p n : Int) : dot_Has.f v p n = some (hasD v p n) := by
  unfold dot_Has.f hasD
  simp only [in_eq, Option.bind_some, decide_eq_true_eq]
  by_cases h : 0 ≤ p ∧ p < (v.length : Int)
  · rw [if_pos h]
    by_cases h1 : n ≥ 1
    · rw [if_pos h1, if_pos h.1, if_pos h.2]
      simp [h, show 1 ≤ n from h1]
    · rw [if_neg h1]
      simp [show ¬ 1 ≤ n from h1]
  · rw [if_neg h]
    have : ¬ (0 ≤ p ∧ p < (v.length : Int) ∧ 1 ≤ n ∧ n ≤ rd v p) := fun h2 => h ⟨h2.1, h2.2.1⟩
    simp [this]
def nextD (v : List Int) (p n : Int) : Bool := decide (0 ≤ p ∧ p < v.length ∧ rd v p < n ∧ wrap64 (n - 1) = rd v p)
theorem next_eq (v : List Int) (p n : Int) : dot_Next.f v p n = some (nextD v p n) := by
  unfold dot_Next.f nextD
  simp only [in_eq, Option.bind_some, decide_eq_true_eq]
  by_cases h : 0 ≤ p ∧ p < (v.length : Int)
  · rw [if_pos h, if_pos h.1, if_pos h.2]
    by_cases h1 : rd v p < n
    · rw [if_pos h1]
      by_cases h2 : wrap64 (n - 1) = rd v p <;> simp [h, h1, h2]
    · rw [if_neg h1]
      simp [h1]
  · rw [if_neg h]
    have : ¬ (0 ≤ p ∧ p < (v.length : Int) ∧ rd v p < n ∧ wrap64 (n - 1) = rd v p) := fun h2 => h ⟨h2.1, h2.2.1⟩
    simp [this]
theorem clone_eq (v : List Int) (h : v.length ≤ 100) : slices_Clone_int_int_43.f v = some v := by
  unfold slices_Clone_int_int_43.f
  simp only [Option.bind_some, List.length_nil, List.nil_append]
  rw [if_pos (by omega)]
/-- A vector with a dot, and the error. -/
def addD (v : List Int) (p n : Int) : List Int × Int :=
  if checkD v ≠ 0 then ([], checkD v) else if nextD v p n = true ∧ n ≤ 1073741824 then (v.set p.toNat n, 0) else ([], 1)
theorem add_eq (k : Nat) (v : List Int) (p n : Int) : dot_Add.f (k + 8) v p n = some (addD v p n) := by
  unfold dot_Add.f addD
  rw [check_eq, next_eq]
  simp only [Option.bind_some]
  by_cases hc : checkD v = 0
  · have hok := (okD_iff v).1 hc
    rw [if_pos hc, if_neg (show ¬ checkD v ≠ 0 from fun h => h hc)]
    by_cases hn : nextD v p n = true
    · rw [if_pos hn]
      have hp : 0 ≤ p ∧ p < (v.length : Int) := by
        unfold nextD at hn
        simp at hn
        omega
      by_cases h2 : n > 1073741824
      · rw [if_pos h2, if_neg (by omega)]
      · rw [if_neg h2, clone_eq v (by omega)]
        simp only [Option.bind_some]
        rw [if_pos hp.1, if_pos hp.2, if_pos ⟨hn, by omega⟩]
    · rw [if_neg hn, if_neg (fun h => hn h.1)]
  · rw [if_neg hc, if_pos (show checkD v ≠ 0 from hc)]
def leD (a b : List Int) : Bool := decide (a.length = b.length ∧ ∀ i, i < a.length → rd a (i : Nat) ≤ rd b (i : Nat))
theorem le_loop (a b : List Int) (hab : a.length = b.length) (hl : a.length ≤ 100) : ∀ (d k i : Nat), i ≤ a.length → a.length - i = d → d < k → (∀ j, j < i → rd a (j : Nat) ≤ rd b (j : Nat)) →
    slices_EqualFunc_int_int_int_int_at_dot_Le_1.l0 k b a a.length i = some (leD a b) := by
  intro d
  induction d with
  | zero =>
    intro k i hi hd hk hp
    obtain ⟨k, rfl⟩ : ∃ q, k = q + 1 := ⟨k - 1, by omega⟩
    rw [slices_EqualFunc_int_int_int_int_at_dot_Le_1.l0, if_neg (by omega)]
    unfold leD
    rw [decide_eq_true ⟨hab, fun j hj => hp j (by omega)⟩]
  | succ d ih =>
    intro k i hi hd hk hp
    obtain ⟨k, rfl⟩ : ∃ q, k = q + 1 := ⟨k - 1, by omega⟩
    rw [slices_EqualFunc_int_int_int_int_at_dot_Le_1.l0, if_pos (by omega), if_pos (by omega), if_pos (by omega), if_pos (by omega)]
    unfold dot_Le_1.f
    simp only [Option.bind_some, decide_eq_true_eq]
    by_cases h : rd a (i : Nat) ≤ rd b (i : Nat)
    · rw [if_pos h, wrap_small _ (by omega) (by omega)]
      exact ih k (i + 1) (by omega) (by omega) (by omega) (fun j hj => by
        by_cases e : j = i
        · subst e; exact h
        · exact hp j (by omega))
    · rw [if_neg h]
      unfold leD
      rw [decide_eq_false (fun hh => h (hh.2 i (by omega)))]
theorem le_eq (k : Nat) (a b : List Int) (hl : a.length ≤ 100) (hk : a.length < k) : dot_Le.f k a b = some (leD a b) := by
  unfold dot_Le.f slices_EqualFunc_int_int_int_int_at_dot_Le_1.f
  by_cases hab : a.length = b.length
  · rw [if_pos (by omega)]
    have := le_loop a b hab hl a.length k 0 (by omega) (by omega) (by omega) (fun j hj => by omega)
    have e : slices_EqualFunc_int_int_int_int_at_dot_Le_1.l0 k b a a.length 0 = some (leD a b) := this
    rw [e]
    rfl
  · rw [if_neg (by omega)]
    unfold leD
    rw [decide_eq_false (fun h => hab h.1)]
    rfl
theorem ints_loop (a b : List Int) (hab : a.length = b.length) (hl : a.length ≤ 1000) : ∀ (d k i : Nat), i ≤ a.length → a.length - i = d → d < k → a.take i = b.take i →
    keep_Ints.l0 k a b i = some (decide (a = b)) := by
  intro d
  induction d with
  | zero =>
    intro k i hi hd hk hp
    obtain ⟨k, rfl⟩ : ∃ q, k = q + 1 := ⟨k - 1, by omega⟩
    rw [keep_Ints.l0, if_neg (by omega)]
    rw [List.take_of_length_le (by omega), List.take_of_length_le (by omega)] at hp
    rw [decide_eq_true hp]
  | succ d ih =>
    intro k i hi hd hk hp
    obtain ⟨k, rfl⟩ : ∃ q, k = q + 1 := ⟨k - 1, by omega⟩
    rw [keep_Ints.l0, if_pos (by omega), if_pos (by omega), if_pos (by omega), rd_eq a i (by omega), rd_eq b i (by omega)]
    by_cases h : a[i] = b[i]
    · rw [if_pos h, wrap_small _ (by omega) (by omega)]
      exact ih k (i + 1) (by omega) (by omega) (by omega) (by rw [List.take_succ_eq_append_getElem (by omega), List.take_succ_eq_append_getElem (by omega), hp, h])
    · rw [if_neg h, decide_eq_false (fun e => h (by subst e; rfl))]
theorem ints_eq (k : Nat) (a b : List Int) (hl : a.length ≤ 1000) (hk : a.length < k) : keep_Ints.f k a b = some (decide (a = b)) := by
  unfold keep_Ints.f
  by_cases hab : a.length = b.length
  · rw [if_pos (by omega)]
    exact ints_loop a b hab hl a.length k 0 (by omega) (by omega) (by omega) (by simp)
  · rw [if_neg (by omega), decide_eq_false (fun e => hab (by rw [e]))]
theorem set_step (m a : List Int) (i : Nat) (hm : m.length = a.length) (hi : i < a.length) : (m.take i ++ a.drop i).set i m[i] = m.take (i + 1) ++ a.drop (i + 1) := by
  rw [List.set_append_right _ _ (by simp; omega), List.length_take, Nat.min_eq_left (by omega), Nat.sub_self, List.drop_eq_getElem_cons hi, List.set_cons_zero, List.take_succ_eq_append_getElem (by omega), List.append_assoc]
  rfl

end Go.Proofs.Ytadibbhmhggmaaa.Pure
