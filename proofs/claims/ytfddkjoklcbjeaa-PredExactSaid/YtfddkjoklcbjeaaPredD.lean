/- Plain facts of this session. No condition. -/
import Derived.Test.YtfddkjoklcbjeaaPredB
import Derived.Test.YtfddkjoklcbjeaaPredC
import Derived.Test.YtfddkjoklcbjeaaB9
set_option linter.unusedSimpArgs false
set_option linter.unusedVariables false
namespace Go.Proofs.Ytfddkjoklcbjeaa.Pure
open Go.RowKit Go.Proofs.Ytfddkjoklcbjeaa.Open Go.Proofs.Ytfddkjoklcbjeaa.B Go.Proofs.YtfddkjoklcbjeaaW.PrintWords Go.Proofs.YtfddkjoklcbjeaaW.PrintLast
theorem keepV_eq (a b : S23) : keep_Value.f a.f0 a.f1 a.f2 b.f0 b.f1 b.f2 = some (eqV a b) := by
  unfold keep_Value.f eqV
  by_cases h0 : a.f0 = b.f0
  · by_cases h1 : a.f1 = b.f1 <;> simp [h0, h1]
  · simp [h0]
theorem eqV_self (a : S23) : eqV a a = true := by unfold eqV; simp
theorem ints_self (l : List Int) (hl : l.length ≤ 9223372036854775806) : ∀ (d k : Nat) (i : Int), 0 ≤ i → i ≤ l.length → (l.length : Int) - i = d → d < k → keep_Ints.l0 k l l i = some true := by
  intro d
  induction d with
  | zero =>
    intro k i h0 h1 hd hk
    obtain ⟨k, rfl⟩ : ∃ q, k = q + 1 := ⟨k - 1, by omega⟩
    rw [keep_Ints.l0, if_neg (by omega)]
  | succ d ih =>
    intro k i h0 h1 hd hk
    obtain ⟨k, rfl⟩ : ∃ q, k = q + 1 := ⟨k - 1, by omega⟩
    rw [keep_Ints.l0, if_pos (by omega), if_pos h0, if_pos (by omega), if_pos rfl, wrap_small _ (by omega) (by omega)]
    exact ih k (i + 1) (by omega) (by omega) (by omega) (by omega)
theorem row_self (l : List S23) (hl : l.length ≤ 9223372036854775806) : ∀ (d k : Nat) (i : Int), 0 ≤ i → i ≤ l.length → (l.length : Int) - i = d → d < k → keep_Row.l0 k l l i = some true := by
  intro d
  induction d with
  | zero =>
    intro k i h0 h1 hd hk
    obtain ⟨k, rfl⟩ : ∃ q, k = q + 1 := ⟨k - 1, by omega⟩
    rw [keep_Row.l0, if_neg (by omega)]
  | succ d ih =>
    intro k i h0 h1 hd hk
    obtain ⟨k, rfl⟩ : ∃ q, k = q + 1 := ⟨k - 1, by omega⟩
    rw [keep_Row.l0, if_pos (by omega), if_pos h0, if_pos (by omega), keepV_eq, eqV_self]
    simp only [Option.bind_some, if_true]
    rw [wrap_small _ (by omega) (by omega)]
    exact ih k (i + 1) (by omega) (by omega) (by omega) (by omega)
def vI (n : Int) : S23 := ⟨3, n, ⟨#[]⟩⟩
theorem wakes_eq (k : Nat) : L15_wakes.f (k + 5) = some true := by
  unfold L15_wakes.f
  have e1 : pred_Check.f (k + 5) 2 0 0 3 5 (⟨#[]⟩ : ByteArray) [3] = some (checkS 2 0 0 (vI 5) [3]) := pcheck_eq (k + 4) 2 0 0 (vI 5) [3]
  have e2 : pred_Holds.f (k + 5) 2 0 0 3 5 (⟨#[]⟩ : ByteArray) [(⟨3, 4, ⟨#[]⟩⟩ : S23)] = some (holdsS 2 0 0 (vI 5) [vI 4]) := holds_eq k 2 0 0 (vI 5) [vI 4]
  have e3 : pred_Holds.f (k + 5) 2 0 0 3 5 (⟨#[]⟩ : ByteArray) [(⟨3, 5, ⟨#[]⟩⟩ : S23)] = some (holdsS 2 0 0 (vI 5) [vI 5]) := holds_eq k 2 0 0 (vI 5) [vI 5]
  have c1 : checkS 2 0 0 (vI 5) [3] = 0 := by
    have ht : (vI 5).f2.toList = [] := by rw [ByteArray.toList_eq]; rfl
    have ho : okV (vI 5) := by unfold okV; exact .inr (.inr (.inl ⟨rfl, ⟨by show (-1152921504606846976 : Int) ≤ 5; omega, by show (5 : Int) ≤ _; omega⟩, ht⟩))
    have hf : fitsV (vI 5) (rd [3] 0) := ⟨⟨by show (2 : Int) ≤ 3; omega, by show (3 : Int) ≤ 4; omega⟩, ho, .inl rfl⟩
    unfold checkS
    simp [ho, hf]
  have c2 : holdsS 2 0 0 (vI 5) [vI 4] = true := by
    have : cmpV (rd_T23 [vI 4] 0) (vI 5) = -1 := by
      show cmpV (vI 4) (vI 5) = -1
      unfold cmpV
      rw [show cmpI (vI 4).f0 (vI 5).f0 = 0 from cmpI_self 3, show cmpI (vI 4).f1 (vI 5).f1 = -1 from cmpI_lt (by show (4 : Int) < 5; omega)]
      simp
    unfold holdsS
    simp [this]
  have c3 : holdsS 2 0 0 (vI 5) [vI 5] = false := by
    have : cmpV (rd_T23 [vI 5] 0) (vI 5) = 0 := by
      show cmpV (vI 5) (vI 5) = 0
      have := cmpV_cases (vI 5) (vI 5)
      rw [eqV_self] at this
      simp at this
      exact this
    unfold holdsS
    simp [this]
  rw [e1, e2, e3, c1, c2, c3]
  rfl


end Go.Proofs.Ytfddkjoklcbjeaa.Pure
