/- Plain facts of this session. No condition. -/
import Derived.Test.YtfddkjoklcbjeaaPredD
import Derived.Test.YtfddkjoklcbjeaaB11
set_option linter.unusedSimpArgs false
set_option linter.unusedVariables false
namespace Go.Proofs.Ytfddkjoklcbjeaa.Pure
open Go.RowKit Go.Proofs.Ytfddkjoklcbjeaa.Open Go.Proofs.Ytfddkjoklcbjeaa.B Go.Proofs.YtfddkjoklcbjeaaW.PrintWords Go.Proofs.YtfddkjoklcbjeaaW.PrintLast
theorem u64_id (n : Nat) (h : n ≤ 100) : IntKind.u64.wrap (n : Int) = n := by simp [IntKind.wrap, IntKind.signed, IntKind.bits]; omega
theorem tmod_range (x m : Int) (hx : 0 ≤ x) (hm : 0 < m) : 0 ≤ Int.tmod x m ∧ Int.tmod x m < m := by
  rw [Int.tmod_eq_emod_of_nonneg hx]
  exact ⟨Int.emod_nonneg _ (by omega), Int.emod_lt_of_pos _ hm⟩
theorem u64_nonneg (x : Int) : 0 ≤ IntKind.u64.wrap x := by
  simp [IntKind.wrap, IntKind.signed, IntKind.bits]
  omega
theorem mod_small (x : Int) (n : Nat) (h0 : 0 < n) (h1 : n ≤ 100) : ∃ y, wrap64 (Int.tmod (IntKind.u64.wrap x) (IntKind.u64.wrap (n : Int))) = y ∧ 0 ≤ y ∧ y < n := by
  rw [u64_id n h1]
  have r := tmod_range (IntKind.u64.wrap x) n (u64_nonneg _) (by omega)
  exact ⟨_, wrap_small _ r.1 (by omega), r.1, r.2⟩
def nB (b : Bool) : Int := if b = true then 1 else 0
theorem count_eq (l : List Bool) (hl : l.length ≤ 10) : ∀ (d k : Nat) (n i : Int), 0 ≤ i → i ≤ l.length → (l.length : Int) - i = d → d < k → 0 ≤ n → n ≤ i → L15_count.l0 k l n i = some (n + ((l.drop i.toNat).map nB).sum) := by
  intro d
  induction d with
  | zero =>
    intro k n i h0 h1 hd hk _ _
    obtain ⟨k, rfl⟩ : ∃ q, k = q + 1 := ⟨k - 1, by omega⟩
    rw [L15_count.l0, if_neg (by omega), List.drop_of_length_le (by omega)]
    simp
  | succ d ih =>
    intro k n i h0 h1 hd hk hn0 hn
    obtain ⟨k, rfl⟩ : ∃ q, k = q + 1 := ⟨k - 1, by omega⟩
    have hlt : i.toNat < l.length := by omega
    have e : rdOf false l i = l[i.toNat] := by unfold rdOf; rw [List.getD_eq_getElem?_getD, List.getElem?_eq_getElem hlt]; rfl
    rw [L15_count.l0, if_pos (by omega), if_pos h0, e, wrap_small (i + 1) (by omega) (by omega), wrap_small (n + 1) (by omega) (by omega), List.drop_eq_getElem_cons hlt]
    have t : (i + 1).toNat = i.toNat + 1 := by omega
    by_cases hb : l[i.toNat] = true
    · rw [if_pos hb, ih k (n + 1) (i + 1) (by omega) (by omega) (by omega) (by omega) (by omega) (by omega), t]
      simp [nB, hb, Int.add_assoc]
    · rw [if_neg hb, ih k n (i + 1) (by omega) (by omega) (by omega) (by omega) (by omega) (by omega), t]
      simp [nB, hb]
theorem count3 (k : Nat) (a b c : Bool) : L15_count.f (k + 5) [a, b, c] = some (nB a + nB b + nB c) := by
  unfold L15_count.f
  rw [count_eq [a, b, c] (by simp) 3 (k + 5) 0 0 (by omega) (by simp) (by simp) (by omega) (by omega) (by omega)]
  simp [Int.add_assoc]
theorem count2 (k : Nat) (a b : Bool) : L15_count.f (k + 5) [a, b] = some (nB a + nB b) := by
  unfold L15_count.f
  rw [count_eq [a, b] (by simp) 2 (k + 5) 0 0 (by omega) (by simp) (by simp) (by omega) (by omega) (by omega)]
  simp

end Go.Proofs.Ytfddkjoklcbjeaa.Pure
