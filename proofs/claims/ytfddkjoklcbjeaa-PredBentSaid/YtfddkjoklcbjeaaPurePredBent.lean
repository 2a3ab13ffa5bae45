/- Proves the plain statement of PredBent: a right predicate on a column beyond the types, of another kind, with a value of another type, is refused. No condition beyond the statement's own. -/
import Derived.Test.YtfddkjoklcbjeaaPredF
import Derived.Test.YtfddkjoklcbjeaaSayPredBent
set_option linter.unusedSimpArgs false
set_option linter.unusedVariables false
namespace Go.Proofs.Ytfddkjoklcbjeaa.Pure
open Go.RowKit Go.Proofs.Ytfddkjoklcbjeaa.Open Go.Proofs.Ytfddkjoklcbjeaa.B Go.Proofs.YtfddkjoklcbjeaaW.PrintWords Go.Proofs.YtfddkjoklcbjeaaW.PrintLast
theorem emp : (⟨#[]⟩ : ByteArray).toList = [] := by rw [ByteArray.toList_eq]
theorem emp_size : (⟨#[]⟩ : ByteArray).size = 0 := rfl
theorem bent_end (types : List Int) (x y : Int) (h0 : 0 < types.length) (h1 : types.length ≤ 12) (ht : ∀ i : Int, 0 ≤ i → i < types.length → 2 ≤ rd types i ∧ rd types i ≤ 4) (k : Nat) :
    L15_PredBent.l0 (k + 20) types x y types.length = some true := by
  obtain ⟨c, hc, hc0, hc1⟩ := mod_small x types.length h0 (by omega)
  have C : ∀ p0 p1 p2 w0 w1, pred_Check.f (k + 19) p0 p1 p2 w0 w1 ⟨#[]⟩ types = some (checkS p0 p1 p2 ⟨w0, w1, ⟨#[]⟩⟩ types) := fun p0 p1 p2 w0 w1 => pcheck_eq (k + 18) p0 p1 p2 ⟨w0, w1, ⟨#[]⟩⟩ types
  have W : L15_wakes.f (k + 19) = some true := wakes_eq (k + 14)
  rw [show k + 20 = k + 19 + 1 from rfl, L15_PredBent.l0, if_neg (by omega), if_neg (by rw [u64_id _ (by omega)]; omega), hc]
  simp only [C, W, Option.bind_some]
  have c0 : checkS 6 c 0 ⟨0, 0, ⟨#[]⟩⟩ types = 0 := by unfold checkS; simp [hc0, hc1]
  have c1 : checkS 6 (types.length : Int) 0 ⟨0, 0, ⟨#[]⟩⟩ types = 1 := by unfold checkS; simp
  have c2 : checkS 7 c 0 ⟨0, 0, ⟨#[]⟩⟩ types = 1 := by unfold checkS; simp
  have c3 : checkS 0 c 0 ⟨0, 0, ⟨#[]⟩⟩ types = 1 := by unfold checkS; simp
  have c4 : checkS 3 c (-1) ⟨0, 0, ⟨#[]⟩⟩ types = 1 := by unfold checkS; simp
  rw [c0, c1, c2, c3, c4, if_pos rfl, if_pos hc0, if_pos hc1]
  simp only [if_true]
  have t := ht c hc0 hc1
  have key : checkS 1 c 0 ⟨wrap64 (2 + Int.tmod (wrap64 (wrap64 (rd types c - 2) + 1)) 3), 0, ⟨#[]⟩⟩ types = 10 := by
    have a : wrap64 (wrap64 (rd types c - 2) + 1) = rd types c - 1 := by
      rw [wrap_small (rd types c - 2) (by omega) (by omega), wrap_small (rd types c - 2 + 1) (by omega) (by omega)]
      omega
    rw [a, Int.tmod_eq_emod_of_nonneg (by omega), wrap_small _ (by omega) (by omega)]
    have hk : 2 ≤ 2 + (rd types c - 1) % 3 ∧ 2 + (rd types c - 1) % 3 ≤ 4 ∧ 2 + (rd types c - 1) % 3 ≠ rd types c := by omega
    generalize 2 + (rd types c - 1) % 3 = K at hk
    have ho : okV ⟨K, 0, ⟨#[]⟩⟩ := by
      unfold okV
      dsimp only
      rw [emp, emp_size]
      simp
      omega
    have hf : ¬ fitsV ⟨K, 0, ⟨#[]⟩⟩ (rd types c) := by
      unfold fitsV
      dsimp only
      intro h
      omega
    unfold checkS
    simp [hc0, hc1, ho, hf]
  rw [key]
  simp only [if_true]
  split
  · rfl
  · split
    · rfl
    · split
      · rfl
      · split <;> rfl
theorem bent_loop (types : List Int) (x y : Int) (h0 : 0 < types.length) (h1 : types.length ≤ 12) :
    ∀ (d k : Nat) (i : Int), 0 ≤ i → i ≤ types.length → (types.length : Int) - i = d → 20 + d ≤ k → (∀ j : Int, 0 ≤ j → j < i → 2 ≤ rd types j ∧ rd types j ≤ 4) → L15_PredBent.l0 k types x y i = some true := by
  intro d
  induction d with
  | zero =>
    intro k i hi0 hi1 hd hk ht
    have e : i = types.length := by omega
    subst e
    obtain ⟨k, rfl⟩ : ∃ q, k = q + 20 := ⟨k - 20, by omega⟩
    exact bent_end types x y h0 h1 ht k
  | succ d ih =>
    intro k i hi0 hi1 hd hk ht
    obtain ⟨k, rfl⟩ : ∃ q, k = q + 1 := ⟨k - 1, by omega⟩
    rw [L15_PredBent.l0, if_pos (by omega), if_pos hi0]
    by_cases a : rd types i < 2
    · rw [if_pos a]
    · rw [if_neg a]
      by_cases b : rd types i > 4
      · rw [if_pos b]
      · rw [if_neg b, wrap_small _ (by omega) (by omega)]
        refine ih k (i + 1) (by omega) (by omega) (by omega) (by omega) (fun j j0 j1 => ?_)
        by_cases e : j = i
        · subst e; omega
        · exact ht j j0 (by omega)
theorem PredBent : L15_PredBent.Pure := by
  intro types x y _ _ _
  refine ⟨100, ?_⟩
  unfold L15_PredBent.f
  by_cases h : (types.length : Int) = 0
  · rw [if_pos h, L15_PredBent.j0]; rfl
  · rw [if_neg h, L15_PredBent.j0]
    by_cases h2 : (types.length : Int) > 12
    · rw [decide_eq_true h2]; rfl
    · rw [decide_eq_false h2, if_neg (by simp)]
      exact bent_loop types x y (by omega) (by omega) types.length 99 0 (by omega) (by omega) (by omega) (by omega) (fun j a b => by omega)

end Go.Proofs.Ytfddkjoklcbjeaa.Pure
