/- Proves the plain statement of HlcRises: a next time is later than the last, no earlier than the wall, right; the order is total; the later of two is one of them. No condition beyond the statement's own. -/
import Derived.Test.YtelgaglbkcacnaaHlcC
import Derived.Test.YtelgaglbkcacnaaSayHlcRises
set_option linter.unusedSimpArgs false
set_option linter.unusedVariables false
namespace Go.Proofs.Ytelgaglbkcacnaa.Pure
open Go.RowKit Go.Proofs.Ytelgaglbkcacnaa.Open Go.Proofs.Ytelgaglbkcacnaa.B Go.Proofs.YtelgaglbkcacnaaW.PrintWords Go.Proofs.YtelgaglbkcacnaaW.PrintLast
theorem rises_end (k : Nat) (a0 a1 a2 w p : Int) : L06_HlcRises.j1 (k + 20) w p false a0 a1 a2 = some true := by
  rw [L06_HlcRises.j1]
  simp only [stamp_eq, Option.bind_some, decide_eq_true_eq]
  have key : ∀ x : Bool, (x = false → rightS a0 a1 a2 ∧ (0 ≤ w ∧ w ≤ 1099511627776) ∧ (0 ≤ p ∧ p ≤ 4)) → L06_HlcRises.j2 (k + 19) w p x a0 a1 a2 = some true := by
    intro x hx
    rw [L06_HlcRises.j2]
    rw [show k + 18 = k + 14 + 4 from rfl, wakes_eq]
    simp only [Option.bind_some]
    cases x with
    | true => simp
    | false =>
      have hh := hx rfl
      have hr := hh.1
      unfold rightS at hr
      simp only [Bool.false_eq_true, if_false]
      rw [show k + 14 + 4 = k + 17 + 1 from rfl, next_eq]
      simp only [Option.bind_some]
      rw [show k + 17 + 1 = k + 14 + 4 from rfl]
      rcases next_cases a0 a1 a2 w p with ⟨h, _⟩ | ⟨_, ⟨h, e⟩ | ⟨h, h2, e⟩ | ⟨h, h2, e⟩⟩
      · exact absurd hh h
      · rw [e]
        simp only [compareS, check_eq, Option.bind_some]
        have c := cmpS_cases w 0 p a0 a1 a2
        unfold ltS at c
        have e2 : cmpS w 0 p a0 a1 a2 = 1 := by omega
        have e3 : rightS w 0 p := by unfold rightS; omega
        simp [e2, e3]
        omega
      · rw [e]
        simp [show a1 = 65536 by omega, show w ≤ a0 by omega]
      · rw [e]
        simp only [compareS, check_eq, Option.bind_some]
        have c := cmpS_cases a0 (a1 + 1) p a0 a1 a2
        unfold ltS at c
        have e2 : cmpS a0 (a1 + 1) p a0 a1 a2 = 1 := by omega
        have e3 : rightS a0 (a1 + 1) p := by unfold rightS; omega
        simp [e2, e3, h]
  by_cases hr : rightS a0 a1 a2
  · simp only [Bool.false_eq_true, if_false, if_pos hr]
    by_cases h1 : w < 0
    · rw [if_pos h1]; exact key true (by simp)
    · rw [if_neg h1]
      by_cases h2 : w > 1099511627776
      · rw [if_pos h2]; exact key true (by simp)
      · rw [if_neg h2]
        by_cases h3 : p < 0
        · rw [if_pos h3]; exact key true (by simp)
        · rw [if_neg h3]
          exact key _ (fun hx => ⟨hr, ⟨by omega, by omega⟩, ⟨by omega, by simp at hx; omega⟩⟩)
  · simp only [Bool.false_eq_true, if_false, if_neg hr]
    exact key true (by simp)
theorem rises_mid (k : Nat) (a0 a1 a2 b0 b1 b2 w p : Int) : L06_HlcRises.j0 (k + 21) w p false a0 a1 a2 b0 b1 b2 = some true := by
  rw [L06_HlcRises.j0]
  simp only [Bool.false_eq_true, if_false]
  rw [show k + 20 = k + 16 + 4 from rfl, later_eq]
  simp only [Option.bind_some, keep_eq, compareS, decide_eq_true_eq]
  have c := cmpS_cases a0 a1 a2 b0 b1 b2
  have c2 := cmpS_cases b0 b1 b2 a0 a1 a2
  have ca := cmpS_cases a0 a1 a2 a0 a1 a2
  have cb := cmpS_cases b0 b1 b2 b0 b1 b2
  unfold ltS at c c2 ca cb
  have he := rises_end k a0 a1 a2 w p
  unfold laterS
  by_cases h : cmpS a0 a1 a2 b0 b1 b2 < 0
  · rw [if_pos h]
    dsimp only
    rw [if_neg (by omega)]
    simp only [and_self, if_true]
    rw [if_neg (by omega), show decide (cmpS b0 b1 b2 b0 b1 b2 < 0) = false from decide_eq_false (by omega)]
    exact he
  · rw [if_neg h]
    dsimp only
    simp only [and_self, if_true]
    rw [if_neg (by omega), show decide (cmpS a0 a1 a2 b0 b1 b2 < 0) = false from decide_eq_false (by omega)]
    exact he
theorem HlcRises : L06_HlcRises.Pure := by
  intro a0 a1 a2 b0 b1 b2 c0 c1 c2 w p _ _ _ _ _ _ _ _ _ _ _
  refine ⟨9 + 21, ?_⟩
  unfold L06_HlcRises.f
  rw [show (9 + 21 : Nat) = 26 + 4 from rfl]
  simp only [compareS, keep_eq, Option.bind_some]
  have hm := rises_mid 9 a0 a1 a2 b0 b1 b2 w p
  rw [show (9 + 21 : Nat) = 26 + 4 from rfl] at hm
  have x := cmpS_cases a0 a1 a2 b0 b1 b2
  have x' := cmpS_cases b0 b1 b2 a0 a1 a2
  have y := cmpS_cases b0 b1 b2 c0 c1 c2
  have z := cmpS_cases a0 a1 a2 c0 c1 c2
  unfold ltS at x x' y z
  have e1 : wrap64 (-cmpS b0 b1 b2 a0 a1 a2) = -cmpS b0 b1 b2 a0 a1 a2 := by unfold wrap64; omega
  rw [e1, if_pos (by omega)]
  have e2 : ((cmpS a0 a1 a2 b0 b1 b2 == 0) != decide (a0 = b0 ∧ a1 = b1 ∧ a2 = b2)) = false := by
    by_cases h : cmpS a0 a1 a2 b0 b1 b2 = 0
    · rw [h, decide_eq_true (by omega)]; rfl
    · rw [decide_eq_false (by omega)]
      simp [h]
  rw [e2, if_neg (by simp), if_neg (by omega), if_neg (by omega)]
  generalize cmpS a0 a1 a2 b0 b1 b2 = X at *
  generalize cmpS b0 b1 b2 c0 c1 c2 = Y at *
  generalize cmpS a0 a1 a2 c0 c1 c2 = Z at *
  have d1 : Z ≥ 0 → (!decide (Z ≥ 0)) = false := fun h => by simp [h]
  by_cases h1 : X > 0
  · rw [if_pos h1, if_neg (by omega)]
    by_cases h2 : Y < 0
    · rw [if_pos h2]; exact hm
    · rw [if_neg h2, d1 (by omega)]; exact hm
  · rw [if_neg h1]
    by_cases h2 : Y > 0
    · rw [if_pos h2]
      by_cases h3 : X < 0
      · rw [if_pos h3]; exact hm
      · rw [if_neg h3, if_neg (by omega), d1 (by omega)]; exact hm
    · rw [if_neg h2]
      by_cases h4 : Z ≤ 0
      · rw [if_pos h4]
        by_cases h3 : X < 0
        · rw [if_pos h3]; exact hm
        · rw [if_neg h3]
          by_cases h5 : Y < 0
          · rw [if_pos h5]; exact hm
          · rw [if_neg h5, d1 (by omega)]; exact hm
      · omega

end Go.Proofs.Ytelgaglbkcacnaa.Pure
