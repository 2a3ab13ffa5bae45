/- Proves the plain statement of HlcWalls: a wall ahead is the next time's, one that is not changes nothing but Logic, the greatest Logic is the last. No condition beyond the statement's own. -/
import Derived.Test.YtelgaglbkcacnaaHlcB
import Derived.Test.YtelgaglbkcacnaaSayHlcWalls
set_option linter.unusedSimpArgs false
set_option linter.unusedVariables false
namespace Go.Proofs.Ytelgaglbkcacnaa.Pure
open Go.RowKit Go.Proofs.Ytelgaglbkcacnaa.Open Go.Proofs.Ytelgaglbkcacnaa.B Go.Proofs.YtelgaglbkcacnaaW.PrintWords Go.Proofs.YtelgaglbkcacnaaW.PrintLast
theorem HlcWalls : L06_HlcWalls.Pure := by
  intro a0 a1 a2 w p _ _ _ _ _
  refine ⟨10, ?_⟩
  unfold L06_HlcWalls.f
  rw [stamp_eq]
  simp only [Option.bind_some, decide_eq_true_eq]
  by_cases hr : rightS a0 a1 a2
  · rw [if_pos hr]
    obtain ⟨w', hw, hw0, hw1⟩ := mod_small w 1099511627777 (by omega) (by omega)
    obtain ⟨p', hp, hp0, hp1⟩ := mod_small p 5 (by omega) (by omega)
    rw [hw, hp, show (10 : Nat) = 9 + 1 from rfl, next_eq, next_eq]
    simp only [Option.bind_some]
    rw [show (9 + 1 : Nat) = 6 + 4 from rfl, wakes_eq]
    simp only [Option.bind_some]
    have n1 := next_cases a0 a1 a2 w' p'
    have n2 := next_cases a0 a1 a2 0 p'
    have hr' := hr
    unfold rightS at hr'
    rcases n1 with ⟨h, _⟩ | ⟨_, ⟨h, e⟩ | ⟨h, h2, e⟩ | ⟨h, h2, e⟩⟩
    · exact absurd ⟨hr, ⟨hw0, by omega⟩, ⟨hp0, by omega⟩⟩ h
    · rw [e, if_pos h]
      simp
    · rw [e, if_neg (by omega), if_pos (by omega)]
      simp
    · rw [e, if_neg (by omega), if_neg (by omega)]
      have hw2 : wrap64 (a1 + 1) = a1 + 1 := wrap_small _ (by omega) (by omega)
      rcases n2 with ⟨h', _⟩ | ⟨_, ⟨h', e'⟩ | ⟨h', h2', e'⟩ | ⟨h', h2', e'⟩⟩
      · exact absurd ⟨hr, ⟨by omega, by omega⟩, ⟨hp0, by omega⟩⟩ h'
      · omega
      · omega
      · rw [e']
        simp [hw2]
  · rw [if_neg hr]

end Go.Proofs.Ytelgaglbkcacnaa.Pure
