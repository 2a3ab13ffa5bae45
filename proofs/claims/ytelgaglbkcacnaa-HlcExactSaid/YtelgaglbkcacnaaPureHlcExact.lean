/- Proves the plain statement of HlcExact: times, their order, the later one, the next one are the page's. No condition beyond the statement's own. -/
import Derived.Test.YtelgaglbkcacnaaHlcC
import Derived.Test.YtelgaglbkcacnaaSayHlcExact
set_option linter.unusedSimpArgs false
set_option linter.unusedVariables false
namespace Go.Proofs.Ytelgaglbkcacnaa.Pure
open Go.RowKit Go.Proofs.Ytelgaglbkcacnaa.Open Go.Proofs.Ytelgaglbkcacnaa.B Go.Proofs.YtelgaglbkcacnaaW.PrintWords Go.Proofs.YtelgaglbkcacnaaW.PrintLast
theorem HlcExact : L06_HlcExact.Pure := by
  intro a0 a1 a2 b0 b1 b2 w p _ _ _ _ _ _ _ _
  refine ⟨10, ?_⟩
  unfold L06_HlcExact.f
  simp only [stamp_eq, check_eq, rcmp_eq, rlater_eq, keep_eq, Option.bind_some]
  rw [show (10 : Nat) = 9 + 1 from rfl, next_eq, rnext_eq]
  simp only [Option.bind_some]
  rw [show (9 + 1 : Nat) = 6 + 4 from rfl, wakes_eq, compareS, later_eq]
  by_cases h : rightS a0 a1 a2
  · simp [h]
  · simp [h]

end Go.Proofs.Ytelgaglbkcacnaa.Pure
