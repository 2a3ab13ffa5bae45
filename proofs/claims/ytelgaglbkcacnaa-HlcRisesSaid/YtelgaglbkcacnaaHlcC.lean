/- Plain facts of this session. No condition. -/
import Derived.Test.YtelgaglbkcacnaaHlcB
import Derived.Test.YtelgaglbkcacnaaB6
set_option linter.unusedSimpArgs false
set_option linter.unusedVariables false
namespace Go.Proofs.Ytelgaglbkcacnaa.Pure
open Go.RowKit Go.Proofs.Ytelgaglbkcacnaa.Open Go.Proofs.Ytelgaglbkcacnaa.B Go.Proofs.YtelgaglbkcacnaaW.PrintWords Go.Proofs.YtelgaglbkcacnaaW.PrintLast

theorem rnext_eq (k : Nat) (a0 a1 a2 w p : Int) : R01_NextStamp.f (k + 1) a0 a1 a2 w p = some (nextS a0 a1 a2 w p) := by
  unfold R01_NextStamp.f nextS
  simp only [stamp_eq, rin_eq, Option.bind_some]
  by_cases h : rightS a0 a1 a2
  · by_cases h1 : 0 ≤ w ∧ w ≤ 1099511627776
    · by_cases h2 : 0 ≤ p ∧ p ≤ 4
      · simp [h, h1, h2, R01_NextStamp.j0]
        have hw : wrap64 (a1 + 1) = a1 + 1 := by
          unfold rightS at h
          unfold wrap64
          omega
        rw [hw]
        by_cases h3 : a0 < w
        · simp [h3]
        · have h5 : a1 ≤ 65536 := by unfold rightS at h; omega
          by_cases h4 : a1 = 65536
          · simp [h3, h4]
          · simp [h3, h4, show ¬ 65536 ≤ a1 by omega]
      · simp [h, h1, h2, R01_NextStamp.j0]
    · simp [h, h1, R01_NextStamp.j0]
  · simp [h, R01_NextStamp.j0]
theorem rcmp_eq (a0 a1 a2 b0 b1 b2 : Int) : R01_CompareStamps.f a0 a1 a2 b0 b1 b2 = some (cmpS a0 a1 a2 b0 b1 b2) := by
  unfold R01_CompareStamps.f R01_sign.f
  rcases cmpS_cases a0 a1 a2 b0 b1 b2 with ⟨h, e⟩ | ⟨h, e⟩ | ⟨h, e⟩ <;> rw [e]
  · unfold ltS at h
    by_cases h0 : a0 = b0
    · rw [if_pos h0]
      by_cases h1 : a1 = b1
      · rw [if_pos h1, if_neg (by omega)]
        simp [show a2 < b2 by omega]
      · rw [if_neg h1]
        simp [show a1 < b1 by omega]
    · rw [if_neg h0]
      simp [show a0 < b0 by omega]
  · rw [if_pos h.1, if_pos h.2.1, if_pos h.2.2]
  · unfold ltS at h
    by_cases h0 : a0 = b0
    · rw [if_pos h0]
      by_cases h1 : a1 = b1
      · rw [if_pos h1, if_neg (by omega)]
        simp [show ¬ a2 < b2 by omega]
      · rw [if_neg h1]
        simp [show ¬ a1 < b1 by omega]
    · rw [if_neg h0]
      simp [show ¬ a0 < b0 by omega]
theorem keep_eq (a0 a1 a2 b0 b1 b2 : Int) : keep_Stamp.f a0 a1 a2 b0 b1 b2 = some (decide (a0 = b0 ∧ a1 = b1 ∧ a2 = b2)) := by
  unfold keep_Stamp.f
  by_cases h0 : a0 = b0
  · by_cases h1 : a1 = b1
    · simp [h0, h1]
      by_cases h2 : a2 = b2 <;> simp [h2]
    · simp [h0, h1]
  · simp [h0]
/-- The later of two times. -/
def laterS (a0 a1 a2 b0 b1 b2 : Int) : Int × Int × Int := if cmpS a0 a1 a2 b0 b1 b2 < 0 then (b0, b1, b2) else (a0, a1, a2)
theorem later_eq (k : Nat) (a0 a1 a2 b0 b1 b2 : Int) : hlc_Later.f (k + 4) a0 a1 a2 b0 b1 b2 = some (laterS a0 a1 a2 b0 b1 b2) := by
  unfold hlc_Later.f laterS
  rw [compareS]
  simp only [Option.bind_some]
  split <;> rfl
theorem rlater_eq (a0 a1 a2 b0 b1 b2 : Int) : R01_Later.f a0 a1 a2 b0 b1 b2 = some (laterS a0 a1 a2 b0 b1 b2) := by
  unfold R01_Later.f laterS
  rw [rcmp_eq]
  simp only [Option.bind_some]
  have c1 := cmpS_cases a0 a1 a2 b0 b1 b2
  have c2 := cmpS_cases b0 b1 b2 a0 a1 a2
  unfold ltS at c1 c2
  by_cases h : cmpS b0 b1 b2 a0 a1 a2 > 0
  · rw [if_pos h, if_pos (by omega)]
  · rw [if_neg h, if_neg (by omega)]


end Go.Proofs.Ytelgaglbkcacnaa.Pure
