import Derived.Test.YtelgaglbkcacnaaB8
import Derived.Test.YtelgaglbkcacnaaOpen
set_option linter.unusedVariables false
set_option linter.unusedSimpArgs false
namespace Go.Proofs.Ytelgaglbkcacnaa.B
open Go.RowKit Go.Proofs.Ytelgaglbkcacnaa.Open Go.Proofs.YtelgaglbkcacnaaW.PrintWords Go.Proofs.YtelgaglbkcacnaaW.PrintLast
def g24 (x : S24) : Prop := (gInt .i64) x.f0 ∧ (gInt .i64) x.f1 ∧ (gInt .i64) x.f2
theorem opens24 {H : Type} {enc : TypeId × Value → H} : Open.Opens enc Try.prog 24 k24 g24 := by
  intro W base sp held fuel cs x h
  obtain ⟨xs, n, rfl, rfl, hl, hxl, hf⟩ := DataW.trod_struct Try.underlying24 h
  obtain ⟨a0, K0, G0⟩ := Open.field_of (m := 1) hxl hf 0 _ rfl (Open.opens_int Try.underlying3) (by kernel_rfl)
  obtain ⟨a1, K1, G1⟩ := Open.field_of (m := 1) hxl hf 1 _ rfl (Open.opens_int Try.underlying3) (by kernel_rfl)
  obtain ⟨a2, K2, G2⟩ := Open.field_of (m := 1) hxl hf 2 _ rfl (Open.opens_int Try.underlying3) (by kernel_rfl)
  have hc : Try.prog.cellsOf 24 = 3 := by kernel_rfl
  rw [hc] at hl
  exact ⟨⟨a0, a1, a2⟩, (Open.pair_cells 1 (by have := K0; simp only [List.drop_zero, List.drop_drop] at this ⊢; exact this) (Open.pair_cells 1 (by have := K1; simp only [List.drop_zero, List.drop_drop] at this ⊢; exact this) (by have := K2; simp only [List.drop_zero, List.drop_drop] at this ⊢; rw [List.take_of_length_le (by simp only [List.length_drop, hl]; exact Nat.le_refl _)] at this; exact this))), ⟨G0, G1, G2⟩⟩
/-- THE PURE STATEMENT of L06_HlcRises. -/
def L06_HlcRises.Pure : Prop := ∀ (a0_0 : Int) (a0_1 : Int) (a0_2 : Int) (a1_0 : Int) (a1_1 : Int) (a1_2 : Int) (a2_0 : Int) (a2_1 : Int) (a2_2 : Int) (a3 : Int) (a4 : Int), (gInt .i64) a0_0 → (gInt .i64) a0_1 → (gInt .i64) a0_2 → (gInt .i64) a1_0 → (gInt .i64) a1_1 → (gInt .i64) a1_2 → (gInt .i64) a2_0 → (gInt .i64) a2_1 → (gInt .i64) a2_2 → (gInt .i64) a3 → (gInt .i64) a4 → ∃ k, L06_HlcRises.f k a0_0 a0_1 a0_2 a1_0 a1_1 a1_2 a2_0 a2_1 a2_2 a3 a4 = some true
end Go.Proofs.Ytelgaglbkcacnaa.B
