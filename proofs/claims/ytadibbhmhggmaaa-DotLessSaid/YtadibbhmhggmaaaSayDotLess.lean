import Derived.Test.YtadibbhmhggmaaaB11
import Derived.Test.YtadibbhmhggmaaaOpen
set_option linter.unusedVariables false
set_option linter.unusedSimpArgs false
namespace Go.Proofs.Ytadibbhmhggmaaa.B
open Go.RowKit Go.Proofs.Ytadibbhmhggmaaa.Open Go.Proofs.YtadibbhmhggmaaaW.PrintWords Go.Proofs.YtadibbhmhggmaaaW.PrintLast
def g24 (x : S24) : Prop := (gInt .i64) x.f0 ∧ (gInt .i64) x.f1
theorem opens24 {H : Type} {enc : TypeId × Value → H} : Open.Opens enc Try.prog 24 k24 g24 := by
  intro W base sp held fuel cs x h
  obtain ⟨xs, n, rfl, rfl, hl, hxl, hf⟩ := DataW.trod_struct Try.underlying24 h
  obtain ⟨a0, K0, G0⟩ := Open.field_of (m := 1) hxl hf 0 _ rfl (Open.opens_int Try.underlying3) (by kernel_rfl)
  obtain ⟨a1, K1, G1⟩ := Open.field_of (m := 1) hxl hf 1 _ rfl (Open.opens_int Try.underlying3) (by kernel_rfl)
  have hc : Try.prog.cellsOf 24 = 2 := by kernel_rfl
  rw [hc] at hl
  exact ⟨⟨a0, a1⟩, fun W' hW => (Open.pair_cells 1 (by have := K0 W' hW; simp only [List.drop_zero, List.drop_drop] at this ⊢; exact this) (by have := K1 W' hW; simp only [List.drop_zero, List.drop_drop] at this ⊢; rw [List.take_of_length_le (by simp only [List.length_drop, hl]; exact Nat.le_refl _)] at this; exact this)), ⟨G0, G1⟩⟩
/-- THE PURE STATEMENT of L05_DotLess. -/
def L05_DotLess.Pure : Prop := ∀ (a0_0 : Int) (a0_1 : Int) (a1_0 : Int) (a1_1 : Int) (a2_0 : Int) (a2_1 : Int), (gInt .i64) a0_0 → (gInt .i64) a0_1 → (gInt .i64) a1_0 → (gInt .i64) a1_1 → (gInt .i64) a2_0 → (gInt .i64) a2_1 → ∃ k, L05_DotLess.f k a0_0 a0_1 a1_0 a1_1 a2_0 a2_1 = some true
end Go.Proofs.Ytadibbhmhggmaaa.B
