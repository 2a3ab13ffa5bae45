import Derived.Test.YtfddkjoklcbjeaaB10
import Derived.Test.YtfddkjoklcbjeaaOpen
set_option linter.unusedVariables false
set_option linter.unusedSimpArgs false
namespace Go.Proofs.Ytfddkjoklcbjeaa.B
open Go.RowKit Go.Proofs.Ytfddkjoklcbjeaa.Open Go.Proofs.YtfddkjoklcbjeaaW.PrintWords Go.Proofs.YtfddkjoklcbjeaaW.PrintLast
def g23 (x : S23) : Prop := (gInt .i64) x.f0 ∧ (gInt .i64) x.f1 ∧ gStr x.f2
theorem opens23 {H : Type} {enc : TypeId × Value → H} : Open.Opens enc Try.prog 23 k23 g23 := by
  intro W base sp held fuel cs x h
  obtain ⟨xs, n, rfl, rfl, hl, hxl, hf⟩ := DataW.trod_struct Try.underlying23 h
  obtain ⟨a0, K0, G0⟩ := Open.field_of (m := 1) hxl hf 0 _ rfl (Open.opens_int Try.underlying3) (by kernel_rfl)
  obtain ⟨a1, K1, G1⟩ := Open.field_of (m := 1) hxl hf 1 _ rfl (Open.opens_int Try.underlying3) (by kernel_rfl)
  obtain ⟨a2, K2, G2⟩ := Open.field_of (m := 1) hxl hf 2 _ rfl (Open.opens_string Try.underlying9) (by kernel_rfl)
  have hc : Try.prog.cellsOf 23 = 3 := by kernel_rfl
  rw [hc] at hl
  exact ⟨⟨a0, a1, a2⟩, (Open.pair_cells 1 (by have := K0; simp only [List.drop_zero, List.drop_drop] at this ⊢; exact this) (Open.pair_cells 1 (by have := K1; simp only [List.drop_zero, List.drop_drop] at this ⊢; exact this) (by have := K2; simp only [List.drop_zero, List.drop_drop] at this ⊢; rw [List.take_of_length_le (by simp only [List.length_drop, hl]; exact Nat.le_refl _)] at this; exact this))), ⟨G0, G1, G2⟩⟩
def g25 (x : S25) : Prop := (gInt .i64) x.f0 ∧ (gInt .i64) x.f1 ∧ (gInt .i64) x.f2 ∧ g23 x.f3
theorem opens25 {H : Type} {enc : TypeId × Value → H} : Open.Opens enc Try.prog 25 k25 g25 := by
  intro W base sp held fuel cs x h
  obtain ⟨xs, n, rfl, rfl, hl, hxl, hf⟩ := DataW.trod_struct Try.underlying25 h
  obtain ⟨a0, K0, G0⟩ := Open.field_of (m := 1) hxl hf 0 _ rfl (Open.opens_int Try.underlying3) (by kernel_rfl)
  obtain ⟨a1, K1, G1⟩ := Open.field_of (m := 1) hxl hf 1 _ rfl (Open.opens_int Try.underlying3) (by kernel_rfl)
  obtain ⟨a2, K2, G2⟩ := Open.field_of (m := 1) hxl hf 2 _ rfl (Open.opens_int Try.underlying3) (by kernel_rfl)
  obtain ⟨a3, K3, G3⟩ := Open.field_of (m := 3) hxl hf 3 _ rfl opens23 (by kernel_rfl)
  have hc : Try.prog.cellsOf 25 = 6 := by kernel_rfl
  rw [hc] at hl
  exact ⟨⟨a0, a1, a2, a3⟩, (Open.pair_cells 1 (by have := K0; simp only [List.drop_zero, List.drop_drop] at this ⊢; exact this) (Open.pair_cells 1 (by have := K1; simp only [List.drop_zero, List.drop_drop] at this ⊢; exact this) (Open.pair_cells 1 (by have := K2; simp only [List.drop_zero, List.drop_drop] at this ⊢; exact this) (by have := K3; simp only [List.drop_zero, List.drop_drop] at this ⊢; rw [List.take_of_length_le (by simp only [List.length_drop, hl]; exact Nat.le_refl _)] at this; exact this)))), ⟨G0, G1, G2, G3⟩⟩
/-- THE PURE STATEMENT of L15_PredExact. -/
def L15_PredExact.Pure : Prop := ∀ (a0_0 : Int) (a0_1 : Int) (a0_2 : Int) (a0_3 : Int) (a0_4 : Int) (a0_5 : ByteArray) (l1 : List Int) (l2 : List (S23)), (gInt .i64) a0_0 → (gInt .i64) a0_1 → (gInt .i64) a0_2 → (gInt .i64) a0_3 → (gInt .i64) a0_4 → gStr a0_5 → (gList (gInt .i64)) l1 → (gList g23) l2 → ∃ k, L15_PredExact.f k a0_0 a0_1 a0_2 a0_3 a0_4 a0_5 l1 l2 = some true
end Go.Proofs.Ytfddkjoklcbjeaa.B
