/- Proves the plain statement of PredExact: whether any predicate may be, and holds of any row, is the page's. No condition beyond the statement's own. -/
import Derived.Test.YtfddkjoklcbjeaaPredE
import Derived.Test.YtfddkjoklcbjeaaSayPredExact
set_option linter.unusedSimpArgs false
set_option linter.unusedVariables false
namespace Go.Proofs.Ytfddkjoklcbjeaa.Pure
open Go.RowKit Go.Proofs.Ytfddkjoklcbjeaa.Open Go.Proofs.Ytfddkjoklcbjeaa.B Go.Proofs.YtfddkjoklcbjeaaW.PrintWords Go.Proofs.YtfddkjoklcbjeaaW.PrintLast
theorem PredExact : L15_PredExact.Pure := by
  intro p0 p1 p2 v0 v1 v2 types r _ _ _ _ _ _ _ _
  refine ⟨60, ?_⟩
  let v : S23 := ⟨v0, v1, v2⟩
  unfold L15_PredExact.f
  obtain ⟨b, hb⟩ := long_one 58 v
  have hb' : L03_Long.f 60 [(⟨v0, v1, v2⟩ : S23)] = some b := hb
  rw [hb']
  simp only [Option.bind_some]
  cases b with
  | true => rw [if_pos rfl, L15_PredExact.j0]; rfl
  | false =>
    rw [if_neg (by simp)]
    by_cases h : (types.length : Int) > 40
    · rw [if_pos h, L15_PredExact.j0]; rfl
    · rw [if_neg h]
      obtain ⟨b, hb, hbl⟩ := heavy_some r 10
      rw [show (60 : Nat) = 10 + 50 from rfl, hb]
      simp only [Option.bind_some]
      rw [show (10 + 50 : Nat) = 59 + 1 from rfl, L15_PredExact.j0]
      cases b with
      | true => rfl
      | false =>
        have hr := hbl rfl
        rw [if_neg (by simp)]
        unfold keep_TwinInts.f keep_TwinRow.f
        rw [if_pos (by simp; omega), if_pos (by simp; omega)]
        simp only [Option.bind_some, List.nil_append]
        have e1 : pred_Check.f 59 p0 p1 p2 v0 v1 v2 types = some (checkS p0 p1 p2 v types) := pcheck_eq 58 p0 p1 p2 v types
        have e2 : R14_Pred.f 59 p0 p1 p2 v0 v1 v2 types = some (checkS p0 p1 p2 v types) := rpred_eq 56 p0 p1 p2 v types (by omega)
        have e3 : pred_Holds.f 59 p0 p1 p2 v0 v1 v2 r = some (holdsS p0 p1 p2 v r) := holds_eq 54 p0 p1 p2 v r
        have e4 : R14_Holds.f p0 p1 p2 v0 v1 v2 r = some (holdsS p0 p1 p2 v r) := rholds_eq p0 p1 p2 v r (by omega)
        have e5 : keep_Ints.f 59 types types = some true := by
          unfold keep_Ints.f
          rw [if_pos rfl]
          exact ints_self types (by omega) types.length 59 0 (by omega) (by omega) (by omega) (by omega)
        have e6 : keep_Row.f 59 r r = some true := by
          unfold keep_Row.f
          rw [if_pos rfl]
          exact row_self r (by omega) r.length 59 0 (by omega) (by omega) (by omega) (by omega)
        have e7 : L15_wakes.f 59 = some true := wakes_eq 54
        rw [e1, e2, e3, e4, e5, e6, e7]
        simp

end Go.Proofs.Ytfddkjoklcbjeaa.Pure
