import Derived.Test.YtfddkjoklcbjeaaB14
import Derived.Test.YtfddkjoklcbjeaaOpen
set_option linter.unusedVariables false
set_option linter.unusedSimpArgs false
namespace Go.Proofs.Ytfddkjoklcbjeaa.B
open Go.RowKit Go.Proofs.Ytfddkjoklcbjeaa.Open Go.Proofs.YtfddkjoklcbjeaaW.PrintWords Go.Proofs.YtfddkjoklcbjeaaW.PrintLast
/-- THE PURE STATEMENT of L15_PredBent. -/
def L15_PredBent.Pure : Prop := ∀ (l0 : List Int) (a1 : Int) (a2 : Int), (gList (gInt .i64)) l0 → (gInt .i64) a1 → (gInt .i64) a2 → ∃ k, L15_PredBent.f k l0 a1 a2 = some true
end Go.Proofs.Ytfddkjoklcbjeaa.B
