/-
  No cell of these rows narrows 'for every input' (looked for: loops, veiled, ifaces, maps, wideKeys, modest, calm, conditions, laid).
  DERIVED. THE GIVEN ROWS OF THIS SEAT. 4 by the template 'for every input the law returns true; each argument reads behind the call as it read before'; 0 by the template 'total and deterministic' (their statements: YtfddkjoklcbjeaaTotals.lean).
  GIVEN WITH THE SEED: the statements are not yours to turn. If you find one false, say at which input.
  Laid BY PROGRAM, IN A SANDBOX (cutbox-rows.mjs): the forced cells as the released guide's own fill.sh prints them over the translation 8015a72a5a33efb4… (all of the seat's roots in one cut). By AI agents, Wed Nov 11 2026. No macro, syntax, notation, axiom, sorry.
-/
import Derived.Test.YtfddkjoklcbjeaaChecked
import GoSem.Claim
import GoSem.ClaimJoined
import GoSem.ClaimMapViews
import Derived.JoinedTies
import Derived.KernelRfl
namespace Go.Proofs.Ytfddkjoklcbjeaa
/- THE CELL 'sum', in the pinned program and in every row, IS THE sha256 OF THE DUMP (.gsa) THAT YtfddkjoklcbjeaaProg.lean LOADS. Nothing in Lean hashes anything: it is a label: what it is worth is what the hold of that sum in a sandbox is worth. -/
noncomputable def Try.pinned : Pinned := { name := "ytfddkjoklcbjeaa", sum := "8015a72a5a33efb4a5b891190480bc1f049e119b24dbe44174ddc21524e5a80a", checked := Try.checked }
namespace Rows
def none {H : Type} : Left H := { results := [], args := [] }

/-- 'raddlelaw15.PredExact': WHATEVER THE INPUT: true; the input reads as it did. -/
def predExactSpec : ChangeSpec := { name := "predExact", fn := fun _ => fun
  | [d1, d2, d3] => { results := [.lit (.bool true)], args := [d1, d2, d3] }
  | _ => none }
def predExactRow : OpenClaim := { program := "ytfddkjoklcbjeaa", sum := "8015a72a5a33efb4a5b891190480bc1f049e119b24dbe44174ddc21524e5a80a", func := "raddle/raddlelaw15.PredExact", spec := "predExact", apart := false }
def PredExactSaid : Prop := predExactRow.holds Try.pinned (OpenSpec.ofChange predExactSpec)

/-- ITS FALSE NEIGHBOUR: 'it returns false'. Refute it at one input. -/
def predExactWrong : ChangeSpec := { name := "predExact", fn := fun _ => fun
  | [d1, d2, d3] => { results := [.lit (.bool false)], args := [d1, d2, d3] }
  | _ => none }
def PredExactWrongFalsely : Prop := predExactRow.holds Try.pinned (OpenSpec.ofChange predExactWrong)

/-- 'raddlelaw15.PredThree': WHATEVER THE INPUT: true; the input reads as it did. -/
def predThreeSpec : ChangeSpec := { name := "predThree", fn := fun _ => fun
  | [d1, d2, d3, d4] => { results := [.lit (.bool true)], args := [d1, d2, d3, d4] }
  | _ => none }
def predThreeRow : OpenClaim := { program := "ytfddkjoklcbjeaa", sum := "8015a72a5a33efb4a5b891190480bc1f049e119b24dbe44174ddc21524e5a80a", func := "raddle/raddlelaw15.PredThree", spec := "predThree", apart := false }
def PredThreeSaid : Prop := predThreeRow.holds Try.pinned (OpenSpec.ofChange predThreeSpec)

/-- ITS FALSE NEIGHBOUR: 'it returns false'. Refute it at one input. -/
def predThreeWrong : ChangeSpec := { name := "predThree", fn := fun _ => fun
  | [d1, d2, d3, d4] => { results := [.lit (.bool false)], args := [d1, d2, d3, d4] }
  | _ => none }
def PredThreeWrongFalsely : Prop := predThreeRow.holds Try.pinned (OpenSpec.ofChange predThreeWrong)

/-- 'raddlelaw15.PredNulls': WHATEVER THE INPUT: true; the input reads as it did. -/
def predNullsSpec : ChangeSpec := { name := "predNulls", fn := fun _ => fun
  | [d1, d2, d3] => { results := [.lit (.bool true)], args := [d1, d2, d3] }
  | _ => none }
def predNullsRow : OpenClaim := { program := "ytfddkjoklcbjeaa", sum := "8015a72a5a33efb4a5b891190480bc1f049e119b24dbe44174ddc21524e5a80a", func := "raddle/raddlelaw15.PredNulls", spec := "predNulls", apart := false }
def PredNullsSaid : Prop := predNullsRow.holds Try.pinned (OpenSpec.ofChange predNullsSpec)

/-- ITS FALSE NEIGHBOUR: 'it returns false'. Refute it at one input. -/
def predNullsWrong : ChangeSpec := { name := "predNulls", fn := fun _ => fun
  | [d1, d2, d3] => { results := [.lit (.bool false)], args := [d1, d2, d3] }
  | _ => none }
def PredNullsWrongFalsely : Prop := predNullsRow.holds Try.pinned (OpenSpec.ofChange predNullsWrong)

/-- 'raddlelaw15.PredBent': WHATEVER THE INPUT: true; the input reads as it did. -/
def predBentSpec : ChangeSpec := { name := "predBent", fn := fun _ => fun
  | [d1, d2, d3] => { results := [.lit (.bool true)], args := [d1, d2, d3] }
  | _ => none }
def predBentRow : OpenClaim := { program := "ytfddkjoklcbjeaa", sum := "8015a72a5a33efb4a5b891190480bc1f049e119b24dbe44174ddc21524e5a80a", func := "raddle/raddlelaw15.PredBent", spec := "predBent", apart := false }
def PredBentSaid : Prop := predBentRow.holds Try.pinned (OpenSpec.ofChange predBentSpec)

/-- ITS FALSE NEIGHBOUR: 'it returns false'. Refute it at one input. -/
def predBentWrong : ChangeSpec := { name := "predBent", fn := fun _ => fun
  | [d1, d2, d3] => { results := [.lit (.bool false)], args := [d1, d2, d3] }
  | _ => none }
def PredBentWrongFalsely : Prop := predBentRow.holds Try.pinned (OpenSpec.ofChange predBentWrong)

/- THE SECOND FORM. 'bulk': how many values and letters a reading holds, each counted each time it is reached (what is shared counts as often as it is met; a slice's spare places count too). A statement '..UptoSaid' is the law's where the arguments, and the package variables that the reading takes, are together of bulk at most 1048576: NARROWER than '..Said'. Prove '..Said' where nothing that the law and all that it calls make is longer than what came in: it says more and counts as full. Else prove '..UptoSaid'. A law counts once. -/
mutual
def uptoBulk {H : Type} : DataW H → Nat
  | .lit (.string bytes) => bytes.length + 1
  | .lit _ => 1
  | .nil => 1
  | .ptr d => uptoBulk d + 1
  | .slice elems spare => uptoBulkAll elems + uptoBulkAll spare + 1
  | .agg parts => uptoBulkAll parts + 1
  | .iface _ d => uptoBulk d + 1
  | .map entries => uptoBulkEntries entries + 1
  | .held _ => 1
def uptoBulkAll {H : Type} : List (DataW H) → Nat
  | [] => 0
  | d :: r => uptoBulk d + uptoBulkAll r
def uptoBulkEntries {H : Type} : List (Lit × DataW H) → Nat
  | [] => 0
  | x :: r => uptoBulkEntry x + uptoBulkEntries r
def uptoBulkEntry {H : Type} : Lit × DataW H → Nat
  | (.string bytes, d) => bytes.length + uptoBulk d + 1
  | (_, d) => uptoBulk d + 1
 end
def uptoSmall : (H : Type) → List (DataW H) → Bool := fun _ ds => decide (uptoBulkAll ds ≤ 1048576)
def OpenSpec.upto (s : _root_.Go.ChangeSpec) : _root_.Go.OpenSpec := { _root_.Go.OpenSpec.ofChange s with cond := some uptoSmall }

/-- 'raddlelaw15.PredExact', WHERE WHAT IT READS IS OF BULK AT MOST 1048576: true; the input reads as it did. -/
def predExactUptoRow : OpenClaim := { program := "ytfddkjoklcbjeaa", sum := "8015a72a5a33efb4a5b891190480bc1f049e119b24dbe44174ddc21524e5a80a", func := "raddle/raddlelaw15.PredExact", spec := "predExact", apart := false, narrowed := true }
def PredExactUptoSaid : Prop := predExactUptoRow.holds Try.pinned (OpenSpec.upto predExactSpec)

/-- 'raddlelaw15.PredThree', WHERE WHAT IT READS IS OF BULK AT MOST 1048576: true; the input reads as it did. -/
def predThreeUptoRow : OpenClaim := { program := "ytfddkjoklcbjeaa", sum := "8015a72a5a33efb4a5b891190480bc1f049e119b24dbe44174ddc21524e5a80a", func := "raddle/raddlelaw15.PredThree", spec := "predThree", apart := false, narrowed := true }
def PredThreeUptoSaid : Prop := predThreeUptoRow.holds Try.pinned (OpenSpec.upto predThreeSpec)

/-- 'raddlelaw15.PredNulls', WHERE WHAT IT READS IS OF BULK AT MOST 1048576: true; the input reads as it did. -/
def predNullsUptoRow : OpenClaim := { program := "ytfddkjoklcbjeaa", sum := "8015a72a5a33efb4a5b891190480bc1f049e119b24dbe44174ddc21524e5a80a", func := "raddle/raddlelaw15.PredNulls", spec := "predNulls", apart := false, narrowed := true }
def PredNullsUptoSaid : Prop := predNullsUptoRow.holds Try.pinned (OpenSpec.upto predNullsSpec)

/-- 'raddlelaw15.PredBent', WHERE WHAT IT READS IS OF BULK AT MOST 1048576: true; the input reads as it did. -/
def predBentUptoRow : OpenClaim := { program := "ytfddkjoklcbjeaa", sum := "8015a72a5a33efb4a5b891190480bc1f049e119b24dbe44174ddc21524e5a80a", func := "raddle/raddlelaw15.PredBent", spec := "predBent", apart := false, narrowed := true }
def PredBentUptoSaid : Prop := predBentUptoRow.holds Try.pinned (OpenSpec.upto predBentSpec)

end Rows
end Go.Proofs.Ytfddkjoklcbjeaa
