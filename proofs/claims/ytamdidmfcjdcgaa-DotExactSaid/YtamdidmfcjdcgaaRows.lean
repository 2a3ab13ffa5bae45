/-
  No cell of these rows narrows 'for every input' (looked for: loops, veiled, ifaces, maps, wideKeys, modest, calm, conditions, laid).
  DERIVED. THE GIVEN ROWS OF THIS SEAT. 9 by the template 'for every input the law returns true; each argument reads behind the call as it read before'; 0 by the template 'total and deterministic' (their statements: YtamdidmfcjdcgaaTotals.lean).
  GIVEN WITH THE SEED: the statements are not yours to turn. If you find one false, say at which input.
  Laid BY PROGRAM, IN A SANDBOX (cutbox-rows.mjs): the forced cells as the released guide's own fill.sh prints them over the translation a162a14a59cf0e10… (all of the seat's roots in one cut). By AI agents, Wed Nov 11 2026. No macro, syntax, notation, axiom, sorry.
-/
import Derived.Test.YtamdidmfcjdcgaaChecked
import GoSem.Claim
import GoSem.ClaimJoined
import GoSem.ClaimMapViews
import Derived.JoinedTies
import Derived.KernelRfl
namespace Go.Proofs.Ytamdidmfcjdcgaa
/- THE CELL 'sum', in the pinned program and in every row, IS THE sha256 OF THE DUMP (.gsa) THAT YtamdidmfcjdcgaaProg.lean LOADS. Nothing in Lean hashes anything: it is a label: what it is worth is what the hold of that sum in a sandbox is worth. -/
noncomputable def Try.pinned : Pinned := { name := "ytamdidmfcjdcgaa", sum := "a162a14a59cf0e10de6849f9c05f27baa36651ffd14dab7cdfaf0e50fd54f49c", checked := Try.checked }
namespace Rows
def none {H : Type} : Left H := { results := [], args := [] }

/-- 'raddlelaw05.DotSteps': WHATEVER THE INPUT: true; the input reads as it did. -/
def dotStepsSpec : ChangeSpec := { name := "dotSteps", fn := fun _ => fun
  | [d1, d2, d3] => { results := [.lit (.bool true)], args := [d1, d2, d3] }
  | _ => none }
def dotStepsRow : OpenClaim := { program := "ytamdidmfcjdcgaa", sum := "a162a14a59cf0e10de6849f9c05f27baa36651ffd14dab7cdfaf0e50fd54f49c", func := "raddle/raddlelaw05.DotSteps", spec := "dotSteps", unfollowed := true, recurses := true, apart := false }
def DotStepsSaid : Prop := dotStepsRow.holds Try.pinned (OpenSpec.ofChange dotStepsSpec)

/-- ITS FALSE NEIGHBOUR: 'it returns false'. Refute it at one input. -/
def dotStepsWrong : ChangeSpec := { name := "dotSteps", fn := fun _ => fun
  | [d1, d2, d3] => { results := [.lit (.bool false)], args := [d1, d2, d3] }
  | _ => none }
def DotStepsWrongFalsely : Prop := dotStepsRow.holds Try.pinned (OpenSpec.ofChange dotStepsWrong)

/-- 'raddlelaw05.DotLeast': WHATEVER THE INPUT: true; the input reads as it did. -/
def dotLeastSpec : ChangeSpec := { name := "dotLeast", fn := fun _ => fun
  | [d1, d2] => { results := [.lit (.bool true)], args := [d1, d2] }
  | _ => none }
def dotLeastRow : OpenClaim := { program := "ytamdidmfcjdcgaa", sum := "a162a14a59cf0e10de6849f9c05f27baa36651ffd14dab7cdfaf0e50fd54f49c", func := "raddle/raddlelaw05.DotLeast", spec := "dotLeast", unfollowed := true, recurses := true, apart := false }
def DotLeastSaid : Prop := dotLeastRow.holds Try.pinned (OpenSpec.ofChange dotLeastSpec)

/-- ITS FALSE NEIGHBOUR: 'it returns false'. Refute it at one input. -/
def dotLeastWrong : ChangeSpec := { name := "dotLeast", fn := fun _ => fun
  | [d1, d2] => { results := [.lit (.bool false)], args := [d1, d2] }
  | _ => none }
def DotLeastWrongFalsely : Prop := dotLeastRow.holds Try.pinned (OpenSpec.ofChange dotLeastWrong)

/-- 'raddlelaw05.DotLattice': WHATEVER THE INPUT: true; the input reads as it did. -/
def dotLatticeSpec : ChangeSpec := { name := "dotLattice", fn := fun _ => fun
  | [d1, d2, d3, d4] => { results := [.lit (.bool true)], args := [d1, d2, d3, d4] }
  | _ => none }
def dotLatticeRow : OpenClaim := { program := "ytamdidmfcjdcgaa", sum := "a162a14a59cf0e10de6849f9c05f27baa36651ffd14dab7cdfaf0e50fd54f49c", func := "raddle/raddlelaw05.DotLattice", spec := "dotLattice", unfollowed := true, recurses := true, apart := false }
def DotLatticeSaid : Prop := dotLatticeRow.holds Try.pinned (OpenSpec.ofChange dotLatticeSpec)

/-- ITS FALSE NEIGHBOUR: 'it returns false'. Refute it at one input. -/
def dotLatticeWrong : ChangeSpec := { name := "dotLattice", fn := fun _ => fun
  | [d1, d2, d3, d4] => { results := [.lit (.bool false)], args := [d1, d2, d3, d4] }
  | _ => none }
def DotLatticeWrongFalsely : Prop := dotLatticeRow.holds Try.pinned (OpenSpec.ofChange dotLatticeWrong)

/-- 'raddlelaw05.DotLess': WHATEVER THE INPUT: true; the input reads as it did. -/
def dotLessSpec : ChangeSpec := { name := "dotLess", fn := fun _ => fun
  | [d1, d2, d3] => { results := [.lit (.bool true)], args := [d1, d2, d3] }
  | _ => none }
def dotLessRow : OpenClaim := { program := "ytamdidmfcjdcgaa", sum := "a162a14a59cf0e10de6849f9c05f27baa36651ffd14dab7cdfaf0e50fd54f49c", func := "raddle/raddlelaw05.DotLess", spec := "dotLess", unfollowed := true, recurses := true, apart := false }
def DotLessSaid : Prop := dotLessRow.holds Try.pinned (OpenSpec.ofChange dotLessSpec)

/-- ITS FALSE NEIGHBOUR: 'it returns false'. Refute it at one input. -/
def dotLessWrong : ChangeSpec := { name := "dotLess", fn := fun _ => fun
  | [d1, d2, d3] => { results := [.lit (.bool false)], args := [d1, d2, d3] }
  | _ => none }
def DotLessWrongFalsely : Prop := dotLessRow.holds Try.pinned (OpenSpec.ofChange dotLessWrong)

/-- 'raddlelaw05.DotExact': WHATEVER THE INPUT: true; the input reads as it did. -/
def dotExactSpec : ChangeSpec := { name := "dotExact", fn := fun _ => fun
  | [d1, d2, d3, d4, d5] => { results := [.lit (.bool true)], args := [d1, d2, d3, d4, d5] }
  | _ => none }
def dotExactRow : OpenClaim := { program := "ytamdidmfcjdcgaa", sum := "a162a14a59cf0e10de6849f9c05f27baa36651ffd14dab7cdfaf0e50fd54f49c", func := "raddle/raddlelaw05.DotExact", spec := "dotExact", unfollowed := true, recurses := true, apart := false }
def DotExactSaid : Prop := dotExactRow.holds Try.pinned (OpenSpec.ofChange dotExactSpec)

/-- ITS FALSE NEIGHBOUR: 'it returns false'. Refute it at one input. -/
def dotExactWrong : ChangeSpec := { name := "dotExact", fn := fun _ => fun
  | [d1, d2, d3, d4, d5] => { results := [.lit (.bool false)], args := [d1, d2, d3, d4, d5] }
  | _ => none }
def DotExactWrongFalsely : Prop := dotExactRow.holds Try.pinned (OpenSpec.ofChange dotExactWrong)

/-- 'raddlelaw11.MatExact': WHATEVER THE INPUT: true; the input reads as it did. -/
def matExactSpec : ChangeSpec := { name := "matExact", fn := fun _ => fun
  | [d1, d2, d3, d4, d5] => { results := [.lit (.bool true)], args := [d1, d2, d3, d4, d5] }
  | _ => none }
def matExactRow : OpenClaim := { program := "ytamdidmfcjdcgaa", sum := "a162a14a59cf0e10de6849f9c05f27baa36651ffd14dab7cdfaf0e50fd54f49c", func := "raddle/raddlelaw11.MatExact", spec := "matExact", unfollowed := true, recurses := true, apart := false }
def MatExactSaid : Prop := matExactRow.holds Try.pinned (OpenSpec.ofChange matExactSpec)

/-- ITS FALSE NEIGHBOUR: 'it returns false'. Refute it at one input. -/
def matExactWrong : ChangeSpec := { name := "matExact", fn := fun _ => fun
  | [d1, d2, d3, d4, d5] => { results := [.lit (.bool false)], args := [d1, d2, d3, d4, d5] }
  | _ => none }
def MatExactWrongFalsely : Prop := matExactRow.holds Try.pinned (OpenSpec.ofChange matExactWrong)

/-- 'raddlelaw11.MatAll': WHATEVER THE INPUT: true; the input reads as it did. -/
def matAllSpec : ChangeSpec := { name := "matAll", fn := fun _ => fun
  | [d1, d2] => { results := [.lit (.bool true)], args := [d1, d2] }
  | _ => none }
def matAllRow : OpenClaim := { program := "ytamdidmfcjdcgaa", sum := "a162a14a59cf0e10de6849f9c05f27baa36651ffd14dab7cdfaf0e50fd54f49c", func := "raddle/raddlelaw11.MatAll", spec := "matAll", unfollowed := true, recurses := true, apart := false }
def MatAllSaid : Prop := matAllRow.holds Try.pinned (OpenSpec.ofChange matAllSpec)

/-- ITS FALSE NEIGHBOUR: 'it returns false'. Refute it at one input. -/
def matAllWrong : ChangeSpec := { name := "matAll", fn := fun _ => fun
  | [d1, d2] => { results := [.lit (.bool false)], args := [d1, d2] }
  | _ => none }
def MatAllWrongFalsely : Prop := matAllRow.holds Try.pinned (OpenSpec.ofChange matAllWrong)

/-- 'raddlelaw11.MatLater': WHATEVER THE INPUT: true; the input reads as it did. -/
def matLaterSpec : ChangeSpec := { name := "matLater", fn := fun _ => fun
  | [d1, d2, d3, d4] => { results := [.lit (.bool true)], args := [d1, d2, d3, d4] }
  | _ => none }
def matLaterRow : OpenClaim := { program := "ytamdidmfcjdcgaa", sum := "a162a14a59cf0e10de6849f9c05f27baa36651ffd14dab7cdfaf0e50fd54f49c", func := "raddle/raddlelaw11.MatLater", spec := "matLater", unfollowed := true, recurses := true, apart := false }
def MatLaterSaid : Prop := matLaterRow.holds Try.pinned (OpenSpec.ofChange matLaterSpec)

/-- ITS FALSE NEIGHBOUR: 'it returns false'. Refute it at one input. -/
def matLaterWrong : ChangeSpec := { name := "matLater", fn := fun _ => fun
  | [d1, d2, d3, d4] => { results := [.lit (.bool false)], args := [d1, d2, d3, d4] }
  | _ => none }
def MatLaterWrongFalsely : Prop := matLaterRow.holds Try.pinned (OpenSpec.ofChange matLaterWrong)

/-- 'raddlelaw11.MatRises': WHATEVER THE INPUT: true; the input reads as it did. -/
def matRisesSpec : ChangeSpec := { name := "matRises", fn := fun _ => fun
  | [d1, d2, d3, d4] => { results := [.lit (.bool true)], args := [d1, d2, d3, d4] }
  | _ => none }
def matRisesRow : OpenClaim := { program := "ytamdidmfcjdcgaa", sum := "a162a14a59cf0e10de6849f9c05f27baa36651ffd14dab7cdfaf0e50fd54f49c", func := "raddle/raddlelaw11.MatRises", spec := "matRises", unfollowed := true, recurses := true, apart := false }
def MatRisesSaid : Prop := matRisesRow.holds Try.pinned (OpenSpec.ofChange matRisesSpec)

/-- ITS FALSE NEIGHBOUR: 'it returns false'. Refute it at one input. -/
def matRisesWrong : ChangeSpec := { name := "matRises", fn := fun _ => fun
  | [d1, d2, d3, d4] => { results := [.lit (.bool false)], args := [d1, d2, d3, d4] }
  | _ => none }
def MatRisesWrongFalsely : Prop := matRisesRow.holds Try.pinned (OpenSpec.ofChange matRisesWrong)

/- THE SECOND FORM. 'bulk': how many values and letters a reading holds, each counted each time it is reached (what is shared counts as often as it is met; a slice's spare places count too). A statement '..UptoSaid' is the law's where the arguments, and the package variables that the reading takes, are together of bulk at most 1048576: NARROWER than '..Said'. Prove '..Said' where nothing that the law and all that it calls make is longer than what came in: it says more and counts as full. Else prove '..UptoSaid'. A law counts once. -/
mutual
def uptoBulk {H : Type} : DataW H → Nat
  | .lit (.string bytes) => bytes.length + 1
  | .lit _ => 1
  | .nil => 1
  | .ptr d => uptoBulk d + 1
  | .slice elems spare => uptoBulkAll elems + uptoBulkAll spare + 1
  | .agg parts => uptoBulkAll parts + 1
  | .iface _ d => uptoBulk d + 1
  | .map entries => uptoBulkEntries entries + 1
  | .held _ => 1
def uptoBulkAll {H : Type} : List (DataW H) → Nat
  | [] => 0
  | d :: r => uptoBulk d + uptoBulkAll r
def uptoBulkEntries {H : Type} : List (Lit × DataW H) → Nat
  | [] => 0
  | x :: r => uptoBulkEntry x + uptoBulkEntries r
def uptoBulkEntry {H : Type} : Lit × DataW H → Nat
  | (.string bytes, d) => bytes.length + uptoBulk d + 1
  | (_, d) => uptoBulk d + 1
 end
def uptoSmall : (H : Type) → List (DataW H) → Bool := fun _ ds => decide (uptoBulkAll ds ≤ 1048576)
def OpenSpec.upto (s : _root_.Go.ChangeSpec) : _root_.Go.OpenSpec := { _root_.Go.OpenSpec.ofChange s with cond := some uptoSmall }

/-- 'raddlelaw05.DotSteps', WHERE WHAT IT READS IS OF BULK AT MOST 1048576: true; the input reads as it did. -/
def dotStepsUptoRow : OpenClaim := { program := "ytamdidmfcjdcgaa", sum := "a162a14a59cf0e10de6849f9c05f27baa36651ffd14dab7cdfaf0e50fd54f49c", func := "raddle/raddlelaw05.DotSteps", spec := "dotSteps", unfollowed := true, recurses := true, apart := false, narrowed := true }
def DotStepsUptoSaid : Prop := dotStepsUptoRow.holds Try.pinned (OpenSpec.upto dotStepsSpec)

/-- 'raddlelaw05.DotLeast', WHERE WHAT IT READS IS OF BULK AT MOST 1048576: true; the input reads as it did. -/
def dotLeastUptoRow : OpenClaim := { program := "ytamdidmfcjdcgaa", sum := "a162a14a59cf0e10de6849f9c05f27baa36651ffd14dab7cdfaf0e50fd54f49c", func := "raddle/raddlelaw05.DotLeast", spec := "dotLeast", unfollowed := true, recurses := true, apart := false, narrowed := true }
def DotLeastUptoSaid : Prop := dotLeastUptoRow.holds Try.pinned (OpenSpec.upto dotLeastSpec)

/-- 'raddlelaw05.DotLattice', WHERE WHAT IT READS IS OF BULK AT MOST 1048576: true; the input reads as it did. -/
def dotLatticeUptoRow : OpenClaim := { program := "ytamdidmfcjdcgaa", sum := "a162a14a59cf0e10de6849f9c05f27baa36651ffd14dab7cdfaf0e50fd54f49c", func := "raddle/raddlelaw05.DotLattice", spec := "dotLattice", unfollowed := true, recurses := true, apart := false, narrowed := true }
def DotLatticeUptoSaid : Prop := dotLatticeUptoRow.holds Try.pinned (OpenSpec.upto dotLatticeSpec)

/-- 'raddlelaw05.DotLess', WHERE WHAT IT READS IS OF BULK AT MOST 1048576: true; the input reads as it did. -/
def dotLessUptoRow : OpenClaim := { program := "ytamdidmfcjdcgaa", sum := "a162a14a59cf0e10de6849f9c05f27baa36651ffd14dab7cdfaf0e50fd54f49c", func := "raddle/raddlelaw05.DotLess", spec := "dotLess", unfollowed := true, recurses := true, apart := false, narrowed := true }
def DotLessUptoSaid : Prop := dotLessUptoRow.holds Try.pinned (OpenSpec.upto dotLessSpec)

/-- 'raddlelaw05.DotExact', WHERE WHAT IT READS IS OF BULK AT MOST 1048576: true; the input reads as it did. -/
def dotExactUptoRow : OpenClaim := { program := "ytamdidmfcjdcgaa", sum := "a162a14a59cf0e10de6849f9c05f27baa36651ffd14dab7cdfaf0e50fd54f49c", func := "raddle/raddlelaw05.DotExact", spec := "dotExact", unfollowed := true, recurses := true, apart := false, narrowed := true }
def DotExactUptoSaid : Prop := dotExactUptoRow.holds Try.pinned (OpenSpec.upto dotExactSpec)

/-- 'raddlelaw11.MatExact', WHERE WHAT IT READS IS OF BULK AT MOST 1048576: true; the input reads as it did. -/
def matExactUptoRow : OpenClaim := { program := "ytamdidmfcjdcgaa", sum := "a162a14a59cf0e10de6849f9c05f27baa36651ffd14dab7cdfaf0e50fd54f49c", func := "raddle/raddlelaw11.MatExact", spec := "matExact", unfollowed := true, recurses := true, apart := false, narrowed := true }
def MatExactUptoSaid : Prop := matExactUptoRow.holds Try.pinned (OpenSpec.upto matExactSpec)

/-- 'raddlelaw11.MatAll', WHERE WHAT IT READS IS OF BULK AT MOST 1048576: true; the input reads as it did. -/
def matAllUptoRow : OpenClaim := { program := "ytamdidmfcjdcgaa", sum := "a162a14a59cf0e10de6849f9c05f27baa36651ffd14dab7cdfaf0e50fd54f49c", func := "raddle/raddlelaw11.MatAll", spec := "matAll", unfollowed := true, recurses := true, apart := false, narrowed := true }
def MatAllUptoSaid : Prop := matAllUptoRow.holds Try.pinned (OpenSpec.upto matAllSpec)

/-- 'raddlelaw11.MatLater', WHERE WHAT IT READS IS OF BULK AT MOST 1048576: true; the input reads as it did. -/
def matLaterUptoRow : OpenClaim := { program := "ytamdidmfcjdcgaa", sum := "a162a14a59cf0e10de6849f9c05f27baa36651ffd14dab7cdfaf0e50fd54f49c", func := "raddle/raddlelaw11.MatLater", spec := "matLater", unfollowed := true, recurses := true, apart := false, narrowed := true }
def MatLaterUptoSaid : Prop := matLaterUptoRow.holds Try.pinned (OpenSpec.upto matLaterSpec)

/-- 'raddlelaw11.MatRises', WHERE WHAT IT READS IS OF BULK AT MOST 1048576: true; the input reads as it did. -/
def matRisesUptoRow : OpenClaim := { program := "ytamdidmfcjdcgaa", sum := "a162a14a59cf0e10de6849f9c05f27baa36651ffd14dab7cdfaf0e50fd54f49c", func := "raddle/raddlelaw11.MatRises", spec := "matRises", unfollowed := true, recurses := true, apart := false, narrowed := true }
def MatRisesUptoSaid : Prop := matRisesUptoRow.holds Try.pinned (OpenSpec.upto matRisesSpec)

end Rows
end Go.Proofs.Ytamdidmfcjdcgaa
