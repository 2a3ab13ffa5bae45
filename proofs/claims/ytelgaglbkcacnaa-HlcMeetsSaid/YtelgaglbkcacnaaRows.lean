/-
  No cell of these rows narrows 'for every input' (looked for: loops, veiled, ifaces, maps, wideKeys, modest, calm, conditions, laid).
  DERIVED. THE GIVEN ROWS OF THIS SEAT. 6 by the template 'for every input the law returns true; each argument reads behind the call as it read before'; 0 by the template 'total and deterministic' (their statements: YtelgaglbkcacnaaTotals.lean).
  GIVEN WITH THE SEED: the statements are not yours to turn. If you find one false, say at which input.
  Laid BY PROGRAM, IN A SANDBOX (cutbox-rows.mjs): the forced cells as the released guide's own fill.sh prints them over the translation fd8eaf406c4c515d… (all of the seat's roots in one cut). By AI agents, Wed Nov 11 2026. No macro, syntax, notation, axiom, sorry.
-/
import Derived.Test.YtelgaglbkcacnaaChecked
import GoSem.Claim
import GoSem.ClaimJoined
import GoSem.ClaimMapViews
import Derived.JoinedTies
import Derived.KernelRfl
namespace Go.Proofs.Ytelgaglbkcacnaa
/- THE CELL 'sum', in the pinned program and in every row, IS THE sha256 OF THE DUMP (.gsa) THAT YtelgaglbkcacnaaProg.lean LOADS. Nothing in Lean hashes anything: it is a label: what it is worth is what the hold of that sum in a sandbox is worth. -/
noncomputable def Try.pinned : Pinned := { name := "ytelgaglbkcacnaa", sum := "fd8eaf406c4c515df102875fd4f6de739bd2fa5e118b7835d0509b35b40bb0d0", checked := Try.checked }
namespace Rows
def none {H : Type} : Left H := { results := [], args := [] }

/-- 'raddlelaw06.HlcChains': WHATEVER THE INPUT: true; the input reads as it did. -/
def hlcChainsSpec : ChangeSpec := { name := "hlcChains", fn := fun _ => fun
  | [d1, d2] => { results := [.lit (.bool true)], args := [d1, d2] }
  | _ => none }
def hlcChainsRow : OpenClaim := { program := "ytelgaglbkcacnaa", sum := "fd8eaf406c4c515df102875fd4f6de739bd2fa5e118b7835d0509b35b40bb0d0", func := "raddle/raddlelaw06.HlcChains", spec := "hlcChains", apart := false }
def HlcChainsSaid : Prop := hlcChainsRow.holds Try.pinned (OpenSpec.ofChange hlcChainsSpec)

/-- ITS FALSE NEIGHBOUR: 'it returns false'. Refute it at one input. -/
def hlcChainsWrong : ChangeSpec := { name := "hlcChains", fn := fun _ => fun
  | [d1, d2] => { results := [.lit (.bool false)], args := [d1, d2] }
  | _ => none }
def HlcChainsWrongFalsely : Prop := hlcChainsRow.holds Try.pinned (OpenSpec.ofChange hlcChainsWrong)

/-- 'raddlelaw06.HlcWalls': WHATEVER THE INPUT: true; the input reads as it did. -/
def hlcWallsSpec : ChangeSpec := { name := "hlcWalls", fn := fun _ => fun
  | [d1, d2, d3] => { results := [.lit (.bool true)], args := [d1, d2, d3] }
  | _ => none }
def hlcWallsRow : OpenClaim := { program := "ytelgaglbkcacnaa", sum := "fd8eaf406c4c515df102875fd4f6de739bd2fa5e118b7835d0509b35b40bb0d0", func := "raddle/raddlelaw06.HlcWalls", spec := "hlcWalls", apart := false }
def HlcWallsSaid : Prop := hlcWallsRow.holds Try.pinned (OpenSpec.ofChange hlcWallsSpec)

/-- ITS FALSE NEIGHBOUR: 'it returns false'. Refute it at one input. -/
def hlcWallsWrong : ChangeSpec := { name := "hlcWalls", fn := fun _ => fun
  | [d1, d2, d3] => { results := [.lit (.bool false)], args := [d1, d2, d3] }
  | _ => none }
def HlcWallsWrongFalsely : Prop := hlcWallsRow.holds Try.pinned (OpenSpec.ofChange hlcWallsWrong)

/-- 'raddlelaw06.HlcExact': WHATEVER THE INPUT: true; the input reads as it did. -/
def hlcExactSpec : ChangeSpec := { name := "hlcExact", fn := fun _ => fun
  | [d1, d2, d3, d4] => { results := [.lit (.bool true)], args := [d1, d2, d3, d4] }
  | _ => none }
def hlcExactRow : OpenClaim := { program := "ytelgaglbkcacnaa", sum := "fd8eaf406c4c515df102875fd4f6de739bd2fa5e118b7835d0509b35b40bb0d0", func := "raddle/raddlelaw06.HlcExact", spec := "hlcExact", apart := false }
def HlcExactSaid : Prop := hlcExactRow.holds Try.pinned (OpenSpec.ofChange hlcExactSpec)

/-- ITS FALSE NEIGHBOUR: 'it returns false'. Refute it at one input. -/
def hlcExactWrong : ChangeSpec := { name := "hlcExact", fn := fun _ => fun
  | [d1, d2, d3, d4] => { results := [.lit (.bool false)], args := [d1, d2, d3, d4] }
  | _ => none }
def HlcExactWrongFalsely : Prop := hlcExactRow.holds Try.pinned (OpenSpec.ofChange hlcExactWrong)

/-- 'raddlelaw06.HlcRises': WHATEVER THE INPUT: true; the input reads as it did. -/
def hlcRisesSpec : ChangeSpec := { name := "hlcRises", fn := fun _ => fun
  | [d1, d2, d3, d4, d5] => { results := [.lit (.bool true)], args := [d1, d2, d3, d4, d5] }
  | _ => none }
def hlcRisesRow : OpenClaim := { program := "ytelgaglbkcacnaa", sum := "fd8eaf406c4c515df102875fd4f6de739bd2fa5e118b7835d0509b35b40bb0d0", func := "raddle/raddlelaw06.HlcRises", spec := "hlcRises", apart := false }
def HlcRisesSaid : Prop := hlcRisesRow.holds Try.pinned (OpenSpec.ofChange hlcRisesSpec)

/-- ITS FALSE NEIGHBOUR: 'it returns false'. Refute it at one input. -/
def hlcRisesWrong : ChangeSpec := { name := "hlcRises", fn := fun _ => fun
  | [d1, d2, d3, d4, d5] => { results := [.lit (.bool false)], args := [d1, d2, d3, d4, d5] }
  | _ => none }
def HlcRisesWrongFalsely : Prop := hlcRisesRow.holds Try.pinned (OpenSpec.ofChange hlcRisesWrong)

/-- 'raddlelaw06.HlcLater': WHATEVER THE INPUT: true; the input reads as it did. -/
def hlcLaterSpec : ChangeSpec := { name := "hlcLater", fn := fun _ => fun
  | [d1, d2] => { results := [.lit (.bool true)], args := [d1, d2] }
  | _ => none }
def hlcLaterRow : OpenClaim := { program := "ytelgaglbkcacnaa", sum := "fd8eaf406c4c515df102875fd4f6de739bd2fa5e118b7835d0509b35b40bb0d0", func := "raddle/raddlelaw06.HlcLater", spec := "hlcLater", apart := false }
def HlcLaterSaid : Prop := hlcLaterRow.holds Try.pinned (OpenSpec.ofChange hlcLaterSpec)

/-- ITS FALSE NEIGHBOUR: 'it returns false'. Refute it at one input. -/
def hlcLaterWrong : ChangeSpec := { name := "hlcLater", fn := fun _ => fun
  | [d1, d2] => { results := [.lit (.bool false)], args := [d1, d2] }
  | _ => none }
def HlcLaterWrongFalsely : Prop := hlcLaterRow.holds Try.pinned (OpenSpec.ofChange hlcLaterWrong)

/-- 'raddlelaw06.HlcMeets': WHATEVER THE INPUT: true; the input reads as it did. -/
def hlcMeetsSpec : ChangeSpec := { name := "hlcMeets", fn := fun _ => fun
  | [d1, d2] => { results := [.lit (.bool true)], args := [d1, d2] }
  | _ => none }
def hlcMeetsRow : OpenClaim := { program := "ytelgaglbkcacnaa", sum := "fd8eaf406c4c515df102875fd4f6de739bd2fa5e118b7835d0509b35b40bb0d0", func := "raddle/raddlelaw06.HlcMeets", spec := "hlcMeets", apart := false }
def HlcMeetsSaid : Prop := hlcMeetsRow.holds Try.pinned (OpenSpec.ofChange hlcMeetsSpec)

/-- ITS FALSE NEIGHBOUR: 'it returns false'. Refute it at one input. -/
def hlcMeetsWrong : ChangeSpec := { name := "hlcMeets", fn := fun _ => fun
  | [d1, d2] => { results := [.lit (.bool false)], args := [d1, d2] }
  | _ => none }
def HlcMeetsWrongFalsely : Prop := hlcMeetsRow.holds Try.pinned (OpenSpec.ofChange hlcMeetsWrong)

/- THE SECOND FORM. 'bulk': how many values and letters a reading holds, each counted each time it is reached (what is shared counts as often as it is met; a slice's spare places count too). A statement '..UptoSaid' is the law's where the arguments, and the package variables that the reading takes, are together of bulk at most 1048576: NARROWER than '..Said'. Prove '..Said' where nothing that the law and all that it calls make is longer than what came in: it says more and counts as full. Else prove '..UptoSaid'. A law counts once. -/
mutual
def uptoBulk {H : Type} : DataW H → Nat
  | .lit (.string bytes) => bytes.length + 1
  | .lit _ => 1
  | .nil => 1
  | .ptr d => uptoBulk d + 1
  | .slice elems spare => uptoBulkAll elems + uptoBulkAll spare + 1
  | .agg parts => uptoBulkAll parts + 1
  | .iface _ d => uptoBulk d + 1
  | .map entries => uptoBulkEntries entries + 1
  | .held _ => 1
def uptoBulkAll {H : Type} : List (DataW H) → Nat
  | [] => 0
  | d :: r => uptoBulk d + uptoBulkAll r
def uptoBulkEntries {H : Type} : List (Lit × DataW H) → Nat
  | [] => 0
  | x :: r => uptoBulkEntry x + uptoBulkEntries r
def uptoBulkEntry {H : Type} : Lit × DataW H → Nat
  | (.string bytes, d) => bytes.length + uptoBulk d + 1
  | (_, d) => uptoBulk d + 1
 end
def uptoSmall : (H : Type) → List (DataW H) → Bool := fun _ ds => decide (uptoBulkAll ds ≤ 1048576)
def OpenSpec.upto (s : _root_.Go.ChangeSpec) : _root_.Go.OpenSpec := { _root_.Go.OpenSpec.ofChange s with cond := some uptoSmall }

/-- 'raddlelaw06.HlcChains', WHERE WHAT IT READS IS OF BULK AT MOST 1048576: true; the input reads as it did. -/
def hlcChainsUptoRow : OpenClaim := { program := "ytelgaglbkcacnaa", sum := "fd8eaf406c4c515df102875fd4f6de739bd2fa5e118b7835d0509b35b40bb0d0", func := "raddle/raddlelaw06.HlcChains", spec := "hlcChains", apart := false, narrowed := true }
def HlcChainsUptoSaid : Prop := hlcChainsUptoRow.holds Try.pinned (OpenSpec.upto hlcChainsSpec)

/-- 'raddlelaw06.HlcWalls', WHERE WHAT IT READS IS OF BULK AT MOST 1048576: true; the input reads as it did. -/
def hlcWallsUptoRow : OpenClaim := { program := "ytelgaglbkcacnaa", sum := "fd8eaf406c4c515df102875fd4f6de739bd2fa5e118b7835d0509b35b40bb0d0", func := "raddle/raddlelaw06.HlcWalls", spec := "hlcWalls", apart := false, narrowed := true }
def HlcWallsUptoSaid : Prop := hlcWallsUptoRow.holds Try.pinned (OpenSpec.upto hlcWallsSpec)

/-- 'raddlelaw06.HlcExact', WHERE WHAT IT READS IS OF BULK AT MOST 1048576: true; the input reads as it did. -/
def hlcExactUptoRow : OpenClaim := { program := "ytelgaglbkcacnaa", sum := "fd8eaf406c4c515df102875fd4f6de739bd2fa5e118b7835d0509b35b40bb0d0", func := "raddle/raddlelaw06.HlcExact", spec := "hlcExact", apart := false, narrowed := true }
def HlcExactUptoSaid : Prop := hlcExactUptoRow.holds Try.pinned (OpenSpec.upto hlcExactSpec)

/-- 'raddlelaw06.HlcRises', WHERE WHAT IT READS IS OF BULK AT MOST 1048576: true; the input reads as it did. -/
def hlcRisesUptoRow : OpenClaim := { program := "ytelgaglbkcacnaa", sum := "fd8eaf406c4c515df102875fd4f6de739bd2fa5e118b7835d0509b35b40bb0d0", func := "raddle/raddlelaw06.HlcRises", spec := "hlcRises", apart := false, narrowed := true }
def HlcRisesUptoSaid : Prop := hlcRisesUptoRow.holds Try.pinned (OpenSpec.upto hlcRisesSpec)

/-- 'raddlelaw06.HlcLater', WHERE WHAT IT READS IS OF BULK AT MOST 1048576: true; the input reads as it did. -/
def hlcLaterUptoRow : OpenClaim := { program := "ytelgaglbkcacnaa", sum := "fd8eaf406c4c515df102875fd4f6de739bd2fa5e118b7835d0509b35b40bb0d0", func := "raddle/raddlelaw06.HlcLater", spec := "hlcLater", apart := false, narrowed := true }
def HlcLaterUptoSaid : Prop := hlcLaterUptoRow.holds Try.pinned (OpenSpec.upto hlcLaterSpec)

/-- 'raddlelaw06.HlcMeets', WHERE WHAT IT READS IS OF BULK AT MOST 1048576: true; the input reads as it did. -/
def hlcMeetsUptoRow : OpenClaim := { program := "ytelgaglbkcacnaa", sum := "fd8eaf406c4c515df102875fd4f6de739bd2fa5e118b7835d0509b35b40bb0d0", func := "raddle/raddlelaw06.HlcMeets", spec := "hlcMeets", apart := false, narrowed := true }
def HlcMeetsUptoSaid : Prop := hlcMeetsUptoRow.holds Try.pinned (OpenSpec.upto hlcMeetsSpec)

end Rows
end Go.Proofs.Ytelgaglbkcacnaa
