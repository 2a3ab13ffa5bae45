/-
  No cell of these rows narrows 'for every input' (looked for: loops, veiled, ifaces, maps, wideKeys, modest, calm, conditions, laid).
  DERIVED. THE GIVEN ROWS OF THIS SEAT. 4 by the template 'for every input the law returns true; each argument reads behind the call as it read before'; 0 by the template 'total and deterministic' (their statements: YtcoecplkcajhgaaTotals.lean).
  GIVEN WITH THE SEED: the statements are not yours to turn. If you find one false, say at which input.
  Laid BY PROGRAM, IN A SANDBOX (cutbox-rows.mjs): the forced cells as the released guide's own fill.sh prints them over the translation 27c92f4bd8bb0605… (all of the seat's roots in one cut). By AI agents, Wed Nov 11 2026. No macro, syntax, notation, axiom, sorry.
-/
import Derived.Test.YtcoecplkcajhgaaChecked
import GoSem.Claim
import GoSem.ClaimJoined
import GoSem.ClaimMapViews
import Derived.JoinedTies
import Derived.KernelRfl
namespace Go.Proofs.Ytcoecplkcajhgaa
/- THE CELL 'sum', in the pinned program and in every row, IS THE sha256 OF THE DUMP (.gsa) THAT YtcoecplkcajhgaaProg.lean LOADS. Nothing in Lean hashes anything: it is a label: what it is worth is what the hold of that sum in a sandbox is worth. -/
noncomputable def Try.pinned : Pinned := { name := "ytcoecplkcajhgaa", sum := "27c92f4bd8bb0605ae493236f7b3033ba1d4b7a3627060c2e510817c65a78b53", checked := Try.checked }
namespace Rows
def none {H : Type} : Left H := { results := [], args := [] }

/-- 'raddlelaw12.BufAll': WHATEVER THE INPUT: true; the input reads as it did. -/
def bufAllSpec : ChangeSpec := { name := "bufAll", fn := fun _ => fun
  | [d1, d2] => { results := [.lit (.bool true)], args := [d1, d2] }
  | _ => none }
def bufAllRow : OpenClaim := { program := "ytcoecplkcajhgaa", sum := "27c92f4bd8bb0605ae493236f7b3033ba1d4b7a3627060c2e510817c65a78b53", func := "raddle/raddlelaw12.BufAll", spec := "bufAll", inPlace := ["slices.overlaps[raddle/api.Op]"], unfollowed := true, recurses := true, apart := false }
def BufAllSaid : Prop := bufAllRow.holds Try.pinned (OpenSpec.ofChange bufAllSpec)

/-- ITS FALSE NEIGHBOUR: 'it returns false'. Refute it at one input. -/
def bufAllWrong : ChangeSpec := { name := "bufAll", fn := fun _ => fun
  | [d1, d2] => { results := [.lit (.bool false)], args := [d1, d2] }
  | _ => none }
def BufAllWrongFalsely : Prop := bufAllRow.holds Try.pinned (OpenSpec.ofChange bufAllWrong)

/-- 'raddlelaw12.BufBack': WHATEVER THE INPUT: true; the input reads as it did. -/
def bufBackSpec : ChangeSpec := { name := "bufBack", fn := fun _ => fun
  | [d1, d2, d3] => { results := [.lit (.bool true)], args := [d1, d2, d3] }
  | _ => none }
def bufBackRow : OpenClaim := { program := "ytcoecplkcajhgaa", sum := "27c92f4bd8bb0605ae493236f7b3033ba1d4b7a3627060c2e510817c65a78b53", func := "raddle/raddlelaw12.BufBack", spec := "bufBack", inPlace := ["slices.overlaps[raddle/api.Op]"], unfollowed := true, recurses := true, apart := false }
def BufBackSaid : Prop := bufBackRow.holds Try.pinned (OpenSpec.ofChange bufBackSpec)

/-- ITS FALSE NEIGHBOUR: 'it returns false'. Refute it at one input. -/
def bufBackWrong : ChangeSpec := { name := "bufBack", fn := fun _ => fun
  | [d1, d2, d3] => { results := [.lit (.bool false)], args := [d1, d2, d3] }
  | _ => none }
def BufBackWrongFalsely : Prop := bufBackRow.holds Try.pinned (OpenSpec.ofChange bufBackWrong)

/-- 'raddlelaw12.BufFull': WHATEVER THE INPUT: true; the input reads as it did. -/
def bufFullSpec : ChangeSpec := { name := "bufFull", fn := fun _ => fun
  | [d1, d2] => { results := [.lit (.bool true)], args := [d1, d2] }
  | _ => none }
def bufFullRow : OpenClaim := { program := "ytcoecplkcajhgaa", sum := "27c92f4bd8bb0605ae493236f7b3033ba1d4b7a3627060c2e510817c65a78b53", func := "raddle/raddlelaw12.BufFull", spec := "bufFull", inPlace := ["slices.overlaps[raddle/api.Op]"], unfollowed := true, recurses := true, apart := false }
def BufFullSaid : Prop := bufFullRow.holds Try.pinned (OpenSpec.ofChange bufFullSpec)

/-- ITS FALSE NEIGHBOUR: 'it returns false'. Refute it at one input. -/
def bufFullWrong : ChangeSpec := { name := "bufFull", fn := fun _ => fun
  | [d1, d2] => { results := [.lit (.bool false)], args := [d1, d2] }
  | _ => none }
def BufFullWrongFalsely : Prop := bufFullRow.holds Try.pinned (OpenSpec.ofChange bufFullWrong)

/-- 'raddlelaw12.BufNeeds': WHATEVER THE INPUT: true; the input reads as it did. -/
def bufNeedsSpec : ChangeSpec := { name := "bufNeeds", fn := fun _ => fun
  | [d] => { results := [.lit (.bool true)], args := [d] }
  | _ => none }
def bufNeedsRow : OpenClaim := { program := "ytcoecplkcajhgaa", sum := "27c92f4bd8bb0605ae493236f7b3033ba1d4b7a3627060c2e510817c65a78b53", func := "raddle/raddlelaw12.BufNeeds", spec := "bufNeeds", inPlace := ["slices.overlaps[raddle/api.Op]"], unfollowed := true, recurses := true, apart := false }
def BufNeedsSaid : Prop := bufNeedsRow.holds Try.pinned (OpenSpec.ofChange bufNeedsSpec)

/-- ITS FALSE NEIGHBOUR: 'it returns false'. Refute it at one input. -/
def bufNeedsWrong : ChangeSpec := { name := "bufNeeds", fn := fun _ => fun
  | [d] => { results := [.lit (.bool false)], args := [d] }
  | _ => none }
def BufNeedsWrongFalsely : Prop := bufNeedsRow.holds Try.pinned (OpenSpec.ofChange bufNeedsWrong)

/- THE SECOND FORM. 'bulk': how many values and letters a reading holds, each counted each time it is reached (what is shared counts as often as it is met; a slice's spare places count too). A statement '..UptoSaid' is the law's where the arguments, and the package variables that the reading takes, are together of bulk at most 1048576: NARROWER than '..Said'. Prove '..Said' where nothing that the law and all that it calls make is longer than what came in: it says more and counts as full. Else prove '..UptoSaid'. A law counts once. -/
mutual
def uptoBulk {H : Type} : DataW H → Nat
  | .lit (.string bytes) => bytes.length + 1
  | .lit _ => 1
  | .nil => 1
  | .ptr d => uptoBulk d + 1
  | .slice elems spare => uptoBulkAll elems + uptoBulkAll spare + 1
  | .agg parts => uptoBulkAll parts + 1
  | .iface _ d => uptoBulk d + 1
  | .map entries => uptoBulkEntries entries + 1
  | .held _ => 1
def uptoBulkAll {H : Type} : List (DataW H) → Nat
  | [] => 0
  | d :: r => uptoBulk d + uptoBulkAll r
def uptoBulkEntries {H : Type} : List (Lit × DataW H) → Nat
  | [] => 0
  | x :: r => uptoBulkEntry x + uptoBulkEntries r
def uptoBulkEntry {H : Type} : Lit × DataW H → Nat
  | (.string bytes, d) => bytes.length + uptoBulk d + 1
  | (_, d) => uptoBulk d + 1
 end
def uptoSmall : (H : Type) → List (DataW H) → Bool := fun _ ds => decide (uptoBulkAll ds ≤ 1048576)
def OpenSpec.upto (s : _root_.Go.ChangeSpec) : _root_.Go.OpenSpec := { _root_.Go.OpenSpec.ofChange s with cond := some uptoSmall }

/-- 'raddlelaw12.BufAll', WHERE WHAT IT READS IS OF BULK AT MOST 1048576: true; the input reads as it did. -/
def bufAllUptoRow : OpenClaim := { program := "ytcoecplkcajhgaa", sum := "27c92f4bd8bb0605ae493236f7b3033ba1d4b7a3627060c2e510817c65a78b53", func := "raddle/raddlelaw12.BufAll", spec := "bufAll", inPlace := ["slices.overlaps[raddle/api.Op]"], unfollowed := true, recurses := true, apart := false, narrowed := true }
def BufAllUptoSaid : Prop := bufAllUptoRow.holds Try.pinned (OpenSpec.upto bufAllSpec)

/-- 'raddlelaw12.BufBack', WHERE WHAT IT READS IS OF BULK AT MOST 1048576: true; the input reads as it did. -/
def bufBackUptoRow : OpenClaim := { program := "ytcoecplkcajhgaa", sum := "27c92f4bd8bb0605ae493236f7b3033ba1d4b7a3627060c2e510817c65a78b53", func := "raddle/raddlelaw12.BufBack", spec := "bufBack", inPlace := ["slices.overlaps[raddle/api.Op]"], unfollowed := true, recurses := true, apart := false, narrowed := true }
def BufBackUptoSaid : Prop := bufBackUptoRow.holds Try.pinned (OpenSpec.upto bufBackSpec)

/-- 'raddlelaw12.BufFull', WHERE WHAT IT READS IS OF BULK AT MOST 1048576: true; the input reads as it did. -/
def bufFullUptoRow : OpenClaim := { program := "ytcoecplkcajhgaa", sum := "27c92f4bd8bb0605ae493236f7b3033ba1d4b7a3627060c2e510817c65a78b53", func := "raddle/raddlelaw12.BufFull", spec := "bufFull", inPlace := ["slices.overlaps[raddle/api.Op]"], unfollowed := true, recurses := true, apart := false, narrowed := true }
def BufFullUptoSaid : Prop := bufFullUptoRow.holds Try.pinned (OpenSpec.upto bufFullSpec)

/-- 'raddlelaw12.BufNeeds', WHERE WHAT IT READS IS OF BULK AT MOST 1048576: true; the input reads as it did. -/
def bufNeedsUptoRow : OpenClaim := { program := "ytcoecplkcajhgaa", sum := "27c92f4bd8bb0605ae493236f7b3033ba1d4b7a3627060c2e510817c65a78b53", func := "raddle/raddlelaw12.BufNeeds", spec := "bufNeeds", inPlace := ["slices.overlaps[raddle/api.Op]"], unfollowed := true, recurses := true, apart := false, narrowed := true }
def BufNeedsUptoSaid : Prop := bufNeedsUptoRow.holds Try.pinned (OpenSpec.upto bufNeedsSpec)

end Rows
end Go.Proofs.Ytcoecplkcajhgaa
