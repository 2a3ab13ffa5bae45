/-
  No cell of these rows narrows 'for every input' (looked for: loops, veiled, ifaces, maps, wideKeys, modest, calm, conditions, laid).
  DERIVED. THE GIVEN ROWS OF THIS SEAT. 5 by the template 'for every input the law returns true; each argument reads behind the call as it read before'; 0 by the template 'total and deterministic' (their statements: YtcmonjmoapjpkaaTotals.lean).
  GIVEN WITH THE SEED: the statements are not yours to turn. If you find one false, say at which input.
  Laid BY PROGRAM, IN A SANDBOX (cutbox-rows.mjs): the forced cells as the released guide's own fill.sh prints them over the translation 5a8bb17dcd1cd7aa… (all of the seat's roots in one cut). By AI agents, Wed Nov 11 2026. No macro, syntax, notation, axiom, sorry.
-/
import Derived.Test.YtcmonjmoapjpkaaChecked
import GoSem.Claim
import GoSem.ClaimJoined
import GoSem.ClaimMapViews
import Derived.JoinedTies
import Derived.KernelRfl
namespace Go.Proofs.Ytcmonjmoapjpkaa
/- THE CELL 'sum', in the pinned program and in every row, IS THE sha256 OF THE DUMP (.gsa) THAT YtcmonjmoapjpkaaProg.lean LOADS. Nothing in Lean hashes anything: it is a label: what it is worth is what the hold of that sum in a sandbox is worth. -/
noncomputable def Try.pinned : Pinned := { name := "ytcmonjmoapjpkaa", sum := "5a8bb17dcd1cd7aa2d152da2907e77cf98a1e6738291bca2c5b3bb4ab597de8b", checked := Try.checked }
namespace Rows
def none {H : Type} : Left H := { results := [], args := [] }

/-- 'raddlelaw13.TabThere': WHATEVER THE INPUT: true; the input reads as it did. -/
def tabThereSpec : ChangeSpec := { name := "tabThere", fn := fun _ => fun
  | [d1, d2] => { results := [.lit (.bool true)], args := [d1, d2] }
  | _ => none }
def tabThereRow : OpenClaim := { program := "ytcmonjmoapjpkaa", sum := "5a8bb17dcd1cd7aa2d152da2907e77cf98a1e6738291bca2c5b3bb4ab597de8b", func := "raddle/raddlelaw13.TabThere", spec := "tabThere", inPlace := ["internal/bytealg.abigen_runtime_cmpstring", "slices.overlaps[raddle/api.Row]", "slices.overlaps[raddle/api.Dot]"], unfollowed := true, recurses := true, apart := false }
def TabThereSaid : Prop := tabThereRow.holds Try.pinned (OpenSpec.ofChange tabThereSpec)

/-- ITS FALSE NEIGHBOUR: 'it returns false'. Refute it at one input. -/
def tabThereWrong : ChangeSpec := { name := "tabThere", fn := fun _ => fun
  | [d1, d2] => { results := [.lit (.bool false)], args := [d1, d2] }
  | _ => none }
def TabThereWrongFalsely : Prop := tabThereRow.holds Try.pinned (OpenSpec.ofChange tabThereWrong)

/-- 'raddlelaw13.TabLatest': WHATEVER THE INPUT: true; the input reads as it did. -/
def tabLatestSpec : ChangeSpec := { name := "tabLatest", fn := fun _ => fun
  | [d1, d2] => { results := [.lit (.bool true)], args := [d1, d2] }
  | _ => none }
def tabLatestRow : OpenClaim := { program := "ytcmonjmoapjpkaa", sum := "5a8bb17dcd1cd7aa2d152da2907e77cf98a1e6738291bca2c5b3bb4ab597de8b", func := "raddle/raddlelaw13.TabLatest", spec := "tabLatest", inPlace := ["internal/bytealg.abigen_runtime_cmpstring", "slices.overlaps[raddle/api.Row]", "slices.overlaps[raddle/api.Dot]"], unfollowed := true, recurses := true, apart := false }
def TabLatestSaid : Prop := tabLatestRow.holds Try.pinned (OpenSpec.ofChange tabLatestSpec)

/-- ITS FALSE NEIGHBOUR: 'it returns false'. Refute it at one input. -/
def tabLatestWrong : ChangeSpec := { name := "tabLatest", fn := fun _ => fun
  | [d1, d2] => { results := [.lit (.bool false)], args := [d1, d2] }
  | _ => none }
def TabLatestWrongFalsely : Prop := tabLatestRow.holds Try.pinned (OpenSpec.ofChange tabLatestWrong)

/-- 'raddlelaw13.TabStays': WHATEVER THE INPUT: true; the input reads as it did. -/
def tabStaysSpec : ChangeSpec := { name := "tabStays", fn := fun _ => fun
  | [d1, d2, d3] => { results := [.lit (.bool true)], args := [d1, d2, d3] }
  | _ => none }
def tabStaysRow : OpenClaim := { program := "ytcmonjmoapjpkaa", sum := "5a8bb17dcd1cd7aa2d152da2907e77cf98a1e6738291bca2c5b3bb4ab597de8b", func := "raddle/raddlelaw13.TabStays", spec := "tabStays", inPlace := ["internal/bytealg.abigen_runtime_cmpstring", "slices.overlaps[raddle/api.Row]", "slices.overlaps[raddle/api.Dot]"], unfollowed := true, recurses := true, apart := false }
def TabStaysSaid : Prop := tabStaysRow.holds Try.pinned (OpenSpec.ofChange tabStaysSpec)

/-- ITS FALSE NEIGHBOUR: 'it returns false'. Refute it at one input. -/
def tabStaysWrong : ChangeSpec := { name := "tabStays", fn := fun _ => fun
  | [d1, d2, d3] => { results := [.lit (.bool false)], args := [d1, d2, d3] }
  | _ => none }
def TabStaysWrongFalsely : Prop := tabStaysRow.holds Try.pinned (OpenSpec.ofChange tabStaysWrong)

/-- 'raddlelaw13.TabKeys': WHATEVER THE INPUT: true; the input reads as it did. -/
def tabKeysSpec : ChangeSpec := { name := "tabKeys", fn := fun _ => fun
  | [d] => { results := [.lit (.bool true)], args := [d] }
  | _ => none }
def tabKeysRow : OpenClaim := { program := "ytcmonjmoapjpkaa", sum := "5a8bb17dcd1cd7aa2d152da2907e77cf98a1e6738291bca2c5b3bb4ab597de8b", func := "raddle/raddlelaw13.TabKeys", spec := "tabKeys", inPlace := ["internal/bytealg.abigen_runtime_cmpstring", "slices.overlaps[raddle/api.Row]", "slices.overlaps[raddle/api.Dot]"], unfollowed := true, recurses := true, apart := false }
def TabKeysSaid : Prop := tabKeysRow.holds Try.pinned (OpenSpec.ofChange tabKeysSpec)

/-- ITS FALSE NEIGHBOUR: 'it returns false'. Refute it at one input. -/
def tabKeysWrong : ChangeSpec := { name := "tabKeys", fn := fun _ => fun
  | [d] => { results := [.lit (.bool false)], args := [d] }
  | _ => none }
def TabKeysWrongFalsely : Prop := tabKeysRow.holds Try.pinned (OpenSpec.ofChange tabKeysWrong)

/-- 'raddlelaw13.TabRevives': WHATEVER THE INPUT: true; the input reads as it did. -/
def tabRevivesSpec : ChangeSpec := { name := "tabRevives", fn := fun _ => fun
  | [d1, d2, d3, d4] => { results := [.lit (.bool true)], args := [d1, d2, d3, d4] }
  | _ => none }
def tabRevivesRow : OpenClaim := { program := "ytcmonjmoapjpkaa", sum := "5a8bb17dcd1cd7aa2d152da2907e77cf98a1e6738291bca2c5b3bb4ab597de8b", func := "raddle/raddlelaw13.TabRevives", spec := "tabRevives", inPlace := ["internal/bytealg.abigen_runtime_cmpstring", "slices.overlaps[raddle/api.Row]", "slices.overlaps[raddle/api.Dot]"], unfollowed := true, recurses := true, apart := false }
def TabRevivesSaid : Prop := tabRevivesRow.holds Try.pinned (OpenSpec.ofChange tabRevivesSpec)

/-- ITS FALSE NEIGHBOUR: 'it returns false'. Refute it at one input. -/
def tabRevivesWrong : ChangeSpec := { name := "tabRevives", fn := fun _ => fun
  | [d1, d2, d3, d4] => { results := [.lit (.bool false)], args := [d1, d2, d3, d4] }
  | _ => none }
def TabRevivesWrongFalsely : Prop := tabRevivesRow.holds Try.pinned (OpenSpec.ofChange tabRevivesWrong)

/- THE SECOND FORM. 'bulk': how many values and letters a reading holds, each counted each time it is reached (what is shared counts as often as it is met; a slice's spare places count too). A statement '..UptoSaid' is the law's where the arguments, and the package variables that the reading takes, are together of bulk at most 1048576: NARROWER than '..Said'. Prove '..Said' where nothing that the law and all that it calls make is longer than what came in: it says more and counts as full. Else prove '..UptoSaid'. A law counts once. -/
mutual
def uptoBulk {H : Type} : DataW H → Nat
  | .lit (.string bytes) => bytes.length + 1
  | .lit _ => 1
  | .nil => 1
  | .ptr d => uptoBulk d + 1
  | .slice elems spare => uptoBulkAll elems + uptoBulkAll spare + 1
  | .agg parts => uptoBulkAll parts + 1
  | .iface _ d => uptoBulk d + 1
  | .map entries => uptoBulkEntries entries + 1
  | .held _ => 1
def uptoBulkAll {H : Type} : List (DataW H) → Nat
  | [] => 0
  | d :: r => uptoBulk d + uptoBulkAll r
def uptoBulkEntries {H : Type} : List (Lit × DataW H) → Nat
  | [] => 0
  | x :: r => uptoBulkEntry x + uptoBulkEntries r
def uptoBulkEntry {H : Type} : Lit × DataW H → Nat
  | (.string bytes, d) => bytes.length + uptoBulk d + 1
  | (_, d) => uptoBulk d + 1
 end
def uptoSmall : (H : Type) → List (DataW H) → Bool := fun _ ds => decide (uptoBulkAll ds ≤ 1048576)
def OpenSpec.upto (s : _root_.Go.ChangeSpec) : _root_.Go.OpenSpec := { _root_.Go.OpenSpec.ofChange s with cond := some uptoSmall }

/-- 'raddlelaw13.TabThere', WHERE WHAT IT READS IS OF BULK AT MOST 1048576: true; the input reads as it did. -/
def tabThereUptoRow : OpenClaim := { program := "ytcmonjmoapjpkaa", sum := "5a8bb17dcd1cd7aa2d152da2907e77cf98a1e6738291bca2c5b3bb4ab597de8b", func := "raddle/raddlelaw13.TabThere", spec := "tabThere", inPlace := ["internal/bytealg.abigen_runtime_cmpstring", "slices.overlaps[raddle/api.Row]", "slices.overlaps[raddle/api.Dot]"], unfollowed := true, recurses := true, apart := false, narrowed := true }
def TabThereUptoSaid : Prop := tabThereUptoRow.holds Try.pinned (OpenSpec.upto tabThereSpec)

/-- 'raddlelaw13.TabLatest', WHERE WHAT IT READS IS OF BULK AT MOST 1048576: true; the input reads as it did. -/
def tabLatestUptoRow : OpenClaim := { program := "ytcmonjmoapjpkaa", sum := "5a8bb17dcd1cd7aa2d152da2907e77cf98a1e6738291bca2c5b3bb4ab597de8b", func := "raddle/raddlelaw13.TabLatest", spec := "tabLatest", inPlace := ["internal/bytealg.abigen_runtime_cmpstring", "slices.overlaps[raddle/api.Row]", "slices.overlaps[raddle/api.Dot]"], unfollowed := true, recurses := true, apart := false, narrowed := true }
def TabLatestUptoSaid : Prop := tabLatestUptoRow.holds Try.pinned (OpenSpec.upto tabLatestSpec)

/-- 'raddlelaw13.TabStays', WHERE WHAT IT READS IS OF BULK AT MOST 1048576: true; the input reads as it did. -/
def tabStaysUptoRow : OpenClaim := { program := "ytcmonjmoapjpkaa", sum := "5a8bb17dcd1cd7aa2d152da2907e77cf98a1e6738291bca2c5b3bb4ab597de8b", func := "raddle/raddlelaw13.TabStays", spec := "tabStays", inPlace := ["internal/bytealg.abigen_runtime_cmpstring", "slices.overlaps[raddle/api.Row]", "slices.overlaps[raddle/api.Dot]"], unfollowed := true, recurses := true, apart := false, narrowed := true }
def TabStaysUptoSaid : Prop := tabStaysUptoRow.holds Try.pinned (OpenSpec.upto tabStaysSpec)

/-- 'raddlelaw13.TabKeys', WHERE WHAT IT READS IS OF BULK AT MOST 1048576: true; the input reads as it did. -/
def tabKeysUptoRow : OpenClaim := { program := "ytcmonjmoapjpkaa", sum := "5a8bb17dcd1cd7aa2d152da2907e77cf98a1e6738291bca2c5b3bb4ab597de8b", func := "raddle/raddlelaw13.TabKeys", spec := "tabKeys", inPlace := ["internal/bytealg.abigen_runtime_cmpstring", "slices.overlaps[raddle/api.Row]", "slices.overlaps[raddle/api.Dot]"], unfollowed := true, recurses := true, apart := false, narrowed := true }
def TabKeysUptoSaid : Prop := tabKeysUptoRow.holds Try.pinned (OpenSpec.upto tabKeysSpec)

/-- 'raddlelaw13.TabRevives', WHERE WHAT IT READS IS OF BULK AT MOST 1048576: true; the input reads as it did. -/
def tabRevivesUptoRow : OpenClaim := { program := "ytcmonjmoapjpkaa", sum := "5a8bb17dcd1cd7aa2d152da2907e77cf98a1e6738291bca2c5b3bb4ab597de8b", func := "raddle/raddlelaw13.TabRevives", spec := "tabRevives", inPlace := ["internal/bytealg.abigen_runtime_cmpstring", "slices.overlaps[raddle/api.Row]", "slices.overlaps[raddle/api.Dot]"], unfollowed := true, recurses := true, apart := false, narrowed := true }
def TabRevivesUptoSaid : Prop := tabRevivesUptoRow.holds Try.pinned (OpenSpec.upto tabRevivesSpec)

end Rows
end Go.Proofs.Ytcmonjmoapjpkaa
