/-
  No cell of these rows narrows 'for every input' (looked for: loops, veiled, ifaces, maps, wideKeys, modest, calm, conditions, laid).
  DERIVED. THE GIVEN ROWS OF THIS SEAT. 4 by the template 'for every input the law returns true; each argument reads behind the call as it read before'; 0 by the template 'total and deterministic' (their statements: YtcmonjmoapjpkaaGreatTotals.lean).
  GIVEN WITH THE SEED: the statements are not yours to turn. If you find one false, say at which input.
  Laid BY PROGRAM, IN A SANDBOX (cutbox-rows.mjs): the forced cells as the released guide's own fill.sh prints them over the translation 5ecf8af788abde75… (all of the seat's roots in one cut). By AI agents, Wed Nov 11 2026. No macro, syntax, notation, axiom, sorry.
-/
import Derived.Test.YtcmonjmoapjpkaaGreatChecked
import GoSem.Claim
import GoSem.ClaimJoined
import GoSem.ClaimMapViews
import Derived.JoinedTies
import Derived.KernelRfl
namespace Go.Proofs.YtcmonjmoapjpkaaGreat
/- THE CELL 'sum', in the pinned program and in every row, IS THE sha256 OF THE DUMP (.gsa) THAT YtcmonjmoapjpkaaGreatProg.lean LOADS. Nothing in Lean hashes anything: it is a label: what it is worth is what the hold of that sum in a sandbox is worth. -/
noncomputable def Tryz.pinned : Pinned := { name := "ytcmonjmoapjpkaagreat", sum := "5ecf8af788abde75b67871b350708424c1a93ba3ae9b39565dfab919a94abeee", checked := Tryz.checked }
namespace Rows
def none {H : Type} : Left H := { results := [], args := [] }

/-- 'raddlelaw13.TabSeen': WHATEVER THE INPUT: true; the input reads as it did. -/
def tabSeenSpec : ChangeSpec := { name := "tabSeen", fn := fun _ => fun
  | [d1, d2, d3] => { results := [.lit (.bool true)], args := [d1, d2, d3] }
  | _ => none }
def tabSeenRow : OpenClaim := { program := "ytcmonjmoapjpkaagreat", sum := "5ecf8af788abde75b67871b350708424c1a93ba3ae9b39565dfab919a94abeee", func := "raddle/raddlelaw13.TabSeen", spec := "tabSeen", inPlace := ["internal/bytealg.abigen_runtime_cmpstring", "slices.overlaps[raddle/api.Row]", "slices.overlaps[raddle/api.Dot]"], unfollowed := true, recurses := true, apart := false }
def TabSeenSaid : Prop := tabSeenRow.holds Tryz.pinned (OpenSpec.ofChange tabSeenSpec)

/-- ITS FALSE NEIGHBOUR: 'it returns false'. Refute it at one input. -/
def tabSeenWrong : ChangeSpec := { name := "tabSeen", fn := fun _ => fun
  | [d1, d2, d3] => { results := [.lit (.bool false)], args := [d1, d2, d3] }
  | _ => none }
def TabSeenWrongFalsely : Prop := tabSeenRow.holds Tryz.pinned (OpenSpec.ofChange tabSeenWrong)

/-- 'raddlelaw13.TabSwaps': WHATEVER THE INPUT: true; the input reads as it did. -/
def tabSwapsSpec : ChangeSpec := { name := "tabSwaps", fn := fun _ => fun
  | [d1, d2, d3, d4] => { results := [.lit (.bool true)], args := [d1, d2, d3, d4] }
  | _ => none }
def tabSwapsRow : OpenClaim := { program := "ytcmonjmoapjpkaagreat", sum := "5ecf8af788abde75b67871b350708424c1a93ba3ae9b39565dfab919a94abeee", func := "raddle/raddlelaw13.TabSwaps", spec := "tabSwaps", inPlace := ["internal/bytealg.abigen_runtime_cmpstring", "slices.overlaps[raddle/api.Row]", "slices.overlaps[raddle/api.Dot]"], unfollowed := true, recurses := true, apart := false }
def TabSwapsSaid : Prop := tabSwapsRow.holds Tryz.pinned (OpenSpec.ofChange tabSwapsSpec)

/-- ITS FALSE NEIGHBOUR: 'it returns false'. Refute it at one input. -/
def tabSwapsWrong : ChangeSpec := { name := "tabSwaps", fn := fun _ => fun
  | [d1, d2, d3, d4] => { results := [.lit (.bool false)], args := [d1, d2, d3, d4] }
  | _ => none }
def TabSwapsWrongFalsely : Prop := tabSwapsRow.holds Tryz.pinned (OpenSpec.ofChange tabSwapsWrong)

/-- 'raddlelaw13.TabCompacts': WHATEVER THE INPUT: true; the input reads as it did. -/
def tabCompactsSpec : ChangeSpec := { name := "tabCompacts", fn := fun _ => fun
  | [d1, d2, d3] => { results := [.lit (.bool true)], args := [d1, d2, d3] }
  | _ => none }
def tabCompactsRow : OpenClaim := { program := "ytcmonjmoapjpkaagreat", sum := "5ecf8af788abde75b67871b350708424c1a93ba3ae9b39565dfab919a94abeee", func := "raddle/raddlelaw13.TabCompacts", spec := "tabCompacts", inPlace := ["internal/bytealg.abigen_runtime_cmpstring", "slices.overlaps[raddle/api.Row]", "slices.overlaps[raddle/api.Dot]"], unfollowed := true, recurses := true, apart := false }
def TabCompactsSaid : Prop := tabCompactsRow.holds Tryz.pinned (OpenSpec.ofChange tabCompactsSpec)

/-- ITS FALSE NEIGHBOUR: 'it returns false'. Refute it at one input. -/
def tabCompactsWrong : ChangeSpec := { name := "tabCompacts", fn := fun _ => fun
  | [d1, d2, d3] => { results := [.lit (.bool false)], args := [d1, d2, d3] }
  | _ => none }
def TabCompactsWrongFalsely : Prop := tabCompactsRow.holds Tryz.pinned (OpenSpec.ofChange tabCompactsWrong)

/-- 'raddlelaw13.TabExact': WHATEVER THE INPUT: true; the input reads as it did. -/
def tabExactSpec : ChangeSpec := { name := "tabExact", fn := fun _ => fun
  | [d1, d2, d3, d4, d5] => { results := [.lit (.bool true)], args := [d1, d2, d3, d4, d5] }
  | _ => none }
def tabExactRow : OpenClaim := { program := "ytcmonjmoapjpkaagreat", sum := "5ecf8af788abde75b67871b350708424c1a93ba3ae9b39565dfab919a94abeee", func := "raddle/raddlelaw13.TabExact", spec := "tabExact", inPlace := ["internal/bytealg.abigen_runtime_cmpstring", "slices.overlaps[raddle/api.Row]", "slices.overlaps[raddle/api.Dot]"], unfollowed := true, recurses := true, apart := false }
def TabExactSaid : Prop := tabExactRow.holds Tryz.pinned (OpenSpec.ofChange tabExactSpec)

/-- ITS FALSE NEIGHBOUR: 'it returns false'. Refute it at one input. -/
def tabExactWrong : ChangeSpec := { name := "tabExact", fn := fun _ => fun
  | [d1, d2, d3, d4, d5] => { results := [.lit (.bool false)], args := [d1, d2, d3, d4, d5] }
  | _ => none }
def TabExactWrongFalsely : Prop := tabExactRow.holds Tryz.pinned (OpenSpec.ofChange tabExactWrong)

/- THE SECOND FORM. 'bulk': how many values and letters a reading holds, each counted each time it is reached (what is shared counts as often as it is met; a slice's spare places count too). A statement '..UptoSaid' is the law's where the arguments, and the package variables that the reading takes, are together of bulk at most 1048576: NARROWER than '..Said'. Prove '..Said' where nothing that the law and all that it calls make is longer than what came in: it says more and counts as full. Else prove '..UptoSaid'. A law counts once. -/
mutual
def uptoBulk {H : Type} : DataW H → Nat
  | .lit (.string bytes) => bytes.length + 1
  | .lit _ => 1
  | .nil => 1
  | .ptr d => uptoBulk d + 1
  | .slice elems spare => uptoBulkAll elems + uptoBulkAll spare + 1
  | .agg parts => uptoBulkAll parts + 1
  | .iface _ d => uptoBulk d + 1
  | .map entries => uptoBulkEntries entries + 1
  | .held _ => 1
def uptoBulkAll {H : Type} : List (DataW H) → Nat
  | [] => 0
  | d :: r => uptoBulk d + uptoBulkAll r
def uptoBulkEntries {H : Type} : List (Lit × DataW H) → Nat
  | [] => 0
  | x :: r => uptoBulkEntry x + uptoBulkEntries r
def uptoBulkEntry {H : Type} : Lit × DataW H → Nat
  | (.string bytes, d) => bytes.length + uptoBulk d + 1
  | (_, d) => uptoBulk d + 1
 end
def uptoSmall : (H : Type) → List (DataW H) → Bool := fun _ ds => decide (uptoBulkAll ds ≤ 1048576)
def OpenSpec.upto (s : _root_.Go.ChangeSpec) : _root_.Go.OpenSpec := { _root_.Go.OpenSpec.ofChange s with cond := some uptoSmall }

/-- 'raddlelaw13.TabSeen', WHERE WHAT IT READS IS OF BULK AT MOST 1048576: true; the input reads as it did. -/
def tabSeenUptoRow : OpenClaim := { program := "ytcmonjmoapjpkaagreat", sum := "5ecf8af788abde75b67871b350708424c1a93ba3ae9b39565dfab919a94abeee", func := "raddle/raddlelaw13.TabSeen", spec := "tabSeen", inPlace := ["internal/bytealg.abigen_runtime_cmpstring", "slices.overlaps[raddle/api.Row]", "slices.overlaps[raddle/api.Dot]"], unfollowed := true, recurses := true, apart := false, narrowed := true }
def TabSeenUptoSaid : Prop := tabSeenUptoRow.holds Tryz.pinned (OpenSpec.upto tabSeenSpec)

/-- 'raddlelaw13.TabSwaps', WHERE WHAT IT READS IS OF BULK AT MOST 1048576: true; the input reads as it did. -/
def tabSwapsUptoRow : OpenClaim := { program := "ytcmonjmoapjpkaagreat", sum := "5ecf8af788abde75b67871b350708424c1a93ba3ae9b39565dfab919a94abeee", func := "raddle/raddlelaw13.TabSwaps", spec := "tabSwaps", inPlace := ["internal/bytealg.abigen_runtime_cmpstring", "slices.overlaps[raddle/api.Row]", "slices.overlaps[raddle/api.Dot]"], unfollowed := true, recurses := true, apart := false, narrowed := true }
def TabSwapsUptoSaid : Prop := tabSwapsUptoRow.holds Tryz.pinned (OpenSpec.upto tabSwapsSpec)

/-- 'raddlelaw13.TabCompacts', WHERE WHAT IT READS IS OF BULK AT MOST 1048576: true; the input reads as it did. -/
def tabCompactsUptoRow : OpenClaim := { program := "ytcmonjmoapjpkaagreat", sum := "5ecf8af788abde75b67871b350708424c1a93ba3ae9b39565dfab919a94abeee", func := "raddle/raddlelaw13.TabCompacts", spec := "tabCompacts", inPlace := ["internal/bytealg.abigen_runtime_cmpstring", "slices.overlaps[raddle/api.Row]", "slices.overlaps[raddle/api.Dot]"], unfollowed := true, recurses := true, apart := false, narrowed := true }
def TabCompactsUptoSaid : Prop := tabCompactsUptoRow.holds Tryz.pinned (OpenSpec.upto tabCompactsSpec)

/-- 'raddlelaw13.TabExact', WHERE WHAT IT READS IS OF BULK AT MOST 1048576: true; the input reads as it did. -/
def tabExactUptoRow : OpenClaim := { program := "ytcmonjmoapjpkaagreat", sum := "5ecf8af788abde75b67871b350708424c1a93ba3ae9b39565dfab919a94abeee", func := "raddle/raddlelaw13.TabExact", spec := "tabExact", inPlace := ["internal/bytealg.abigen_runtime_cmpstring", "slices.overlaps[raddle/api.Row]", "slices.overlaps[raddle/api.Dot]"], unfollowed := true, recurses := true, apart := false, narrowed := true }
def TabExactUptoSaid : Prop := tabExactUptoRow.holds Tryz.pinned (OpenSpec.upto tabExactSpec)

end Rows
end Go.Proofs.YtcmonjmoapjpkaaGreat
