/-
  No cell of these rows narrows 'for every input' (looked for: loops, veiled, ifaces, maps, wideKeys, modest, calm, conditions, laid).
  DERIVED. THE GIVEN ROWS OF THIS SEAT. 2 by the template 'for every input the law returns true; each argument reads behind the call as it read before'; 0 by the template 'total and deterministic' (their statements: YtbojpedklnmidaaGreatTotals.lean).
  GIVEN WITH THE SEED: the statements are not yours to turn. If you find one false, say at which input.
  Laid BY PROGRAM, IN A SANDBOX (cutbox-rows.mjs): the forced cells as the released guide's own fill.sh prints them over the translation 98d34f93315b6803… (all of the seat's roots in one cut). By AI agents, Wed Nov 11 2026. No macro, syntax, notation, axiom, sorry.
-/
import Derived.Test.YtbojpedklnmidaaGreatChecked
import GoSem.Claim
import GoSem.ClaimJoined
import GoSem.ClaimMapViews
import Derived.JoinedTies
import Derived.KernelRfl
namespace Go.Proofs.YtbojpedklnmidaaGreat
/- THE CELL 'sum', in the pinned program and in every row, IS THE sha256 OF THE DUMP (.gsa) THAT YtbojpedklnmidaaGreatProg.lean LOADS. Nothing in Lean hashes anything: it is a label: what it is worth is what the hold of that sum in a sandbox is worth. -/
noncomputable def Tryz.pinned : Pinned := { name := "ytbojpedklnmidaagreat", sum := "98d34f93315b68038d1d3ef6109bebfffecd5e6892bcd3ccf931bea8a17f745c", checked := Tryz.checked }
namespace Rows
def none {H : Type} : Left H := { results := [], args := [] }

/-- 'raddlelaw26.AuditApplies': WHATEVER THE INPUT: true; the input reads as it did. -/
def auditAppliesSpec : ChangeSpec := { name := "auditApplies", fn := fun _ => fun
  | [d1, d2, d3] => { results := [.lit (.bool true)], args := [d1, d2, d3] }
  | _ => none }
def auditAppliesRow : OpenClaim := { program := "ytbojpedklnmidaagreat", sum := "98d34f93315b68038d1d3ef6109bebfffecd5e6892bcd3ccf931bea8a17f745c", func := "raddle/raddlelaw26.AuditApplies", spec := "auditApplies", inPlace := ["internal/bytealg.abigen_runtime_cmpstring", "slices.overlaps[raddle/api.Row]", "slices.overlaps[raddle/api.Dot]"], unfollowed := true, recurses := true, plainKeys := false, apart := false }
def AuditAppliesSaid : Prop := auditAppliesRow.holds Tryz.pinned (OpenSpec.ofChange auditAppliesSpec)

/-- ITS FALSE NEIGHBOUR: 'it returns false'. Refute it at one input. -/
def auditAppliesWrong : ChangeSpec := { name := "auditApplies", fn := fun _ => fun
  | [d1, d2, d3] => { results := [.lit (.bool false)], args := [d1, d2, d3] }
  | _ => none }
def AuditAppliesWrongFalsely : Prop := auditAppliesRow.holds Tryz.pinned (OpenSpec.ofChange auditAppliesWrong)

/-- 'raddlelaw26.AuditExact': WHATEVER THE INPUT: true; the input reads as it did. -/
def auditExactSpec : ChangeSpec := { name := "auditExact", fn := fun _ => fun
  | [d1, d2, d3, d4] => { results := [.lit (.bool true)], args := [d1, d2, d3, d4] }
  | _ => none }
def auditExactRow : OpenClaim := { program := "ytbojpedklnmidaagreat", sum := "98d34f93315b68038d1d3ef6109bebfffecd5e6892bcd3ccf931bea8a17f745c", func := "raddle/raddlelaw26.AuditExact", spec := "auditExact", unfollowed := true, recurses := true, plainKeys := false, apart := false }
def AuditExactSaid : Prop := auditExactRow.holds Tryz.pinned (OpenSpec.ofChange auditExactSpec)

/-- ITS FALSE NEIGHBOUR: 'it returns false'. Refute it at one input. -/
def auditExactWrong : ChangeSpec := { name := "auditExact", fn := fun _ => fun
  | [d1, d2, d3, d4] => { results := [.lit (.bool false)], args := [d1, d2, d3, d4] }
  | _ => none }
def AuditExactWrongFalsely : Prop := auditExactRow.holds Tryz.pinned (OpenSpec.ofChange auditExactWrong)

/- THE SECOND FORM. 'bulk': how many values and letters a reading holds, each counted each time it is reached (what is shared counts as often as it is met; a slice's spare places count too). A statement '..UptoSaid' is the law's where the arguments, and the package variables that the reading takes, are together of bulk at most 1048576: NARROWER than '..Said'. Prove '..Said' where nothing that the law and all that it calls make is longer than what came in: it says more and counts as full. Else prove '..UptoSaid'. A law counts once. -/
mutual
def uptoBulk {H : Type} : DataW H → Nat
  | .lit (.string bytes) => bytes.length + 1
  | .lit _ => 1
  | .nil => 1
  | .ptr d => uptoBulk d + 1
  | .slice elems spare => uptoBulkAll elems + uptoBulkAll spare + 1
  | .agg parts => uptoBulkAll parts + 1
  | .iface _ d => uptoBulk d + 1
  | .map entries => uptoBulkEntries entries + 1
  | .held _ => 1
def uptoBulkAll {H : Type} : List (DataW H) → Nat
  | [] => 0
  | d :: r => uptoBulk d + uptoBulkAll r
def uptoBulkEntries {H : Type} : List (Lit × DataW H) → Nat
  | [] => 0
  | x :: r => uptoBulkEntry x + uptoBulkEntries r
def uptoBulkEntry {H : Type} : Lit × DataW H → Nat
  | (.string bytes, d) => bytes.length + uptoBulk d + 1
  | (_, d) => uptoBulk d + 1
 end
def uptoSmall : (H : Type) → List (DataW H) → Bool := fun _ ds => decide (uptoBulkAll ds ≤ 1048576)
def OpenSpec.upto (s : _root_.Go.ChangeSpec) : _root_.Go.OpenSpec := { _root_.Go.OpenSpec.ofChange s with cond := some uptoSmall }

/-- 'raddlelaw26.AuditApplies', WHERE WHAT IT READS IS OF BULK AT MOST 1048576: true; the input reads as it did. -/
def auditAppliesUptoRow : OpenClaim := { program := "ytbojpedklnmidaagreat", sum := "98d34f93315b68038d1d3ef6109bebfffecd5e6892bcd3ccf931bea8a17f745c", func := "raddle/raddlelaw26.AuditApplies", spec := "auditApplies", inPlace := ["internal/bytealg.abigen_runtime_cmpstring", "slices.overlaps[raddle/api.Row]", "slices.overlaps[raddle/api.Dot]"], unfollowed := true, recurses := true, plainKeys := false, apart := false, narrowed := true }
def AuditAppliesUptoSaid : Prop := auditAppliesUptoRow.holds Tryz.pinned (OpenSpec.upto auditAppliesSpec)

/-- 'raddlelaw26.AuditExact', WHERE WHAT IT READS IS OF BULK AT MOST 1048576: true; the input reads as it did. -/
def auditExactUptoRow : OpenClaim := { program := "ytbojpedklnmidaagreat", sum := "98d34f93315b68038d1d3ef6109bebfffecd5e6892bcd3ccf931bea8a17f745c", func := "raddle/raddlelaw26.AuditExact", spec := "auditExact", unfollowed := true, recurses := true, plainKeys := false, apart := false, narrowed := true }
def AuditExactUptoSaid : Prop := auditExactUptoRow.holds Tryz.pinned (OpenSpec.upto auditExactSpec)

end Rows
end Go.Proofs.YtbojpedklnmidaaGreat
