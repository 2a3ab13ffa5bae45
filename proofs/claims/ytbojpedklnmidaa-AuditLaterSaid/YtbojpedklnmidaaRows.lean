/-
  No cell of these rows narrows 'for every input' (looked for: loops, veiled, ifaces, maps, wideKeys, modest, calm, conditions, laid).
  DERIVED. THE GIVEN ROWS OF THIS SEAT. 5 by the template 'for every input the law returns true; each argument reads behind the call as it read before'; 0 by the template 'total and deterministic' (their statements: YtbojpedklnmidaaTotals.lean).
  GIVEN WITH THE SEED: the statements are not yours to turn. If you find one false, say at which input.
  Laid BY PROGRAM, IN A SANDBOX (cutbox-rows.mjs): the forced cells as the released guide's own fill.sh prints them over the translation 2977ef9a486f99e1… (all of the seat's roots in one cut). By AI agents, Wed Nov 11 2026. No macro, syntax, notation, axiom, sorry.
-/
import Derived.Test.YtbojpedklnmidaaChecked
import GoSem.Claim
import GoSem.ClaimJoined
import GoSem.ClaimMapViews
import Derived.JoinedTies
import Derived.KernelRfl
namespace Go.Proofs.Ytbojpedklnmidaa
/- THE CELL 'sum', in the pinned program and in every row, IS THE sha256 OF THE DUMP (.gsa) THAT YtbojpedklnmidaaProg.lean LOADS. Nothing in Lean hashes anything: it is a label: what it is worth is what the hold of that sum in a sandbox is worth. -/
noncomputable def Try.pinned : Pinned := { name := "ytbojpedklnmidaa", sum := "2977ef9a486f99e123349982ff6ec8aa08baa6395a88e5bb4a02b679f8c0c46f", checked := Try.checked }
namespace Rows
def none {H : Type} : Left H := { results := [], args := [] }

/-- 'raddlelaw26.AuditOf': WHATEVER THE INPUT: true; the input reads as it did. -/
def auditOfSpec : ChangeSpec := { name := "auditOf", fn := fun _ => fun
  | [d1, d2, d3, d4] => { results := [.lit (.bool true)], args := [d1, d2, d3, d4] }
  | _ => none }
def auditOfRow : OpenClaim := { program := "ytbojpedklnmidaa", sum := "2977ef9a486f99e123349982ff6ec8aa08baa6395a88e5bb4a02b679f8c0c46f", func := "raddle/raddlelaw26.AuditOf", spec := "auditOf", unfollowed := true, recurses := true, plainKeys := false, apart := false }
def AuditOfSaid : Prop := auditOfRow.holds Try.pinned (OpenSpec.ofChange auditOfSpec)

/-- ITS FALSE NEIGHBOUR: 'it returns false'. Refute it at one input. -/
def auditOfWrong : ChangeSpec := { name := "auditOf", fn := fun _ => fun
  | [d1, d2, d3, d4] => { results := [.lit (.bool false)], args := [d1, d2, d3, d4] }
  | _ => none }
def AuditOfWrongFalsely : Prop := auditOfRow.holds Try.pinned (OpenSpec.ofChange auditOfWrong)

/-- 'raddlelaw26.AuditOrder': WHATEVER THE INPUT: true; the input reads as it did. -/
def auditOrderSpec : ChangeSpec := { name := "auditOrder", fn := fun _ => fun
  | [d1, d2, d3, d4] => { results := [.lit (.bool true)], args := [d1, d2, d3, d4] }
  | _ => none }
def auditOrderRow : OpenClaim := { program := "ytbojpedklnmidaa", sum := "2977ef9a486f99e123349982ff6ec8aa08baa6395a88e5bb4a02b679f8c0c46f", func := "raddle/raddlelaw26.AuditOrder", spec := "auditOrder", unfollowed := true, recurses := true, plainKeys := false, apart := false }
def AuditOrderSaid : Prop := auditOrderRow.holds Try.pinned (OpenSpec.ofChange auditOrderSpec)

/-- ITS FALSE NEIGHBOUR: 'it returns false'. Refute it at one input. -/
def auditOrderWrong : ChangeSpec := { name := "auditOrder", fn := fun _ => fun
  | [d1, d2, d3, d4] => { results := [.lit (.bool false)], args := [d1, d2, d3, d4] }
  | _ => none }
def AuditOrderWrongFalsely : Prop := auditOrderRow.holds Try.pinned (OpenSpec.ofChange auditOrderWrong)

/-- 'raddlelaw26.AuditClosed': WHATEVER THE INPUT: true; the input reads as it did. -/
def auditClosedSpec : ChangeSpec := { name := "auditClosed", fn := fun _ => fun
  | [d1, d2, d3] => { results := [.lit (.bool true)], args := [d1, d2, d3] }
  | _ => none }
def auditClosedRow : OpenClaim := { program := "ytbojpedklnmidaa", sum := "2977ef9a486f99e123349982ff6ec8aa08baa6395a88e5bb4a02b679f8c0c46f", func := "raddle/raddlelaw26.AuditClosed", spec := "auditClosed", unfollowed := true, recurses := true, plainKeys := false, apart := false }
def AuditClosedSaid : Prop := auditClosedRow.holds Try.pinned (OpenSpec.ofChange auditClosedSpec)

/-- ITS FALSE NEIGHBOUR: 'it returns false'. Refute it at one input. -/
def auditClosedWrong : ChangeSpec := { name := "auditClosed", fn := fun _ => fun
  | [d1, d2, d3] => { results := [.lit (.bool false)], args := [d1, d2, d3] }
  | _ => none }
def AuditClosedWrongFalsely : Prop := auditClosedRow.holds Try.pinned (OpenSpec.ofChange auditClosedWrong)

/-- 'raddlelaw26.AuditKeys': WHATEVER THE INPUT: true; the input reads as it did. -/
def auditKeysSpec : ChangeSpec := { name := "auditKeys", fn := fun _ => fun
  | [d1, d2, d3, d4, d5] => { results := [.lit (.bool true)], args := [d1, d2, d3, d4, d5] }
  | _ => none }
def auditKeysRow : OpenClaim := { program := "ytbojpedklnmidaa", sum := "2977ef9a486f99e123349982ff6ec8aa08baa6395a88e5bb4a02b679f8c0c46f", func := "raddle/raddlelaw26.AuditKeys", spec := "auditKeys", unfollowed := true, recurses := true, plainKeys := false, apart := false }
def AuditKeysSaid : Prop := auditKeysRow.holds Try.pinned (OpenSpec.ofChange auditKeysSpec)

/-- ITS FALSE NEIGHBOUR: 'it returns false'. Refute it at one input. -/
def auditKeysWrong : ChangeSpec := { name := "auditKeys", fn := fun _ => fun
  | [d1, d2, d3, d4, d5] => { results := [.lit (.bool false)], args := [d1, d2, d3, d4, d5] }
  | _ => none }
def AuditKeysWrongFalsely : Prop := auditKeysRow.holds Try.pinned (OpenSpec.ofChange auditKeysWrong)

/-- 'raddlelaw26.AuditLater': WHATEVER THE INPUT: true; the input reads as it did. -/
def auditLaterSpec : ChangeSpec := { name := "auditLater", fn := fun _ => fun
  | [d1, d2, d3, d4] => { results := [.lit (.bool true)], args := [d1, d2, d3, d4] }
  | _ => none }
def auditLaterRow : OpenClaim := { program := "ytbojpedklnmidaa", sum := "2977ef9a486f99e123349982ff6ec8aa08baa6395a88e5bb4a02b679f8c0c46f", func := "raddle/raddlelaw26.AuditLater", spec := "auditLater", unfollowed := true, recurses := true, plainKeys := false, apart := false }
def AuditLaterSaid : Prop := auditLaterRow.holds Try.pinned (OpenSpec.ofChange auditLaterSpec)

/-- ITS FALSE NEIGHBOUR: 'it returns false'. Refute it at one input. -/
def auditLaterWrong : ChangeSpec := { name := "auditLater", fn := fun _ => fun
  | [d1, d2, d3, d4] => { results := [.lit (.bool false)], args := [d1, d2, d3, d4] }
  | _ => none }
def AuditLaterWrongFalsely : Prop := auditLaterRow.holds Try.pinned (OpenSpec.ofChange auditLaterWrong)

/- THE SECOND FORM. 'bulk': how many values and letters a reading holds, each counted each time it is reached (what is shared counts as often as it is met; a slice's spare places count too). A statement '..UptoSaid' is the law's where the arguments, and the package variables that the reading takes, are together of bulk at most 1048576: NARROWER than '..Said'. Prove '..Said' where nothing that the law and all that it calls make is longer than what came in: it says more and counts as full. Else prove '..UptoSaid'. A law counts once. -/
mutual
def uptoBulk {H : Type} : DataW H → Nat
  | .lit (.string bytes) => bytes.length + 1
  | .lit _ => 1
  | .nil => 1
  | .ptr d => uptoBulk d + 1
  | .slice elems spare => uptoBulkAll elems + uptoBulkAll spare + 1
  | .agg parts => uptoBulkAll parts + 1
  | .iface _ d => uptoBulk d + 1
  | .map entries => uptoBulkEntries entries + 1
  | .held _ => 1
def uptoBulkAll {H : Type} : List (DataW H) → Nat
  | [] => 0
  | d :: r => uptoBulk d + uptoBulkAll r
def uptoBulkEntries {H : Type} : List (Lit × DataW H) → Nat
  | [] => 0
  | x :: r => uptoBulkEntry x + uptoBulkEntries r
def uptoBulkEntry {H : Type} : Lit × DataW H → Nat
  | (.string bytes, d) => bytes.length + uptoBulk d + 1
  | (_, d) => uptoBulk d + 1
 end
def uptoSmall : (H : Type) → List (DataW H) → Bool := fun _ ds => decide (uptoBulkAll ds ≤ 1048576)
def OpenSpec.upto (s : _root_.Go.ChangeSpec) : _root_.Go.OpenSpec := { _root_.Go.OpenSpec.ofChange s with cond := some uptoSmall }

/-- 'raddlelaw26.AuditOf', WHERE WHAT IT READS IS OF BULK AT MOST 1048576: true; the input reads as it did. -/
def auditOfUptoRow : OpenClaim := { program := "ytbojpedklnmidaa", sum := "2977ef9a486f99e123349982ff6ec8aa08baa6395a88e5bb4a02b679f8c0c46f", func := "raddle/raddlelaw26.AuditOf", spec := "auditOf", unfollowed := true, recurses := true, plainKeys := false, apart := false, narrowed := true }
def AuditOfUptoSaid : Prop := auditOfUptoRow.holds Try.pinned (OpenSpec.upto auditOfSpec)

/-- 'raddlelaw26.AuditOrder', WHERE WHAT IT READS IS OF BULK AT MOST 1048576: true; the input reads as it did. -/
def auditOrderUptoRow : OpenClaim := { program := "ytbojpedklnmidaa", sum := "2977ef9a486f99e123349982ff6ec8aa08baa6395a88e5bb4a02b679f8c0c46f", func := "raddle/raddlelaw26.AuditOrder", spec := "auditOrder", unfollowed := true, recurses := true, plainKeys := false, apart := false, narrowed := true }
def AuditOrderUptoSaid : Prop := auditOrderUptoRow.holds Try.pinned (OpenSpec.upto auditOrderSpec)

/-- 'raddlelaw26.AuditClosed', WHERE WHAT IT READS IS OF BULK AT MOST 1048576: true; the input reads as it did. -/
def auditClosedUptoRow : OpenClaim := { program := "ytbojpedklnmidaa", sum := "2977ef9a486f99e123349982ff6ec8aa08baa6395a88e5bb4a02b679f8c0c46f", func := "raddle/raddlelaw26.AuditClosed", spec := "auditClosed", unfollowed := true, recurses := true, plainKeys := false, apart := false, narrowed := true }
def AuditClosedUptoSaid : Prop := auditClosedUptoRow.holds Try.pinned (OpenSpec.upto auditClosedSpec)

/-- 'raddlelaw26.AuditKeys', WHERE WHAT IT READS IS OF BULK AT MOST 1048576: true; the input reads as it did. -/
def auditKeysUptoRow : OpenClaim := { program := "ytbojpedklnmidaa", sum := "2977ef9a486f99e123349982ff6ec8aa08baa6395a88e5bb4a02b679f8c0c46f", func := "raddle/raddlelaw26.AuditKeys", spec := "auditKeys", unfollowed := true, recurses := true, plainKeys := false, apart := false, narrowed := true }
def AuditKeysUptoSaid : Prop := auditKeysUptoRow.holds Try.pinned (OpenSpec.upto auditKeysSpec)

/-- 'raddlelaw26.AuditLater', WHERE WHAT IT READS IS OF BULK AT MOST 1048576: true; the input reads as it did. -/
def auditLaterUptoRow : OpenClaim := { program := "ytbojpedklnmidaa", sum := "2977ef9a486f99e123349982ff6ec8aa08baa6395a88e5bb4a02b679f8c0c46f", func := "raddle/raddlelaw26.AuditLater", spec := "auditLater", unfollowed := true, recurses := true, plainKeys := false, apart := false, narrowed := true }
def AuditLaterUptoSaid : Prop := auditLaterUptoRow.holds Try.pinned (OpenSpec.upto auditLaterSpec)

end Rows
end Go.Proofs.Ytbojpedklnmidaa
