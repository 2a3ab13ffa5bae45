/- The operations over plain values. No condition. -/
import Derived.Test.YtamdidmfcjdcgaaD1
set_option linter.unusedVariables false
set_option linter.unusedSectionVars false
set_option linter.unusedSimpArgs false
set_option linter.constructorNameAsVariable false
namespace Go.Proofs.Ytamdidmfcjdcgaa.D
open Go Go.RowKit

/-- An operand: a temporary, or a constant. -/
inductive Od where
  | t (n : Nat)
  | k (v : V)

/-- What a call's result is taken for: fz: only read from now on; own: its first slice is an object of one's own (rows of k cells). -/
inductive Md where
  | fz
  | own (k : Nat)

/-- The operations. -/
inductive Ok where
  | mv
  | pick
  | bin (op : BinOp)
  | bb (op : BinOp)
  | eqs (neg : Bool)
  | nilq (kd : Nat) (neg : Bool)
  | un (op : UnOp)
  | conv (k : IntKind)
  | box (n : Option Nat)
  | alloc (z : List V)
  | bld (z : List V) (ps : List (Nat × Nat))
  | bsl (k : Nat) (z : List V) (ps : List Nat) (n : Nat) (fz : Bool)
  | ld (n : Option Nat)
  | st (n : Nat)
  | fa (off : Nat)
  | fld (off : Nat) (n : Option Nat)
  | ia (k : Nat)
  | iar (len k : Nat)
  | slc (k : Nat) (lo hi : Bool)
  | slc3
  | mks (k : Nat) (z : List V) (fz : Bool)
  | len
  | slen
  | app (k : Nat)
  | cpy (k : Nat)
  | clr (k : Nat) (z : List V)
  | mx
  | mn
  | ext (i : Nat)
  | mkf (f : Nat)
  | call (f : Nat) (m : Md)
  | callv (m : Md)
  | rcall (f : Nat)

/-- How what is made is taken. -/
def hintFz : Ok → Option Bool
  | .bsl _ _ _ _ fz => some fz
  | .mks _ _ fz => some fz
  | _ => none

abbrev Ups := List (Nat × Option Ob)
abbrev OB := Nat → Option Ob

def cellsV : V → List V
  | .ag l => l
  | v => [v]

/-- One cell, as it may lie in memory. -/
def leaf : V → Bool
  | .c v => v.oneCell'
  | .z | .im _ _ | .sl _ _ _ | .pt _ _ _ | .bp _ | .fn _ _ => true
  | _ => false

def okRow (k : Nat) (r : List V) : Bool := r.length == k && r.all leaf

def pack : Option Nat → List V → Option V
  | none, [v] => some v
  | none, _ => none
  | some n, l => if l.length = n then some (.ag l) else none

/-- A slice's elements. -/
def rowsOf (ob : OB) : V → Option (List (List V))
  | .im _ l => some l
  | .z => some []
  | .sl id off len => (ob id).bind fun o => if off + len ≤ o.l.length then some ((o.l.drop off).take len) else none
  | _ => none

def lenOf : V → Option Nat
  | .im _ l => some l.length
  | .z => some 0
  | .sl _ _ len => some len
  | _ => none

def toStr : V → Option ByteArray
  | .c (.string s) => some s
  | _ => none

def lenS (ob : OB) : V → Option Nat
  | .im _ l => some l.length
  | .z => some 0
  | .sl id _ len => (ob id).map fun _ => len
  | _ => none

def intsOp (op : BinOp) (k : IntKind) (a b : Int) : Option Value :=
  match op with
  | .add => some (.int k (k.wrap (a + b)))
  | .sub => some (.int k (k.wrap (a - b)))
  | .mul => some (.int k (k.wrap (a * b)))
  | .quo => if b = 0 then none else some (.int k (k.wrap (a.tdiv b)))
  | .rem => if b = 0 then none else some (.int k (a.tmod b))
  | .eql => some (.bool (decide (a = b)))
  | .neq => some (.bool (!decide (a = b)))
  | .lss => some (.bool (decide (a < b)))
  | .leq => some (.bool (decide (a ≤ b)))
  | .gtr => some (.bool (decide (b < a)))
  | .geq => some (.bool (decide (b ≤ a)))
  | _ => none

def strsOp (op : BinOp) (a b : ByteArray) : Option Value :=
  match op with
  | .eql => some (.bool (decide (a.toList = b.toList)))
  | .neq => some (.bool (!decide (a.toList = b.toList)))
  | .lss => some (.bool (Op.bytesLess a.toList b.toList))
  | .leq => some (.bool (Op.bytesLess a.toList b.toList || decide (a.toList = b.toList)))
  | .gtr => some (.bool (!(Op.bytesLess a.toList b.toList || decide (a.toList = b.toList))))
  | .geq => some (.bool (!Op.bytesLess a.toList b.toList))
  | _ => none

/-- Two cells, of the same kind. -/
def binS (op : BinOp) : Value → Value → Option Value
  | .int k a, .int k' b => if k = k' then intsOp op k a b else none
  | .string a, .string b => strsOp op a b
  | _, _ => none

def boolOp (op : BinOp) (a b : Bool) : Option Bool :=
  match op with
  | .eql => some (a == b)
  | .neq => some (!(a == b))
  | _ => none

def unS : UnOp → Value → Option Value
  | .not, .bool b => some (.bool !b)
  | .neg, .int k n => some (.int k (k.wrap (0 - n)))
  | _, _ => none

def eqS : Value → Value → Option Bool
  | .int k a, .int k' b => if k = k' then some (decide (a = b)) else none
  | .string a, .string b => some (decide (a.toList = b.toList))
  | .bool a, .bool b => some (a == b)
  | _, _ => none

/-- Cells side by side are equal. -/
def eqCells : List V → List V → Option Bool
  | [], [] => some true
  | .c a :: l, .c b :: m => match eqS a b, eqCells l m with
    | some p, some q => some (p && q)
    | _, _ => none
  | _, _ => none

/-- Is it nil? (kd: 0: a slice, 1: a pointer, 2: a function, 3: a map) -/
def isNil (ob : OB) : Nat → V → Option V
  | 0, .z => some .q
  | 0, .im _ [] => some .q
  | 0, .im _ (_ :: _) => some (.c (.bool false))
  | 0, .sl id _ _ => (ob id).map fun _ => .c (.bool false)
  | 1, .c (.pointer none) => some (.c (.bool true))
  | 1, .pt id _ _ => (ob id).map fun _ => .c (.bool false)
  | 1, .bp _ => some (.c (.bool false))
  | 2, .c .nilFunc => some (.c (.bool true))
  | 2, .fn _ _ => some (.c (.bool false))
  | 3, .c (.map none) => some (.c (.bool true))
  | _, _ => none

def negV (neg : Bool) : V → V
  | .c (.bool q) => .c (.bool (if neg then !q else q))
  | v => v

def fill (cells : List V) : List (Nat × Nat) → List V → Option (List V)
  | [], [] => some cells
  | (off, n) :: ps, v :: vs => if (cellsV v).length = n ∧ off + n ≤ cells.length ∧ (cellsV v).all leaf then fill (cells.take off ++ cellsV v ++ cells.drop (off + n)) ps vs else none
  | _, _ => none

def toInt : V → Option Int
  | .c (.int _ n) => some n
  | _ => none

def toBool : V → Option Bool
  | .c (.bool b) => some b
  | _ => none

def toC : V → Option Value
  | .c v => some v
  | _ => none

def toPt : V → Option (Nat × Nat × Nat)
  | .pt id i o => some (id, i, o)
  | _ => none

def toAg : V → Option (List V)
  | .ag l => some l
  | _ => none

def toTp : V → Option (List V)
  | .tp l => some l
  | _ => none

def mxS : Value → Value → Option Value
  | .int k a, .int _ b => some (.int k (if b > a then b else a))
  | _, _ => none
def mnS : Value → Value → Option Value
  | .int k a, .int _ b => some (.int k (if b < a then b else a))
  | _, _ => none

def ldV (ob : OB) (n : Option Nat) : V → Option V
  | .pt id i o => (ob id).bind fun x => (x.l[i]?).bind fun row => if o + n.getD 1 ≤ row.length then pack n ((row.drop o).take (n.getD 1)) else none
  | .bp l => if n.getD 1 ≤ l.length then pack n (l.take (n.getD 1)) else none
  | _ => none

def faV (ob : OB) (off : Nat) : V → Option V
  | .pt id i o => (ob id).bind fun _ => some (.pt id i (o + off))
  | .bp l => some (.bp (l.drop off))
  | _ => none

def iaV (ob : OB) (k : Nat) (x : V) (i : Int) : Option V :=
  match x with
  | .im _ l => if 0 ≤ i ∧ i < l.length then (l[i.toNat]?).bind fun r => if r.length = k then some (.bp r) else none else none
  | .sl id off len => (ob id).bind fun o => if 0 ≤ i ∧ i < len ∧ o.k = k then some (.pt id (off + i.toNat) 0) else none
  | _ => none

def sliceV (ob : OB) (k : Nat) (x : V) (lo hi : Option Int) : Option V :=
  match x with
  | .im f l =>
    let h := hi.getD l.length
    let a := lo.getD 0
    if f ≠ .o ∧ (∀ ch ∈ l, ch.length = k) ∧ 0 ≤ a ∧ a ≤ h ∧ h ≤ l.length then some (.im f ((l.take h.toNat).drop a.toNat)) else none
  | .z => if lo.getD 0 = 0 ∧ hi.getD 0 = 0 then some V.z else none
  | .sl id off len => (ob id).bind fun o =>
    let h := hi.getD len
    let a := lo.getD 0
    if o.k = k ∧ 0 ≤ a ∧ a ≤ h ∧ off + h ≤ o.l.length then
      (if a = 0 then some (.sl id off h.toNat) else if a = h then some (.im .b []) else some (.sl id (off + a.toNat) (h - a).toNat))
    else none
  | _ => none

def over (l : List (List V)) (at_ : Nat) (xs : List (List V)) : List (List V) := l.take at_ ++ xs ++ l.drop (at_ + xs.length)

def maxLen : Nat := 4294967296
def maxLit : Nat := 16777216

/-- What an operation answers, and what it does to the store; nid is the number of what it makes. (Calls are told apart.) -/
def opF (op : Ok) (vs : List V) (ob : OB) (nid : Nat) : Option (V × Ups) :=
  match op, vs with
  | .mv, [x] => some (x, [])
  | .pick, [b, x, y] => (toBool b).map fun b => (if b then x else y, [])
  | .bin op, [a, b] => (toC a).bind fun a => (toC b).bind fun b => (binS op a b).map fun r => (.c r, [])
  | .bb op, [a, b] => (toBool a).bind fun a => (toBool b).bind fun b => (boolOp op a b).map fun r => (.c (.bool r), [])
  | .eqs neg, [x, y] => (eqCells (cellsV x) (cellsV y)).map fun q => (.c (.bool (if neg then !q else q)), [])
  | .nilq kd neg, [x] => (isNil ob kd x).map fun v => (negV neg v, [])
  | .un op, [a] => (toC a).bind fun a => (unS op a).map fun r => (.c r, [])
  | .conv k, [a] => (toInt a).map fun n => (.c (.int k (k.wrap n)), [])
  | .box n, [x] => if okRow (n.getD 1) (cellsV x) then some (.pt nid 0 0, [(nid, some ⟨n.getD 1, [cellsV x], none⟩)]) else none
  | .alloc z, [] => some (.pt nid 0 0, [(nid, some ⟨z.length, [z], none⟩)])
  | .bld z ps, vs => (fill z ps vs).map fun l => (.ag l, [])
  | .bsl k z ps n fz, vs => (fill ((List.replicate n z).flatten) (ps.map fun i => (i * k, k)) vs).bind fun l =>
      let rows := (List.range n).map fun i => (l.drop (i * k)).take k
      if rows.all (okRow k) then (if n = 0 then some (V.z, []) else if fz then some (.im .b rows, []) else some (.sl nid 0 n, [(nid, some ⟨k, rows, none⟩)])) else none
  | .ld n, [a] => (ldV ob n a).map fun v => (v, [])
  | .st n, [a, v] => (toPt a).bind fun q => (ob q.1).bind fun x => (x.l[q.2.1]?).bind fun row =>
      if (cellsV v).length = n ∧ (cellsV v).all leaf ∧ q.2.2 + n ≤ row.length then
        some (.u, [(q.1, some ⟨x.k, x.l.set q.2.1 (row.take q.2.2 ++ cellsV v ++ row.drop (q.2.2 + n)), x.cap⟩)]) else none
  | .fa off, [a] => (faV ob off a).map fun v => (v, [])
  | .fld off n, [a] => (toAg a).bind fun l => if off + n.getD 1 ≤ l.length then (pack n ((l.drop off).take (n.getD 1))).map fun v => (v, []) else none
  | .ia k, [x, i] => (toInt i).bind fun i => (iaV ob k x i).map fun v => (v, [])
  | .iar len k, [x, i] => (toInt i).bind fun i => if 0 ≤ i ∧ i < len then (faV ob (i.toNat * k) x).map fun v => (v, []) else none
  | .slc k lo hi, x :: bs =>
    match lo, hi, bs with
    | false, false, [] => (sliceV ob k x none none).map fun v => (v, [])
    | true, false, [a] => (toInt a).bind fun a => (sliceV ob k x (some a) none).map fun v => (v, [])
    | false, true, [b] => (toInt b).bind fun b => (sliceV ob k x none (some b)).map fun v => (v, [])
    | true, true, [a, b] => (toInt a).bind fun a => (toInt b).bind fun b => (sliceV ob k x (some a) (some b)).map fun v => (v, [])
    | _, _, _ => none
  | .slc3, [x, a, b, c] => (toInt a).bind fun a => (toInt b).bind fun b => (toInt c).bind fun c => (lenS ob x).bind fun n => if 0 ≤ a ∧ a ≤ b ∧ b ≤ c ∧ c ≤ n then some (.u, []) else none
  | .mks k z fz, [n, m] => (toInt n).bind fun n => (toInt m).bind fun m => if n = m ∧ 0 ≤ n ∧ n ≤ maxLen then (if fz then some (.im .b (List.replicate n.toNat z), []) else some (.sl nid 0 n.toNat, [(nid, some ⟨k, List.replicate n.toNat z, none⟩)])) else none
  | .len, [x] => (lenOf x).map fun (n : Nat) => (.c (.int .i64 (n : Int)), [])
  | .slen, [x] => (toStr x).map fun s => (.c (.int .i64 (s.size : Int)), [])
  | .app k, [s, x] => (rowsOf ob x).bind fun xs => if xs.all (okRow k) then
      (match s with
      | .z => if xs.length = 0 then some (V.z, []) else if xs.length ≤ maxLen then some (.sl nid 0 xs.length, [(nid, some ⟨k, xs, none⟩)]) else none
      | .sl id off len => (ob id).bind fun o =>
        if o.k = k ∧ off + len ≤ o.l.length ∧ len + xs.length ≤ maxLen then
          (if off + len + xs.length ≤ o.l.length then some (.sl id off (len + xs.length), [(id, some ⟨k, over o.l (off + len) xs, o.cap⟩)])
          else if off = 0 then some (.sl nid 0 (len + xs.length), [(id, none), (nid, some ⟨k, o.l.take len ++ xs, none⟩)]) else none)
        else none
      | _ => none) else none
  | .cpy k, [d, x] => (rowsOf ob x).bind fun xs => if xs.all (okRow k) then
      (match d with
      | .sl id off len => (ob id).bind fun o => if o.k = k ∧ off + len ≤ o.l.length then
          some (.c (.int .i64 ((min xs.length len : Nat) : Int)), [(id, some ⟨k, over o.l off (xs.take len), o.cap⟩)]) else none
      | .im _ [] | .z => some (.c (.int .i64 0), [])
      | _ => none) else none
  | .clr k z, [d] => match d with
      | .sl id off len => (ob id).bind fun o => if o.k = k ∧ off + len ≤ o.l.length then
          some (.tp [], [(id, some ⟨k, over o.l off (List.replicate len z), o.cap⟩)]) else none
      | .im _ [] | .z => some (.tp [], [])
      | _ => none
  | .mx, [a, b] => (toC a).bind fun a => (toC b).bind fun b => (mxS a b).map fun r => (.c r, [])
  | .mn, [a, b] => (toC a).bind fun a => (toC b).bind fun b => (mnS a b).map fun r => (.c r, [])
  | .ext i, [a] => (toTp a).bind fun l => (l[i]?).map fun v => (v, [])
  | .mkf f, vs => some (.fn f vs, [])
  | _, _ => none

def isLoud : Ok → Bool
  | .st _ | .app _ | .cpy _ | .clr _ _ | .rcall _ => true
  | _ => false

end Go.Proofs.Ytamdidmfcjdcgaa.D
