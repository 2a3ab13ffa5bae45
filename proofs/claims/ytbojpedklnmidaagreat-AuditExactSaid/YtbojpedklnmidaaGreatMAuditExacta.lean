/- AuditExact, packed. No condition beyond the statement's own. -/
import Derived.Below
import Derived.Orders
import Derived.WalkKit
import Derived.KernelRfl
import Derived.Laws.CopyRow
import Derived.Laws.Small
import Derived.Laws.Entries
import Derived.Laws.StructEq
import Derived.WideKeyRuns
import Derived.MapKept
section
set_option linter.unusedVariables false
set_option linter.unusedSectionVars false
set_option linter.unusedSimpArgs false
set_option linter.constructorNameAsVariable false
/- A plain model of Go's values and memory, and how it stands to the machine's. No condition. -/
namespace Go.Proofs.YtbojpedklnmidaaGreat.D
open Go Go.RowKit
inductive Fl where
  | b | o | n
  deriving DecidableEq
/-- Plain values. c: one cell that holds no reference; u: nothing is known; q: a truth value that is not known; z: a slice without room; im: a slice that is only read (its elements, each a row of cells);
sl: a slice over an object of the store; pt: a place in an object; bp: a place that is only read; mp: a map; mi: a round over a map; fn: a function value; ag: cells side by side; tp: several results. -/
inductive V where
  | c (v : Value)
  | u
  | q
  | z
  | im (f : Fl) (l : List (List V))
  | sl (id off len : Nat)
  | pt (id i o : Nat)
  | bp (l : List V)
  | mp (id : Nat)
  | mi (id : Nat)
  | fn (f : Nat) (caps : List V)
  | ag (l : List V)
  | tp (l : List V)
instance : Inhabited V := ⟨.u⟩
structure Ob where
  k : Nat
  l : List (List V)
  cap : Option Nat
structure Pl where
  b : Nat
  base : Nat
  k : Nat
  cap : Nat
  mp : Nat
abbrev Loc := Nat → Option (Option Pl)
def el (l : List (List V)) (i j : Nat) : Option V := (l[i]?).bind (·[j]?)
inductive RV (w : World) (ok : Fl → Nat → Prop) (loc : Loc) : V → Value → Prop
  | c (v : Value) : RV w ok loc (.c v) v
  | u (x : Value) : RV w ok loc .u x
  | q (b : Bool) : RV w ok loc .q (.bool b)
  | z (a : Option Addr) : RV w ok loc .z (.slice a 0 0)
  | e (f : Fl) (a : Option Addr) (cap : Nat) (h : f = .o → cap = 0) : RV w ok loc (.im f []) (.slice a 0 cap)
  | im (f : Fl) (l : List (List V)) (k b off n cap : Nat) (ys : Nat → Nat → Value) (hn : n = l.length) (hk : ∀ ch ∈ l, ch.length = k) (hc : n ≤ cap) (ho : ok f b)
      (h0 : ∀ i j v, el l i j = some v → w.cell? ⟨b, off + i * k + j, none⟩ = some (ys i j))
      (h : ∀ i j v, el l i j = some v → RV w ok loc v (ys i j)) : RV w ok loc (.im f l) (.slice (some ⟨b, off, none⟩) n cap)
  | sl (id off len : Nat) (a : Option Addr) (c : Nat) (hl : loc id ≠ none) (hm : ∀ p, loc id = some (some p) → p.mp = 0)
      (h : ∀ p, loc id = some (some p) → off + len ≤ p.cap ∧ a = some ⟨p.b, p.base + off * p.k, none⟩ ∧ c = p.cap - off) : RV w ok loc (.sl id off len) (.slice a len c)
  | mp (id : Nat) (a : Option Nat) (hl : loc id ≠ none) (h : ∀ p, loc id = some (some p) → p.mp = 1 ∧ a = some p.b) : RV w ok loc (.mp id) (.map a)
  | mi (id : Nat) (a : Option Addr) (hl : loc id ≠ none) (h : ∀ p, loc id = some (some p) → p.mp = 2 ∧ a = some ⟨p.b, 0, none⟩) : RV w ok loc (.mi id) (.pointer a)
  | pt (id i o : Nat) (a : Option Addr) (hl : loc id ≠ none) (hm : ∀ p, loc id = some (some p) → p.mp = 0) (h : ∀ p, loc id = some (some p) → a = some ⟨p.b, p.base + i * p.k + o, none⟩) : RV w ok loc (.pt id i o) (.pointer a)
  | bp (l : List V) (b off : Nat) (ys : Nat → Value) (ho : ok .n b) (h0 : ∀ (j : Nat) (v : V), l[j]? = some v → w.cell? ⟨b, off + j, none⟩ = some (ys j))
      (h : ∀ (j : Nat) (v : V), l[j]? = some v → RV w ok loc v (ys j)) : RV w ok loc (.bp l) (.pointer (some ⟨b, off, none⟩))
  | fn (f : Nat) (caps : List V) (xs : List Value) (hn : xs.length = caps.length) (h : ∀ (i : Nat) (v : V) (x : Value), caps[i]? = some v → xs[i]? = some x → RV w ok loc v x) :
      RV w ok loc (.fn f caps) (.func (.func f) #[] xs.toArray)
  | ag (l : List V) (xs : List Value) (hn : xs.length = l.length) (h : ∀ (i : Nat) (v : V) (x : Value), l[i]? = some v → xs[i]? = some x → RV w ok loc v x) : RV w ok loc (.ag l) (.agg xs.toArray)
  | tp (l : List V) (xs : List Value) (hn : xs.length = l.length) (h : ∀ (i : Nat) (v : V) (x : Value), l[i]? = some v → xs[i]? = some x → RV w ok loc v x) : RV w ok loc (.tp l) (.tuple xs.toArray)
def RVs (w : World) (ok : Fl → Nat → Prop) (loc : Loc) (l : List V) (xs : List Value) : Prop :=
  xs.length = l.length ∧ ∀ (i : Nat) (v : V) (x : Value), l[i]? = some v → xs[i]? = some x → RV w ok loc v x
theorem RV.mono {w w' : World} {ok ok' : Fl → Nat → Prop} {loc loc' : Loc} {v : V} {x : Value}
    (hw : ∀ f b off y, ok f b → w.cell? ⟨b, off, none⟩ = some y → w'.cell? ⟨b, off, none⟩ = some y) (hok : ∀ f b, ok f b → ok' f b)
    (hloc : ∀ id, loc id ≠ none → loc' id = loc id ∨ loc' id = some none) (h : RV w ok loc v x) : RV w' ok' loc' v x := by
  induction h with
  | c v => exact .c v
  | u x => exact .u x
  | q b => exact .q b
  | z a => exact .z a
  | e f a cap h => exact .e f a cap h
  | im f l k b off n cap ys hn hk hc ho h0 h ih => exact .im f l k b off n cap ys hn hk hc (hok _ _ ho) (fun i j v hv => hw _ _ _ _ ho (h0 i j v hv)) ih
  | sl id off len a c hl hm h =>
    rcases hloc id hl with h' | h'
    · exact .sl id off len a c (h' ▸ hl) (fun p hp => hm p (h' ▸ hp)) (fun p hp => h p (h' ▸ hp))
    · exact .sl id off len a c (by rw [h']; simp) (fun p hp => by rw [h'] at hp; cases hp) (fun p hp => by rw [h'] at hp; cases hp)
  | mp id a hl h =>
    rcases hloc id hl with h' | h'
    · exact .mp id a (h' ▸ hl) (fun p hp => h p (h' ▸ hp))
    · exact .mp id a (by rw [h']; simp) (fun p hp => by rw [h'] at hp; cases hp)
  | mi id a hl h =>
    rcases hloc id hl with h' | h'
    · exact .mi id a (h' ▸ hl) (fun p hp => h p (h' ▸ hp))
    · exact .mi id a (by rw [h']; simp) (fun p hp => by rw [h'] at hp; cases hp)
  | pt id i o a hl hm h =>
    rcases hloc id hl with h' | h'
    · exact .pt id i o a (h' ▸ hl) (fun p hp => hm p (h' ▸ hp)) (fun p hp => h p (h' ▸ hp))
    · exact .pt id i o a (by rw [h']; simp) (fun p hp => by rw [h'] at hp; cases hp) (fun p hp => by rw [h'] at hp; cases hp)
  | bp l b off ys ho h0 h ih => exact .bp l b off ys (hok _ _ ho) (fun j v hv => hw _ _ _ _ ho (h0 j v hv)) ih
  | fn f caps xs hn h ih => exact .fn f caps xs hn ih
  | ag l xs hn h ih => exact .ag l xs hn ih
  | tp l xs hn h ih => exact .tp l xs hn ih
theorem pt_mp {w : World} {ok : Fl → Nat → Prop} {loc : Loc} {id i o : Nat} {x : Value} (h : RV w ok loc (.pt id i o) x) {p : Pl} (hp : loc id = some (some p)) : p.mp = 0 := by
  cases h with
  | pt _ _ _ a hl hm h => exact hm p hp
theorem sl_mp {w : World} {ok : Fl → Nat → Prop} {loc : Loc} {id off len : Nat} {x : Value} (h : RV w ok loc (.sl id off len) x) {p : Pl} (hp : loc id = some (some p)) : p.mp = 0 := by
  cases h with
  | sl _ _ _ a c hl hm h => exact hm p hp
structure St where
  next : Nat
  ob : Nat → Option Ob
structure OR (w : World) (ok : Fl → Nat → Prop) (loc : Loc) (p : Pl) (o : Ob) : Prop where
  mem : ∃ cs el, w.heap[p.b]? = some (.cells cs el (0, 0)) ∧ p.base + p.cap * p.k ≤ cs.size
  k : o.k = p.k
  len : o.l.length ≤ p.cap
  rows : ∀ ch ∈ o.l, ch.length = p.k
  cells : ∀ i j v, el o.l i j = some v → ∃ x, w.cell? ⟨p.b, p.base + i * p.k + j, none⟩ = some x ∧ RV w ok loc v x
  cap : ∀ c, o.cap = some c → c = p.cap
structure MR (w : World) (ok : Fl → Nat → Prop) (loc : Loc) (p : Pl) (o : Ob) : Prop where
  k : o.k = 0
  mem : ∃ es : Array MapEntry, w.heap[p.b]? = some (.map es es.size) ∧ es.size = o.l.length ∧ ∀ (i : Nat) (e : MapEntry), es[i]? = some e → e.born = i ∧ ∃ kv vv, o.l[i]? = some [kv, vv] ∧ RV w ok loc kv e.key ∧ RV w ok loc vv e.val
structure IR_ (w : World) (ok : Fl → Nat → Prop) (loc : Loc) (p : Pl) (o : Ob) : Prop where
  k : o.k = 0
  mem : ∃ (id : Nat) (b since : Nat) (seen : List Nat), o.l = [.mp id, .c (.int .i64 since)] :: seen.map (fun (i : Nat) => [.c (.int .i64 i)]) ∧ RV w ok loc (.mp id) (.map (some b)) ∧ w.heap[p.b]? = some (.mapIter (some b) since seen.toArray since)
structure XR (w : World) (ok : Fl → Nat → Prop) (loc : Loc) (p : Pl) (o : Ob) : Prop where
  c : p.mp = 0 → OR w ok loc p o
  m : p.mp = 1 → MR w ok loc p o
  i : p.mp = 2 → IR_ w ok loc p o
  lt : p.mp ≤ 2
theorem XR.of {w : World} {ok : Fl → Nat → Prop} {loc : Loc} {p : Pl} {o : Ob} (h : p.mp = 0) (x : OR w ok loc p o) : XR w ok loc p o := ⟨fun _ => x, fun e => by omega, fun e => by omega, by omega⟩
theorem XR.cells {w : World} {ok : Fl → Nat → Prop} {loc : Loc} {p : Pl} {o : Ob} (h : XR w ok loc p o) (hk : o.k ≠ 0) : p.mp = 0 ∧ OR w ok loc p o := by
  have h0 : p.mp = 0 := by
    have := h.lt
    by_cases h1 : p.mp = 1
    · exact absurd (h.m h1).k hk
    · by_cases h2 : p.mp = 2
      · exact absurd (h.i h2).k hk
      · omega
  exact ⟨h0, h.c h0⟩
class Bk where
  B : Nat → Prop
def okf [Bk] (own : Nat → Option Nat) (n0 n : Nat) (f : Fl) (b : Nat) : Prop := own b = none ∧ b < n ∧ (f = .n ∨ (f = .b ∧ Bk.B b) ∨ n0 ≤ b)
variable [Bk]
structure WF (n0 : Nat) (w : World) (own : Nat → Option Nat) (loc : Loc) (ob : Nat → Option Ob) : Prop where
  has : ∀ id o, ob id = some o → ∃ p, loc id = some (some p) ∧ XR w (okf own n0 w.heap.size) loc p o
  owns : ∀ id p, loc id = some (some p) → own p.b = some id ∧ p.b < w.heap.size
  lt : ∀ b id, own b = some id → b < w.heap.size
structure Stp (w : World) (own : Nat → Option Nat) (loc : Loc) (w' : World) (own' : Nat → Option Nat) (loc' : Loc) : Prop where
  os : w'.os = w.os
  tape : w'.tape = w.tape
  output : w'.output = w.output
  size : w.heap.size ≤ w'.heap.size
  block : ∀ b, b < w.heap.size → own b = none → own' b = none ∧ w'.heap[b]? = w.heap[b]?
  loc : ∀ id, loc id ≠ none → loc' id = loc id ∨ loc' id = some none
theorem Stp.refl (w : World) (own : Nat → Option Nat) (loc : Loc) : Stp w own loc w own loc :=
  ⟨rfl, rfl, rfl, Nat.le_refl _, fun _ _ h => ⟨h, rfl⟩, fun _ _ => .inl rfl⟩
theorem Stp.trans {w w' w'' : World} {own own' own'' : Nat → Option Nat} {loc loc' loc'' : Loc} (h : Stp w own loc w' own' loc') (k : Stp w' own' loc' w'' own'' loc'') :
    Stp w own loc w'' own'' loc'' where
  os := k.os.trans h.os
  tape := k.tape.trans h.tape
  output := k.output.trans h.output
  size := Nat.le_trans h.size k.size
  block := fun b hb ho => by
    obtain ⟨h1, h2⟩ := h.block b hb ho
    obtain ⟨h3, h4⟩ := k.block b (Nat.lt_of_lt_of_le hb h.size) h1
    exact ⟨h3, h4.trans h2⟩
  loc := fun id hid => by
    rcases h.loc id hid with h1 | h1
    · rcases k.loc id (by rw [h1]; exact hid) with h2 | h2
      · exact .inl (h2.trans h1)
      · exact .inr h2
    · rcases k.loc id (by rw [h1]; simp) with h2 | h2
      · exact .inr (h2.trans h1)
      · exact .inr h2
theorem cell_of_heap {w w' : World} {b off : Nat} {s : Option Nat} (h : w'.heap[b]? = w.heap[b]?) : w'.cell? ⟨b, off, s⟩ = w.cell? ⟨b, off, s⟩ := by
  simp [World.cell?, h]
theorem RV.stp {n0 : Nat} {w w' : World} {own own' : Nat → Option Nat} {loc loc' : Loc} {v : V} {x : Value} (hs : Stp w own loc w' own' loc')
    (h : RV w (okf own n0 w.heap.size) loc v x) : RV w' (okf own' n0 w'.heap.size) loc' v x :=
  h.mono (fun f b off y ho hy => by rw [cell_of_heap (hs.block b ho.2.1 ho.1).2]; exact hy)
    (fun f b ho => ⟨(hs.block b ho.2.1 ho.1).1, Nat.lt_of_lt_of_le ho.2.1 hs.size, ho.2.2⟩) hs.loc
theorem RVs.stp {n0 : Nat} {w w' : World} {own own' : Nat → Option Nat} {loc loc' : Loc} {v : List V} {x : List Value} (hs : Stp w own loc w' own' loc')
    (h : RVs w (okf own n0 w.heap.size) loc v x) : RVs w' (okf own' n0 w'.heap.size) loc' v x :=
  ⟨h.1, fun i a b ha hb => (h.2 i a b ha hb).stp hs⟩
theorem OR.stp {n0 : Nat} {w w' : World} {own own' : Nat → Option Nat} {loc loc' : Loc} {p : Pl} {o : Ob} (hs : Stp w own loc w' own' loc')
    (hb : w'.heap[p.b]? = w.heap[p.b]?) (h : OR w (okf own n0 w.heap.size) loc p o) : OR w' (okf own' n0 w'.heap.size) loc' p o where
  mem := by rw [hb]; exact h.mem
  k := h.k
  len := h.len
  rows := h.rows
  cells := fun i j v hv => by
    obtain ⟨x, h1, h2⟩ := h.cells i j v hv
    exact ⟨x, by rw [cell_of_heap hb]; exact h1, h2.stp hs⟩
  cap := h.cap
theorem XR.stp {n0 : Nat} {w w' : World} {own own' : Nat → Option Nat} {loc loc' : Loc} {p : Pl} {o : Ob} (hs : Stp w own loc w' own' loc')
    (hb : w'.heap[p.b]? = w.heap[p.b]?) (h : XR w (okf own n0 w.heap.size) loc p o) : XR w' (okf own' n0 w'.heap.size) loc' p o where
  c := fun e => (h.c e).stp hs hb
  m := fun e => by
    obtain ⟨es, h1, h2, h3⟩ := (h.m e).mem
    refine ⟨(h.m e).k, es, hb.trans h1, h2, fun i e he => ?_⟩
    obtain ⟨h4, kv, vv, h5, h6, h7⟩ := h3 i e he
    exact ⟨h4, kv, vv, h5, h6.stp hs, h7.stp hs⟩
  i := fun e => by
    obtain ⟨id, b, since, seen, h1, h2, h3⟩ := (h.i e).mem
    exact ⟨(h.i e).k, id, b, since, seen, h1, h2.stp hs, hb.trans h3⟩
  lt := h.lt
end Go.Proofs.YtbojpedklnmidaaGreat.D
end
section
set_option linter.unusedVariables false
set_option linter.unusedSectionVars false
set_option linter.unusedSimpArgs false
set_option linter.constructorNameAsVariable false
/- The operations over plain values. No condition. -/
namespace Go.Proofs.YtbojpedklnmidaaGreat.D
open Go Go.RowKit
inductive Od where
  | t (n : Nat)
  | k (v : V)
inductive Md where
  | fz
  | own (k : Nat)
inductive Ok where
  | mv
  | pick
  | bin (op : BinOp)
  | bb (op : BinOp)
  | eqs (neg : Bool) (ks : List Nat)
  | nilq (kd : Nat) (neg : Bool)
  | un (op : UnOp)
  | conv (k : IntKind)
  | box (n : Option Nat)
  | alloc (z : List V)
  | bld (z : List V) (ps : List (Nat × Nat))
  | bsl (k : Nat) (z : List V) (ps : List Nat) (n : Nat) (fz : Bool)
  | ld (n : Option Nat)
  | st (n : Nat)
  | fa (off : Nat)
  | fld (off : Nat) (n : Option Nat)
  | ia (k : Nat)
  | iar (len k : Nat)
  | slc (k : Nat) (lo hi : Bool)
  | slc3
  | mks (k : Nat) (z : List V) (fz : Bool)
  | len
  | slen
  | app (k : Nat)
  | cpy (k : Nat)
  | clr (k : Nat) (z : List V)
  | mx
  | mn
  | ext (i : Nat)
  | mkf (f : Nat)
  | call (f : Nat) (m : Md)
  | callv (m : Md)
  | rcall (f : Nat)
  | capo
  | appz (k : Nat) (z : List V)
  | mkm
  | mlk (st : Bool) (ks : List Nat) (z : V) (two : Bool)
  | mup (st : Bool) (ks : List Nat)
  | mrg
  | mnx
  | ent
def hintFz : Ok → Option Bool
  | .bsl _ _ _ _ fz => some fz
  | .mks _ _ fz => some fz
  | _ => none
abbrev Ups := List (Nat × Option Ob)
abbrev OB := Nat → Option Ob
def cellsV : V → List V
  | .ag l => l
  | v => [v]
def leaf : V → Bool
  | .c v => v.oneCell'
  | .z | .im _ _ | .sl _ _ _ | .pt _ _ _ | .bp _ | .fn _ _ | .mp _ => true
  | _ => false
def okRow (k : Nat) (r : List V) : Bool := r.length == k && r.all leaf
def pack : Option Nat → List V → Option V
  | none, [v] => some v
  | none, _ => none
  | some n, l => if l.length = n then some (.ag l) else none
def rowsOf (ob : OB) : V → Option (List (List V))
  | .im _ l => some l
  | .z => some []
  | .sl id off len => (ob id).bind fun o => if off + len ≤ o.l.length then some ((o.l.drop off).take len) else none
  | _ => none
def lenOf : V → Option Nat
  | .im _ l => some l.length
  | .z => some 0
  | .sl _ _ len => some len
  | _ => none
def toStr : V → Option ByteArray
  | .c (.string s) => some s
  | _ => none
def lenS (ob : OB) : V → Option Nat
  | .im _ l => some l.length
  | .z => some 0
  | .sl id _ len => (ob id).map fun _ => len
  | _ => none
def capS (ob : OB) : V → Option Nat
  | .z => some 0
  | .sl id off _ => (ob id).bind fun o => o.cap.map fun c => c - off
  | _ => none
def grown (cap : Option Nat) (id n : Nat) : Ups :=
  match cap with
  | some c => if c < n then [] else [(id, none)]
  | none => [(id, none)]
def intsOp (op : BinOp) (k : IntKind) (a b : Int) : Option Value :=
  match op with
  | .add => some (.int k (k.wrap (a + b)))
  | .sub => some (.int k (k.wrap (a - b)))
  | .mul => some (.int k (k.wrap (a * b)))
  | .quo => if b = 0 then none else some (.int k (k.wrap (a.tdiv b)))
  | .rem => if b = 0 then none else some (.int k (a.tmod b))
  | .eql => some (.bool (decide (a = b)))
  | .neq => some (.bool (!decide (a = b)))
  | .lss => some (.bool (decide (a < b)))
  | .leq => some (.bool (decide (a ≤ b)))
  | .gtr => some (.bool (decide (b < a)))
  | .geq => some (.bool (decide (b ≤ a)))
  | .shr => if 0 ≤ b ∧ b ≤ k.bits then some (.int k (a / 2 ^ b.toNat)) else none
  | _ => none
def strsOp (op : BinOp) (a b : ByteArray) : Option Value :=
  match op with
  | .eql => some (.bool (decide (a.toList = b.toList)))
  | .neq => some (.bool (!decide (a.toList = b.toList)))
  | .lss => some (.bool (Op.bytesLess a.toList b.toList))
  | .leq => some (.bool (Op.bytesLess a.toList b.toList || decide (a.toList = b.toList)))
  | .gtr => some (.bool (!(Op.bytesLess a.toList b.toList || decide (a.toList = b.toList))))
  | .geq => some (.bool (!Op.bytesLess a.toList b.toList))
  | _ => none
def binS (op : BinOp) : Value → Value → Option Value
  | .int k a, .int k' b => if k = k' then intsOp op k a b else none
  | .string a, .string b => strsOp op a b
  | _, _ => none
def boolOp (op : BinOp) (a b : Bool) : Option Bool :=
  match op with
  | .eql => some (a == b)
  | .neq => some (!(a == b))
  | _ => none
def unS : UnOp → Value → Option Value
  | .not, .bool b => some (.bool !b)
  | .neg, .int k n => some (.int k (k.wrap (0 - n)))
  | _, _ => none
def eqS : Nat → Value → Value → Option Bool
  | 0, .int k a, .int k' b => if k = k' then some (decide (a = b)) else none
  | 1, .string a, .string b => some (decide (a.toList = b.toList))
  | 2, .bool a, .bool b => some (a == b)
  | _, _, _ => none
def eqCells : List Nat → List V → List V → Option Bool
  | [], [], [] => some true
  | k :: ks, .c a :: l, .c b :: m => (eqS k a b).bind fun p => (eqCells ks l m).map fun q => p && q
  | _, _, _ => none
def keyC : Bool → V → Option (List V)
  | false, .c a => some [.c a]
  | true, .ag l => some l
  | _, _ => none
def keyOk (st : Bool) (ks : List Nat) (k : V) : Bool := match keyC st k with
  | some c => c.length == ks.length
  | none => false
def keyEq (st : Bool) (ks : List Nat) (k kv : V) : Option Bool := (keyC st k).bind fun a => (keyC st kv).bind fun b => eqCells ks a b
def posM (st : Bool) (ks : List Nat) (k : V) : List (List V) → Option (Option Nat)
  | [] => some none
  | [kv, _] :: l => (keyEq st ks k kv).bind fun b => if b then some (some 0) else (posM st ks k l).map fun q => q.map (· + 1)
  | _ :: _ => none
def valM (z : V) (l : List (List V)) : Option Nat → V
  | some i => ((l[i]?).bind (·[1]?)).getD .u
  | none => z
def setM (k v : V) (l : List (List V)) : Option Nat → List (List V)
  | some i => l.set i [k, v]
  | none => l ++ [[k, v]]
def entV (ob : Nat → Option Ob) : List (List V) → Option V
  | [.mp id, .c (.int .i64 s)] :: seen => (ob id).bind fun m => if (m.l.length : Int) = s then (seen.getLast?).bind fun r => match r with
    | [.c (.int .i64 n)] => (m.l[n.toNat]?).bind fun row => match row with
      | [kv, vv] => some (.tp [kv, vv])
      | _ => none
    | _ => none else none
  | _ => none
def eqA (ks : List Nat) : V → V → Option Bool
  | .ag l, .ag m => eqCells ks l m
  | _, _ => none
def isNil (ob : OB) : Nat → V → Option V
  | 0, .z => some .q
  | 0, .im _ [] => some .q
  | 0, .im _ (_ :: _) => some (.c (.bool false))
  | 0, .sl id _ _ => (ob id).map fun _ => .c (.bool false)
  | 1, .c (.pointer none) => some (.c (.bool true))
  | 1, .pt id _ _ => (ob id).map fun _ => .c (.bool false)
  | 1, .bp _ => some (.c (.bool false))
  | 2, .c .nilFunc => some (.c (.bool true))
  | 2, .fn _ _ => some (.c (.bool false))
  | 3, .c (.map none) => some (.c (.bool true))
  | _, _ => none
def negV (neg : Bool) : V → V
  | .c (.bool q) => .c (.bool (if neg then !q else q))
  | v => v
def fill (cells : List V) : List (Nat × Nat) → List V → Option (List V)
  | [], [] => some cells
  | (off, n) :: ps, v :: vs => if (cellsV v).length = n ∧ off + n ≤ cells.length ∧ (cellsV v).all leaf then fill (cells.take off ++ cellsV v ++ cells.drop (off + n)) ps vs else none
  | _, _ => none
def toInt : V → Option Int
  | .c (.int _ n) => some n
  | _ => none
def toBool : V → Option Bool
  | .c (.bool b) => some b
  | _ => none
def toC : V → Option Value
  | .c v => some v
  | _ => none
def toPt : V → Option (Nat × Nat × Nat)
  | .pt id i o => some (id, i, o)
  | _ => none
def toAg : V → Option (List V)
  | .ag l => some l
  | _ => none
def toTp : V → Option (List V)
  | .tp l => some l
  | _ => none
def mxS : Value → Value → Option Value
  | .int k a, .int _ b => some (.int k (if b > a then b else a))
  | _, _ => none
def mnS : Value → Value → Option Value
  | .int k a, .int _ b => some (.int k (if b < a then b else a))
  | _, _ => none
def ldV (ob : OB) (n : Option Nat) : V → Option V
  | .pt id i o => (ob id).bind fun x => (x.l[i]?).bind fun row => if o + n.getD 1 ≤ row.length then pack n ((row.drop o).take (n.getD 1)) else none
  | .bp l => if n.getD 1 ≤ l.length then pack n (l.take (n.getD 1)) else none
  | _ => none
def faV (ob : OB) (off : Nat) : V → Option V
  | .pt id i o => (ob id).bind fun _ => some (.pt id i (o + off))
  | .bp l => some (.bp (l.drop off))
  | _ => none
def iaV (ob : OB) (k : Nat) (x : V) (i : Int) : Option V :=
  match x with
  | .im _ l => if 0 ≤ i ∧ i < l.length then (l[i.toNat]?).bind fun r => if r.length = k then some (.bp r) else none else none
  | .sl id off len => (ob id).bind fun o => if 0 ≤ i ∧ i < len ∧ o.k = k then some (.pt id (off + i.toNat) 0) else none
  | _ => none
def sliceV (ob : OB) (k : Nat) (x : V) (lo hi : Option Int) : Option V :=
  match x with
  | .im f l =>
    let h := hi.getD l.length
    let a := lo.getD 0
    if f ≠ .o ∧ (∀ ch ∈ l, ch.length = k) ∧ 0 ≤ a ∧ a ≤ h ∧ h ≤ l.length then some (.im f ((l.take h.toNat).drop a.toNat)) else none
  | .z => if lo.getD 0 = 0 ∧ hi.getD 0 = 0 then some V.z else none
  | .sl id off len => (ob id).bind fun o =>
    let h := hi.getD len
    let a := lo.getD 0
    if o.k = k ∧ 0 ≤ a ∧ a ≤ h ∧ off + h ≤ o.l.length then
      (if a = 0 then some (.sl id off h.toNat) else if a = h then some (.im .b []) else some (.sl id (off + a.toNat) (h - a).toNat))
    else none
  | _ => none
def over (l : List (List V)) (at_ : Nat) (xs : List (List V)) : List (List V) := l.take at_ ++ xs ++ l.drop (at_ + xs.length)
def maxLen : Nat := 4294967296
def maxLit : Nat := 16777216
def opF (op : Ok) (vs : List V) (ob : OB) (nid : Nat) : Option (V × Ups) :=
  match op, vs with
  | .mv, [x] => some (x, [])
  | .pick, [b, x, y] => (toBool b).map fun b => (if b then x else y, [])
  | .bin op, [a, b] => (toC a).bind fun a => (toC b).bind fun b => (binS op a b).map fun r => (.c r, [])
  | .bb op, [a, b] => (toBool a).bind fun a => (toBool b).bind fun b => (boolOp op a b).map fun r => (.c (.bool r), [])
  | .eqs neg ks, [x, y] => (eqA ks x y).map fun q => (.c (.bool (if neg then !q else q)), [])
  | .nilq kd neg, [x] => (isNil ob kd x).map fun v => (negV neg v, [])
  | .un op, [a] => (toC a).bind fun a => (unS op a).map fun r => (.c r, [])
  | .conv k, [a] => (toInt a).map fun n => (.c (.int k (k.wrap n)), [])
  | .box n, [x] => if okRow (n.getD 1) (cellsV x) then some (.pt nid 0 0, [(nid, some ⟨n.getD 1, [cellsV x], none⟩)]) else none
  | .alloc z, [] => some (.pt nid 0 0, [(nid, some ⟨z.length, [z], none⟩)])
  | .bld z ps, vs => (fill z ps vs).map fun l => (.ag l, [])
  | .bsl k z ps n fz, vs => (fill ((List.replicate n z).flatten) (ps.map fun i => (i * k, k)) vs).bind fun l =>
      let rows := (List.range n).map fun i => (l.drop (i * k)).take k
      if rows.all (okRow k) then (if n = 0 then some (V.z, []) else if fz then some (.im .b rows, []) else some (.sl nid 0 n, [(nid, some ⟨k, rows, none⟩)])) else none
  | .ld n, [a] => (ldV ob n a).map fun v => (v, [])
  | .st n, [a, v] => (toPt a).bind fun q => (ob q.1).bind fun x => (x.l[q.2.1]?).bind fun row =>
      if (cellsV v).length = n ∧ (cellsV v).all leaf ∧ q.2.2 + n ≤ row.length then
        some (.u, [(q.1, some ⟨x.k, x.l.set q.2.1 (row.take q.2.2 ++ cellsV v ++ row.drop (q.2.2 + n)), x.cap⟩)]) else none
  | .fa off, [a] => (faV ob off a).map fun v => (v, [])
  | .fld off n, [a] => (toAg a).bind fun l => if off + n.getD 1 ≤ l.length then (pack n ((l.drop off).take (n.getD 1))).map fun v => (v, []) else none
  | .ia k, [x, i] => (toInt i).bind fun i => (iaV ob k x i).map fun v => (v, [])
  | .iar len k, [x, i] => (toInt i).bind fun i => if 0 ≤ i ∧ i < len then (faV ob (i.toNat * k) x).map fun v => (v, []) else none
  | .slc k lo hi, x :: bs =>
    match lo, hi, bs with
    | false, false, [] => (sliceV ob k x none none).map fun v => (v, [])
    | true, false, [a] => (toInt a).bind fun a => (sliceV ob k x (some a) none).map fun v => (v, [])
    | false, true, [b] => (toInt b).bind fun b => (sliceV ob k x none (some b)).map fun v => (v, [])
    | true, true, [a, b] => (toInt a).bind fun a => (toInt b).bind fun b => (sliceV ob k x (some a) (some b)).map fun v => (v, [])
    | _, _, _ => none
  | .slc3, [x, a, b, c] => (toInt a).bind fun a => (toInt b).bind fun b => (toInt c).bind fun c => (lenS ob x).bind fun n => if 0 ≤ a ∧ a ≤ b ∧ b ≤ c ∧ c ≤ n then some (.u, []) else none
  | .mks k z fz, [n, m] => (toInt n).bind fun n => (toInt m).bind fun m => if n = m ∧ 0 ≤ n ∧ n ≤ maxLen then (if fz then some (.im .b (List.replicate n.toNat z), []) else some (.sl nid 0 n.toNat, [(nid, some ⟨k, List.replicate n.toNat z, none⟩)])) else none
  | .len, [x] => (lenOf x).map fun (n : Nat) => (.c (.int .i64 (n : Int)), [])
  | .slen, [x] => (toStr x).map fun s => (.c (.int .i64 (s.size : Int)), [])
  | .app k, [s, x] => (rowsOf ob x).bind fun xs => if xs.all (okRow k) then
      (match s with
      | .z => if xs.length = 0 then some (V.z, []) else if xs.length ≤ maxLen then some (.sl nid 0 xs.length, [(nid, some ⟨k, xs, none⟩)]) else none
      | .sl id off len => (ob id).bind fun o =>
        if o.k = k ∧ off + len ≤ o.l.length ∧ len + xs.length ≤ maxLen then
          (if off + len + xs.length ≤ o.l.length then some (.sl id off (len + xs.length), [(id, some ⟨k, over o.l (off + len) xs, o.cap⟩)])
          else if off = 0 then some (.sl nid 0 (len + xs.length), grown o.cap id (len + xs.length) ++ [(nid, some ⟨k, o.l.take len ++ xs, none⟩)]) else none)
        else none
      | _ => none) else none
  | .cpy k, [d, x] => (rowsOf ob x).bind fun xs =>
      (match d with
      | .sl id off len => (ob id).bind fun o => if (xs.take len).all (okRow k) = true ∧ o.k = k ∧ off + len ≤ o.l.length then
          some (.c (.int .i64 ((min xs.length len : Nat) : Int)), [(id, some ⟨k, over o.l off (xs.take len), o.cap⟩)]) else none
      | .im _ [] | .z => some (.c (.int .i64 0), [])
      | _ => none)
  | .clr k z, [d] => match d with
      | .sl id off len => (ob id).bind fun o => if o.k = k ∧ off + len ≤ o.l.length then
          some (.tp [], [(id, some ⟨k, over o.l off (List.replicate len z), o.cap⟩)]) else none
      | .im _ [] | .z => some (.tp [], [])
      | _ => none
  | .mx, [a, b] => (toC a).bind fun a => (toC b).bind fun b => (mxS a b).map fun r => (.c r, [])
  | .mn, [a, b] => (toC a).bind fun a => (toC b).bind fun b => (mnS a b).map fun r => (.c r, [])
  | .appz k z, [s, n] => (toInt n).bind fun n => match s with
      | .sl id off len => (ob id).bind fun o => o.cap.bind fun c => if o.k = k ∧ off = 0 ∧ len ≤ o.l.length ∧ 0 < n ∧ len + n.toNat ≤ maxLen ∧ c < len + n.toNat then
          some (.sl nid 0 (len + n.toNat), [(nid, some ⟨k, o.l.take len ++ List.replicate n.toNat z, none⟩)]) else none
      | _ => none
  | .capo, [x] => (capS ob x).map fun (n : Nat) => (.c (.int .i64 (n : Int)), [])
  | .mkm, [] => some (.mp nid, [(nid, some ⟨0, [], none⟩)])
  | .mlk st ks z two, [m, k] => match m with
      | .mp id => (ob id).bind fun o => if keyOk st ks k then (posM st ks k o.l).map fun q => (if two then .tp [valM z o.l q, .c (.bool q.isSome)] else valM z o.l q, []) else none
      | _ => none
  | .mup st ks, [m, k, v] => match m with
      | .mp id => (ob id).bind fun o => if keyOk st ks k then (posM st ks k o.l).map fun q => (.u, [(id, some ⟨0, setM k v o.l q, none⟩)]) else none
      | _ => none
  | .mrg, [m] => match m with
      | .mp id => (ob id).bind fun o => some (.mi nid, [(nid, some ⟨0, [[.mp id, .c (.int .i64 (o.l.length : Int))]], none⟩)])
      | _ => none
  | .ent, [m] => match m with
      | .mi it => (ob it).bind fun o => (entV ob o.l).map fun v => (v, [])
      | _ => none
  | .ext i, [a] => (toTp a).bind fun l => (l[i]?).map fun v => (v, [])
  | .mkf f, vs => some (.fn f vs, [])
  | _, _ => none
def isLoud : Ok → Bool
  | .st _ | .app _ | .cpy _ | .clr _ _ | .rcall _ | .mup _ _ | .mnx => true
  | _ => false
end Go.Proofs.YtbojpedklnmidaaGreat.D
end
section
set_option linter.unusedVariables false
set_option linter.unusedSectionVars false
set_option linter.unusedSimpArgs false
set_option linter.constructorNameAsVariable false
/- How the store's changes lie in memory. No condition. -/
namespace Go.Proofs.YtbojpedklnmidaaGreat.D
open Go Go.RowKit
def apps (ob : OB) : Ups → OB
  | [] => ob
  | (i, o) :: l => apps (fun j => if j = i then o else ob j) l
theorem el_some {l : List (List V)} {i j : Nat} {v : V} (h : el l i j = some v) : ∃ r, l[i]? = some r ∧ r[j]? = some v := by
  unfold el at h
  cases hl : l[i]? with
  | none => rw [hl] at h; cases h
  | some r => rw [hl] at h; exact ⟨r, rfl, h⟩
theorem el_mk {l : List (List V)} {i j : Nat} {v : V} {r : List V} (h : l[i]? = some r) (h' : r[j]? = some v) : el l i j = some v := by
  unfold el; rw [h]; exact h'
theorem el_lt {l : List (List V)} {i j : Nat} {v : V} {k : Nat} (hk : ∀ ch ∈ l, ch.length = k) (h : el l i j = some v) : i < l.length ∧ j < k := by
  obtain ⟨r, h1, h2⟩ := el_some h
  obtain ⟨a, b⟩ := List.getElem?_eq_some_iff.1 h1
  obtain ⟨c, d⟩ := List.getElem?_eq_some_iff.1 h2
  have hr := hk r (b ▸ List.getElem_mem a)
  omega
theorem flat_at : ∀ (l : List (List V)) (k i j : Nat), (∀ ch ∈ l, ch.length = k) → j < k → l.flatten[i * k + j]? = el l i j
  | [], k, i, j, _, _ => by simp [el]
  | r :: l, k, 0, j, hk, hj => by
    have hr := hk r (by simp)
    simp [el, List.getElem?_append, hr, hj]
  | r :: l, k, i + 1, j, hk, hj => by
    have hr := hk r (by simp)
    have e : (i + 1) * k + j = r.length + (i * k + j) := by rw [hr, Nat.add_mul]; omega
    have ih := flat_at l k i j (fun ch h => hk ch (by simp [h])) hj
    rw [e, List.flatten_cons, List.getElem?_append_right (Nat.le_add_right _ _), Nat.add_sub_cancel_left, ih]
    simp [el]
theorem flat_len : ∀ (l : List (List V)) (k : Nat), (∀ ch ∈ l, ch.length = k) → l.flatten.length = l.length * k
  | [], k, _ => by simp
  | r :: l, k, hk => by
    have hr := hk r (by simp)
    have ih := flat_len l k (fun ch h => hk ch (by simp [h]))
    simp only [List.flatten_cons, List.length_append, List.length_cons, ih, hr, Nat.add_mul]
    omega
theorem pos_eq {k i j i' j' : Nat} (hj : j < k) (hj' : j' < k) (h : i * k + j = i' * k + j') : i = i' ∧ j = j' := by
  have h1 : (i * k + j) / k = i := by
    rw [Nat.mul_comm, Nat.mul_add_div (by omega), Nat.div_eq_of_lt hj, Nat.add_zero]
  have h2 : (i' * k + j') / k = i' := by
    rw [Nat.mul_comm, Nat.mul_add_div (by omega), Nat.div_eq_of_lt hj', Nat.add_zero]
  have : i = i' := by rw [← h1, ← h2, h]
  subst this
  exact ⟨rfl, by omega⟩
theorem setRow_far (w : World) (g b : Nat) (cs : Array Value) (h : b ≠ g) : (w.setRow g cs).heap[b]? = w.heap[b]? := by
  simp only [World.setRow, Array.getElem?_modify]
  rw [if_neg (by omega)]
theorem setRow_size (w : World) (g : Nat) (cs : Array Value) : (w.setRow g cs).heap.size = w.heap.size := by simp [World.setRow]
section
variable {n0 : Nat} {w : World} {own : Nat → Option Nat} {loc : Loc} {ob : OB} [Bk]
theorem alloc_heap (o : Obj) (b : Nat) (h : b < w.heap.size) : (w.alloc o).heap[b]? = w.heap[b]? := Below.heap_alloc w o b h
theorem alloc_new (w : World) (o : Obj) : (w.alloc o).heap[w.heap.size]? = some o := by
  show (w.heap.push o)[w.heap.size]? = _
  simp
theorem new_ob (hwf : WF n0 w own loc ob) {nid : Nat} (hnid : loc nid = none) (cs : Array Value) (t : TypeId) (k C : Nat) (rows : List (List V)) (cap : Option Nat)
    (hC : C * k ≤ cs.size) (hlen : rows.length ≤ C) (hk : ∀ ch ∈ rows, ch.length = k) (hcap : ∀ c, cap = some c → c = C)
    (hc : ∀ i j v, el rows i j = some v → ∃ x, cs[i * k + j]? = some x ∧ RV w (okf own n0 w.heap.size) loc v x) :
    WF n0 (w.alloc (.cells cs t)) (fun b => if b = w.heap.size then some nid else own b) (fun id => if id = nid then some (some ⟨w.heap.size, 0, k, C, 0⟩) else loc id) (fun j => if j = nid then some ⟨k, rows, cap⟩ else ob j) ∧
    Stp w own loc (w.alloc (.cells cs t)) (fun b => if b = w.heap.size then some nid else own b) (fun id => if id = nid then some (some ⟨w.heap.size, 0, k, C, 0⟩) else loc id) := by
  have hs : Stp w own loc (w.alloc (.cells cs t)) (fun b => if b = w.heap.size then some nid else own b) (fun id => if id = nid then some (some ⟨w.heap.size, 0, k, C, 0⟩) else loc id) := by
    refine ⟨rfl, rfl, rfl, by simp, fun b hb ho => ⟨by rw [if_neg (by omega)]; exact ho, alloc_heap _ _ hb⟩, fun id hid => ?_⟩
    by_cases h : id = nid
    · subst h; exact absurd hnid hid
    · left; simp [h]
  refine ⟨⟨fun id o h => ?_, fun id p h => ?_, fun b id h => ?_⟩, hs⟩
  · by_cases hid : id = nid
    · subst hid
      simp only [if_true] at h
      cases h
      refine ⟨⟨w.heap.size, 0, k, C, 0⟩, by simp, .of rfl ⟨⟨cs, t, alloc_new _ _, by simpa using hC⟩, rfl, hlen, hk, fun i j v hv => ?_, hcap⟩⟩
      obtain ⟨x, h1, h2⟩ := hc i j v hv
      exact ⟨x, by simpa using h1, h2.stp hs⟩
    · simp only [hid, if_false] at h
      obtain ⟨p, h1, h2⟩ := hwf.has id o h
      have hb := (hwf.owns id p h1).2
      exact ⟨p, by simp only [hid, if_false]; exact h1, h2.stp hs (alloc_heap _ _ hb)⟩
  · by_cases hid : id = nid
    · subst hid
      simp only [if_true, Option.some.injEq] at h
      subst h
      simp
    · simp only [hid, if_false] at h
      have := hwf.owns id p h
      exact ⟨by rw [if_neg (by omega)]; exact this.1, by simp; omega⟩
  · by_cases hb : b = w.heap.size
    · subst hb; simp
    · simp only [hb, if_false] at h
      have := hwf.lt b id h
      simp; omega
theorem new_blk (hwf : WF n0 w own loc ob) (o : Obj) :
    WF n0 (w.alloc o) own loc ob ∧ Stp w own loc (w.alloc o) own loc := by
  have hs : Stp w own loc (w.alloc o) own loc :=
    ⟨rfl, rfl, rfl, by simp, fun b hb ho => ⟨ho, alloc_heap _ _ hb⟩, fun id hid => .inl rfl⟩
  refine ⟨⟨fun id o h => ?_, fun id p h => ?_, fun b id h => ?_⟩, hs⟩
  · obtain ⟨p, h1, h2⟩ := hwf.has id o h
    exact ⟨p, h1, h2.stp hs (alloc_heap _ _ (hwf.owns id p h1).2)⟩
  · have := hwf.owns id p h
    exact ⟨this.1, by simp; omega⟩
  · have := hwf.lt b id h
    simp; omega
theorem upd_ob (hwf : WF n0 w own loc ob) {id : Nat} {p : Pl} (hl : loc id = some (some p)) (hmp : p.mp = 0) (o' : Ob) (cs cs' : Array Value) (t : TypeId)
    (hold : w.heap[p.b]? = some (.cells cs t (0, 0))) (hsz : cs'.size = cs.size) (hbig : p.base + p.cap * p.k ≤ cs.size)
    (hk : o'.k = p.k) (hlen : o'.l.length ≤ p.cap) (hr : ∀ ch ∈ o'.l, ch.length = p.k) (hcap : ∀ c, o'.cap = some c → c = p.cap)
    (hc : ∀ i j v, el o'.l i j = some v → ∃ x, cs'[p.base + i * p.k + j]? = some x ∧ RV w (okf own n0 w.heap.size) loc v x) :
    WF n0 (w.setRow p.b cs') own loc (fun j => if j = id then some o' else ob j) ∧ Stp w own loc (w.setRow p.b cs') own loc := by
  have ho := (hwf.owns id p hl).1
  have hs : Stp w own loc (w.setRow p.b cs') own loc := by
    refine ⟨rfl, rfl, rfl, by simp [setRow_size], fun b hb hb' => ⟨hb', setRow_far _ _ _ _ ?_⟩, fun id hid => .inl rfl⟩
    rintro rfl
    rw [ho] at hb'
    cases hb'
  have hnew := setRow_heap w p.b cs cs' t (0, 0) hold
  refine ⟨⟨fun i o h => ?_, fun i q h => ?_, fun b i h => ?_⟩, hs⟩
  · by_cases hi : i = id
    · subst hi
      simp only [if_true] at h
      cases h
      refine ⟨p, hl, .of hmp ⟨⟨cs', t, hnew, by rw [hsz]; exact hbig⟩, hk, hlen, hr, fun a j v hv => ?_, hcap⟩⟩
      obtain ⟨x, h1, h2⟩ := hc a j v hv
      exact ⟨x, by simp [World.cell?, hnew, h1], h2.stp hs⟩
    · simp only [hi, if_false] at h
      obtain ⟨q, h1, h2⟩ := hwf.has i o h
      refine ⟨q, h1, h2.stp hs (setRow_far _ _ _ _ ?_)⟩
      intro e
      have := (hwf.owns i q h1).1
      rw [e, ho] at this
      cases this
      exact hi rfl
  · rw [setRow_size]; exact hwf.owns i q h
  · rw [setRow_size]; exact hwf.lt b i h
theorem kill_ob (hwf : WF n0 w own loc ob) {id : Nat} (hid : loc id ≠ none) :
    WF n0 w (fun b => own b) (fun j => if j = id then some none else loc j) (fun j => if j = id then none else ob j) ∧
    Stp w own loc w (fun b => own b) (fun j => if j = id then some none else loc j) := by
  have hs : Stp w own loc w (fun b => own b) (fun j => if j = id then some none else loc j) := by
    refine ⟨rfl, rfl, rfl, Nat.le_refl _, fun b hb ho => ⟨ho, rfl⟩, fun j hj => ?_⟩
    by_cases h : j = id
    · right; simp [h]
    · left; simp [h]
  refine ⟨⟨fun i o h => ?_, fun i p h => ?_, fun b i h => hwf.lt b i h⟩, hs⟩
  · by_cases hi : i = id
    · simp [hi] at h
    · simp only [hi, if_false] at h
      obtain ⟨p, h1, h2⟩ := hwf.has i o h
      exact ⟨p, by simp only [hi, if_false]; exact h1, h2.stp hs rfl⟩
  · by_cases hi : i = id
    · simp [hi] at h
    · simp only [hi, if_false] at h
      exact hwf.owns i p h
theorem move_ob (hwf : WF n0 w own loc ob) {id nid : Nat} {p : Pl} (hl : loc id = some (some p)) (hmp : p.mp = 0) (hnid : loc nid = none) (o' : Ob) (cs cs' : Array Value) (t : TypeId)
    (hold : w.heap[p.b]? = some (.cells cs t (0, 0))) (hsz : cs'.size = cs.size) (hbig : p.base + p.cap * p.k ≤ cs.size)
    (hk : o'.k = p.k) (hlen : o'.l.length ≤ p.cap) (hr : ∀ ch ∈ o'.l, ch.length = p.k) (hcap : ∀ c, o'.cap = some c → c = p.cap)
    (hc : ∀ i j v, el o'.l i j = some v → ∃ x, cs'[p.base + i * p.k + j]? = some x ∧ RV w (okf own n0 w.heap.size) loc v x) :
    WF n0 (w.setRow p.b cs') (fun b => if b = p.b then some nid else own b) (fun j => if j = nid then some (some p) else if j = id then some none else loc j)
      (fun j => if j = nid then some o' else if j = id then none else ob j) ∧
    Stp w own loc (w.setRow p.b cs') (fun b => if b = p.b then some nid else own b) (fun j => if j = nid then some (some p) else if j = id then some none else loc j) := by
  have ho := (hwf.owns id p hl).1
  have hne : id ≠ nid := by rintro rfl; rw [hl] at hnid; cases hnid
  have hs : Stp w own loc (w.setRow p.b cs') (fun b => if b = p.b then some nid else own b) (fun j => if j = nid then some (some p) else if j = id then some none else loc j) := by
    refine ⟨rfl, rfl, rfl, by simp [setRow_size], fun b hb hb' => ?_, fun j hj => ?_⟩
    · have hbp : b ≠ p.b := by rintro rfl; rw [ho] at hb'; cases hb'
      exact ⟨by simp [hbp, hb'], setRow_far _ _ _ _ hbp⟩
    · have : j ≠ nid := by rintro rfl; exact hj hnid
      by_cases h : j = id
      · right; simp [h, hne]
      · left; simp [h, this]
  have hnew := setRow_heap w p.b cs cs' t (0, 0) hold
  refine ⟨⟨fun i o h => ?_, fun i q h => ?_, fun b i h => ?_⟩, hs⟩
  · by_cases hi : i = nid
    · subst hi
      simp only [if_true] at h
      cases h
      refine ⟨p, by simp, .of hmp ⟨⟨cs', t, hnew, by rw [hsz]; exact hbig⟩, hk, hlen, hr, fun a j v hv => ?_, hcap⟩⟩
      obtain ⟨x, h1, h2⟩ := hc a j v hv
      exact ⟨x, by simp [World.cell?, hnew, h1], h2.stp hs⟩
    · by_cases hi2 : i = id
      · simp [hi, hi2, hne] at h
      · simp only [hi, hi2, if_false] at h
        obtain ⟨q, h1, h2⟩ := hwf.has i o h
        refine ⟨q, by simp only [hi, hi2, if_false]; exact h1, h2.stp hs (setRow_far _ _ _ _ ?_)⟩
        intro e
        have := (hwf.owns i q h1).1
        rw [e, ho] at this
        cases this
        exact hi2 rfl
  · rw [setRow_size]
    by_cases hi : i = nid
    · subst hi
      simp only [if_true, Option.some.injEq] at h
      subst h
      exact ⟨by simp, (hwf.owns id p hl).2⟩
    · by_cases hi2 : i = id
      · simp [hi, hi2, hne] at h
      · simp only [hi, hi2, if_false] at h
        have hq := hwf.owns i q h
        refine ⟨?_, hq.2⟩
        have : q.b ≠ p.b := by
          intro e
          have := hq.1
          rw [e, ho] at this
          cases this
          exact hi2 rfl
        simp [this, hq.1]
  · rw [setRow_size]
    by_cases hb : b = p.b
    · subst hb; exact (hwf.owns id p hl).2
    · simp only [hb, if_false] at h
      exact hwf.lt b i h
end
end Go.Proofs.YtbojpedklnmidaaGreat.D
end
section
set_option linter.unusedVariables false
set_option linter.unusedSectionVars false
set_option linter.unusedSimpArgs false
set_option linter.constructorNameAsVariable false
/- The machine's operations, as those over plain values. No condition. -/
namespace Go.Proofs.YtbojpedklnmidaaGreat.D
open Go Go.RowKit
def toV : Value → Option V
  | .slice none 0 0 => some .z
  | .bool b => some (.c (.bool b))
  | .int k n => some (.c (.int k n))
  | .string s => some (.c (.string s))
  | .pointer none => some (.c (.pointer none))
  | .nilFunc => some (.c .nilFunc)
  | .map none => some (.c (.map none))
  | _ => none
def toVs : List Value → Option (List V)
  | [] => some []
  | x :: l => match toV x, toVs l with
    | some v, some m => some (v :: m)
    | _, _ => none
def constV : Value → Option V
  | .agg cs => (toVs cs.toList).map .ag
  | v => toV v
def comOd (nt : Nat) : Operand → Option Od
  | .tmp t => if t < nt then some (.t t) else none
  | .const v => (constV v).map .k
  | .func f => some (.k (.fn f []))
  | .global _ => none
def tySz (P : Program) (t : TypeId) : Option (Option Nat) :=
  match P.underlying t, P.info? t with
  | some (.struct _), some i | some (.array _ _), some i => some (some i.size)
  | some _, some i => if i.size = 1 then some none else none
  | _, _ => none
def sliceEl (P : Program) (t : TypeId) : Option TypeId :=
  match P.underlying t with
  | some (.slice e) => some e
  | _ => none
def zeroOf (P : Program) (t : TypeId) : Option (List V) := (P.info? t).bind fun i => i.zero.bind fun z => (toVs z.cells.toList).bind fun l => if l.length = i.size then some l else none
theorem RV.c_inv {w : World} {ok : Fl → Nat → Prop} {loc : Loc} {v x : Value} (h : RV w ok loc (.c v) x) : x = v := by cases h; rfl
theorem RV.z_inv {w : World} {ok : Fl → Nat → Prop} {loc : Loc} {x : Value} (h : RV w ok loc .z x) : ∃ a, x = .slice a 0 0 := by cases h; exact ⟨_, rfl⟩
theorem RV.ag_inv {w : World} {ok : Fl → Nat → Prop} {loc : Loc} {l : List V} {x : Value} (h : RV w ok loc (.ag l) x) : ∃ xs, x = .agg xs.toArray ∧ RVs w ok loc l xs := by
  cases h with | ag l xs hn h => exact ⟨xs, rfl, hn, h⟩
theorem RV.tp_inv {w : World} {ok : Fl → Nat → Prop} {loc : Loc} {l : List V} {x : Value} (h : RV w ok loc (.tp l) x) : ∃ xs, x = .tuple xs.toArray ∧ RVs w ok loc l xs := by
  cases h with | tp l xs hn h => exact ⟨xs, rfl, hn, h⟩
theorem toV_rv {w : World} {ok : Fl → Nat → Prop} {loc : Loc} {x : Value} {v : V} (h : toV x = some v) : RV w ok loc v x ∧ leaf v = true := by
  unfold toV at h
  split at h <;> first | (cases h; done) | (injection h with h; subst h; exact ⟨by constructor, rfl⟩)
theorem toVs_rv {w : World} {ok : Fl → Nat → Prop} {loc : Loc} : ∀ {xs : List Value} {l : List V}, toVs xs = some l → RVs w ok loc l xs ∧ l.all leaf = true
  | [], l, h => by simp only [toVs] at h; cases h; exact ⟨⟨rfl, fun i v x h => by cases h⟩, rfl⟩
  | x :: xs, l, h => by
    simp only [toVs] at h
    split at h
    · rename_i v m h1 h2
      injection h with h; subst h
      have a := toV_rv (w := w) (ok := ok) (loc := loc) h1
      have b := toVs_rv (w := w) (ok := ok) (loc := loc) h2
      refine ⟨⟨by simp [b.1.1], fun i v' x' h3 h4 => ?_⟩, by simp only [List.all_cons, a.2, b.2, Bool.and_true]⟩
      cases i with
      | zero => simp at h3 h4; subst h3; subst h4; exact a.1
      | succ i => exact b.1.2 i v' x' (by simpa using h3) (by simpa using h4)
    · cases h
theorem constV_rv {w : World} {ok : Fl → Nat → Prop} {loc : Loc} {x : Value} {v : V} (h : constV x = some v) : RV w ok loc v x := by
  unfold constV at h
  split at h
  · rename_i cs
    cases h1 : toVs cs.toList with
    | none => rw [h1] at h; cases h
    | some l =>
      rw [h1] at h; injection h with h; subst h
      have := (toVs_rv (w := w) (ok := ok) (loc := loc) h1).1
      have e : cs = cs.toList.toArray := by simp
      rw [e]
      exact .ag l cs.toList this.1 this.2
  · exact (toV_rv h).1
theorem leaf_one {w : World} {ok : Fl → Nat → Prop} {loc : Loc} {v : V} {x : Value} (h : RV w ok loc v x) (hl : leaf v = true) : x.oneCell' = true := by
  cases h with
  | c v => exact hl
  | u | ag | tp | q => simp [leaf] at hl
  | _ => rfl
section
variable {P : Program} {n0 : Nat} {w : World} {own : Nat → Option Nat} {loc : Loc} {ob : OB} {nid : Nat} [Bk]
def Does (P : Program) (n0 : Nat) (w : World) (own : Nat → Option Nat) (loc : Loc) (ob : OB) (nid : Nat) (s : Sem Next) (r : V) (us : Ups) : Prop :=
  ∃ x w' own' loc', (s.run P w = .ok (.value x) w' ∨ (s.run P w = .ok .skip w' ∧ x = undef)) ∧ RV w' (okf own' n0 w'.heap.size) loc' r x ∧
    WF n0 w' own' loc' (apps ob us) ∧ Stp w own loc w' own' loc' ∧ ∀ id, id ≠ nid → loc id = none → loc' id = none
theorem cells_rv {ok : Fl → Nat → Prop} {v : V} {x : Value} (h : RV w ok loc v x) (hl : (cellsV v).all leaf = true) :
    RVs w ok loc (cellsV v) x.cells.toList ∧ ∀ y ∈ x.cells.toList, y.oneCell' = true := by
  have key : RVs w ok loc (cellsV v) x.cells.toList := by
    by_cases hag : ∃ l, v = .ag l
    · obtain ⟨l, rfl⟩ := hag
      obtain ⟨xs, rfl, h1⟩ := h.ag_inv
      simpa [cellsV, Value.cells] using h1
    · have hc : cellsV v = [v] := by cases v <;> first | rfl | exact absurd ⟨_, rfl⟩ hag
      rw [hc] at hl ⊢
      have h1 := leaf_one h (by simpa using hl)
      have hx : x.cells.toList = [x] := by cases x <;> first | rfl | simp [Value.oneCell'] at h1
      rw [hx]
      refine ⟨rfl, fun i v' x' h2 h3 => ?_⟩
      cases i with
      | zero => simp at h2 h3; subst h2; subst h3; exact h
      | succ i => simp at h2
  refine ⟨key, fun y hy => ?_⟩
  obtain ⟨i, hi, rfl⟩ := List.getElem_of_mem hy
  have hi' : i < (cellsV v).length := by rw [← key.1]; exact hi
  exact leaf_one (key.2 i _ _ (List.getElem?_eq_getElem hi') (List.getElem?_eq_getElem hi)) (by
    have := List.all_eq_true.1 hl _ (List.getElem_mem hi')
    exact this)
end
end Go.Proofs.YtbojpedklnmidaaGreat.D
end
section
set_option linter.unusedVariables false
set_option linter.unusedSectionVars false
set_option linter.unusedSimpArgs false
set_option linter.constructorNameAsVariable false
/- The machine's operations, as those over plain values: loads, stores, what is made. No condition. -/
namespace Go.Proofs.YtbojpedklnmidaaGreat.D
open Go Go.RowKit
section
variable {P : Program} {n0 : Nat} {w : World} {own : Nat → Option Nat} {loc : Loc} {ob : OB} {nid : Nat} [Bk]
theorem info_of {t : TypeId} {i : TypeInfo} (h : P.info? t = some i) (w : World) : (typeInfo t).run P w = .ok i w := by simp [typeInfo, h]
theorem size_of {t : TypeId} {i : TypeInfo} (h : P.info? t = some i) (w : World) : (sizeOf t).run P w = .ok i.size w := by simp [sizeOf, info_of h]
theorem zero_of {t : TypeId} {i : TypeInfo} {z : Value} (h : P.info? t = some i) (hz : i.zero = some z) (w : World) : (zeroValue t).run P w = .ok z w := by simp [zeroValue, info_of h, hz]
theorem tySz_spec {t : TypeId} {sz : Option Nat} (h : tySz P t = some sz) (w : World) :
    (isAgg t).run P w = .ok sz.isSome w ∧ (sizeOf t).run P w = .ok (sz.getD 1) w := by
  unfold tySz at h
  split at h
  · rename_i fs i h1 h2; cases h; exact ⟨by simp [isAgg, run_underlying h1], by simp [size_of h2]⟩
  · rename_i a b i h1 h2; cases h; exact ⟨by simp [isAgg, run_underlying h1], by simp [size_of h2]⟩
  · rename_i d i h1 h2 h3 h4
    split at h
    · rename_i h5
      cases h
      refine ⟨?_, by simp [size_of h4, h5]⟩
      simp only [isAgg, Sem.run_bind, run_underlying h3, Result.andThen_ok]
      cases d <;> first | rfl | exact (h1 _ rfl).elim | exact (h2 _ _ rfl).elim
    · cases h
  · cases h
theorem addr_add (b off n : Nat) : (⟨b, off, none⟩ : Addr).add n = ⟨b, off + n, none⟩ := by unfold Addr.add; split <;> simp_all
theorem loadCells_run (b off : Nat) (ys : List Value) (hc : ∀ j y, ys[j]? = some y → w.cell? ⟨b, off + j, none⟩ = some y) :
    (loadCells ⟨b, off, none⟩ ys.length).run P w = .ok ys.toArray w :=
  run_loadCells_list w _ ys fun j v hj => by rw [addr_add]; exact hc j v hj
def packX : Option Nat → List Value → Value
  | none, l => l.headD undef
  | some _, l => .agg l.toArray
theorem pack_rv {ok : Fl → Nat → Prop} {sz : Option Nat} {l : List V} {v : V} {ys : List Value} (h : pack sz l = some v) (hy : RVs w ok loc l ys) : RV w ok loc v (packX sz ys) := by
  unfold pack at h
  split at h
  · injection h with h; subst h
    obtain ⟨h1, h2⟩ := hy
    match ys, h1 with
    | [y], _ => exact h2 0 _ y rfl rfl
  · cases h
  · split at h
    · injection h with h; subst h; exact .ag _ ys hy.1 hy.2
    · cases h
theorem loadVar_run {t : TypeId} {sz : Option Nat} (ht : tySz P t = some sz) (b off : Nat) (ys : List Value) (hy : ys.length = sz.getD 1)
    (hc : ∀ j y, ys[j]? = some y → w.cell? ⟨b, off + j, none⟩ = some y) : (loadVar t ⟨b, off, none⟩).run P w = .ok (packX sz ys) w := by
  obtain ⟨h1, h2⟩ := tySz_spec ht w
  cases sz with
  | none =>
    match ys, hy with
    | [y], _ =>
      have := hc 0 y rfl
      simp [loadVar, h1, packX]
      rw [show off = off + 0 from rfl, this]
  | some n =>
    simp only [Option.getD_some] at hy h2
    simp [loadVar, h1, h2, packX]
    rw [← hy, loadCells_run b off ys hc]
    rfl
theorem row_cells {ok : Fl → Nat → Prop} {p : Pl} {X : Ob} (hor : OR w ok loc p X) {i o n : Nat} {row : List V} (hi : X.l[i]? = some row) (hn : o + n ≤ row.length) :
    ∃ ys : List Value, ys.length = n ∧ RVs w ok loc ((row.drop o).take n) ys ∧ ∀ j y, ys[j]? = some y → w.cell? ⟨p.b, p.base + i * p.k + o + j, none⟩ = some y := by
  have key : ∀ j, j < n → ∃ x v, row[o + j]? = some v ∧ w.cell? ⟨p.b, p.base + i * p.k + o + j, none⟩ = some x ∧ RV w ok loc v x := fun j hj => by
    have hv := List.getElem?_eq_getElem (l := row) (i := o + j) (by omega)
    obtain ⟨x, h1, h2⟩ := hor.cells i (o + j) _ (el_mk hi hv)
    exact ⟨x, _, hv, by rw [← h1]; congr 2; omega, h2⟩
  refine ⟨(List.range n).map fun j => (w.cell? ⟨p.b, p.base + i * p.k + o + j, none⟩).getD undef, by simp, ⟨by simp; omega, fun j v x h1 h2 => ?_⟩, fun j y hj => ?_⟩
  · simp only [List.getElem?_take, List.getElem?_drop] at h1
    split at h1
    · rename_i hj
      obtain ⟨x', v', h3, h4, h5⟩ := key j hj
      rw [h3] at h1; cases h1
      simp [List.getElem?_map, List.getElem?_range hj, h4] at h2
      subst h2; exact h5
    · cases h1
  · have hjn : j < n := by
      have := (List.getElem?_eq_some_iff.1 hj).1
      simpa using this
    obtain ⟨x', v', h3, h4, h5⟩ := key j hjn
    simp [List.getElem?_map, List.getElem?_range hjn, h4] at hj
    rw [h4, hj]
theorem load_pt (hwf : WF n0 w own loc ob) {t : TypeId} {sz : Option Nat} (ht : tySz P t = some sz) {id i o : Nat} {X : Ob} {row : List V} {v : V} {x : Value}
    (hX : ob id = some X) (hi : X.l[i]? = some row) (hn : o + sz.getD 1 ≤ row.length) (hv : pack sz ((row.drop o).take (sz.getD 1)) = some v)
    (hx : RV w (okf own n0 w.heap.size) loc (.pt id i o) x) : ∃ y, (Instr.loadAt t x).run P w = .ok y w ∧ RV w (okf own n0 w.heap.size) loc v y := by
  obtain ⟨p, hp, hxr⟩ := hwf.has id X hX
  have hmp := pt_mp hx hp
  have hor := hxr.c hmp
  cases hx with
  | pt _ _ _ a hl hm h =>
    rw [h p hp]
    obtain ⟨ys, h1, h2, h3⟩ := row_cells hor hi hn
    refine ⟨packX sz ys, ?_, pack_rv hv h2⟩
    simp only [Instr.loadAt, Instr.sureAddr, Sem.run_bind, Sem.run_pure, Result.andThen_ok]
    exact loadVar_run ht p.b (p.base + i * p.k + o) ys h1 h3
theorem load_bp {ok : Fl → Nat → Prop} {t : TypeId} {sz : Option Nat} (ht : tySz P t = some sz) {l : List V} {v : V} {x : Value}
    (hn : sz.getD 1 ≤ l.length) (hv : pack sz (l.take (sz.getD 1)) = some v)
    (hx : RV w ok loc (.bp l) x) : ∃ y, (Instr.loadAt t x).run P w = .ok y w ∧ RV w ok loc v y := by
  cases hx with
  | bp _ b off ys ho h0 h =>
    have hys : ∀ j, j < sz.getD 1 → l[j]? = some (l[j]?.getD .u) := fun j hj => by
      rw [List.getElem?_eq_getElem (by omega)]; rfl
    refine ⟨packX sz ((List.range (sz.getD 1)).map ys), ?_, pack_rv hv ⟨by simp; omega, fun j v x h1 h2 => ?_⟩⟩
    · simp only [Instr.loadAt, Instr.sureAddr, Sem.run_bind, Sem.run_pure, Result.andThen_ok]
      refine loadVar_run ht b off _ (by simp) fun j y hj => ?_
      have hjn : j < sz.getD 1 := by
        have := (List.getElem?_eq_some_iff.1 hj).1
        simpa using this
      simp [List.getElem?_map, List.getElem?_range hjn] at hj
      rw [← hj]; exact h0 j _ (hys j hjn)
    · simp only [List.getElem?_take] at h1
      split at h1
      · rename_i hj
        simp [List.getElem?_map, List.getElem?_range hj] at h2
        subst h2; exact h j v h1
      · cases h1
theorem seg_get {α : Type} (l vs : List α) (a q : Nat) (h : a + vs.length ≤ l.length) :
    (l.take a ++ vs ++ l.drop (a + vs.length))[q]? = if q < a then l[q]? else if q < a + vs.length then vs[q - a]? else l[q]? := by
  have hta : (l.take a).length = a := by rw [List.length_take]; omega
  by_cases h1 : q < a
  · rw [if_pos h1, List.append_assoc, List.getElem?_append_left (by rw [hta]; exact h1), List.getElem?_take, if_pos h1]
  · rw [if_neg h1]
    by_cases h2 : q < a + vs.length
    · rw [if_pos h2, List.getElem?_append_left (by rw [List.length_append, hta]; exact h2), List.getElem?_append_right (by rw [hta]; omega), hta]
    · rw [if_neg h2, List.getElem?_append_right (by rw [List.length_append, hta]; omega), List.length_append, hta, List.getElem?_drop]
      congr 1; omega
theorem store_pt (hwf : WF n0 w own loc ob) {t : TypeId} {sz : Option Nat} (ht : tySz P t = some sz) {id i o : Nat} {X : Ob} {row : List V} {v : V} {x y : Value}
    (hX : ob id = some X) (hi : X.l[i]? = some row) (hn : o + sz.getD 1 ≤ row.length) (hv : (cellsV v).length = sz.getD 1) (hl : (cellsV v).all leaf = true)
    (hx : RV w (okf own n0 w.heap.size) loc (.pt id i o) x) (hy : RV w (okf own n0 w.heap.size) loc v y) :
    ∃ w', (Instr.storeAt t x y).run P w = .ok () w' ∧
      WF n0 w' own loc (fun j => if j = id then some ⟨X.k, X.l.set i (row.take o ++ cellsV v ++ row.drop (o + sz.getD 1)), X.cap⟩ else ob j) ∧ Stp w own loc w' own loc := by
  obtain ⟨p, hp, hxr⟩ := hwf.has id X hX
  have hmp := pt_mp hx hp
  have hor := hxr.c hmp
  obtain ⟨hcr, hone⟩ := cells_rv hy hl
  obtain ⟨cs, elt, hh, hbig⟩ := hor.mem
  have hrow : row.length = p.k := hor.rows row (List.mem_of_getElem? hi)
  have hil : i < X.l.length := (List.getElem?_eq_some_iff.1 hi).1
  have hlen := hor.len
  have hsz : y.cells.toList.length = sz.getD 1 := by rw [hcr.1, hv]
  have hbnd : p.base + i * p.k + o + sz.getD 1 ≤ cs.size := by
    have : (i + 1) * p.k ≤ p.cap * p.k := Nat.mul_le_mul_right _ (by omega)
    rw [Nat.add_mul] at this
    omega
  generalize hcs' : (cs.toList.take (p.base + i * p.k + o) ++ y.cells.toList ++ cs.toList.drop (p.base + i * p.k + o + sz.getD 1)).toArray = cs'
  have hsize : cs'.size = cs.size := by
    rw [← hcs']; simp [hsz]; omega
  have hget : ∀ q, cs'[q]? = if q < p.base + i * p.k + o then cs[q]? else if q < p.base + i * p.k + o + sz.getD 1 then y.cells.toList[q - (p.base + i * p.k + o)]? else cs[q]? := fun q => by
    have e := seg_get cs.toList y.cells.toList (p.base + i * p.k + o) q (by rw [hsz]; simpa using hbnd)
    rw [hsz] at e
    rw [← hcs', List.getElem?_toArray, e]
    simp only [Array.getElem?_toList]
  have := upd_ob hwf hp hmp ⟨X.k, X.l.set i (row.take o ++ cellsV v ++ row.drop (o + sz.getD 1)), X.cap⟩ cs cs' elt hh hsize hbig hor.k (by simpa using hlen)
    (fun ch hch => by
      rcases List.mem_or_eq_of_mem_set hch with h | h
      · exact hor.rows ch h
      · rw [h]; simp [hv]; omega) hor.cap
    (fun a j q hu => by
      obtain ⟨r, hr1, hr2⟩ := el_some hu
      simp only [List.getElem?_set] at hr1
      by_cases hai : i = a
      · subst hai
        simp only [if_true, hil, if_true, Option.some.injEq] at hr1
        subst hr1
        have e := seg_get row (cellsV v) o j (by rw [hv]; exact hn)
        rw [hv] at e
        rw [e] at hr2
        by_cases h1 : j < o
        · rw [if_pos h1] at hr2
          obtain ⟨z, hz1, hz2⟩ := hor.cells i j q (el_mk hi hr2)
          refine ⟨z, ?_, hz2⟩
          rw [hget, if_pos (by omega)]
          simpa [World.cell?, hh] using hz1
        · rw [if_neg h1] at hr2
          by_cases h2 : j < o + sz.getD 1
          · rw [if_pos h2] at hr2
            have hj' : j - o < y.cells.toList.length := by rw [hsz]; omega
            refine ⟨y.cells.toList[j - o], ?_, hcr.2 (j - o) q _ hr2 (List.getElem?_eq_getElem hj')⟩
            rw [hget, if_neg (by omega), if_pos (by omega), ← List.getElem?_eq_getElem hj']
            congr 1; omega
          · rw [if_neg h2] at hr2
            obtain ⟨z, hz1, hz2⟩ := hor.cells i j q (el_mk hi hr2)
            refine ⟨z, ?_, hz2⟩
            rw [hget, if_neg (by omega), if_neg (by omega)]
            simpa [World.cell?, hh] using hz1
      · rw [if_neg hai] at hr1
        obtain ⟨z, hz1, hz2⟩ := hor.cells a j q (el_mk hr1 hr2)
        have hj : j < p.k := by
          have := (List.getElem?_eq_some_iff.1 hr2).1
          rw [hor.rows r (List.mem_of_getElem? hr1)] at this
          exact this
        refine ⟨z, ?_, hz2⟩
        have hz : cs[p.base + a * p.k + j]? = some z := by simpa [World.cell?, hh] using hz1
        rw [hget]
        by_cases h1 : p.base + a * p.k + j < p.base + i * p.k + o
        · rw [if_pos h1]; exact hz
        · rw [if_neg h1, if_neg ?_]; exact hz
          intro h2
          have : (p.base + a * p.k + j) - p.base = a * p.k + j := by omega
          have e := pos_eq (i := a) (j := j) (i' := i) (j' := (a * p.k + j) - i * p.k) hj (by omega) (by omega)
          exact hai e.1.symm)
  refine ⟨w.setRow p.b cs', ?_, this⟩
  cases hx with
  | pt _ _ _ a hl hm h =>
    rw [h p hp]
    have hst := run_storeCells_at (P := P) p.b (p.base + i * p.k + o) elt y.cells.toList 0 cs w hh (by simp only [Nat.add_zero, hsz]; omega) hone
    have hsz2 : y.cells.size = sz.getD 1 := by rw [← hsz]; simp
    have hcs2 : (cs.toList.take (p.base + i * p.k + o + 0) ++ y.cells.toList ++ cs.toList.drop (p.base + i * p.k + o + 0 + y.cells.toList.length)).toArray = cs' := by rw [← hcs', hsz]; rfl
    rw [hcs2] at hst
    simp [Instr.storeAt, Instr.sureAddr, storeVar, (tySz_spec ht w).2, hsz2, hst]
end
end Go.Proofs.YtbojpedklnmidaaGreat.D
end
section
set_option linter.unusedVariables false
set_option linter.unusedSectionVars false
set_option linter.unusedSimpArgs false
set_option linter.constructorNameAsVariable false
/- The machine's operations, as those over plain values: slices. No condition. -/
namespace Go.Proofs.YtbojpedklnmidaaGreat.D
open Go Go.RowKit
section
variable {P : Program} {n0 : Nat} {w : World} {own : Nat → Option Nat} {loc : Loc} {ob : OB} {nid : Nat} [Bk]
theorem okRow_spec {k : Nat} {rows : List (List V)} (h : rows.all (okRow k) = true) : (∀ ch ∈ rows, ch.length = k) ∧ ∀ ch ∈ rows, ch.all leaf = true := by
  refine ⟨fun ch hc => ?_, fun ch hc => ?_⟩ <;> have := List.all_eq_true.1 h ch hc <;> simp only [okRow, Bool.and_eq_true, beq_iff_eq] at this
  · exact this.1
  · exact this.2
theorem rows_cells {ok : Fl → Nat → Prop} {rows : List (List V)} {k b off : Nat} (hk : ∀ ch ∈ rows, ch.length = k)
    (h : ∀ i j v, el rows i j = some v → ∃ y, w.cell? ⟨b, off + i * k + j, none⟩ = some y ∧ RV w ok loc v y) :
    ∃ ys : List Value, ys.length = rows.length * k ∧ RVs w ok loc rows.flatten ys ∧ ∀ q y, ys[q]? = some y → w.cell? ⟨b, off + q, none⟩ = some y := by
  have hfl := flat_len rows k hk
  have key : ∀ q, q < rows.length * k → ∃ y v, rows.flatten[q]? = some v ∧ w.cell? ⟨b, off + q, none⟩ = some y ∧ RV w ok loc v y := fun q hq => by
    have hk0 : 0 < k := Nat.pos_of_ne_zero (by rintro rfl; simp at hq)
    have e : q = q / k * k + q % k := by have := Nat.div_add_mod q k; rw [Nat.mul_comm] at this; omega
    have hv := List.getElem?_eq_getElem (l := rows.flatten) (i := q) (by rw [hfl]; exact hq)
    have hm := Nat.mod_lt q hk0
    have he : el rows (q / k) (q % k) = some (rows.flatten[q]'(by rw [hfl]; exact hq)) := by
      rw [← flat_at rows k _ _ hk hm, ← e]; exact hv
    obtain ⟨y, h1, h2⟩ := h _ _ _ he
    refine ⟨y, _, hv, ?_, h2⟩
    rw [← h1]; congr 2; omega
  refine ⟨(List.range (rows.length * k)).map fun q => (w.cell? ⟨b, off + q, none⟩).getD undef, by simp, ⟨by simp [hfl], fun q v y h1 h2 => ?_⟩, fun q y hq => ?_⟩
  · have hq : q < rows.length * k := by rw [← hfl]; exact (List.getElem?_eq_some_iff.1 h1).1
    obtain ⟨y', v', h3, h4, h5⟩ := key q hq
    rw [h3] at h1; cases h1
    simp [List.getElem?_map, List.getElem?_range hq, h4] at h2
    subst h2; exact h5
  · have hqn : q < rows.length * k := by
      have := (List.getElem?_eq_some_iff.1 hq).1
      simpa using this
    obtain ⟨y', v', h3, h4, h5⟩ := key q hqn
    simp [List.getElem?_map, List.getElem?_range hqn, h4] at hq
    rw [h4, hq]
theorem rvs_one {ok : Fl → Nat → Prop} {rows : List (List V)} {ys : List Value} (hl : ∀ ch ∈ rows, ch.all leaf = true) (h : RVs w ok loc rows.flatten ys) : ∀ y ∈ ys, y.oneCell' = true := fun y hy => by
  obtain ⟨i, hi, rfl⟩ := List.getElem_of_mem hy
  have hi' : i < rows.flatten.length := by rw [← h.1]; exact hi
  refine leaf_one (h.2 i _ _ (List.getElem?_eq_getElem hi') (List.getElem?_eq_getElem hi)) ?_
  have hm := List.getElem_mem hi'
  obtain ⟨ch, hc1, hc2⟩ := List.mem_flatten.1 hm
  exact List.all_eq_true.1 (hl ch hc1) _ hc2
theorem el_take_drop {l : List (List V)} {a n i j : Nat} {v : V} (h : el ((l.drop a).take n) i j = some v) : el l (a + i) j = some v := by
  obtain ⟨r, h1, h2⟩ := el_some h
  rw [List.getElem?_take] at h1
  split at h1
  · rw [List.getElem?_drop] at h1; exact el_mk h1 h2
  · cases h1
theorem rows_src (hwf : WF n0 w own loc ob) {v : V} {x : Value} {rows : List (List V)} {k : Nat} (hv : rowsOf ob v = some rows) (hk : rows.all (okRow k) = true)
    (hx : RV w (okf own n0 w.heap.size) loc v x) :
    ∃ a cap ys, x = .slice a rows.length cap ∧ ys.length = rows.length * k ∧ RVs w (okf own n0 w.heap.size) loc rows.flatten ys ∧ (∀ y ∈ ys, y.oneCell' = true) ∧
      (Builtin.firstCells k rows.length x).run P w = .ok ys.toArray w := by
  obtain ⟨hlen, hleaf⟩ := okRow_spec hk
  have nilcase : ∀ (a : Option Addr) (cap : Nat), rows = [] → x = .slice a 0 cap → ∃ a cap ys, x = .slice a rows.length cap ∧ ys.length = rows.length * k ∧ RVs w (okf own n0 w.heap.size) loc rows.flatten ys ∧ (∀ y ∈ ys, y.oneCell' = true) ∧
      (Builtin.firstCells k rows.length x).run P w = .ok ys.toArray w := fun a cap hr hx => by
    subst hr; subst hx
    refine ⟨a, cap, [], rfl, by simp, ⟨rfl, fun i v x h => by cases h⟩, fun y hy => (by cases hy), ?_⟩
    cases a with
    | none => simp [Builtin.firstCells]
    | some a => simp [Builtin.firstCells, loadCells, loadCellsFrom]
  have somecase : ∀ (b off cap : Nat), x = .slice (some ⟨b, off, none⟩) rows.length cap → (∀ i j v, el rows i j = some v → ∃ y, w.cell? ⟨b, off + i * k + j, none⟩ = some y ∧ RV w (okf own n0 w.heap.size) loc v y) →
      ∃ a cap ys, x = .slice a rows.length cap ∧ ys.length = rows.length * k ∧ RVs w (okf own n0 w.heap.size) loc rows.flatten ys ∧ (∀ y ∈ ys, y.oneCell' = true) ∧
      (Builtin.firstCells k rows.length x).run P w = .ok ys.toArray w := fun b off cap hx hc => by
    obtain ⟨ys, h1, h2, h3⟩ := rows_cells hlen hc
    subst hx
    refine ⟨_, _, ys, rfl, h1, h2, rvs_one hleaf h2, ?_⟩
    simp only [Builtin.firstCells]
    rw [← h1]
    exact loadCells_run b off ys h3
  cases v with
  | z => simp only [rowsOf] at hv; cases hv; obtain ⟨a, rfl⟩ := hx.z_inv; exact nilcase _ _ rfl rfl
  | im f l =>
    simp only [rowsOf] at hv; cases hv
    cases hx with
    | e f a cap h => exact nilcase _ _ rfl rfl
    | im f l k' b off n cap ys hn hk' hc ho h0 h =>
      subst hn
      refine somecase b off cap rfl fun i j v hv => ?_
      have : k' = k := by
        obtain ⟨r, h1, h2⟩ := el_some hv
        have hm := List.mem_of_getElem? h1
        rw [← hk' r hm, hlen r hm]
      subst this
      exact ⟨_, h0 i j v hv, h i j v hv⟩
  | sl id off len =>
    simp only [rowsOf] at hv
    cases hX : ob id with
    | none => simp [hX] at hv
    | some X =>
      simp only [hX, Option.bind_some] at hv
      split at hv
      · rename_i hle
        cases hv
        obtain ⟨p, hp, hxr⟩ := hwf.has id X hX
        have hor := hxr.c (sl_mp hx hp)
        have hrl : ((X.l.drop off).take len).length = len := by simp; omega
        cases hx with
        | sl _ _ _ a c hl hm h =>
          obtain ⟨_, rfl, rfl⟩ := h p hp
          refine somecase p.b (p.base + off * p.k) _ (by rw [hrl]) fun i j v hv => ?_
          have hv' := el_take_drop hv
          have hpk : p.k = k := by
            obtain ⟨r, h1, h2⟩ := el_some hv
            have hm := List.mem_of_getElem? h1
            rw [← hor.rows r (List.mem_of_mem_drop (List.mem_of_mem_take hm)), hlen r hm]
          obtain ⟨y, h1, h2⟩ := hor.cells _ _ _ hv'
          refine ⟨y, ?_, h2⟩
          rw [← h1, ← hpk]; congr 2
          rw [Nat.add_mul]; omega
      · cases hv
  | _ => simp [rowsOf] at hv
theorem over_len (l : List (List V)) (a : Nat) (xs : List (List V)) (h : a ≤ l.length) : (over l a xs).length = max l.length (a + xs.length) := by
  simp [over]; omega
theorem over_mem {l : List (List V)} {a : Nat} {xs : List (List V)} {ch : List V} (h : ch ∈ over l a xs) : ch ∈ l ∨ ch ∈ xs := by
  simp only [over, List.mem_append] at h
  rcases h with (h | h) | h
  · exact .inl (List.mem_of_mem_take h)
  · exact .inr h
  · exact .inl (List.mem_of_mem_drop h)
theorem over_cells {ok : Fl → Nat → Prop} {p : Pl} {X : Ob} (hor : OR w ok loc p X) {cs : Array Value} {t : TypeId} (hh : w.heap[p.b]? = some (.cells cs t (0, 0)))
    (hbig : p.base + p.cap * p.k ≤ cs.size) {at_ : Nat} {xs : List (List V)} {ys : List Value} (hat : at_ ≤ X.l.length) (hfit : at_ + xs.length ≤ p.cap)
    (hk : ∀ ch ∈ xs, ch.length = p.k) (hy : RVs w ok loc xs.flatten ys) :
    ∀ i j v, el (over X.l at_ xs) i j = some v →
      ∃ x, (cs.toList.take (p.base + at_ * p.k) ++ ys ++ cs.toList.drop (p.base + at_ * p.k + ys.length)).toArray[p.base + i * p.k + j]? = some x ∧ RV w ok loc v x := by
  intro i j v hv
  have hyl : ys.length = xs.length * p.k := by rw [hy.1, flat_len xs p.k hk]
  have hb : p.base + at_ * p.k + ys.length ≤ cs.toList.length := by
    have h1 : (at_ + xs.length) * p.k ≤ p.cap * p.k := Nat.mul_le_mul_right _ hfit
    rw [Nat.add_mul] at h1
    simp only [Array.length_toList]; omega
  obtain ⟨r, h1, h2⟩ := el_some hv
  have hjk : j < p.k := by
    have hr : r.length = p.k := by
      rcases over_mem (List.mem_of_getElem? h1) with h | h
      · exact hor.rows r h
      · exact hk r h
    have := (List.getElem?_eq_some_iff.1 h2).1
    omega
  rw [List.getElem?_toArray, seg_get _ _ _ _ hb]
  have hsplit : (over X.l at_ xs)[i]? = if i < at_ then X.l[i]? else if i < at_ + xs.length then xs[i - at_]? else X.l[i]? := by
    unfold over
    by_cases hfit2 : at_ + xs.length ≤ X.l.length
    · exact seg_get X.l xs at_ i hfit2
    · have e : X.l.drop (at_ + xs.length) = [] := List.drop_eq_nil_of_le (by omega)
      rw [e, List.append_nil]
      have hta : (X.l.take at_).length = at_ := by rw [List.length_take]; omega
      by_cases h1 : i < at_
      · rw [if_pos h1, List.getElem?_append_left (by omega), List.getElem?_take, if_pos h1]
      · rw [if_neg h1, List.getElem?_append_right (by omega), hta]
        split
        · rfl
        · rw [List.getElem?_eq_none (by omega), List.getElem?_eq_none (by omega)]
  rw [hsplit] at h1
  have hlt : ∀ a b : Nat, a < b → a * p.k + j < b * p.k := fun a b hab => by
    have : (a + 1) * p.k ≤ b * p.k := Nat.mul_le_mul_right _ hab
    rw [Nat.add_mul] at this; omega
  by_cases hi : i < at_
  · rw [if_pos hi] at h1
    have := hlt i at_ hi
    rw [if_pos (by omega)]
    obtain ⟨x, h3, h4⟩ := hor.cells i j v (el_mk h1 h2)
    exact ⟨x, by simpa [World.cell?, hh] using h3, h4⟩
  · rw [if_neg hi] at h1
    have hge : at_ * p.k ≤ i * p.k := Nat.mul_le_mul_right _ (by omega)
    rw [if_neg (by omega)]
    by_cases hi2 : i < at_ + xs.length
    · rw [if_pos hi2] at h1
      have h5 := hlt (i - at_) xs.length (by omega)
      have h6 : (i - at_) * p.k = i * p.k - at_ * p.k := Nat.sub_mul _ _ _
      rw [if_pos (by omega)]
      have h7 : xs.flatten[(i - at_) * p.k + j]? = some v := by rw [flat_at xs p.k _ _ hk hjk]; exact el_mk h1 h2
      have h8 : (i - at_) * p.k + j < ys.length := by omega
      refine ⟨ys[(i - at_) * p.k + j], ?_, hy.2 _ _ _ h7 (List.getElem?_eq_getElem h8)⟩
      rw [← List.getElem?_eq_getElem h8]; congr 1; omega
    · rw [if_neg hi2] at h1
      have h5 : (at_ + xs.length) * p.k ≤ i * p.k := Nat.mul_le_mul_right _ (by omega)
      rw [Nat.add_mul] at h5
      rw [if_neg (by omega)]
      obtain ⟨x, h3, h4⟩ := hor.cells i j v (el_mk h1 h2)
      exact ⟨x, by simpa [World.cell?, hh] using h3, h4⟩
theorem over_run (hwf : WF n0 w own loc ob) {id : Nat} {p : Pl} {X : Ob} (hX : ob id = some X) (hp : loc id = some (some p)) (hmp : p.mp = 0) (hor : OR w (okf own n0 w.heap.size) loc p X)
    {at_ : Nat} {xs : List (List V)} {ys : List Value} (hat : at_ ≤ X.l.length) (hfit : at_ + xs.length ≤ p.cap)
    (hk : ∀ ch ∈ xs, ch.length = p.k) (hy : RVs w (okf own n0 w.heap.size) loc xs.flatten ys) (h1 : ∀ y ∈ ys, y.oneCell' = true) :
    ∃ w', (storeCells ⟨p.b, p.base + at_ * p.k, none⟩ ys).run P w = .ok () w' ∧
      (WF n0 w' own loc (fun j => if j = id then some ⟨X.k, over X.l at_ xs, X.cap⟩ else ob j) ∧ Stp w own loc w' own loc) ∧
      (∀ nid cap, loc nid = none → (∀ c, cap = some c → c = p.cap) →
        WF n0 w' (fun b => if b = p.b then some nid else own b) (fun j => if j = nid then some (some p) else if j = id then some none else loc j)
          (fun j => if j = nid then some ⟨X.k, over X.l at_ xs, cap⟩ else if j = id then none else ob j) ∧
        Stp w own loc w' (fun b => if b = p.b then some nid else own b) (fun j => if j = nid then some (some p) else if j = id then some none else loc j)) := by
  obtain ⟨cs, t, hh, hbig⟩ := hor.mem
  have hyl : ys.length = xs.length * p.k := by rw [hy.1, flat_len xs p.k hk]
  have hb : p.base + at_ * p.k + ys.length ≤ cs.size := by
    have h1 : (at_ + xs.length) * p.k ≤ p.cap * p.k := Nat.mul_le_mul_right _ hfit
    rw [Nat.add_mul] at h1; omega
  have hcells := over_cells hor hh hbig hat hfit hk hy
  have hst := run_storeCells_at (P := P) p.b (p.base + at_ * p.k) t ys 0 cs w hh (by simpa using hb) h1
  have hsz : (cs.toList.take (p.base + at_ * p.k) ++ ys ++ cs.toList.drop (p.base + at_ * p.k + ys.length)).toArray.size = cs.size := by simp; omega
  have hol : (over X.l at_ xs).length ≤ p.cap := by rw [over_len _ _ _ hat]; have := hor.len; omega
  have hor' : ∀ ch ∈ over X.l at_ xs, ch.length = p.k := fun ch hc => by
    rcases over_mem hc with h | h
    · exact hor.rows ch h
    · exact hk ch h
  refine ⟨_, hst, upd_ob hwf hp hmp ⟨X.k, over X.l at_ xs, X.cap⟩ cs _ t hh hsz hbig hor.k hol hor' hor.cap hcells, fun nid cap hnid hcap => ?_⟩
  exact move_ob hwf hp hmp hnid ⟨X.k, over X.l at_ xs, cap⟩ cs _ t hh hsz hbig hor.k hol hor' hcap hcells
end
end Go.Proofs.YtbojpedklnmidaaGreat.D
end
section
set_option linter.unusedVariables false
set_option linter.unusedSectionVars false
set_option linter.unusedSimpArgs false
set_option linter.constructorNameAsVariable false
/- The machine's operations, as those over plain values: append, copy, clear, make, literals. No condition. -/
namespace Go.Proofs.YtbojpedklnmidaaGreat.D
open Go Go.RowKit
section
variable {P : Program} {n0 : Nat} {w : World} {own : Nat → Option Nat} {loc : Loc} {ob : OB} {nid : Nat} [Bk]
theorem growBy_le (n : Nat) : ∀ r c, c ≤ 2 * n + 768 → Builtin.growBy n r c ≤ 2 * n + 768
  | 0, c, h => h
  | r + 1, c, h => by
    simp only [Builtin.growBy]
    split
    · exact h
    · exact growBy_le n r _ (by omega)
theorem nextcap_le (need old : Nat) (h : old < need) : Builtin.nextslicecap need old ≤ 2 * need + 768 := by
  unfold Builtin.nextslicecap
  split
  · omega
  · split
    · omega
    · exact growBy_le _ _ _ (by omega)
theorem Stp.drew (w : World) (own : Nat → Option Nat) (loc : Loc) : Stp w own loc w.drew own loc :=
  ⟨rfl, rfl, rfl, Nat.le_refl _, fun b hb h => ⟨h, rfl⟩, fun id h => .inl rfl⟩
theorem WF.drew (hwf : WF n0 w own loc ob) : WF n0 w.drew own loc ob where
  has := fun id o h => by
    obtain ⟨p, h1, h2⟩ := hwf.has id o h
    exact ⟨p, h1, h2.stp (.drew w own loc) rfl⟩
  owns := hwf.owns
  lt := hwf.lt
theorem rows_src2 (hwf : WF n0 w own loc ob) {v : V} {x : Value} {rows : List (List V)} {k : Nat} (hv : rowsOf ob v = some rows) (hk : rows.all (okRow k) = true)
    (hx : RV w (okf own n0 w.heap.size) loc v x) :
    ∃ a cap ys, x = .slice a rows.length cap ∧ ys.length = rows.length * k ∧ RVs w (okf own n0 w.heap.size) loc rows.flatten ys ∧ (∀ y ∈ ys, y.oneCell' = true) ∧
      (Builtin.firstCells k rows.length x).run P w = .ok ys.toArray w ∧ (Builtin.firstCells k rows.length x).run P w.drew = .ok ys.toArray w.drew := by
  obtain ⟨a, cap, ys, h1, h2, h3, h4, h5⟩ := rows_src (P := P) hwf hv hk hx
  obtain ⟨a', cap', ys', h1', h2', h3', h4', h5'⟩ := rows_src (P := P) (w := w.drew) (hwf.drew) hv hk (hx.stp (.drew w own loc))
  refine ⟨a, cap, ys, h1, h2, h3, h4, h5, ?_⟩
  have hys : ys' = ys := by
    rw [h1'] at h1; cases h1
    rw [h1'] at h5 h5'
    cases a with
    | none => 
      simp [Builtin.firstCells] at h5 h5'
      rw [h5, h5']
    | some a =>
      simp only [Builtin.firstCells] at h5 h5'
      have e : (loadCells a (rows.length * k)).run P w.drew = ((loadCells a (rows.length * k)).run P w).andThen fun v _ => .ok v w.drew := by
        have aux : ∀ n i acc, (loadCellsFrom a i n acc).run P w.drew = .ok ys'.toArray w.drew → (loadCellsFrom a i n acc).run P w = .ok ys.toArray w → ys'.toArray = ys.toArray := by
          intro n
          induction n with
          | zero => intro i acc h6 h7; simp [loadCellsFrom] at h6 h7; rw [← h6, ← h7]
          | succ n ih =>
            intro i acc h6 h7
            simp only [loadCellsFrom, Sem.run_bind, run_load, World.cell?_drew] at h6 h7
            cases hc : w.cell? (a.add i) with
            | some y => simp only [hc, Result.andThen_ok] at h6 h7; exact ih _ _ h6 h7
            | none =>
              simp only [hc] at h6 h7
              cases hf : w.farLoad P (a.add i) false with
              | error e => rw [show (Mode.plain == Mode.atomic) = false from rfl, hf] at h7; simp at h7
              | ok r =>
                have : w.drew.farLoad P (a.add i) false = w.farLoad P (a.add i) false := rfl
                rw [show (Mode.plain == Mode.atomic) = false from rfl] at h6 h7
                rw [this, hf] at h6; rw [hf] at h7
                simp only [Result.andThen_ok] at h6 h7
                exact ih _ _ h6 h7
        have := aux _ _ _ h5' h5
        rw [h5', h5]; simp [this]
      rw [h5', h5] at e
      simp at e; exact e
  rw [← hys]; exact h5'
def appTy (P : Program) (ts : Array TypeId) : Option Nat :=
  match ts[0]?, ts[1]? with
  | some s, some x => match P.underlying s, P.underlying x with
    | some (.slice e), some (.slice _) => match P.info? e with
      | some i => if 0 < i.bytes ∧ i.bytes ≤ 4096 ∧ i.zero.map (·.cells.size) = some i.size then some i.size else none
      | none => none
    | _, _ => none
  | _, _ => none
theorem append_run {ts : Array TypeId} {k : Nat} (ht : appTy P ts = some k) (ty : TypeId) (base : Option Addr) (sLen sCap n xc : Nat) (xa : Option Addr) (news : List Value)
    (hx : (Builtin.firstCells k n (.slice xa n xc)).run P w = .ok news.toArray w) (hx' : (Builtin.firstCells k n (.slice xa n xc)).run P w.drew = .ok news.toArray w.drew)
    (olds : List Value) (hs' : sCap < sLen + n → (Builtin.firstCells k sLen (.slice base sLen sCap)).run P w.drew = .ok olds.toArray w.drew)
    (hsmall : sLen + n ≤ maxLen) :
    (sLen + n ≤ sCap → ∀ w', (match base with | some a => (storeCells (a.add (sLen * k)) news).run P w | none => .ok () w) = .ok () w' →
      (Builtin.append_ ts ty #[.slice base sLen sCap, .slice xa n xc]).run P w = .ok (.slice base (sLen + n) sCap) w') ∧
    (sCap < sLen + n → ∃ (e : TypeId) (C : Nat) (rest : Array Value), sLen + n ≤ C ∧ (olds.length = sLen * k → news.length = n * k → C * k ≤ (olds.toArray ++ news.toArray ++ rest).size) ∧
      (Builtin.append_ ts ty #[.slice base sLen sCap, .slice xa n xc]).run P w = .ok (.slice (some ⟨w.drew.heap.size, 0, none⟩) (sLen + n) C) (w.drew.alloc (.cells (olds.toArray ++ news.toArray ++ rest) e))) := by
  unfold appTy at ht
  split at ht
  · rename_i s x hs hx0
    split at ht
    · rename_i e e2 hus hux
      split at ht
      · rename_i i hi
        split at ht
        · rename_i hb
          obtain ⟨hb1, hb2, hb3⟩ := hb
          obtain ⟨z, hz, hzs⟩ := Option.map_eq_some_iff.1 hb3
          cases ht
          refine ⟨fun hle w' hst => ?_, fun hlt => ?_⟩
          · have : (Builtin.append_ ts ty #[.slice base sLen sCap, .slice xa n xc]).run P w = (match base with | some a => (storeCells (a.add (sLen * i.size)) news).run P w | none => .ok () w).andThen fun _ w' => .ok (.slice base (sLen + n) sCap) w' := by
              cases base with
              | none => simp [Builtin.append_, hs, hx0, run_underlying hus, run_underlying hux, size_of hi, Builtin.lenOf, hle, hx]
              | some a => simp [Builtin.append_, hs, hx0, run_underlying hus, run_underlying hux, size_of hi, Builtin.lenOf, hle, hx]
            rw [this, hst]; rfl
          · have hnle : ¬ sLen + n ≤ sCap := by omega
            have h1 : ¬ (((sLen + n : Nat) : Int) > IntKind.i64.max ∧ (false = true ∨ i.bytes = 0)) := by simp; omega
            have h2 : ¬ Builtin.nextslicecap (sLen + n) sCap * i.bytes > 2 ^ 48 := by
              have := nextcap_le (sLen + n) sCap hlt
              have h3 : Builtin.nextslicecap (sLen + n) sCap * i.bytes ≤ (2 * maxLen + 768) * 4096 := Nat.mul_le_mul (by omega) hb2
              unfold maxLen at h3; omega
            have hf : (Question.appendCap (sLen + n) sCap e).forced = false := rfl
            have hC : sLen + n ≤ (Question.appendCap (sLen + n) sCap e).cut (w.tape w.drawn (Question.appendCap (sLen + n) sCap e)) := by simp [Question.cut]
            refine ⟨e, (Question.appendCap (sLen + n) sCap e).cut (w.tape w.drawn (Question.appendCap (sLen + n) sCap e)), Builtin.zeroCells z.cells ((Question.appendCap (sLen + n) sCap e).cut (w.tape w.drawn (Question.appendCap (sLen + n) sCap e)) - (sLen + n)), hC, fun ho hn => ?_, ?_⟩
            · generalize (Question.appendCap (sLen + n) sCap e).cut (w.tape w.drawn (Question.appendCap (sLen + n) sCap e)) = C at hC ⊢
              have : C * i.size = (sLen + n) * i.size + (C - (sLen + n)) * i.size := by rw [← Nat.add_mul]; congr 1; omega
              simp [Builtin.zeroCells, hzs, ho, hn, this, Nat.add_mul]
            · have hb0 : i.bytes ≠ 0 := by omega
              have h3 : ¬ 281474976710656 < Builtin.nextslicecap (sLen + n) sCap * i.bytes := by simpa using h2
              have hso := hs' hlt
              have hap : ∀ (o : Obj), ({ heap := w.drew.heap.push o, tape := w.drew.tape, drawn := w.drew.drawn, os := w.drew.os, output := w.drew.output } : World) = w.drew.alloc o := fun o => rfl
              simp [hf, -World.size_drew, Builtin.append_, hs, hx0, run_underlying hus, run_underlying hux, size_of hi, info_of hi, Builtin.lenOf, hnle, hb0, h3, hso, hx', zero_of hi hz, newRow]
              congr 2; rw [← Array.append_assoc]; simp
        · cases ht
      · cases ht
    · cases ht
  · cases ht
theorem sl_at (hwf : WF n0 w own loc ob) {id off len : Nat} {X : Ob} {x : Value} (hX : ob id = some X) (hx : RV w (okf own n0 w.heap.size) loc (.sl id off len) x) :
    ∃ p, loc id = some (some p) ∧ OR w (okf own n0 w.heap.size) loc p X ∧ off + len ≤ p.cap ∧ x = .slice (some ⟨p.b, p.base + off * p.k, none⟩) len (p.cap - off) := by
  obtain ⟨p, hp, hxr⟩ := hwf.has id X hX
  have hor := hxr.c (sl_mp hx hp)
  cases hx with
  | sl _ _ _ a c hl hm h =>
    obtain ⟨h1, rfl, rfl⟩ := h p hp
    exact ⟨p, hp, hor, h1, rfl⟩
theorem grown_cells {ok : Fl → Nat → Prop} {A B : List (List V)} {ya yb : List Value} {k : Nat} (rest : Array Value) (hA : ∀ ch ∈ A, ch.length = k) (hB : ∀ ch ∈ B, ch.length = k)
    (ha : RVs w ok loc A.flatten ya) (hb : RVs w ok loc B.flatten yb) : ∀ i j v, el (A ++ B) i j = some v → ∃ x, (ya.toArray ++ yb.toArray ++ rest)[i * k + j]? = some x ∧ RV w ok loc v x := by
  intro i j v hv
  have hAB : ∀ ch ∈ A ++ B, ch.length = k := fun ch h => by
    rcases List.mem_append.1 h with h | h
    · exact hA ch h
    · exact hB ch h
  obtain ⟨hi, hj⟩ := el_lt hAB hv
  have h1 : (A ++ B).flatten[i * k + j]? = some v := by rw [flat_at _ k i j hAB hj]; exact hv
  rw [List.flatten_append] at h1
  have hR : RVs w ok loc (A.flatten ++ B.flatten) (ya ++ yb) := by
    refine ⟨by simp only [List.length_append, ha.1, hb.1], fun q v x h2 h3 => ?_⟩
    by_cases hq : q < A.flatten.length
    · rw [List.getElem?_append_left hq] at h2
      rw [List.getElem?_append_left (by rw [ha.1]; exact hq)] at h3
      exact ha.2 q v x h2 h3
    · rw [List.getElem?_append_right (by omega)] at h2
      rw [List.getElem?_append_right (by rw [ha.1]; omega), ha.1] at h3
      exact hb.2 _ v x h2 h3
  have hlt := (List.getElem?_eq_some_iff.1 h1).1
  have hlt2 : i * k + j < (ya ++ yb).length := by rw [hR.1]; exact hlt
  refine ⟨(ya ++ yb)[i * k + j], ?_, hR.2 _ v _ h1 (List.getElem?_eq_getElem hlt2)⟩
  rw [← List.getElem?_eq_getElem hlt2]
  rw [Array.getElem?_append_left (by simpa using hlt2)]
  simp
def upd (ob : OB) (i : Nat) (o : Option Ob) : OB := fun j => if j = i then o else ob j
theorem append_does (hwf : WF n0 w own loc ob) (hnid : loc nid = none) {ts : Array TypeId} {k : Nat} (ht : appTy P ts = some k) (ty : TypeId) {s x : Value} {sv xv r : V} {us : Ups} {ob0 : OB}
    (hsub : ∀ id o, ob0 id = some o → ob id = some o)
    (hs : RV w (okf own n0 w.heap.size) loc sv s) (hx : RV w (okf own n0 w.heap.size) loc xv x) (hop : opF (.app k) [sv, xv] ob0 nid = some (r, us)) :
    ∃ y w' own' loc', (Builtin.append_ ts ty #[s, x]).run P w = .ok y w' ∧ RV w' (okf own' n0 w'.heap.size) loc' r y ∧
      WF n0 w' own' loc' (apps ob us) ∧ Stp w own loc w' own' loc' ∧ ∀ id, id ≠ nid → loc id = none → loc' id = none := by
  simp only [opF] at hop
  cases hrows : rowsOf ob0 xv with
  | none => simp [hrows] at hop
  | some xs =>
  simp only [hrows, Option.bind_some] at hop
  have hrows' : rowsOf ob xv = some xs := by
    cases xv with
    | sl id off len =>
      simp only [rowsOf] at hrows ⊢
      cases h : ob0 id with
      | none => simp [h] at hrows
      | some X => rw [hsub id X h]; rw [h] at hrows; exact hrows
    | _ => exact hrows
  split at hop
  case isFalse => cases hop
  rename_i hk
  obtain ⟨hxl, hxf⟩ := okRow_spec hk
  obtain ⟨xa, xc, ys, rfl, hyl, hyr, hy1, hrun, hrun'⟩ := rows_src2 (P := P) hwf hrows' hk hx
  cases sv with
  | z =>
    obtain ⟨a, rfl⟩ := hs.z_inv
    simp only at hop
    split at hop
    · rename_i h0
      injection hop with hop; injection hop with h1 h2; subst h1; subst h2
      have hys : ys = [] := List.length_eq_zero_iff.1 (by rw [hyl, h0]; simp)
      subst hys
      have := (append_run (P := P) (w := w) ht ty a 0 0 xs.length xc xa [] hrun hrun' [] (fun h => by omega) (by unfold maxLen; omega)).1 (by omega) w (by
        cases a with
        | none => rfl
        | some a => simp [storeCells])
      rw [h0] at this
      exact ⟨_, w, own, loc, by rw [h0]; exact this, .z _, hwf, .refl _ _ _, fun _ _ h => h⟩
    · rename_i h0
      split at hop
      · rename_i hm
        injection hop with hop; injection hop with h1 h2; subst h1; subst h2
        obtain ⟨e, C, rest, hC, hsz, hap⟩ := (append_run (P := P) (w := w) ht ty a 0 0 xs.length xc xa ys hrun hrun' [] (fun h => by
          cases a <;> simp [Builtin.firstCells, loadCells, loadCellsFrom]) (by omega)).2 (by omega)
        have hg := grown_cells (k := k) rest (A := []) (by simp) hxl (ya := []) ⟨rfl, fun i v x h => by cases h⟩ hyr
        obtain ⟨h1, h2⟩ := new_ob hwf.drew hnid (([] : List Value).toArray ++ ys.toArray ++ rest) e k C xs none (hsz (by simp) hyl) (by omega) hxl (fun c h => by cases h)
          (fun i j v hv => by
            obtain ⟨x, h3, h4⟩ := hg i j v (by simpa using hv)
            exact ⟨x, h3, h4.stp (.drew w own loc)⟩)
        refine ⟨_, _, _, _, hap, ?_, h1, (Stp.drew w own loc).trans h2, fun id hne h => by simp [hne, h]⟩
        have := RV.sl (w := w.drew.alloc (.cells (([] : List Value).toArray ++ ys.toArray ++ rest) e)) (ok := okf (fun b => if b = w.drew.heap.size then some nid else own b) n0 (w.drew.alloc (.cells (([] : List Value).toArray ++ ys.toArray ++ rest) e)).heap.size)
          (loc := fun id => if id = nid then some (some ⟨w.drew.heap.size, 0, k, C, 0⟩) else loc id) nid 0 xs.length (some ⟨w.drew.heap.size, 0, none⟩) C (by simp) (fun p hp => by simp at hp; subst hp; rfl) (fun p hp => by
            simp only [if_true, Option.some.injEq] at hp
            subst hp
            exact ⟨by simp only [Nat.zero_add]; omega, by simp, by simp⟩)
        simpa using this
      · cases hop
  | sl id off len =>
    simp only at hop
    cases hX0 : ob0 id with
    | none => simp [hX0] at hop
    | some X =>
    simp only [hX0, Option.bind_some] at hop
    have hX := hsub id X hX0
    split at hop
    case isFalse => cases hop
    rename_i hcond
    obtain ⟨hXk, hfit, hsmall⟩ := hcond
    obtain ⟨p, hp, hor, hcap, rfl⟩ := sl_at hwf hX hs
    have hmp := sl_mp hs hp
    have hpk : p.k = k := by rw [← hor.k]; exact hXk
    have hat : (⟨p.b, p.base + off * p.k, none⟩ : Addr).add (len * k) = ⟨p.b, p.base + (off + len) * p.k, none⟩ := by
      rw [addr_add, hpk, Nat.add_mul, Nat.add_assoc]
    split at hop
    · rename_i hin
      injection hop with hop; injection hop with h1 h2; subst h1; subst h2
      have hcl := hor.len
      obtain ⟨w', hst, ⟨h1, h2⟩, _⟩ := over_run (P := P) hwf hX hp hmp hor (at_ := off + len) (xs := xs) (ys := ys) hfit (by omega) (by rw [hpk]; exact hxl) hyr hy1
      have := (append_run (P := P) (w := w) ht ty (some ⟨p.b, p.base + off * p.k, none⟩) len (p.cap - off) xs.length xc xa ys hrun hrun' [] (fun h => by omega) hsmall).1 (by omega) w' (by
        simp only [hat]; exact hst)
      refine ⟨_, w', own, loc, this, ?_, ?_, h2, fun _ _ h => h⟩
      · exact .sl id off _ _ _ (by rw [hp]; simp) (fun q hq => by rw [hp] at hq; cases hq; exact hmp) fun q hq => by rw [hp] at hq; cases hq; exact ⟨by omega, rfl, rfl⟩
      · rw [← hXk]; exact h1
    · rename_i hin
      split at hop
      · rename_i hoff
        subst hoff
        injection hop with hop; injection hop with h1 h2; subst h1; subst h2
        have hne : id ≠ nid := by rintro rfl; rw [hp] at hnid; cases hnid
        have hover : over X.l len xs = X.l.take len ++ xs := by
          unfold over; rw [List.drop_eq_nil_of_le (by omega), List.append_nil]
        simp only [Nat.zero_mul, Nat.zero_add, Nat.add_zero, Nat.sub_zero] at hat hfit hcap hin hsmall ⊢
        have hobs : apps ob [(id, none), (nid, some ⟨k, X.l.take len ++ xs, none⟩)] = fun j => if j = nid then some ⟨k, X.l.take len ++ xs, none⟩ else if j = id then none else ob j := by
          simp only [apps]
        have hobs2 : apps ob [(nid, some ⟨k, X.l.take len ++ xs, none⟩)] = fun j => if j = nid then some ⟨k, X.l.take len ++ xs, none⟩ else ob j := by
          simp only [apps]
        by_cases hroom : len + xs.length ≤ p.cap
        · have hgr : grown X.cap id (len + xs.length) = [(id, none)] := by
            unfold grown
            split
            · rename_i c hc
              rw [if_neg]; have := hor.cap c hc; omega
            · rfl
          rw [hgr, List.singleton_append, hobs]
          obtain ⟨w', hst, _, h3⟩ := over_run (P := P) hwf hX hp hmp hor (at_ := len) (xs := xs) (ys := ys) hfit hroom (by rw [hpk]; exact hxl) hyr hy1
          obtain ⟨h1, h2⟩ := h3 nid none hnid (fun c h => by cases h)
          have := (append_run (P := P) (w := w) ht ty (some ⟨p.b, p.base, none⟩) len p.cap xs.length xc xa ys hrun hrun' [] (fun h => by omega) hsmall).1 hroom w' (by
            simp only [hat]; exact hst)
          refine ⟨_, w', _, _, this, ?_, by rw [← hover, ← hXk]; exact h1, h2, fun j hj h => ?_⟩
          · exact .sl nid 0 _ _ _ (by simp) (fun q hq => by simp at hq; subst hq; first | rfl | exact hmp) fun q hq => by simp at hq; subst hq; exact ⟨by omega, by simp, by simp⟩
          · have : j ≠ id := by rintro rfl; rw [hp] at h; cases h
            simp [hj, this, h]
        · have hseg : rowsOf ob (.sl id 0 len) = some (X.l.take len) := by simp [rowsOf, hX, hfit]
          have hlk : ∀ ch ∈ X.l.take len, ch.length = k := fun ch h => by rw [← hpk]; exact hor.rows ch (List.mem_of_mem_take h)
          have htl : (X.l.take len).length = len := by rw [List.length_take]; omega
          obtain ⟨zs, hz1, hz2, hz3⟩ := rows_cells (w := w) (ok := okf own n0 w.heap.size) (loc := loc) (rows := X.l.take len) (k := k) (b := p.b) (off := p.base) hlk (fun i j v hv => by
            rw [← hpk]
            exact hor.cells i j v (by
              have := el_take_drop (l := X.l) (a := 0) (n := len) (by simpa using hv)
              simpa using this))
          obtain ⟨e, C, rest, hC, hsz, hap⟩ := (append_run (P := P) (w := w) ht ty (some ⟨p.b, p.base, none⟩) len p.cap xs.length xc xa ys hrun hrun' zs (fun h => by
            have := loadCells_run (P := P) (w := w.drew) p.b p.base zs (fun q y hq => by simpa using hz3 q y hq)
            rw [hz1, htl] at this
            simp only [Builtin.firstCells]
            exact this) hsmall).2 (by omega)
          have hg := grown_cells (k := k) rest hlk hxl hz2 hyr
          have hsl : ∀ (loc' : Loc), RV (w.drew.alloc (.cells (zs.toArray ++ ys.toArray ++ rest) e)) (okf (fun b => if b = w.drew.heap.size then some nid else own b) n0 (w.drew.alloc (.cells (zs.toArray ++ ys.toArray ++ rest) e)).heap.size) (fun id => if id = nid then some (some ⟨w.drew.heap.size, 0, k, C, 0⟩) else loc' id) (.sl nid 0 (len + xs.length)) (.slice (some ⟨w.drew.heap.size, 0, none⟩) (len + xs.length) C) := fun loc' =>
            .sl nid 0 _ _ _ (by simp) (fun q hq => by simp at hq; subst hq; first | rfl | exact hmp) fun q hq => by
              simp only [if_true, Option.some.injEq] at hq
              subst hq
              exact ⟨by simp only [Nat.zero_add]; omega, by simp, by simp⟩
          have hrows : ∀ ch ∈ X.l.take len ++ xs, ch.length = k := fun ch h => by
            rcases List.mem_append.1 h with h | h
            · exact hlk ch h
            · exact hxl ch h
          by_cases hgr : grown X.cap id (len + xs.length) = []
          · rw [hgr, List.nil_append, hobs2]
            obtain ⟨h1, h2⟩ := new_ob hwf.drew hnid (zs.toArray ++ ys.toArray ++ rest) e k C (X.l.take len ++ xs) none (hsz (by rw [hz1, htl]) hyl) (by simp only [List.length_append, htl]; exact hC) hrows (fun c h => by cases h)
              (fun i j v hv => by
                obtain ⟨x, h3, h4⟩ := hg i j v hv
                exact ⟨x, h3, h4.stp (.drew w own loc)⟩)
            exact ⟨_, _, _, _, hap, hsl _, h1, (Stp.drew w own loc).trans h2, fun j hj h => by simp [hj, h]⟩
          have hgr' : grown X.cap id (len + xs.length) = [(id, none)] := by
            unfold grown at hgr ⊢
            split at hgr
            · split at hgr
              · exact absurd rfl hgr
              · rename_i h; rw [if_neg h]
            · rfl
          rw [hgr', List.singleton_append, hobs]
          obtain ⟨ha1, ha2⟩ := kill_ob hwf.drew (id := id) (by rw [hp]; simp)
          have hnid' : (fun j => if j = id then some none else loc j) nid = none := by simp [Ne.symm hne, hnid]
          obtain ⟨h1, h2⟩ := new_ob ha1 hnid' (zs.toArray ++ ys.toArray ++ rest) e k C (X.l.take len ++ xs) none (hsz (by rw [hz1, htl]) hyl) (by simp only [List.length_append, htl]; exact hC)
            hrows (fun c h => by cases h)
            (fun i j v hv => by
              obtain ⟨x, h3, h4⟩ := hg i j v hv
              exact ⟨x, h3, (h4.stp (.drew w own loc)).stp ha2⟩)
          refine ⟨_, _, _, _, hap, hsl _, h1, ((Stp.drew w own loc).trans ha2).trans h2, fun j hj h => ?_⟩
          have : j ≠ id := by rintro rfl; rw [hp] at h; cases h
          simp [hj, this, h]
      · cases hop
  | _ => simp at hop
end
end Go.Proofs.YtbojpedklnmidaaGreat.D
end
section
set_option linter.unusedVariables false
set_option linter.unusedSectionVars false
set_option linter.unusedSimpArgs false
set_option linter.constructorNameAsVariable false
/- The machine's operations, as those over plain values: copy, clear, make, literals, slicing, places. No condition. -/
namespace Go.Proofs.YtbojpedklnmidaaGreat.D
open Go Go.RowKit
section
variable {P : Program} {n0 : Nat} {w : World} {own : Nat → Option Nat} {loc : Loc} {ob : OB} {nid : Nat} [Bk]
theorem rowsOf_sub {ob0 ob : OB} {xv : V} {xs : List (List V)} (hsub : ∀ id o, ob0 id = some o → ob id = some o) (h : rowsOf ob0 xv = some xs) : rowsOf ob xv = some xs := by
  cases xv with
  | sl id off len =>
    simp only [rowsOf] at h ⊢
    cases h0 : ob0 id with
    | none => simp [h0] at h
    | some X => rw [hsub id X h0]; rw [h0] at h; exact h
  | _ => exact h
def elSz (P : Program) (t : TypeId) : Option Nat := (sliceEl P t).bind fun e => (P.info? e).map (·.size)
theorem elSz_spec {t : TypeId} {k : Nat} (h : elSz P t = some k) : ∃ e i, P.underlying t = some (.slice e) ∧ P.info? e = some i ∧ i.size = k := by
  unfold elSz sliceEl at h
  split at h
  · rename_i e h1
    simp only [Option.bind_some] at h
    cases h2 : P.info? e with
    | none => simp [h2] at h
    | some i => simp [h2] at h; exact ⟨e, i, h1, h2, h⟩
  · simp at h
theorem rows_slice (hwf : WF n0 w own loc ob) {v : V} {x : Value} {rows : List (List V)} (hv : rowsOf ob v = some rows) (hx : RV w (okf own n0 w.heap.size) loc v x) : ∃ a cap, x = .slice a rows.length cap := by
  cases v with
  | im f l =>
    simp only [rowsOf] at hv; injection hv with hv; subst hv
    cases hx with
    | e f a cap h => exact ⟨_, _, rfl⟩
    | im f l k b off n cap ys hn hk hc ho h0 h => subst hn; exact ⟨_, _, rfl⟩
  | z => simp only [rowsOf] at hv; injection hv with hv; subst hv; obtain ⟨a, rfl⟩ := hx.z_inv; exact ⟨_, _, rfl⟩
  | sl id off len =>
    simp only [rowsOf] at hv
    obtain ⟨X, hX, hv⟩ := Option.bind_eq_some_iff.1 hv
    split at hv
    case isFalse => cases hv
    injection hv with hv; subst hv
    obtain ⟨p, hp, hor, hcap, rfl⟩ := sl_at hwf hX hx
    have hmp := sl_mp hx hp
    have : ((X.l.drop off).take len).length = len := by simp; omega
    rw [this]; exact ⟨_, _, rfl⟩
  | _ => simp [rowsOf] at hv
theorem rows_pre (hwf : WF n0 w own loc ob) {v : V} {x : Value} {rows : List (List V)} {n : Nat} (hn : n ≤ rows.length) (hv : rowsOf ob v = some rows) (hx : RV w (okf own n0 w.heap.size) loc v x) :
    ∃ v' a cap, x = .slice a rows.length cap ∧ rowsOf ob v' = some (rows.take n) ∧ RV w (okf own n0 w.heap.size) loc v' (.slice a n cap) := by
  obtain ⟨a, cap, rfl⟩ := rows_slice hwf hv hx
  by_cases h0 : n = 0
  · subst h0
    exact ⟨.im .n [], a, cap, rfl, by simp [rowsOf], .e .n a cap (fun h => by cases h)⟩
  cases v with
  | im f l =>
    simp only [rowsOf] at hv; injection hv with hv; subst hv
    have el_take : ∀ i j v, el (l.take n) i j = some v → el l i j = some v := fun i j v h => by
      have := el_take_drop (l := l) (a := 0) (n := n) (i := i) (j := j) (v := v) (by simpa using h)
      simpa using this
    generalize hX : Value.slice a l.length cap = X at hx
    cases hx with
    | e f a' cap' h => simp at hn; omega
    | im f l k b off n' cap' ys hn' hk hc ho h0' h =>
      injection hX with e1 e2 e3; subst e1; subst e3
      exact ⟨.im f (l.take n), _, _, by rw [hn'], rfl, .im f _ k b off n cap ys (by simp; omega) (fun ch hch => hk ch (List.mem_of_mem_take hch)) (by omega) ho (fun i j v hv => h0' i j v (el_take i j v hv)) (fun i j v hv => h i j v (el_take i j v hv))⟩
  | z => simp only [rowsOf] at hv; injection hv with hv; subst hv; simp at hn; omega
  | sl id off len =>
    simp only [rowsOf] at hv
    obtain ⟨X, hX, hv⟩ := Option.bind_eq_some_iff.1 hv
    split at hv
    case isFalse => cases hv
    rename_i hle
    injection hv with hv; subst hv
    have hl : ((X.l.drop off).take len).length = len := by simp; omega
    rw [hl] at hn hx ⊢
    obtain ⟨p, hp, hor, hcap, he⟩ := sl_at hwf hX hx
    have hmp := sl_mp hx hp
    injection he with e1 e2 e3
    refine ⟨.sl id off n, a, cap, rfl, ?_, .sl id off n a cap (by rw [hp]; simp) (fun q hq => by rw [hp] at hq; cases hq; exact hmp) fun q hq => ?_⟩
    · simp only [rowsOf, hX, Option.bind_some]
      rw [if_pos (by omega), List.take_take, Nat.min_eq_left hn]
    · rw [hp] at hq; cases hq; exact ⟨by omega, e1, e3⟩
  | _ => simp [rowsOf] at hv
theorem rows_take2 (hwf : WF n0 w own loc ob) {v : V} {x : Value} {rows : List (List V)} {k n : Nat} (hn : n ≤ rows.length) (hv : rowsOf ob v = some rows) (hk : (rows.take n).all (okRow k) = true)
    (hx : RV w (okf own n0 w.heap.size) loc v x) :
    ∃ a cap ys, x = .slice a rows.length cap ∧ ys.length = n * k ∧ RVs w (okf own n0 w.heap.size) loc (rows.take n).flatten ys ∧ (∀ y ∈ ys, y.oneCell' = true) ∧
      (Builtin.firstCells k n x).run P w = .ok ys.toArray w := by
  obtain ⟨v', a, cap, rfl, h1, h2⟩ := rows_pre hwf hn hv hx
  obtain ⟨a', cap', ys, h3, h4, h5, h6, h7⟩ := rows_src (P := P) hwf h1 hk h2
  have hl : (rows.take n).length = n := by rw [List.length_take]; omega
  rw [hl] at h3 h4 h7
  refine ⟨a, cap, ys, rfl, h4, h5, h6, ?_⟩
  have e : Builtin.firstCells k n (.slice a rows.length cap) = Builtin.firstCells k n (.slice a n cap) := by cases a <;> rfl
  rw [e]; exact h7
theorem copy_does (hwf : WF n0 w own loc ob) {ts : Array TypeId} {k : Nat} {t0 : TypeId} (ht0 : ts[0]? = some t0) (ht : elSz P t0 = some k) (ty : TypeId) {d x : Value} {dv xv r : V} {us : Ups} {ob0 : OB}
    (hsub : ∀ id o, ob0 id = some o → ob id = some o)
    (hd : RV w (okf own n0 w.heap.size) loc dv d) (hx : RV w (okf own n0 w.heap.size) loc xv x) (hop : opF (.cpy k) [dv, xv] ob0 nid = some (r, us)) :
    ∃ y w', (Builtin.copy_ ts ty #[d, x]).run P w = .ok y w' ∧ RV w' (okf own n0 w'.heap.size) loc r y ∧ WF n0 w' own loc (apps ob us) ∧ Stp w own loc w' own loc := by
  obtain ⟨e, i, hu, hi, hik⟩ := elSz_spec ht
  simp only [opF] at hop
  cases hrows : rowsOf ob0 xv with
  | none => simp [hrows] at hop
  | some xs =>
  simp only [hrows, Option.bind_some] at hop
  have hrows' := rowsOf_sub hsub hrows
  have nilcase : ∀ (a : Option Addr) (c : Nat), d = .slice a 0 c → r = .c (.int .i64 0) → us = [] → ∃ y w', (Builtin.copy_ ts ty #[d, x]).run P w = .ok y w' ∧ RV w' (okf own n0 w'.heap.size) loc r y ∧ WF n0 w' own loc (apps ob us) ∧ Stp w own loc w' own loc := by
    rintro a c rfl rfl rfl
    obtain ⟨xa, xc, rfl⟩ := rows_slice hwf hrows' hx
    refine ⟨.int .i64 0, w, ?_, .c _, hwf, .refl _ _ _⟩
    have hf : (Builtin.firstCells i.size 0 (.slice xa xs.length xc)).run P w = .ok #[] w := by
      cases xa <;> simp [Builtin.firstCells, loadCells, loadCellsFrom]
    cases a <;> simp [Builtin.copy_, ht0, run_underlying hu, size_of hi, Builtin.lenOf, hf, storeCells, goInt]
  cases dv with
  | z => obtain ⟨a, rfl⟩ := hd.z_inv; simp only at hop; injection hop with hop; injection hop with h1 h2; exact nilcase _ _ rfl h1.symm h2.symm
  | im f l =>
    cases l with
    | nil =>
      simp only at hop; injection hop with hop; injection hop with h1 h2
      cases hd with
      | e f a cap h => exact nilcase _ _ rfl h1.symm h2.symm
      | im f l k' b off n cap ys hn hk' hc ho h0 h => subst hn; exact nilcase _ _ rfl h1.symm h2.symm
    | cons _ _ => simp at hop
  | sl id off len =>
    simp only at hop
    cases hX0 : ob0 id with
    | none => simp [hX0] at hop
    | some X =>
    simp only [hX0, Option.bind_some] at hop
    have hX := hsub id X hX0
    split at hop
    case isFalse => cases hop
    rename_i hcond
    obtain ⟨hk0, hXk, hfit⟩ := hcond
    injection hop with hop; injection hop with h1 h2; subst h1; subst h2
    obtain ⟨p, hp, hor, hcap, rfl⟩ := sl_at hwf hX hd
    have hmp := sl_mp hd hp
    have hpk : p.k = k := by rw [← hor.k]; exact hXk
    have htk : xs.take (min xs.length len) = xs.take len := by
      rw [List.take_eq_take_iff]; omega
    obtain ⟨hxl, hxf⟩ := okRow_spec hk0
    obtain ⟨xa, xc, ys, rfl, hyl, hyr, hy1, hrun⟩ := rows_take2 (P := P) hwf (n := min xs.length len) (Nat.min_le_left _ _) hrows' (by rw [htk]; exact hk0) hx
    rw [htk] at hyr
    obtain ⟨w', hst, ⟨h1, h2⟩, _⟩ := over_run (P := P) hwf hX hp hmp hor (at_ := off) (xs := xs.take len) (ys := ys) (by omega) (by rw [List.length_take]; omega) (fun ch hc => by rw [hpk]; exact hxl ch hc) hyr hy1
    refine ⟨.int .i64 (min xs.length len : Nat), w', ?_, .c _, by rw [← hXk]; exact h1, h2⟩
    subst hik
    have e1 : Nat.min xs.length len = min xs.length len := rfl
    simp [Builtin.copy_, ht0, run_underlying hu, size_of hi, Builtin.lenOf, e1, hrun, hst, goInt]
  | _ => simp at hop
theorem clear_does (hwf : WF n0 w own loc ob) {ts : Array TypeId} {k : Nat} {t0 : TypeId} {z : List V} (ht0 : ts[0]? = some t0) (ht : elSz P t0 = some k) (hz : (sliceEl P t0).bind (zeroOf P) = some z) (hzk : okRow k z = true) (ty : TypeId) {d : Value} {dv r : V} {us : Ups} {ob0 : OB}
    (hsub : ∀ id o, ob0 id = some o → ob id = some o)
    (hd : RV w (okf own n0 w.heap.size) loc dv d) (hop : opF (.clr k z) [dv] ob0 nid = some (r, us)) :
    ∃ y w', (Builtin.clear_ ts ty #[d]).run P w = .ok y w' ∧ RV w' (okf own n0 w'.heap.size) loc r y ∧ WF n0 w' own loc (apps ob us) ∧ Stp w own loc w' own loc := by
  obtain ⟨e, i, hu, hi, hik⟩ := elSz_spec ht
  have hse : sliceEl P t0 = some e := by simp [sliceEl, hu]
  rw [hse] at hz
  simp only [Option.bind_some, zeroOf, hi] at hz
  cases hzv : i.zero with
  | none => simp [hzv] at hz
  | some zv =>
  simp only [hzv, Option.bind_some] at hz
  cases hzl : toVs zv.cells.toList with
  | none => simp [hzl] at hz
  | some zl =>
  simp only [hzl, Option.bind_some] at hz
  split at hz
  case isFalse => cases hz
  rename_i hzs
  injection hz with hz
  have hz' : zl = z := hz
  subst hz'
  simp only [opF] at hop
  have htup : RV w (okf own n0 w.heap.size) loc (.tp []) (.tuple #[]) := .tp [] [] rfl (fun i v x h => by cases h)
  have nilcase : ∀ (a : Option Addr) (c : Nat), d = .slice a 0 c → r = .tp [] → us = [] → ∃ y w', (Builtin.clear_ ts ty #[d]).run P w = .ok y w' ∧ RV w' (okf own n0 w'.heap.size) loc r y ∧ WF n0 w' own loc (apps ob us) ∧ Stp w own loc w' own loc := by
    rintro a c rfl rfl rfl
    refine ⟨.tuple #[], w, ?_, htup, hwf, .refl _ _ _⟩
    cases a <;> simp [Builtin.clear_, ht0, run_underlying hu]
  cases dv with
  | z => obtain ⟨a, rfl⟩ := hd.z_inv; simp only at hop; injection hop with hop; injection hop with h1 h2; exact nilcase _ _ rfl h1.symm h2.symm
  | im f l =>
    cases l with
    | nil =>
      simp only at hop; injection hop with hop; injection hop with h1 h2
      cases hd with
      | e f a cap h => exact nilcase _ _ rfl h1.symm h2.symm
      | im f l k' b off n cap ys hn hk' hc ho h0 h => subst hn; exact nilcase _ _ rfl h1.symm h2.symm
    | cons _ _ => simp at hop
  | sl id off len =>
    simp only at hop
    cases hX0 : ob0 id with
    | none => simp [hX0] at hop
    | some X =>
    simp only [hX0, Option.bind_some] at hop
    have hX := hsub id X hX0
    split at hop
    case isFalse => cases hop
    rename_i hcond
    obtain ⟨hXk, hfit⟩ := hcond
    injection hop with hop; injection hop with h1 h2; subst h1; subst h2
    obtain ⟨p, hp, hor, hcap, rfl⟩ := sl_at hwf hX hd
    have hmp := sl_mp hd hp
    have hpk : p.k = k := by rw [← hor.k]; exact hXk
    simp only [okRow, Bool.and_eq_true, beq_iff_eq] at hzk
    obtain ⟨hzr, _⟩ := toVs_rv (w := w) (ok := okf own n0 w.heap.size) (loc := loc) hzl
    have hzsz : zv.cells.size = k := by have := hzr.1; simp at this; rw [this]; exact hzk.1
    have hys : RVs w (okf own n0 w.heap.size) loc (List.replicate len zl).flatten (List.replicate len zv.cells.toList).flatten := by
      have hlz : ∀ n, (List.replicate n zl).flatten.length = n * k := fun n => by simp [hzk.1]
      have hlv : ∀ n, (List.replicate n zv.cells.toList).flatten.length = n * k := fun n => by simp [hzsz]
      refine ⟨by rw [hlz, hlv], fun q v x h1 h2 => ?_⟩
      have aux : ∀ (n q : Nat), (List.replicate n zl).flatten[q]? = some v → (List.replicate n zv.cells.toList).flatten[q]? = some x → RV w (okf own n0 w.heap.size) loc v x := by
        intro n
        induction n with
        | zero => intro q h; simp at h
        | succ n ih =>
          intro q h1 h2
          rw [List.replicate_succ, List.flatten_cons] at h1 h2
          by_cases hq : q < k
          · rw [List.getElem?_append_left (by rw [hzk.1]; exact hq)] at h1
            rw [List.getElem?_append_left (by simpa [hzsz] using hq)] at h2
            exact hzr.2 q v x h1 h2
          · rw [List.getElem?_append_right (by rw [hzk.1]; omega), hzk.1] at h1
            rw [List.getElem?_append_right (by simp [hzsz]; omega)] at h2
            simp only [Array.length_toList, hzsz] at h2
            exact ih _ h1 h2
      exact aux len q h1 h2
    have hzc : (Builtin.zeroCells zv.cells len).toList = (List.replicate len zv.cells.toList).flatten := by
      apply List.ext_getElem?
      intro q
      have hlv : (List.replicate len zv.cells.toList).flatten.length = len * k := by simp [hzsz]
      by_cases hq : q < len * k
      · have hk0 : 0 < k := Nat.pos_of_ne_zero (by rintro rfl; simp at hq)
        have hm := Nat.mod_lt q hk0
        have hqd : q / k < len := (Nat.div_lt_iff_lt_mul hk0).2 hq
        have e2 : q = q / k * k + q % k := by have := Nat.div_add_mod q k; rw [Nat.mul_comm] at this; omega
        have hr : (List.replicate len zv.cells.toList).flatten[q]? = zv.cells.toList[q % k]? := by
          have aux : ∀ (n i : Nat), i < n → (List.replicate n zv.cells.toList).flatten[i * k + q % k]? = zv.cells.toList[q % k]? := by
            intro n
            induction n with
            | zero => intro i h; omega
            | succ n ih =>
              intro i h
              rw [List.replicate_succ, List.flatten_cons]
              cases i with
              | zero => rw [List.getElem?_append_left (by simp [hzsz]; exact hm)]; simp
              | succ i =>
                rw [List.getElem?_append_right (by simp [hzsz, Nat.add_mul]; omega)]
                have : (i + 1) * k + q % k - zv.cells.toList.length = i * k + q % k := by simp [hzsz, Nat.add_mul]; omega
                rw [this]; exact ih i (by omega)
          have := aux len (q / k) hqd
          rw [← e2] at this; exact this
        rw [hr]
        simp [Builtin.zeroCells, hzsz, hq, hm]
      · rw [List.getElem?_eq_none (by simp [Builtin.zeroCells, hzsz]; omega), List.getElem?_eq_none (by omega)]
    have hy1 : ∀ y ∈ (List.replicate len zv.cells.toList).flatten, y.oneCell' = true := rvs_one (rows := List.replicate len zl) (fun ch hc => by rw [List.eq_of_mem_replicate hc]; exact hzk.2) hys
    obtain ⟨w', hst, ⟨h1, h2⟩, _⟩ := over_run (P := P) hwf hX hp hmp hor (at_ := off) (xs := List.replicate len zl) (by omega) (by simp; omega) (fun ch hc => by rw [List.eq_of_mem_replicate hc, hpk]; exact hzk.1) hys hy1
    refine ⟨.tuple #[], w', ?_, htup.stp h2, by rw [← hXk]; exact h1, h2⟩
    cases len with
    | zero => simp [storeCells] at hst; simp [Builtin.clear_, ht0, run_underlying hu, hst]
    | succ n => simp [Builtin.clear_, ht0, run_underlying hu, zero_of hi hzv, hzc, hst]
  | _ => simp at hop
end
end Go.Proofs.YtbojpedklnmidaaGreat.D
end
section
set_option linter.unusedVariables false
set_option linter.unusedSectionVars false
set_option linter.unusedSimpArgs false
set_option linter.constructorNameAsVariable false
/- The machine's operations, as those over plain values: make, literals, slicing, places. No condition. -/
namespace Go.Proofs.YtbojpedklnmidaaGreat.D
open Go Go.RowKit
section
variable {P : Program} {n0 : Nat} {w : World} {own : Nat → Option Nat} {loc : Loc} {ob : OB} {nid : Nat} [Bk]
theorem toInt_inv {v : V} {n : Int} (h : toInt v = some n) : ∃ k, v = .c (.int k n) := by
  unfold toInt at h
  split at h
  · rename_i k m; injection h with h; subst h; exact ⟨k, rfl⟩
  · cases h
theorem toC_inv {v : V} {x : Value} (h : toC v = some x) : v = .c x := by
  unfold toC at h
  split at h
  · injection h with h; subst h; rfl
  · cases h
theorem toBool_inv {v : V} {b : Bool} (h : toBool v = some b) : v = .c (.bool b) := by
  unfold toBool at h
  split at h
  · injection h with h; subst h; rfl
  · cases h
def elZ (P : Program) (t : TypeId) : Option (Nat × List V) :=
  (sliceEl P t).bind fun e => (P.info? e).bind fun i => i.zero.bind fun z => (toVs z.cells.toList).bind fun l =>
    if l.length = i.size ∧ 0 < i.size ∧ 0 < i.bytes ∧ i.bytes ≤ 4096 ∧ i.size ≤ 4096 then some (i.size, l) else none
theorem elZ_spec {t : TypeId} {k : Nat} {l : List V} (h : elZ P t = some (k, l)) : ∃ e i z, P.underlying t = some (.slice e) ∧ P.info? e = some i ∧ i.size = k ∧ i.zero = some z ∧ toVs z.cells.toList = some l ∧
    l.length = k ∧ 0 < k ∧ 0 < i.bytes ∧ i.bytes ≤ 4096 ∧ k ≤ 4096 := by
  unfold elZ sliceEl at h
  split at h
  · rename_i e h1
    simp only [Option.bind_some] at h
    cases h2 : P.info? e with
    | none => simp [h2] at h
    | some i =>
      simp only [h2, Option.bind_some] at h
      cases h3 : i.zero with
      | none => simp [h3] at h
      | some z =>
        simp only [h3, Option.bind_some] at h
        cases h4 : toVs z.cells.toList with
        | none => simp [h4] at h
        | some l' =>
          simp only [h4, Option.bind_some] at h
          split at h
          · rename_i hc
            injection h with h; injection h with ha hb
            subst ha; subst hb
            exact ⟨e, i, z, h1, h2, rfl, h3, h4, hc.1, hc.2.1, hc.2.2.1, hc.2.2.2.1, hc.2.2.2.2⟩
          · cases h
  · simp at h
theorem flatten_rep_at {α : Type} (zl : List α) {k : Nat} (hz : zl.length = k) : ∀ (n i j : Nat), i < n → j < k → (List.replicate n zl).flatten[i * k + j]? = zl[j]?
  | 0, i, j, h, _ => by omega
  | n + 1, 0, j, h, hj => by rw [List.replicate_succ, List.flatten_cons, List.getElem?_append_left (by rw [hz]; omega)]; simp
  | n + 1, i + 1, j, h, hj => by
    rw [List.replicate_succ, List.flatten_cons, List.getElem?_append_right (by rw [hz, Nat.add_mul]; omega)]
    have : (i + 1) * k + j - zl.length = i * k + j := by rw [hz, Nat.add_mul]; omega
    rw [this]; exact flatten_rep_at zl hz n i j (by omega) hj
theorem zeros_get (z : Array Value) (k : Nat) (hz : z.size = k) (n q : Nat) (hq : q < n * k) : (Array.map (fun x => z[x % z.size]!) (Array.range (n * k)))[q]? = z[q % k]? := by
  have hk0 : 0 < k := Nat.pos_of_ne_zero (by rintro rfl; simp at hq)
  have hm : q % k < z.size := by rw [hz]; exact Nat.mod_lt q hk0
  simp [hz, hq]
  rw [Array.getElem?_eq_getElem hm]
  simp [hm]
theorem zeros_rows {ok : Fl → Nat → Prop} {z : Array Value} {l : List V} {k : Nat} (hl : toVs z.toList = some l) (hlk : l.length = k) (n : Nat) (cs : Array Value)
    (hcs : ∀ q, q < n * k → cs[q]? = z[q % k]?) : ∀ i j v, el (List.replicate n l) i j = some v → ∃ x, cs[i * k + j]? = some x ∧ RV w ok loc v x := by
  intro i j v hv
  obtain ⟨r, h1, h2⟩ := el_some hv
  have hi : i < n := by have := (List.getElem?_eq_some_iff.1 h1).1; simpa using this
  have hr : r = l := by
    rw [List.getElem?_replicate, if_pos hi] at h1
    injection h1 with h1; exact h1.symm
  subst hr
  have hj : j < k := by have := (List.getElem?_eq_some_iff.1 h2).1; omega
  obtain ⟨hrv, _⟩ := toVs_rv (w := w) (ok := ok) (loc := loc) hl
  have hq : i * k + j < n * k := by
    have : (i + 1) * k ≤ n * k := Nat.mul_le_mul_right _ (by omega)
    rw [Nat.add_mul] at this; omega
  have hmod : (i * k + j) % k = j := by rw [Nat.mul_comm, Nat.mul_add_mod, Nat.mod_eq_of_lt hj]
  have hjz : j < z.toList.length := by rw [hrv.1]; omega
  refine ⟨z.toList[j], ?_, hrv.2 j v _ h2 (List.getElem?_eq_getElem hjz)⟩
  rw [hcs _ hq, hmod]
  simp at hjz ⊢
  try exact hjz
def apzTy (P : Program) (ts : Array TypeId) : Option (Nat × List V) :=
  match ts[0]?, ts[1]? with
  | some s, some x => match P.underlying x with
    | some (.int _) => elZ P s
    | _ => none
  | _, _ => none
theorem zeros_flat {ok : Fl → Nat → Prop} {z : Array Value} {l : List V} {k : Nat} (hl : toVs z.toList = some l) (hlk : l.length = k) (hz : z.size = k) (n : Nat) : RVs w ok loc (List.replicate n l).flatten (Builtin.zeroCells z n).toList := by
  have hsz : (Builtin.zeroCells z n).size = n * k := by simp [Builtin.zeroCells, hz]
  have hcs : ∀ q, q < n * k → (Builtin.zeroCells z n)[q]? = z[q % k]? := fun q hq => by
    have h := zeros_get z k hz n q hq
    unfold Builtin.zeroCells
    rw [hz] at h ⊢; exact h
  have hlen : (List.replicate n l).flatten.length = n * k := by simp [hlk]
  refine ⟨by rw [hlen]; simpa using hsz, fun i v x hv hx => ?_⟩
  have hi : i < n * k := by rw [← hlen]; exact (List.getElem?_eq_some_iff.1 hv).1
  have hk0 : 0 < k := Nat.pos_of_ne_zero (by rintro rfl; simp at hi)
  have hdm : i = i / k * k + i % k := by rw [Nat.mul_comm]; exact (Nat.div_add_mod i k).symm
  have hq : i / k < n := (Nat.div_lt_iff_lt_mul hk0).2 hi
  have hr : i % k < k := Nat.mod_lt _ hk0
  have hrows := zeros_rows (w := w) (ok := ok) (loc := loc) hl hlk n (Builtin.zeroCells z n) hcs (i / k) (i % k) v (by
    rw [hdm, flatten_rep_at l hlk n _ _ hq hr] at hv
    exact el_mk (by rw [List.getElem?_replicate, if_pos hq]) hv)
  obtain ⟨y, h1, h2⟩ := hrows
  rw [← hdm] at h1
  have : x = y := by
    rw [Array.getElem?_toList] at hx
    rw [h1] at hx; injection hx with hx; exact hx.symm
  rw [this]; exact h2
theorem appz_does (hwf : WF n0 w own loc ob) (hnid : loc nid = none) {ts : Array TypeId} {k : Nat} {z : List V} (ht : apzTy P ts = some (k, z)) (ty : TypeId) {s x : Value} {sv xv r : V} {us : Ups} {ob0 : OB}
    (hsub : ∀ id o, ob0 id = some o → ob id = some o)
    (hs : RV w (okf own n0 w.heap.size) loc sv s) (hx : RV w (okf own n0 w.heap.size) loc xv x) (hop : opF (.appz k z) [sv, xv] ob0 nid = some (r, us)) :
    ∃ y w' own' loc', (Builtin.append_ ts ty #[s, x]).run P w = .ok y w' ∧ RV w' (okf own' n0 w'.heap.size) loc' r y ∧
      WF n0 w' own' loc' (apps ob us) ∧ Stp w own loc w' own' loc' ∧ ∀ id, id ≠ nid → loc id = none → loc' id = none := by
  unfold apzTy at ht
  split at ht
  case h_2 => cases ht
  rename_i st xt hst hxt
  split at ht
  case h_2 => cases ht
  rename_i kk hux
  obtain ⟨e, i, zv, hu, hi, hik, hz, hzl, hzk, hk0, hb0, hb1, hkb⟩ := elZ_spec ht
  simp only [opF] at hop
  obtain ⟨N, hN, hopA⟩ := Option.bind_eq_some_iff.1 hop
  clear hop
  obtain ⟨kn, rfl⟩ := toInt_inv hN
  have hxe := hx.c_inv
  subst hxe
  have hsl : ∃ id off len, sv = .sl id off len := by
    cases sv <;> first | exact ⟨_, _, _, rfl⟩ | (simp at hopA; done)
  obtain ⟨id, off, len, rfl⟩ := hsl
  simp only at hopA
  obtain ⟨X, hX0, hopB⟩ := Option.bind_eq_some_iff.1 hopA
  clear hopA
  obtain ⟨c, hcap0, hop⟩ := Option.bind_eq_some_iff.1 hopB
  clear hopB
  split at hop
  case isFalse => cases hop
  rename_i hc
  obtain ⟨hXk, rfl, hfit, hn0, hsmall, hgrow⟩ := hc
  injection hop with hop; injection hop with h1 h2; subst h1; subst h2
  obtain ⟨n, rfl⟩ : ∃ n : Nat, N = n := ⟨N.toNat, by omega⟩
  simp only [Int.toNat_natCast] at hsmall hgrow ⊢
  have hX := hsub id X hX0
  obtain ⟨p, hp, hor, hcap, rfl⟩ := sl_at hwf hX hs
  have hmp := sl_mp hs hp
  have hpk : p.k = k := by rw [← hor.k]; exact hXk
  have hpc : c = p.cap := hor.cap c hcap0
  subst hpc
  have hlk : ∀ ch ∈ X.l.take len, ch.length = k := fun ch h => by rw [← hpk]; exact hor.rows ch (List.mem_of_mem_take h)
  have htl : (X.l.take len).length = len := by rw [List.length_take]; omega
  obtain ⟨zs, hz1, hz2, hz3⟩ := rows_cells (w := w) (ok := okf own n0 w.heap.size) (loc := loc) (rows := X.l.take len) (k := k) (b := p.b) (off := p.base) hlk (fun i j v hv => by
    rw [← hpk]
    exact hor.cells i j v (by
      have := el_take_drop (l := X.l) (a := 0) (n := len) (by simpa using hv)
      simpa using this))
  have hzs : zv.cells.size = k := by
    have := (toVs_rv (w := w) (ok := okf own n0 w.heap.size) (loc := loc) hzl).1.1
    simp at this; omega
  have hold : (Builtin.firstCells k len (.slice (some ⟨p.b, p.base, none⟩) len p.cap)).run P w.drew = .ok zs.toArray w.drew := by
    have := loadCells_run (P := P) (w := w.drew) p.b p.base zs (fun q y hq => by simpa using hz3 q y hq)
    rw [hz1, htl] at this
    simp only [Builtin.firstCells]
    exact this
  have hfl := zeros_flat (w := w) (ok := okf own n0 w.heap.size) (loc := loc) hzl hzk hzs n
  have hwrap : IntKind.i64.wrap (n : Int) = n := by unfold maxLen at hsmall; simp [IntKind.wrap, IntKind.bits, IntKind.signed]; omega
  have hneg : ¬ ((n : Int) < 0) := by omega
  have hbig : ¬ (281474976710656 < (n : Int) * (i.bytes : Int)) := by
    have : n * i.bytes ≤ maxLen * 4096 := Nat.mul_le_mul (by omega) hb1
    rw [← Int.natCast_mul]; unfold maxLen at this; omega
  have hnk : ¬ (n * k = 0) := by
    intro h; rcases Nat.mul_eq_zero.1 h with h | h
    · omega
    · exact absurd h (by omega)
  have hnle : ¬ len + n ≤ p.cap := by omega
  have h63 : ¬ (9223372036854775807 < ((len : Int) + (n : Int))) := by unfold maxLen at hsmall; omega
  have h3 : ¬ 281474976710656 < Builtin.nextslicecap (len + n) p.cap * i.bytes := by
    have := nextcap_le (len + n) p.cap hgrow
    have h3 : Builtin.nextslicecap (len + n) p.cap * i.bytes ≤ (2 * maxLen + 768) * 4096 := Nat.mul_le_mul (by omega) hb1
    unfold maxLen at h3; omega
  have hf : (Question.appendCap (len + n) p.cap e).forced = false := rfl
  have hC : len + n ≤ (Question.appendCap (len + n) p.cap e).cut (w.tape w.drawn (Question.appendCap (len + n) p.cap e)) := by simp [Question.cut]
  have hap : ∀ (o : Obj), ({ heap := w.drew.heap.push o, tape := w.drew.tape, drawn := w.drew.drawn, os := w.drew.os, output := w.drew.output } : World) = w.drew.alloc o := fun o => rfl
  have hrun : ∃ rest : Array Value, (∀ C, C = (Question.appendCap (len + n) p.cap e).cut (w.tape w.drawn (Question.appendCap (len + n) p.cap e)) → C * k ≤ (zs.toArray ++ (Builtin.zeroCells zv.cells n) ++ rest).size) ∧ (Builtin.append_ ts ty #[.slice (some ⟨p.b, p.base, none⟩) len p.cap, .int kn n]).run P w = .ok (.slice (some ⟨w.drew.heap.size, 0, none⟩) (len + n) ((Question.appendCap (len + n) p.cap e).cut (w.tape w.drawn (Question.appendCap (len + n) p.cap e)))) (w.drew.alloc (.cells (zs.toArray ++ (Builtin.zeroCells zv.cells n) ++ rest) e)) := by
    refine ⟨Builtin.zeroCells zv.cells ((Question.appendCap (len + n) p.cap e).cut (w.tape w.drawn (Question.appendCap (len + n) p.cap e)) - (len + n)), fun C hCe => ?_, ?_⟩
    · rw [← hCe] at hC ⊢
      have e1 : C * k = (len + n) * k + (C - (len + n)) * k := by rw [← Nat.add_mul]; congr 1; omega
      have e2 : zs.length = len * k := by rw [hz1, htl]
      simp [Builtin.zeroCells, hzs, e2, e1, Nat.add_mul]
      omega
    · subst hik
      simp [hf, -World.size_drew, Builtin.append_, hst, hxt, run_underlying hu, run_underlying hux, asInt, asIntOf, hwrap, hneg, hbig, hnk, size_of hi, info_of hi, hnle, h63, h3, hold, zero_of hi hz, newRow]
  obtain ⟨rest, hsz, hrun⟩ := hrun
  generalize (Question.appendCap (len + n) p.cap e).cut (w.tape w.drawn (Question.appendCap (len + n) p.cap e)) = C at hrun hsz hC
  have hzr : ∀ ch ∈ List.replicate n z, ch.length = k := fun ch h => by rw [List.eq_of_mem_replicate h, hzk]
  have hg := grown_cells (k := k) rest hlk hzr hz2 hfl
  have hrows : ∀ ch ∈ X.l.take len ++ List.replicate n z, ch.length = k := fun ch h => by
    rcases List.mem_append.1 h with h | h
    · exact hlk ch h
    · exact hzr ch h
  obtain ⟨h1, h2⟩ := new_ob hwf.drew hnid (zs.toArray ++ (Builtin.zeroCells zv.cells n) ++ rest) e k C (X.l.take len ++ List.replicate n z) none (hsz C rfl) (by simp only [List.length_append, htl, List.length_replicate]; exact hC) hrows (fun c h => by cases h)
    (fun i j v hv => by
      obtain ⟨x, h3, h4⟩ := hg i j v hv
      exact ⟨x, by simpa using h3, h4.stp (.drew w own loc)⟩)
  refine ⟨_, _, _, _, by simpa using hrun, ?_, h1, (Stp.drew w own loc).trans h2, fun j hj h => by simp [hj, h]⟩
  exact .sl nid 0 _ _ _ (by simp) (fun q hq => by simp only [if_true, Option.some.injEq] at hq; subst hq; rfl) fun q hq => by
    simp only [if_true, Option.some.injEq] at hq
    subst hq
    exact ⟨by simp only [Nat.zero_add]; omega, by simp, by simp⟩
theorem make_does (hwf : WF n0 w own loc ob) (hn0 : n0 ≤ w.heap.size) (hnid : loc nid = none) {t : TypeId} {k : Nat} {z : List V} {fz : Bool} (ht : elZ P t = some (k, z)) {xn xm : Value} {vn vm r : V} {us : Ups} {ob0 : OB}
    (hn : RV w (okf own n0 w.heap.size) loc vn xn) (hm : RV w (okf own n0 w.heap.size) loc vm xm) (hop : opF (.mks k z fz) [vn, vm] ob0 nid = some (r, us)) :
    ∃ y w' own' loc', (Instr.makeSlice t xn xm).run P w = .ok y w' ∧ RV w' (okf own' n0 w'.heap.size) loc' r y ∧
      WF n0 w' own' loc' (apps ob us) ∧ Stp w own loc w' own' loc' ∧ ∀ id, id ≠ nid → loc id = none → loc' id = none := by
  obtain ⟨e, i, zv, hu, hi, hik, hz, hzl, hzk, hk0, hb0, hb1, hkb⟩ := elZ_spec ht
  simp only [opF] at hop
  obtain ⟨n, hn1, hopA⟩ := Option.bind_eq_some_iff.1 hop
  obtain ⟨m, hm1, hop2⟩ := Option.bind_eq_some_iff.1 hopA
  clear hop hopA
  obtain ⟨k1, rfl⟩ := toInt_inv hn1
  obtain ⟨k2, rfl⟩ := toInt_inv hm1
  have hn' := hn.c_inv; have hm' := hm.c_inv
  subst hn'; subst hm'
  clear hn1 hm1
  by_cases hcond : n = m ∧ 0 ≤ n ∧ n ≤ maxLen
  case neg => rw [if_neg hcond] at hop2; cases hop2
  rw [if_pos hcond] at hop2
  have hop := hop2; clear hop2
  obtain ⟨rfl, hnn, hnm⟩ := hcond
  obtain ⟨N, rfl⟩ : ∃ N : Nat, n = N := ⟨n.toNat, by omega⟩
  have hN : N ≤ maxLen := by omega
  unfold maxLen at hN
  have hwrap : IntKind.i64.wrap (N : Int) = N := by simp [IntKind.wrap, IntKind.bits, IntKind.signed]; omega
  have hlt1 : ¬ ((N : Int) < 0) := by omega
  have hbig : ¬ ((i.bytes : Int) * (N : Int) > 2 ^ 48) := by
    have : i.bytes * N ≤ 4096 * 4294967296 := Nat.mul_le_mul hb1 hN
    have h2 : (i.bytes : Int) * (N : Int) = ((i.bytes * N : Nat) : Int) := by rw [Int.natCast_mul]
    rw [h2]
    omega
  have hzs : zv.cells.size = k := by
    have := (toVs_rv (w := w) (ok := okf own n0 w.heap.size) (loc := loc) hzl).1.1
    simp at this; omega
  generalize hcs : (Array.map (fun x => (if N * k = 0 then #[] else zv.cells)[x % (if N * k = 0 then #[] else zv.cells).size]!) (Array.range (N * k))) = cs
  have hget : ∀ q, q < N * k → cs[q]? = zv.cells[q % k]? := fun q hq => by
    rw [← hcs]
    have : N * k ≠ 0 := by omega
    simp only [this, if_false]
    exact zeros_get zv.cells k hzs N q hq
  have hsize : cs.size = N * k := by rw [← hcs]; simp
  have hrun : (Instr.makeSlice t (.int k1 N) (.int k2 N)).run P w = .ok (.slice (some ⟨w.heap.size, 0, none⟩) N N) (w.alloc (.cells cs e)) := by
    subst hik
    have hap : ∀ o : Obj, ({ heap := w.heap.push o, tape := w.tape, drawn := w.drawn, os := w.os, output := w.output } : World) = w.alloc o := fun o => rfl
    have hT : (decide ((N : Int) < 0) || decide ((i.bytes : Int) * N > 2 ^ 48)) = false := by simp only [hlt1, hbig, decide_false, Bool.or_self]
    have hnn : ¬ ((N : Int) > N) := by omega
    have hbig2 : ¬ (281474976710656 < (i.bytes : Int) * (N : Int)) := by simpa using hbig
    have htn : (N : Int).toNat = N := by simp
    simp only [Instr.makeSlice, Sem.run_bind, run_underlying hu, asInt, asIntOf, info_of hi, size_of hi, Sem.run_pure, Result.andThen_ok, hwrap, hT, hlt1, hnn, decide_false, Bool.or_self, Bool.false_eq_true, if_false, run_askRoom, htn, Sem.run_ite]
    by_cases h0 : N * i.size = 0
    · simp only [h0, if_true] at hcs
      simp [h0, newRow, hbig2, ← hcs, hap]
    · simp only [h0, if_false] at hcs
      simp [h0, newRow, hbig2, zero_of hi hz, ← hcs, hap]
  have hrows := zeros_rows (w := w) (ok := okf own n0 w.heap.size) (loc := loc) hzl hzk N cs hget
  cases fz with
  | true =>
    simp only [if_true] at hop
    injection hop with hop; injection hop with h1 h2; subst h1; subst h2
    obtain ⟨h1, h2⟩ := new_blk hwf (.cells cs e)
    refine ⟨_, _, own, loc, hrun, ?_, h1, h2, fun _ _ h => h⟩
    have hnone : own w.heap.size = none := by
      cases ho : own w.heap.size with
      | none => rfl
      | some id => exact absurd (hwf.lt _ _ ho) (by omega)
    by_cases hN0 : N = 0
    · subst hN0; exact .e _ _ _ (fun h => by cases h)
    · have hch : ∀ i j v, el (List.replicate (N : Int).toNat z) i j = some v → ∃ x, cs[i * k + j]? = some x ∧ RV w (okf own n0 w.heap.size) loc v x := by simpa using hrows
      refine .im .b _ k w.heap.size 0 N N (fun i j => (cs[i * k + j]?).getD undef) (by simp) (fun ch h => by rw [List.eq_of_mem_replicate h, hzk]) (Nat.le_refl _) ⟨hnone, by simp, .inr (.inr hn0)⟩ (fun i j v hv => ?_) (fun i j v hv => ?_)
      · obtain ⟨x, h3, h4⟩ := hch i j v hv
        simp [h3]
      · obtain ⟨x, h3, h4⟩ := hch i j v hv
        rw [h3]; exact h4.stp h2
  | false =>
    simp only [Bool.false_eq_true, if_false] at hop
    injection hop with hop; injection hop with h1 h2; subst h1; subst h2
    obtain ⟨h1, h2⟩ := new_ob hwf hnid cs e k N (List.replicate N z) none (by omega) (by simp) (fun ch h => by rw [List.eq_of_mem_replicate h, hzk]) (fun c h => by cases h) hrows
    refine ⟨_, _, _, _, hrun, ?_, by simpa [apps] using h1, h2, fun id hne h => by simp [hne, h]⟩
    refine .sl nid 0 _ _ _ (by simp) (fun q hq => by simp only [if_true, Option.some.injEq] at hq; subst hq; rfl) fun q hq => ?_
    simp only [if_true, Option.some.injEq] at hq
    subst hq
    exact ⟨by simp, by simp, by simp⟩
end
end Go.Proofs.YtbojpedklnmidaaGreat.D
end
section
set_option linter.unusedVariables false
set_option linter.unusedSectionVars false
set_option linter.unusedSimpArgs false
set_option linter.constructorNameAsVariable false
/- The machine's operations, as those over plain values: literals, slicing, places. No condition. -/
namespace Go.Proofs.YtbojpedklnmidaaGreat.D
open Go Go.RowKit
section
variable {P : Program} {n0 : Nat} {w : World} {own : Nat → Option Nat} {loc : Loc} {ob : OB} {nid : Nat} [Bk]
theorem set_fold : ∀ (l : List Value) (off m : Nat) (cs : Array Value), off + m + l.length ≤ cs.size →
    ((l.zipIdx m).foldl (fun cs (p : Value × Nat) => cs.setIfInBounds (off + p.2) p.1) cs).toList = cs.toList.take (off + m) ++ l ++ cs.toList.drop (off + m + l.length)
  | [], off, m, cs, h => by simp
  | x :: l, off, m, cs, h => by
    simp only [List.length_cons] at h
    rw [List.zipIdx_cons, List.foldl_cons, set_fold l off (m + 1) _ (by simp; omega)]
    have e1 : off + (m + 1) = off + m + 1 := by omega
    have e2 : off + (m + 1) + l.length = off + m + (l.length + 1) := by omega
    rw [Array.toList_setIfInBounds, e2, e1]
    have h1 : (cs.toList.set (off + m) x).take (off + m + 1) = cs.toList.take (off + m) ++ [x] := by
      rw [List.take_add_one, List.take_set_of_le (Nat.le_refl _), List.getElem?_set_self (by simp; omega)]
      rfl
    have h2 : (cs.toList.set (off + m) x).drop (off + m + (l.length + 1)) = cs.toList.drop (off + m + (l.length + 1)) := List.drop_set_of_lt (by omega)
    rw [h1, h2]; simp
theorem fill_rv {ok : Fl → Nat → Prop} (place : Nat → Option (Nat × Nat)) : ∀ (is : List Nat) (ps : List (Nat × Nat)) (vs : List V) (xs : List Value) (cells l : List V) (cx : Array Value),
    is.length = ps.length → (∀ (j i : Nat) (p : Nat × Nat), is[j]? = some i → ps[j]? = some p → place i = some p) → RVs w ok loc vs xs → RVs w ok loc cells cx.toList → fill cells ps vs = some l →
    ∃ cy, Instr.fill place cx (is.zip xs) = some cy ∧ RVs w ok loc l cy.toList
  | [], ps, vs, xs, cells, l, cx, hlen, hpl, hv, hc, h => by
    cases ps with
    | cons _ _ => simp at hlen
    | nil =>
      cases vs with
      | cons _ _ => simp [fill] at h
      | nil => simp only [fill] at h; injection h with h; subst h; exact ⟨cx, by simp [Instr.fill], hc⟩
  | i :: is, ps, vs, xs, cells, l, cx, hlen, hpl, hv, hc, h => by
    cases ps with
    | nil => simp at hlen
    | cons p ps =>
      obtain ⟨off, n⟩ := p
      cases vs with
      | nil => simp [fill] at h
      | cons v vs =>
        obtain ⟨hvl, hvr⟩ := hv
        cases xs with
        | nil => simp at hvl
        | cons x xs =>
          simp only [fill] at h
          split at h
          case isFalse => cases h
          rename_i hcond
          obtain ⟨h1, h2, h3⟩ := hcond
          have hx := hvr 0 v x rfl rfl
          obtain ⟨hcr, _⟩ := cells_rv hx h3
          have hxs : x.cells.size = n := by have := hcr.1; simp at this; omega
          have hcl : cx.size = cells.length := by have := hc.1; simpa using this
          have hpl0 := hpl 0 i (off, n) rfl rfl
          have hfold : (x.cells.zipIdx.foldl (fun cs (p : Value × Nat) => cs.setIfInBounds (off + p.2) p.1) cx).toList = cx.toList.take off ++ x.cells.toList ++ cx.toList.drop (off + n) := by
            have := set_fold x.cells.toList off 0 cx (by simp [hxs]; omega)
            simp only [Nat.add_zero, Array.length_toList, hxs] at this
            rw [← this, ← Array.foldl_toList]
            congr 1
            congr 1
            simp
          have hnew : RVs w ok loc (cells.take off ++ cellsV v ++ cells.drop (off + n)) (x.cells.zipIdx.foldl (fun cs (p : Value × Nat) => cs.setIfInBounds (off + p.2) p.1) cx).toList := by
            rw [hfold]
            refine ⟨by simp [hcl, h1, hxs], fun q zz y hq1 hq2 => ?_⟩
            have e1 := seg_get cells (cellsV v) off q (by omega)
            have e2 := seg_get cx.toList x.cells.toList off q (by simp [hxs]; omega)
            rw [h1] at e1
            simp only [Array.length_toList, hxs] at e2
            rw [e1] at hq1; rw [e2] at hq2
            split at hq1
            · rename_i h; rw [if_pos h] at hq2; exact hc.2 q zz y hq1 hq2
            · rename_i h; rw [if_neg h] at hq2
              split at hq1
              · rename_i h'; rw [if_pos h'] at hq2; exact hcr.2 _ zz y hq1 hq2
              · rename_i h'; rw [if_neg h'] at hq2; exact hc.2 q zz y hq1 hq2
          obtain ⟨cy, h4, h5⟩ := fill_rv place is ps vs xs _ l _ (by simpa using hlen) (fun j i p hj hp => hpl (j + 1) i p (by simpa using hj) (by simpa using hp))
            ⟨by simpa using hvl, fun j a b ha hb => hvr (j + 1) a b (by simpa using ha) (by simpa using hb)⟩ hnew h
          refine ⟨cy, ?_, h5⟩
          have hc1 : (x.cells.size ≠ n || decide (off + x.cells.size > cx.size)) = false := by simp [hxs]; omega
          simp only [List.zip_cons_cons, Instr.fill, hpl0]
          rw [if_neg (by rw [hc1]; simp)]
          exact h4
theorem lit_rows {ok : Fl → Nat → Prop} {l : List V} {cy : Array Value} {k n : Nat} (h : RVs w ok loc l cy.toList) :
    ∀ i j v, el ((List.range n).map fun i => (l.drop (i * k)).take k) i j = some v → ∃ x, cy[i * k + j]? = some x ∧ RV w ok loc v x := by
  intro i j v hv
  obtain ⟨r, h1, h2⟩ := el_some hv
  rw [List.getElem?_map] at h1
  cases hr : (List.range n)[i]? with
  | none => rw [hr] at h1; cases h1
  | some q =>
    rw [hr] at h1
    injection h1 with h1
    have hq : q = i := by
      have := (List.getElem?_eq_some_iff.1 hr).2
      simpa using this.symm
    subst hq; subst h1
    rw [List.getElem?_take] at h2
    split at h2
    · rw [List.getElem?_drop] at h2
      have hlt : q * k + j < cy.toList.length := by rw [h.1]; exact (List.getElem?_eq_some_iff.1 h2).1
      refine ⟨cy.toList[q * k + j], ?_, h.2 _ v _ h2 (List.getElem?_eq_getElem hlt)⟩
      simp at hlt ⊢
      try exact hlt
    · cases h2
theorem bsl_does (hwf : WF n0 w own loc ob) (hn0 : n0 ≤ w.heap.size) (hnid : loc nid = none) {t : TypeId} {k n : Nat} {z : List V} {fz : Bool} (ht : elZ P t = some (k, z)) (hnk : n * k ≤ 16777216) {is : List Nat} {xs : List Value} {vs : List V} {r : V} {us : Ups} {ob0 : OB}
    (hlen : is.length = xs.length) (hv : RVs w (okf own n0 w.heap.size) loc vs xs) (hop : opF (.bsl k z is n fz) vs ob0 nid = some (r, us)) :
    ∃ y w' own' loc', (Instr.buildSlice t n (is.zip xs).toArray).run P w = .ok y w' ∧ RV w' (okf own' n0 w'.heap.size) loc' r y ∧
      WF n0 w' own' loc' (apps ob us) ∧ Stp w own loc w' own' loc' ∧ ∀ id, id ≠ nid → loc id = none → loc' id = none := by
  obtain ⟨e, i, zv, hu, hi, hik, hz, hzl, hzk, hk0, hb0, hb1, hkb⟩ := elZ_spec ht
  simp only [opF] at hop
  obtain ⟨l, hf, hop1⟩ := Option.bind_eq_some_iff.1 hop
  clear hop
  by_cases hok : ((List.range n).map fun i => (l.drop (i * k)).take k).all (okRow k) = true
  case neg => rw [if_neg hok] at hop1; cases hop1
  rw [if_pos hok] at hop1
  have hzs : zv.cells.size = k := by
    have := (toVs_rv (w := w) (ok := okf own n0 w.heap.size) (loc := loc) hzl).1.1
    simp at this; omega
  generalize hcs : (Array.map (fun x => (if n * k = 0 then #[] else zv.cells)[x % (if n * k = 0 then #[] else zv.cells).size]!) (Array.range (n * k))) = cs
  have hget : ∀ q, q < n * k → cs[q]? = zv.cells[q % k]? := fun q hq => by
    rw [← hcs]
    have : n * k ≠ 0 := by omega
    simp only [this, if_false]
    exact zeros_get zv.cells k hzs n q hq
  have hsize : cs.size = n * k := by rw [← hcs]; simp
  have hrows := zeros_rows (w := w) (ok := okf own n0 w.heap.size) (loc := loc) hzl hzk n cs hget
  have hzl' : ∀ ch ∈ List.replicate n z, ch.length = k := fun ch h => by rw [List.eq_of_mem_replicate h, hzk]
  have hc0 : RVs w (okf own n0 w.heap.size) loc (List.replicate n z).flatten cs.toList := by
    have hfl := flat_len _ k hzl'
    simp only [List.length_replicate] at hfl
    refine ⟨by rw [hfl]; simpa using hsize, fun q v x h1 h2 => ?_⟩
    have hq : q < n * k := by rw [← hfl]; exact (List.getElem?_eq_some_iff.1 h1).1
    have e2 : q = q / k * k + q % k := by have := Nat.div_add_mod q k; rw [Nat.mul_comm] at this; omega
    rw [e2, flat_at _ k _ _ hzl' (Nat.mod_lt q hk0)] at h1
    obtain ⟨y, h3, h4⟩ := hrows _ _ v h1
    rw [← e2] at h3
    have : x = y := by
      rw [Array.getElem?_toList, h3] at h2
      injection h2 with h2; exact h2.symm
    rw [this]; exact h4
  obtain ⟨cy, hcy, hcr⟩ := fill_rv (fun i => some (i * k, k)) is (is.map fun i => (i * k, k)) vs xs _ l cs (by simp) (fun j i p hj hp => by
    rw [List.getElem?_map, hj] at hp; injection hp with hp; exact congrArg some hp) hv hc0 hf
  have hcyl : cy.size = n * k := by
    have h1 := hcr.1
    have h2 : l.length = n * k := by
      have aux : ∀ (ps : List (Nat × Nat)) (vs : List V) (cells l : List V), fill cells ps vs = some l → l.length = cells.length := by
        intro ps
        induction ps with
        | nil => intro vs cells l h; cases vs with
          | nil => simp only [fill] at h; injection h with h; rw [h]
          | cons _ _ => simp [fill] at h
        | cons p ps ih =>
          intro vs cells l h
          obtain ⟨off, n⟩ := p
          cases vs with
          | nil => simp [fill] at h
          | cons v vs =>
            simp only [fill] at h
            split at h
            · rename_i hc
              rw [ih _ _ _ h]
              simp [hc.1]; omega
            · cases h
      rw [aux _ _ _ _ hf]
      have := flat_len _ k hzl'
      simpa using this
    simp at h1; omega
  have hlt : ¬ n * i.size > 2 ^ 24 := by rw [hik]; omega
  have hrun : (Instr.buildSlice t n (is.zip xs).toArray).run P w = .ok (.slice (some ⟨w.heap.size, 0, none⟩) n n) (w.alloc (.cells cy e)) := by
    subst hik
    have hap : ∀ o : Obj, ({ heap := w.heap.push o, tape := w.tape, drawn := w.drawn, os := w.os, output := w.output } : World) = w.alloc o := fun o => rfl
    simp only [Instr.buildSlice, Sem.run_bind, run_underlying hu, size_of hi, Result.andThen_ok, Sem.run_ite, hlt, if_false, Sem.run_pure]
    have hi0 : i.size ≠ 0 := by omega
    by_cases h0 : n = 0
    · subst h0
      have hc00 : cs = #[] := Array.eq_empty_of_size_eq_zero (by simpa using hsize)
      rw [hc00] at hcy
      have hr0 : Array.range 0 = #[] := rfl
      simp [hr0, hcy, newRow, hap]
    · have h1 : n * i.size ≠ 0 := Nat.mul_ne_zero h0 hi0
      simp only [h1, if_false] at hcs
      simp [h0, h1, hi0, zero_of hi hz, hcs, hcy, newRow, hap]
  have hrow2 := lit_rows (n := n) (k := k) hcr
  obtain ⟨hrl, hrf⟩ := okRow_spec hok
  obtain ⟨hb1', hb2'⟩ := new_blk hwf (.cells cy e)
  by_cases hn : n = 0
  · rw [if_pos hn] at hop1
    injection hop1 with hop1; injection hop1 with h1 h2; subst h1; subst h2; subst hn
    exact ⟨_, _, own, loc, hrun, .z _, hb1', hb2', fun _ _ h => h⟩
  · rw [if_neg hn] at hop1
    cases fz with
    | true =>
      simp only [if_true] at hop1
      injection hop1 with hop1; injection hop1 with h1 h2; subst h1; subst h2
      refine ⟨_, _, own, loc, hrun, ?_, hb1', hb2', fun _ _ h => h⟩
      have hnone : own w.heap.size = none := by
        cases ho : own w.heap.size with
        | none => rfl
        | some id => exact absurd (hwf.lt _ _ ho) (by omega)
      refine .im .b _ k w.heap.size 0 n n (fun i j => (cy[i * k + j]?).getD undef) (by simp) hrl (Nat.le_refl _) ⟨hnone, by simp, .inr (.inr hn0)⟩ (fun i j v hv => ?_) (fun i j v hv => ?_)
      · obtain ⟨x, h3, h4⟩ := hrow2 i j v hv
        simp [h3]
      · obtain ⟨x, h3, h4⟩ := hrow2 i j v hv
        rw [h3]; exact h4.stp hb2'
    | false =>
      simp only [Bool.false_eq_true, if_false] at hop1
      injection hop1 with hop1; injection hop1 with h1 h2; subst h1; subst h2
      obtain ⟨h1, h2⟩ := new_ob hwf hnid cy e k n _ none (by omega) (by simp) hrl (fun c h => by cases h) hrow2
      refine ⟨_, _, _, _, hrun, ?_, h1, h2, fun id hne h => by simp [hne, h]⟩
      refine .sl nid 0 _ _ _ (by simp) (fun q hq => by simp only [if_true, Option.some.injEq] at hq; subst hq; rfl) fun q hq => ?_
      simp only [if_true, Option.some.injEq] at hq
      subst hq
      exact ⟨by simp, by simp, by simp⟩
theorem fieldAt_run {s : TypeId} {fs : Array Field} {f : Field} {fi : Nat} {i : TypeInfo} (hu : P.underlying s = some (.struct fs)) (hf : fs[fi]? = some f) (hi : P.info? f.type = some i) (h0 : i.size ≠ 0) (b off : Nat) :
    (Instr.fieldAt s (.pointer (some ⟨b, off, none⟩)) fi).run P w = .ok (.pointer (some ⟨b, off + f.offset, none⟩)) w := by
  simp [Instr.fieldAt, run_underlying hu, hf, Instr.sureAddr, fieldPlace, size_of hi, h0, addr_add]
theorem indexAt_slice {t e : TypeId} {i : TypeInfo} (hu : P.underlying t = some (.slice e)) (hi : P.info? e = some i) (b off len c : Nat) (k : IntKind) (n : Int) (h0 : 0 ≤ n) (h1 : n < len) :
    (Instr.indexAt t (.slice (some ⟨b, off, none⟩) len c) (.int k n)).run P w = .ok (.pointer (some ⟨b, off + n.toNat * i.size, none⟩)) w := by
  simp [Instr.indexAt, asIntOf, run_underlying hu, h0, h1, size_of hi, addr_add]
theorem indexAt_array {t e : TypeId} {i : TypeInfo} {len : Nat} (hu : P.underlying t = some (.array len e)) (hi : P.info? e = some i) (b off : Nat) (k : IntKind) (n : Int) (h0 : 0 ≤ n) (h1 : n < len) :
    (Instr.indexAt t (.pointer (some ⟨b, off, none⟩)) (.int k n)).run P w = .ok (.pointer (some ⟨b, off + n.toNat * i.size, none⟩)) w := by
  simp [Instr.indexAt, asIntOf, run_underlying hu, Instr.sureAddr, h0, h1, size_of hi, addr_add]
theorem fa_rv (hwf : WF n0 w own loc ob) {off : Nat} {v r : V} {x : Value} (hv : RV w (okf own n0 w.heap.size) loc v x) (h : faV ob off v = some r) :
    ∃ b o, x = .pointer (some ⟨b, o, none⟩) ∧ RV w (okf own n0 w.heap.size) loc r (.pointer (some ⟨b, o + off, none⟩)) := by
  unfold faV at h
  split at h
  · rename_i id i o
    obtain ⟨X, hX, h⟩ := Option.bind_eq_some_iff.1 h
    injection h with h; subst h
    obtain ⟨p, hq, _⟩ := hwf.has id X hX
    cases hv with
    | pt _ _ _ a hl hm hp =>
      have := hp p hq
      subst this
      exact ⟨_, _, rfl, .pt id i (o + off) _ hl hm fun p' hp' => by rw [hq] at hp'; cases hp'; simp only [Nat.add_assoc]⟩
  · rename_i l
    injection h with h; subst h
    cases hv with
    | bp _ b o ys ho h0 h =>
      refine ⟨b, o, rfl, .bp _ b (o + off) (fun j => ys (off + j)) ho (fun j v hj => ?_) (fun j v hj => ?_)⟩
      · rw [List.getElem?_drop] at hj
        have := h0 _ v hj
        rw [← this]; congr 2; omega
      · rw [List.getElem?_drop] at hj
        exact h _ v hj
  · cases h
theorem okf_b {own : Nat → Option Nat} {n0 n b : Nat} {f : Fl} (h : okf own n0 n f b) : okf own n0 n .n b := ⟨h.1, h.2.1, .inl rfl⟩
theorem ia_rv (hwf : WF n0 w own loc ob) {t : TypeId} {k : Nat} (ht : elSz P t = some k) {kk : IntKind} {n : Int} {v r : V} {x : Value} (hv : RV w (okf own n0 w.heap.size) loc v x) (h : iaV ob k v n = some r) :
    ∃ y, (Instr.indexAt t x (.int kk n)).run P w = .ok y w ∧ RV w (okf own n0 w.heap.size) loc r y := by
  obtain ⟨e, i, hu, hi, hik⟩ := elSz_spec ht
  unfold iaV at h
  split at h
  · rename_i f l
    split at h
    case isFalse => cases h
    rename_i hc
    obtain ⟨row, hr, h⟩ := Option.bind_eq_some_iff.1 h
    split at h
    case isFalse => cases h
    rename_i hrk
    injection h with h; subst h
    cases hv with
    | e f a cap h => simp at hc; omega
    | im f l k' b off m cap ys hn hk' hcc ho h0 h =>
      subst hn
      have hkk : k' = k := by rw [← hk' row (List.mem_of_getElem? hr)]; exact hrk
      refine ⟨_, indexAt_slice hu hi b off _ cap kk n hc.1 hc.2, ?_⟩
      rw [hik, ← hkk]
      exact .bp row b _ (fun j => ys n.toNat j) (okf_b ho) (fun j v hj => h0 _ j v (el_mk hr hj)) (fun j v hj => h _ j v (el_mk hr hj))
  · rename_i id off len
    obtain ⟨X, hX, h⟩ := Option.bind_eq_some_iff.1 h
    split at h
    case isFalse => cases h
    rename_i hc
    injection h with h; subst h
    obtain ⟨p, hp, hor, hcap, rfl⟩ := sl_at hwf hX hv
    have hmp := sl_mp hv hp
    refine ⟨_, indexAt_slice hu hi p.b _ len _ kk n hc.1 hc.2.1, ?_⟩
    have hpk : p.k = i.size := by rw [← hor.k, hc.2.2, hik]
    refine .pt id _ 0 _ (by rw [hp]; simp) (fun q hq => by rw [hp] at hq; cases hq; exact hmp) fun q hq => ?_
    rw [hp] at hq; cases hq
    rw [hpk, Nat.add_mul]; simp only [Nat.add_zero, Nat.add_assoc]
  · cases h
theorem slice_rv (hwf : WF n0 w own loc ob) {t : TypeId} {k : Nat} (ht : elSz P t = some k) {lo hi : Option Int} {xlo xhi : Option Value} {v r : V} {x : Value}
    (hlo : ∀ n, lo = some n → ∃ kk, xlo = some (.int kk n)) (hlo' : lo = none → xlo = none) (hhi : ∀ n, hi = some n → ∃ kk, xhi = some (.int kk n)) (hhi' : hi = none → xhi = none)
    (hv : RV w (okf own n0 w.heap.size) loc v x) (h : sliceV ob k v lo hi = some r) :
    ∃ y, (Instr.sliceAt t x xlo xhi none).run P w = .ok y w ∧ RV w (okf own n0 w.heap.size) loc r y := by
  obtain ⟨e, i, hu, hi', hik⟩ := elSz_spec ht
  have bounds : ∀ (len cap : Nat) (H A : Int), H = hi.getD len → A = lo.getD 0 → 0 ≤ A → A ≤ H → H ≤ cap →
      (Instr.sliceBounds true len cap xlo xhi none).run P w = .ok (A.toNat, H.toNat, cap) w := by
    intro len cap H A hH hA h0 h1 h2
    have h3 : 0 ≤ H := by omega
    cases hi with
    | none =>
      obtain rfl := hhi' rfl
      simp at hH
      cases lo with
      | none => obtain rfl := hlo' rfl; simp at hA; subst hA; subst hH; simp [Instr.sliceBounds]
      | some a =>
        obtain ⟨kk, rfl⟩ := hlo a rfl
        simp at hA; subst hA; subst hH
        simp [Instr.sliceBounds, Instr.sliceBound, asIntOf, h0, h1]
    | some b =>
      obtain ⟨kk, rfl⟩ := hhi b rfl
      simp at hH
      cases lo with
      | none => obtain rfl := hlo' rfl; simp at hA; subst hA; subst hH; simp [Instr.sliceBounds, Instr.sliceBound, asIntOf, h3, h2]
      | some a =>
        obtain ⟨kk, rfl⟩ := hlo a rfl
        simp at hA; subst hA; subst hH
        have h6 : A ≤ max H 0 := by omega
        have h7 : ¬ max H 0 < A := by omega
        simp [Instr.sliceBounds, Instr.sliceBound, asIntOf, h3, h2, h0, h1, h6, h7]
  have run : ∀ (a : Option Addr) (len cap : Nat) (H A : Int), H = hi.getD len → A = lo.getD 0 → 0 ≤ A → A ≤ H → H ≤ cap →
      (Instr.sliceAt t (.slice a len cap) xlo xhi none).run P w = .ok (.slice (if cap = A.toNat then a else a.map (·.add (A.toNat * k))) (H.toNat - A.toNat) (cap - A.toNat)) w := by
    intro a len cap H A hH hA h0 h1 h2
    have hb := bounds len cap H A hH hA h0 h1 h2
    simp [Instr.sliceAt, Instr.slice, run_underlying hu, hb, size_of hi', hik]
  unfold sliceV at h
  split at h
  · -- what is only read
    rename_i f l
    simp only at h
    split at h
    case isFalse => cases h
    rename_i hc
    injection h with h; subst h
    obtain ⟨hfo, hlk, h0, h1, h2⟩ := hc
    have hlen' : ((l.take (hi.getD l.length).toNat).drop (lo.getD 0).toNat).length = (hi.getD l.length).toNat - (lo.getD 0).toNat := by
      rw [List.length_drop, List.length_take]; omega
    cases hv with
    | e f a cap h =>
      refine ⟨_, run a 0 cap _ _ rfl rfl h0 h1 (by simp at h2 ⊢; omega), ?_⟩
      have h3 : lo.getD 0 = 0 := by simp at h1 h2; omega
      have h4 : hi.getD (([] : List (List V)).length : Int) = 0 := by simp at h1 h2 ⊢; omega
      have h4' : hi.getD ((0 : Nat) : Int) = 0 := by simpa using h4
      simp only [h3, h4']
      simp
      exact .e f _ cap h
    | im f l k' b off m cap ys hn hk' hcc ho h0' h =>
      subst hn
      refine ⟨_, run _ l.length cap _ _ rfl rfl h0 h1 (by omega), ?_⟩
      by_cases hemp : (hi.getD l.length).toNat - (lo.getD 0).toNat = 0
      · have hnil : (l.take (hi.getD l.length).toNat).drop (lo.getD 0).toNat = [] := List.eq_nil_of_length_eq_zero (by rw [hlen', hemp])
        rw [hnil, hemp]
        exact .e f _ _ (fun hf => absurd hf hfo)
      · have hne : ¬ cap = (lo.getD 0).toNat := by omega
        rw [if_neg hne]
        have hadd : (some (⟨b, off, none⟩ : Addr)).map (·.add ((lo.getD 0).toNat * k)) = some ⟨b, off + (lo.getD 0).toNat * k, none⟩ := by simp [addr_add]
        rw [hadd]
        have hel : ∀ i j v, el ((l.take (hi.getD l.length).toNat).drop (lo.getD 0).toNat) i j = some v → el l ((lo.getD 0).toNat + i) j = some v := fun i j v hv => by
          obtain ⟨r, h3, h4⟩ := el_some hv
          rw [List.getElem?_drop, List.getElem?_take] at h3
          split at h3
          · exact el_mk h3 h4
          · cases h3
        refine .im f _ k b _ _ _ (fun i j => ys ((lo.getD 0).toNat + i) j) hlen'.symm (fun ch hch => hlk ch (List.mem_of_mem_take (List.mem_of_mem_drop hch))) (by omega) ho (fun i j v hv => ?_) (fun i j v hv => h _ j v (hel i j v hv))
        have hv' := hel i j v hv
        have hkk : k' = k := by
          obtain ⟨r, h3, h4⟩ := el_some hv'
          rw [← hk' r (List.mem_of_getElem? h3), hlk r (List.mem_of_getElem? h3)]
        rw [← h0' _ j v hv', ← hkk]; congr 2
        rw [Nat.add_mul]; omega
  · -- without room
    split at h
    case isFalse => cases h
    rename_i hc
    injection h with h; subst h
    obtain ⟨a, rfl⟩ := hv.z_inv
    refine ⟨_, run a 0 0 0 0 (by simpa using hc.2.symm) hc.1.symm (by omega) (by omega) (by omega), ?_⟩
    exact .z _
  · -- over an object
    rename_i id off len
    obtain ⟨X, hX, h⟩ := Option.bind_eq_some_iff.1 h
    simp only at h
    split at h
    case isFalse => cases h
    rename_i hc
    obtain ⟨hXk, h0, h1, h2⟩ := hc
    obtain ⟨p, hp, hor, hcap, rfl⟩ := sl_at hwf hX hv
    have hmp := sl_mp hv hp
    have hpk : p.k = k := by rw [← hor.k, hXk]
    have hXl := hor.len
    refine ⟨_, run _ len (p.cap - off) _ _ rfl rfl h0 h1 (by omega), ?_⟩
    split at h
    · rename_i ha0
      injection h with h; subst h
      rw [ha0]
      have e1 : (if p.cap - off = (0 : Int).toNat then (some (⟨p.b, p.base + off * p.k, none⟩ : Addr)) else (some (⟨p.b, p.base + off * p.k, none⟩ : Addr)).map (·.add ((0 : Int).toNat * k))) = some ⟨p.b, p.base + off * p.k, none⟩ := by
        split <;> simp [addr_add]
      rw [e1]
      refine .sl id off _ _ _ (by rw [hp]; simp) (fun q hq => by rw [hp] at hq; cases hq; exact hmp) fun q hq => ?_
      rw [hp] at hq; cases hq
      exact ⟨by omega, rfl, by simp⟩
    · rename_i ha0
      split at h
      · rename_i hah
        injection h with h; subst h
        have : (hi.getD len).toNat - (lo.getD 0).toNat = 0 := by omega
        rw [this]
        exact .e _ _ _ (fun hf => by cases hf)
      · rename_i hah
        injection h with h; subst h
        rw [if_neg (by omega)]
        have e1 : (some (⟨p.b, p.base + off * p.k, none⟩ : Addr)).map (·.add ((lo.getD 0).toNat * k)) = some ⟨p.b, p.base + (off + (lo.getD 0).toNat) * p.k, none⟩ := by
          simp [addr_add, hpk, Nat.add_mul, Nat.add_assoc]
        rw [e1]
        have e2 : (hi.getD len).toNat - (lo.getD 0).toNat = (hi.getD len - lo.getD 0).toNat := by omega
        rw [e2]
        refine .sl id _ _ _ _ (by rw [hp]; simp) (fun q hq => by rw [hp] at hq; cases hq; exact hmp) fun q hq => ?_
        rw [hp] at hq; cases hq
        exact ⟨by omega, rfl, by omega⟩
  · cases h
end
end Go.Proofs.YtbojpedklnmidaaGreat.D
end
section
set_option linter.unusedVariables false
set_option linter.unusedSectionVars false
set_option linter.unusedSimpArgs false
set_option linter.constructorNameAsVariable false
/- What the machine's operations are, over plain values. No condition. -/
namespace Go.Proofs.YtbojpedklnmidaaGreat.D
open Go Go.RowKit
def fieldsOf (P : Program) (t : TypeId) : Option (Array Field) :=
  match P.underlying t with
  | some (.struct fs) => some fs
  | _ => none
def nilConst : Nat → Operand → Bool
  | 0, .const (.slice none 0 0) | 1, .const (.pointer none) | 2, .const .nilFunc | 3, .const (.map none) => true
  | _, _ => false
def nilTy (P : Program) (t : TypeId) : Option Nat :=
  match P.underlying t with
  | some (.slice _) => some 0
  | some (.pointer _) => some 1
  | some (.func _ _ _) => some 2
  | some (.map _ _) => some 3
  | _ => none
def negOp : BinOp → Option Bool
  | .eql => some false
  | .neq => some true
  | _ => none
def scalTy (P : Program) (t : TypeId) : Bool :=
  match P.underlying t with
  | some (.int _) | some .string => true
  | _ => false
def boolTy (P : Program) (t : TypeId) : Bool :=
  match P.underlying t with
  | some .bool => true
  | _ => false
def lenTy (P : Program) (t : TypeId) : Option Ok :=
  match P.underlying t with
  | some (.slice _) => some .len
  | some .string => some .slen
  | _ => none
def partPl (P : Program) (fs : Array Field) (i : Nat) : Option (Nat × Nat) := (fs[i]?).bind fun f => (P.info? f.type).map fun x => (f.offset, x.size)
def allInfo (P : Program) (fs : Array Field) : Bool := fs.toList.all fun f => (P.info? f.type).isSome
def optAll {α : Type} : List (Option α) → Option (List α)
  | [] => some []
  | some x :: l => (optAll l).map (x :: ·)
  | none :: _ => none
def eqFs (P : Program) (g : TypeId → Option (List Nat)) : List Field → Nat → Option (List Nat)
  | [], _ => some []
  | f :: fs, off => if f.name ≠ "_" ∧ f.offset = off then (g f.type).bind fun n => (tySz P f.type).bind fun sz => if sz.getD 1 = n.length ∧ n.length ≠ 0 then (eqFs P g fs (off + n.length)).map (n ++ ·) else none else none
def eqN (P : Program) : Nat → TypeId → Option (List Nat)
  | 0, _ => none
  | d + 1, t => match P.underlying t with
    | some (.int _) => some [0]
    | some .string => some [1]
    | some .bool => some [2]
    | some (.struct fs) => if P.stoodInHeld t then none else eqFs P (eqN P d) fs.toList 0
    | _ => none
def structTy (P : Program) (t : TypeId) : Option (List Nat) :=
  match P.underlying t, tySz P t, eqN P 20 t with
  | some (.struct _), some (some n), some ks => if n = ks.length ∧ P.eqGuardType P.depth t = false then some ks else none
  | _, _, _ => none
def keyTy (P : Program) (t : TypeId) : Option (Bool × List Nat) :=
  match P.underlying t, tySz P t, eqN P 20 t with
  | some (.struct _), some (some n), some ks => if n = ks.length then some (true, ks) else none
  | some .string, some none, some ks => if ks.length = 1 then some (false, ks) else none
  | some (.int _), some none, some ks => if ks.length = 1 then some (false, ks) else none
  | _, _, _ => none
def mapTy (P : Program) (t : TypeId) : Option ((Bool × List Nat) × TypeId) :=
  match P.underlying t with
  | some (.map k e) => (keyTy P k).map fun q => (q, e)
  | _ => none
def zeroC (P : Program) (t : TypeId) : Option V := (P.info? t).bind fun i => i.zero.bind fun z => match toVs [z] with
  | some [v] => some v
  | _ => none
def compOp (P : Program) (o : Oper) (h : Ok) : Option (Ok × List Operand) :=
  match o.op with
  | .move x | .assign x => some (.mv, [x])
  | .pick c a b => some (.pick, [c, a, b])
  | .binOp op t x y _ =>
    if scalTy P t then some (.bin op, [x, y])
    else if boolTy P t then some (.bb op, [x, y])
    else if (structTy P t).isSome then (structTy P t).bind fun ks => (negOp op).map fun neg => (.eqs neg ks, [x, y])
    else (nilTy P t).bind fun kd => if nilConst kd y then (negOp op).map fun neg => (.nilq kd neg, [x]) else none
  | .unOp op _ x => some (.un op, [x])
  | .convert s d x => match P.underlying s, P.underlying d with
    | some _, some (.int k) => some (.conv k, [x])
    | _, _ => none
  | .box t x => (tySz P t).map fun n => (.box n, [x])
  | .alloc t => (zeroOf P t).bind fun z => if okRow z.length z then some (.alloc z, []) else none
  | .build t parts => (fieldsOf P t).bind fun fs => if allInfo P fs then (zeroOf P t).bind fun z => (optAll (parts.toList.map fun p => partPl P fs p.1)).map fun ps => (.bld z ps, parts.toList.map (·.2)) else none
  | .buildSlice t len parts => (hintFz h).bind fun fz => (elZ P t).bind fun kz => if len * kz.1 ≤ maxLit then some (.bsl kz.1 kz.2 (parts.toList.map (·.1)) len fz, parts.toList.map (·.2)) else none
  | .load t a => (tySz P t).map fun n => (.ld n, [a])
  | .store t a v => (tySz P t).map fun n => (.st (n.getD 1), [a, v])
  | .fieldAddr s x f => (fieldsOf P s).bind fun fs => (fs[f]?).bind fun f => (P.info? f.type).bind fun i => if i.size = 0 then none else some (.fa f.offset, [x])
  | .nilCheck x => some (.fa 0, [x])
  | .field t x f => (fieldsOf P t).bind fun fs => (fs[f]?).bind fun f => (tySz P f.type).map fun n => (.fld f.offset n, [x])
  | .indexAddr t x i => match P.underlying t with
    | some (.slice _) => (elSz P t).map fun k => (.ia k, [x, i])
    | some (.array len e) => (P.info? e).map fun j => (.iar len j.size, [x, i])
    | _ => none
  | .makeSlice t l c => (hintFz h).bind fun fz => (elZ P t).map fun kz => (.mks kz.1 kz.2 fz, [l, c])
  | .slice t x lo hi none => (elSz P t).map fun k => (.slc k lo.isSome hi.isSome, x :: (lo.toList ++ hi.toList))
  | .slice t x (some lo) (some hi) (some mx) => (elSz P t).map fun k => (.slc3, [x, lo, hi, mx])
  | .extract x i => some (.ext i, [x])
  | .makeMap _ none => some (.mkm, [])
  | .lookup t x i two => (mapTy P t).bind fun q => (zeroC P q.2).map fun z => (.mlk q.1.1 q.1.2 z two, [x, i])
  | .mapUpdate t m k v => (mapTy P t).map fun q => (.mup q.1.1 q.1.2, [m, k, v])
  | .entry x => some (.ent, [x])
  | .range t x => (mapTy P t).map fun _ => (.mrg, [x])
  | .makeFunc (.func f) first caps => if first.size = 0 then some (.mkf f, caps.toList) else none
  | .call { callee := .builtin b, args, argTypes } =>
    (match b with
    | .len => (argTypes[0]?).bind fun t => if args.size = 1 then (lenTy P t).map fun op => (op, args.toList) else none
    | .cap => (argTypes[0]?).bind fun t => if args.size = 1 then (elSz P t).map fun _ => (.capo, args.toList) else none
    | .append => if args.size = 2 then (match apzTy P argTypes with
        | some kz => some (.appz kz.1 kz.2, args.toList)
        | none => (appTy P argTypes).map fun k => (.app k, args.toList)) else none
    | .copy => if args.size = 2 then ((argTypes[0]?).bind (elSz P)).map fun k => (.cpy k, args.toList) else none
    | .clear => if args.size = 1 then (argTypes[0]?).bind fun t => (elSz P t).bind fun k => ((sliceEl P t).bind (zeroOf P)).bind fun z => if okRow k z then some (.clr k z, args.toList) else none else none
    | .max => if args.size = 2 then some (.mx, args.toList) else none
    | .min => if args.size = 2 then some (.mn, args.toList) else none
    | _ => none)
  | _ => none
section
variable {P : Program} {n0 : Nat} {w : World} {own : Nat → Option Nat} {loc : Loc} {ob : OB} {nid : Nat} {ok : Fl → Nat → Prop} [Bk]
theorem rvs1 {vs : List V} {x : Value} (h : RVs w ok loc vs [x]) : ∃ v, vs = [v] ∧ RV w ok loc v x := by
  obtain ⟨h1, h2⟩ := h
  match vs, h1 with
  | [v], _ => exact ⟨v, rfl, h2 0 v x rfl rfl⟩
theorem rvs2 {vs : List V} {x y : Value} (h : RVs w ok loc vs [x, y]) : ∃ v v2, vs = [v, v2] ∧ RV w ok loc v x ∧ RV w ok loc v2 y := by
  obtain ⟨h1, h2⟩ := h
  match vs, h1 with
  | [v, v2], _ => exact ⟨v, v2, rfl, h2 0 v x rfl rfl, h2 1 v2 y rfl rfl⟩
theorem rvs3 {vs : List V} {x y x3 : Value} (h : RVs w ok loc vs [x, y, x3]) : ∃ v v2 v3, vs = [v, v2, v3] ∧ RV w ok loc v x ∧ RV w ok loc v2 y ∧ RV w ok loc v3 x3 := by
  obtain ⟨h1, h2⟩ := h
  match vs, h1 with
  | [v, v2, v3], _ => exact ⟨v, v2, v3, rfl, h2 0 v x rfl rfl, h2 1 v2 y rfl rfl, h2 2 v3 x3 rfl rfl⟩
theorem rvs4 {vs : List V} {x y x3 q : Value} (h : RVs w ok loc vs [x, y, x3, q]) : ∃ v v2 v3 v4, vs = [v, v2, v3, v4] ∧ RV w ok loc v x ∧ RV w ok loc v2 y ∧ RV w ok loc v3 x3 ∧ RV w ok loc v4 q := by
  obtain ⟨h1, h2⟩ := h
  match vs, h1 with
  | [v, v2, v3, v4], _ => exact ⟨v, v2, v3, v4, rfl, h2 0 v x rfl rfl, h2 1 v2 y rfl rfl, h2 2 v3 x3 rfl rfl, h2 3 v4 q rfl rfl⟩
theorem intsOp_run {op : BinOp} {k : IntKind} {a b : Int} {r : Value} (h : intsOp op k a b = some r) (t : TypeId) : (binOp op t (.int k a) (.int k b)).run P w = .ok r w := by
  cases op <;> simp only [intsOp] at h
  case quo =>
    split at h
    · cases h
    · rename_i h0; injection h with h; subst h; simp [binOp, Op.intDiv, h0]
  case rem =>
    split at h
    · cases h
    · rename_i h0; injection h with h; subst h; simp [binOp, Op.intDiv, h0]
  case shr =>
    split at h
    · rename_i h0; injection h with h; subst h; simp [binOp, shift_shr k k a b h0.1 h0.2]
    · cases h
  all_goals first | (cases h; done) | (injection h with h; subst h; simp [binOp, Op.intArith, Op.intCmp]; done) | skip
  all_goals (injection h with h; subst h; simp [binOp, Op.intCmp, bne, BEq.beq])
theorem strsOp_run {op : BinOp} {a b : ByteArray} {r : Value} (h : strsOp op a b = some r) (t : TypeId) : (binOp op t (.string a) (.string b)).run P w = .ok r w := by
  have e : (a.toList == b.toList) = decide (a.toList = b.toList) := by rw [Bool.eq_iff_iff]; simp
  cases op <;> simp only [strsOp] at h
  all_goals first | (cases h; done) | (injection h with h; subst h; simp [binOp, Op.stringOp, e]; done)
theorem bin_run {op : BinOp} {a b r : Value} (h : binS op a b = some r) (t : TypeId) (ht : scalTy P t = true) (x y : Operand) :
    (do eqGuard op t x y a b; binOp op t a b : Sem Value).run P w = .ok r w := by
  unfold binS at h
  split at h
  · rename_i k m k' n
    split at h
    case isFalse => cases h
    rename_i hk
    subst hk
    have := intsOp_run (P := P) (w := w) h t
    simp [eqGuard, this]
  · rename_i m n
    have := strsOp_run (P := P) (w := w) h t
    simp [eqGuard, this]
  · cases h
theorem bb_run {op : BinOp} {a b r : Bool} (h : boolOp op a b = some r) (t : TypeId) (ht : boolTy P t = true) (x y : Operand) :
    (do eqGuard op t x y (.bool a) (.bool b); binOp op t (.bool a) (.bool b) : Sem Value).run P w = .ok (.bool r) w := by
  have hu : P.underlying t = some .bool := by
    unfold boolTy at ht
    split at ht
    · assumption
    · cases ht
  cases op <;> simp only [boolOp] at h
  all_goals first | (cases h; done) | skip
  · injection h with h; subst h; simp [eqGuard, run_eql_bool w t a b hu]
  · injection h with h; subst h; simp [eqGuard, run_neq_bool w t a b hu]
end
end Go.Proofs.YtbojpedklnmidaaGreat.D
end
section
set_option linter.unusedVariables false
set_option linter.unusedSectionVars false
set_option linter.unusedSimpArgs false
set_option linter.constructorNameAsVariable false
/- The machine's operations do what those over plain values do. No condition. -/
namespace Go.Proofs.YtbojpedklnmidaaGreat.D
open Go Go.RowKit
section
variable {P : Program} {n0 : Nat} {w : World} {own : Nat → Option Nat} {loc : Loc} {ob : OB} {nid : Nat} [Bk]
theorem ldV_sub {ob0 : OB} (hsub : ∀ id o, ob0 id = some o → ob id = some o) {n : Option Nat} {v r : V} (h : ldV ob0 n v = some r) : ldV ob n v = some r := by
  cases v with
  | pt id i o =>
    simp only [ldV] at h ⊢
    obtain ⟨X, hX, h⟩ := Option.bind_eq_some_iff.1 h
    rw [hsub id X hX]; exact h
  | _ => exact h
theorem faV_sub {ob0 : OB} (hsub : ∀ id o, ob0 id = some o → ob id = some o) {n : Nat} {v r : V} (h : faV ob0 n v = some r) : faV ob n v = some r := by
  cases v with
  | pt id i o =>
    simp only [faV] at h ⊢
    obtain ⟨X, hX, h⟩ := Option.bind_eq_some_iff.1 h
    rw [hsub id X hX]; exact h
  | _ => exact h
theorem iaV_sub {ob0 : OB} (hsub : ∀ id o, ob0 id = some o → ob id = some o) {k : Nat} {n : Int} {v r : V} (h : iaV ob0 k v n = some r) : iaV ob k v n = some r := by
  cases v with
  | sl id i o =>
    simp only [iaV] at h ⊢
    obtain ⟨X, hX, h⟩ := Option.bind_eq_some_iff.1 h
    rw [hsub id X hX]; exact h
  | _ => exact h
theorem sliceV_sub {ob0 : OB} (hsub : ∀ id o, ob0 id = some o → ob id = some o) {k : Nat} {lo hi : Option Int} {v r : V} (h : sliceV ob0 k v lo hi = some r) : sliceV ob k v lo hi = some r := by
  cases v with
  | sl id i o =>
    simp only [sliceV] at h ⊢
    obtain ⟨X, hX, h⟩ := Option.bind_eq_some_iff.1 h
    rw [hsub id X hX]; exact h
  | _ => exact h
theorem isNil_sub {ob0 : OB} (hsub : ∀ id o, ob0 id = some o → ob id = some o) {kd : Nat} {v r : V} (h : isNil ob0 kd v = some r) : isNil ob kd v = some r := by
  unfold isNil at h ⊢
  split at h
  all_goals first | exact h | (obtain ⟨X, hX, h⟩ := Option.map_eq_some_iff.1 h; simp [hsub _ X hX]; exact h) | (cases h; done)
theorem ld_does (hwf : WF n0 w own loc ob) {t : TypeId} {sz : Option Nat} (ht : tySz P t = some sz) {v r : V} {x : Value} (h : ldV ob sz v = some r)
    (hx : RV w (okf own n0 w.heap.size) loc v x) : ∃ y, (Instr.loadAt t x).run P w = .ok y w ∧ RV w (okf own n0 w.heap.size) loc r y := by
  unfold ldV at h
  split at h
  · rename_i id i o
    obtain ⟨X, hX, h⟩ := Option.bind_eq_some_iff.1 h
    obtain ⟨row, hr, h⟩ := Option.bind_eq_some_iff.1 h
    split at h
    · rename_i hn; exact load_pt hwf ht hX hr hn h hx
    · cases h
  · split at h
    · rename_i hn; exact load_bp ht hn h hx
    · cases h
  · cases h
theorem optAll_spec {α : Type} : ∀ {l : List (Option α)} {m : List α}, optAll l = some m → l = m.map some
  | [], m, h => by simp only [optAll] at h; injection h with h; subst h; rfl
  | some x :: l, m, h => by
    simp only [optAll] at h
    obtain ⟨m', h1, h2⟩ := Option.map_eq_some_iff.1 h
    subst h2
    rw [optAll_spec h1]; rfl
  | none :: l, m, h => by simp [optAll] at h
theorem places_run {fs : Array Field} (hi : allInfo P fs = true) : (fs.mapM fun f => Prod.mk f.offset <$> sizeOf f.type : Sem (Array (Nat × Nat))).run P w = .ok (fs.map fun f => (f.offset, P.cellsOf f.type)) w := by
  obtain ⟨l⟩ := fs
  simp only [allInfo] at hi
  rw [List.mapM_toArray]
  have aux : ∀ l : List Field, (l.all fun f => (P.info? f.type).isSome) = true → (l.mapM fun f => Prod.mk f.offset <$> sizeOf f.type : Sem (List (Nat × Nat))).run P w = .ok (l.map fun f => (f.offset, P.cellsOf f.type)) w := by
    intro l
    induction l with
    | nil => intro _; simp
    | cons f l ih =>
      intro h
      simp only [List.all_cons, Bool.and_eq_true] at h
      obtain ⟨i, hi⟩ := Option.isSome_iff_exists.1 h.1
      have := ih h.2
      have e : P.cellsOf f.type = i.size := by simp [Program.cellsOf, hi]
      simp [List.mapM_cons, size_of hi, this, e]
  have := aux l hi
  simp [this]
theorem zeroOf_spec {t : TypeId} {z : List V} (h : zeroOf P t = some z) : ∃ i zv, P.info? t = some i ∧ i.zero = some zv ∧ toVs zv.cells.toList = some z ∧ z.length = i.size := by
  unfold zeroOf at h
  obtain ⟨i, h1, h⟩ := Option.bind_eq_some_iff.1 h
  obtain ⟨zv, h2, h⟩ := Option.bind_eq_some_iff.1 h
  obtain ⟨l, h3, h⟩ := Option.bind_eq_some_iff.1 h
  split at h
  · rename_i h4; injection h with h; subst h; exact ⟨i, zv, h1, h2, h3, h4⟩
  · cases h
theorem fieldsOf_spec {t : TypeId} {fs : Array Field} (h : fieldsOf P t = some fs) : P.underlying t = some (.struct fs) := by
  unfold fieldsOf at h
  split at h
  · rename_i g hg; injection h with h; subst h; exact hg
  · cases h
theorem build_run {t : TypeId} {fs : Array Field} {z l : List V} {is : List Nat} {ps : List (Nat × Nat)} {vs : List V} {xs : List Value} {ok : Fl → Nat → Prop}
    (hf : fieldsOf P t = some fs) (hi : allInfo P fs = true) (hz : zeroOf P t = some z) (hps : optAll (is.map fun i => partPl P fs i) = some ps) (hv : RVs w ok loc vs xs)
    (h : fill z ps vs = some l) : ∃ y, (Instr.build t (is.zip xs).toArray).run P w = .ok y w ∧ RV w ok loc (.ag l) y := by
  have hu := fieldsOf_spec hf
  obtain ⟨i, zv, h1, h2, h3, h4⟩ := zeroOf_spec hz
  have hp := optAll_spec hps
  obtain ⟨cy, hcy, hcr⟩ := fill_rv (fun i => (fs[i]?).map fun f => (f.offset, P.cellsOf f.type)) is ps vs xs z l zv.cells (by have := congrArg List.length hp; simpa using this) (fun j i p hj hq => by
    have h5 : (is.map fun i => partPl P fs i)[j]? = (ps.map some)[j]? := by rw [hp]
    rw [List.getElem?_map, List.getElem?_map, hj, hq] at h5
    injection h5 with h5
    simp only [partPl] at h5
    obtain ⟨f, h6, h7⟩ := Option.bind_eq_some_iff.1 h5
    obtain ⟨x, h8, h9⟩ := Option.map_eq_some_iff.1 h7
    simp [h6, Program.cellsOf, h8, h9]) hv (toVs_rv h3).1 h
  refine ⟨.agg cy, ?_, ?_⟩
  · simp [Instr.build, zero_of h1 h2, run_underlying hu, places_run hi, hcy]
  · have e : cy = cy.toList.toArray := by simp
    rw [e]; exact .ag l _ hcr.1 hcr.2
theorem zip_map {α β : Type} (l : List (Nat × α)) (f : α → β) : (l.map fun p => (p.1, f p.2)) = (l.map (·.1)).zip ((l.map (·.2)).map f) := by
  induction l with
  | nil => rfl
  | cons p l ih => simp [ih]
theorem Does.of_value {s : Sem Value} {r : V} {us : Ups} {own' : Nat → Option Nat} {loc' : Loc} {w' : World} {y : Value} (h : s.run P w = .ok y w') (hr : RV w' (okf own' n0 w'.heap.size) loc' r y)
    (hwf : WF n0 w' own' loc' (apps ob us)) (hs : Stp w own loc w' own' loc') (hn : ∀ id, id ≠ nid → loc id = none → loc' id = none) :
    Does P n0 w own loc ob nid (do pure (Next.value (← s)) : Sem Next) r us :=
  ⟨y, w', own', loc', .inl (by simp [h]), hr, hwf, hs, hn⟩
theorem Does.of_same {s : Sem Value} {r : V} {y : Value} (hwf : WF n0 w own loc ob) (h : s.run P w = .ok y w) (hr : RV w (okf own n0 w.heap.size) loc r y) :
    Does P n0 w own loc ob nid (do pure (Next.value (← s)) : Sem Next) r [] := .of_value h hr hwf (.refl _ _ _) fun _ _ h => h
theorem toPt_inv {v : V} {q : Nat × Nat × Nat} (h : toPt v = some q) : v = .pt q.1 q.2.1 q.2.2 := by
  unfold toPt at h
  split at h
  · injection h with h; subst h; rfl
  · cases h
theorem toAg_inv {v : V} {l : List V} (h : toAg v = some l) : v = .ag l := by
  unfold toAg at h
  split at h
  · injection h with h; subst h; rfl
  · cases h
theorem toTp_inv {v : V} {l : List V} (h : toTp v = some l) : v = .tp l := by
  unfold toTp at h
  split at h
  · injection h with h; subst h; rfl
  · cases h
theorem snd_move {dst : Option Tmp} {ty : TypeId} {pos : String} {after : Array Edge} {guard : Option (Nat × Bool)} (x : Operand) {h op : Ok} {xs : List Operand} (hc : compOp P ⟨dst, .move x, ty, pos, after, guard⟩ h = some (op, xs)) {ρ : Operand → Value} {vs : List V} {r : V} {us : Ups} {ob0 : OB}
    (hwf : WF n0 w own loc ob) (hn0 : n0 ≤ w.heap.size) (hnid : loc nid = none) (hsub : ∀ id o, ob0 id = some o → ob id = some o)
    (hv : RVs w (okf own n0 w.heap.size) loc vs (xs.map ρ)) (hop : opF op vs ob0 nid = some (r, us)) : Does P n0 w own loc ob nid (execOp ρ ⟨dst, .move x, ty, pos, after, guard⟩) r us := by
  simp only [compOp] at hc
  injection hc with hc; injection hc with h1 h2; subst h1; subst h2
  obtain ⟨v, rfl, hx⟩ := rvs1 hv
  simp only [opF] at hop; injection hop with hop; injection hop with h1 h2; subst h1; subst h2
  exact ⟨ρ x, w, own, loc, .inl (by simp [execOp]), hx, hwf, .refl _ _ _, fun _ _ h => h⟩
theorem snd_assign {dst : Option Tmp} {ty : TypeId} {pos : String} {after : Array Edge} {guard : Option (Nat × Bool)} (x : Operand) {h op : Ok} {xs : List Operand} (hc : compOp P ⟨dst, .assign x, ty, pos, after, guard⟩ h = some (op, xs)) {ρ : Operand → Value} {vs : List V} {r : V} {us : Ups} {ob0 : OB}
    (hwf : WF n0 w own loc ob) (hn0 : n0 ≤ w.heap.size) (hnid : loc nid = none) (hsub : ∀ id o, ob0 id = some o → ob id = some o)
    (hv : RVs w (okf own n0 w.heap.size) loc vs (xs.map ρ)) (hop : opF op vs ob0 nid = some (r, us)) : Does P n0 w own loc ob nid (execOp ρ ⟨dst, .assign x, ty, pos, after, guard⟩) r us := by
  simp only [compOp] at hc
  injection hc with hc; injection hc with h1 h2; subst h1; subst h2
  obtain ⟨v, rfl, hx⟩ := rvs1 hv
  simp only [opF] at hop; injection hop with hop; injection hop with h1 h2; subst h1; subst h2
  exact ⟨ρ x, w, own, loc, .inl (by simp [execOp]), hx, hwf, .refl _ _ _, fun _ _ h => h⟩
theorem snd_pick {dst : Option Tmp} {ty : TypeId} {pos : String} {after : Array Edge} {guard : Option (Nat × Bool)} (c a b : Operand) {h op : Ok} {xs : List Operand} (hc : compOp P ⟨dst, .pick c a b, ty, pos, after, guard⟩ h = some (op, xs)) {ρ : Operand → Value} {vs : List V} {r : V} {us : Ups} {ob0 : OB}
    (hwf : WF n0 w own loc ob) (hn0 : n0 ≤ w.heap.size) (hnid : loc nid = none) (hsub : ∀ id o, ob0 id = some o → ob id = some o)
    (hv : RVs w (okf own n0 w.heap.size) loc vs (xs.map ρ)) (hop : opF op vs ob0 nid = some (r, us)) : Does P n0 w own loc ob nid (execOp ρ ⟨dst, .pick c a b, ty, pos, after, guard⟩) r us := by
  simp only [compOp] at hc
  injection hc with hc; injection hc with h1 h2; subst h1; subst h2
  obtain ⟨v, v2, v3, rfl, hx, hy, hz⟩ := rvs3 hv
  simp only [opF] at hop
  obtain ⟨q, hq, hop⟩ := Option.map_eq_some_iff.1 hop
  injection hop with h1 h2; subst h1; subst h2
  have := toBool_inv hq; subst this
  have hb := hx.c_inv
  refine ⟨if q then ρ a else ρ b, w, own, loc, .inl (by simp [execOp, hb, asBool]), ?_, hwf, .refl _ _ _, fun _ _ h => h⟩
  cases q
  · simpa using hz
  · simpa using hy
theorem snd_alloc {dst : Option Tmp} {ty : TypeId} {pos : String} {after : Array Edge} {guard : Option (Nat × Bool)} (t : TypeId) {h op : Ok} {xs : List Operand} (hc : compOp P ⟨dst, .alloc t, ty, pos, after, guard⟩ h = some (op, xs)) {ρ : Operand → Value} {vs : List V} {r : V} {us : Ups} {ob0 : OB}
    (hwf : WF n0 w own loc ob) (hn0 : n0 ≤ w.heap.size) (hnid : loc nid = none) (hsub : ∀ id o, ob0 id = some o → ob id = some o)
    (hv : RVs w (okf own n0 w.heap.size) loc vs (xs.map ρ)) (hop : opF op vs ob0 nid = some (r, us)) : Does P n0 w own loc ob nid (execOp ρ ⟨dst, .alloc t, ty, pos, after, guard⟩) r us := by
  simp only [compOp] at hc
  obtain ⟨z, hz, hc⟩ := Option.bind_eq_some_iff.1 hc
  split at hc
  case isFalse => cases hc
  rename_i hok
  injection hc with hc; injection hc with h1 h2; subst h1; subst h2
  obtain ⟨i, zv, h1, h2, h3, h4⟩ := zeroOf_spec hz
  have hvs : vs = [] := List.length_eq_zero_iff.1 (by have := hv.1; simpa using this.symm)
  subst hvs
  simp only [opF] at hop; injection hop with hop; injection hop with h5 h6; subst h5; subst h6
  obtain ⟨hzr, _⟩ := toVs_rv (w := w) (ok := okf own n0 w.heap.size) (loc := loc) h3
  have hzs : zv.cells.size = z.length := by have := hzr.1; simpa using this
  obtain ⟨h7, h8⟩ := new_ob hwf hnid zv.cells t z.length 1 [z] none (by omega) (by simp) (by simp) (fun c h => by cases h) (fun i j v hv => by
    obtain ⟨r, h9, h10⟩ := el_some hv
    cases i with
    | zero =>
      simp at h9; subst h9
      have hj : j < zv.cells.toList.length := by rw [hzr.1]; exact (List.getElem?_eq_some_iff.1 h10).1
      refine ⟨zv.cells.toList[j], by simp at hj ⊢; try exact hj, hzr.2 j v _ h10 (List.getElem?_eq_getElem hj)⟩
    | succ i => simp at h9)
  refine .of_value (s := Instr.alloc t true (.tuple #[])) (y := .pointer (some ⟨w.heap.size, 0, none⟩)) ?_ ?_ h7 h8 (fun id hne h => by simp [hne, h])
  · have hap : ∀ o : Obj, ({ heap := w.heap.push o, tape := w.tape, drawn := w.drawn, os := w.os, output := w.output } : World) = w.alloc o := fun o => rfl
    simp [Instr.alloc, zero_of h1 h2, newVar, newRow, hap]
  · exact .pt nid 0 0 _ (by simp) (fun q hq => by simp at hq; subst hq; rfl) fun q hq => by simp at hq; subst hq; simp
theorem snd_box {dst : Option Tmp} {ty : TypeId} {pos : String} {after : Array Edge} {guard : Option (Nat × Bool)} (t : TypeId) (x : Operand) {h op : Ok} {xs : List Operand} (hc : compOp P ⟨dst, .box t x, ty, pos, after, guard⟩ h = some (op, xs)) {ρ : Operand → Value} {vs : List V} {r : V} {us : Ups} {ob0 : OB}
    (hwf : WF n0 w own loc ob) (hn0 : n0 ≤ w.heap.size) (hnid : loc nid = none) (hsub : ∀ id o, ob0 id = some o → ob id = some o)
    (hv : RVs w (okf own n0 w.heap.size) loc vs (xs.map ρ)) (hop : opF op vs ob0 nid = some (r, us)) : Does P n0 w own loc ob nid (execOp ρ ⟨dst, .box t x, ty, pos, after, guard⟩) r us := by
  simp only [compOp] at hc
  obtain ⟨n, hn, hc⟩ := Option.map_eq_some_iff.1 hc
  injection hc with h1 h2; subst h1; subst h2
  obtain ⟨v, rfl, hx⟩ := rvs1 hv
  simp only [opF] at hop
  split at hop
  case isFalse => cases hop
  rename_i hok
  injection hop with hop; injection hop with h5 h6; subst h5; subst h6
  simp only [okRow, Bool.and_eq_true, beq_iff_eq] at hok
  obtain ⟨hcr, _⟩ := cells_rv hx hok.2
  have hxs : (ρ x).cells.size = n.getD 1 := by have := hcr.1; simp at this; omega
  obtain ⟨h7, h8⟩ := new_ob hwf hnid (ρ x).cells t (n.getD 1) 1 [cellsV v] none (by omega) (by simp) (by simp [hok.1]) (fun c h => by cases h) (fun i j q hu => by
    obtain ⟨r, h9, h10⟩ := el_some hu
    cases i with
    | zero =>
      simp at h9; subst h9
      have hj : j < (ρ x).cells.toList.length := by rw [hcr.1]; exact (List.getElem?_eq_some_iff.1 h10).1
      refine ⟨(ρ x).cells.toList[j], by simp at hj ⊢; try exact hj, hcr.2 j q _ h10 (List.getElem?_eq_getElem hj)⟩
    | succ i => simp at h9)
  refine .of_value (s := Instr.box t (ρ x)) (y := .pointer (some ⟨w.heap.size, 0, none⟩)) ?_ ?_ h7 h8 (fun id hne h => by simp [hne, h])
  · have hap : ∀ o : Obj, ({ heap := w.heap.push o, tape := w.tape, drawn := w.drawn, os := w.os, output := w.output } : World) = w.alloc o := fun o => rfl
    simp [Instr.box, newVar, newRow, hap]
  · exact .pt nid 0 0 _ (by simp) (fun q hq => by simp at hq; subst hq; rfl) fun q hq => by simp at hq; subst hq; simp
theorem snd_build {dst : Option Tmp} {ty : TypeId} {pos : String} {after : Array Edge} {guard : Option (Nat × Bool)} (t : TypeId) (parts : Array (Nat × Operand)) {h op : Ok} {xs : List Operand} (hc : compOp P ⟨dst, .build t parts, ty, pos, after, guard⟩ h = some (op, xs)) {ρ : Operand → Value} {vs : List V} {r : V} {us : Ups} {ob0 : OB}
    (hwf : WF n0 w own loc ob) (hn0 : n0 ≤ w.heap.size) (hnid : loc nid = none) (hsub : ∀ id o, ob0 id = some o → ob id = some o)
    (hv : RVs w (okf own n0 w.heap.size) loc vs (xs.map ρ)) (hop : opF op vs ob0 nid = some (r, us)) : Does P n0 w own loc ob nid (execOp ρ ⟨dst, .build t parts, ty, pos, after, guard⟩) r us := by
  simp only [compOp] at hc
  obtain ⟨fs, hf, hc⟩ := Option.bind_eq_some_iff.1 hc
  split at hc
  case isFalse => cases hc
  rename_i hall
  obtain ⟨z, hz, hc⟩ := Option.bind_eq_some_iff.1 hc
  obtain ⟨ps, hps, hc⟩ := Option.map_eq_some_iff.1 hc
  injection hc with h1 h2; subst h1; subst h2
  simp only [opF] at hop
  obtain ⟨l, hl, hop⟩ := Option.map_eq_some_iff.1 hop
  injection hop with h5 h6; subst h5; subst h6
  have hps' : optAll ((parts.toList.map (·.1)).map fun i => partPl P fs i) = some ps := by rw [List.map_map]; exact hps
  obtain ⟨y, hy, hyr⟩ := build_run (w := w) hf hall hz hps' hv hl
  refine .of_same hwf (s := Instr.build t (parts.map fun p => (p.1, ρ p.2))) ?_ hyr
  have e : (parts.map fun p => (p.1, ρ p.2)) = ((parts.toList.map (·.1)).zip ((parts.toList.map (·.2)).map ρ)).toArray := by
    rw [← zip_map]; apply Array.ext'; simp
  rw [e]; exact hy
theorem snd_buildSlice {dst : Option Tmp} {ty : TypeId} {pos : String} {after : Array Edge} {guard : Option (Nat × Bool)} (t : TypeId) (n : Nat) (parts : Array (Nat × Operand)) {h op : Ok} {xs : List Operand} (hc : compOp P ⟨dst, .buildSlice t n parts, ty, pos, after, guard⟩ h = some (op, xs)) {ρ : Operand → Value} {vs : List V} {r : V} {us : Ups} {ob0 : OB}
    (hwf : WF n0 w own loc ob) (hn0 : n0 ≤ w.heap.size) (hnid : loc nid = none) (hsub : ∀ id o, ob0 id = some o → ob id = some o)
    (hv : RVs w (okf own n0 w.heap.size) loc vs (xs.map ρ)) (hop : opF op vs ob0 nid = some (r, us)) : Does P n0 w own loc ob nid (execOp ρ ⟨dst, .buildSlice t n parts, ty, pos, after, guard⟩) r us := by
  simp only [compOp] at hc
  obtain ⟨fz, _, hc⟩ := Option.bind_eq_some_iff.1 hc
  obtain ⟨⟨k, z⟩, hkz, hc⟩ := Option.bind_eq_some_iff.1 hc
  split at hc
  case isFalse => cases hc
  rename_i hnk
  have hnk' : n * k ≤ 16777216 := by simpa [maxLit] using hnk
  clear hnk
  injection hc with hc; injection hc with h1 h2; subst h1; subst h2
  have hop' : opF (.bsl k z (parts.toList.map (·.1)) n fz) vs ob0 nid = some (r, us) := hop
  clear hop
  obtain ⟨y, w', own', loc', h3, h4, h5, h6, h7⟩ := bsl_does (P := P) (t := t) hwf hn0 hnid hkz hnk' (is := parts.toList.map (·.1)) (xs := (parts.toList.map (·.2)).map ρ) (by simp) hv hop'
  have e : (parts.map fun (i, x) => (i, ρ x)) = ((parts.toList.map (·.1)).zip ((parts.toList.map (·.2)).map ρ)).toArray := by
    rw [← zip_map]; apply Array.ext'; simp
  rw [← e] at h3
  have hx : execOp ρ ⟨dst, .buildSlice t n parts, ty, pos, after, guard⟩ = (do pure (Next.value (← Instr.buildSlice t n (parts.map fun (i, x) => (i, ρ x)))) : Sem Next) := by simp only [execOp]
  rw [hx]
  exact .of_value h3 h4 h5 h6 h7
theorem snd_load {dst : Option Tmp} {ty : TypeId} {pos : String} {after : Array Edge} {guard : Option (Nat × Bool)} (t : TypeId) (a : Operand) {h op : Ok} {xs : List Operand} (hc : compOp P ⟨dst, .load t a, ty, pos, after, guard⟩ h = some (op, xs)) {ρ : Operand → Value} {vs : List V} {r : V} {us : Ups} {ob0 : OB}
    (hwf : WF n0 w own loc ob) (hn0 : n0 ≤ w.heap.size) (hnid : loc nid = none) (hsub : ∀ id o, ob0 id = some o → ob id = some o)
    (hv : RVs w (okf own n0 w.heap.size) loc vs (xs.map ρ)) (hop : opF op vs ob0 nid = some (r, us)) : Does P n0 w own loc ob nid (execOp ρ ⟨dst, .load t a, ty, pos, after, guard⟩) r us := by
  simp only [compOp] at hc
  obtain ⟨n, hn, hc⟩ := Option.map_eq_some_iff.1 hc
  injection hc with h1 h2; subst h1; subst h2
  obtain ⟨v, rfl, hx⟩ := rvs1 hv
  simp only [opF] at hop
  obtain ⟨v', hl, hop⟩ := Option.map_eq_some_iff.1 hop
  injection hop with h5 h6; subst h5; subst h6
  obtain ⟨y, h3, h4⟩ := ld_does hwf hn (ldV_sub hsub hl) hx
  exact .of_same hwf h3 h4
theorem snd_store {dst : Option Tmp} {ty : TypeId} {pos : String} {after : Array Edge} {guard : Option (Nat × Bool)} (t : TypeId) (a x : Operand) {h op : Ok} {xs : List Operand} (hc : compOp P ⟨dst, .store t a x, ty, pos, after, guard⟩ h = some (op, xs)) {ρ : Operand → Value} {vs : List V} {r : V} {us : Ups} {ob0 : OB}
    (hwf : WF n0 w own loc ob) (hn0 : n0 ≤ w.heap.size) (hnid : loc nid = none) (hsub : ∀ id o, ob0 id = some o → ob id = some o)
    (hv : RVs w (okf own n0 w.heap.size) loc vs (xs.map ρ)) (hop : opF op vs ob0 nid = some (r, us)) : Does P n0 w own loc ob nid (execOp ρ ⟨dst, .store t a x, ty, pos, after, guard⟩) r us := by
  simp only [compOp] at hc
  obtain ⟨n, hn, hc⟩ := Option.map_eq_some_iff.1 hc
  injection hc with h1 h2; subst h1; subst h2
  obtain ⟨v, v2, rfl, hx, hy⟩ := rvs2 hv
  simp only [opF] at hop
  obtain ⟨⟨id, i, o⟩, hq, hopA⟩ := Option.bind_eq_some_iff.1 hop
  clear hop
  obtain ⟨X, hX, hopB⟩ := Option.bind_eq_some_iff.1 hopA
  clear hopA
  obtain ⟨row, hr, hop⟩ := Option.bind_eq_some_iff.1 hopB
  clear hopB
  have hq' := toPt_inv hq
  rw [hq'] at hx
  split at hop
  case isFalse => cases hop
  rename_i hcond
  injection hop with hop; injection hop with h5 h6; subst h5; subst h6
  obtain ⟨w', h3, h4, h5⟩ := store_pt hwf hn (hsub id X hX) hr hcond.2.2 hcond.1 hcond.2.1 hx hy
  exact ⟨undef, w', own, loc, .inr ⟨by simp [execOp, h3], rfl⟩, .u _, h4, h5, fun _ _ h => h⟩
theorem eq_nil_slice {t : TypeId} {e : TypeId} (hu : P.underlying t = some (.slice e)) (a : Option Addr) (n c : Nat) (xo y : Operand) (op : BinOp) (neg : Bool) (hop : negOp op = some neg) :
    (do eqGuard op t xo y (.slice a n c) (.slice none 0 0); binOp op t (.slice a n c) (.slice none 0 0) : Sem Value).run P w = .ok (.bool (if neg then !a.isNone else a.isNone)) w := by
  have he : (Op.equal t (.slice a n c) (.slice none 0 0)).run P w = .ok a.isNone w := by
    have aux : ∀ d, (Op.equalIn (d + 1) t (.slice a n c) (.slice none 0 0)).run P w = .ok a.isNone w := fun d => by cases a <;> simp [Op.equalIn, run_underlying hu]
    exact aux 9999
  cases op <;> simp only [negOp] at hop <;> first | (cases hop; done) | skip
  · injection hop with hop; subst hop; simp [eqGuard, binOp, he]
  · injection hop with hop; subst hop; simp [eqGuard, binOp, he]
theorem eq_nil_ptr {t : TypeId} {e : TypeId} (hu : P.underlying t = some (.pointer e)) (a : Option Addr) (xo y : Operand) (op : BinOp) (neg : Bool) (hop : negOp op = some neg) :
    (do eqGuard op t xo y (.pointer a) (.pointer none); binOp op t (.pointer a) (.pointer none) : Sem Value).run P w = .ok (.bool (if neg then !a.isNone else a.isNone)) w := by
  have he : (Op.equal t (.pointer a) (.pointer none)).run P w = .ok a.isNone w := by
    have aux : ∀ d, (Op.equalIn (d + 1) t (.pointer a) (.pointer none)).run P w = .ok a.isNone w := fun d => by cases a <;> simp [Op.equalIn, run_underlying hu]
    exact aux 9999
  cases op <;> simp only [negOp] at hop <;> first | (cases hop; done) | skip
  · injection hop with hop; subst hop; simp [eqGuard, binOp, he]
  · injection hop with hop; subst hop; simp [eqGuard, binOp, he]
theorem eq_nil_fn {t : TypeId} {a b : Array TypeId} {q : Bool} (hu : P.underlying t = some (.func a b q)) (x : Value) (c : Bool) (hx : (x = .nilFunc ∧ c = true) ∨ (∃ f g h, x = .func f g h) ∧ c = false) (xo y : Operand) (op : BinOp) (neg : Bool) (hop : negOp op = some neg) :
    (do eqGuard op t xo y x .nilFunc; binOp op t x .nilFunc : Sem Value).run P w = .ok (.bool (if neg then !c else c)) w := by
  have he : (Op.equal t x .nilFunc).run P w = .ok c w := by
    have aux : ∀ d, (Op.equalIn (d + 1) t x .nilFunc).run P w = .ok c w := fun d => by
     rcases hx with ⟨rfl, rfl⟩ | ⟨⟨f, g, h, rfl⟩, rfl⟩ <;> simp [Op.equalIn, run_underlying hu]
    exact aux 9999
  rcases hx with ⟨rfl, rfl⟩ | ⟨⟨f, g, h, rfl⟩, rfl⟩ <;> cases op <;> simp only [negOp] at hop <;> first | (cases hop; done) | skip
  all_goals (injection hop with hop; subst hop; simp [eqGuard, binOp, he])
theorem eq_nil_map {t : TypeId} {a b : TypeId} (hu : P.underlying t = some (.map a b)) (xo y : Operand) (op : BinOp) (neg : Bool) (hop : negOp op = some neg) :
    (do eqGuard op t xo y (.map none) (.map none); binOp op t (.map none) (.map none) : Sem Value).run P w = .ok (.bool (if neg then false else true)) w := by
  have he : (Op.equal t (.map none) (.map none)).run P w = .ok true w := by
    have aux : ∀ d, (Op.equalIn (d + 1) t (.map none) (.map none)).run P w = .ok true w := fun d => by simp [Op.equalIn, run_underlying hu]
    exact aux 9999
  cases op <;> simp only [negOp] at hop <;> first | (cases hop; done) | skip
  · injection hop with hop; subst hop; simp [eqGuard, binOp, he]
  · injection hop with hop; subst hop; simp [eqGuard, binOp, he]
theorem nil_run {kd : Nat} {t : TypeId} {x : Value} {v r : V} {y : Operand} {op : BinOp} {neg : Bool} (ht : nilTy P t = some kd) (hy : nilConst kd y = true) (hop : negOp op = some neg)
    (hwf : WF n0 w own loc ob) (hx : RV w (okf own n0 w.heap.size) loc v x) (h : isNil ob kd v = some r) (ρ : Operand → Value) (hρ : ∀ v, ρ (.const v) = v) (xo : Operand) :
    ∃ z, (do eqGuard op t xo y x (ρ y); binOp op t x (ρ y) : Sem Value).run P w = .ok z w ∧ RV w (okf own n0 w.heap.size) loc (negV neg r) z := by
  unfold nilTy at ht
  split at ht
  · rename_i e hu
    injection ht with ht; subst ht
    unfold nilConst at hy
    split at hy <;> first | omega | (cases hy; done) | skip
    rw [hρ]
    unfold isNil at h
    split at h <;> first | omega | (cases h; done) | skip
    · injection h with h; subst h
      obtain ⟨a, rfl⟩ := hx.z_inv
      exact ⟨_, eq_nil_slice hu _ _ _ _ _ _ _ hop, .q _⟩
    · injection h with h; subst h
      cases hx with
      | e f a cap h => exact ⟨_, eq_nil_slice hu _ _ _ _ _ _ _ hop, .q _⟩
      | im f l k b off n cap ys hn hk hc ho h0 h => exact ⟨_, eq_nil_slice hu _ _ _ _ _ _ _ hop, .q _⟩
    · injection h with h; subst h
      cases hx with
      | im f l k b off n cap ys hn hk hc ho h0 h => exact ⟨_, eq_nil_slice hu _ _ _ _ _ _ _ hop, by cases neg <;> exact .c _⟩
    · obtain ⟨X, hX, h⟩ := Option.map_eq_some_iff.1 h
      subst h
      obtain ⟨p, hp, hor, hcap, rfl⟩ := sl_at hwf hX hx
      have hmp := sl_mp hx hp
      exact ⟨_, eq_nil_slice hu _ _ _ _ _ _ _ hop, by cases neg <;> exact .c _⟩
  · rename_i e hu
    injection ht with ht; subst ht
    unfold nilConst at hy
    split at hy <;> first | omega | (cases hy; done) | skip
    rw [hρ]
    unfold isNil at h
    split at h <;> first | omega | (cases h; done) | skip
    · injection h with h; subst h
      have := hx.c_inv; subst this
      exact ⟨_, eq_nil_ptr hu _ _ _ _ _ hop, by cases neg <;> exact .c _⟩
    · obtain ⟨X, hX, h⟩ := Option.map_eq_some_iff.1 h
      subst h
      obtain ⟨p, hp, hor⟩ := hwf.has _ X hX
      cases hx with
      | pt _ _ _ a hl hm h => rw [h p hp]; exact ⟨_, eq_nil_ptr hu _ _ _ _ _ hop, by cases neg <;> exact .c _⟩
    · injection h with h; subst h
      cases hx with
      | bp _ b off ys ho h0 h => exact ⟨_, eq_nil_ptr hu _ _ _ _ _ hop, by cases neg <;> exact .c _⟩
  · rename_i a b q hu
    injection ht with ht; subst ht
    unfold nilConst at hy
    split at hy <;> first | omega | (cases hy; done) | skip
    rw [hρ]
    unfold isNil at h
    split at h <;> first | omega | (cases h; done) | skip
    · injection h with h; subst h
      have := hx.c_inv; subst this
      exact ⟨_, eq_nil_fn hu _ true (.inl ⟨rfl, rfl⟩) _ _ _ _ hop, by cases neg <;> exact .c _⟩
    · injection h with h; subst h
      cases hx with
      | fn f caps xs hn h => exact ⟨_, eq_nil_fn hu _ false (.inr ⟨⟨_, _, _, rfl⟩, rfl⟩) _ _ _ _ hop, by cases neg <;> exact .c _⟩
  · rename_i a b hu
    injection ht with ht; subst ht
    unfold nilConst at hy
    split at hy <;> first | omega | (cases hy; done) | skip
    rw [hρ]
    unfold isNil at h
    split at h <;> first | omega | (cases h; done) | skip
    injection h with h; subst h
    have := hx.c_inv; subst this
    exact ⟨_, eq_nil_map hu _ _ _ _ hop, by cases neg <;> exact .c _⟩
  · cases ht
def eqL : List Nat → List Value → List Value → Option Bool
  | [], [], [] => some true
  | k :: ks, a :: l, b :: m => (eqS k a b).bind fun p => (eqL ks l m).map fun q => p && q
  | _, _, _ => none
theorem eqL_split : ∀ {k1 k2 : List Nat} {l m : List Value} {q : Bool}, eqL (k1 ++ k2) l m = some q → l.length = k1.length + k2.length ∧ m.length = k1.length + k2.length ∧ ∃ q1 q2, eqL k1 (l.take k1.length) (m.take k1.length) = some q1 ∧ eqL k2 (l.drop k1.length) (m.drop k1.length) = some q2 ∧ q = (q1 && q2)
  | [], k2, l, m, q, h => by
    have key : ∀ (k2 : List Nat) (l m : List Value) (q : Bool), eqL k2 l m = some q → l.length = k2.length ∧ m.length = k2.length := by
      intro k2
      induction k2 with
      | nil => intro l m q h; cases l <;> cases m <;> simp [eqL] at h ⊢
      | cons k k2 ih =>
        intro l m q h
        cases l <;> cases m <;> simp only [eqL] at h <;> first | (cases h; done) | skip
        obtain ⟨p, _, h⟩ := Option.bind_eq_some_iff.1 h
        obtain ⟨r, h, _⟩ := Option.map_eq_some_iff.1 h
        have := ih _ _ _ h
        simp [this]
    have := key _ _ _ _ h
    exact ⟨by simpa using this.1, by simpa using this.2, true, q, by simp [eqL], by simpa using h, by simp⟩
  | k :: k1, k2, l, m, q, h => by
    cases l <;> cases m <;> simp only [List.cons_append, eqL] at h <;> first | (cases h; done) | skip
    rename_i a l b m
    obtain ⟨p, h1, h⟩ := Option.bind_eq_some_iff.1 h
    obtain ⟨r, h', rfl⟩ := Option.map_eq_some_iff.1 h
    obtain ⟨a1, a2, q1, q2, a3, a4, rfl⟩ := eqL_split h'
    refine ⟨by simp [a1]; omega, by simp [a2]; omega, p && q1, q2, ?_, by simpa using a4, by rw [Bool.and_assoc]⟩
    simp [eqL, h1, a3]
theorem eqCells_vals {ok : Fl → Nat → Prop} : ∀ {ks : List Nat} {l m : List V} {xs ys : List Value} {q : Bool}, RVs w ok loc l xs → RVs w ok loc m ys → eqCells ks l m = some q → eqL ks xs ys = some q
  | [], l, m, xs, ys, q, hx, hy, h => by
    cases l <;> cases m <;> simp only [eqCells] at h <;> first | (cases h; done) | skip
    have e1 : xs = [] := List.length_eq_zero_iff.1 (by simpa using hx.1)
    have e2 : ys = [] := List.length_eq_zero_iff.1 (by simpa using hy.1)
    subst e1; subst e2; exact h
  | k :: ks, l, m, xs, ys, q, hx, hy, h => by
    cases l with
    | nil => simp [eqCells] at h
    | cons a l =>
    cases m with
    | nil => cases a <;> simp [eqCells] at h
    | cons b m =>
    cases a <;> cases b <;> simp only [eqCells] at h <;> first | (cases h; done) | skip
    rename_i a b
    match xs, ys, hx.1, hy.1 with
    | x :: xs, y :: ys, h1, h2 =>
      have e1 := (hx.2 0 _ x rfl rfl).c_inv
      have e2 := (hy.2 0 _ y rfl rfl).c_inv
      subst e1; subst e2
      obtain ⟨p, h3, h⟩ := Option.bind_eq_some_iff.1 h
      obtain ⟨r, h', rfl⟩ := Option.map_eq_some_iff.1 h
      have := eqCells_vals (xs := xs) (ys := ys) ⟨by simpa using h1, fun i v x hv hx' => hx.2 (i + 1) v x (by simpa using hv) (by simpa using hx')⟩ ⟨by simpa using h2, fun i v x hv hx' => hy.2 (i + 1) v x (by simpa using hv) (by simpa using hx')⟩ h'
      simp [eqL, h3, this]
def shp : Option Nat → Value → List Value → Prop
  | none, x, l => l = [x]
  | some n, x, l => x = .agg l.toArray ∧ l.length = n
theorem part_run {t : TypeId} {sz : Option Nat} (ht : tySz P t = some sz) (w : World) (l : List Value) (off : Nat) (hl : off + sz.getD 1 ≤ l.length) :
    ∃ x, (part t l.toArray off).run P w = .ok x w ∧ shp sz x ((l.drop off).take (sz.getD 1)) := by
  obtain ⟨h1, h2⟩ := tySz_spec ht w
  cases sz with
  | none =>
    simp only [Option.getD_none] at hl ⊢
    have hlt : off < l.length := by omega
    refine ⟨l[off], ?_, ?_⟩
    · simp [part, h1, List.getElem?_eq_getElem hlt]
    · simp only [shp]
      rw [List.drop_eq_getElem_cons hlt]; rfl
  | some n =>
    simp only [Option.getD_some] at hl h2 ⊢
    refine ⟨.agg (l.toArray.extract off (off + n)), ?_, ?_, by simp; omega⟩
    · simp [part, h1, h2]
    · congr 1
      apply Array.ext'
      simp [List.drop_take]
theorem eqN_run : ∀ (d : Nat) (t : TypeId) (ks : List Nat), eqN P d t = some ks → ∀ (sz : Option Nat), tySz P t = some sz → sz.getD 1 = ks.length → ∀ (e : Nat), d ≤ e → ∀ (x y : Value) (cx cy : List Value) (q : Bool), shp sz x cx → shp sz y cy → eqL ks cx cy = some q → ∀ w, (Op.equalIn e t x y).run P w = .ok q w
  | 0, t, n, h => by simp [eqN] at h
  | d + 1, t, ks, h => by
    intro sz hsz hn e he x y cx cy q hx hy hq w
    obtain ⟨e, rfl⟩ : ∃ e', e = e' + 1 := ⟨e - 1, by omega⟩
    have leafCase : (∀ fs, P.underlying t ≠ some (.struct fs)) → (∀ a b, P.underlying t ≠ some (.array a b)) → sz = none := fun h1 h2 => by
      unfold tySz at hsz
      split at hsz
      · rename_i h3 _; exact absurd h3 (h1 _)
      · rename_i h3 _; exact absurd h3 (h2 _ _)
      · split at hsz
        · injection hsz with hsz; exact hsz.symm
        · cases hsz
      · cases hsz
    simp only [eqN] at h
    have leaf : ∀ k, ks = [k] → sz = none → eqS k x y = some q := fun k hk e => by
      subst e; subst hk
      simp only [shp] at hx hy
      subst hx; subst hy
      simp only [eqL] at hq
      cases hs : eqS k x y with
      | none => rw [hs] at hq; cases hq
      | some p => rw [hs] at hq; simpa using hq
    split at h
    · rename_i k hu
      injection h with h; subst h
      have hs := leaf 0 rfl (leafCase (fun fs e => by rw [hu] at e; cases e) (fun a b e => by rw [hu] at e; cases e))
      unfold eqS at hs
      split at hs <;> first | (cases hs; done) | skip
      · split at hs
        · rename_i hk; injection hs with hs; subst hs; subst hk; rw [run_equalIn_int w e t _ k _ _ hu]; congr 1
        · cases hs
      · rename_i h0; cases h0
      · rename_i h0; cases h0
    · rename_i hu
      injection h with h; subst h
      have hs := leaf 1 rfl (leafCase (fun fs e => by rw [hu] at e; cases e) (fun a b e => by rw [hu] at e; cases e))
      unfold eqS at hs
      split at hs <;> first | (cases hs; done) | skip
      · rename_i h0; cases h0
      · injection hs with hs; subst hs; rw [run_equalIn_string w e t _ _ hu]; congr 1; rw [Bool.eq_iff_iff]; simp
      · rename_i h0; cases h0
    · rename_i hu
      injection h with h; subst h
      have hs := leaf 2 rfl (leafCase (fun fs e => by rw [hu] at e; cases e) (fun a b e => by rw [hu] at e; cases e))
      unfold eqS at hs
      split at hs <;> first | (cases hs; done) | skip
      · rename_i h0; cases h0
      · rename_i h0; cases h0
      · injection hs with hs; subst hs; rw [run_equalIn_bool' w e t _ _ hu]
    · rename_i fs hu
      split at h
      · cases h
      rename_i hst
      have hst : P.stoodInHeld t = false := by simpa using hst
      have hfs : P.fieldsOf t = fs := by simp [Program.fieldsOf, hu]
      have hszs : ∃ n, sz = some n := by
        unfold tySz at hsz
        rw [hu] at hsz
        split at hsz
        · injection hsz with hsz; exact ⟨_, hsz.symm⟩
        · injection hsz with hsz; exact ⟨_, hsz.symm⟩
        · rename_i _ _ hA _ heq _; injection heq with heq; exact absurd heq.symm fun e => hA _ e
        · cases hsz
      obtain ⟨n, rfl⟩ := hszs
      simp only [Option.getD_some] at hn
      obtain ⟨rfl, hxl⟩ := hx
      obtain ⟨rfl, hyl⟩ := hy
      rw [run_equalIn_struct w e t _ _ (by rw [hfs]; exact hu) hst, hfs]
      have fields : ∀ (fs : List Field) (off : Nat) (ks : List Nat) (q : Bool), eqFs P (eqN P d) fs off = some ks → eqL ks (cx.drop off) (cy.drop off) = some q → (Op.eqFields e cx.toArray cy.toArray fs).run P w = .ok q w := by
        intro fs
        induction fs with
        | nil =>
          intro off ks q h hq
          simp only [eqFs] at h
          injection h with h; subst h
          have : q = true := by
            generalize cx.drop off = l at hq
            generalize cy.drop off = m at hq
            cases l <;> cases m <;> simp [eqL] at hq
            exact hq
          subst this; simp [Op.eqFields]
        | cons f fs ih =>
          intro off ks q h hq
          simp only [eqFs] at h
          split at h
          case isFalse => cases h
          rename_i hf
          obtain ⟨hf1, rfl⟩ := hf
          obtain ⟨n1, h1, h⟩ := Option.bind_eq_some_iff.1 h
          obtain ⟨sz1, h2, h⟩ := Option.bind_eq_some_iff.1 h
          split at h
          case isFalse => cases h
          rename_i h3
          obtain ⟨h3, h30⟩ := h3
          obtain ⟨ks2, h4, rfl⟩ := Option.map_eq_some_iff.1 h
          obtain ⟨b1, b2, q1, q2, b3, b4, rfl⟩ := eqL_split hq
          simp only [List.length_drop] at b1 b2
          obtain ⟨a, ha1, ha2⟩ := part_run h2 w cx f.offset (by omega)
          obtain ⟨b, hb1, hb2⟩ := part_run h2 w cy f.offset (by omega)
          have hr := eqN_run d f.type n1 h1 sz1 h2 h3 e (by omega) a b _ _ q1 ha2 hb2 (by rw [h3]; exact b3) w
          simp only [Op.eqFields, hf1, ne_eq, not_false_eq_true, if_true, Sem.run_bind, ha1, hb1, hr, Result.andThen_ok, Sem.run_ite]
          have hrest := ih (f.offset + n1.length) ks2 q2 h4 (by simpa [List.drop_drop] using b4)
          cases q1
          · simp
          · simp [hrest]
      exact fields fs.toList 0 ks q h (by simpa using hq)
    · cases h
theorem structTy_run {t : TypeId} {ks : List Nat} (h : structTy P t = some ks) {op : BinOp} {neg : Bool} (hneg : negOp op = some neg) {ok : Fl → Nat → Prop} {l m : List V} {x y : Value} {q : Bool} (hx : RV w ok loc (.ag l) x) (hy : RV w ok loc (.ag m) y) (hq : eqCells ks l m = some q) (xo yo : Operand) :
    (do eqGuard op t xo yo x y; binOp op t x y : Sem Value).run P w = .ok (.bool (if neg then !q else q)) w := by
  unfold structTy at h
  split at h
  case h_2 => cases h
  rename_i fs n ks' hu hsz hk
  split at h
  case isFalse => cases h
  rename_i hc
  injection h with h; subst h
  obtain ⟨hn, hg⟩ := hc
  obtain ⟨xs, rfl, h1⟩ := hx.ag_inv
  obtain ⟨ys, rfl, h2⟩ := hy.ag_inv
  have hv := eqCells_vals h1 h2 hq
  have hl := (eqL_split (k2 := []) (by simpa using hv))
  have hr := eqN_run 20 t _ hk (some n) hsz (by simpa using hn) 10000 (by omega) (.agg xs.toArray) (.agg ys.toArray) xs ys q ⟨rfl, by rw [hn]; simpa using hl.1⟩ ⟨rfl, by rw [hn]; simpa using hl.2.1⟩ hv w
  cases op <;> simp only [negOp] at hneg <;> first | (cases hneg; done) | skip
  · injection hneg with hneg; subst hneg
    simp [run_eqGuard_agg w _ _ _ _ _ _ hg, run_eql_struct, hr]
  · injection hneg with hneg; subst hneg
    simp [run_eqGuard_agg w _ _ _ _ _ _ hg, run_neq_struct, hr]
theorem snd_binOp {dst : Option Tmp} {ty : TypeId} {pos : String} {after : Array Edge} {guard : Option (Nat × Bool)} (op' : BinOp) (t : TypeId) (x y : Operand) (t2 : TypeId) {h op : Ok} {xs : List Operand} (hc : compOp P ⟨dst, .binOp op' t x y t2, ty, pos, after, guard⟩ h = some (op, xs)) {ρ : Operand → Value} {vs : List V} {r : V} {us : Ups} {ob0 : OB}
    (hwf : WF n0 w own loc ob) (hn0 : n0 ≤ w.heap.size) (hnid : loc nid = none) (hsub : ∀ id o, ob0 id = some o → ob id = some o)
    (hρ : ∀ v, ρ (.const v) = v) (hv : RVs w (okf own n0 w.heap.size) loc vs (xs.map ρ)) (hop : opF op vs ob0 nid = some (r, us)) : Does P n0 w own loc ob nid (execOp ρ ⟨dst, .binOp op' t x y t2, ty, pos, after, guard⟩) r us := by
  simp only [compOp] at hc
  split at hc
  · rename_i ht
    injection hc with hc; injection hc with h1 h2; subst h1; subst h2
    obtain ⟨v, v2, rfl, hx, hy⟩ := rvs2 hv
    simp only [opF] at hop
    obtain ⟨a, ha, hop⟩ := Option.bind_eq_some_iff.1 hop
    obtain ⟨b, hb, hop⟩ := Option.bind_eq_some_iff.1 hop
    obtain ⟨q, hq, hop⟩ := Option.map_eq_some_iff.1 hop
    injection hop with h5 h6; subst h5; subst h6
    have e1 := toC_inv ha; have e2 := toC_inv hb
    subst e1; subst e2
    have e3 := hx.c_inv; have e4 := hy.c_inv
    have := bin_run (P := P) (w := w) hq t ht x y
    rw [← e3, ← e4] at this
    exact .of_same hwf this (.c q)
  · split at hc
    · rename_i _ ht
      injection hc with hc; injection hc with h1 h2; subst h1; subst h2
      obtain ⟨v, v2, rfl, hx, hy⟩ := rvs2 hv
      simp only [opF] at hop
      obtain ⟨a, ha, hop⟩ := Option.bind_eq_some_iff.1 hop
      obtain ⟨b, hb, hop⟩ := Option.bind_eq_some_iff.1 hop
      obtain ⟨q, hq, hop⟩ := Option.map_eq_some_iff.1 hop
      injection hop with h5 h6; subst h5; subst h6
      have e1 := toBool_inv ha; have e2 := toBool_inv hb
      subst e1; subst e2
      have e3 := hx.c_inv; have e4 := hy.c_inv
      have := bb_run (P := P) (w := w) hq t ht x y
      rw [← e3, ← e4] at this
      exact .of_same hwf this (.c _)
    · split at hc
      · obtain ⟨ks, hks, hc⟩ := Option.bind_eq_some_iff.1 hc
        obtain ⟨neg, hneg, hc⟩ := Option.map_eq_some_iff.1 hc
        injection hc with h1 h2; subst h1; subst h2
        obtain ⟨v, v2, rfl, hx, hy⟩ := rvs2 hv
        simp only [opF] at hop
        obtain ⟨q, hq, hop⟩ := Option.map_eq_some_iff.1 hop
        injection hop with h5 h6; subst h5; subst h6
        unfold eqA at hq
        split at hq
        case h_2 => cases hq
        exact .of_same hwf (structTy_run hks hneg hx hy hq x y) (.c _)
      obtain ⟨kd, hkd, hc⟩ := Option.bind_eq_some_iff.1 hc
      split at hc
      case isFalse => cases hc
      rename_i hnil
      obtain ⟨neg, hneg, hc⟩ := Option.map_eq_some_iff.1 hc
      injection hc with h1 h2; subst h1; subst h2
      obtain ⟨v, rfl, hx⟩ := rvs1 hv
      simp only [opF] at hop
      obtain ⟨q, hq, hop⟩ := Option.map_eq_some_iff.1 hop
      injection hop with h5 h6; subst h5; subst h6
      have hq' : isNil ob kd v = some q := isNil_sub hsub hq
      obtain ⟨z, hz1, hz2⟩ := nil_run hkd hnil hneg hwf hx hq' ρ hρ x
      exact .of_same hwf hz1 hz2
theorem snd_unOp {dst : Option Tmp} {ty : TypeId} {pos : String} {after : Array Edge} {guard : Option (Nat × Bool)} (op' : UnOp) (t : TypeId) (x : Operand) {h op : Ok} {xs : List Operand} (hc : compOp P ⟨dst, .unOp op' t x, ty, pos, after, guard⟩ h = some (op, xs)) {ρ : Operand → Value} {vs : List V} {r : V} {us : Ups} {ob0 : OB}
    (hwf : WF n0 w own loc ob) (hn0 : n0 ≤ w.heap.size) (hnid : loc nid = none) (hsub : ∀ id o, ob0 id = some o → ob id = some o)
    (hv : RVs w (okf own n0 w.heap.size) loc vs (xs.map ρ)) (hop : opF op vs ob0 nid = some (r, us)) : Does P n0 w own loc ob nid (execOp ρ ⟨dst, .unOp op' t x, ty, pos, after, guard⟩) r us := by
  simp only [compOp] at hc
  injection hc with hc; injection hc with h1 h2; subst h1; subst h2
  obtain ⟨v, rfl, hx⟩ := rvs1 hv
  simp only [opF] at hop
  obtain ⟨a, ha, hop⟩ := Option.bind_eq_some_iff.1 hop
  obtain ⟨q, hq, hop⟩ := Option.map_eq_some_iff.1 hop
  injection hop with h5 h6; subst h5; subst h6
  have e1 := toC_inv ha
  subst e1
  have e3 := hx.c_inv
  refine .of_same hwf (s := Op.unary op' (ρ x)) ?_ (.c q)
  rw [e3]
  unfold unS at hq
  split at hq
  · injection hq with hq; subst hq; simp [Op.unary]
  · injection hq with hq; subst hq; simp [Op.unary, Op.intArith]
  · cases hq
theorem snd_convert {dst : Option Tmp} {ty : TypeId} {pos : String} {after : Array Edge} {guard : Option (Nat × Bool)} (s d : TypeId) (x : Operand) {h op : Ok} {xs : List Operand} (hc : compOp P ⟨dst, .convert s d x, ty, pos, after, guard⟩ h = some (op, xs)) {ρ : Operand → Value} {vs : List V} {r : V} {us : Ups} {ob0 : OB}
    (hwf : WF n0 w own loc ob) (hn0 : n0 ≤ w.heap.size) (hnid : loc nid = none) (hsub : ∀ id o, ob0 id = some o → ob id = some o)
    (hv : RVs w (okf own n0 w.heap.size) loc vs (xs.map ρ)) (hop : opF op vs ob0 nid = some (r, us)) : Does P n0 w own loc ob nid (execOp ρ ⟨dst, .convert s d x, ty, pos, after, guard⟩) r us := by
  simp only [compOp] at hc
  split at hc
  case h_2 => cases hc
  rename_i sd k hs hd
  injection hc with hc; injection hc with h1 h2; subst h1; subst h2
  obtain ⟨v, rfl, hx⟩ := rvs1 hv
  simp only [opF] at hop
  obtain ⟨a, ha, hop⟩ := Option.map_eq_some_iff.1 hop
  injection hop with h5 h6; subst h5; subst h6
  obtain ⟨kk, rfl⟩ := toInt_inv ha
  have e3 := hx.c_inv
  refine .of_same hwf (s := Go.convert s d (ρ x)) ?_ (.c _)
  rw [e3]
  simp [Go.convert, run_underlying hs, run_underlying hd, Conv.intToInt]
theorem snd_fieldAddr {dst : Option Tmp} {ty : TypeId} {pos : String} {after : Array Edge} {guard : Option (Nat × Bool)} (s : TypeId) (x : Operand) (f : Nat) {h op : Ok} {xs : List Operand} (hc : compOp P ⟨dst, .fieldAddr s x f, ty, pos, after, guard⟩ h = some (op, xs)) {ρ : Operand → Value} {vs : List V} {r : V} {us : Ups} {ob0 : OB}
    (hwf : WF n0 w own loc ob) (hn0 : n0 ≤ w.heap.size) (hnid : loc nid = none) (hsub : ∀ id o, ob0 id = some o → ob id = some o)
    (hv : RVs w (okf own n0 w.heap.size) loc vs (xs.map ρ)) (hop : opF op vs ob0 nid = some (r, us)) : Does P n0 w own loc ob nid (execOp ρ ⟨dst, .fieldAddr s x f, ty, pos, after, guard⟩) r us := by
  simp only [compOp] at hc
  obtain ⟨fs, hf, hc⟩ := Option.bind_eq_some_iff.1 hc
  obtain ⟨fd, hfd, hc⟩ := Option.bind_eq_some_iff.1 hc
  obtain ⟨i, hi, hc⟩ := Option.bind_eq_some_iff.1 hc
  split at hc
  · cases hc
  rename_i h0
  injection hc with hc; injection hc with h1 h2; subst h1; subst h2
  obtain ⟨v, rfl, hx⟩ := rvs1 hv
  simp only [opF] at hop
  obtain ⟨v', hl, hop⟩ := Option.map_eq_some_iff.1 hop
  injection hop with h5 h6; subst h5; subst h6
  obtain ⟨b, o, h3, h4⟩ := fa_rv hwf hx (faV_sub hsub hl)
  refine .of_same hwf (s := Instr.fieldAt s (ρ x) f) ?_ h4
  rw [h3]; exact fieldAt_run (fieldsOf_spec hf) hfd hi h0 b o
theorem snd_nilCheck {dst : Option Tmp} {ty : TypeId} {pos : String} {after : Array Edge} {guard : Option (Nat × Bool)} (x : Operand) {h op : Ok} {xs : List Operand} (hc : compOp P ⟨dst, .nilCheck x, ty, pos, after, guard⟩ h = some (op, xs)) {ρ : Operand → Value} {vs : List V} {r : V} {us : Ups} {ob0 : OB}
    (hwf : WF n0 w own loc ob) (hn0 : n0 ≤ w.heap.size) (hnid : loc nid = none) (hsub : ∀ id o, ob0 id = some o → ob id = some o)
    (hv : RVs w (okf own n0 w.heap.size) loc vs (xs.map ρ)) (hop : opF op vs ob0 nid = some (r, us)) : Does P n0 w own loc ob nid (execOp ρ ⟨dst, .nilCheck x, ty, pos, after, guard⟩) r us := by
  simp only [compOp] at hc
  injection hc with hc; injection hc with h1 h2; subst h1; subst h2
  obtain ⟨v, rfl, hx⟩ := rvs1 hv
  simp only [opF] at hop
  obtain ⟨v', hl, hop⟩ := Option.map_eq_some_iff.1 hop
  injection hop with h5 h6; subst h5; subst h6
  obtain ⟨b, o, h3, h4⟩ := fa_rv hwf hx (faV_sub hsub hl)
  exact ⟨ρ x, w, own, loc, .inl (by simp [execOp, h3]), by rw [h3]; exact h4, hwf, .refl _ _ _, fun _ _ h => h⟩
theorem snd_field {dst : Option Tmp} {ty : TypeId} {pos : String} {after : Array Edge} {guard : Option (Nat × Bool)} (t : TypeId) (x : Operand) (f : Nat) {h op : Ok} {xs : List Operand} (hc : compOp P ⟨dst, .field t x f, ty, pos, after, guard⟩ h = some (op, xs)) {ρ : Operand → Value} {vs : List V} {r : V} {us : Ups} {ob0 : OB}
    (hwf : WF n0 w own loc ob) (hn0 : n0 ≤ w.heap.size) (hnid : loc nid = none) (hsub : ∀ id o, ob0 id = some o → ob id = some o)
    (hv : RVs w (okf own n0 w.heap.size) loc vs (xs.map ρ)) (hop : opF op vs ob0 nid = some (r, us)) : Does P n0 w own loc ob nid (execOp ρ ⟨dst, .field t x f, ty, pos, after, guard⟩) r us := by
  simp only [compOp] at hc
  obtain ⟨fs, hf, hc⟩ := Option.bind_eq_some_iff.1 hc
  obtain ⟨fd, hfd, hc⟩ := Option.bind_eq_some_iff.1 hc
  obtain ⟨n, hn, hc⟩ := Option.map_eq_some_iff.1 hc
  injection hc with h1 h2; subst h1; subst h2
  obtain ⟨v, rfl, hx⟩ := rvs1 hv
  simp only [opF] at hop
  obtain ⟨l, hl, hopA⟩ := Option.bind_eq_some_iff.1 hop
  clear hop
  have hop := hopA
  clear hopA
  have hl' := toAg_inv hl
  rw [hl'] at hx
  split at hop
  case isFalse => cases hop
  rename_i hle
  obtain ⟨v', hp, hop⟩ := Option.map_eq_some_iff.1 hop
  injection hop with h5 h6; subst h5; subst h6
  obtain ⟨xs, hxs, hr⟩ := hx.ag_inv
  obtain ⟨ha1, ha2⟩ := tySz_spec hn w
  have hxl : xs.length = l.length := hr.1
  refine .of_same hwf (s := Instr.field t (ρ x) f) (y := packX n ((xs.drop fd.offset).take (n.getD 1))) ?_ (pack_rv hp ⟨by simp; omega, fun j a b ha hb => ?_⟩)
  · have hu := fieldsOf_spec hf
    rw [hxs]
    cases n with
    | none =>
      have hlt : fd.offset < xs.length := by simp at hle; omega
      simp [Instr.field, run_underlying hu, hfd, part, ha1, asAgg, packX, hlt]
      have e : xs.drop fd.offset = xs[fd.offset] :: xs.drop (fd.offset + 1) := List.drop_eq_getElem_cons hlt
      rw [e]; rfl
    | some m =>
      simp only [Option.getD_some] at hle ha2 ⊢
      simp [Instr.field, run_underlying hu, hfd, part, ha1, ha2, asAgg, packX]
  · rw [List.getElem?_take, List.getElem?_drop] at ha hb
    split at ha
    · rename_i hj; rw [if_pos hj] at hb; exact hr.2 _ a b ha hb
    · cases ha
theorem snd_indexAddr {dst : Option Tmp} {ty : TypeId} {pos : String} {after : Array Edge} {guard : Option (Nat × Bool)} (t : TypeId) (x i : Operand) {h op : Ok} {xs : List Operand} (hc : compOp P ⟨dst, .indexAddr t x i, ty, pos, after, guard⟩ h = some (op, xs)) {ρ : Operand → Value} {vs : List V} {r : V} {us : Ups} {ob0 : OB}
    (hwf : WF n0 w own loc ob) (hn0 : n0 ≤ w.heap.size) (hnid : loc nid = none) (hsub : ∀ id o, ob0 id = some o → ob id = some o)
    (hv : RVs w (okf own n0 w.heap.size) loc vs (xs.map ρ)) (hop : opF op vs ob0 nid = some (r, us)) : Does P n0 w own loc ob nid (execOp ρ ⟨dst, .indexAddr t x i, ty, pos, after, guard⟩) r us := by
  simp only [compOp] at hc
  split at hc
  · rename_i e hu
    obtain ⟨k, hk, hc⟩ := Option.map_eq_some_iff.1 hc
    injection hc with h1 h2; subst h1; subst h2
    obtain ⟨v, v2, rfl, hx, hy⟩ := rvs2 hv
    simp only [opF] at hop
    obtain ⟨n, hn, hop⟩ := Option.bind_eq_some_iff.1 hop
    obtain ⟨v', hl, hop⟩ := Option.map_eq_some_iff.1 hop
    injection hop with h5 h6; subst h5; subst h6
    obtain ⟨kk, rfl⟩ := toInt_inv hn
    have hi := hy.c_inv
    obtain ⟨y, h3, h4⟩ := ia_rv (P := P) hwf hk (kk := kk) hx (iaV_sub hsub hl)
    refine .of_same hwf (s := Instr.indexAt t (ρ x) (ρ i)) ?_ h4
    rw [hi]; exact h3
  · rename_i len e hu
    obtain ⟨j, hj, hc⟩ := Option.map_eq_some_iff.1 hc
    injection hc with h1 h2; subst h1; subst h2
    obtain ⟨v, v2, rfl, hx, hy⟩ := rvs2 hv
    simp only [opF] at hop
    obtain ⟨n, hn, hop⟩ := Option.bind_eq_some_iff.1 hop
    split at hop
    case isFalse => cases hop
    rename_i hcond
    obtain ⟨v', hl, hop⟩ := Option.map_eq_some_iff.1 hop
    injection hop with h5 h6; subst h5; subst h6
    obtain ⟨kk, rfl⟩ := toInt_inv hn
    have hi := hy.c_inv
    obtain ⟨b, o, h3, h4⟩ := fa_rv hwf hx (faV_sub hsub hl)
    refine .of_same hwf (s := Instr.indexAt t (ρ x) (ρ i)) ?_ h4
    rw [hi, h3]; exact indexAt_array hu hj b o kk n hcond.1 hcond.2
  · cases hc
theorem snd_makeSlice {dst : Option Tmp} {ty : TypeId} {pos : String} {after : Array Edge} {guard : Option (Nat × Bool)} (t : TypeId) (l c : Operand) {h op : Ok} {xs : List Operand} (hc : compOp P ⟨dst, .makeSlice t l c, ty, pos, after, guard⟩ h = some (op, xs)) {ρ : Operand → Value} {vs : List V} {r : V} {us : Ups} {ob0 : OB}
    (hwf : WF n0 w own loc ob) (hn0 : n0 ≤ w.heap.size) (hnid : loc nid = none) (hsub : ∀ id o, ob0 id = some o → ob id = some o)
    (hv : RVs w (okf own n0 w.heap.size) loc vs (xs.map ρ)) (hop : opF op vs ob0 nid = some (r, us)) : Does P n0 w own loc ob nid (execOp ρ ⟨dst, .makeSlice t l c, ty, pos, after, guard⟩) r us := by
  simp only [compOp] at hc
  obtain ⟨fz, _, hc⟩ := Option.bind_eq_some_iff.1 hc
  obtain ⟨⟨k, z⟩, hkz, hc⟩ := Option.map_eq_some_iff.1 hc
  injection hc with h1 h2; subst h1; subst h2
  obtain ⟨v, v2, rfl, hx, hy⟩ := rvs2 hv
  obtain ⟨y, w', own', loc', h3, h4, h5, h6, h7⟩ := make_does hwf hn0 hnid hkz hx hy hop
  exact .of_value (s := Instr.makeSlice t (ρ l) (ρ c)) h3 h4 h5 h6 h7
theorem snd_extract {dst : Option Tmp} {ty : TypeId} {pos : String} {after : Array Edge} {guard : Option (Nat × Bool)} (x : Operand) (i : Nat) {h op : Ok} {xs : List Operand} (hc : compOp P ⟨dst, .extract x i, ty, pos, after, guard⟩ h = some (op, xs)) {ρ : Operand → Value} {vs : List V} {r : V} {us : Ups} {ob0 : OB}
    (hwf : WF n0 w own loc ob) (hn0 : n0 ≤ w.heap.size) (hnid : loc nid = none) (hsub : ∀ id o, ob0 id = some o → ob id = some o)
    (hv : RVs w (okf own n0 w.heap.size) loc vs (xs.map ρ)) (hop : opF op vs ob0 nid = some (r, us)) : Does P n0 w own loc ob nid (execOp ρ ⟨dst, .extract x i, ty, pos, after, guard⟩) r us := by
  simp only [compOp] at hc
  injection hc with hc; injection hc with h1 h2; subst h1; subst h2
  obtain ⟨v, rfl, hx⟩ := rvs1 hv
  simp only [opF] at hop
  obtain ⟨l, hl, hop⟩ := Option.bind_eq_some_iff.1 hop
  obtain ⟨v', hp, hop⟩ := Option.map_eq_some_iff.1 hop
  injection hop with h5 h6; subst h5; subst h6
  have hl' := toTp_inv hl
  subst hl'
  obtain ⟨xs, hxs, hr⟩ := hx.tp_inv
  have hi : i < xs.length := by rw [hr.1]; exact (List.getElem?_eq_some_iff.1 hp).1
  refine .of_same hwf (s := Instr.extract (ρ x) i) (y := xs[i]) ?_ (hr.2 i _ _ hp (List.getElem?_eq_getElem hi))
  rw [hxs]
  simp [Instr.extract, hi]
end
end Go.Proofs.YtbojpedklnmidaaGreat.D
end
section
set_option linter.unusedVariables false
set_option linter.unusedSectionVars false
set_option linter.unusedSimpArgs false
set_option linter.constructorNameAsVariable false
/- The machine's operations on maps do what those over plain values do. No condition. -/
namespace Go.Proofs.YtbojpedklnmidaaGreat.D
open Go Go.RowKit
section
variable {P : Program} [Bk]
theorem checkKey_run (em : Bool) : ∀ (d : Nat) (t : TypeId) (ks : List Nat), eqN P d t = some ks → ∀ (sz : Option Nat), tySz P t = some sz → sz.getD 1 = ks.length → ∀ (e : Nat), d ≤ e → ∀ (x : Value) (cx : List Value), shp sz x cx → cx.length = ks.length → ∀ w, (Instr.checkKey em e t x).run P w = .ok () w
  | 0, t, n, h => by simp [eqN] at h
  | d + 1, t, ks, h => by
    intro sz hsz hn e he x cx hx hl w
    obtain ⟨e, rfl⟩ : ∃ e', e = e' + 1 := ⟨e - 1, by omega⟩
    simp only [eqN] at h
    split at h
    · rename_i k hu
      cases x <;> simp [Instr.checkKey, run_underlying hu, Result.andThen]
    · rename_i hu
      cases x <;> simp [Instr.checkKey, run_underlying hu, Result.andThen]
    · rename_i hu
      cases x <;> simp [Instr.checkKey, run_underlying hu, Result.andThen]
    · rename_i fs hu
      split at h
      · cases h
      have hszs : ∃ n, sz = some n := by
        unfold tySz at hsz
        rw [hu] at hsz
        split at hsz
        · injection hsz with hsz; exact ⟨_, hsz.symm⟩
        · injection hsz with hsz; exact ⟨_, hsz.symm⟩
        · rename_i _ _ hA _ heq _; injection heq with heq; exact absurd heq.symm fun e => hA _ e
        · cases hsz
      obtain ⟨n, rfl⟩ := hszs
      obtain ⟨rfl, hxl⟩ := hx
      rw [Instr.checkKey]
      simp only [Sem.run_bind, run_underlying hu, Result.andThen_ok]
      rw [← Array.forIn_toList]
      have hE : ∃ off ks', eqFs P (eqN P d) fs.toList off = some ks' ∧ off + ks'.length ≤ cx.length := ⟨0, ks, h, by omega⟩
      obtain ⟨off, ks', h1, h2⟩ := hE
      clear h
      generalize fs.toList = L at *
      induction L generalizing off ks' with
      | nil => simp
      | cons f L ih =>
        simp only [eqFs] at h1
        split at h1
        case isFalse => cases h1
        rename_i hf
        obtain ⟨hf1, rfl⟩ := hf
        obtain ⟨n1, g1, h1⟩ := Option.bind_eq_some_iff.1 h1
        obtain ⟨sz1, g2, h1⟩ := Option.bind_eq_some_iff.1 h1
        split at h1
        case isFalse => cases h1
        rename_i g3
        obtain ⟨g3, g30⟩ := g3
        obtain ⟨ks2, g4, rfl⟩ := Option.map_eq_some_iff.1 h1
        simp only [List.length_append] at h2
        obtain ⟨a, ha1, ha2⟩ := part_run g2 w cx f.offset (by omega)
        have hr := checkKey_run em d f.type n1 g1 sz1 g2 g3 e (by omega) a _ ha2 (by simp; omega) w
        simp only [List.forIn_cons, Sem.run_bind, hf1, ne_eq, not_false_eq_true, if_true, Result.andThen_ok, ha1, hr, Sem.run_pure]
        exact ih _ _ (by omega) g4
    · cases h
theorem ba_iff {p q : ByteArray} : p.toList = q.toList ↔ p = q := by
  constructor
  · intro h
    rw [ByteArray.toList_eq, ByteArray.toList_eq] at h
    cases p; cases q; simp at h ⊢; exact h
  · rintro rfl; rfl
structure KeyT (P : Program) (t : TypeId) (st : Bool) (ks : List Nat) : Prop where
  sz : tySz P t = some (if st then some ks.length else none)
  eq : eqN P 20 t = some ks
  one : st = false → ks.length = 1
  u : (st = true ∧ ∃ fs, P.underlying t = some (.struct fs)) ∨ (st = false ∧ (P.underlying t = some .string ∨ ∃ k, P.underlying t = some (.int k)))
theorem keyTy_spec {t : TypeId} {q : Bool × List Nat} (h : keyTy P t = some q) : KeyT P t q.1 q.2 := by
  unfold keyTy at h
  split at h
  · rename_i fs n ks hu hsz hk
    split at h
    case isFalse => cases h
    rename_i hn
    injection h with h; subst h; subst hn
    exact ⟨hsz, hk, (fun h => by cases h), .inl ⟨rfl, _, hu⟩⟩
  · rename_i ks hu hsz hk
    split at h
    case isFalse => cases h
    rename_i hn
    injection h with h; subst h
    exact ⟨hsz, hk, fun _ => hn, .inr ⟨rfl, .inl hu⟩⟩
  · rename_i k ks hu hsz hk
    split at h
    case isFalse => cases h
    rename_i hn
    injection h with h; subst h
    exact ⟨hsz, hk, fun _ => hn, .inr ⟨rfl, .inr ⟨_, hu⟩⟩⟩
  · cases h
section
variable {w : World} {ok : Fl → Nat → Prop} {loc : Loc} {t : TypeId} {st : Bool} {ks : List Nat}
theorem key_shp {k : V} {c : List V} {x : Value} (h : keyC st k = some c) (hx : RV w ok loc k x) : ∃ cx, RVs w ok loc c cx ∧ (st = false → cx = [x]) ∧ (st = true → x = .agg cx.toArray) := by
  unfold keyC at h
  split at h
  · injection h with h; subst h
    exact ⟨[x], ⟨rfl, fun i v y h1 h2 => by
      cases i with
      | zero => simp at h1 h2; subst h1; subst h2; exact hx
      | succ i => simp at h1⟩, fun _ => rfl, fun h => by cases h⟩
  · injection h with h; subst h
    obtain ⟨xs, rfl, h1⟩ := hx.ag_inv
    exact ⟨xs, h1, (fun h => by cases h), fun _ => rfl⟩
  · cases h
theorem KeyT.shp (hK : KeyT P t st ks) {k : V} {c : List V} {x : Value} (h : keyC st k = some c) (hx : RV w ok loc k x) : ∃ cx, RVs w ok loc c cx ∧ (cx.length = ks.length → shp (if st then some ks.length else none) x cx) ∧ (st = false → cx = [x]) := by
  obtain ⟨cx, h1, h2, h3⟩ := key_shp h hx
  refine ⟨cx, h1, fun hl => ?_, h2⟩
  cases st with
  | false => exact h2 rfl
  | true => exact ⟨h3 rfl, hl⟩
theorem KeyT.getD (hK : KeyT P t st ks) : (if st then some ks.length else none : Option Nat).getD 1 = ks.length := by
  cases st with
  | false => simp [hK.one rfl]
  | true => rfl
theorem eqL_len {ks : List Nat} {l m : List Value} {q : Bool} (h : eqL ks l m = some q) : l.length = ks.length ∧ m.length = ks.length := by
  have hl := eqL_split (k1 := ks) (k2 := []) (by simpa using h)
  exact ⟨by simpa using hl.1, by simpa using hl.2.1⟩
theorem keyEq_run (hK : KeyT P t st ks) {k kv : V} {x y : Value} {q : Bool} (hx : RV w ok loc k x) (hy : RV w ok loc kv y) (h : keyEq st ks k kv = some q) (w' : World) : (Op.equal t x y).run P w' = .ok q w' := by
  unfold keyEq at h
  obtain ⟨a, ha, h⟩ := Option.bind_eq_some_iff.1 h
  obtain ⟨b, hb, h⟩ := Option.bind_eq_some_iff.1 h
  obtain ⟨cx, x1, x2, _⟩ := hK.shp ha hx
  obtain ⟨cy, y1, y2, _⟩ := hK.shp hb hy
  have hv := eqCells_vals x1 y1 h
  obtain ⟨l1, l2⟩ := eqL_len hv
  exact eqN_run 20 t ks hK.eq _ hK.sz hK.getD 10000 (by omega) x y cx cy q (x2 l1) (y2 l2) hv w'
theorem keyCheck_run (hK : KeyT P t st ks) {k : V} {c : List V} {x : Value} (h : keyC st k = some c) (hl : c.length = ks.length) (hx : RV w ok loc k x) (em : Bool) (w' : World) : (Instr.checkKey em 10000 t x).run P w' = .ok () w' := by
  obtain ⟨cx, x1, x2, _⟩ := hK.shp h hx
  have l1 : cx.length = ks.length := x1.1.trans hl
  exact checkKey_run em 20 t ks hK.eq _ hK.sz hK.getD 10000 (by omega) x cx (x2 l1) l1 w'
theorem keyStay_run (hK : KeyT P t st ks) {k kv : V} {x y : Value} (hx : RV w ok loc k x) (hy : RV w ok loc kv y) (h : keyEq st ks k kv = some true) (w' : World) : (Instr.keyThatStays y x).run P w' = .ok x w' := by
  have hs : Instr.sameBits 10000 y x = true := by
    unfold keyEq at h
    obtain ⟨a, ha, h⟩ := Option.bind_eq_some_iff.1 h
    obtain ⟨b, hb, h⟩ := Option.bind_eq_some_iff.1 h
    obtain ⟨cx, x1, x2, x3⟩ := key_shp ha hx
    obtain ⟨cy, y1, y2, y3⟩ := key_shp hb hy
    have hv := eqCells_vals x1 y1 h
    have cell : ∀ (n k : Nat) (a b : Value), eqS k a b = some true → Instr.sameBits n b a = true := fun n k a b h => by
      unfold eqS at h
      split at h <;> first | (cases h; done) | skip
      · split at h
        · rename_i hk; injection h with h; subst hk
          have := of_decide_eq_true h; subst this
          cases n <;> simp [Instr.sameBits]
        · cases h
      · injection h with h
        have := of_decide_eq_true h
        rw [ba_iff.1 this]
        cases n <;> simp [Instr.sameBits, MapKept.bytes_beq]
      · injection h with h
        have e2 := eq_of_beq h
        subst e2
        cases n <;> simp [Instr.sameBits]
    have all : ∀ (n : Nat) (ks : List Nat) (l m : List Value), eqL ks l m = some true → (m.zip l).all (fun (p : Value × Value) => Instr.sameBits n p.1 p.2) = true := by
      intro n ks
      induction ks with
      | nil => intro l m h; cases l <;> cases m <;> simp [eqL] at h ⊢
      | cons k ks ih =>
        intro l m h
        cases l <;> cases m <;> simp only [eqL] at h <;> first | (cases h; done) | skip
        obtain ⟨p, h1, h⟩ := Option.bind_eq_some_iff.1 h
        obtain ⟨r, h2, h3⟩ := Option.map_eq_some_iff.1 h
        obtain ⟨rfl, rfl⟩ : p = true ∧ r = true := by simpa using h3
        simp only [List.zip_cons_cons, List.all_cons, ih _ _ h2, Bool.and_true]
        exact cell n k _ _ h1
    obtain ⟨l1, l2⟩ := eqL_len hv
    cases st with
    | false =>
      have e1 := x2 rfl; have e2 := y2 rfl
      subst e1; subst e2
      have := all 10000 ks _ _ hv
      simpa using this
    | true =>
      rw [x3 rfl, y3 rfl]
      show Instr.sameBits (9999 + 1) _ _ = true
      simp only [Instr.sameBits, List.size_toArray, l1, l2, beq_self_eq_true, Bool.true_and]
      have := all 9999 ks _ _ hv
      simpa using this
  simp [Instr.keyThatStays, hs]
def ERs (w : World) (ok : Fl → Nat → Prop) (loc : Loc) : List (List V) → List MapEntry → Prop
  | [], [] => True
  | r :: l, e :: es => (∃ kv vv, r = [kv, vv] ∧ RV w ok loc kv e.key ∧ RV w ok loc vv e.val) ∧ ERs w ok loc l es
  | _, _ => False
theorem ERs.of : ∀ {l : List (List V)} {es : List MapEntry}, es.length = l.length → (∀ (i : Nat) (e : MapEntry), es[i]? = some e → ∃ kv vv, l[i]? = some [kv, vv] ∧ RV w ok loc kv e.key ∧ RV w ok loc vv e.val) → ERs w ok loc l es
  | [], [], _, _ => trivial
  | [], e :: es, h, _ => by simp at h
  | r :: l, [], h, _ => by simp at h
  | r :: l, e :: es, h, k => by
    refine ⟨?_, ERs.of (by simpa using h) fun i e' he => k (i + 1) e' (by simpa using he)⟩
    obtain ⟨kv, vv, h1, h2, h3⟩ := k 0 e rfl
    exact ⟨kv, vv, by simpa using h1, h2, h3⟩
theorem ask_run (hK : KeyT P t st ks) {k : V} {x : Value} (hx : RV w ok loc k x) (w' : World) : ∀ {l : List (List V)} {es : List MapEntry} {q : Option Nat} (i : Nat), ERs w ok loc l es → posM st ks k l = some q →
    ∃ r, (Instr.findAsking t x es i).run P w' = .ok r w' ∧ ((q = none ∧ r = none) ∨ ∃ j e, q = some j ∧ es[j]? = some e ∧ r = some (i + j, e.val))
  | [], [], q, i, _, h => by
    simp only [posM] at h; injection h with h; subst h
    exact ⟨none, by simp [Instr.findAsking], .inl ⟨rfl, rfl⟩⟩
  | [], e :: es, q, i, h, _ => h.elim
  | r :: l, [], q, i, h, _ => h.elim
  | r :: l, e :: es, q, i, hRE, h => by
    obtain ⟨⟨kv, vv, rfl, h1, h2⟩, hR⟩ := hRE
    simp only [posM] at h
    obtain ⟨b, hb, h⟩ := Option.bind_eq_some_iff.1 h
    have he := keyEq_run hK hx h1 hb w'
    cases b with
    | true =>
      simp only [if_true] at h; injection h with h; subst h
      exact ⟨some (i, e.val), by simp [Instr.findAsking, he], .inr ⟨0, e, rfl, rfl, by simp⟩⟩
    | false =>
      simp only [Bool.false_eq_true, if_false] at h
      obtain ⟨q', hq', rfl⟩ := Option.map_eq_some_iff.1 h
      obtain ⟨r, h3, h4⟩ := ask_run hK hx w' (i + 1) hR hq'
      refine ⟨r, by simp [Instr.findAsking, he, h3], ?_⟩
      rcases h4 with ⟨rfl, rfl⟩ | ⟨j, e', rfl, h5, rfl⟩
      · exact .inl ⟨rfl, rfl⟩
      · exact .inr ⟨j + 1, e', rfl, by simpa using h5, by congr 2; omega⟩
theorem now_run (hK : KeyT P t st ks) {d : TypeDesc} (hu : P.underlying t = some d) (hst : st = false) {k : V} {x : Value} (hx : RV w ok loc k x) : ∀ {l : List (List V)} {es : List MapEntry} {q : Option Nat} (i : Nat), ERs w ok loc l es → posM st ks k l = some q →
    ∃ r, Instr.findNow d x es i = some r ∧ ((q = none ∧ r = none) ∨ ∃ j e, q = some j ∧ es[j]? = some e ∧ r = some (i + j, e.val))
  | [], [], q, i, _, h => by
    simp only [posM] at h; injection h with h; subst h
    exact ⟨none, rfl, .inl ⟨rfl, rfl⟩⟩
  | [], e :: es, q, i, h, _ => h.elim
  | r :: l, [], q, i, h, _ => h.elim
  | r :: l, e :: es, q, i, hRE, h => by
    obtain ⟨⟨kv, vv, rfl, h1, h2⟩, hR⟩ := hRE
    simp only [posM] at h
    obtain ⟨b, hb, h⟩ := Option.bind_eq_some_iff.1 h
    have he : Instr.sameNow d x e.key = some b := by
      clear hR h
      generalize e.key = ek at *
      subst hst
      unfold keyEq at hb
      obtain ⟨a, ha, hb⟩ := Option.bind_eq_some_iff.1 hb
      obtain ⟨a', ha', hb⟩ := Option.bind_eq_some_iff.1 hb
      obtain ⟨cx, x1, x2, _⟩ := key_shp ha hx
      obtain ⟨cy, y1, y2, _⟩ := key_shp ha' h1
      have e1 := x2 rfl; have e2 := y2 rfl
      subst e1; subst e2
      have hv := eqCells_vals x1 y1 hb
      have hk1 : ∃ kk, ks = [kk] := List.length_eq_one_iff.1 (hK.one rfl)
      obtain ⟨kk, rfl⟩ := hk1
      simp only [eqL] at hv
      obtain ⟨p, h3, hv⟩ := Option.bind_eq_some_iff.1 hv
      have hpb : p = b := by simpa using hv
      subst hpb
      have hq := hK.eq
      rcases hK.u with ⟨h, _⟩ | ⟨_, h | ⟨kd, h⟩⟩
      · cases h
      · rw [h] at hu; injection hu with hu; subst hu
        simp only [eqN, h] at hq
        injection hq with hq; injection hq with hq; subst hq
        unfold eqS at h3
        split at h3 <;> first | (cases h3; done) | skip
        all_goals first | (exfalso; omega) | skip
        injection h3 with h3; subst h3
        simp only [Instr.sameNow]; congr 1; rw [Bool.eq_iff_iff]; simp [MapKept.bytes_beq, ba_iff]
      · rw [h] at hu; injection hu with hu; subst hu
        simp only [eqN, h] at hq
        injection hq with hq; injection hq with hq; subst hq
        unfold eqS at h3
        split at h3 <;> first | (cases h3; done) | skip
        all_goals first | (exfalso; omega) | skip
        split at h3
        · rename_i hkk; injection h3 with h3; subst h3; subst hkk
          simp [Instr.sameNow]; rfl
        · cases h3
    cases b with
    | true =>
      simp only [if_true] at h; injection h with h; subst h
      exact ⟨some (i, e.val), by simp [Instr.findNow, he], .inr ⟨0, e, rfl, rfl, by simp⟩⟩
    | false =>
      simp only [Bool.false_eq_true, if_false] at h
      obtain ⟨q', hq', rfl⟩ := Option.map_eq_some_iff.1 h
      obtain ⟨r, h3, h4⟩ := now_run hK hu hst hx (i + 1) hR hq'
      refine ⟨r, by simp [Instr.findNow, he, h3], ?_⟩
      rcases h4 with ⟨rfl, rfl⟩ | ⟨j, e', rfl, h5, rfl⟩
      · exact .inl ⟨rfl, rfl⟩
      · exact .inr ⟨j + 1, e', rfl, by simpa using h5, by congr 2; omega⟩
theorem find_run (hK : KeyT P t st ks) {k : V} {x : Value} (hx : RV w ok loc k x) (w' : World) {l : List (List V)} {es : List MapEntry} {q : Option Nat} (hE : ERs w ok loc l es) (h : posM st ks k l = some q) :
    ∃ r, (Instr.findKey t x es).run P w' = .ok r w' ∧ ((q = none ∧ r = none) ∨ ∃ j e, q = some j ∧ es[j]? = some e ∧ r = some (j, e.val)) := by
  rcases hK.u with ⟨rfl, fs, hu⟩ | ⟨hst, hu⟩
  · rw [run_findKey_eq (P := P) (w := w') (k := t) (by rw [hu]) x es]
    obtain ⟨r, h1, h2⟩ := ask_run hK hx w' 0 hE h
    exact ⟨r, h1, by simpa using h2⟩
  · obtain ⟨d, hd⟩ : ∃ d, P.underlying t = some d := by
      rcases hu with hu | ⟨_, hu⟩ <;> exact ⟨_, hu⟩
    obtain ⟨r, h1, h2⟩ := now_run hK hd hst hx 0 hE h
    exact ⟨r, MapKept.run_findKey hd h1, by simpa using h2⟩
end
end
section
variable {P : Program} {n0 : Nat} {w : World} {own : Nat → Option Nat} {loc : Loc} {ob : OB} {nid : Nat} [Bk]
theorem new_xr (hwf : WF n0 w own loc ob) {nid : Nat} (hnid : loc nid = none) (O : Obj) (p : Pl) (hp : p.b = w.heap.size) (X : Ob)
    (h : Stp w own loc (w.alloc O) (fun b => if b = w.heap.size then some nid else own b) (fun id => if id = nid then some (some p) else loc id) →
      XR (w.alloc O) (okf (fun b => if b = w.heap.size then some nid else own b) n0 (w.alloc O).heap.size) (fun id => if id = nid then some (some p) else loc id) p X) :
    WF n0 (w.alloc O) (fun b => if b = w.heap.size then some nid else own b) (fun id => if id = nid then some (some p) else loc id) (fun j => if j = nid then some X else ob j) ∧
    Stp w own loc (w.alloc O) (fun b => if b = w.heap.size then some nid else own b) (fun id => if id = nid then some (some p) else loc id) := by
  have hs : Stp w own loc (w.alloc O) (fun b => if b = w.heap.size then some nid else own b) (fun id => if id = nid then some (some p) else loc id) := by
    refine ⟨rfl, rfl, rfl, by simp, fun b hb ho => ⟨by rw [if_neg (by omega)]; exact ho, alloc_heap _ _ hb⟩, fun id hid => ?_⟩
    by_cases h : id = nid
    · subst h; exact absurd hnid hid
    · left; simp [h]
  refine ⟨⟨fun id o ho => ?_, fun id q hq => ?_, fun b id hb => ?_⟩, hs⟩
  · by_cases hid : id = nid
    · subst hid
      simp only [if_true] at ho
      injection ho with ho; subst ho
      exact ⟨p, by simp, h hs⟩
    · simp only [hid, if_false] at ho
      obtain ⟨q, h1, h2⟩ := hwf.has id o ho
      exact ⟨q, by simp only [hid, if_false]; exact h1, h2.stp hs (alloc_heap _ _ (hwf.owns id q h1).2)⟩
  · by_cases hid : id = nid
    · subst hid
      simp only [if_true, Option.some.injEq] at hq
      subst hq
      rw [hp]; simp
    · simp only [hid, if_false] at hq
      have := hwf.owns id q hq
      exact ⟨by rw [if_neg (by omega)]; exact this.1, by simp; omega⟩
  · by_cases hb' : b = w.heap.size
    · subst hb'; simp
    · simp only [hb', if_false] at hb
      have := hwf.lt b id hb
      simp; omega
theorem set_xr (hwf : WF n0 w own loc ob) {id : Nat} {p : Pl} (hl : loc id = some (some p)) (O : Obj) (X : Ob)
    (h : Stp w own loc { w with heap := w.heap.setIfInBounds p.b O } own loc → XR { w with heap := w.heap.setIfInBounds p.b O } (okf own n0 w.heap.size) loc p X) :
    WF n0 { w with heap := w.heap.setIfInBounds p.b O } own loc (fun j => if j = id then some X else ob j) ∧ Stp w own loc { w with heap := w.heap.setIfInBounds p.b O } own loc := by
  have ho := (hwf.owns id p hl).1
  have hsz : (w.heap.setIfInBounds p.b O).size = w.heap.size := by simp
  have far : ∀ b, b ≠ p.b → (w.heap.setIfInBounds p.b O)[b]? = w.heap[b]? := fun b hb => by simp [Ne.symm hb]
  have hs : Stp w own loc { w with heap := w.heap.setIfInBounds p.b O } own loc := by
    refine ⟨rfl, rfl, rfl, by simp, fun b hb hb' => ⟨hb', far b ?_⟩, fun id hid => .inl rfl⟩
    rintro rfl
    rw [ho] at hb'; cases hb'
  have hst := h hs
  refine ⟨⟨fun i o hi => ?_, fun i q hq => ?_, fun b i hb => ?_⟩, hs⟩
  · by_cases hid : i = id
    · subst hid
      simp only [if_true] at hi
      injection hi with hi; subst hi
      refine ⟨p, hl, ?_⟩
      show XR _ (okf own n0 (w.heap.setIfInBounds p.b O).size) loc p _
      rw [hsz]; exact hst
    · simp only [hid, if_false] at hi
      obtain ⟨q, h1, h2⟩ := hwf.has i o hi
      refine ⟨q, h1, h2.stp hs (far q.b ?_)⟩
      intro e
      have := (hwf.owns i q h1).1
      rw [e, ho] at this
      injection this with this
      exact hid this.symm
  · have := hwf.owns i q hq
    exact ⟨this.1, by rw [show ({ w with heap := w.heap.setIfInBounds p.b O } : World).heap.size = w.heap.size from hsz]; exact this.2⟩
  · rw [show ({ w with heap := w.heap.setIfInBounds p.b O } : World).heap.size = w.heap.size from hsz]; exact hwf.lt b i hb
theorem map_at_ (hwf : WF n0 w own loc ob) {id : Nat} {X : Ob} {x : Value} (hX : ob id = some X) (hx : RV w (okf own n0 w.heap.size) loc (.mp id) x) :
    ∃ p es, loc id = some (some p) ∧ p.mp = 1 ∧ x = .map (some p.b) ∧ X.k = 0 ∧ w.heap[p.b]? = some (.map es es.size) ∧ es.size = X.l.length ∧ (∀ (i : Nat) (e : MapEntry), es[i]? = some e → e.born = i) ∧ ERs w (okf own n0 w.heap.size) loc X.l es.toList ∧
      ∀ (i : Nat) (e : MapEntry), es[i]? = some e → ∃ kv vv, X.l[i]? = some [kv, vv] ∧ RV w (okf own n0 w.heap.size) loc kv e.key ∧ RV w (okf own n0 w.heap.size) loc vv e.val := by
  obtain ⟨p, hp, hxr⟩ := hwf.has id X hX
  cases hx with
  | mp _ a hl h =>
    obtain ⟨h1, rfl⟩ := h p hp
    obtain ⟨hk, es, h2, h3, h4⟩ := hxr.m h1
    refine ⟨p, es, hp, h1, rfl, hk, h2, h3, fun i e he => (h4 i e he).1, .of (by simpa using h3) fun i e he => ?_, fun i e he => (h4 i e he).2⟩
    exact (h4 i e (by simpa using he)).2
theorem mapTy_spec {t : TypeId} {q : (Bool × List Nat) × TypeId} (h : mapTy P t = some q) : ∃ kt, P.underlying t = some (.map kt q.2) ∧ KeyT P kt q.1.1 q.1.2 := by
  unfold mapTy at h
  split at h
  · rename_i k e hu
    obtain ⟨r, hr, rfl⟩ := Option.map_eq_some_iff.1 h
    exact ⟨k, hu, keyTy_spec hr⟩
  · cases h
theorem posM_at {st : Bool} {ks : List Nat} {k : V} : ∀ {l : List (List V)} {j : Nat} {kv vv : V}, posM st ks k l = some (some j) → l[j]? = some [kv, vv] → keyEq st ks k kv = some true
  | [], j, kv, vv, h, h2 => by simp at h2
  | r :: l, j, kv, vv, h, h2 => by
    match r with
    | [] => simp [posM] at h
    | [_] => simp [posM] at h
    | _ :: _ :: _ :: _ => simp [posM] at h
    | [kv', vv'] =>
      simp only [posM] at h
      obtain ⟨b, hb, h⟩ := Option.bind_eq_some_iff.1 h
      cases b with
      | true =>
        simp only [if_true] at h
        injection h with h; injection h with h; subst h
        simp at h2
        rw [← h2.1]; exact hb
      | false =>
        simp only [Bool.false_eq_true, if_false] at h
        obtain ⟨q, hq, h⟩ := Option.map_eq_some_iff.1 h
        cases q with
        | none => simp at h
        | some j' =>
          simp at h
          subst h
          exact posM_at hq (by simpa using h2)
theorem snd_makeMap {dst : Option Tmp} {ty : TypeId} {pos : String} {after : Array Edge} {guard : Option (Nat × Bool)} (t : TypeId) (rs : Option Operand) {h op : Ok} {xs : List Operand} (hc : compOp P ⟨dst, .makeMap t rs, ty, pos, after, guard⟩ h = some (op, xs)) {ρ : Operand → Value} {vs : List V} {r : V} {us : Ups} {ob0 : OB}
    (hwf : WF n0 w own loc ob) (hn0 : n0 ≤ w.heap.size) (hnid : loc nid = none) (hsub : ∀ id o, ob0 id = some o → ob id = some o)
    (hv : RVs w (okf own n0 w.heap.size) loc vs (xs.map ρ)) (hop : opF op vs ob0 nid = some (r, us)) : Does P n0 w own loc ob nid (execOp ρ ⟨dst, .makeMap t rs, ty, pos, after, guard⟩) r us := by
  cases rs with
  | some _ => simp [compOp] at hc
  | none =>
    simp only [compOp] at hc
    injection hc with hc; injection hc with h1 h2; subst h1; subst h2
    have hv0 : vs = [] := List.length_eq_zero_iff.1 (by simpa using hv.1.symm)
    subst hv0
    simp only [opF] at hop
    injection hop with hop; injection hop with h5 h6; subst h5; subst h6
    obtain ⟨h1, h2⟩ := new_xr hwf hnid (.map #[] 0) ⟨w.heap.size, 0, 0, 0, 1⟩ rfl ⟨0, [], none⟩ fun _ => ⟨fun e => by simp at e, fun _ => ⟨rfl, #[], alloc_new _ _, rfl, fun i e he => by simp at he⟩, fun e => by simp at e, by simp⟩
    refine .of_value (s := Instr.makeMap t none) (y := .map (some w.heap.size)) ?_ ?_ (by simpa [apps] using h1) h2 fun id hne h => by simp [hne, h]
    · simp [Instr.makeMap]
    · exact .mp nid _ (by simp) fun q hq => by simp at hq; subst hq; exact ⟨rfl, rfl⟩
theorem snd_lookup {dst : Option Tmp} {ty : TypeId} {pos : String} {after : Array Edge} {guard : Option (Nat × Bool)} (t : TypeId) (x i : Operand) (two : Bool) {h op : Ok} {xs : List Operand} (hc : compOp P ⟨dst, .lookup t x i two, ty, pos, after, guard⟩ h = some (op, xs)) {ρ : Operand → Value} {vs : List V} {r : V} {us : Ups} {ob0 : OB}
    (hwf : WF n0 w own loc ob) (hn0 : n0 ≤ w.heap.size) (hnid : loc nid = none) (hsub : ∀ id o, ob0 id = some o → ob id = some o)
    (hv : RVs w (okf own n0 w.heap.size) loc vs (xs.map ρ)) (hop : opF op vs ob0 nid = some (r, us)) : Does P n0 w own loc ob nid (execOp ρ ⟨dst, .lookup t x i two, ty, pos, after, guard⟩) r us := by
  simp only [compOp] at hc
  obtain ⟨q, hq, hc⟩ := Option.bind_eq_some_iff.1 hc
  obtain ⟨z, hz, hc⟩ := Option.map_eq_some_iff.1 hc
  injection hc with h1 h2; subst h1; subst h2
  obtain ⟨kt, hu, hK⟩ := mapTy_spec hq
  obtain ⟨v, k, rfl, hx, hk⟩ := rvs2 hv
  simp only [opF] at hop
  split at hop
  case h_2 => cases hop
  rename_i id
  obtain ⟨X, hX0, hop⟩ := Option.bind_eq_some_iff.1 hop
  split at hop
  case isFalse => cases hop
  rename_i hko
  obtain ⟨pos, hpos, hop⟩ := Option.map_eq_some_iff.1 hop
  injection hop with h5 h6; subst h5; subst h6
  have hX := hsub id X hX0
  obtain ⟨p, es, hp, hp1, hxe, hXk, hh, hsz, hborn, hE, hat⟩ := map_at_ hwf hX hx
  unfold keyOk at hko
  split at hko
  case h_2 => cases hko
  rename_i c hkc
  have hcheck := keyCheck_run hK hkc (by simpa using hko) hk es.isEmpty w
  obtain ⟨fr, hf1, hf2⟩ := find_run hK hk w hE hpos
  have hzero : ∃ zv, (zeroValue q.2).run P w = .ok zv w ∧ RV w (okf own n0 w.heap.size) loc z zv := by
    unfold zeroC at hz
    obtain ⟨i, hi, hz⟩ := Option.bind_eq_some_iff.1 hz
    obtain ⟨zv, hzv, hz⟩ := Option.bind_eq_some_iff.1 hz
    split at hz
    case h_2 => cases hz
    rename_i v' hvs
    injection hz with hz; subst hz
    exact ⟨zv, zero_of hi hzv w, (toVs_rv hvs).1.2 0 _ _ rfl rfl⟩
  obtain ⟨zv, hz1, hz2⟩ := hzero
  have hval : ∃ y, RV w (okf own n0 w.heap.size) loc (valM z X.l pos) y ∧ ∀ (b : Bool), b = two → (Instr.lookup t (.map (some p.b)) (ρ i) b).run P w = .ok (if b then .tuple #[y, .bool pos.isSome] else y) w := by
    rcases hf2 with ⟨rfl, rfl⟩ | ⟨j, e, rfl, hj, rfl⟩
    · refine ⟨zv, hz2, fun b _ => ?_⟩
      cases b <;> simp [Instr.lookup, run_underlying hu, MapKept.run_getObj_map hh, hcheck, hf1, hz1]
    · have hj' : es[j]? = some e := by simpa using hj
      obtain ⟨kv, vv, h7, h8, h9⟩ := hat j e hj'
      refine ⟨e.val, by simp [valM, h7]; exact h9, fun b _ => ?_⟩
      cases b <;> simp [Instr.lookup, run_underlying hu, MapKept.run_getObj_map hh, hcheck, hf1]
  obtain ⟨y, hy1, hy2⟩ := hval
  refine .of_same hwf (s := Instr.lookup t (ρ x) (ρ i) two) (y := if two then .tuple #[y, .bool pos.isSome] else y) (by rw [hxe]; exact hy2 two rfl) ?_
  cases two with
  | false => simpa using hy1
  | true =>
    simp only [if_true]
    exact .tp _ [y, .bool pos.isSome] rfl fun i v x h1 h2 => by
      match i with
      | 0 => simp at h1 h2; subst h1; subst h2; exact hy1
      | 1 => simp at h1 h2; subst h1; subst h2; exact .c _
      | i + 2 => simp at h1
theorem snd_mapUpdate {dst : Option Tmp} {ty : TypeId} {pos : String} {after : Array Edge} {guard : Option (Nat × Bool)} (t : TypeId) (m k x : Operand) {h op : Ok} {xs : List Operand} (hc : compOp P ⟨dst, .mapUpdate t m k x, ty, pos, after, guard⟩ h = some (op, xs)) {ρ : Operand → Value} {vs : List V} {r : V} {us : Ups} {ob0 : OB}
    (hwf : WF n0 w own loc ob) (hn0 : n0 ≤ w.heap.size) (hnid : loc nid = none) (hsub : ∀ id o, ob0 id = some o → ob id = some o)
    (hv : RVs w (okf own n0 w.heap.size) loc vs (xs.map ρ)) (hop : opF op vs ob0 nid = some (r, us)) : Does P n0 w own loc ob nid (execOp ρ ⟨dst, .mapUpdate t m k x, ty, pos, after, guard⟩) r us := by
  simp only [compOp] at hc
  obtain ⟨q, hq, hc⟩ := Option.map_eq_some_iff.1 hc
  injection hc with h1 h2; subst h1; subst h2
  obtain ⟨kt, hu, hK⟩ := mapTy_spec hq
  obtain ⟨v, kv, xv, rfl, hx, hk, hy⟩ := rvs3 hv
  simp only [opF] at hop
  split at hop
  case h_2 => cases hop
  rename_i id
  obtain ⟨X, hX0, hop⟩ := Option.bind_eq_some_iff.1 hop
  split at hop
  case isFalse => cases hop
  rename_i hko
  obtain ⟨pos, hpos, hop⟩ := Option.map_eq_some_iff.1 hop
  injection hop with h5 h6; subst h5; subst h6
  have hX := hsub id X hX0
  obtain ⟨p, es, hp, hp1, hxe, hXk, hh, hsz, hborn, hE, hat⟩ := map_at_ hwf hX hx
  unfold keyOk at hko
  split at hko
  case h_2 => cases hko
  rename_i c hkc
  have hcheck := keyCheck_run hK hkc (by simpa using hko) hk false w
  obtain ⟨fr, hf1, hf2⟩ := find_run hK hk w hE hpos
  have hes : ∃ es' : Array MapEntry, (Instr.mapUpdate t (.map (some p.b)) (ρ k) (ρ x)).run P w = .ok () { w with heap := w.heap.setIfInBounds p.b (.map es' es'.size) } ∧ es'.size = (setM kv xv X.l pos).length ∧
      ∀ (i : Nat) (e : MapEntry), es'[i]? = some e → e.born = i ∧ ∃ kv' vv', (setM kv xv X.l pos)[i]? = some [kv', vv'] ∧ RV w (okf own n0 w.heap.size) loc kv' e.key ∧ RV w (okf own n0 w.heap.size) loc vv' e.val := by
    rcases hf2 with ⟨rfl, rfl⟩ | ⟨j, e, rfl, hj, rfl⟩
    · refine ⟨es.push ⟨ρ k, ρ x, es.size⟩, ?_, by simp [setM, hsz], fun i e he => ?_⟩
      · simp [Instr.mapUpdate, run_underlying hu, MapKept.run_getObj_map hh, hcheck, hf1, MapKept.run_setObj_map _ hh]
      · rw [Array.getElem?_push] at he
        split at he
        · rename_i hi
          injection he with he; subst he; subst hi
          refine ⟨rfl, kv, xv, by simp [setM, hsz], hk, hy⟩
        · rename_i hi
          obtain ⟨kv', vv', h7, h8, h9⟩ := hat i e he
          refine ⟨hborn i e he, kv', vv', ?_, h8, h9⟩
          have hil : i < X.l.length := (List.getElem?_eq_some_iff.1 h7).1
          simp only [setM]
          rw [List.getElem?_append_left hil]; exact h7
    · have hj' : es[j]? = some e := by simpa using hj
      have hjs : j < es.size := (Array.getElem?_eq_some_iff.1 hj').1
      have hstay : (Instr.keyThatStays e.key (ρ k)).run P w = .ok (ρ k) w := by
        obtain ⟨kv', vv', h7, h8, h9⟩ := hat j e hj'
        exact keyStay_run hK hk h8 (posM_at hpos h7) w
      refine ⟨es.modify j fun e => { e with key := ρ k, val := ρ x }, ?_, by simp [setM, hsz], fun i e' he => ?_⟩
      · simp [Instr.mapUpdate, run_underlying hu, MapKept.run_getObj_map hh, hcheck, hf1, hj', hstay, MapKept.run_setObj_map _ hh]
      · rw [Array.getElem?_modify] at he
        split at he
        · rename_i hi
          subst hi
          rw [hj'] at he
          simp only [Option.map_some, Option.some.injEq] at he
          subst he
          refine ⟨hborn _ e hj', kv, xv, ?_, hk, hy⟩
          simp only [setM]
          rw [List.getElem?_set, if_pos rfl, if_pos (by omega)]
        · rename_i hi
          obtain ⟨kv', vv', h7, h8, h9⟩ := hat i e' he
          refine ⟨hborn i e' he, kv', vv', ?_, h8, h9⟩
          simp only [setM]
          rw [List.getElem?_set, if_neg hi]; exact h7
  obtain ⟨es', hr1, hr2, hr3⟩ := hes
  obtain ⟨h1, h2⟩ := set_xr hwf hp (.map es' es'.size) ⟨0, setM kv xv X.l pos, none⟩ fun hs => ⟨fun e => by omega, fun _ => ⟨rfl, es', by
      have hlt : p.b < w.heap.size := (hwf.owns id p hp).2
      simp [hlt], hr2, fun i e he => by
      obtain ⟨a, kv', vv', b, c, d⟩ := hr3 i e he
      refine ⟨a, kv', vv', b, ?_, ?_⟩
      · have := c.stp hs; simpa using this
      · have := d.stp hs; simpa using this⟩, fun e => by omega, by omega⟩
  refine ⟨undef, _, own, loc, .inr ⟨?_, rfl⟩, .u _, by simpa [apps] using h1, h2, fun _ _ h => h⟩
  simp [execOp, hxe, hr1]
theorem snd_range {dst : Option Tmp} {ty : TypeId} {pos : String} {after : Array Edge} {guard : Option (Nat × Bool)} (t : TypeId) (x : Operand) {h op : Ok} {xs : List Operand} (hc : compOp P ⟨dst, .range t x, ty, pos, after, guard⟩ h = some (op, xs)) {ρ : Operand → Value} {vs : List V} {r : V} {us : Ups} {ob0 : OB}
    (hwf : WF n0 w own loc ob) (hn0 : n0 ≤ w.heap.size) (hnid : loc nid = none) (hsub : ∀ id o, ob0 id = some o → ob id = some o)
    (hv : RVs w (okf own n0 w.heap.size) loc vs (xs.map ρ)) (hop : opF op vs ob0 nid = some (r, us)) : Does P n0 w own loc ob nid (execOp ρ ⟨dst, .range t x, ty, pos, after, guard⟩) r us := by
  simp only [compOp] at hc
  obtain ⟨q, hq, hc⟩ := Option.map_eq_some_iff.1 hc
  injection hc with h1 h2; subst h1; subst h2
  obtain ⟨kt, hu, hK⟩ := mapTy_spec hq
  obtain ⟨v, rfl, hx⟩ := rvs1 hv
  simp only [opF] at hop
  split at hop
  case h_2 => cases hop
  rename_i id
  obtain ⟨X, hX0, hop⟩ := Option.bind_eq_some_iff.1 hop
  injection hop with hop; injection hop with h5 h6; subst h5; subst h6
  have hX := hsub id X hX0
  obtain ⟨p, es, hp, hp1, hxe, hXk, hh, hsz, hborn, hE, hat⟩ := map_at_ hwf hX hx
  have hidn : id ≠ nid := by rintro rfl; rw [hnid] at hp; cases hp
  obtain ⟨h1, h2⟩ := new_xr hwf hnid (.mapIter (some p.b) es.size #[] es.size) ⟨w.heap.size, 0, 0, 0, 2⟩ rfl ⟨0, [[.mp id, .c (.int .i64 (X.l.length : Int))]], none⟩ fun hs => ⟨fun e => by simp at e, fun e => by simp at e, fun _ => ⟨rfl, id, p.b, es.size, [], by simp [hsz], by rw [hxe] at hx; exact hx.stp hs, alloc_new _ _⟩, by simp⟩
  refine .of_value (s := Instr.range t (ρ x)) (y := .pointer (some ⟨w.heap.size, 0, none⟩)) ?_ ?_ (by simpa [apps] using h1) h2 fun id hne h => by simp [hne, h]
  · rw [hxe]
    simp [Instr.range, run_underlying hu, MapKept.run_getObj_map hh]
  · exact .mi nid _ (by simp) fun q hq => by simp at hq; subst hq; exact ⟨rfl, rfl⟩
theorem choose_run (n : Nat) (w : World) : ∃ k w1, (choose (.mapNext n)).run P w = .ok k w1 ∧ (0 < n → k < n) ∧ (w1 = w ∨ w1 = w.drew) := by
  by_cases h : n ≤ 1
  · exact ⟨0, w, by simp [choose, Sem.run, Question.forced, h], fun h => h, .inl rfl⟩
  · refine ⟨(w.tape w.drawn (.mapNext n)) % n, w.drew, ?_, fun h => Nat.mod_lt _ h, .inr rfl⟩
    simp [choose, Sem.run, Question.forced, h, Question.cut]
@[reducible] def itRows (id since : Nat) (seen : List Nat) : List (List V) := [.mp id, .c (.int .i64 (since : Int))] :: seen.map fun (i : Nat) => [.c (.int .i64 (i : Int))]
theorem nx_run (hwf : WF n0 w own loc ob) {it id : Nat} {rows : List (List V)} {seen : List Nat} {cap cap' : Option Nat} (hI : ob it = some ⟨0, itRows id rows.length seen, cap⟩) (hM : ob id = some ⟨0, rows, cap'⟩) {x : Value}
    (hx : RV w (okf own n0 w.heap.size) loc (.mi it) x) (ty : TypeId) :
    ((∀ i, i < rows.length → i ∈ seen) ∧ ∃ w', (Instr.next x false ty).run P w = .ok (.tuple #[.bool false]) w' ∧ WF n0 w' own loc ob ∧ Stp w own loc w' own loc) ∨
    ∃ (i : Nat) (kv vv : V) (kx vx : Value) (w' : World), i < rows.length ∧ i ∉ seen ∧ rows[i]? = some [kv, vv] ∧ (Instr.next x false ty).run P w = .ok (.tuple #[.bool true, kx, vx]) w' ∧
      RV w' (okf own n0 w'.heap.size) loc kv kx ∧ RV w' (okf own n0 w'.heap.size) loc vv vx ∧ WF n0 w' own loc (fun j => if j = it then some ⟨0, itRows id rows.length (seen ++ [i]), none⟩ else ob j) ∧ Stp w own loc w' own loc := by
  obtain ⟨q, hq, hxr⟩ := hwf.has it _ hI
  cases hx with
  | mi _ a hl h =>
  obtain ⟨hq2, rfl⟩ := h q hq
  obtain ⟨_, id', b, since, seen', e1, e2, e3⟩ := hxr.i hq2
  have e1 : itRows id rows.length seen = _ := e1
  unfold itRows at e1
  injection e1 with e4 e5
  injection e4 with e4 e6
  injection e4 with e4
  subst e4
  injection e6 with e6 _
  injection e6 with e6
  injection e6 with _ e6
  have hs : rows.length = since := by omega
  subst hs
  have hseen : seen = seen' := by
    have : ∀ {a b : List Nat}, a.map (fun (i : Nat) => [V.c (.int .i64 (i : Int))]) = b.map (fun (i : Nat) => [V.c (.int .i64 (i : Int))]) → a = b := by
      intro a
      induction a with
      | nil => intro b h; cases b <;> simp at h ⊢
      | cons x a ih =>
        intro b h
        cases b with
        | nil => simp at h
        | cons y b =>
          simp only [List.map_cons, List.cons.injEq] at h
          obtain ⟨h1, h2⟩ := h
          rw [ih h2]
          have h1 : x = y := by simp at h1; omega
          rw [h1]
    exact this e5
  subst hseen
  obtain ⟨p, es, hp, hp1, hxe, hXk, hh, hsz, hborn, hE, hat⟩ := map_at_ hwf hM e2
  injection hxe with hxe
  injection hxe with hxe
  subst hxe
  have hsz : es.size = rows.length := hsz
  rw [← hsz] at e3
  have hqb : q.b < w.heap.size := (hwf.owns it q hq).2
  let left := es.filter fun e => !seen.toArray.contains e.born
  have hleft : left = es.filter fun e => !seen.toArray.contains e.born := rfl
  have hb : ∀ e ∈ es, ∃ i, es[i]? = some e ∧ e.born = i ∧ i < es.size := fun e he => by
    obtain ⟨i, hi, h⟩ := Array.mem_iff_getElem.1 he
    have : es[i]? = some e := by rw [← h]; exact Array.getElem?_eq_getElem hi
    exact ⟨i, this, hborn i e this, hi⟩
  have hold : left.filter (fun e => decide (e.born < es.size)) = left := by
    rw [Array.filter_eq_self]
    intro e he
    obtain ⟨i, h1, h2, h3⟩ := hb e (Array.mem_filter.1 he).1
    simp; omega
  have hnew : left.filter (fun e => decide (e.born ≥ es.size)) = #[] := by
    rw [Array.filter_eq_empty_iff]
    intro e he
    obtain ⟨i, h1, h2, h3⟩ := hb e (Array.mem_filter.1 he).1
    simp; omega
  have hgone : (!seen.toArray.isEmpty && !es.isEmpty && es.all fun e => decide (e.born ≥ es.size)) = false := by
    by_cases he : es.size = 0
    · have : es = #[] := Array.eq_empty_of_size_eq_zero he
      rw [this]; simp
    · have : (es.all fun e => decide (e.born ≥ es.size)) = false := by
        rw [Array.all_eq_false]
        have h0 : 0 < es.size := by omega
        refine ⟨0, h0, ?_⟩
        have := hborn 0 es[0] (Array.getElem?_eq_getElem h0)
        rw [this]; intro h; have := of_decide_eq_true h; omega
      rw [this]; simp
  obtain ⟨k, w1, hc1, hc2, hc3⟩ := choose_run (P := P) ((if left.isEmpty then #[none] else #[]) ++ (left ++ #[]).map some : Array (Option MapEntry)).size w
  have hw1 : WF n0 w1 own loc ob ∧ Stp w own loc w1 own loc ∧ w1.heap = w.heap := by
    rcases hc3 with rfl | rfl
    · exact ⟨hwf, .refl _ _ _, rfl⟩
    · exact ⟨hwf.drew, .drew _ _ _, rfl⟩
  obtain ⟨hwf1, hs1, hheap⟩ := hw1
  have hgI : (getObj q.b).run P w = .ok (.mapIter (some p.b) es.size seen.toArray es.size) w := by simp [getObj, Sem.run, e3]
  have hgM : (getObj p.b).run P w = .ok (.map es es.size) w := MapKept.run_getObj_map hh
  by_cases hem : left = #[]
  · left
    refine ⟨fun i hi => ?_, w1, ?_, hwf1, hs1⟩
    · have h1 : es[i]? = some es[i] := Array.getElem?_eq_getElem (by omega)
      rw [hleft, Array.filter_eq_empty_iff] at hem
      have := hem es[i] (Array.getElem_mem _)
      rw [hborn i _ h1] at this
      simpa using this
    · have hk : k = 0 := by
        have : ((if left.isEmpty then #[none] else #[]) ++ (left ++ #[]).map some : Array (Option MapEntry)).size = 1 := by rw [hem]; simp
        rw [this] at hc2; have := hc2 (by omega); omega
      simp only [Instr.next, Sem.run_bind, hgI, hgM, Result.andThen_ok, hgone, Bool.false_eq_true, if_false, Sem.run_pure, ← hleft, hold, hnew, hc1, hk]
      simp [hem]
  · right
    have hne : left.isEmpty = false := by simpa using hem
    have hsize : ((if left.isEmpty then #[none] else #[]) ++ (left ++ #[]).map some : Array (Option MapEntry)).size = left.size := by rw [hne]; simp
    have hpos : 0 < left.size := by
      cases hls : left.size with
      | zero => exact (hem (Array.eq_empty_of_size_eq_zero hls)).elim
      | succ n => omega
    rw [hsize] at hc2
    have hk := hc2 hpos
    have hm := Array.mem_filter.1 (show left[k] ∈ es.filter _ from Array.getElem_mem hk)
    obtain ⟨i, h1, h2, h3⟩ := hb _ hm.1
    obtain ⟨kv, vv, h4, h5, h6⟩ := hat i _ h1
    have hns : i ∉ seen := by
      have := hm.2
      rw [h2] at this
      simpa using this
    obtain ⟨g1, g2⟩ := set_xr hwf1 hq (.mapIter (some p.b) es.size (seen.toArray.push i) es.size) ⟨0, itRows id rows.length (seen ++ [i]), none⟩ fun hs => ⟨fun e => by omega, fun e => by omega, fun _ => ⟨rfl, id, p.b, rows.length, seen ++ [i], rfl, by
        have := (e2.stp hs1).stp hs; simpa using this, by rw [hsz]; simp [hheap, hqb]⟩, by omega⟩
    refine ⟨i, kv, vv, left[k].key, left[k].val, { w1 with heap := w1.heap.setIfInBounds q.b (.mapIter (some p.b) es.size (seen.toArray.push i) es.size) }, by omega, hns, h4, ?_, (h5.stp hs1).stp g2, (h6.stp hs1).stp g2, g1, hs1.trans g2⟩
    have hcand : ((if left.isEmpty then #[none] else #[]) ++ (left ++ #[]).map some : Array (Option MapEntry))[k]? = some (some left[k]) := by
      rw [hne]; simp [hk]
    have hset : (setObj q.b (.mapIter (some p.b) es.size (seen.toArray.push left[k].born) es.size)).run P w1 = .ok () { w1 with heap := w1.heap.setIfInBounds q.b (.mapIter (some p.b) es.size (seen.toArray.push i) es.size) } := by
      simp [setObj, Sem.run, hheap, e3, h2]
    simp only [Instr.next, Sem.run_bind, hgI, hgM, Result.andThen_ok, hgone, Bool.false_eq_true, if_false, Sem.run_pure, ← hleft, hold, hnew, hc1, hcand, hset]
theorem find_born (i : Nat) : ∀ (l : List MapEntry) (k : Nat), (∀ (j : Nat) (e : MapEntry), l[j]? = some e → e.born = k + j) → k ≤ i → l.find? (fun e => e.born == i) = l[i - k]?
  | [], k, _, _ => by simp
  | e :: l, k, h, hk => by
    have h0 := h 0 e rfl
    by_cases hi : k = i
    · subst hi
      rw [List.find?_cons, h0]; simp
    · rw [List.find?_cons]
      have : (e.born == i) = false := by rw [h0]; simp; omega
      rw [this]
      simp only
      rw [find_born i l (k + 1) (fun j e' he => by have := h (j + 1) e' (by simpa using he); omega) (by omega)]
      have : i - k = (i - (k + 1)) + 1 := by omega
      rw [this]; rfl
theorem snd_entry {dst : Option Tmp} {ty : TypeId} {pos : String} {after : Array Edge} {guard : Option (Nat × Bool)} (x : Operand) {h op : Ok} {xs : List Operand} (hc : compOp P ⟨dst, .entry x, ty, pos, after, guard⟩ h = some (op, xs)) {ρ : Operand → Value} {vs : List V} {r : V} {us : Ups} {ob0 : OB}
    (hwf : WF n0 w own loc ob) (hn0 : n0 ≤ w.heap.size) (hnid : loc nid = none) (hsub : ∀ id o, ob0 id = some o → ob id = some o)
    (hv : RVs w (okf own n0 w.heap.size) loc vs (xs.map ρ)) (hop : opF op vs ob0 nid = some (r, us)) : Does P n0 w own loc ob nid (execOp ρ ⟨dst, .entry x, ty, pos, after, guard⟩) r us := by
  simp only [compOp] at hc
  injection hc with hc; injection hc with h1 h2; subst h1; subst h2
  obtain ⟨v, rfl, hx⟩ := rvs1 hv
  simp only [opF] at hop
  split at hop
  case h_2 => cases hop
  rename_i it
  obtain ⟨O, hO0, hop⟩ := Option.bind_eq_some_iff.1 hop
  obtain ⟨rv, hent, hop⟩ := Option.map_eq_some_iff.1 hop
  injection hop with h5 h6; subst h5; subst h6
  have hO := hsub it O hO0
  obtain ⟨q, hq, hxr⟩ := hwf.has it _ hO
  obtain ⟨pa, hpa⟩ : ∃ y, y = ρ x := ⟨_, rfl⟩
  rw [← hpa] at hx
  cases hx with
  | mi _ a hl h =>
  obtain ⟨hq2, rfl⟩ := h q hq
  obtain ⟨_, id, b, since, seen, e1, e2, e3⟩ := hxr.i hq2
  rw [e1] at hent
  simp only [entV] at hent
  obtain ⟨M, hM0, hent⟩ := Option.bind_eq_some_iff.1 hent
  split at hent
  case isFalse => cases hent
  rename_i hlen
  obtain ⟨lr, hlr, hent⟩ := Option.bind_eq_some_iff.1 hent
  have hM := hsub id M hM0
  obtain ⟨p, es, hp, hp1, hxe, hXk, hh, hsz, hborn, hE, hat⟩ := map_at_ hwf hM e2
  injection hxe with hxe
  injection hxe with hxe
  subst hxe
  have hsi : since = es.size := by omega
  subst hsi
  rw [List.getLast?_map] at hlr
  obtain ⟨i, hi, rfl⟩ := Option.map_eq_some_iff.1 hlr
  simp only [Int.toNat_natCast] at hent
  obtain ⟨row, hrow, hent⟩ := Option.bind_eq_some_iff.1 hent
  have hil : i < es.size := by rw [hsz]; exact (List.getElem?_eq_some_iff.1 hrow).1
  obtain ⟨kv, vv, g1, g2, g3⟩ := hat i es[i] (Array.getElem?_eq_getElem hil)
  rw [hrow] at g1
  injection g1 with g1; subst g1
  simp only [Option.some.injEq] at hent
  subst hent
  have hgI : (getObj q.b).run P w = .ok (.mapIter (some p.b) es.size seen.toArray es.size) w := by simp [getObj, Sem.run, e3]
  have hgM : (getObj p.b).run P w = .ok (.map es es.size) w := MapKept.run_getObj_map hh
  have hback : seen.toArray.back? = some i := by rw [List.back?_toArray]; exact hi
  have hfind : es.find? (fun e => e.born == i) = some es[i] := by
    rw [← Array.find?_toList, find_born i es.toList 0 (fun j e he => by have := hborn j e (by simpa using he); omega) (Nat.zero_le _)]
    simp [hil]
  refine .of_same hwf (s := Instr.entry (ρ x)) (y := .tuple #[es[i].key, es[i].val]) ?_ (.tp _ [es[i].key, es[i].val] rfl fun j v y h1 h2 => by
    match j with
    | 0 => simp at h1 h2; subst h1; subst h2; exact g2
    | 1 => simp at h1 h2; subst h1; subst h2; exact g3
    | j + 2 => simp at h1)
  rw [← hpa]
  simp [Instr.entry, hgI, hgM, hback, hfind]
end
end Go.Proofs.YtbojpedklnmidaaGreat.D
end
