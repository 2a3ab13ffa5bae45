/- A plain model of Go's values and memory, and how it stands to the machine's. No condition. -/
import Derived.Below
import Derived.Orders
import Derived.WalkKit
import Derived.KernelRfl
set_option linter.unusedVariables false
set_option linter.unusedSectionVars false
set_option linter.unusedSimpArgs false
set_option linter.constructorNameAsVariable false
namespace Go.Proofs.Ytamdidmfcjdcgaa.D
open Go Go.RowKit

/-- What a slice's memory is: b: given, or made here, never written again; o: made here, nobody else's; n: only read, not handed back. -/
inductive Fl where
  | b | o | n
  deriving DecidableEq

/-- Plain values. c: one cell that holds no reference; u: nothing is known; q: a truth value that is not known; z: a slice without room; im: a slice that is only read (its elements, each a row of cells);
sl: a slice over an object of the store; pt: a place in an object; bp: a place that is only read; fn: a function value; ag: cells side by side; tp: several results. -/
inductive V where
  | c (v : Value)
  | u
  | q
  | z
  | im (f : Fl) (l : List (List V))
  | sl (id off len : Nat)
  | pt (id i o : Nat)
  | bp (l : List V)
  | fn (f : Nat) (caps : List V)
  | ag (l : List V)
  | tp (l : List V)
instance : Inhabited V := ⟨.u⟩

/-- An object: rows of k cells; its capacity, where it is known. -/
structure Ob where
  k : Nat
  l : List (List V)
  cap : Option Nat

/-- The place of an object in the machine's memory. -/
structure Pl where
  b : Nat
  base : Nat
  k : Nat
  cap : Nat

abbrev Loc := Nat → Option (Option Pl)

def el (l : List (List V)) (i j : Nat) : Option V := (l[i]?).bind (·[j]?)

/-- How a plain value stands to the machine's. -/
inductive RV (w : World) (ok : Fl → Nat → Prop) (loc : Loc) : V → Value → Prop
  | c (v : Value) : RV w ok loc (.c v) v
  | u (x : Value) : RV w ok loc .u x
  | q (b : Bool) : RV w ok loc .q (.bool b)
  | z (a : Option Addr) : RV w ok loc .z (.slice a 0 0)
  | e (f : Fl) (a : Option Addr) (cap : Nat) (h : f = .o → cap = 0) : RV w ok loc (.im f []) (.slice a 0 cap)
  | im (f : Fl) (l : List (List V)) (k b off n cap : Nat) (ys : Nat → Nat → Value) (hn : n = l.length) (hk : ∀ ch ∈ l, ch.length = k) (hc : n ≤ cap) (ho : ok f b)
      (h0 : ∀ i j v, el l i j = some v → w.cell? ⟨b, off + i * k + j, none⟩ = some (ys i j))
      (h : ∀ i j v, el l i j = some v → RV w ok loc v (ys i j)) : RV w ok loc (.im f l) (.slice (some ⟨b, off, none⟩) n cap)
  | sl (id off len : Nat) (a : Option Addr) (c : Nat) (hl : loc id ≠ none)
      (h : ∀ p, loc id = some (some p) → off + len ≤ p.cap ∧ a = some ⟨p.b, p.base + off * p.k, none⟩ ∧ c = p.cap - off) : RV w ok loc (.sl id off len) (.slice a len c)
  | pt (id i o : Nat) (a : Option Addr) (hl : loc id ≠ none) (h : ∀ p, loc id = some (some p) → a = some ⟨p.b, p.base + i * p.k + o, none⟩) : RV w ok loc (.pt id i o) (.pointer a)
  | bp (l : List V) (b off : Nat) (ys : Nat → Value) (ho : ok .n b) (h0 : ∀ (j : Nat) (v : V), l[j]? = some v → w.cell? ⟨b, off + j, none⟩ = some (ys j))
      (h : ∀ (j : Nat) (v : V), l[j]? = some v → RV w ok loc v (ys j)) : RV w ok loc (.bp l) (.pointer (some ⟨b, off, none⟩))
  | fn (f : Nat) (caps : List V) (xs : List Value) (hn : xs.length = caps.length) (h : ∀ (i : Nat) (v : V) (x : Value), caps[i]? = some v → xs[i]? = some x → RV w ok loc v x) :
      RV w ok loc (.fn f caps) (.func (.func f) #[] xs.toArray)
  | ag (l : List V) (xs : List Value) (hn : xs.length = l.length) (h : ∀ (i : Nat) (v : V) (x : Value), l[i]? = some v → xs[i]? = some x → RV w ok loc v x) : RV w ok loc (.ag l) (.agg xs.toArray)
  | tp (l : List V) (xs : List Value) (hn : xs.length = l.length) (h : ∀ (i : Nat) (v : V) (x : Value), l[i]? = some v → xs[i]? = some x → RV w ok loc v x) : RV w ok loc (.tp l) (.tuple xs.toArray)

/-- Side by side. -/
def RVs (w : World) (ok : Fl → Nat → Prop) (loc : Loc) (l : List V) (xs : List Value) : Prop :=
  xs.length = l.length ∧ ∀ (i : Nat) (v : V) (x : Value), l[i]? = some v → xs[i]? = some x → RV w ok loc v x

theorem RV.mono {w w' : World} {ok ok' : Fl → Nat → Prop} {loc loc' : Loc} {v : V} {x : Value}
    (hw : ∀ f b off y, ok f b → w.cell? ⟨b, off, none⟩ = some y → w'.cell? ⟨b, off, none⟩ = some y) (hok : ∀ f b, ok f b → ok' f b)
    (hloc : ∀ id, loc id ≠ none → loc' id = loc id ∨ loc' id = some none) (h : RV w ok loc v x) : RV w' ok' loc' v x := by
  induction h with
  | c v => exact .c v
  | u x => exact .u x
  | q b => exact .q b
  | z a => exact .z a
  | e f a cap h => exact .e f a cap h
  | im f l k b off n cap ys hn hk hc ho h0 h ih => exact .im f l k b off n cap ys hn hk hc (hok _ _ ho) (fun i j v hv => hw _ _ _ _ ho (h0 i j v hv)) ih
  | sl id off len a c hl h =>
    rcases hloc id hl with h' | h'
    · exact .sl id off len a c (h' ▸ hl) (fun p hp => h p (h' ▸ hp))
    · exact .sl id off len a c (by rw [h']; simp) (fun p hp => by rw [h'] at hp; cases hp)
  | pt id i o a hl h =>
    rcases hloc id hl with h' | h'
    · exact .pt id i o a (h' ▸ hl) (fun p hp => h p (h' ▸ hp))
    · exact .pt id i o a (by rw [h']; simp) (fun p hp => by rw [h'] at hp; cases hp)
  | bp l b off ys ho h0 h ih => exact .bp l b off ys (hok _ _ ho) (fun j v hv => hw _ _ _ _ ho (h0 j v hv)) ih
  | fn f caps xs hn h ih => exact .fn f caps xs hn ih
  | ag l xs hn h ih => exact .ag l xs hn ih
  | tp l xs hn h ih => exact .tp l xs hn ih

/-- The store: the next number, and the objects. -/
structure St where
  next : Nat
  ob : Nat → Option Ob

/-- An object as it lies in memory. -/
structure OR (w : World) (ok : Fl → Nat → Prop) (loc : Loc) (p : Pl) (o : Ob) : Prop where
  mem : ∃ cs el, w.heap[p.b]? = some (.cells cs el (0, 0)) ∧ p.base + p.cap * p.k ≤ cs.size
  k : o.k = p.k
  len : o.l.length ≤ p.cap
  rows : ∀ ch ∈ o.l, ch.length = p.k
  cells : ∀ i j v, el o.l i j = some v → ∃ x, w.cell? ⟨p.b, p.base + i * p.k + j, none⟩ = some x ∧ RV w ok loc v x
  cap : ∀ c, o.cap = some c → c = p.cap

/-- What of memory may be looked at: what no object has. -/
class Bk where
  B : Nat → Prop
def okf [Bk] (own : Nat → Option Nat) (n0 n : Nat) (f : Fl) (b : Nat) : Prop := own b = none ∧ b < n ∧ (f = .n ∨ (f = .b ∧ Bk.B b) ∨ n0 ≤ b)
variable [Bk]

/-- The store as it lies in memory. -/
structure WF (n0 : Nat) (w : World) (own : Nat → Option Nat) (loc : Loc) (ob : Nat → Option Ob) : Prop where
  has : ∀ id o, ob id = some o → ∃ p, loc id = some (some p) ∧ OR w (okf own n0 w.heap.size) loc p o
  owns : ∀ id p, loc id = some (some p) → own p.b = some id ∧ p.b < w.heap.size
  lt : ∀ b id, own b = some id → b < w.heap.size

/-- One step on: what no object has stays as it is. -/
structure Stp (w : World) (own : Nat → Option Nat) (loc : Loc) (w' : World) (own' : Nat → Option Nat) (loc' : Loc) : Prop where
  os : w'.os = w.os
  tape : w'.tape = w.tape
  output : w'.output = w.output
  size : w.heap.size ≤ w'.heap.size
  block : ∀ b, b < w.heap.size → own b = none → own' b = none ∧ w'.heap[b]? = w.heap[b]?
  loc : ∀ id, loc id ≠ none → loc' id = loc id ∨ loc' id = some none

theorem Stp.refl (w : World) (own : Nat → Option Nat) (loc : Loc) : Stp w own loc w own loc :=
  ⟨rfl, rfl, rfl, Nat.le_refl _, fun _ _ h => ⟨h, rfl⟩, fun _ _ => .inl rfl⟩

theorem Stp.trans {w w' w'' : World} {own own' own'' : Nat → Option Nat} {loc loc' loc'' : Loc} (h : Stp w own loc w' own' loc') (k : Stp w' own' loc' w'' own'' loc'') :
    Stp w own loc w'' own'' loc'' where
  os := k.os.trans h.os
  tape := k.tape.trans h.tape
  output := k.output.trans h.output
  size := Nat.le_trans h.size k.size
  block := fun b hb ho => by
    obtain ⟨h1, h2⟩ := h.block b hb ho
    obtain ⟨h3, h4⟩ := k.block b (Nat.lt_of_lt_of_le hb h.size) h1
    exact ⟨h3, h4.trans h2⟩
  loc := fun id hid => by
    rcases h.loc id hid with h1 | h1
    · rcases k.loc id (by rw [h1]; exact hid) with h2 | h2
      · exact .inl (h2.trans h1)
      · exact .inr h2
    · rcases k.loc id (by rw [h1]; simp) with h2 | h2
      · exact .inr (h2.trans h1)
      · exact .inr h2

theorem cell_of_heap {w w' : World} {b off : Nat} {s : Option Nat} (h : w'.heap[b]? = w.heap[b]?) : w'.cell? ⟨b, off, s⟩ = w.cell? ⟨b, off, s⟩ := by
  simp [World.cell?, h]

theorem RV.stp {n0 : Nat} {w w' : World} {own own' : Nat → Option Nat} {loc loc' : Loc} {v : V} {x : Value} (hs : Stp w own loc w' own' loc')
    (h : RV w (okf own n0 w.heap.size) loc v x) : RV w' (okf own' n0 w'.heap.size) loc' v x :=
  h.mono (fun f b off y ho hy => by rw [cell_of_heap (hs.block b ho.2.1 ho.1).2]; exact hy)
    (fun f b ho => ⟨(hs.block b ho.2.1 ho.1).1, Nat.lt_of_lt_of_le ho.2.1 hs.size, ho.2.2⟩) hs.loc

theorem RVs.stp {n0 : Nat} {w w' : World} {own own' : Nat → Option Nat} {loc loc' : Loc} {v : List V} {x : List Value} (hs : Stp w own loc w' own' loc')
    (h : RVs w (okf own n0 w.heap.size) loc v x) : RVs w' (okf own' n0 w'.heap.size) loc' v x :=
  ⟨h.1, fun i a b ha hb => (h.2 i a b ha hb).stp hs⟩

/-- An object whose block stays as it is, over a step. -/
theorem OR.stp {n0 : Nat} {w w' : World} {own own' : Nat → Option Nat} {loc loc' : Loc} {p : Pl} {o : Ob} (hs : Stp w own loc w' own' loc')
    (hb : w'.heap[p.b]? = w.heap[p.b]?) (h : OR w (okf own n0 w.heap.size) loc p o) : OR w' (okf own' n0 w'.heap.size) loc' p o where
  mem := by rw [hb]; exact h.mem
  k := h.k
  len := h.len
  rows := h.rows
  cells := fun i j v hv => by
    obtain ⟨x, h1, h2⟩ := h.cells i j v hv
    exact ⟨x, by rw [cell_of_heap hb]; exact h1, h2.stp hs⟩
  cap := h.cap

end Go.Proofs.Ytamdidmfcjdcgaa.D
