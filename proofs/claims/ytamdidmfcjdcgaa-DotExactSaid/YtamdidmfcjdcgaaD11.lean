/- What the machine's operations are, over plain values. No condition. -/
import Derived.Test.YtamdidmfcjdcgaaD10
set_option linter.unusedVariables false
set_option linter.unusedSectionVars false
set_option linter.unusedSimpArgs false
set_option linter.constructorNameAsVariable false
namespace Go.Proofs.Ytamdidmfcjdcgaa.D
open Go Go.RowKit

def fieldsOf (P : Program) (t : TypeId) : Option (Array Field) :=
  match P.underlying t with
  | some (.struct fs) => some fs
  | _ => none

/-- The literal nil, of a kind. -/
def nilConst : Nat → Operand → Bool
  | 0, .const (.slice none 0 0) | 1, .const (.pointer none) | 2, .const .nilFunc | 3, .const (.map none) => true
  | _, _ => false

/-- Which kind of type compares with nil. -/
def nilTy (P : Program) (t : TypeId) : Option Nat :=
  match P.underlying t with
  | some (.slice _) => some 0
  | some (.pointer _) => some 1
  | some (.func _ _ _) => some 2
  | some (.map _ _) => some 3
  | _ => none

def negOp : BinOp → Option Bool
  | .eql => some false
  | .neq => some true
  | _ => none

def scalTy (P : Program) (t : TypeId) : Bool :=
  match P.underlying t with
  | some (.int _) | some .string => true
  | _ => false

def boolTy (P : Program) (t : TypeId) : Bool :=
  match P.underlying t with
  | some .bool => true
  | _ => false

def lenTy (P : Program) (t : TypeId) : Option Ok :=
  match P.underlying t with
  | some (.slice _) => some .len
  | some .string => some .slen
  | _ => none

/-- The places of a literal's parts. -/
def partPl (P : Program) (fs : Array Field) (i : Nat) : Option (Nat × Nat) := (fs[i]?).bind fun f => (P.info? f.type).map fun x => (f.offset, x.size)

def allInfo (P : Program) (fs : Array Field) : Bool := fs.toList.all fun f => (P.info? f.type).isSome

def optAll {α : Type} : List (Option α) → Option (List α)
  | [] => some []
  | some x :: l => (optAll l).map (x :: ·)
  | none :: _ => none

/-- An operation; h says how what is made is taken. -/
def compOp (P : Program) (o : Oper) (h : Ok) : Option (Ok × List Operand) :=
  match o.op with
  | .move x | .assign x => some (.mv, [x])
  | .pick c a b => some (.pick, [c, a, b])
  | .binOp op t x y _ =>
    if scalTy P t then some (.bin op, [x, y])
    else if boolTy P t then some (.bb op, [x, y])
    else (nilTy P t).bind fun kd => if nilConst kd y then (negOp op).map fun neg => (.nilq kd neg, [x]) else none
  | .unOp op _ x => some (.un op, [x])
  | .convert s d x => match P.underlying s, P.underlying d with
    | some _, some (.int k) => some (.conv k, [x])
    | _, _ => none
  | .box t x => (tySz P t).map fun n => (.box n, [x])
  | .alloc t => (zeroOf P t).bind fun z => if okRow z.length z then some (.alloc z, []) else none
  | .build t parts => (fieldsOf P t).bind fun fs => if allInfo P fs then (zeroOf P t).bind fun z => (optAll (parts.toList.map fun p => partPl P fs p.1)).map fun ps => (.bld z ps, parts.toList.map (·.2)) else none
  | .buildSlice t len parts => (hintFz h).bind fun fz => (elZ P t).bind fun kz => if len * kz.1 ≤ maxLit then some (.bsl kz.1 kz.2 (parts.toList.map (·.1)) len fz, parts.toList.map (·.2)) else none
  | .load t a => (tySz P t).map fun n => (.ld n, [a])
  | .store t a v => (tySz P t).map fun n => (.st (n.getD 1), [a, v])
  | .fieldAddr s x f => (fieldsOf P s).bind fun fs => (fs[f]?).bind fun f => (P.info? f.type).bind fun i => if i.size = 0 then none else some (.fa f.offset, [x])
  | .field t x f => (fieldsOf P t).bind fun fs => (fs[f]?).bind fun f => (tySz P f.type).map fun n => (.fld f.offset n, [x])
  | .indexAddr t x i => match P.underlying t with
    | some (.slice _) => (elSz P t).map fun k => (.ia k, [x, i])
    | some (.array len e) => (P.info? e).map fun j => (.iar len j.size, [x, i])
    | _ => none
  | .makeSlice t l c => (hintFz h).bind fun fz => (elZ P t).map fun kz => (.mks kz.1 kz.2 fz, [l, c])
  | .slice t x lo hi none => (elSz P t).map fun k => (.slc k lo.isSome hi.isSome, x :: (lo.toList ++ hi.toList))
  | .slice t x (some lo) (some hi) (some mx) => (elSz P t).map fun k => (.slc3, [x, lo, hi, mx])
  | .extract x i => some (.ext i, [x])
  | .makeFunc (.func f) first caps => if first.size = 0 then some (.mkf f, caps.toList) else none
  | .call { callee := .builtin b, args, argTypes } =>
    (match b with
    | .len => (argTypes[0]?).bind fun t => if args.size = 1 then (lenTy P t).map fun op => (op, args.toList) else none
    | .append => if args.size = 2 then (appTy P argTypes).map fun k => (.app k, args.toList) else none
    | .copy => if args.size = 2 then ((argTypes[0]?).bind (elSz P)).map fun k => (.cpy k, args.toList) else none
    | .clear => if args.size = 1 then (argTypes[0]?).bind fun t => (elSz P t).bind fun k => ((sliceEl P t).bind (zeroOf P)).bind fun z => if okRow k z then some (.clr k z, args.toList) else none else none
    | .max => if args.size = 2 then some (.mx, args.toList) else none
    | .min => if args.size = 2 then some (.mn, args.toList) else none
    | _ => none)
  | _ => none

section
variable {P : Program} {n0 : Nat} {w : World} {own : Nat → Option Nat} {loc : Loc} {ob : OB} {nid : Nat} {ok : Fl → Nat → Prop} [Bk]

theorem rvs1 {vs : List V} {x : Value} (h : RVs w ok loc vs [x]) : ∃ v, vs = [v] ∧ RV w ok loc v x := by
  obtain ⟨h1, h2⟩ := h
  match vs, h1 with
  | [v], _ => exact ⟨v, rfl, h2 0 v x rfl rfl⟩
theorem rvs2 {vs : List V} {x y : Value} (h : RVs w ok loc vs [x, y]) : ∃ v v2, vs = [v, v2] ∧ RV w ok loc v x ∧ RV w ok loc v2 y := by
  obtain ⟨h1, h2⟩ := h
  match vs, h1 with
  | [v, v2], _ => exact ⟨v, v2, rfl, h2 0 v x rfl rfl, h2 1 v2 y rfl rfl⟩
theorem rvs3 {vs : List V} {x y x3 : Value} (h : RVs w ok loc vs [x, y, x3]) : ∃ v v2 v3, vs = [v, v2, v3] ∧ RV w ok loc v x ∧ RV w ok loc v2 y ∧ RV w ok loc v3 x3 := by
  obtain ⟨h1, h2⟩ := h
  match vs, h1 with
  | [v, v2, v3], _ => exact ⟨v, v2, v3, rfl, h2 0 v x rfl rfl, h2 1 v2 y rfl rfl, h2 2 v3 x3 rfl rfl⟩
theorem rvs4 {vs : List V} {x y x3 q : Value} (h : RVs w ok loc vs [x, y, x3, q]) : ∃ v v2 v3 v4, vs = [v, v2, v3, v4] ∧ RV w ok loc v x ∧ RV w ok loc v2 y ∧ RV w ok loc v3 x3 ∧ RV w ok loc v4 q := by
  obtain ⟨h1, h2⟩ := h
  match vs, h1 with
  | [v, v2, v3, v4], _ => exact ⟨v, v2, v3, v4, rfl, h2 0 v x rfl rfl, h2 1 v2 y rfl rfl, h2 2 v3 x3 rfl rfl, h2 3 v4 q rfl rfl⟩

theorem intsOp_run {op : BinOp} {k : IntKind} {a b : Int} {r : Value} (h : intsOp op k a b = some r) (t : TypeId) (hsh : op ≠ .shl ∧ op ≠ .shr) : (binOp op t (.int k a) (.int k b)).run P w = .ok r w := by
  cases op <;> simp only [intsOp] at h
  case quo =>
    split at h
    · cases h
    · rename_i h0; injection h with h; subst h; simp [binOp, Op.intDiv, h0]
  case rem =>
    split at h
    · cases h
    · rename_i h0; injection h with h; subst h; simp [binOp, Op.intDiv, h0]
  all_goals first | (cases h; done) | (injection h with h; subst h; simp [binOp, Op.intArith, Op.intCmp]; done) | skip
  all_goals (injection h with h; subst h; simp [binOp, Op.intCmp, bne, BEq.beq])

theorem strsOp_run {op : BinOp} {a b : ByteArray} {r : Value} (h : strsOp op a b = some r) (t : TypeId) : (binOp op t (.string a) (.string b)).run P w = .ok r w := by
  have e : (a.toList == b.toList) = decide (a.toList = b.toList) := by rw [Bool.eq_iff_iff]; simp
  cases op <;> simp only [strsOp] at h
  all_goals first | (cases h; done) | (injection h with h; subst h; simp [binOp, Op.stringOp, e]; done)

theorem bin_run {op : BinOp} {a b r : Value} (h : binS op a b = some r) (t : TypeId) (ht : scalTy P t = true) (x y : Operand) :
    (do eqGuard op t x y a b; binOp op t a b : Sem Value).run P w = .ok r w := by
  unfold binS at h
  split at h
  · rename_i k m k' n
    split at h
    case isFalse => cases h
    rename_i hk
    subst hk
    have hsh : op ≠ .shl ∧ op ≠ .shr := by constructor <;> rintro rfl <;> simp [intsOp] at h
    have := intsOp_run (P := P) (w := w) h t hsh
    simp [eqGuard, this]
  · rename_i m n
    have := strsOp_run (P := P) (w := w) h t
    simp [eqGuard, this]
  · cases h

theorem bb_run {op : BinOp} {a b r : Bool} (h : boolOp op a b = some r) (t : TypeId) (ht : boolTy P t = true) (x y : Operand) :
    (do eqGuard op t x y (.bool a) (.bool b); binOp op t (.bool a) (.bool b) : Sem Value).run P w = .ok (.bool r) w := by
  have hu : P.underlying t = some .bool := by
    unfold boolTy at ht
    split at ht
    · assumption
    · cases ht
  cases op <;> simp only [boolOp] at h
  all_goals first | (cases h; done) | skip
  · injection h with h; subst h; simp [eqGuard, run_eql_bool w t a b hu]
  · injection h with h; subst h; simp [eqGuard, run_neq_bool w t a b hu]

end
end Go.Proofs.Ytamdidmfcjdcgaa.D
