/- Regions over plain values, in whatever order. No condition. -/
import Derived.Test.YtamdidmfcjdcgaaD17
set_option linter.unusedVariables false
set_option linter.unusedSectionVars false
set_option linter.unusedSimpArgs false
set_option linter.constructorNameAsVariable false
namespace Go.Proofs.Ytamdidmfcjdcgaa.D
open Go Go.RowKit

/-- An operation that does not look at the store. -/
def noRead : Ok → Bool
  | .mv | .pick | .bin _ | .bb _ | .eqs _ | .un _ | .conv _ | .box _ | .alloc _ | .bld _ _ | .bsl _ _ _ _ _ | .fld _ _ | .mks _ _ _ | .len | .slen | .mx | .mn | .ext _ | .mkf _ => true
  | _ => false

theorem opF_noRead {op : Ok} (h : noRead op = true) (vs : List V) (ob ob' : OB) (nid : Nat) : opF op vs ob nid = opF op vs ob' nid := by
  cases op <;> first | (simp [noRead] at h; done) | (rcases vs with _ | ⟨a, _ | ⟨b, _ | ⟨c, _ | ⟨d, l⟩⟩⟩⟩ <;> rfl)

/-- What looks at a temporary. -/
def looks (o : RO) : List Nat := (o.xs.filterMap fun | .t n => some n | .k _ => none) ++ (match o.g with | some (t, _) => [t] | none => [])

def binding (e : Edge) : Bool := Region.binds .any e

/-- What comes ahead of an operation, as bits. -/
def maskOf (acc : List Nat) (o : Oper) : Nat := o.after.toList.foldr (fun e s => if binding e then s ||| 2 ^ e.on ||| acc.getD e.on 0 else s) 0

def ancL : List Oper → List Nat → List Nat
  | [], acc => acc
  | o :: l, acc => ancL l (acc ++ [maskOf acc o])

def cmp (an : List Nat) (i j : Nat) : Bool := if i < j then (an.getD j 0).testBit i else (an.getD i 0).testBit j

/-- May a region be gone through in any order? -/
def drawOK (ops : Array Oper) (m : List RO) : Bool :=
  let an := ancL ops.toList []
  let n := m.length
  (ops.size == n) &&
  (List.range n).all fun j => match m[j]?, ops[j]? with
    | some oj, some o =>
      (o.after.toList.all fun e => !binding e || e.on < j) &&
      (List.range n).all fun i => i == j || match m[i]? with
        | some oi =>
          (match oi.d with
          | some t => (oj.d != some t) && (!(looks oj).contains t || cmp an i j)
          | none => true) &&
          (!isLoud oi.op || noRead oj.op || cmp an i j)
        | none => false
    | _, _ => false

/-- A region in whatever order: what is made is not looked at in it. -/
def wpD (P : Program) : List RO → Nat → Env → OB → Ups → (Env → OB → Prop) → Prop
  | [], _, env, ob, dl, K => K env (apps ob dl)
  | o :: l, nid, env, ob, dl, K => gd o.g env
      (∃ r us, OpR P o.op (o.xs.map (ev env)) ob nid r us ∧ wpD P l (nid + 1) (put env o.d r) (if isLoud o.op then apps ob us else ob) (if isLoud o.op then dl else dl ++ us) K)
      (wpD P l (nid + 1) (put env o.d (.c undef)) ob dl K)

/-- One way through a region. -/
structure Rec where
  ex : Bool
  r : V
  us : Ups

def Rec.val (t : Rec) : V := if t.ex then t.r else .c undef

/-- The ways in order: the temporaries, and the store, ahead of each. -/
def cenv (m : List RO) (tr : Nat → Rec) (env : Env) : Nat → Env
  | 0 => env
  | j + 1 => match m[j]? with
    | some o => put (cenv m tr env j) o.d (tr j).val
    | none => cenv m tr env j

def cob (m : List RO) (tr : Nat → Rec) (ob : OB) : Nat → OB
  | 0 => ob
  | j + 1 => match m[j]? with
    | some o => cond ((tr j).ex && isLoud o.op) (apps (cob m tr ob j) (tr j).us) (cob m tr ob j)
    | none => cob m tr ob j

/-- What is made on the way. -/
def qUps (m : List RO) (tr : Nat → Rec) : Nat → Ups
  | 0 => []
  | j + 1 => match m[j]? with
    | some o => cond ((tr j).ex && !isLoud o.op) (qUps m tr j ++ (tr j).us) (qUps m tr j)
    | none => qUps m tr j

/-- A way that is right at each place. -/
def TrOk (P : Program) (m : List RO) (base : Nat) (env : Env) (ob : OB) (tr : Nat → Rec) : Prop :=
  ∀ j o, m[j]? = some o → gd o.g (cenv m tr env j) ((tr j).ex = true ∧ OpR P o.op (o.xs.map (ev (cenv m tr env j))) (cob m tr ob j) (base + j) (tr j).r (tr j).us) ((tr j).ex = false)

theorem gd_imp {g : Option (Nat × Bool)} {env : Env} {A B A' B' : Prop} (ha : A → A') (hb : B → B') (h : gd g env A B) : gd g env A' B' := by
  unfold gd at *
  split
  · exact ha h
  · obtain ⟨b, h1, h2, h3⟩ := h
    exact ⟨b, h1, fun e => ha (h2 e), fun e => hb (h3 e)⟩

def shiftT (r0 : Rec) (tr : Nat → Rec) : Nat → Rec
  | 0 => r0
  | i + 1 => tr i

theorem cenv_shift (o : RO) (l : List RO) (r0 : Rec) (tr : Nat → Rec) (env : Env) : ∀ j, cenv (o :: l) (shiftT r0 tr) env (j + 1) = cenv l tr (put env o.d r0.val) j
  | 0 => by simp [cenv, shiftT]
  | j + 1 => by
    rw [cenv, cenv_shift o l r0 tr env j]
    simp only [cenv, List.getElem?_cons_succ]
    cases l[j]? <;> rfl

theorem cob_shift (o : RO) (l : List RO) (r0 : Rec) (tr : Nat → Rec) (ob : OB) : ∀ j, cob (o :: l) (shiftT r0 tr) ob (j + 1) = cob l tr (cond (r0.ex && isLoud o.op) (apps ob r0.us) ob) j
  | 0 => rfl
  | j + 1 => by
    rw [cob, cob_shift o l r0 tr ob j]
    simp only [cob, List.getElem?_cons_succ]
    cases l[j]? <;> rfl

theorem qUps_shift (o : RO) (l : List RO) (r0 : Rec) (tr : Nat → Rec) : ∀ j, qUps (o :: l) (shiftT r0 tr) (j + 1) = (cond (r0.ex && !isLoud o.op) r0.us []) ++ qUps l tr j
  | 0 => by
    show cond (r0.ex && !isLoud o.op) ([] ++ r0.us) [] = _
    cases (r0.ex && !isLoud o.op) <;> simp [qUps]
  | j + 1 => by
    rw [qUps, qUps_shift o l r0 tr j]
    simp only [qUps, List.getElem?_cons_succ]
    cases l[j]? with
    | none => rfl
    | some q =>
      show cond ((tr j).ex && !isLoud q.op) (cond (r0.ex && !isLoud o.op) r0.us [] ++ qUps l tr j ++ (tr j).us) (cond (r0.ex && !isLoud o.op) r0.us [] ++ qUps l tr j) = cond (r0.ex && !isLoud o.op) r0.us [] ++ cond ((tr j).ex && !isLoud q.op) (qUps l tr j ++ (tr j).us) (qUps l tr j)
      cases ((tr j).ex && !isLoud q.op)
      · rfl
      · exact List.append_assoc _ _ _

theorem wpD_tr {P : Program} {K : Env → OB → Prop} : ∀ (l : List RO) (nid : Nat) (env : Env) (ob : OB) (dl : Ups), wpD P l nid env ob dl K →
    ∃ tr, TrOk P l nid env ob tr ∧ K (cenv l tr env l.length) (apps (cob l tr ob l.length) (dl ++ qUps l tr l.length))
  | [], nid, env, ob, dl, h => ⟨fun _ => ⟨false, .u, []⟩, fun j o h => by simp at h, by simpa [cenv, cob, qUps, wpD] using h⟩
  | o :: l, nid, env, ob, dl, h => by
    have go : ∀ (r0 : Rec), (gd o.g env (r0.ex = true ∧ OpR P o.op (o.xs.map (ev env)) ob nid r0.r r0.us) (r0.ex = false)) →
        wpD P l (nid + 1) (put env o.d r0.val) (cond (r0.ex && isLoud o.op) (apps ob r0.us) ob) (dl ++ (cond (r0.ex && !isLoud o.op) r0.us [])) K →
        ∃ tr, TrOk P (o :: l) nid env ob tr ∧ K (cenv (o :: l) tr env (o :: l).length) (apps (cob (o :: l) tr ob (o :: l).length) (dl ++ qUps (o :: l) tr (o :: l).length)) := fun r0 h0 h1 => by
      obtain ⟨tr, h2, h3⟩ := wpD_tr l (nid + 1) _ _ _ h1
      refine ⟨shiftT r0 tr, fun j q hq => ?_, ?_⟩
      · cases j with
        | zero => simp at hq; subst hq; simpa [cenv, cob, shiftT] using h0
        | succ j =>
          have := h2 j q (by simpa using hq)
          rw [cenv_shift, cob_shift]
          have e : nid + (j + 1) = nid + 1 + j := by omega
          rw [e]; exact this
      · rw [List.length_cons, cenv_shift, cob_shift, qUps_shift, ← List.append_assoc]; exact h3
    simp only [wpD] at h
    have key : (∃ r us, gd o.g env (OpR P o.op (o.xs.map (ev env)) ob nid r us) False ∧ wpD P l (nid + 1) (put env o.d r) (if isLoud o.op then apps ob us else ob) (if isLoud o.op then dl else dl ++ us) K) ∨ (gd o.g env False True ∧ wpD P l (nid + 1) (put env o.d (.c undef)) ob dl K) := by
      unfold gd at *
      split at h
      · obtain ⟨r, us, h1, h2⟩ := h; exact .inl ⟨r, us, h1, h2⟩
      · rename_i t want _
        obtain ⟨b, h1, h2, h3⟩ := h
        by_cases hb : b = some want
        · obtain ⟨r, us, h4, h5⟩ := h2 hb; exact .inl ⟨r, us, ⟨b, h1, fun _ => h4, fun e => absurd hb e⟩, h5⟩
        · exact .inr ⟨⟨b, h1, fun e => absurd e hb, fun _ => trivial⟩, h3 hb⟩
    rcases key with ⟨r, us, h1, h2⟩ | ⟨h1, h2⟩
    · refine go ⟨true, r, us⟩ (gd_imp (fun h => ⟨rfl, h⟩) (fun h => h.elim) h1) ?_
      cases hl : isLoud o.op <;> simp [hl, Rec.val] at h2 ⊢ <;> exact h2
    · refine go ⟨false, .u, []⟩ (gd_imp (fun h => h.elim) (fun _ => rfl) h1) ?_
      simpa [Rec.val] using h2

end Go.Proofs.Ytamdidmfcjdcgaa.D
