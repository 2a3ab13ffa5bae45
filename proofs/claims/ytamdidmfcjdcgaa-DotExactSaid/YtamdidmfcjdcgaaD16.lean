/- Regions over plain values. No condition. -/
import Derived.Test.YtamdidmfcjdcgaaD15
set_option linter.unusedVariables false
set_option linter.unusedSectionVars false
set_option linter.unusedSimpArgs false
set_option linter.constructorNameAsVariable false
namespace Go.Proofs.Ytamdidmfcjdcgaa.D
open Go Go.RowKit

abbrev Env := Nat → V

/-- An operation with its place: where its answer goes, when it is carried out, its operands. -/
structure RO where
  d : Option Nat
  g : Option (Nat × Bool)
  op : Ok
  xs : List Od

def ev (env : Env) : Od → V
  | .t n => env n
  | .k v => v

def put (env : Env) (d : Option Nat) (v : V) : Env :=
  match d with
  | some n => fun i => if i = n then v else env i
  | none => env

/-- A call, as it is taken. -/
def compCall (c : Call) (h : Ok) : Option (Ok × List Operand) :=
  match c.callee, h with
  | .value (.func f), .call _ m => some (.call f m, c.args.toList)
  | .value (.tmp t), .callv m => some (.callv m, .tmp t :: c.args.toList)
  | .value (.func f), .rcall _ => some (.rcall f, c.args.toList)
  | _, _ => none

def isCall : Ok → Bool
  | .call _ _ | .callv _ | .rcall _ => true
  | _ => false

def noCall : Option (Ok × List Operand) → Option (Ok × List Operand)
  | some q => if isCall q.1 then none else some q
  | none => none

def compAny (P : Program) (o : Oper) (h : Ok) : Option (Ok × List Operand) :=
  match h with
  | .call _ _ | .callv _ | .rcall _ => match o.op with
    | .call c => compCall c h
    | _ => none
  | _ => noCall (compOp P o h)

def dstOk (nt : Nat) : Option Nat → Bool
  | some d => d < nt
  | none => true

def compRO (P : Program) (nt : Nat) (ops : Array Oper) (o : Oper) (h : Ok) : Option RO :=
  if dstOk nt o.dst then
    (match o.guard with
    | none => some none
    | some (j, want) => ((ops[j]?).bind (·.dst)).map fun t => some (t, want)).bind fun g =>
    (compAny P o h).bind fun q => (optAll (q.2.map (comOd nt))).map fun xs => ⟨o.dst, g, q.1, xs⟩
  else none

def compOps (P : Program) (nt : Nat) (all : Array Oper) : List Oper → List RO → Option (List RO)
  | [], [] => some []
  | o :: l, h :: m => (compRO P nt all o h.op).bind fun r => (compOps P nt all l m).map (r :: ·)
  | _, _ => none

/-- What an operation answers and does, calls too. -/
def OpR (P : Program) (op : Ok) (vs : List V) (ob : OB) (nid : Nat) (r : V) (us : Ups) : Prop :=
  match op with
  | .call f m => ∃ q, FnB P f (vs.map (resV ob 6)) q ∧ impOk m q ∧ r = (imp m nid q).1 ∧ us = (imp m nid q).2
  | .callv m => ∃ f caps args q, vs = .fn f caps :: args ∧ FnB P f ((args ++ caps).map (resV ob 6)) q ∧ impOk m q ∧ r = (imp m nid q).1 ∧ us = (imp m nid q).2
  | op => opF op vs ob nid = some (r, us)

/-- What a guard sees: a bool, or what was not carried out. -/
def sk : Option Bool → V
  | some b => .c (.bool b)
  | none => .c undef
/-- Is it carried out? -/
def gd (g : Option (Nat × Bool)) (env : Env) (A B : Prop) : Prop :=
  match g with
  | none => A
  | some (t, want) => ∃ b, env t = sk b ∧ (b = some want → A) ∧ (¬ b = some want → B)

/-- What a function comes to that shares the store: what it answers, and what it leaves in the store. -/
def FnS (P : Program) (f : FuncId) (args : List V) (ob : OB) (nid : Nat) (C : V → OB → Nat → Prop) : Prop :=
  callable P f = true ∧ ∀ (B : Bk) (n0 : Nat) (w : World) (own : Nat → Option Nat) (loc : Loc) (xs : List Value), WF n0 w own loc ob → n0 ≤ w.heap.size → (∀ id, nid ≤ id → loc id = none) → RVs w (okf own n0 w.heap.size) loc args xs →
    Calls P f xs.toArray w fun e w' => ∃ x r ob' nid' own' loc', e = .returned x ∧ RV w' (okf own' n0 w'.heap.size) loc' r x ∧ WF n0 w' own' loc' ob' ∧ Stp w own loc w' own' loc' ∧ (∀ id, nid' ≤ id → loc' id = none) ∧ C r ob' nid'

/-- One step, in a region of one order. -/
def stpR (P : Program) (op : Ok) (vs : List V) (ob : OB) (nid : Nat) (C : V → OB → Nat → Prop) : Prop :=
  match op with
  | .rcall f => FnS P f vs ob nid C
  | op => ∃ r us, OpR P op vs ob nid r us ∧ C r (apps ob us) (nid + 1)

/-- A region in its one order. -/
def wpS (P : Program) : List RO → Nat → Env → OB → (Env → OB → Nat → Prop) → Prop
  | [], nid, env, ob, K => K env ob nid
  | o :: l, nid, env, ob, K => gd o.g env (stpR P o.op (o.xs.map (ev env)) ob nid fun r ob' n' => wpS P l n' (put env o.d r) ob' K)
      (wpS P l (nid + 1) (put env o.d (.c undef)) ob K)

/-- How an activation stands. -/
structure SR [Bk] (nt n0 : Nat) (w0 : World) (own0 : Nat → Option Nat) (loc0 : Loc) (env : Env) (ob : OB) (a : Act) (w : World) (own : Nat → Option Nat) (loc : Loc) : Prop where
  defers : a.defers = []
  size : a.tmps.size = nt
  wf : WF n0 w own loc ob
  vals : ∀ t, RV w (okf own n0 w.heap.size) loc (env t) (a.tmps.getD t undef)
  stp : Stp w0 own0 loc0 w own loc
  le : n0 ≤ w.heap.size
  new : ∀ b id, own b = some id → own0 b = none → n0 ≤ b

section
variable {P : Program} {nt n0 : Nat} {w0 w : World} {own0 own : Nat → Option Nat} {loc0 loc : Loc} {env : Env} {ob : OB} {a : Act} [Bk]

theorem ev_rv (h : SR nt n0 w0 own0 loc0 env ob a w own loc) {o : Operand} {x : Od} (hx : comOd nt o = some x) : RV w (okf own n0 w.heap.size) loc (ev env x) (a.eval o) := by
  cases o with
  | tmp t =>
    simp only [comOd] at hx
    split at hx
    · injection hx with hx; subst hx; exact h.vals t
    · cases hx
  | const v =>
    simp only [comOd] at hx
    obtain ⟨q, h1, h2⟩ := Option.map_eq_some_iff.1 hx
    subst h2; exact constV_rv h1
  | func f =>
    simp only [comOd] at hx
    injection hx with hx; subst hx
    exact .fn f [] [] rfl (fun i v x h => by cases h)
  | global g => simp [comOd] at hx

theorem evs_rv (h : SR nt n0 w0 own0 loc0 env ob a w own loc) {os : List Operand} {xs : List Od} (hx : optAll (os.map (comOd nt)) = some xs) :
    RVs w (okf own n0 w.heap.size) loc (xs.map (ev env)) (os.map a.eval) := by
  have hp := optAll_spec hx
  have hl : os.length = xs.length := by have := congrArg List.length hp; simpa using this
  refine ⟨by simp [hl], fun i v x hv hx => ?_⟩
  obtain ⟨q, h1, rfl⟩ := map_at hv
  rw [List.getElem?_map] at hx
  cases ho : os[i]? with
  | none => rw [ho] at hx; cases hx
  | some o =>
    rw [ho] at hx; injection hx with hx; subst hx
    have h5 : (os.map (comOd nt))[i]? = (xs.map some)[i]? := by rw [hp]
    rw [List.getElem?_map, List.getElem?_map, ho, h1] at h5
    injection h5 with h5
    exact ev_rv h h5

theorem put_tmps (a : Act) (d : Option Nat) (x : Value) (hd : dstOk a.tmps.size d = true) (t : Nat) : (a.put d x).tmps.getD t undef = match d with | some n => if t = n then x else a.tmps.getD t undef | none => a.tmps.getD t undef := by
  cases d with
  | none => rfl
  | some n =>
    simp only [dstOk, decide_eq_true_eq] at hd
    simp only [Act.put, Array.getD_eq_getD_getElem?, Array.getElem?_setIfInBounds]
    by_cases h : t = n
    · subst h; simp [hd]
    · rw [if_neg (fun e => h e.symm), if_neg h]

/-- Behind an operation. -/
theorem SR.put {own' : Nat → Option Nat} {loc' : Loc} {w' : World} {ob' : OB} (h : SR nt n0 w0 own0 loc0 env ob a w own loc) {d : Option Nat} (hd : dstOk nt d = true) {r : V} {x : Value}
    (hr : RV w' (okf own' n0 w'.heap.size) loc' r x) (hwf : WF n0 w' own' loc' ob') (hs : Stp w own loc w' own' loc') :
    SR nt n0 w0 own0 loc0 (put env d r) ob' (a.put d x) w' own' loc' where
  defers := by cases d <;> exact h.defers
  size := by cases d <;> simp [Act.put, h.size]
  wf := hwf
  vals := fun t => by
    rw [put_tmps a d x (by rw [h.size]; exact hd)]
    cases d with
    | none => exact (h.vals t).stp hs
    | some n =>
      simp only [D.put]
      by_cases ht : t = n
      · rw [if_pos ht, if_pos ht]; exact hr
      · rw [if_neg ht, if_neg ht]; exact (h.vals t).stp hs
  stp := h.stp.trans hs
  le := Nat.le_trans h.le hs.size
  new := fun b id hb h0 => by
    by_cases hlt : b < w.heap.size
    · cases ho : own b with
      | none => rw [(hs.block b hlt ho).1] at hb; cases hb
      | some i => exact h.new b i ho h0
    · have := h.le; omega

/-- A call, entered. -/
theorem call_run {f : FuncId} (hf : callable P f = true) (args : Array Value) : (callFunc f args).run P w = .ok (.enter f args) w := by
  unfold callable at hf
  split at hf
  · rename_i fn hfn
    simp only [Bool.and_eq_true, bne_iff_ne, ne_eq] at hf
    obtain ⟨h1, h2⟩ := hf
    obtain ⟨c, hc⟩ := Option.isSome_iff_exists.1 h1
    simp [callFunc, hfn, h2, hc]
  · cases hf

theorem optAll_map {α β : Type} {f : α → Option β} {l : List α} {m : List β} (h : optAll (l.map f) = some m) : l.length = m.length := by
  have := congrArg List.length (optAll_spec h); simpa using this

/-- One operation, in the machine: behind it stands what the plain one says. -/
theorem op_wp (h : SR nt n0 w0 own0 loc0 env ob a w own loc) {ops : Array Oper} {o : Oper} {hk : Ok} {ro : RO} (hc : compRO P nt ops o hk = some ro) {ob0 : OB} (hsub : ∀ id x, ob0 id = some x → ob id = some x) {nid : Nat} (hnid : loc nid = none)
    {r : V} {us : Ups} (hR : OpR P ro.op (ro.xs.map (ev env)) ob0 nid r us) {K : Act → World → Prop} {Q : Exit → Act → World → Prop}
    (hK : ∀ x w' own' loc', SR nt n0 w0 own0 loc0 (put env ro.d r) (apps ob us) (a.put o.dst x) w' own' loc' → Stp w own loc w' own' loc' → (∀ id, id ≠ nid → loc id = none → loc' id = none) → K (a.put o.dst x) w') : o.wp P a w K Q := by
  unfold compRO at hc
  split at hc
  case isFalse => cases hc
  rename_i hd
  obtain ⟨g, hg, hc⟩ := Option.bind_eq_some_iff.1 hc
  obtain ⟨⟨op, os⟩, hq, hc⟩ := Option.bind_eq_some_iff.1 hc
  obtain ⟨xs, hxs, hc⟩ := Option.map_eq_some_iff.1 hc
  subst hc
  simp only at hR hK
  have hv := evs_rv h hxs
  have plain : ∀ (hcp : compOp P o hk = some (op, os)), opF op (xs.map (ev env)) ob0 nid = some (r, us) → o.wp P a w K Q := fun hcp hop => by
    obtain ⟨x, w', own', loc', hrun, hr, hwf, hs, hn⟩ := op_sound hcp h.wf h.le hnid hsub (ρ := a.eval) (fun v => rfl) hv hop
    unfold Oper.wp
    rcases hrun with hrun | ⟨hrun, rfl⟩
    · rw [hrun]; exact hK x w' own' loc' (h.put hd hr hwf hs) hs hn
    · rw [hrun]; exact hK undef w' own' loc' (h.put hd hr hwf hs) hs hn
  have called : ∀ (f : FuncId) (m : Md) (q : V) (vargs : List V) (rargs : Array Value), (execOp a.eval o).run P w = (callFunc f rargs).run P w → RVs w (okf own n0 w.heap.size) loc vargs rargs.toList → FnB P f (vargs.map (resV ob0 6)) q → impOk m q → r = (imp m nid q).1 → us = (imp m nid q).2 → o.wp P a w K Q := by
    rintro f m q vargs rargs hex hva ⟨hcl, hfn⟩ hm rfl rfl
    have hres : RVs w (@okf (bkC own n0 w.heap.size) (fun _ => none) w.heap.size w.heap.size) (fun _ => none) (vargs.map (resV ob0 6)) rargs.toList := by
      refine ⟨by simpa using hva.1, fun i v x hv hx => ?_⟩
      obtain ⟨q', h1, rfl⟩ := map_at hv
      exact res_rv h.wf hsub 6 q' x (hva.2 i q' x h1 hx)
    have hcall := hfn (bkC own n0 w.heap.size) w rargs.toList hres
    unfold Oper.wp
    rw [hex, call_run hcl, Oper.upon_enter]
    have e : rargs.toList.toArray = rargs := by simp
    rw [e] at hcall
    refine hcall.mono fun e w' ⟨x, he, hr, hb⟩ => ?_
    subst he
    obtain ⟨own', loc', h1, h2, h3, h4⟩ := imp_rv h.wf hb h.le hnid hm hr
    exact hK x w' own' loc' (h.put hd h1 h2 h3) h3 h4
  have viaOp : compAny P o hk = noCall (compOp P o hk) → o.wp P a w K Q := fun e => by
    rw [e] at hq
    cases hcp : compOp P o hk with
    | none => rw [hcp] at hq; cases hq
    | some q =>
      rw [hcp] at hq
      simp only [noCall] at hq
      split at hq
      · cases hq
      · rename_i hnc
        injection hq with hq; subst hq
        refine plain hcp ?_
        unfold OpR at hR
        split at hR
        · exact absurd rfl hnc
        · exact absurd rfl hnc
        · exact hR
  cases hk
  case call =>
    unfold compAny at hq
    simp only at hq
    split at hq
    case h_2 => cases hq
    rename_i c hop
    obtain ⟨cal, cargs, cty⟩ := c
    cases cal with
    | invoke _ _ => cases hq
    | builtin _ => cases hq
    | value fo =>
      cases fo with
      | tmp _ => cases hq
      | const _ => cases hq
      | global _ => cases hq
      | func f' =>
      injection hq with hq; injection hq with h1 h2; subst h1; subst h2
      obtain ⟨q, hf, hm, hr, hu⟩ := hR
      refine called f' _ q (xs.map (ev env)) (cargs.map a.eval) ?_ (by simpa using hv) hf hm hr hu
      simp [execOp, hop, resolve, Deferred.ofValue, invoke, Act.eval]
  case callv =>
    unfold compAny at hq
    simp only at hq
    split at hq
    case h_2 => cases hq
    rename_i c hop
    obtain ⟨cal, cargs, cty⟩ := c
    cases cal with
    | invoke _ _ => cases hq
    | builtin _ => cases hq
    | value fo =>
      cases fo with
      | func _ => cases hq
      | const _ => cases hq
      | global _ => cases hq
      | tmp t' =>
      injection hq with hq; injection hq with h1 h2; subst h1; subst h2
      obtain ⟨f, caps, args, q, hvs, hf, hm, hr, hu⟩ := hR
      rw [hvs] at hv
      obtain ⟨hv1, hv2⟩ := hv
      have h0 := hv2 0 _ (a.eval (.tmp t')) rfl rfl
      generalize hfx : a.eval (.tmp t') = fx at h0
      cases h0 with
      | fn _ _ cx hcl hcr =>
        refine called f _ q (args ++ caps) (cargs.map a.eval ++ cx.toArray) ?_ ⟨by simp at hv1 ⊢; omega, fun i v x hi hx => ?_⟩ hf hm hr hu
        · simp only [execOp, hop, resolve, hfx, Deferred.ofValue, Sem.run_bind, Sem.run_pure, Result.andThen_ok, invoke]
          simp
        · simp only [Array.toList_append] at hx
          have hal : args.length = (cargs.map a.eval).toList.length := by simp at hv1 ⊢; omega
          by_cases hlt : i < args.length
          · rw [List.getElem?_append_left hlt] at hi
            rw [List.getElem?_append_left (by omega)] at hx
            exact hv2 (i + 1) v x (by simpa using hi) (by simpa using hx)
          · rw [List.getElem?_append_right (by omega)] at hi
            rw [List.getElem?_append_right (by omega), ← hal] at hx
            exact hcr _ v x hi (by simpa using hx)
  case rcall =>
    unfold compAny at hq
    simp only at hq
    split at hq
    case h_2 => cases hq
    rename_i c hop
    obtain ⟨cal, cargs, cty⟩ := c
    cases cal with
    | invoke _ _ => cases hq
    | builtin _ => cases hq
    | value fo =>
      cases fo with
      | tmp _ => cases hq
      | const _ => cases hq
      | global _ => cases hq
      | func f' =>
      injection hq with hq; injection hq with h1 h2; subst h1; subst h2
      simp [OpR, opF] at hR
  all_goals exact viaOp rfl

omit [Bk] in
theorem noCall_not {q : Option (Ok × List Operand)} {f : Nat} {os : List Operand} (h : noCall q = some (.rcall f, os)) : False := by
  cases q with
  | none => cases h
  | some q =>
    simp only [noCall] at h
    split at h
    · cases h
    · rename_i hn
      injection h with h; subst h
      exact hn rfl

/-- One step, in the machine. -/
theorem step_wp (h : SR nt n0 w0 own0 loc0 env ob a w own loc) {ops : Array Oper} {o : Oper} {hk : Ok} {ro : RO} (hc : compRO P nt ops o hk = some ro) {nid : Nat} (hf : ∀ id, nid ≤ id → loc id = none)
    {C : V → OB → Nat → Prop} (hS : stpR P ro.op (ro.xs.map (ev env)) ob nid C) {K : Act → World → Prop} {Q : Exit → Act → World → Prop}
    (hK : ∀ x r ob' n' w' own' loc', SR nt n0 w0 own0 loc0 (put env ro.d r) ob' (a.put o.dst x) w' own' loc' → (∀ id, n' ≤ id → loc' id = none) → C r ob' n' → K (a.put o.dst x) w') : o.wp P a w K Q := by
  by_cases hr : ∃ f, ro.op = .rcall f
  · obtain ⟨f, hrf⟩ := hr
    rw [hrf] at hS
    obtain ⟨hcl, hfn⟩ := hS
    unfold compRO at hc
    split at hc
    case isFalse => cases hc
    rename_i hd
    obtain ⟨g, hg, hc⟩ := Option.bind_eq_some_iff.1 hc
    obtain ⟨⟨op, os⟩, hq, hc⟩ := Option.bind_eq_some_iff.1 hc
    obtain ⟨xs, hxs, hc⟩ := Option.map_eq_some_iff.1 hc
    subst hc
    simp only at hrf hfn hK
    subst hrf
    have hv := evs_rv h hxs
    have hex : (execOp a.eval o).run P w = (callFunc f (os.map a.eval).toArray).run P w := by
      cases hk
      case call =>
        unfold compAny at hq
        simp only at hq
        split at hq
        case h_2 => cases hq
        rename_i c hop
        obtain ⟨cal, cargs, cty⟩ := c
        cases cal with
        | invoke _ _ => cases hq
        | builtin _ => cases hq
        | value fo => cases fo <;> cases hq
      case callv =>
        unfold compAny at hq
        simp only at hq
        split at hq
        case h_2 => cases hq
        rename_i c hop
        obtain ⟨cal, cargs, cty⟩ := c
        cases cal with
        | invoke _ _ => cases hq
        | builtin _ => cases hq
        | value fo => cases fo <;> cases hq
      case rcall =>
        unfold compAny at hq
        simp only at hq
        split at hq
        case h_2 => cases hq
        rename_i c hop
        obtain ⟨cal, cargs, cty⟩ := c
        cases cal with
        | invoke _ _ => cases hq
        | builtin _ => cases hq
        | value fo =>
          cases fo with
          | tmp _ => cases hq
          | const _ => cases hq
          | global _ => cases hq
          | func f' =>
          injection hq with hq; injection hq with h1 h2; injection h1 with h1; subst h1; subst h2
          have e : (cargs.toList.map a.eval).toArray = cargs.map a.eval := by apply Array.ext'; simp
          simp only [e]
          simp [execOp, hop, resolve, Deferred.ofValue, invoke, Act.eval]
      all_goals exact (noCall_not hq).elim
    unfold Oper.wp
    rw [hex, call_run hcl, Oper.upon_enter]
    refine (hfn _ n0 w own loc _ h.wf h.le hf hv).mono fun e w' ⟨x, r, ob', nid', own', loc', he, h1, h2, h3, h4, h5⟩ => ?_
    subst he
    exact hK x r ob' nid' w' own' loc' (h.put hd h1 h2 h3) h4 h5
  · unfold stpR at hS
    split at hS
    · rename_i heq; exact absurd ⟨_, heq⟩ hr
    · obtain ⟨r, us, hR, hC⟩ := hS
      exact op_wp h hc (fun _ _ h => h) (hf nid (Nat.le_refl _)) hR fun x w' own' loc' hsr hst hn => hK x r _ (nid + 1) w' own' loc' hsr (fun id hid => hn id (by omega) (hf id (by omega))) hC

end
end Go.Proofs.Ytamdidmfcjdcgaa.D
