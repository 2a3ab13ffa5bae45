/- Functions over plain values. No condition. -/
import Derived.Test.YtamdidmfcjdcgaaD22
set_option linter.unusedVariables false
set_option linter.unusedSectionVars false
set_option linter.unusedSimpArgs false
set_option linter.constructorNameAsVariable false
namespace Go.Proofs.Ytamdidmfcjdcgaa.D
open Go Go.RowKit

def resTmps : List ResultVar → Option (List Nat)
  | [] => some []
  | .tmp t :: l => (resTmps l).map (t :: ·)
  | _ :: _ => none

/-- A function, told over: its code, its results, its temporaries. -/
structure FI where
  c : IC
  rs : List Nat
  nt : Nat

def compF (P : Program) (f : FuncId) (h : IC) : Option FI :=
  match P.funcs[f]? with
  | some fn => fn.body.bind fun c => (compC P fn.ntmps c h).bind fun i => (resTmps fn.results.toList).bind fun rs =>
    if fn.name != "runtime.NumGoroutine" && rs.all (· < fn.ntmps) then some ⟨i, rs, fn.ntmps⟩ else none
  | none => none

def kill (ob : OB) (id : Nat) : OB := fun j => if j = id then none else ob j

/-- What a function hands back: the first slice that it made is the caller's own. -/
def outL (ob : OB) : List V → List V
  | [] => []
  | .sl id off len :: l => match rowsOf ob (.sl id off len) with
      | some rows => if rows.length = 0 then .im .b [] :: l.map (gV ob 6) else .im .o (rows.map fun r => r.map (gV (kill ob id) 6)) :: l.map (gV (kill ob id) 6)
      | none => .u :: l.map (gV ob 6)
  | .z :: l => .im .o [] :: l.map (gV ob 6)
  | v :: l => gV ob 6 v :: l.map (gV ob 6)

def retV : List V → V
  | [.tp _] => .u
  | [v] => v
  | l => .tp l

def finQ (rs : List Nat) (r : V) : Post := fun e env ob n => match e with
  | .ex _ => False
  | _ => retV (outL ob (rs.map env)) = r

def packV : List V → V
  | [v] => v
  | l => .tp l

/-- What is asked of a function that shares the store. -/
def finS (rs : List Nat) (C : V → OB → Nat → Prop) : Post := fun e env ob n => match e with
  | .ex _ => False
  | _ => C (packV (rs.map env)) ob n

def noOb : OB := fun _ => none

def env0 (args : List V) : Env := fun t => args.getD t .u

section
variable {P : Program} {n0 : Nat} {w : World} {own : Nat → Option Nat} {loc : Loc} {ob : OB} [Bk]

theorem gV_notO (ob : OB) (n : Nat) (v : V) : isO (gV ob n v) = false := by
  have := gV_noB ob n v
  cases h : gV ob n v with
  | im f l =>
    rw [h] at this
    cases this with | im f l hf hl => subst hf; rfl
  | _ => rfl

theorem res1_g {bo : Option Nat} {r : V} {x : Value} (hr : NoB r) (h : RV w (rok Bk.B n0 w.heap.size bo) (fun _ => none) r x) : Res1 Bk.B w n0 bo r x := by
  cases r with
  | im f l =>
    cases hr with
    | im f l hf hl => subst hf; exact ⟨.im _ l rfl hl, h⟩
  | _ => exact ⟨hr, h⟩

theorem RV.weak {w : World} {ok ok' : Fl → Nat → Prop} {loc : Loc} {v : V} {x : Value} (h : RV w ok loc v x) (hok : ∀ f b, ok f b → ok' f b) : RV w ok' loc v x :=
  h.mono (fun _ _ _ _ _ h => h) hok (fun _ _ => .inl rfl)

/-- Results none of which is a slice of one's own. -/
theorem plain_res {bo : Option Nat} {ob' : OB} {own' : Nat → Option Nat} {loc' : Loc} (hwf : WF n0 w own' loc' ob') (hnew : ∀ b id, own' b = some id → n0 ≤ b) {id0 : Nat} (h0 : ob' id0 = none) (hbo : ∀ b, bo = some b → own' b = some id0) {l : List V} {xs : List Value}
    (h : RVs w (okf own' n0 w.heap.size) loc' l xs) : ∀ (i : Nat) (r : V) (x : Value), (l.map (gV ob' 6))[i]? = some r → xs[i]? = some x → isO r = false ∧ Res1 Bk.B w n0 bo r x := fun i r x hr hx => by
  obtain ⟨v, h1, rfl⟩ := map_at hr
  refine ⟨gV_notO _ _ _, res1_g (gV_noB _ _ _) ((g_rv hwf hnew h0 6 v x (h.2 i v x h1 hx)).weak fun f b hb => ⟨hb.1, fun e => hb.2.1 (hbo b e), hb.2.2⟩)⟩

theorem consRes {bo : Option Nat} {r0 : V} {rs : List V} {x0 : Value} {xs : List Value} (hlen : xs.length = rs.length) (h0 : Res1 Bk.B w n0 bo r0 x0) (h : ∀ (i : Nat) (r : V) (x : Value), rs[i]? = some r → xs[i]? = some x → isO r = false ∧ Res1 Bk.B w n0 bo r x) :
    ResL Bk.B w n0 (r0 :: rs) (x0 :: xs) := by
  refine ⟨bo, by simp [hlen], fun i r x hr hx => ?_, fun i j r s hr hs hor hos => ?_⟩
  · cases i with
    | zero => simp at hr hx; subst hr; subst hx; exact h0
    | succ i => exact (h i r x (by simpa using hr) (by simpa using hx)).2
  · have key : ∀ (i : Nat) (r : V), (r0 :: rs)[i]? = some r → isO r = true → i = 0 := fun i r hr hor => by
      cases i with
      | zero => rfl
      | succ i =>
        have hi : i < xs.length := by rw [hlen]; simpa using (List.getElem?_eq_some_iff.1 hr).1
        rw [(h i r _ (by simpa using hr) (List.getElem?_eq_getElem hi)).1] at hor; cases hor
    rw [key i r hr hor, key j s hs hos]

theorem out_res (hwf : WF n0 w own loc ob) (hnew : ∀ b id, own b = some id → n0 ≤ b) {nid : Nat} (hnid : loc nid = none) (vs : List V) (xs : List Value) (h : RVs w (okf own n0 w.heap.size) loc vs xs) : ResL Bk.B w n0 (outL ob vs) xs := by
  have hobn : ob nid = none := by
    cases ho : ob nid with
    | none => rfl
    | some X => obtain ⟨p, h1, _⟩ := hwf.has nid X ho; rw [hnid] at h1; cases h1
  obtain ⟨hl, hr⟩ := h
  cases vs with
  | nil => 
    have : xs = [] := List.length_eq_zero_iff.1 (by simpa using hl)
    subst this
    exact ⟨none, rfl, fun i r x hr => by simp [outL] at hr, fun i j r s hr => by simp [outL] at hr⟩
  | cons v l =>
  cases xs with
  | nil => simp at hl
  | cons x xs =>
  have hx := hr 0 v x rfl rfl
  have htl : RVs w (okf own n0 w.heap.size) loc l xs := ⟨by simpa using hl, fun i a b ha hb => hr (i + 1) a b (by simpa using ha) (by simpa using hb)⟩
  have rest := plain_res (bo := none) hwf hnew hobn (fun b e => by cases e) htl
  have hlen : xs.length = (l.map (gV ob 6)).length := by simpa using htl.1
  have gen : ResL Bk.B w n0 (gV ob 6 v :: l.map (gV ob 6)) (x :: xs) := consRes hlen (res1_g (gV_noB _ _ _) ((g_rv hwf hnew hobn 6 v x hx).weak fun f b hb => ⟨hb.1, by simp, hb.2.2⟩)) rest
  cases v with
  | z =>
    obtain ⟨a, rfl⟩ := hx.z_inv
    exact consRes hlen (.inl ⟨rfl, a, rfl⟩) rest
  | sl id off len =>
    simp only [outL]
    split
    · rename_i rows hrows
      obtain ⟨p, cap, h1, h2, h3, h4, h5, h6⟩ := sl_rows hwf hrows hx
      split
      · rename_i h0
        have : rows = [] := List.eq_nil_of_length_eq_zero h0
        subst this
        have e : len = 0 := by simpa using h3.symm
        subst e
        refine consRes hlen (res1_g (.im .b [] rfl (fun i j v h => by simp [el] at h)) ?_) rest
        rw [h2]; exact .e .b _ _ (fun h => by cases h)
      · rename_i h0
        obtain ⟨X, hX, _⟩ := Option.bind_eq_some_iff.1 hrows
        obtain ⟨p', hp', hor, hcp, hxe⟩ := sl_at hwf hX hx
        rw [h1] at hp'; injection hp' with hp'; injection hp' with hp'; subst hp'
        have hb := hwf.owns id p h1
        obtain ⟨hk1, hk2⟩ := kill_ob hwf (id := id) (by rw [h1]; simp)
        have hkn : (fun j => if j = id then none else ob j) id = (none : Option Ob) := by simp
        have htl' := htl.stp hk2
        have rest' := plain_res (bo := some p.b) hk1 hnew hkn (fun b e => by injection e with e; subst e; exact hb.1) htl'
        refine consRes (by simpa using htl.1) (.inr ⟨fun e => h0 (by simpa using congrArg List.length e), p.b, p.base + off * p.k, p.k, p.cap - off, rfl, ?_, hnew _ _ hb.1, hb.2, ?_, fun ch hch => ?_, ?_, fun i j v hv => ?_⟩) rest'
        · rw [hxe]; simp [h3]
        · simp [h3]; omega
        · obtain ⟨r, h7, rfl⟩ := List.mem_map.1 hch; simpa using h5 r h7
        · obtain ⟨cs, el, h7, h8⟩ := hor.mem
          refine ⟨cs, el, h7, ?_⟩
          have : off * p.k + (p.cap - off) * p.k = p.cap * p.k := by rw [← Nat.add_mul]; congr 1; omega
          omega
        · obtain ⟨q, h7, rfl⟩ := el_map hv
          obtain ⟨y, h8, h9⟩ := h6 i j q h7
          refine ⟨y, h8, gV_noB _ _ _, (g_rv hk1 hnew hkn 6 q y (h9.stp hk2)).weak fun f b hbb => ⟨hbb.1, fun e => hbb.2.1 ?_, hbb.2.2⟩⟩
          injection e with e; subst e; exact hb.1
    · exact consRes hlen (res1_g .u (.u _)) rest
  | _ => exact gen

theorem resTmps_eq : ∀ {l : List ResultVar} {rs : List Nat}, resTmps l = some rs → l = rs.map .tmp
  | [], rs, h => by simp only [resTmps] at h; injection h with h; subst h; rfl
  | .cell a t :: l, rs, h => by simp [resTmps] at h
  | .tmp t :: l, rs, h => by
    simp only [resTmps] at h
    obtain ⟨rs', h1, h2⟩ := Option.map_eq_some_iff.1 h
    subst h2
    rw [resTmps_eq h1]; rfl

theorem mapM_pure' {α β : Type} (g : α → Sem β) (f : α → β) (h : ∀ a, g a = pure (f a)) : ∀ l : List α, l.mapM g = pure (l.map f)
  | [] => rfl
  | a :: l => by rw [List.mapM_cons, h, mapM_pure' g f h l]; rfl

/-- A function's results, in the machine. -/
def packR : List Value → Value
  | [v] => v
  | l => .tuple l.toArray

theorem results_run {fn : Func} {rs : List Nat} (h : resTmps fn.results.toList = some rs) (tmps : Array Value) : (results fn tmps).run P w = .ok (packR (rs.map fun t => tmps.getD t undef)) w := by
  have e : fn.results = (rs.map ResultVar.tmp).toArray := by
    apply Array.ext'; rw [resTmps_eq h]
  have key : ∀ g : ResultVar → Sem Value, (∀ t, g (.tmp t) = pure (tmps.getD t undef)) → ((rs.map ResultVar.tmp).toArray.mapM g : Sem (Array Value)).run P w = .ok (rs.map fun t => tmps.getD t undef).toArray w := by
    intro g hg
    have e2 : (rs.map ResultVar.tmp).mapM g = pure (rs.map fun t => tmps.getD t undef) := by
      rw [List.mapM_map]
      exact mapM_pure' _ _ (fun t => hg t) rs
    rw [List.mapM_toArray, e2]; simp
  unfold results
  rw [e]
  simp only [Sem.run_bind]
  rw [key _ (fun t => rfl)]
  simp only [Result.andThen_ok, Sem.run_pure]
  congr 1
  generalize (rs.map fun t => tmps.getD t undef) = l
  match l with
  | [] => rfl
  | [v] => rfl
  | a :: b :: l => simp [packR]

omit [Bk] in
/-- What a function answers, told by its code. -/
theorem fnB_intro {f : FuncId} {h : IC} {fi : FI} (hc : compF P f h = some fi) {args : List V} (hn : args.length ≤ fi.nt) {r : V}
    (hw : wpC P fi.c (finQ fi.rs r) (env0 args) noOb 0) : FnB P f args r := by
  unfold compF at hc
  split at hc
  case h_2 => cases hc
  rename_i fn hfn
  obtain ⟨c, hbody, hc⟩ := Option.bind_eq_some_iff.1 hc
  obtain ⟨i, hi, hc⟩ := Option.bind_eq_some_iff.1 hc
  obtain ⟨rs, hrs, hc⟩ := Option.bind_eq_some_iff.1 hc
  split at hc
  case isFalse => cases hc
  rename_i hcond
  simp only [Bool.and_eq_true] at hcond
  injection hc with hc; subst hc
  simp only at hw hn
  refine ⟨by simp [callable, hfn, hbody]; simpa using hcond.1, fun B w xs hxs => ?_⟩
  have hsz : xs.length = args.length := hxs.1
  refine calls_of_wp hfn hbody (wp_mono (wpC_sound (nt := fn.ntmps) (n0 := w.heap.size) (w0 := w) (own0 := fun _ => none) (loc0 := fun _ => none) c h i hi _ _ w ⟨env0 args, fun _ => none, 0, fun _ => none, fun _ => none, ?_, fun _ _ => rfl, hw⟩) fun e a w' hq => ?_)
  · refine ⟨rfl, by simp [hsz]; omega, ⟨fun id o h => (by cases h), fun id p h => (by cases h), fun b id h => (by cases h)⟩, fun t => ?_, .refl _ _ _, Nat.le_refl _, fun b id h => (by cases h)⟩
    unfold env0
    by_cases ht : t < args.length
    · rw [List.getD_eq_getElem?_getD, List.getElem?_eq_getElem ht]
      have hx : t < xs.length := by omega
      have : (xs.toArray ++ Array.replicate (fn.ntmps - xs.toArray.size) undef).getD t undef = xs[t] := by
        rw [Array.getD_eq_getD_getElem?, Array.getElem?_append_left (by simpa using hx)]
        simp [hx]
      rw [this]
      exact hxs.2 t _ _ (List.getElem?_eq_getElem ht) (List.getElem?_eq_getElem hx)
    · rw [List.getD_eq_getElem?_getD, List.getElem?_eq_none (by omega)]
      exact .u _
  · have fin : Stands fn.ntmps w.heap.size w (fun _ => none) (fun _ => none) (fun env ob n => retV (outL ob (rs.map env)) = r) a w' →
        a.defers = [] ∧ ∃ v, (results fn a.tmps).run P w' = .ok v w' ∧ ∃ x, Ending.returned v = .returned x ∧ ResV B.B w' w.heap.size r x ∧ Below w.heap.size w w' := by
      rintro ⟨env, ob, n, own, loc, hsr, hf, hr⟩
      refine ⟨hsr.defers, _, results_run hrs _, _, rfl, ?_, ⟨hsr.stp.os, hsr.stp.tape, hsr.stp.output, hsr.stp.size, fun b hb => (hsr.stp.block b hb rfl).2⟩⟩
      have hvs : RVs w' (okf own w.heap.size w'.heap.size) loc (rs.map env) (rs.map fun t => a.tmps.getD t undef) := by
        refine ⟨by simp, fun i v x hv hx => ?_⟩
        obtain ⟨t, h1, rfl⟩ := map_at hv
        obtain ⟨t', h2, rfl⟩ := map_at hx
        rw [h1] at h2; injection h2 with h2; subst h2
        exact hsr.vals t
      have hres := out_res hsr.wf (fun b id hb => hsr.new b id hb rfl) (hf n (Nat.le_refl _)) _ _ hvs
      rw [← hr]
      generalize (rs.map fun t => a.tmps.getD t undef) = xs at hres
      generalize outL ob (rs.map env) = l at hres
      have hlen := hres.choose_spec.1
      match l, xs, hlen with
      | [], [], _ => exact ⟨[], rfl, hres⟩
      | [v], [x], _ =>
        cases v <;> first | exact hres | exact ⟨none, rfl, fun i r x hr hx => (by
          cases i with
          | zero => simp at hr; subst hr; exact res1_g .u (.u _)
          | succ i => simp at hr), fun i j r s hr hs hor => (by
          cases i with
          | zero => simp at hr; subst hr; cases hor
          | succ i => simp at hr)⟩
      | a :: b :: l, x :: y :: xs, _ =>
        have e : retV (a :: b :: l) = .tp (a :: b :: l) := by cases a <;> rfl
        rw [e]; exact ⟨_, rfl, hres⟩
    cases e with
    | normal => exact fin hq
    | ret => exact fin hq
    | exit id => obtain ⟨_, _, _, _, _, _, _, h⟩ := hq; exact h
    | _ => exact hq.elim

omit [Bk] in
theorem packR_rv {ok : Fl → Nat → Prop} {vs : List V} {xs : List Value} (h : RVs w ok loc vs xs) : RV w ok loc (packV vs) (packR xs) := by
  obtain ⟨h1, h2⟩ := h
  match vs, xs, h1 with
  | [], [], _ => exact .tp [] [] rfl fun i v x h => by simp at h
  | [v], [x], _ => exact h2 0 v x rfl rfl
  | a :: b :: l, x :: y :: m, h1 => exact .tp _ _ h1 h2

omit [Bk] in
/-- What a function that shares the store comes to, told by its code. -/
theorem fnS_intro {f : FuncId} {h : IC} {fi : FI} (hc : compF P f h = some fi) {args : List V} (hn : args.length ≤ fi.nt) {ob : OB} {nid : Nat} {C : V → OB → Nat → Prop}
    (hw : wpC P fi.c (finS fi.rs C) (env0 args) ob nid) : FnS P f args ob nid C := by
  unfold compF at hc
  split at hc
  case h_2 => cases hc
  rename_i fn hfn
  obtain ⟨c, hbody, hc⟩ := Option.bind_eq_some_iff.1 hc
  obtain ⟨i, hi, hc⟩ := Option.bind_eq_some_iff.1 hc
  obtain ⟨rs, hrs, hc⟩ := Option.bind_eq_some_iff.1 hc
  split at hc
  case isFalse => cases hc
  rename_i hcond
  simp only [Bool.and_eq_true] at hcond
  injection hc with hc; subst hc
  simp only at hw hn
  refine ⟨by simp [callable, hfn, hbody]; simpa using hcond.1, fun B n0 w own loc xs hwf hle hfr hxs => ?_⟩
  have hsz : xs.length = args.length := hxs.1
  refine calls_of_wp hfn hbody (wp_mono (wpC_sound (nt := fn.ntmps) (n0 := n0) (w0 := w) (own0 := own) (loc0 := loc) c h i hi _ _ w ⟨env0 args, ob, nid, own, loc, ?_, hfr, hw⟩) fun e a w' hq => ?_)
  · refine ⟨rfl, by simp [hsz]; omega, hwf, fun t => ?_, .refl _ _ _, hle, fun b id h h' => by rw [h] at h'; cases h'⟩
    unfold env0
    by_cases ht : t < args.length
    · rw [List.getD_eq_getElem?_getD, List.getElem?_eq_getElem ht]
      have hx : t < xs.length := by omega
      have : (xs.toArray ++ Array.replicate (fn.ntmps - xs.toArray.size) undef).getD t undef = xs[t] := by
        rw [Array.getD_eq_getD_getElem?, Array.getElem?_append_left (by simpa using hx)]
        simp [hx]
      rw [this]
      exact hxs.2 t _ _ (List.getElem?_eq_getElem ht) (List.getElem?_eq_getElem hx)
    · rw [List.getD_eq_getElem?_getD, List.getElem?_eq_none (by omega)]
      exact .u _
  · have fin : Stands fn.ntmps n0 w own loc (fun env ob n => C (packV (rs.map env)) ob n) a w' →
        a.defers = [] ∧ ∃ v, (results fn a.tmps).run P w' = .ok v w' ∧ ∃ x r ob' nid' own' loc', Ending.returned v = .returned x ∧ RV w' (okf own' n0 w'.heap.size) loc' r x ∧ WF n0 w' own' loc' ob' ∧ Stp w own loc w' own' loc' ∧ (∀ id, nid' ≤ id → loc' id = none) ∧ C r ob' nid' := by
      rintro ⟨env, ob', n, own', loc', hsr, hf, hr⟩
      refine ⟨hsr.defers, _, results_run hrs _, _, _, ob', n, own', loc', rfl, packR_rv ?_, hsr.wf, hsr.stp, hf, hr⟩
      refine ⟨by simp, fun i v x hv hx => ?_⟩
      obtain ⟨t, h1, rfl⟩ := map_at hv
      obtain ⟨t', h2, rfl⟩ := map_at hx
      rw [h1] at h2; injection h2 with h2; subst h2
      exact hsr.vals t
    cases e with
    | normal => exact fin hq
    | ret => exact fin hq
    | exit id => obtain ⟨_, _, _, _, _, _, _, h⟩ := hq; exact h
    | _ => exact hq.elim

end
end Go.Proofs.Ytamdidmfcjdcgaa.D
