/- Regions over plain values, in whatever order: the machine goes through them. No condition. -/
import Derived.Test.YtamdidmfcjdcgaaD20
set_option linter.unusedVariables false
set_option linter.unusedSectionVars false
set_option linter.unusedSimpArgs false
set_option linter.constructorNameAsVariable false
namespace Go.Proofs.Ytamdidmfcjdcgaa.D
open Go Go.RowKit

section
variable {P : Program} {ops : Array Oper} {m : List RO} {an : List Nat} {tr : Nat → Rec} {env : Env} {ob : OB} {base : Nat}
variable {nt n0 : Nat} {w0 : World} {own0 : Nat → Option Nat} {loc0 : Loc} [Bk]

/-- The same, behind an operation that was left out. -/
theorem obD_skip (hp : DrawP ops m an) {D : Nat → Prop} (hc : Clo ops D) {j k : Nat} {oj : RO} (hj : m[j]? = some oj) (hr : Rdy ops D j) (hn : ¬ D j) (hu : Upto m D k)
    (hx : (tr j).ex = false) : ∃ k', Upto m (fun i => D i ∨ i = j) k' ∧ obD m tr base ob D k = obD m tr base ob (fun i => D i ∨ i = j) k' := by
  have hq : ∀ id, qD m tr base D id = qD m tr base (fun i => D i ∨ i = j) id := fun id => by
    by_cases hid : id = base + j
    · subst hid
      have nq : ∀ D' : Nat → Prop, qD m tr base D' (base + j) = none := fun D' => qD_none fun i o h0 h1 h2 h3 h4 => by
        obtain rfl : i = j := by omega
        rw [hx] at h4; cases h4
      rw [nq, nq]
    · exact qD_congr fun i hi => ⟨.inl, fun h => h.resolve_right fun e => hid (by rw [hi, e])⟩
  cases hl : isLoud oj.op with
  | false =>
    refine ⟨k, fun i o hi hlo => ?_, ?_⟩
    · rw [← hu i o hi hlo]
      refine ⟨fun h => h.resolve_right ?_, .inl⟩
      rintro rfl; rw [hj] at hi; injection hi with hi; subst hi; rw [hl] at hlo; cases hlo
    · funext id; simp only [obD]; rw [hq]
  | true =>
    have hcj := cob_ready (tr := tr) (ob := ob) hp hc hj hr hn hu (noRead_loud hl)
    refine ⟨j + 1, fun i o hi hlo => ?_, ?_⟩
    · by_cases hij : i = j
      · subst hij; exact ⟨fun _ => by omega, fun _ => .inr rfl⟩
      · have := cmp_iff hp hij (hp.loud i j o oj hij hi hj hlo (noRead_loud hl)) hc hr hn
        refine ⟨fun h => by have := this.1 (h.resolve_right hij); omega, fun h => .inl (this.2 (by omega))⟩
    · have hcs : cob m tr ob (j + 1) = cob m tr ob j := by
        simp only [cob, hj]
        show cond ((tr j).ex && isLoud oj.op) _ _ = _
        rw [hx]; rfl
      funext id; simp only [obD]; rw [hq, hcs, hcj]

theorem gd_env {g : Option (Nat × Bool)} {env env' : Env} {A B : Prop} (h : ∀ t want, g = some (t, want) → env t = env' t) (hg : gd g env A B) : gd g env' A B := by
  unfold gd at *
  split
  · exact hg
  · rename_i t want
    obtain ⟨b, h1, h2⟩ := hg
    exact ⟨b, by rw [← h t want rfl]; exact h1, h2⟩

theorem ready_all (hp : DrawP ops m an) {listed : Array Bool} (hs : listed.size = ops.size) (h : Region.ready .any ops listed = []) : ∀ j, j < ops.size → listed.getD j false = true := by
  intro j
  induction j using Nat.strongRecOn with
  | _ j ih =>
    intro hj
    refine Classical.byContradiction fun hn => ?_
    have ho : ops[j]? = some ops[j] := Array.getElem?_eq_getElem hj
    have : j ∈ Region.ready .any ops listed := mem_ready.2 ⟨by
      simp only [Array.getD_eq_getD_getElem?] at hn ⊢
      rw [Array.getElem?_eq_getElem (by omega)] at hn ⊢
      simpa using hn, ops[j], ho, fun e he hb => ih e.on (hp.edge j _ ho e he hb) (by have := hp.edge j _ ho e he hb; omega)⟩
    rw [h] at this; cases this

theorem compOps_at {nt : Nat} : ∀ (l : List Oper) (hs m : List RO), compOps P nt ops l hs = some m → m.length = l.length ∧ ∀ (i : Nat) (o : Oper), l[i]? = some o → ∃ hk ro, m[i]? = some ro ∧ compRO P nt ops o hk = some ro
  | [], hs, m, h => by
    cases hs with
    | nil => simp only [compOps] at h; injection h with h; subst h; exact ⟨rfl, fun i o h => by simp at h⟩
    | cons _ _ => simp [compOps] at h
  | o :: l, hs, m, h => by
    cases hs with
    | nil => simp [compOps] at h
    | cons hk hs =>
      simp only [compOps] at h
      obtain ⟨ro, h1, h⟩ := Option.bind_eq_some_iff.1 h
      obtain ⟨m', h2, h⟩ := Option.map_eq_some_iff.1 h
      subst h
      obtain ⟨h3, h4⟩ := compOps_at l hs m' h2
      refine ⟨by simp [h3], fun i o' hi => ?_⟩
      cases i with
      | zero => simp at hi; subst hi; exact ⟨_, ro, rfl, h1⟩
      | succ i => simpa using h4 i o' (by simpa using hi)

def unl (listed : Array Bool) (n : Nat) : Nat := ((List.range n).filter fun i => !listed.getD i true).length

theorem filter_le {p q : Nat → Bool} : ∀ l : List Nat, (∀ x ∈ l, p x = true → q x = true) → (l.filter p).length ≤ (l.filter q).length
  | [], _ => Nat.le_refl _
  | x :: l, h => by
    have ih := filter_le l fun y hy => h y (by simp [hy])
    have hx := h x (by simp)
    simp only [List.filter_cons]
    cases hp : p x with
    | false => cases hq : q x <;> simp <;> omega
    | true => rw [hx hp]; simp; omega

theorem filter_lt {p q : Nat → Bool} {y : Nat} : ∀ l : List Nat, (∀ x ∈ l, p x = true → q x = true) → y ∈ l → q y = true → p y = false → (l.filter p).length < (l.filter q).length
  | [], _, hy, _, _ => by cases hy
  | x :: l, h, hy, hq, hp => by
    have h' : ∀ z ∈ l, p z = true → q z = true := fun z hz => h z (by simp [hz])
    simp only [List.filter_cons]
    by_cases hxy : x = y
    · subst hxy
      rw [hq, hp]
      have := filter_le l h'
      simp; omega
    · have hyl : y ∈ l := by
        rcases List.mem_cons.1 hy with e | e
        · exact absurd e.symm hxy
        · exact e
      have ih := filter_lt l h' hyl hq hp
      have hx := h x (by simp)
      cases hp' : p x with
      | false => cases hq' : q x <;> simp <;> omega
      | true => rw [hx hp']; simp; omega

theorem unl_set {listed : Array Bool} {n i : Nat} (hi : i < n) (hn : listed.getD i true = false) : unl (listed.setIfInBounds i true) n < unl listed n := by
  have his : i < listed.size := by
    rcases Nat.lt_or_ge i listed.size with h | h
    · exact h
    · rw [Array.getD_eq_getD_getElem?, Array.getElem?_eq_none h] at hn; cases hn
  unfold unl
  refine filter_lt (y := i) _ (fun x _ hx => ?_) (List.mem_range.2 hi) (by rw [hn]; rfl) ?_
  · by_cases hxi : i = x
    · subst hxi; rw [hn]; rfl
    · rw [getD_set_ne true hxi] at hx; exact hx
  · rw [Array.getD_eq_getD_getElem?, Array.getElem?_setIfInBounds, if_pos rfl, if_pos his]; rfl

theorem wpAny_D (hp : DrawP ops m an) {hs : List RO} (hc : compOps P nt ops ops.toList hs = some m) (ht : TrOk P m base env ob tr) (hob : ∀ id, base ≤ id → ob id = none) {Q : Exit → Act → World → Prop}
    (hQ : ∀ a w own loc, SR nt n0 w0 own0 loc0 (cenv m tr env m.length) (apps (cob m tr ob m.length) (qUps m tr m.length)) a w own loc → (∀ id, base + m.length ≤ id → loc id = none) → Q .normal a w) :
    ∀ (fuel : Nat) (listed : Array Bool) (k : Nat) (a : Act) (w : World) (own : Nat → Option Nat) (loc : Loc), listed.size = ops.size → Clo ops (fun i => listed.getD i false = true) → Upto m (fun i => listed.getD i false = true) k →
      SR nt n0 w0 own0 loc0 (envD m tr env fun i => listed.getD i false = true) (obD m tr base ob (fun i => listed.getD i false = true) k) a w own loc →
      (∀ id, base + m.length ≤ id → loc id = none) → (∀ i, i < m.length → ¬ listed.getD i false = true → loc (base + i) = none) → unl listed ops.size ≤ fuel → wpAny P .any ops Q fuel listed a w := by
  have fin : ∀ (listed : Array Bool) (k : Nat) (a : Act) (w : World) (own : Nat → Option Nat) (loc : Loc), listed.size = ops.size → Upto m (fun i => listed.getD i false = true) k →
      SR nt n0 w0 own0 loc0 (envD m tr env fun i => listed.getD i false = true) (obD m tr base ob (fun i => listed.getD i false = true) k) a w own loc →
      (∀ id, base + m.length ≤ id → loc id = none) → Region.ready .any ops listed = [] → Q .normal a w := by
    intro listed k a w own loc hsz hu h hf hr
    have hall := ready_all hp hsz hr
    have hlt : ∀ (i : Nat) (o : RO), m[i]? = some o → listed.getD i false = true := fun i o hi => hall i (by rw [hp.len]; exact (List.getElem?_eq_some_iff.1 hi).1)
    have e1 : (envD m tr env fun i => listed.getD i false = true) = cenv m tr env m.length := by
      funext t
      by_cases hex : ∃ (i : Nat) (o : RO), m[i]? = some o ∧ o.d = some t
      · obtain ⟨i, o, hi, hd⟩ := hex
        rw [envD_in hp hi hd (hlt i o hi), cenv_in hp hi hd _ (List.getElem?_eq_some_iff.1 hi).1]
      · rw [envD_out fun i o hi hd _ => hex ⟨i, o, hi, hd⟩, cenv_out _ fun i o _ hi hd => hex ⟨i, o, hi, hd⟩]
    have e2 : cob m tr ob k = cob m tr ob m.length := by
      rcases Nat.le_total k m.length with h1 | h1
      · refine (cob_same m.length h1 fun i o h2 h3 hi => ?_).symm
        cases hl : isLoud o.op with
        | false => rfl
        | true => have := (hu i o hi hl).1 (hlt i o hi); omega
      · refine cob_same k h1 fun i o h2 h3 hi => ?_
        have := (List.getElem?_eq_some_iff.1 hi).1; omega
    have e3 : obD m tr base ob (fun i => listed.getD i false = true) k = apps (cob m tr ob m.length) (qUps m tr m.length) := by
      rw [qUps_all ht hob _ (fun i o hi hl => cob_quiet ht hob hi hl _)]
      funext id
      simp only [obD]
      rw [e2]
      congr 1
      by_cases hex : ∃ i, id = base + i ∧ i < m.length
      · obtain ⟨i, rfl, hi⟩ := hex
        exact qD_congr fun i' hi' => by
          obtain rfl : i = i' := by omega
          exact ⟨fun _ => hi, fun _ => hall i (by rw [hp.len]; exact hi)⟩
      · rw [qD_none fun i o h0 h1 h2 h3 h4 => hex ⟨i, h0, (List.getElem?_eq_some_iff.1 h1).1⟩, qD_none fun i o h0 h1 h2 h3 h4 => hex ⟨i, h0, (List.getElem?_eq_some_iff.1 h1).1⟩]
    rw [e1, e3] at h
    exact hQ a w own loc h hf
  intro fuel
  induction fuel with
  | zero =>
    intro listed k a w own loc hsz hcl hu h hf hf2 hfu
    have hr : Region.ready .any ops listed = [] := by
      cases hrr : Region.ready .any ops listed with
      | nil => rfl
      | cons i l =>
        have hi : i ∈ Region.ready .any ops listed := by rw [hrr]; simp
        obtain ⟨h1, o, h2, h3⟩ := mem_ready.1 hi
        have : i ∈ (List.range ops.size).filter fun i => !listed.getD i true := List.mem_filter.2 ⟨List.mem_range.2 (Array.getElem?_eq_some_iff.1 h2).1, by simp [h1]⟩
        have hp := List.length_pos_of_mem this
        unfold unl at hfu; omega
    exact ⟨hr, fin listed k a w own loc hsz hu h hf hr⟩
  | succ fuel ih =>
    intro listed k a w own loc hsz hcl hu h hf hf2 hfu
    refine ⟨fun hr => fin listed k a w own loc hsz hu h hf hr, fun j hj => ?_⟩
    obtain ⟨h1, o, ho, he⟩ := mem_ready.1 hj
    have hjs : j < ops.size := (Array.getElem?_eq_some_iff.1 ho).1
    have hjm : j < m.length := by rw [← hp.len]; exact hjs
    have hn : ¬ listed.getD j false = true := by
      simp only [Array.getD_eq_getD_getElem?] at h1 ⊢
      rw [Array.getElem?_eq_getElem (by omega)] at h1 ⊢
      simpa using h1
    obtain ⟨hk, ro, hro, hcr⟩ := (compOps_at _ _ _ hc).2 j o (by rw [Array.getElem?_toList]; exact ho)
    have hrd : Rdy ops (fun i => listed.getD i false = true) j := fun o' ho' e he' hb => by
      rw [ho] at ho'; injection ho' with ho'; subst ho'; exact he e he' hb
    have hD : (fun i => (listed.setIfInBounds j true).getD i false = true) = fun i => listed.getD i false = true ∨ i = j := by
      funext i
      simp only [Array.getD_eq_getD_getElem?, Array.getElem?_setIfInBounds]
      by_cases hij : j = i
      · subst hij; simp [show j < listed.size by omega]
      · rw [if_neg hij]; simp [Ne.symm hij]
    have hcl' : Clo ops (fun i => listed.getD i false = true ∨ i = j) := fun i o' hi hDi e he' hb => by
      rcases hDi with hDi | rfl
      · exact .inl (hcl i o' hi hDi e he' hb)
      · exact .inl (hrd o' hi e he' hb)
    have hunl := unl_set (listed := listed) hjs h1
    have hxs : ro.xs.map (ev (envD m tr env fun i => listed.getD i false = true)) = ro.xs.map (ev (cenv m tr env j)) := by
      refine List.map_congr_left fun x hx => ?_
      cases x with
      | k v => rfl
      | t n => exact look_eq hp hcl hro hrd hn (List.mem_append_left _ (List.mem_filterMap.2 ⟨.t n, hx, rfl⟩))
    have hg := gd_env (env' := envD m tr env fun i => listed.getD i false = true) (fun t want hgt => (look_eq hp hcl hro hrd hn (t := t) (List.mem_append_right _ (by rw [hgt]; simp))).symm) (ht j ro hro)
    have next : ∀ (k' : Nat) (a' : Act) (w' : World) (own' : Nat → Option Nat) (loc' : Loc), Upto m (fun i => listed.getD i false = true ∨ i = j) k' →
        SR nt n0 w0 own0 loc0 (envD m tr env fun i => listed.getD i false = true ∨ i = j) (obD m tr base ob (fun i => listed.getD i false = true ∨ i = j) k') a' w' own' loc' →
        (∀ id, id ≠ base + j → loc id = none → loc' id = none) → wpAny P .any ops Q fuel (listed.setIfInBounds j true) a' w' := fun k' a' w' own' loc' hu' hsr hl => by
      refine ih _ k' a' w' own' loc' (by simp [hsz]) (by rw [hD]; exact hcl') (by rw [hD]; exact hu') (by rw [hD]; exact hsr) (fun id hid => hl id (by omega) (hf id hid)) (fun i hi hni => ?_) (by omega)
      have hni' := fun h => hni (by have := congrFun hD i; exact this.symm ▸ h)
      refine hl _ (fun e => hni' (.inr (by omega))) (hf2 i hi fun h => hni' (.inl h))
    unfold wpOp
    rw [ho]
    simp only
    rcases gd_wanted h hcr hg with ⟨hw, hx, hR⟩ | ⟨hw, hx⟩
    · rw [if_pos hw]
      left
      have hnq : ∀ id x, cob m tr ob k id = some x → obD m tr base ob (fun i => listed.getD i false = true) k id = some x := fun id x hid => by
        simp only [obD]
        rw [qD_none fun i o' h0 h1 h2 h3 h4 => by rw [h0, cob_quiet ht hob h1 h2 k] at hid; cases hid]
        exact hid
      have hR' : OpR P ro.op (ro.xs.map (ev (envD m tr env fun i => listed.getD i false = true))) (cob m tr ob k) (base + j) (tr j).r (tr j).us := by
        rw [hxs]
        cases hrr : noRead ro.op with
        | false => rw [← cob_ready hp hcl hro hrd hn hu hrr]; exact hR
        | true =>
          unfold OpR at hR ⊢
          split at hR
          · rename_i heq; rw [heq] at hrr; simp [noRead] at hrr
          · rename_i heq; rw [heq] at hrr; simp [noRead] at hrr
          · rw [opF_noRead hrr _ _ (cob m tr ob j)]; exact hR
      refine op_wp h hcr hnq (hf2 j hjm hn) hR' fun x w' own' loc' hsr hst hl => ?_
      obtain ⟨k', hk1, hk2⟩ := obD_step ht hob hp hcl hro hrd hn hu hx
      rw [hk2] at hsr
      have hv : (tr j).val = (tr j).r := by simp [Rec.val, hx]
      rw [← hv, envD_put hp hro hn] at hsr
      exact next k' _ _ _ _ hk1 hsr hl
    · rw [if_neg (by rw [hw]; simp)]
      obtain ⟨k', hk1, hk2⟩ := obD_skip (base := base) (ob := ob) hp hcl hro hrd hn hu hx
      have hd := compRO_d hcr
      have hsr := h.put (d := o.dst) hd.2 (r := .c undef) (x := undef) (.c _) h.wf (.refl _ _ _)
      have hv : (tr j).val = .c undef := by simp [Rec.val, hx]
      rw [← hd.1, ← hv, envD_put hp hro hn, hk2] at hsr
      rw [← hd.1]
      exact next k' _ _ _ _ hk1 hsr fun _ _ h => h

/-- A region in whatever order. -/
theorem wpD_sound (hm : P.follows .mixedOrders = true) {id : Nat} (hd : drawOK ops m = true) {hs : List RO} (hc : compOps P nt ops ops.toList hs = some m) {Q : Exit → Act → World → Prop} {K : Env → OB → Prop}
    {a : Act} {w : World} {own : Nat → Option Nat} {loc : Loc} (h : SR nt n0 w0 own0 loc0 env ob a w own loc) (hf : ∀ id, base ≤ id → loc id = none) (hw : wpD P m base env ob [] K)
    (hQ : ∀ env ob a w own loc, SR nt n0 w0 own0 loc0 env ob a w own loc → (∀ id, base + m.length ≤ id → loc id = none) → K env ob → Q .normal a w) : (Code.region id ops true).wp P Q a w := by
  obtain ⟨tr, ht, hK⟩ := wpD_tr m base env ob [] hw
  rw [List.nil_append] at hK
  have hp := drawOK_spec hd
  have hob : ∀ id, base ≤ id → ob id = none := fun id hid => by
    cases ho : ob id with
    | none => rfl
    | some X => obtain ⟨p, h1, _⟩ := h.wf.has id X ho; rw [hf id hid] at h1; cases h1
  refine wp_region_any hm (wpAny_D (nt := nt) (n0 := n0) (w0 := w0) (own0 := own0) (loc0 := loc0) hp hc ht hob (fun a w own loc hsr hfr => hQ _ _ a w own loc hsr hfr hK) ops.size _ 0 a _ own loc (by simp) (fun j o ho hD e he hb => ?_) (fun i o hi hl => ?_) ?_ (fun id hid => hf id (by omega)) (fun i hi _ => hf _ (by omega)) ?_)
  · simp [Array.getD_eq_getD_getElem?, Array.getElem?_replicate] at hD
    split at hD <;> simp at hD
  · simp [Array.getD_eq_getD_getElem?, Array.getElem?_replicate]
    split <;> simp
  · have e1 : (envD m tr env fun i => (Array.replicate ops.size false).getD i false = true) = env := by
      funext t
      refine envD_out fun i o _ _ hD => ?_
      simp [Array.getD_eq_getD_getElem?, Array.getElem?_replicate] at hD
      split at hD <;> simp at hD
    have e2 : obD m tr base ob (fun i => (Array.replicate ops.size false).getD i false = true) 0 = ob := by
      funext id
      simp only [obD]
      rw [qD_none fun i o h0 h1 h2 h3 h4 => ?_]
      · rfl
      · simp [Array.getD_eq_getD_getElem?, Array.getElem?_replicate] at h3
        split at h3 <;> simp at h3
    rw [e1, e2]
    have hdr := Stp.drew w own loc
    exact ⟨h.defers, h.size, h.wf.drew, fun t => (h.vals t).stp hdr, h.stp.trans hdr, h.le, h.new⟩
  · unfold unl
    exact Nat.le_trans (List.length_filter_le _ _) (by simp)

end
end Go.Proofs.Ytamdidmfcjdcgaa.D
