/- Code over plain values. No condition. -/
import Derived.Test.YtamdidmfcjdcgaaD16
set_option linter.unusedVariables false
set_option linter.unusedSectionVars false
set_option linter.unusedSimpArgs false
set_option linter.constructorNameAsVariable false
namespace Go.Proofs.Ytamdidmfcjdcgaa.D
open Go Go.RowKit

section
variable {P : Program} {nt n0 : Nat} {w0 : World} {own0 : Nat → Option Nat} {loc0 : Loc} [Bk]

/-- A guard, in the machine. -/
theorem gd_wanted {env : Env} {ob : OB} {a : Act} {w : World} {own : Nat → Option Nat} {loc : Loc} (h : SR nt n0 w0 own0 loc0 env ob a w own loc) {ops : Array Oper} {o : Oper} {hk : Ok} {ro : RO} (hc : compRO P nt ops o hk = some ro) {A B : Prop} (hg : gd ro.g env A B) :
    (Region.wanted o (yielded ops a.tmps) = true ∧ A) ∨ (Region.wanted o (yielded ops a.tmps) = false ∧ B) := by
  unfold compRO at hc
  split at hc
  case isFalse => cases hc
  obtain ⟨g, hgu, hc⟩ := Option.bind_eq_some_iff.1 hc
  obtain ⟨⟨op, os⟩, hq, hc⟩ := Option.bind_eq_some_iff.1 hc
  obtain ⟨xs, hxs, hc⟩ := Option.map_eq_some_iff.1 hc
  subst hc
  simp only at hg
  split at hgu
  · rename_i hgn
    injection hgu with hgu; subst hgu
    exact .inl ⟨by simp [Region.wanted, hgn], hg⟩
  · rename_i j want hgn
    obtain ⟨t, ht, hgu⟩ := Option.map_eq_some_iff.1 hgu
    subst hgu
    obtain ⟨b, hb, h1, h2⟩ := hg
    have hv := h.vals t
    have hy : yielded ops a.tmps j = b := by
      unfold yielded
      rw [ht]
      simp only [Option.bind_some]
      cases b with
      | some b =>
        rw [hb] at hv
        have hx := RV.c_inv hv
        rw [Array.getD_eq_getD_getElem?] at hx
        cases hq : a.tmps[t]? with
        | none => rw [hq] at hx; simp [undef] at hx
        | some y => rw [hq] at hx; simp at hx; subst hx; rfl
      | none =>
        rw [hb] at hv
        have hx := RV.c_inv hv
        rw [Array.getD_eq_getD_getElem?] at hx
        cases hq : a.tmps[t]? with
        | none => rfl
        | some y => rw [hq] at hx; simp at hx; subst hx; rfl
    by_cases hbw : b = some want
    · exact .inl ⟨by simp [Region.wanted, hgn, hy, hbw], h1 hbw⟩
    · exact .inr ⟨by simp [Region.wanted, hgn, hy, hbw], h2 hbw⟩

theorem compRO_d {ops : Array Oper} {o : Oper} {hk : Ok} {ro : RO} (hc : compRO P nt ops o hk = some ro) : ro.d = o.dst ∧ dstOk nt o.dst = true := by
  unfold compRO at hc
  split at hc
  case isFalse => cases hc
  rename_i hd
  obtain ⟨g, hgu, hc⟩ := Option.bind_eq_some_iff.1 hc
  obtain ⟨⟨op, os⟩, hq, hc⟩ := Option.bind_eq_some_iff.1 hc
  obtain ⟨xs, hxs, hc⟩ := Option.map_eq_some_iff.1 hc
  subst hc
  exact ⟨rfl, hd⟩

/-- A region in its one order. -/
theorem wpS_sound {ops : Array Oper} {Q : Exit → Act → World → Prop} {K : Env → OB → Nat → Prop} : ∀ (l : List Oper) (hs m : List RO) (nid : Nat) (env : Env) (ob : OB) (a : Act) (w : World) (own : Nat → Option Nat) (loc : Loc),
    compOps P nt ops l hs = some m → SR nt n0 w0 own0 loc0 env ob a w own loc → (∀ id, nid ≤ id → loc id = none) → wpS P m nid env ob K →
    (∀ env ob a w own loc n, SR nt n0 w0 own0 loc0 env ob a w own loc → (∀ id, n ≤ id → loc id = none) → K env ob n → Q .normal a w) → wpList P ops Q l a w
  | [], hs, m, nid, env, ob, a, w, own, loc, hc, h, hf, hw, hQ => by
    cases hs with
    | cons _ _ => simp [compOps] at hc
    | nil => simp only [compOps] at hc; injection hc with hc; subst hc; exact hQ env ob a w own loc nid h hf hw
  | o :: l, hs, m, nid, env, ob, a, w, own, loc, hc, h, hf, hw, hQ => by
    cases hs with
    | nil => simp [compOps] at hc
    | cons hk hs =>
      simp only [compOps] at hc
      obtain ⟨ro, hro, hc⟩ := Option.bind_eq_some_iff.1 hc
      obtain ⟨m', hm', hc⟩ := Option.map_eq_some_iff.1 hc
      subst hc
      simp only [wpS] at hw
      have hd := compRO_d hro
      unfold wpList
      rcases gd_wanted h hro hw with ⟨h1, hK⟩ | ⟨h1, hK⟩
      · rw [if_pos h1]
        left
        exact step_wp h hro hf hK fun x r ob' n' w' own' loc' hsr hf' hC => wpS_sound l hs m' n' _ _ _ _ _ _ hm' hsr hf' hC hQ
      · rw [if_neg (by rw [h1]; simp)]
        have hsr := h.put (d := o.dst) hd.2 (r := .c undef) (x := undef) (.c _) h.wf (.refl _ _ _)
        rw [hd.1] at hK
        exact wpS_sound l hs m' (nid + 1) _ _ _ _ _ _ hm' hsr (fun id hid => hf id (by omega)) hK hQ

end

/-- How code is left. -/
inductive Ex where
  | nrm
  | ex (id : Nat)
  | rt

/-- Code, told over. -/
inductive IC where
  | skip
  | rg (ops : List RO) (draw : Bool)
  | sq (a b : IC)
  | cn (c : Od) (a b : IC)
  | bl (id : Nat) (c : IC)
  | lp (c : IC)
  | ex (id : Nat)
  | rt

abbrev Post := Ex → Env → OB → Nat → Prop

end Go.Proofs.Ytamdidmfcjdcgaa.D
