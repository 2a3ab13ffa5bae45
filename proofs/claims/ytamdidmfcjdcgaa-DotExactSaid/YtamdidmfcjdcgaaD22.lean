/- Code and functions over plain values. No condition. -/
import Derived.Test.YtamdidmfcjdcgaaD21
set_option linter.unusedVariables false
set_option linter.unusedSectionVars false
set_option linter.unusedSimpArgs false
set_option linter.constructorNameAsVariable false
namespace Go.Proofs.Ytamdidmfcjdcgaa.D
open Go Go.RowKit

/-- The code that was told over; the second one says how calls are taken. -/
def compC (P : Program) (nt : Nat) : Code → IC → Option IC
  | .skip, .skip => some .skip
  | .region _ ops draw, .rg hs d => (compOps P nt ops ops.toList hs).bind fun m => if draw == d && (!d || (P.follows .mixedOrders && drawOK ops m)) then some (.rg m d) else none
  | .seq a b, .sq c d => (compC P nt a c).bind fun x => (compC P nt b d).map fun y => .sq x y
  | .cond c a b, .cn _ d e => (comOd nt c).bind fun q => (compC P nt a d).bind fun x => (compC P nt b e).map fun y => .cn q x y
  | .block id c, .bl _ d => (compC P nt c d).map fun x => .bl id x
  | .loop c, .lp d => (compC P nt c d).map .lp
  | .exit id, .ex _ => some (.ex id)
  | .ret, .rt => some .rt
  | _, _ => none

/-- What is asked behind code: of the code that follows, of a block's end, of a round. -/
def thenQ (f : Env → OB → Nat → Prop) (Q : Post) : Post := fun e env ob n => match e with
  | .nrm => f env ob n
  | e => Q e env ob n
def blQ (id : Nat) (Q : Post) : Post := fun e env ob n => match e with
  | .ex j => if j = id then Q .nrm env ob n else Q (.ex j) env ob n
  | e => Q e env ob n
def lpQ (I : Env → OB → Nat → Prop) (μ : Env → OB → Nat → Nat) (k : Nat) (Q : Post) : Post := fun e env ob n => match e with
  | .nrm => I env ob n ∧ μ env ob n < k
  | e => Q e env ob n
def kS (Q : Post) : Env → OB → Nat → Prop := fun env ob n => Q .nrm env ob n
def kN (Q : Post) (m : Nat) : Env → OB → Prop := fun env ob => Q .nrm env ob m
def cnd (v : V) (A B : Prop) : Prop := match v with
  | .c (.bool t) => (t = true → A) ∧ (t = false → B)
  | .q => A ∧ B
  | _ => False

/-- What code comes to. -/
def wpC (P : Program) : IC → Post → Env → OB → Nat → Prop
  | .skip, Q, env, ob, n => Q .nrm env ob n
  | .rg ops false, Q, env, ob, n => wpS P ops n env ob (kS Q)
  | .rg ops true, Q, env, ob, n => wpD P ops n env ob [] (kN Q (n + ops.length))
  | .sq a b, Q, env, ob, n => wpC P a (thenQ (wpC P b Q) Q) env ob n
  | .cn c a b, Q, env, ob, n => cnd (ev env c) (wpC P a Q env ob n) (wpC P b Q env ob n)
  | .bl id c, Q, env, ob, n => wpC P c (blQ id Q) env ob n
  | .lp c, Q, env, ob, n => ∃ (I : Env → OB → Nat → Prop) (μ : Env → OB → Nat → Nat), I env ob n ∧ ∀ env ob n, I env ob n → wpC P c (lpQ I μ (μ env ob n) Q) env ob n
  | .ex id, Q, env, ob, n => Q (.ex id) env ob n
  | .rt, Q, env, ob, n => Q .rt env ob n

section
variable {P : Program} {nt n0 : Nat} {w0 : World} {own0 : Nat → Option Nat} {loc0 : Loc} [Bk]

/-- What the machine stands in. -/
def Stands (nt n0 : Nat) (w0 : World) (own0 : Nat → Option Nat) (loc0 : Loc) (R : Env → OB → Nat → Prop) (a : Act) (w : World) : Prop :=
  ∃ env ob n own loc, SR nt n0 w0 own0 loc0 env ob a w own loc ∧ (∀ id, n ≤ id → loc id = none) ∧ R env ob n

def post (nt n0 : Nat) (w0 : World) (own0 : Nat → Option Nat) (loc0 : Loc) (Q : Post) : Exit → Act → World → Prop
  | .normal, a, w => Stands nt n0 w0 own0 loc0 (Q .nrm) a w
  | .exit id, a, w => Stands nt n0 w0 own0 loc0 (Q (.ex id)) a w
  | .ret, a, w => Stands nt n0 w0 own0 loc0 (Q .rt) a w
  | _, _, _ => False

theorem wpC_sound : ∀ (c : Code) (h i : IC), compC P nt c h = some i → ∀ (Q : Post) (a : Act) (w : World), Stands nt n0 w0 own0 loc0 (wpC P i Q) a w → c.wp P (post nt n0 w0 own0 loc0 Q) a w := by
  intro c
  induction c with
  | skip =>
    intro h i hc Q a w hs
    cases h <;> simp only [compC] at hc <;> first | (cases hc; done) | skip
    injection hc with hc; subst hc
    exact wp_skip hs
  | region id ops draw =>
    intro h i hc Q a w hs
    cases h <;> simp only [compC] at hc <;> first | (cases hc; done) | skip
    rename_i hs' d
    obtain ⟨m, hm, hc⟩ := Option.bind_eq_some_iff.1 hc
    split at hc
    case isFalse => cases hc
    rename_i hcond
    simp only [Bool.and_eq_true, Bool.or_eq_true, beq_iff_eq, Bool.not_eq_true'] at hcond
    injection hc with hc; subst hc
    obtain ⟨env, ob, n, own, loc, hsr, hf, hw⟩ := hs
    have hlen := (compOps_at _ _ _ hm).1
    have hls : ops.toList.length = m.length := hlen.symm
    cases d with
    | false =>
      obtain ⟨hdr, _⟩ := hcond
      subst hdr
      refine wp_region_list (wpS_sound _ _ _ n env ob a w own loc hm hsr hf hw fun env ob a w own loc n h1 h2 h3 => ⟨env, ob, n, own, loc, h1, h2, h3⟩)
    | true =>
      obtain ⟨hdr, hx⟩ := hcond
      subst hdr
      obtain ⟨hmx, hdo⟩ := hx.resolve_left (by simp)
      exact wpD_sound hmx hdo hm hsr hf hw fun env ob a w own loc h1 h2 h3 => ⟨env, ob, _, own, loc, h1, h2, h3⟩
  | seq x y ihx ihy =>
    intro h i hc Q a w hs
    cases h <;> simp only [compC] at hc <;> first | (cases hc; done) | skip
    obtain ⟨i1, h1, hc⟩ := Option.bind_eq_some_iff.1 hc
    obtain ⟨i2, h2, hc⟩ := Option.map_eq_some_iff.1 hc
    subst hc
    refine wp_seq (wp_mono (ihx _ _ h1 _ a w hs) fun e a w hq => ?_)
    cases e with
    | normal => exact ihy _ _ h2 Q a w hq
    | exit id => exact hq
    | ret => exact hq
    | _ => exact hq
  | cond c x y ihx ihy =>
    intro h i hc Q a w hs
    cases h <;> simp only [compC] at hc <;> first | (cases hc; done) | skip
    obtain ⟨q, hq, hc⟩ := Option.bind_eq_some_iff.1 hc
    obtain ⟨i1, h1, hc⟩ := Option.bind_eq_some_iff.1 hc
    obtain ⟨i2, h2, hc⟩ := Option.map_eq_some_iff.1 hc
    subst hc
    obtain ⟨env, ob, n, own, loc, hsr, hf, hw⟩ := hs
    have hv := ev_rv hsr hq
    simp only [wpC, cnd] at hw
    split at hw
    · rename_i t heq
      rw [heq] at hv
      refine wp_cond_split hv.c_inv (fun ht => ihx _ _ h1 Q a w ⟨env, ob, n, own, loc, hsr, hf, hw.1 ht⟩) (fun ht => ihy _ _ h2 Q a w ⟨env, ob, n, own, loc, hsr, hf, hw.2 ht⟩)
    · rename_i heq
      rw [heq] at hv
      have : ∃ b, a.eval c = .bool b := by
        generalize a.eval c = z at hv
        cases hv; exact ⟨_, rfl⟩
      obtain ⟨b, hb⟩ := this
      refine wp_cond_split hb (fun _ => ihx _ _ h1 Q a w ⟨env, ob, n, own, loc, hsr, hf, hw.1⟩) (fun _ => ihy _ _ h2 Q a w ⟨env, ob, n, own, loc, hsr, hf, hw.2⟩)
    · exact hw.elim
  | block id c ih =>
    intro h i hc Q a w hs
    cases h <;> simp only [compC] at hc <;> first | (cases hc; done) | skip
    obtain ⟨i1, h1, hc⟩ := Option.map_eq_some_iff.1 hc
    subst hc
    refine wp_block (wp_mono (ih _ _ h1 _ a w hs) fun e a w hq => ?_)
    cases e with
    | normal => exact hq
    | exit j =>
      obtain ⟨env, ob, n, own, loc, hsr, hf, hw⟩ := hq
      simp only [Exit.inBlock]
      simp only [blQ] at hw
      by_cases hj : j = id
      · rw [if_pos hj] at hw ⊢; exact ⟨env, ob, n, own, loc, hsr, hf, hw⟩
      · rw [if_neg hj] at hw ⊢; exact ⟨env, ob, n, own, loc, hsr, hf, hw⟩
    | ret => exact hq
    | _ => exact hq
  | loop c ih =>
    intro h i hc Q a w hs
    cases h <;> simp only [compC] at hc <;> first | (cases hc; done) | skip
    obtain ⟨i1, h1, hc⟩ := Option.map_eq_some_iff.1 hc
    subst hc
    obtain ⟨env, ob, n, own, loc, hsr, hf, I, μ, hI, hround⟩ := hs
    let R : Nat → Act → World → Prop := fun k a w => Stands nt n0 w0 own0 loc0 (fun env ob n => I env ob n ∧ μ env ob n = k) a w
    have hmin : ∀ a w, (∃ k, R k a w) → ∃ k, R k a w ∧ ∀ j, R j a w → k ≤ j := fun a w ⟨k, hk⟩ => by
      induction k using Nat.strongRecOn with
      | _ k ih2 =>
        by_cases hex : ∃ j, j < k ∧ R j a w
        · obtain ⟨j, hj1, hj2⟩ := hex; exact ih2 j hj1 hj2
        · exact ⟨k, hk, fun j hj => Classical.byContradiction fun hlt => hex ⟨j, by omega, hj⟩⟩
    let M : Act → World → Nat := fun a w => by classical exact if h : ∃ k, R k a w then Classical.choose (hmin a w h) else 0
    have hM : ∀ a w, (∃ k, R k a w) → R (M a w) a w ∧ ∀ j, R j a w → M a w ≤ j := fun a w h => by
      have := Classical.choose_spec (hmin a w h)
      simp only [M, dif_pos h]; exact this
    refine wp_loop (fun a w => ∃ k, R k a w) M ⟨_, env, ob, n, own, loc, hsr, hf, hI, rfl⟩ fun a w hR => ?_
    obtain ⟨env, ob, n, own, loc, hsr, hf, hI, hk⟩ := (hM a w hR).1
    refine wp_mono (ih _ _ h1 _ a w ⟨env, ob, n, own, loc, hsr, hf, hround env ob n hI⟩) fun e a' w' hq => ?_
    cases e with
    | normal =>
      obtain ⟨env', ob', n', own', loc', hsr', hf', hI', hlt⟩ := hq
      have hR' : R (μ env' ob' n') a' w' := ⟨env', ob', n', own', loc', hsr', hf', hI', rfl⟩
      refine ⟨⟨_, hR'⟩, ?_⟩
      have := (hM a' w' ⟨_, hR'⟩).2 _ hR'
      omega
    | exit id => exact hq
    | ret => exact hq
    | _ => exact hq
  | exit id =>
    intro h i hc Q a w hs
    cases h <;> simp only [compC] at hc <;> first | (cases hc; done) | skip
    injection hc with hc; subst hc
    exact wp_exit hs
  | ret =>
    intro h i hc Q a w hs
    cases h <;> simp only [compC] at hc <;> first | (cases hc; done) | skip
    injection hc with hc; subst hc
    exact wp_ret hs
  | _ =>
    intro h i hc
    cases h <;> simp [compC] at hc

end
end Go.Proofs.Ytamdidmfcjdcgaa.D
