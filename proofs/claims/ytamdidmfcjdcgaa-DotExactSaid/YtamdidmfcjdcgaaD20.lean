/- Regions over plain values, in whatever order. No condition. -/
import Derived.Test.YtamdidmfcjdcgaaD19
set_option linter.unusedVariables false
set_option linter.unusedSectionVars false
set_option linter.unusedSimpArgs false
set_option linter.constructorNameAsVariable false
namespace Go.Proofs.Ytamdidmfcjdcgaa.D
open Go Go.RowKit

section
variable {P : Program} {ops : Array Oper} {m : List RO} {an : List Nat} {tr : Nat → Rec} {env : Env} {ob : OB} {base : Nat}

theorem put_some (env : Env) (n : Nat) (v : V) (t : Nat) : put env (some n) v t = if t = n then v else env t := rfl

theorem gd_true {g : Option (Nat × Bool)} {env : Env} {x : Bool} {R : Prop} (h : gd g env (x = true ∧ R) (x = false)) (hx : x = true) : R := by
  unfold gd at h
  split at h
  · exact h.2
  · rename_i t want
    obtain ⟨b, h1, h2, h3⟩ := h
    by_cases hb : b = some want
    · exact (h2 hb).2
    · rw [h3 hb] at hx; cases hx

/-- The temporaries where D has come up. -/
noncomputable def envD (m : List RO) (tr : Nat → Rec) (env : Env) (D : Nat → Prop) : Env := fun t => by
  classical exact if h : ∃ i, D i ∧ ∃ o, m[i]? = some o ∧ o.d = some t then (tr (Classical.choose h)).val else env t

theorem envD_in (hp : DrawP ops m an) {D : Nat → Prop} {i t : Nat} {o : RO} (hi : m[i]? = some o) (hd : o.d = some t) (hD : D i) : envD m tr env D t = (tr i).val := by
  have h : ∃ i, D i ∧ ∃ o, m[i]? = some o ∧ o.d = some t := ⟨i, hD, o, hi, hd⟩
  unfold envD
  rw [dif_pos h]
  obtain ⟨h1, o', h2, h3⟩ := Classical.choose_spec h
  have : Classical.choose h = i := Classical.byContradiction fun hne => hp.dst _ _ o' o t hne h2 hi h3 hd
  rw [this]

theorem envD_out {D : Nat → Prop} {t : Nat} (h : ∀ (i : Nat) (o : RO), m[i]? = some o → o.d = some t → ¬ D i) : envD m tr env D t = env t := by
  unfold envD
  rw [dif_neg]
  rintro ⟨i, h1, o, h2, h3⟩
  exact h i o h2 h3 h1

theorem cenv_in (hp : DrawP ops m an) {i t : Nat} {o : RO} (hi : m[i]? = some o) (hd : o.d = some t) : ∀ j, i < j → cenv m tr env j t = (tr i).val
  | 0, h => by omega
  | j + 1, h => by
    simp only [cenv]
    cases hj : m[j]? with
    | none => 
      have : i < j := by
        have := (List.getElem?_eq_some_iff.1 hi).1
        have := List.getElem?_eq_none_iff.1 hj
        omega
      exact cenv_in hp hi hd j this
    | some q =>
      by_cases hij : i = j
      · subst hij
        rw [hj] at hi; injection hi with hi; subst hi
        show put (cenv m tr env i) q.d (tr i).val t = _
        rw [hd, put_some, if_pos rfl]
      · have hne : q.d ≠ some t := hp.dst i j o q t hij hi hj hd
        have ih := cenv_in hp hi hd j (by omega)
        show put (cenv m tr env j) q.d (tr j).val t = _
        cases hq : q.d with
        | none => exact ih
        | some n =>
          have : t ≠ n := fun e => hne (by rw [hq, e])
          rw [put_some, if_neg this]; exact ih

theorem cenv_out {t : Nat} : ∀ j, (∀ (i : Nat) (o : RO), i < j → m[i]? = some o → o.d ≠ some t) → cenv m tr env j t = env t
  | 0, _ => rfl
  | j + 1, h => by
    simp only [cenv]
    have ih := cenv_out j fun i o hi => h i o (by omega)
    cases hj : m[j]? with
    | none => exact ih
    | some q =>
      have hne := h j q (by omega) hj
      show put (cenv m tr env j) q.d (tr j).val t = _
      cases hq : q.d with
      | none => exact ih
      | some n =>
        have : t ≠ n := fun e => hne (by rw [hq, e])
        rw [put_some, if_neg this]; exact ih

/-- What an operation looks at is the same, in whatever order. -/
theorem look_eq (hp : DrawP ops m an) {D : Nat → Prop} (hc : Clo ops D) {j : Nat} {oj : RO} (hj : m[j]? = some oj) (hr : Rdy ops D j) (hn : ¬ D j) {t : Nat} (ht : t ∈ looks oj) :
    envD m tr env D t = cenv m tr env j t := by
  by_cases hex : ∃ (i : Nat) (o : RO), m[i]? = some o ∧ o.d = some t
  · obtain ⟨i, o, hi, hd⟩ := hex
    by_cases hij : i = j
    · subst hij
      rw [envD_out, cenv_out]
      · intro i' o' hlt hi' hd'
        exact hp.dst i' i o' o t (by omega) hi' hi hd' hd
      · intro i' o' hi' hd' hD
        by_cases h : i' = i
        · subst h; exact hn hD
        · exact hp.dst i' i o' o t h hi' hi hd' hd
    · have hiff := cmp_iff hp hij (hp.look i j o oj t hij hi hj hd ht) hc hr hn
      by_cases hlt : i < j
      · rw [envD_in hp hi hd (hiff.2 hlt), cenv_in hp hi hd j hlt]
      · rw [envD_out, cenv_out]
        · intro i' o' hlt' hi' hd'
          exact hp.dst i' i o' o t (by omega) hi' hi hd' hd
        · intro i' o' hi' hd' hD
          by_cases h : i' = i
          · subst h; exact hlt (hiff.1 hD)
          · exact hp.dst i' i o' o t h hi' hi hd' hd
  · rw [envD_out, cenv_out]
    · exact fun i o _ hi hd => hex ⟨i, o, hi, hd⟩
    · exact fun i o hi hd _ => hex ⟨i, o, hi, hd⟩

theorem envD_put (hp : DrawP ops m an) {D : Nat → Prop} {j : Nat} {oj : RO} (hj : m[j]? = some oj) (hn : ¬ D j) :
    put (envD m tr env D) oj.d (tr j).val = envD m tr env (fun i => D i ∨ i = j) := by
  funext t
  cases hd : oj.d with
  | none =>
    show envD m tr env D t = _
    by_cases hex : ∃ (i : Nat) (o : RO), m[i]? = some o ∧ o.d = some t ∧ D i
    · obtain ⟨i, o, h1, h2, h3⟩ := hex
      rw [envD_in hp h1 h2 h3, envD_in hp h1 h2 (.inl h3)]
    · rw [envD_out fun i o h1 h2 h3 => hex ⟨i, o, h1, h2, h3⟩, envD_out]
      rintro i o h1 h2 (h3 | h3)
      · exact hex ⟨i, o, h1, h2, h3⟩
      · subst h3; rw [hj] at h1; injection h1 with h1; subst h1; rw [hd] at h2; cases h2
  | some n =>
    rw [put_some]
    by_cases htn : t = n
    · subst htn
      rw [if_pos rfl, envD_in hp hj hd (.inr rfl)]
    · rw [if_neg htn]
      by_cases hex : ∃ (i : Nat) (o : RO), m[i]? = some o ∧ o.d = some t ∧ D i
      · obtain ⟨i, o, h1, h2, h3⟩ := hex
        rw [envD_in hp h1 h2 h3, envD_in hp h1 h2 (.inl h3)]
      · rw [envD_out fun i o h1 h2 h3 => hex ⟨i, o, h1, h2, h3⟩, envD_out]
        rintro i o h1 h2 (h3 | h3)
        · exact hex ⟨i, o, h1, h2, h3⟩
        · subst h3; rw [hj] at h1; injection h1 with h1; subst h1; rw [hd] at h2; injection h2 with h2; exact htn h2.symm

def lookU : Ups → Nat → Option Ob
  | [], _ => none
  | (i, o) :: l, id => if i = id then o else lookU l id

/-- What was made quietly, where D has come up. -/
noncomputable def qD (m : List RO) (tr : Nat → Rec) (base : Nat) (D : Nat → Prop) : OB := fun id => by
  classical exact if h : base ≤ id ∧ ∃ o, m[id - base]? = some o ∧ isLoud o.op = false ∧ D (id - base) ∧ (tr (id - base)).ex = true then lookU (tr (id - base)).us id else none

noncomputable def obD (m : List RO) (tr : Nat → Rec) (base : Nat) (ob : OB) (D : Nat → Prop) (k : Nat) : OB := fun id => (qD m tr base D id).or (cob m tr ob k id)

/-- The quiet numbers hold nothing but what was made quietly. -/
theorem cob_quiet (ht : TrOk P m base env ob tr) (hob : ∀ id, base ≤ id → ob id = none) {i : Nat} {o : RO} (hi : m[i]? = some o) (hl : isLoud o.op = false) : ∀ k, cob m tr ob k (base + i) = none
  | 0 => hob _ (by omega)
  | k + 1 => by
    simp only [cob]
    have ih := cob_quiet ht hob hi hl k
    cases hk : m[k]? with
    | none => exact ih
    | some q =>
      show cond ((tr k).ex && isLoud q.op) (apps (cob m tr ob k) (tr k).us) (cob m tr ob k) (base + i) = none
      cases hx : ((tr k).ex && isLoud q.op) with
      | false => exact ih
      | true =>
        simp only [Bool.and_eq_true] at hx
        have hR : OpR P q.op (q.xs.map (ev (cenv m tr env k))) (cob m tr ob k) (base + k) (tr k).r (tr k).us := by
          exact gd_true (ht k q hk) hx.1
        have hu := loud_ups hR hx.2
        have hik : i ≠ k := by rintro rfl; rw [hi] at hk; injection hk with hk; subst hk; rw [hl] at hx; cases hx.2
        have aux : ∀ (us : Ups) (ob' : OB), ob' (base + i) = none → (∀ p ∈ us, p.1 ≠ base + i) → apps ob' us (base + i) = none := by
          intro us
          induction us with
          | nil => intro ob' h _; exact h
          | cons p us ih2 =>
            intro ob' h hp
            obtain ⟨j, o'⟩ := p
            refine ih2 _ ?_ fun p hp' => hp p (by simp [hp'])
            have := hp (j, o') (by simp)
            show (if base + i = j then o' else ob' (base + i)) = none
            rw [if_neg (fun e => this e.symm)]; exact h
        refine aux _ _ ih fun p hp e => ?_
        rcases hu p hp with h | h
        · rw [e, ih] at h; exact h rfl
        · omega

theorem apps_or : ∀ (us : Ups) (q ob : OB), (∀ p ∈ us, q p.1 = none) → apps (fun id => (q id).or (ob id)) us = fun id => (q id).or (apps ob us id)
  | [], q, ob, _ => rfl
  | (i, o) :: us, q, ob, h => by
    simp only [apps]
    rw [← apps_or us q _ fun p hp => h p (by simp [hp])]
    congr 1
    funext id
    by_cases hid : id = i
    · subst hid; simp [h (id, o) (by simp)]
    · simp [hid]

theorem qD_at {D : Nat → Prop} {i : Nat} {o : RO} (hi : m[i]? = some o) (hl : isLoud o.op = false) (hD : D i) (hx : (tr i).ex = true) : qD m tr base D (base + i) = lookU (tr i).us (base + i) := by
  unfold qD
  have e : base + i - base = i := by omega
  rw [dif_pos ⟨by omega, o, by rw [e]; exact ⟨hi, hl, hD, hx⟩⟩, e]

theorem qD_none {D : Nat → Prop} {id : Nat} (h : ∀ (i : Nat) (o : RO), id = base + i → m[i]? = some o → isLoud o.op = false → D i → (tr i).ex = true → False) : qD m tr base D id = none := by
  unfold qD
  rw [dif_neg]
  rintro ⟨h1, o, h2, h3, h4, h5⟩
  exact h (id - base) o (by omega) h2 h3 h4 h5

theorem qD_congr {D D' : Nat → Prop} {id : Nat} (h : ∀ i, id = base + i → (D i ↔ D' i)) : qD m tr base D id = qD m tr base D' id := by
  by_cases hex : ∃ (i : Nat) (o : RO), id = base + i ∧ m[i]? = some o ∧ isLoud o.op = false ∧ D i ∧ (tr i).ex = true
  · obtain ⟨i, o, rfl, h1, h2, h3, h4⟩ := hex
    rw [qD_at h1 h2 h3 h4, qD_at h1 h2 ((h i rfl).1 h3) h4]
  · rw [qD_none fun i o h0 h1 h2 h3 h4 => hex ⟨i, o, h0, h1, h2, h3, h4⟩, qD_none fun i o h0 h1 h2 h3 h4 => hex ⟨i, o, h0, h1, h2, (h i h0).2 h3, h4⟩]

theorem cob_same {k : Nat} : ∀ j, k ≤ j → (∀ (i : Nat) (o : RO), k ≤ i → i < j → m[i]? = some o → isLoud o.op = false) → cob m tr ob j = cob m tr ob k
  | 0, h, _ => by obtain rfl : k = 0 := by omega
                  rfl
  | j + 1, h, hl => by
    by_cases hk : k = j + 1
    · rw [hk]
    · simp only [cob]
      have ih := cob_same j (by omega) fun i o h1 h2 => hl i o h1 (by omega)
      cases hj : m[j]? with
      | none => exact ih
      | some q =>
        show cond ((tr j).ex && isLoud q.op) _ _ = _
        rw [hl j q (by omega) (by omega) hj, Bool.and_false]; exact ih

/-- The ones that change the store have come up in their order: which is next. -/
def Upto (m : List RO) (D : Nat → Prop) (k : Nat) : Prop := ∀ (i : Nat) (o : RO), m[i]? = some o → isLoud o.op = true → (D i ↔ i < k)

/-- The store, where an operation that reads it comes up. -/
theorem cob_ready (hp : DrawP ops m an) {D : Nat → Prop} (hc : Clo ops D) {j k : Nat} {oj : RO} (hj : m[j]? = some oj) (hr : Rdy ops D j) (hn : ¬ D j) (hu : Upto m D k) (hrd : noRead oj.op = false) : cob m tr ob j = cob m tr ob k := by
  rcases Nat.le_total k j with h | h
  · refine cob_same j h fun i o h1 h2 hi => ?_
    cases hl : isLoud o.op with
    | false => rfl
    | true =>
      have := (cmp_iff hp (by omega) (hp.loud i j o oj (by omega) hi hj hl hrd) hc hr hn).2 h2
      have := (hu i o hi hl).1 this
      omega
  · refine (cob_same k h fun i o h1 h2 hi => ?_).symm
    cases hl : isLoud o.op with
    | false => rfl
    | true =>
      have hD := (hu i o hi hl).2 h2
      by_cases hij : i = j
      · subst hij; exact absurd hD hn
      · have := (cmp_iff hp hij (hp.loud i j o oj hij hi hj hl hrd) hc hr hn).1 hD
        omega

theorem noRead_loud {op : Ok} (h : isLoud op = true) : noRead op = false := by cases op <;> first | rfl | simp [isLoud] at h

/-- Behind an operation: the store where one more has come up. -/
theorem obD_step (ht : TrOk P m base env ob tr) (hob : ∀ id, base ≤ id → ob id = none) (hp : DrawP ops m an) {D : Nat → Prop} (hc : Clo ops D) {j k : Nat} {oj : RO} (hj : m[j]? = some oj) (hr : Rdy ops D j) (hn : ¬ D j) (hu : Upto m D k)
    (hx : (tr j).ex = true) : ∃ k', Upto m (fun i => D i ∨ i = j) k' ∧ apps (obD m tr base ob D k) (tr j).us = obD m tr base ob (fun i => D i ∨ i = j) k' := by
  have hR := gd_true (ht j oj hj) hx
  cases hl : isLoud oj.op with
  | false =>
    refine ⟨k, fun i o hi hlo => ?_, ?_⟩
    · rw [← hu i o hi hlo]
      refine ⟨fun h => h.resolve_right ?_, .inl⟩
      rintro rfl; rw [hj] at hi; injection hi with hi; subst hi; rw [hl] at hlo; cases hlo
    · funext id
      rcases quiet_ups hR hl with hus | ⟨o', hus⟩
      · rw [hus]
        simp only [apps, obD]
        congr 1
        by_cases hid : id = base + j
        · subst hid
          rw [qD_none, qD_at hj hl (.inr rfl) hx, hus]
          · rfl
          · intro i o h0 h1 h2 h3 h4
            obtain rfl : i = j := by omega
            exact hn h3
        · exact qD_congr fun i hi => ⟨.inl, fun h => h.resolve_right fun e => hid (by rw [hi, e])⟩
      · rw [hus]
        simp only [apps, obD]
        by_cases hid : id = base + j
        · subst hid
          rw [if_pos rfl, qD_at hj hl (.inr rfl) hx, hus]
          simp [lookU]
        · rw [if_neg hid]
          congr 1
          exact qD_congr fun i hi => ⟨.inl, fun h => h.resolve_right fun e => hid (by rw [hi, e])⟩
  | true =>
    have hcj := cob_ready (tr := tr) (ob := ob) hp hc hj hr hn hu (noRead_loud hl)
    refine ⟨j + 1, fun i o hi hlo => ?_, ?_⟩
    · by_cases hij : i = j
      · subst hij; exact ⟨fun _ => by omega, fun _ => .inr rfl⟩
      · have := cmp_iff hp hij (hp.loud i j o oj hij hi hj hlo (noRead_loud hl)) hc hr hn
        refine ⟨fun h => by have := this.1 (h.resolve_right hij); omega, fun h => .inl (this.2 (by omega))⟩
    · have hcs : cob m tr ob (j + 1) = apps (cob m tr ob j) (tr j).us := by
        simp only [cob, hj]
        show cond ((tr j).ex && isLoud oj.op) _ _ = _
        rw [hx, hl]; rfl
      have e : obD m tr base ob D k = fun id => (qD m tr base D id).or (cob m tr ob j id) := by
        funext id; simp only [obD]; rw [hcj]
      rw [e, apps_or]
      · funext id
        simp only [obD]
        rw [hcs]
        congr 1
        by_cases hid : id = base + j
        · subst hid
          have nq : ∀ D' : Nat → Prop, qD m tr base D' (base + j) = none := fun D' => qD_none fun i o h0 h1 h2 h3 h4 => by
            obtain rfl : i = j := by omega
            rw [hj] at h1; injection h1 with h1; subst h1; rw [hl] at h2; cases h2
          rw [nq, nq]
        · exact qD_congr fun i hi => ⟨.inl, fun h => h.resolve_right fun e => hid (by rw [hi, e])⟩
      · intro p hp'
        rcases loud_ups hR hl p hp' with h | h
        · refine qD_none fun i o h0 h1 h2 h3 h4 => ?_
          rw [h0, cob_quiet ht hob h1 h2 j] at h
          exact h rfl
        · refine qD_none fun i o h0 h1 h2 h3 h4 => ?_
          obtain rfl : i = j := by omega
          rw [hj] at h1; injection h1 with h1; subst h1; rw [hl] at h2; cases h2

/-- In the end: all that was made. -/
theorem qUps_all (ht : TrOk P m base env ob tr) (hob : ∀ id, base ≤ id → ob id = none) (ob' : OB) (hob' : ∀ (i : Nat) (o : RO), m[i]? = some o → isLoud o.op = false → ob' (base + i) = none) :
    ∀ j, apps ob' (qUps m tr j) = fun id => (qD m tr base (fun i => i < j) id).or (ob' id)
  | 0 => by
    funext id
    rw [qD_none fun i o h0 h1 h2 h3 => by omega]; rfl
  | j + 1 => by
    have ih := qUps_all ht hob ob' hob' j
    simp only [qUps]
    cases hj : m[j]? with
    | none =>
      rw [ih]
      funext id
      congr 1
      by_cases hid : id = base + j
      · subst hid
        rw [qD_none fun i o h0 h1 h2 h3 => by omega, qD_none fun i o' h0 h1 h2 h3 h4 => ?_]
        obtain rfl : i = j := by omega
        rw [hj] at h1; cases h1
      · exact qD_congr fun i hi => ⟨fun h => by omega, fun h => by have : i ≠ j := fun e => hid (by rw [hi, e]); omega⟩
    | some o =>
      show apps ob' (cond ((tr j).ex && !isLoud o.op) (qUps m tr j ++ (tr j).us) (qUps m tr j)) = _
      cases hx : ((tr j).ex && !isLoud o.op) with
      | false =>
        show apps ob' (qUps m tr j) = _
        rw [ih]
        funext id
        congr 1
        by_cases hid : id = base + j
        · subst hid
          rw [qD_none fun i o h0 h1 h2 h3 => by omega, qD_none fun i o' h0 h1 h2 h3 h4 => ?_]
          obtain rfl : i = j := by omega
          rw [hj] at h1; injection h1 with h1; subst h1
          rw [h2, h4] at hx; cases hx
        · exact qD_congr fun i hi => ⟨fun h => by omega, fun h => by have : i ≠ j := fun e => hid (by rw [hi, e]); omega⟩
      | true =>
        show apps ob' (qUps m tr j ++ (tr j).us) = _
        simp only [Bool.and_eq_true, Bool.not_eq_true'] at hx
        rw [apps_append, ih]
        have hR := gd_true (ht j o hj) hx.1
        funext id
        rcases quiet_ups hR hx.2 with hus | ⟨o', hus⟩
        · rw [hus]
          show (qD m tr base (fun i => i < j) id).or (ob' id) = _
          congr 1
          by_cases hid : id = base + j
          · subst hid
            rw [qD_none fun i o h0 h1 h2 h3 => by omega, qD_at hj hx.2 (Nat.lt_succ_self j) hx.1, hus]; rfl
          · exact qD_congr fun i hi => ⟨fun h => by omega, fun h => by have : i ≠ j := fun e => hid (by rw [hi, e]); omega⟩
        · rw [hus]
          show (if id = base + j then some o' else (qD m tr base (fun i => i < j) id).or (ob' id)) = _
          by_cases hid : id = base + j
          · subst hid
            rw [if_pos rfl, qD_at hj hx.2 (Nat.lt_succ_self j) hx.1, hus]; simp [lookU]
          · rw [if_neg hid]
            congr 1
            exact qD_congr fun i hi => ⟨fun h => by omega, fun h => by have : i ≠ j := fun e => hid (by rw [hi, e]); omega⟩

end
end Go.Proofs.Ytamdidmfcjdcgaa.D
