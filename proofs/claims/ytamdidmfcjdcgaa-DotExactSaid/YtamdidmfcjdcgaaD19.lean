/- Regions over plain values, in whatever order: what holds at each place. No condition. -/
import Derived.Test.YtamdidmfcjdcgaaD18
set_option linter.unusedVariables false
set_option linter.unusedSectionVars false
set_option linter.unusedSimpArgs false
set_option linter.constructorNameAsVariable false
namespace Go.Proofs.Ytamdidmfcjdcgaa.D
open Go Go.RowKit

/-- What has come up holds all that comes ahead of it. -/
def Clo (ops : Array Oper) (D : Nat → Prop) : Prop := ∀ (j : Nat) (o : Oper), ops[j]? = some o → D j → ∀ e ∈ o.after, binding e = true → D e.on
def Rdy (ops : Array Oper) (D : Nat → Prop) (j : Nat) : Prop := ∀ o : Oper, ops[j]? = some o → ∀ e ∈ o.after, binding e = true → D e.on

theorem maskOf_spec {acc : List Nat} {o : Oper} {i : Nat} (h : (maskOf acc o).testBit i = true) : ∃ e ∈ o.after, binding e = true ∧ (i = e.on ∨ (acc.getD e.on 0).testBit i = true) := by
  unfold maskOf at h
  have aux : ∀ l : List Edge, (l.foldr (fun e s => if binding e then s ||| 2 ^ e.on ||| acc.getD e.on 0 else s) 0).testBit i = true → ∃ e ∈ l, binding e = true ∧ (i = e.on ∨ (acc.getD e.on 0).testBit i = true) := by
    intro l
    induction l with
    | nil => intro h; simp at h
    | cons e l ih =>
      intro h
      simp only [List.foldr_cons] at h
      split at h
      · rename_i hb
        rw [Nat.testBit_or, Nat.testBit_or, Nat.testBit_two_pow] at h
        simp only [Bool.or_eq_true, decide_eq_true_eq] at h
        rcases h with (h | h) | h
        · obtain ⟨e', h1, h2⟩ := ih h; exact ⟨e', by simp [h1], h2⟩
        · exact ⟨e, by simp, hb, .inl h.symm⟩
        · exact ⟨e, by simp, hb, .inr h⟩
      · obtain ⟨e', h1, h2⟩ := ih h; exact ⟨e', by simp [h1], h2⟩
  obtain ⟨e, h1, h2⟩ := aux _ h
  exact ⟨e, by simpa using h1, h2⟩

theorem ancL_ok (ops : Array Oper) : ∀ (l : List Oper) (acc : List Nat) (pre : List Oper), ops.toList = pre ++ l → acc.length = pre.length →
    (∀ j i, j < acc.length → (acc.getD j 0).testBit i = true → ∀ D, Clo ops D → Rdy ops D j → D i) →
    ∀ j i, j < (ancL l acc).length → ((ancL l acc).getD j 0).testBit i = true → ∀ D, Clo ops D → Rdy ops D j → D i
  | [], acc, pre, _, _, h => h
  | o :: l, acc, pre, he, hl, h => by
    simp only [ancL]
    refine ancL_ok ops l (acc ++ [maskOf acc o]) (pre ++ [o]) (by rw [he]; simp) (by simp [hl]) fun j i hj hb D hc hr => ?_
    by_cases hlt : j < acc.length
    · rw [List.getD_eq_getElem?_getD, List.getElem?_append_left hlt, ← List.getD_eq_getElem?_getD] at hb
      exact h j i hlt hb D hc hr
    · have hje : j = acc.length := by simp at hj; omega
      subst hje
      rw [List.getD_eq_getElem?_getD, List.getElem?_append_right (Nat.le_refl _)] at hb
      simp at hb
      obtain ⟨e, h1, h2, h3⟩ := maskOf_spec hb
      have ho : ops[acc.length]? = some o := by
        rw [← Array.getElem?_toList, he, hl]; simp
      have hD := hr o ho e h1 h2
      rcases h3 with rfl | h3
      · exact hD
      · by_cases hlt2 : e.on < acc.length
        · exact h e.on i hlt2 h3 D hc fun o' ho' e' he' hb' => hc e.on o' ho' hD e' he' hb'
        · rw [List.getD_eq_getElem?_getD, List.getElem?_eq_none (by omega)] at h3
          simp at h3

/-- What 'drawOK' says. -/
structure DrawP (ops : Array Oper) (m : List RO) (an : List Nat) : Prop where
  len : ops.size = m.length
  edge : ∀ (j : Nat) (o : Oper), ops[j]? = some o → ∀ e ∈ o.after, binding e = true → e.on < j
  dst : ∀ (i j : Nat) (oi oj : RO) (t : Nat), i ≠ j → m[i]? = some oi → m[j]? = some oj → oi.d = some t → oj.d ≠ some t
  look : ∀ (i j : Nat) (oi oj : RO) (t : Nat), i ≠ j → m[i]? = some oi → m[j]? = some oj → oi.d = some t → t ∈ looks oj → cmp an i j = true
  loud : ∀ (i j : Nat) (oi oj : RO), i ≠ j → m[i]? = some oi → m[j]? = some oj → isLoud oi.op = true → noRead oj.op = false → cmp an i j = true
  anc : ∀ j i, (an.getD j 0).testBit i = true → ∀ D, Clo ops D → Rdy ops D j → D i

theorem drawOK_spec {ops : Array Oper} {m : List RO} (h : drawOK ops m = true) : DrawP ops m (ancL ops.toList []) := by
  unfold drawOK at h
  simp only [Bool.and_eq_true, beq_iff_eq] at h
  obtain ⟨hlen, hall⟩ := h
  have at_ : ∀ (j : Nat) (oj : RO) (o : Oper), m[j]? = some oj → ops[j]? = some o → (o.after.toList.all fun e => !binding e || e.on < j) = true ∧
      ∀ (i : Nat) (oi : RO), i ≠ j → m[i]? = some oi → (match oi.d with | some t => (oj.d != some t) && (!(looks oj).contains t || cmp (ancL ops.toList []) i j) | none => true) = true ∧
        (!isLoud oi.op || noRead oj.op || cmp (ancL ops.toList []) i j) = true := fun j oj o hj ho => by
    have hjm : j ∈ List.range m.length := List.mem_range.2 (List.getElem?_eq_some_iff.1 hj).1
    have h1 := List.all_eq_true.1 hall j hjm
    simp only [hj, ho, Bool.and_eq_true] at h1
    refine ⟨h1.1, fun i oi hne hi => ?_⟩
    have him : i ∈ List.range m.length := List.mem_range.2 (List.getElem?_eq_some_iff.1 hi).1
    have h2 := List.all_eq_true.1 h1.2 i him
    simp only [hi, Bool.or_eq_true, beq_iff_eq, Bool.and_eq_true] at h2
    rcases h2 with h2 | h2
    · exact absurd h2 hne
    · refine ⟨h2.1, ?_⟩
      simpa [Bool.or_eq_true] using h2.2
  have opAt : ∀ (j : Nat) (oj : RO), m[j]? = some oj → ∃ o, ops[j]? = some o := fun j oj hj => by
    have : j < ops.size := by rw [hlen]; exact (List.getElem?_eq_some_iff.1 hj).1
    exact ⟨ops[j], Array.getElem?_eq_getElem this⟩
  refine ⟨hlen, fun j o ho e he hb => ?_, fun i j oi oj t hne hi hj hd => ?_, fun i j oi oj t hne hi hj hd ht => ?_, fun i j oi oj hne hi hj hl hr => ?_, fun j i hb D hc hr => ?_⟩
  · have hjs : j < ops.size := (Array.getElem?_eq_some_iff.1 ho).1
    have hj : m[j]? = some (m[j]'(by omega)) := List.getElem?_eq_getElem (by omega)
    have := List.all_eq_true.1 (at_ j _ o hj ho).1 e (by simpa using he)
    simpa [hb] using this
  · obtain ⟨o, ho⟩ := opAt j oj hj
    have := ((at_ j oj o hj ho).2 i oi hne hi).1
    rw [hd] at this
    simp only [Bool.and_eq_true, bne_iff_ne, ne_eq] at this
    exact this.1
  · obtain ⟨o, ho⟩ := opAt j oj hj
    have := ((at_ j oj o hj ho).2 i oi hne hi).1
    rw [hd] at this
    simp only [Bool.and_eq_true, Bool.or_eq_true, Bool.not_eq_true'] at this
    rcases this.2 with h | h
    · rw [List.contains_iff_mem.2 ht] at h; cases h
    · exact h
  · obtain ⟨o, ho⟩ := opAt j oj hj
    have := ((at_ j oj o hj ho).2 i oi hne hi).2
    simpa [hl, hr] using this
  · by_cases hj : j < (ancL ops.toList []).length
    · exact ancL_ok ops ops.toList [] [] rfl rfl (fun j i h => by simp at h) j i hj hb D hc hr
    · rw [List.getD_eq_getElem?_getD, List.getElem?_eq_none (by omega)] at hb
      simp at hb

/-- Two operations of which one comes ahead of the other: in which order. -/
theorem cmp_iff {ops : Array Oper} {m : List RO} {an : List Nat} (hp : DrawP ops m an) {i j : Nat} (hne : i ≠ j) (h : cmp an i j = true) {D : Nat → Prop} (hc : Clo ops D) (hr : Rdy ops D j) (hn : ¬ D j) : D i ↔ i < j := by
  unfold cmp at h
  split at h
  · rename_i hlt
    exact ⟨fun _ => hlt, fun _ => hp.anc j i h D hc hr⟩
  · rename_i hlt
    refine ⟨fun hi => absurd (hp.anc i j h D hc fun o ho e he hb => hc i o ho hi e he hb) hn, fun h => absurd h hlt⟩

theorem apps_append (ob : OB) : ∀ a b : Ups, apps ob (a ++ b) = apps (apps ob a) b
  | [], b => rfl
  | (i, o) :: a, b => apps_append _ a b

set_option maxHeartbeats 2000000 in
theorem opF_quiet {op : Ok} {vs : List V} {ob : OB} {nid : Nat} {r : V} {us : Ups} (h : opF op vs ob nid = some (r, us)) (hl : isLoud op = false) : us = [] ∨ ∃ o, us = [(nid, some o)] := by
  cases op
  case slc k lo hi =>
    cases lo <;> cases hi <;> (rcases vs with _ | ⟨a, _ | ⟨b, _ | ⟨c, _ | ⟨d, l⟩⟩⟩⟩) <;> first | (simp [opF] at h; done) | (simp [opF, Option.bind_eq_some_iff, Option.map_eq_some_iff] at h; grind)
  all_goals first | (simp [isLoud] at hl; done) | (rcases vs with _ | ⟨a, _ | ⟨b, _ | ⟨c, _ | ⟨d, _ | ⟨e, l⟩⟩⟩⟩⟩)
  all_goals first | (simp [opF] at h; done) | (simp [opF, Option.bind_eq_some_iff, Option.map_eq_some_iff] at h; grind)

set_option maxHeartbeats 2000000 in
theorem opF_loud {op : Ok} {vs : List V} {ob : OB} {nid : Nat} {r : V} {us : Ups} (h : opF op vs ob nid = some (r, us)) (hl : isLoud op = true) : ∀ p ∈ us, ob p.1 ≠ none ∨ p.1 = nid := by
  cases op
  all_goals first | (simp [isLoud] at hl; done) | (rcases vs with _ | ⟨a, _ | ⟨b, _ | ⟨c, l⟩⟩⟩)
  all_goals first | (simp [opF] at h; done) | skip
  case st.cons.cons.nil n =>
    simp only [opF] at h
    obtain ⟨q, _, h⟩ := Option.bind_eq_some_iff.1 h
    obtain ⟨X, hX, h⟩ := Option.bind_eq_some_iff.1 h
    obtain ⟨row, _, h⟩ := Option.bind_eq_some_iff.1 h
    grind
  case app.cons.cons.nil k =>
    simp only [opF] at h
    obtain ⟨q, _, h⟩ := Option.bind_eq_some_iff.1 h
    split at h
    case isFalse => cases h
    split at h
    · grind
    · obtain ⟨X, hX, h⟩ := Option.bind_eq_some_iff.1 h
      grind
    · cases h
  case cpy.cons.cons.nil k =>
    simp only [opF] at h
    obtain ⟨q, _, h⟩ := Option.bind_eq_some_iff.1 h
    split at h
    case isFalse => cases h
    split at h
    · obtain ⟨X, hX, h⟩ := Option.bind_eq_some_iff.1 h
      grind
    · grind
    · grind
    · cases h
  case clr.cons.nil k z =>
    simp only [opF] at h
    split at h
    · obtain ⟨X, hX, h⟩ := Option.bind_eq_some_iff.1 h
      grind
    · grind
    · grind
    · cases h

/-- What is made quietly is one new object at most. -/
theorem quiet_ups {P : Program} {op : Ok} {vs : List V} {ob : OB} {nid : Nat} {r : V} {us : Ups} (h : OpR P op vs ob nid r us) (hl : isLoud op = false) : us = [] ∨ ∃ o, us = [(nid, some o)] := by
  have hO : ∀ (k : Nat) (v : V), (impO k nid v).2 = [] ∨ ∃ o, (impO k nid v).2 = [(nid, some o)] := fun k v => by
    unfold impO
    split
    · split
      · exact .inl rfl
      · exact .inr ⟨_, rfl⟩
    · exact .inl rfl
  have hL : ∀ (k : Nat) (l : List V), (impL k nid l).2 = [] ∨ ∃ o, (impL k nid l).2 = [(nid, some o)] := fun k l => by
    induction l with
    | nil => exact .inl rfl
    | cons v l ih =>
      simp only [impL]
      split
      · exact hO k v
      · exact ih
  have hI : ∀ (m : Md) (q : V), (imp m nid q).2 = [] ∨ ∃ o, (imp m nid q).2 = [(nid, some o)] := fun m q => by
    cases m with
    | fz => exact .inl rfl
    | own k => cases q <;> first | exact hL k _ | exact hO k _
  unfold OpR at h
  split at h
  · obtain ⟨q, _, _, _, rfl⟩ := h; exact hI _ q
  · obtain ⟨f, caps, args, q, _, _, _, _, rfl⟩ := h; exact hI _ q
  · rename_i op hn1 hn2
    exact opF_quiet h hl

/-- What is written is there, or is new. -/
theorem loud_ups {P : Program} {op : Ok} {vs : List V} {ob : OB} {nid : Nat} {r : V} {us : Ups} (h : OpR P op vs ob nid r us) (hl : isLoud op = true) : ∀ p ∈ us, ob p.1 ≠ none ∨ p.1 = nid := by
  unfold OpR at h
  split at h
  · simp [isLoud] at hl
  · simp [isLoud] at hl
  · exact opF_loud h hl

end Go.Proofs.Ytamdidmfcjdcgaa.D
