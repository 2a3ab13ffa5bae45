/- Calls over plain values: what a call answers, and how it is taken. No condition. -/
import Derived.Test.YtamdidmfcjdcgaaD14
set_option linter.unusedVariables false
set_option linter.unusedSectionVars false
set_option linter.unusedSimpArgs false
set_option linter.constructorNameAsVariable false
namespace Go.Proofs.Ytamdidmfcjdcgaa.D
open Go Go.RowKit

/-- A slice of one's own, in memory. -/
def OwnS (B : Nat → Prop) (w : World) (n0 : Nat) (bo : Option Nat) (l : List (List V)) (x : Value) : Prop :=
  (l = [] ∧ ∃ a, x = .slice a 0 0) ∨
  l ≠ [] ∧ ∃ b off k cap, bo = some b ∧ x = .slice (some ⟨b, off, none⟩) l.length cap ∧ n0 ≤ b ∧ b < w.heap.size ∧ l.length ≤ cap ∧ (∀ ch ∈ l, ch.length = k) ∧
    (∃ cs el, w.heap[b]? = some (.cells cs el (0, 0)) ∧ off + cap * k ≤ cs.size) ∧
    ∀ i j v, el l i j = some v → ∃ y, w.cell? ⟨b, off + i * k + j, none⟩ = some y ∧ NoB v ∧ RV w (rok B n0 w.heap.size bo) (fun _ => none) v y

def Res1 (B : Nat → Prop) (w : World) (n0 : Nat) (bo : Option Nat) (r : V) (x : Value) : Prop :=
  match r with
  | .im .o l => OwnS B w n0 bo l x
  | r => NoB r ∧ RV w (rok B n0 w.heap.size bo) (fun _ => none) r x

def isO : V → Bool
  | .im .o _ => true
  | _ => false

/-- Several results; at most one is a slice of one's own. -/
def ResL (B : Nat → Prop) (w : World) (n0 : Nat) (rs : List V) (xs : List Value) : Prop :=
  ∃ bo, xs.length = rs.length ∧ (∀ (i : Nat) (r : V) (x : Value), rs[i]? = some r → xs[i]? = some x → Res1 B w n0 bo r x) ∧
    ∀ (i j : Nat) (r s : V), rs[i]? = some r → rs[j]? = some s → isO r = true → isO s = true → i = j

/-- A call's answer. -/
def ResV (B : Nat → Prop) (w : World) (n0 : Nat) (r : V) (x : Value) : Prop :=
  match r with
  | .tp rs => ∃ xs : List Value, x = .tuple xs.toArray ∧ ResL B w n0 rs xs
  | r => ResL B w n0 [r] [x]

def callable (P : Program) (f : FuncId) : Bool :=
  match P.funcs[f]? with
  | some fn => fn.body.isSome && fn.name != "runtime.NumGoroutine"
  | none => false

/-- What a function answers to plain values that it only reads. -/
def FnB (P : Program) (f : FuncId) (args : List V) (r : V) : Prop :=
  callable P f = true ∧ ∀ (B : Bk) (w : World) (xs : List Value), RVs w (@okf B (fun _ => none) w.heap.size w.heap.size) (fun _ => none) args xs →
    Calls P f xs.toArray w fun e w' => ∃ x, e = .returned x ∧ ResV B.B w' w.heap.size r x ∧ Below w.heap.size w w'

/-- Taken to be only read. -/
def frz1 : V → V
  | .im .o l => .im .b l
  | v => v
def frz : V → V
  | .tp l => .tp (l.map frz1)
  | v => frz1 v

/-- The first slice of one's own is an object. -/
def impO (k nid : Nat) : V → V × Ups
  | .im .o l => if l.length = 0 then (.z, []) else (.sl nid 0 l.length, [(nid, some ⟨k, l, none⟩)])
  | v => (v, [])
def impL (k nid : Nat) : List V → List V × Ups
  | [] => ([], [])
  | v :: l => if isO v then ((impO k nid v).1 :: l, (impO k nid v).2) else (v :: (impL k nid l).1, (impL k nid l).2)

/-- How a call's answer is taken. -/
def imp (m : Md) (nid : Nat) (r : V) : V × Ups :=
  match m with
  | .fz => (frz r, [])
  | .own k => match r with
    | .tp l => (.tp (impL k nid l).1, (impL k nid l).2)
    | v => impO k nid v

/-- May this answer be taken so? (the rows' size) -/
def impOk (m : Md) (r : V) : Prop :=
  match m with
  | .fz => True
  | .own k => match r with
    | .tp l => ∀ s, V.im .o s ∈ l → ∀ ch ∈ s, ch.length = k
    | .im .o s => ∀ ch ∈ s, ch.length = k
    | _ => True

section
variable {P : Program} {n0 : Nat} {w w' : World} {own : Nat → Option Nat} {loc : Loc} {ob : OB} {nid : Nat} [Bk]

/-- Behind a call that leaves what was there as it was. -/
theorem stp_below (hwf : WF n0 w own loc ob) (hb : Below w.heap.size w w') : WF n0 w' own loc ob ∧ Stp w own loc w' own loc := by
  have hs : Stp w own loc w' own loc := ⟨hb.os, hb.tape, hb.output, hb.size, fun b hlt ho => ⟨ho, hb.block b hlt⟩, fun id h => .inl rfl⟩
  refine ⟨⟨fun id o h => ?_, fun id p h => ?_, fun b id h => ?_⟩, hs⟩
  · obtain ⟨p, h1, h2⟩ := hwf.has id o h
    exact ⟨p, h1, h2.stp hs (hb.block _ (hwf.owns id p h1).2)⟩
  · have := hwf.owns id p h
    exact ⟨this.1, Nat.lt_of_lt_of_le this.2 hb.size⟩
  · exact Nat.lt_of_lt_of_le (hwf.lt b id h) hb.size

/-- What came back may be looked at. -/
theorem rok_ok (hwf : WF n0 w own loc ob) (hn0 : n0 ≤ w.heap.size) {m : Nat} {bo : Option Nat} {f : Fl} {c : Nat} (hf : f = .b) (h : rok (bkC own n0 w.heap.size).B w.heap.size m bo f c) : okf own n0 m f c := by
  obtain ⟨h1, h2, h3⟩ := h
  rcases h3 with ⟨_, h3, h4, h5⟩ | h3
  · exact ⟨h3, h1, h5.elim (fun h => .inr (.inl ⟨hf, h⟩)) (fun h => .inr (.inr h))⟩
  · refine ⟨?_, h1, .inr (.inr (by omega))⟩
    cases ho : own c with
    | none => rfl
    | some id => exact absurd (hwf.lt _ _ ho) (by omega)

/-- A block that came back is an object now. -/
theorem adopt_ob (hwf : WF n0 w own loc ob) (hb : Below w.heap.size w w') (hn0 : n0 ≤ w.heap.size) (hnid : loc nid = none) {b off k cap : Nat} {l : List (List V)} (hbn : w.heap.size ≤ b) (hbl : b < w'.heap.size)
    (hcap : l.length ≤ cap) (hk : ∀ ch ∈ l, ch.length = k) (hmem : ∃ cs el, w'.heap[b]? = some (.cells cs el (0, 0)) ∧ off + cap * k ≤ cs.size)
    (hc : ∀ i j v, el l i j = some v → ∃ y, w'.cell? ⟨b, off + i * k + j, none⟩ = some y ∧ NoB v ∧ RV w' (rok (bkC own n0 w.heap.size).B w.heap.size w'.heap.size (some b)) (fun _ => none) v y) :
    WF n0 w' (fun c => if c = b then some nid else own c) (fun id => if id = nid then some (some ⟨b, off, k, cap⟩) else loc id) (fun j => if j = nid then some ⟨k, l, none⟩ else ob j) ∧
    Stp w own loc w' (fun c => if c = b then some nid else own c) (fun id => if id = nid then some (some ⟨b, off, k, cap⟩) else loc id) := by
  have hs : Stp w own loc w' (fun c => if c = b then some nid else own c) (fun id => if id = nid then some (some ⟨b, off, k, cap⟩) else loc id) := by
    refine ⟨hb.os, hb.tape, hb.output, hb.size, fun c hlt ho => ⟨by rw [if_neg (by omega)]; exact ho, hb.block c hlt⟩, fun id hid => ?_⟩
    by_cases h : id = nid
    · subst h; exact absurd hnid hid
    · left; simp [h]
  have hnone : ∀ c, w.heap.size ≤ c → own c = none := fun c hc => by
    cases ho : own c with
    | none => rfl
    | some id => exact absurd (hwf.lt _ _ ho) (by omega)
  refine ⟨⟨fun id o h => ?_, fun id p h => ?_, fun c id h => ?_⟩, hs⟩
  · by_cases hid : id = nid
    · subst hid
      simp only [if_true] at h
      cases h
      refine ⟨⟨b, off, k, cap⟩, by simp, ⟨hmem, rfl, hcap, hk, fun i j v hv => ?_, fun c h => by cases h⟩⟩
      obtain ⟨y, h1, h2, h3⟩ := hc i j v hv
      refine ⟨y, h1, h3.noB (fun f c hf h => ?_) h2⟩
      have hcb : c ≠ b := fun e => h.2.1 (by rw [e])
      obtain ⟨k1, k2, k3⟩ := rok_ok hwf hn0 hf h
      exact ⟨by simp only [hcb, if_false]; exact k1, k2, k3⟩
    · simp only [hid, if_false] at h
      obtain ⟨p, h1, h2⟩ := hwf.has id o h
      exact ⟨p, by simp only [hid, if_false]; exact h1, h2.stp hs (hb.block _ (hwf.owns id p h1).2)⟩
  · by_cases hid : id = nid
    · subst hid
      simp only [if_true, Option.some.injEq] at h
      subst h
      exact ⟨by simp, hbl⟩
    · simp only [hid, if_false] at h
      have := hwf.owns id p h
      exact ⟨by rw [if_neg (by omega)]; exact this.1, Nat.lt_of_lt_of_le this.2 hb.size⟩
  · by_cases hcb : c = b
    · subst hcb; exact hbl
    · simp only [hcb, if_false] at h
      exact Nat.lt_of_lt_of_le (hwf.lt c id h) hb.size

/-- One result, taken to be only read. -/
theorem frz1_rv (hwf : WF n0 w own loc ob) (hb : Below w.heap.size w w') (hn0 : n0 ≤ w.heap.size) {bo : Option Nat} {r : V} {x : Value} (h : Res1 (bkC own n0 w.heap.size).B w' w.heap.size bo r x) :
    RV w' (okf own n0 w'.heap.size) loc (frz1 r) x := by
  have hok : ∀ c, w.heap.size ≤ c ∧ c < w'.heap.size → okf own n0 w'.heap.size .b c := fun c hc => by
    refine ⟨?_, hc.2, .inr (.inr (by omega))⟩
    cases ho : own c with
    | none => rfl
    | some id => exact absurd (hwf.lt _ _ ho) (by omega)
  have gen : (NoB r ∧ RV w' (rok (bkC own n0 w.heap.size).B w.heap.size w'.heap.size bo) (fun _ => none) r x) → RV w' (okf own n0 w'.heap.size) loc r x := fun ⟨h1, h2⟩ =>
    h2.noB (fun f c hf hc => rok_ok hwf hn0 hf hc) h1
  cases r with
  | im f l =>
    cases f with
    | o =>
      simp only [Res1] at h
      simp only [frz1]
      rcases h with ⟨rfl, a, rfl⟩ | ⟨_, b, off, k, cap, hbo, rfl, h1, h2, h3, h4, h5, h6⟩
      · exact .e .b a 0 (fun h => by cases h)
      · refine .im .b l k b off _ cap (fun i j => (w'.cell? ⟨b, off + i * k + j, none⟩).getD undef) rfl h4 h3 (hok b ⟨h1, h2⟩) (fun i j v hv => ?_) (fun i j v hv => ?_)
        · obtain ⟨y, h7, h8, h9⟩ := h6 i j v hv
          rw [h7]; rfl
        · obtain ⟨y, h7, h8, h9⟩ := h6 i j v hv
          rw [h7]; exact h9.noB (fun f c hf hc => rok_ok hwf hn0 hf hc) h8
    | _ => exact gen h
  | _ => exact gen h

theorem Res1.of_notO {B : Nat → Prop} {n : Nat} {bo : Option Nat} {r : V} {x : Value} (ho : isO r = false) (h : Res1 B w n bo r x) : NoB r ∧ RV w (rok B n w.heap.size bo) (fun _ => none) r x := by
  cases r with
  | im f l => cases f <;> first | exact h | simp [isO] at ho
  | _ => exact h

theorem impL_len (k nid : Nat) : ∀ l : List V, (impL k nid l).1.length = l.length
  | [] => rfl
  | v :: l => by simp only [impL]; split <;> simp [impL_len k nid l]

theorem impL_at (k nid : Nat) : ∀ (l : List V) (i : Nat) (r : V), (∀ (i j : Nat) (r s : V), l[i]? = some r → l[j]? = some s → isO r = true → isO s = true → i = j) → l[i]? = some r →
    (impL k nid l).1[i]? = some (impO k nid r).1 ∧ (isO r = true → (impL k nid l).2 = (impO k nid r).2)
  | [], i, r, _, h => by simp at h
  | v :: l, i, r, hu, h => by
    simp only [impL]
    by_cases hv : isO v = true
    · rw [if_pos hv]
      cases i with
      | zero => simp at h; subst h; exact ⟨rfl, fun _ => rfl⟩
      | succ i =>
        simp at h
        have hno : isO r = false := by
          cases hr : isO r with
          | false => rfl
          | true => exact absurd (hu 0 (i + 1) v r rfl (by simpa using h) hv hr) (by omega)
        refine ⟨?_, fun h => by rw [hno] at h; cases h⟩
        have e : (impO k nid r).1 = r := by cases r with
          | im f l => cases f <;> first | rfl | simp [isO] at hno
          | _ => rfl
        simpa [e] using h
    · rw [if_neg hv]
      cases i with
      | zero =>
        simp at h; subst h
        have e : (impO k nid v).1 = v := by cases v with
          | im f l => cases f <;> first | rfl | simp [isO] at hv
          | _ => rfl
        exact ⟨by simp [e], fun h => absurd h hv⟩
      | succ i =>
        simp at h
        have := impL_at k nid l i r (fun i j r s h1 h2 h3 h4 => by have := hu (i + 1) (j + 1) r s (by simpa using h1) (by simpa using h2) h3 h4; omega) h
        exact ⟨by simpa using this.1, this.2⟩

theorem impL_none (k nid : Nat) : ∀ l : List V, (∀ v ∈ l, isO v = false) → (impL k nid l).2 = []
  | [], _ => rfl
  | v :: l, h => by
    simp only [impL]
    rw [if_neg (by rw [h v (by simp)]; simp)]
    exact impL_none k nid l fun v hv => h v (by simp [hv])

/-- A call's answer, as it is taken. -/
theorem imp_rv (hwf : WF n0 w own loc ob) (hb : Below w.heap.size w w') (hn0 : n0 ≤ w.heap.size) (hnid : loc nid = none) {m : Md} {r : V} {x : Value} (hm : impOk m r) (h : ResV (bkC own n0 w.heap.size).B w' w.heap.size r x) :
    ∃ own' loc', RV w' (okf own' n0 w'.heap.size) loc' (imp m nid r).1 x ∧ WF n0 w' own' loc' (apps ob (imp m nid r).2) ∧ Stp w own loc w' own' loc' ∧ ∀ id, id ≠ nid → loc id = none → loc' id = none := by
  obtain ⟨hwf', hs'⟩ := stp_below hwf hb
  cases m with
  | fz =>
    refine ⟨own, loc, ?_, hwf', hs', fun _ _ h => h⟩
    have one : ∀ rs xs, ResL (bkC own n0 w.heap.size).B w' w.heap.size rs xs → RVs w' (okf own n0 w'.heap.size) loc (rs.map frz1) xs := fun rs xs ⟨bo, h1, h2, h3⟩ => by
      refine ⟨by simpa using h1, fun i v x hv hx => ?_⟩
      obtain ⟨q, h4, rfl⟩ := map_at hv
      exact frz1_rv hwf hb hn0 (h2 i q x h4 hx)
    have single : ResL (bkC own n0 w.heap.size).B w' w.heap.size [r] [x] → RV w' (okf own n0 w'.heap.size) loc (frz1 r) x := fun h => (one _ _ h).2 0 _ x rfl rfl
    cases r with
    | tp rs =>
      obtain ⟨xs, rfl, h⟩ := h
      exact .tp _ xs (one _ _ h).1 (one _ _ h).2
    | _ => exact single h
  | own k =>
    have adopt : ∀ (rs : List V) (xs : List Value), ResL (bkC own n0 w.heap.size).B w' w.heap.size rs xs → (∀ s, V.im .o s ∈ rs → ∀ ch ∈ s, ch.length = k) →
        ∃ own' loc', RVs w' (okf own' n0 w'.heap.size) loc' (impL k nid rs).1 xs ∧ WF n0 w' own' loc' (apps ob (impL k nid rs).2) ∧ Stp w own loc w' own' loc' ∧ ∀ id, id ≠ nid → loc id = none → loc' id = none := by
      rintro rs xs ⟨bo, h1, h2, h3⟩ hk
      have hown : ∀ c, w.heap.size ≤ c → own c = none := fun c hc => by
        cases ho : own c with
        | none => rfl
        | some id => exact absurd (hwf.lt _ _ ho) (by omega)
      by_cases hex : ∃ (i : Nat) (s : List (List V)), rs[i]? = some (V.im .o s) ∧ s ≠ []
      · obtain ⟨i, s, hi, hs⟩ := hex
        have hixs : i < xs.length := by rw [h1]; exact (List.getElem?_eq_some_iff.1 hi).1
        have hr := h2 i _ xs[i] hi (List.getElem?_eq_getElem hixs)
        simp only [Res1] at hr
        rcases hr with ⟨e, _⟩ | ⟨_, b, off, k', cap, hbo, hxe, hb1, hb2, hb3, hb4, hb5, hb6⟩
        · exact absurd e hs
        have hkk : k' = k := by
          obtain ⟨ch, hch⟩ := List.exists_mem_of_ne_nil s hs
          rw [← hb4 ch hch, hk s (List.mem_of_getElem? hi) ch hch]
        subst hkk
        subst hbo
        obtain ⟨ha1, ha2⟩ := adopt_ob hwf hb hn0 hnid hb1 hb2 hb3 hb4 hb5 hb6
        have hlen0 : s.length ≠ 0 := fun e => hs (List.eq_nil_of_length_eq_zero e)
        have hat := impL_at k' nid rs i _ h3 hi
        have hups : (impL k' nid rs).2 = [(nid, some ⟨k', s, none⟩)] := by rw [hat.2 rfl]; simp [impO, hlen0]
        refine ⟨_, _, ⟨by rw [impL_len]; exact h1, fun j v x hv hx => ?_⟩, by rw [hups]; exact ha1, ha2, fun id hne h => by simp [hne, h]⟩
        have hjr : j < rs.length := by rw [← impL_len k' nid rs]; exact (List.getElem?_eq_some_iff.1 hv).1
        have hj := List.getElem?_eq_getElem hjr
        have haj := (impL_at k' nid rs j _ h3 hj).1
        rw [haj] at hv
        injection hv with hv
        by_cases hji : j = i
        · subst hji
          rw [hj] at hi; injection hi with hi
          rw [hi] at hv
          simp [impO, hlen0] at hv
          subst hv
          have : x = xs[j] := by rw [List.getElem?_eq_getElem hixs] at hx; injection hx with hx; exact hx.symm
          rw [this, hxe]
          refine .sl nid 0 _ _ _ (by simp) fun q hq => ?_
          simp only [if_true, Option.some.injEq] at hq
          subst hq
          exact ⟨by simpa using hb3, by simp, by simp⟩
        · have hno : isO rs[j] = false := by
            cases ho : isO rs[j] with
            | false => rfl
            | true => exact absurd (h3 j i _ _ hj hi ho rfl) hji
          have hr2 := (h2 j _ x hj hx).of_notO hno
          have e : (impO k' nid rs[j]).1 = rs[j] := by
            generalize rs[j] = q at hno
            cases q with
            | im f l => cases f <;> first | rfl | simp [isO] at hno
            | _ => rfl
          rw [e] at hv; subst hv
          refine hr2.2.noB (fun f c hf hc => ?_) hr2.1
          have hcb : c ≠ b := fun e => hc.2.1 (by rw [e])
          obtain ⟨k1, k2, k3⟩ := rok_ok hwf hn0 hf hc
          exact ⟨by simp only [hcb, if_false]; exact k1, k2, k3⟩
      · have hnil : ∀ (i : Nat) (s : List (List V)), rs[i]? = some (V.im .o s) → s = [] := fun i s hi => Classical.byContradiction fun hs => hex ⟨i, s, hi, hs⟩
        have hups : (impL k nid rs).2 = [] := by
          by_cases hany : ∃ v ∈ rs, isO v = true
          · obtain ⟨v, hv, ho⟩ := hany
            obtain ⟨i, hi⟩ := List.getElem?_of_mem hv
            have := (impL_at k nid rs i v h3 hi).2 ho
            rw [this]
            cases v with
            | im f l => cases f <;> first | (simp [isO] at ho; done) | (have := hnil i l hi; subst this; rfl)
            | _ => simp [isO] at ho
          · exact impL_none k nid rs fun v hv => by
              cases ho : isO v with
              | false => rfl
              | true => exact absurd ⟨v, hv, ho⟩ hany
        refine ⟨own, loc, ⟨by rw [impL_len]; exact h1, fun j v x hv hx => ?_⟩, by rw [hups]; exact hwf', hs', fun _ _ h => h⟩
        have hjr : j < rs.length := by rw [← impL_len k nid rs]; exact (List.getElem?_eq_some_iff.1 hv).1
        have hj := List.getElem?_eq_getElem hjr
        rw [(impL_at k nid rs j _ h3 hj).1] at hv
        injection hv with hv
        have hr := h2 j _ x hj hx
        cases ho : isO rs[j] with
        | false =>
          have hr2 := hr.of_notO ho
          have e : (impO k nid rs[j]).1 = rs[j] := by
            generalize rs[j] = q at ho
            cases q with
            | im f l => cases f <;> first | rfl | simp [isO] at ho
            | _ => rfl
          rw [e] at hv; subst hv
          exact hr2.2.noB (fun f c hf hc => rok_ok hwf hn0 hf hc) hr2.1
        | true =>
          have key : ∀ q, rs[j]? = some q → isO q = true → Res1 (bkC own n0 w.heap.size).B w' w.heap.size bo q x → RV w' (okf own n0 w'.heap.size) loc (impO k nid q).1 x := fun q hq ho hr => by
            cases q with
            | im f l =>
              cases f <;> first | (simp [isO] at ho; done) | skip
              have := hnil j l hq
              subst this
              simp only [Res1] at hr
              rcases hr with ⟨_, a, rfl⟩ | ⟨hne, _⟩
              · exact .z a
              · exact absurd rfl hne
            | _ => simp [isO] at ho
          rw [← hv]; exact key _ hj ho hr
    cases r with
    | tp rs =>
      obtain ⟨xs, rfl, h⟩ := h
      obtain ⟨own', loc', h1, h2⟩ := adopt rs xs h hm
      exact ⟨own', loc', .tp _ xs h1.1 h1.2, h2⟩
    | im f l =>
      obtain ⟨own', loc', h1, h2⟩ := adopt [.im f l] [x] h (fun s hs ch hch => by
        simp at hs; obtain ⟨rfl, rfl⟩ := hs; exact hm ch hch)
      have e : (impL k nid [V.im f l]).1 = [(impO k nid (.im f l)).1] ∧ (impL k nid [V.im f l]).2 = (impO k nid (.im f l)).2 := by
        cases f <;> simp [impL, isO, impO]
      rw [e.1] at h1; rw [e.2] at h2
      exact ⟨own', loc', h1.2 0 _ x rfl rfl, h2⟩
    | _ =>
      obtain ⟨own', loc', h1, h2⟩ := adopt [_] [x] h (fun s hs => by simp at hs)
      exact ⟨own', loc', h1.2 0 _ x rfl rfl, h2⟩

end
end Go.Proofs.Ytamdidmfcjdcgaa.D
