/- Calls over plain values: what is handed over, and what comes back. No condition. -/
import Derived.Test.YtamdidmfcjdcgaaD13
set_option linter.unusedVariables false
set_option linter.unusedSectionVars false
set_option linter.unusedSimpArgs false
set_option linter.constructorNameAsVariable false
namespace Go.Proofs.Ytamdidmfcjdcgaa.D
open Go Go.RowKit

def resFl : Fl → Fl
  | .n => .n
  | _ => .b
/-- As it is read by a call: all is only read; what is one's own is not handed back. -/
def resV (ob : OB) : Nat → V → V
  | 0, _ => .u
  | _ + 1, .c v => .c v
  | _ + 1, .q => .q
  | _ + 1, .z => .im .b []
  | n + 1, .im f l => .im (resFl f) (l.map fun r => r.map (resV ob n))
  | n + 1, .sl id off len => match rowsOf ob (.sl id off len) with
    | some l => .im .n (l.map fun r => r.map (resV ob n))
    | none => .u
  | n + 1, .pt id i o => match (ob id).bind fun x => x.l[i]? with
    | some r => .bp ((r.drop o).map (resV ob n))
    | none => .u
  | n + 1, .bp l => .bp (l.map (resV ob n))
  | n + 1, .fn f caps => .fn f (caps.map (resV ob n))
  | n + 1, .ag l => .ag (l.map (resV ob n))
  | n + 1, .tp l => .tp (l.map (resV ob n))
  | _ + 1, .u => .u

/-- As it is handed back: made here, never written again. -/
def gV (ob : OB) : Nat → V → V
  | 0, _ => .u
  | _ + 1, .c v => .c v
  | _ + 1, .q => .q
  | _ + 1, .z => .im .b []
  | n + 1, .im .b l => .im .b (l.map fun r => r.map (gV ob n))
  | n + 1, .sl id off len => match rowsOf ob (.sl id off len) with
    | some l => .im .b (l.map fun r => r.map (gV ob n))
    | none => .u
  | n + 1, .ag l => .ag (l.map (gV ob n))
  | n + 1, .tp l => .tp (l.map (gV ob n))
  | _ + 1, _ => .u

/-- Nothing that may not be handed back; no object. -/
inductive NoB : V → Prop
  | c (v : Value) : NoB (.c v)
  | u : NoB .u
  | q : NoB .q
  | z : NoB .z
  | im (f : Fl) (l : List (List V)) (hf : f = .b) (h : ∀ i j v, el l i j = some v → NoB v) : NoB (.im f l)
  | ag (l : List V) (h : ∀ (i : Nat) (v : V), l[i]? = some v → NoB v) : NoB (.ag l)
  | tp (l : List V) (h : ∀ (i : Nat) (v : V), l[i]? = some v → NoB v) : NoB (.tp l)

theorem gV_noB (ob : OB) : ∀ n v, NoB (gV ob n v)
  | 0, v => by cases v <;> exact .u
  | n + 1, v => by
    have rows : ∀ l : List (List V), ∀ i j v, el (l.map fun r => r.map (gV ob n)) i j = some v → NoB v := fun l i j v h => by
      obtain ⟨r, h1, h2⟩ := el_some h
      rw [List.getElem?_map] at h1
      cases hl : l[i]? with
      | none => rw [hl] at h1; cases h1
      | some r' =>
        rw [hl] at h1; injection h1 with h1; subst h1
        rw [List.getElem?_map] at h2
        cases hj : r'[j]? with
        | none => rw [hj] at h2; cases h2
        | some v' => rw [hj] at h2; injection h2 with h2; subst h2; exact gV_noB ob n v'
    have one : ∀ l : List V, ∀ (i : Nat) (v : V), (l.map (gV ob n))[i]? = some v → NoB v := fun l i v h => by
      rw [List.getElem?_map] at h
      cases hl : l[i]? with
      | none => rw [hl] at h; cases h
      | some v' => rw [hl] at h; injection h with h; subst h; exact gV_noB ob n v'
    cases v with
    | c v => exact .c v
    | u => exact .u
    | q => exact .q
    | z => exact .im _ [] rfl (fun i j v h => by simp [el] at h)
    | im f l => cases f <;> simp only [gV] <;> first | exact .u | exact .im _ _ rfl (rows l)
    | sl id off len =>
      simp only [gV]
      split
      · exact .im _ _ rfl (rows _)
      · exact .u
    | pt id i o => exact .u
    | bp l => exact .u
    | fn f caps => exact .u
    | ag l => exact .ag _ (one l)
    | tp l => exact .tp _ (one l)

theorem RV.noB {w : World} {ok ok' : Fl → Nat → Prop} {loc loc' : Loc} {v : V} {x : Value} (hok : ∀ f b, f = .b → ok f b → ok' f b) (h : RV w ok loc v x) (hv : NoB v) : RV w ok' loc' v x := by
  induction h with
  | c v => exact .c v
  | u x => exact .u x
  | q b => exact .q b
  | z a => exact .z a
  | e f a cap h => exact .e f a cap h
  | im f l k b off n cap ys hn hk hc ho h0 h ih =>
    cases hv with
    | im f l hf hl => exact .im f l k b off n cap ys hn hk hc (hok _ _ hf ho) h0 fun i j v hv => ih i j v hv (hl i j v hv)
  | sl => cases hv
  | pt => cases hv
  | bp => cases hv
  | fn => cases hv
  | ag l xs hn h ih => cases hv with | ag l hl => exact .ag l xs hn fun i v x hv hx => ih i v x hv hx (hl i v hv)
  | tp l xs hn h ih => cases hv with | tp l hl => exact .tp l xs hn fun i v x hv hx => ih i v x hv hx (hl i v hv)

/-- What may be handed back. -/
def rok (B : Nat → Prop) (n0 n : Nat) (bo : Option Nat) (f : Fl) (b : Nat) : Prop := b < n ∧ bo ≠ some b ∧ ((f = .b ∧ B b) ∨ n0 ≤ b)
/-- What a call may look at, and hand back. -/
@[reducible] def bkC [Bk] (own : Nat → Option Nat) (n0 n : Nat) : Bk := ⟨fun b => own b = none ∧ b < n ∧ (Bk.B b ∨ n0 ≤ b)⟩

section
variable {P : Program} {n0 : Nat} {w : World} {own : Nat → Option Nat} {loc : Loc} {ob : OB} {nid : Nat} [Bk]

/-- The slice over an object, as a slice that is only read. -/
theorem sl_rows (hwf : WF n0 w own loc ob) {id off len : Nat} {rows : List (List V)} {x : Value} (hr : rowsOf ob (.sl id off len) = some rows) (hx : RV w (okf own n0 w.heap.size) loc (.sl id off len) x) :
    ∃ p cap, loc id = some (some p) ∧ x = .slice (some ⟨p.b, p.base + off * p.k, none⟩) len cap ∧ rows.length = len ∧ len ≤ cap ∧ (∀ ch ∈ rows, ch.length = p.k) ∧
      ∀ i j v, el rows i j = some v → ∃ y, w.cell? ⟨p.b, p.base + off * p.k + i * p.k + j, none⟩ = some y ∧ RV w (okf own n0 w.heap.size) loc v y := by
  simp only [rowsOf] at hr
  obtain ⟨X, hX, hr⟩ := Option.bind_eq_some_iff.1 hr
  split at hr
  case isFalse => cases hr
  rename_i hle
  injection hr with hr; subst hr
  obtain ⟨p, hp, hor, hcap, rfl⟩ := sl_at hwf hX hx
  refine ⟨p, _, hp, rfl, by simp; omega, by omega, fun ch hc => hor.rows ch (List.mem_of_mem_drop (List.mem_of_mem_take hc)), fun i j v hv => ?_⟩
  obtain ⟨y, h1, h2⟩ := hor.cells _ _ _ (el_take_drop hv)
  refine ⟨y, ?_, h2⟩
  rw [← h1]; congr 2
  rw [Nat.add_mul]; omega

theorem el_map {l : List (List V)} {f : V → V} {i j : Nat} {v : V} (h : el (l.map fun r => r.map f) i j = some v) : ∃ v2, el l i j = some v2 ∧ v = f v2 := by
  obtain ⟨r, h1, h2⟩ := el_some h
  rw [List.getElem?_map] at h1
  cases hl : l[i]? with
  | none => rw [hl] at h1; cases h1
  | some r' =>
    rw [hl] at h1; injection h1 with h1; subst h1
    rw [List.getElem?_map] at h2
    cases hj : r'[j]? with
    | none => rw [hj] at h2; cases h2
    | some v' => rw [hj] at h2; injection h2 with h2; exact ⟨v', el_mk hl hj, h2.symm⟩

theorem map_at {α β : Type} {l : List α} {f : α → β} {i : Nat} {v : β} (h : (l.map f)[i]? = some v) : ∃ v2, l[i]? = some v2 ∧ v = f v2 := by
  rw [List.getElem?_map] at h
  cases hl : l[i]? with
  | none => rw [hl] at h; cases h
  | some v' => rw [hl] at h; injection h with h; exact ⟨v', rfl, h.symm⟩

/-- What is handed over, as the call sees it. -/
theorem res_rv (hwf : WF n0 w own loc ob) {ob0 : OB} (hsub : ∀ id o, ob0 id = some o → ob id = some o) : ∀ (n : Nat) (v : V) (x : Value), RV w (okf own n0 w.heap.size) loc v x → RV w (@okf (bkC own n0 w.heap.size) (fun _ => none) w.heap.size w.heap.size) (fun _ => none) (resV ob0 n v) x
  | 0, v, x, h => by cases v <;> exact .u x
  | n + 1, v, x, h => by
    have okb : ∀ f b, okf own n0 w.heap.size f b → @okf (bkC own n0 w.heap.size) (fun _ => none) w.heap.size w.heap.size (resFl f) b := fun f b h => by
      refine ⟨rfl, h.2.1, ?_⟩
      cases f with
      | n => exact .inl rfl
      | b => exact .inr (.inl ⟨rfl, h.1, h.2.1, h.2.2.elim (fun h => by cases h) (fun h => h.elim (fun h => .inl h.2) .inr)⟩)
      | o => exact .inr (.inl ⟨rfl, h.1, h.2.1, h.2.2.elim (fun h => by cases h) (fun h => h.elim (fun h => by cases h.1) .inr)⟩)
    cases h with
    | c => exact .c _
    | u x => exact .u x
    | q b => exact .q b
    | z a => exact .e .b a 0 (fun h => by cases h)
    | e f a cap h => simp only [resV, List.map_nil]; exact .e _ a cap (fun h => by cases f <;> cases h)
    | im f l k b off n' cap ys hn hk hc ho h0 h =>
      refine .im (resFl f) _ k b off n' cap ys (by simpa using hn) (fun ch hch => ?_) hc (okb f b ho) (fun i j v hv => ?_) (fun i j v hv => ?_)
      · obtain ⟨r, h1, rfl⟩ := List.mem_map.1 hch; simpa using hk r h1
      · obtain ⟨q, h1, rfl⟩ := el_map hv; exact h0 i j q h1
      · obtain ⟨q, h1, rfl⟩ := el_map hv; exact res_rv hwf hsub n q _ (h i j q h1)
    | sl id off len a c hl hp =>
      simp only [resV]
      split
      · rename_i rows hr
        obtain ⟨p, cap, h1, h2, h3, h4, h5, h6⟩ := sl_rows hwf (rowsOf_sub hsub hr) (.sl id off len a c hl hp)
        rw [h2]
        have hb := (hwf.owns id p h1).2
        refine .im .n _ p.k p.b (p.base + off * p.k) len cap (fun i j => (w.cell? ⟨p.b, p.base + off * p.k + i * p.k + j, none⟩).getD undef) (by simpa using h3.symm) (fun ch hch => ?_) h4 ⟨rfl, hb, .inl rfl⟩ (fun i j v hv => ?_) (fun i j v hv => ?_)
        · obtain ⟨r, h1, rfl⟩ := List.mem_map.1 hch; simpa using h5 r h1
        · obtain ⟨q, h7, rfl⟩ := el_map hv
          obtain ⟨y, h8, h9⟩ := h6 i j q h7
          rw [h8]; rfl
        · obtain ⟨q, h7, rfl⟩ := el_map hv
          obtain ⟨y, h8, h9⟩ := h6 i j q h7
          rw [h8]; exact res_rv hwf hsub n q _ h9
      · exact .u _
    | pt id i o a hl hp =>
      simp only [resV]
      split
      · rename_i r hr
        obtain ⟨X, hX, hr⟩ := Option.bind_eq_some_iff.1 hr
        obtain ⟨p, h1, hor⟩ := hwf.has id X (hsub id X hX)
        rw [hp p h1]
        have hb := (hwf.owns id p h1).2
        have key : ∀ (j : Nat) (q : V), (r.drop o)[j]? = some q → ∃ y, w.cell? ⟨p.b, p.base + i * p.k + o + j, none⟩ = some y ∧ RV w (okf own n0 w.heap.size) loc q y := fun j q hq => by
          rw [List.getElem?_drop] at hq
          obtain ⟨y, h2, h3⟩ := hor.cells i (o + j) q (el_mk hr hq)
          exact ⟨y, by rw [← h2]; congr 2; omega, h3⟩
        refine .bp _ p.b (p.base + i * p.k + o) (fun j => (w.cell? ⟨p.b, p.base + i * p.k + o + j, none⟩).getD undef) ⟨rfl, hb, .inl rfl⟩ (fun j v hv => ?_) (fun j v hv => ?_)
        · obtain ⟨q, h7, rfl⟩ := map_at hv
          obtain ⟨y, h8, h9⟩ := key j q h7
          rw [h8]; rfl
        · obtain ⟨q, h7, rfl⟩ := map_at hv
          obtain ⟨y, h8, h9⟩ := key j q h7
          rw [h8]; exact res_rv hwf hsub n q _ h9
      · exact .u _
    | bp l b off ys ho h0 h =>
      refine .bp _ b off ys (okb _ _ ho) (fun j v hv => ?_) (fun j v hv => ?_)
      · obtain ⟨q, h7, rfl⟩ := map_at hv; exact h0 j q h7
      · obtain ⟨q, h7, rfl⟩ := map_at hv; exact res_rv hwf hsub n q _ (h j q h7)
    | fn f caps xs hn h =>
      refine .fn f _ xs (by simpa using hn) fun i v x hv hx => ?_
      obtain ⟨q, h7, rfl⟩ := map_at hv; exact res_rv hwf hsub n q _ (h i q x h7 hx)
    | ag l xs hn h =>
      refine .ag _ xs (by simpa using hn) fun i v x hv hx => ?_
      obtain ⟨q, h7, rfl⟩ := map_at hv; exact res_rv hwf hsub n q _ (h i q x h7 hx)
    | tp l xs hn h =>
      refine .tp _ xs (by simpa using hn) fun i v x hv hx => ?_
      obtain ⟨q, h7, rfl⟩ := map_at hv; exact res_rv hwf hsub n q _ (h i q x h7 hx)

/-- What is handed back. -/
theorem g_rv (hwf : WF n0 w own loc ob) (hnew : ∀ b id, own b = some id → n0 ≤ b) {id0 : Nat} (h0' : ob id0 = none) : ∀ (n : Nat) (v : V) (x : Value), RV w (okf own n0 w.heap.size) loc v x → RV w (fun f b => b < w.heap.size ∧ own b ≠ some id0 ∧ ((f = .b ∧ Bk.B b) ∨ n0 ≤ b)) (fun _ => none) (gV ob n v) x
  | 0, v, x, h => by cases v <;> exact .u x
  | n + 1, v, x, h => by
    cases h with
    | c => exact .c _
    | u x => exact .u x
    | q b => exact .q b
    | z a => exact .e .b a 0 (fun h => by cases h)
    | e f a cap h => cases f <;> simp only [gV, List.map_nil] <;> first | exact .u _ | exact .e _ a cap (fun h => by cases h)
    | im f l k b off n' cap ys hn hk hc ho h0 h =>
      cases f <;> simp only [gV] <;> first | exact .u _ | skip
      all_goals
        refine .im _ _ k b off n' cap ys (by simpa using hn) (fun ch hch => ?_) hc ⟨ho.2.1, by rw [ho.1]; simp, ho.2.2.elim (fun h => by cases h) (fun h => h)⟩ (fun i j v hv => ?_) (fun i j v hv => ?_)
        · obtain ⟨r, h1, rfl⟩ := List.mem_map.1 hch; simpa using hk r h1
        · obtain ⟨q, h1, rfl⟩ := el_map hv; exact h0 i j q h1
        · obtain ⟨q, h1, rfl⟩ := el_map hv; exact g_rv hwf hnew h0' n q _ (h i j q h1)
    | sl id off len a c hl hp =>
      simp only [gV]
      split
      · rename_i rows hr
        obtain ⟨p, cap, h1, h2, h3, h4, h5, h6⟩ := sl_rows hwf hr (.sl id off len a c hl hp)
        rw [h2]
        have hb := hwf.owns id p h1
        refine .im .b _ p.k p.b (p.base + off * p.k) len cap (fun i j => (w.cell? ⟨p.b, p.base + off * p.k + i * p.k + j, none⟩).getD undef) (by simpa using h3.symm) (fun ch hch => ?_) h4 ⟨hb.2, by
          rw [hb.1]; intro e; injection e with e; subst e
          simp [rowsOf, h0'] at hr, .inr (hnew _ _ hb.1)⟩ (fun i j v hv => ?_) (fun i j v hv => ?_)
        · obtain ⟨r, h1, rfl⟩ := List.mem_map.1 hch; simpa using h5 r h1
        · obtain ⟨q, h7, rfl⟩ := el_map hv
          obtain ⟨y, h8, h9⟩ := h6 i j q h7
          rw [h8]; rfl
        · obtain ⟨q, h7, rfl⟩ := el_map hv
          obtain ⟨y, h8, h9⟩ := h6 i j q h7
          rw [h8]; exact g_rv hwf hnew h0' n q _ h9
      · exact .u _
    | pt id i o a hl hp => exact .u _
    | bp l b off ys ho h0 h => exact .u _
    | fn f caps xs hn h => exact .u _
    | ag l xs hn h =>
      refine .ag _ xs (by simpa using hn) fun i v x hv hx => ?_
      obtain ⟨q, h7, rfl⟩ := map_at hv; exact g_rv hwf hnew h0' n q _ (h i q x h7 hx)
    | tp l xs hn h =>
      refine .tp _ xs (by simpa using hn) fun i v x hv hx => ?_
      obtain ⟨q, h7, rfl⟩ := map_at hv; exact g_rv hwf hnew h0' n q _ (h i q x h7 hx)

end
end Go.Proofs.Ytamdidmfcjdcgaa.D
