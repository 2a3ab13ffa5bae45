/- The machine's operations do what those over plain values do. No condition. -/
import Derived.Test.YtamdidmfcjdcgaaD11
set_option linter.unusedVariables false
set_option linter.unusedSectionVars false
set_option linter.unusedSimpArgs false
set_option linter.constructorNameAsVariable false
namespace Go.Proofs.Ytamdidmfcjdcgaa.D
open Go Go.RowKit

section
variable {P : Program} {n0 : Nat} {w : World} {own : Nat → Option Nat} {loc : Loc} {ob : OB} {nid : Nat} [Bk]

theorem ldV_sub {ob0 : OB} (hsub : ∀ id o, ob0 id = some o → ob id = some o) {n : Option Nat} {v r : V} (h : ldV ob0 n v = some r) : ldV ob n v = some r := by
  cases v with
  | pt id i o =>
    simp only [ldV] at h ⊢
    obtain ⟨X, hX, h⟩ := Option.bind_eq_some_iff.1 h
    rw [hsub id X hX]; exact h
  | _ => exact h
theorem faV_sub {ob0 : OB} (hsub : ∀ id o, ob0 id = some o → ob id = some o) {n : Nat} {v r : V} (h : faV ob0 n v = some r) : faV ob n v = some r := by
  cases v with
  | pt id i o =>
    simp only [faV] at h ⊢
    obtain ⟨X, hX, h⟩ := Option.bind_eq_some_iff.1 h
    rw [hsub id X hX]; exact h
  | _ => exact h
theorem iaV_sub {ob0 : OB} (hsub : ∀ id o, ob0 id = some o → ob id = some o) {k : Nat} {n : Int} {v r : V} (h : iaV ob0 k v n = some r) : iaV ob k v n = some r := by
  cases v with
  | sl id i o =>
    simp only [iaV] at h ⊢
    obtain ⟨X, hX, h⟩ := Option.bind_eq_some_iff.1 h
    rw [hsub id X hX]; exact h
  | _ => exact h
theorem sliceV_sub {ob0 : OB} (hsub : ∀ id o, ob0 id = some o → ob id = some o) {k : Nat} {lo hi : Option Int} {v r : V} (h : sliceV ob0 k v lo hi = some r) : sliceV ob k v lo hi = some r := by
  cases v with
  | sl id i o =>
    simp only [sliceV] at h ⊢
    obtain ⟨X, hX, h⟩ := Option.bind_eq_some_iff.1 h
    rw [hsub id X hX]; exact h
  | _ => exact h

theorem isNil_sub {ob0 : OB} (hsub : ∀ id o, ob0 id = some o → ob id = some o) {kd : Nat} {v r : V} (h : isNil ob0 kd v = some r) : isNil ob kd v = some r := by
  unfold isNil at h ⊢
  split at h
  all_goals first | exact h | (obtain ⟨X, hX, h⟩ := Option.map_eq_some_iff.1 h; simp [hsub _ X hX]; exact h) | (cases h; done)

/-- Loads. -/
theorem ld_does (hwf : WF n0 w own loc ob) {t : TypeId} {sz : Option Nat} (ht : tySz P t = some sz) {v r : V} {x : Value} (h : ldV ob sz v = some r)
    (hx : RV w (okf own n0 w.heap.size) loc v x) : ∃ y, (Instr.loadAt t x).run P w = .ok y w ∧ RV w (okf own n0 w.heap.size) loc r y := by
  unfold ldV at h
  split at h
  · rename_i id i o
    obtain ⟨X, hX, h⟩ := Option.bind_eq_some_iff.1 h
    obtain ⟨row, hr, h⟩ := Option.bind_eq_some_iff.1 h
    split at h
    · rename_i hn; exact load_pt hwf ht hX hr hn h hx
    · cases h
  · split at h
    · rename_i hn; exact load_bp ht hn h hx
    · cases h
  · cases h

/-- A literal. -/
theorem optAll_spec {α : Type} : ∀ {l : List (Option α)} {m : List α}, optAll l = some m → l = m.map some
  | [], m, h => by simp only [optAll] at h; injection h with h; subst h; rfl
  | some x :: l, m, h => by
    simp only [optAll] at h
    obtain ⟨m', h1, h2⟩ := Option.map_eq_some_iff.1 h
    subst h2
    rw [optAll_spec h1]; rfl
  | none :: l, m, h => by simp [optAll] at h

theorem places_run {fs : Array Field} (hi : allInfo P fs = true) : (fs.mapM fun f => Prod.mk f.offset <$> sizeOf f.type : Sem (Array (Nat × Nat))).run P w = .ok (fs.map fun f => (f.offset, P.cellsOf f.type)) w := by
  obtain ⟨l⟩ := fs
  simp only [allInfo] at hi
  rw [List.mapM_toArray]
  have aux : ∀ l : List Field, (l.all fun f => (P.info? f.type).isSome) = true → (l.mapM fun f => Prod.mk f.offset <$> sizeOf f.type : Sem (List (Nat × Nat))).run P w = .ok (l.map fun f => (f.offset, P.cellsOf f.type)) w := by
    intro l
    induction l with
    | nil => intro _; simp
    | cons f l ih =>
      intro h
      simp only [List.all_cons, Bool.and_eq_true] at h
      obtain ⟨i, hi⟩ := Option.isSome_iff_exists.1 h.1
      have := ih h.2
      have e : P.cellsOf f.type = i.size := by simp [Program.cellsOf, hi]
      simp [List.mapM_cons, size_of hi, this, e]
  have := aux l hi
  simp [this]

theorem zeroOf_spec {t : TypeId} {z : List V} (h : zeroOf P t = some z) : ∃ i zv, P.info? t = some i ∧ i.zero = some zv ∧ toVs zv.cells.toList = some z ∧ z.length = i.size := by
  unfold zeroOf at h
  obtain ⟨i, h1, h⟩ := Option.bind_eq_some_iff.1 h
  obtain ⟨zv, h2, h⟩ := Option.bind_eq_some_iff.1 h
  obtain ⟨l, h3, h⟩ := Option.bind_eq_some_iff.1 h
  split at h
  · rename_i h4; injection h with h; subst h; exact ⟨i, zv, h1, h2, h3, h4⟩
  · cases h

theorem fieldsOf_spec {t : TypeId} {fs : Array Field} (h : fieldsOf P t = some fs) : P.underlying t = some (.struct fs) := by
  unfold fieldsOf at h
  split at h
  · rename_i g hg; injection h with h; subst h; exact hg
  · cases h

theorem build_run {t : TypeId} {fs : Array Field} {z l : List V} {is : List Nat} {ps : List (Nat × Nat)} {vs : List V} {xs : List Value} {ok : Fl → Nat → Prop}
    (hf : fieldsOf P t = some fs) (hi : allInfo P fs = true) (hz : zeroOf P t = some z) (hps : optAll (is.map fun i => partPl P fs i) = some ps) (hv : RVs w ok loc vs xs)
    (h : fill z ps vs = some l) : ∃ y, (Instr.build t (is.zip xs).toArray).run P w = .ok y w ∧ RV w ok loc (.ag l) y := by
  have hu := fieldsOf_spec hf
  obtain ⟨i, zv, h1, h2, h3, h4⟩ := zeroOf_spec hz
  have hp := optAll_spec hps
  obtain ⟨cy, hcy, hcr⟩ := fill_rv (fun i => (fs[i]?).map fun f => (f.offset, P.cellsOf f.type)) is ps vs xs z l zv.cells (by have := congrArg List.length hp; simpa using this) (fun j i p hj hq => by
    have h5 : (is.map fun i => partPl P fs i)[j]? = (ps.map some)[j]? := by rw [hp]
    rw [List.getElem?_map, List.getElem?_map, hj, hq] at h5
    injection h5 with h5
    simp only [partPl] at h5
    obtain ⟨f, h6, h7⟩ := Option.bind_eq_some_iff.1 h5
    obtain ⟨x, h8, h9⟩ := Option.map_eq_some_iff.1 h7
    simp [h6, Program.cellsOf, h8, h9]) hv (toVs_rv h3).1 h
  refine ⟨.agg cy, ?_, ?_⟩
  · simp [Instr.build, zero_of h1 h2, run_underlying hu, places_run hi, hcy]
  · have e : cy = cy.toList.toArray := by simp
    rw [e]; exact .ag l _ hcr.1 hcr.2

theorem zip_map {α β : Type} (l : List (Nat × α)) (f : α → β) : (l.map fun p => (p.1, f p.2)) = (l.map (·.1)).zip ((l.map (·.2)).map f) := by
  induction l with
  | nil => rfl
  | cons p l ih => simp [ih]

theorem Does.of_value {s : Sem Value} {r : V} {us : Ups} {own' : Nat → Option Nat} {loc' : Loc} {w' : World} {y : Value} (h : s.run P w = .ok y w') (hr : RV w' (okf own' n0 w'.heap.size) loc' r y)
    (hwf : WF n0 w' own' loc' (apps ob us)) (hs : Stp w own loc w' own' loc') (hn : ∀ id, id ≠ nid → loc id = none → loc' id = none) :
    Does P n0 w own loc ob nid (do pure (Next.value (← s)) : Sem Next) r us :=
  ⟨y, w', own', loc', .inl (by simp [h]), hr, hwf, hs, hn⟩

theorem Does.of_same {s : Sem Value} {r : V} {y : Value} (hwf : WF n0 w own loc ob) (h : s.run P w = .ok y w) (hr : RV w (okf own n0 w.heap.size) loc r y) :
    Does P n0 w own loc ob nid (do pure (Next.value (← s)) : Sem Next) r [] := .of_value h hr hwf (.refl _ _ _) fun _ _ h => h

theorem elSz_of_z {t : TypeId} {k : Nat} {z : List V} (h : elZ P t = some (k, z)) : elSz P t = some k := by
  obtain ⟨e, i, zv, hu, hi, hik, _⟩ := elZ_spec h
  simp [elSz, sliceEl, hu, hi, hik]

theorem toPt_inv {v : V} {q : Nat × Nat × Nat} (h : toPt v = some q) : v = .pt q.1 q.2.1 q.2.2 := by
  unfold toPt at h
  split at h
  · injection h with h; subst h; rfl
  · cases h
theorem toAg_inv {v : V} {l : List V} (h : toAg v = some l) : v = .ag l := by
  unfold toAg at h
  split at h
  · injection h with h; subst h; rfl
  · cases h
theorem toTp_inv {v : V} {l : List V} (h : toTp v = some l) : v = .tp l := by
  unfold toTp at h
  split at h
  · injection h with h; subst h; rfl
  · cases h

theorem snd_move {dst : Option Tmp} {ty : TypeId} {pos : String} {after : Array Edge} {guard : Option (Nat × Bool)} (x : Operand) {h op : Ok} {xs : List Operand} (hc : compOp P ⟨dst, .move x, ty, pos, after, guard⟩ h = some (op, xs)) {ρ : Operand → Value} {vs : List V} {r : V} {us : Ups} {ob0 : OB}
    (hwf : WF n0 w own loc ob) (hn0 : n0 ≤ w.heap.size) (hnid : loc nid = none) (hsub : ∀ id o, ob0 id = some o → ob id = some o)
    (hv : RVs w (okf own n0 w.heap.size) loc vs (xs.map ρ)) (hop : opF op vs ob0 nid = some (r, us)) : Does P n0 w own loc ob nid (execOp ρ ⟨dst, .move x, ty, pos, after, guard⟩) r us := by
  simp only [compOp] at hc
  injection hc with hc; injection hc with h1 h2; subst h1; subst h2
  obtain ⟨v, rfl, hx⟩ := rvs1 hv
  simp only [opF] at hop; injection hop with hop; injection hop with h1 h2; subst h1; subst h2
  exact ⟨ρ x, w, own, loc, .inl (by simp [execOp]), hx, hwf, .refl _ _ _, fun _ _ h => h⟩

theorem snd_assign {dst : Option Tmp} {ty : TypeId} {pos : String} {after : Array Edge} {guard : Option (Nat × Bool)} (x : Operand) {h op : Ok} {xs : List Operand} (hc : compOp P ⟨dst, .assign x, ty, pos, after, guard⟩ h = some (op, xs)) {ρ : Operand → Value} {vs : List V} {r : V} {us : Ups} {ob0 : OB}
    (hwf : WF n0 w own loc ob) (hn0 : n0 ≤ w.heap.size) (hnid : loc nid = none) (hsub : ∀ id o, ob0 id = some o → ob id = some o)
    (hv : RVs w (okf own n0 w.heap.size) loc vs (xs.map ρ)) (hop : opF op vs ob0 nid = some (r, us)) : Does P n0 w own loc ob nid (execOp ρ ⟨dst, .assign x, ty, pos, after, guard⟩) r us := by
  simp only [compOp] at hc
  injection hc with hc; injection hc with h1 h2; subst h1; subst h2
  obtain ⟨v, rfl, hx⟩ := rvs1 hv
  simp only [opF] at hop; injection hop with hop; injection hop with h1 h2; subst h1; subst h2
  exact ⟨ρ x, w, own, loc, .inl (by simp [execOp]), hx, hwf, .refl _ _ _, fun _ _ h => h⟩

theorem snd_pick {dst : Option Tmp} {ty : TypeId} {pos : String} {after : Array Edge} {guard : Option (Nat × Bool)} (c a b : Operand) {h op : Ok} {xs : List Operand} (hc : compOp P ⟨dst, .pick c a b, ty, pos, after, guard⟩ h = some (op, xs)) {ρ : Operand → Value} {vs : List V} {r : V} {us : Ups} {ob0 : OB}
    (hwf : WF n0 w own loc ob) (hn0 : n0 ≤ w.heap.size) (hnid : loc nid = none) (hsub : ∀ id o, ob0 id = some o → ob id = some o)
    (hv : RVs w (okf own n0 w.heap.size) loc vs (xs.map ρ)) (hop : opF op vs ob0 nid = some (r, us)) : Does P n0 w own loc ob nid (execOp ρ ⟨dst, .pick c a b, ty, pos, after, guard⟩) r us := by
  simp only [compOp] at hc
  injection hc with hc; injection hc with h1 h2; subst h1; subst h2
  obtain ⟨v, v2, v3, rfl, hx, hy, hz⟩ := rvs3 hv
  simp only [opF] at hop
  obtain ⟨q, hq, hop⟩ := Option.map_eq_some_iff.1 hop
  injection hop with h1 h2; subst h1; subst h2
  have := toBool_inv hq; subst this
  have hb := hx.c_inv
  refine ⟨if q then ρ a else ρ b, w, own, loc, .inl (by simp [execOp, hb, asBool]), ?_, hwf, .refl _ _ _, fun _ _ h => h⟩
  cases q
  · simpa using hz
  · simpa using hy

theorem snd_alloc {dst : Option Tmp} {ty : TypeId} {pos : String} {after : Array Edge} {guard : Option (Nat × Bool)} (t : TypeId) {h op : Ok} {xs : List Operand} (hc : compOp P ⟨dst, .alloc t, ty, pos, after, guard⟩ h = some (op, xs)) {ρ : Operand → Value} {vs : List V} {r : V} {us : Ups} {ob0 : OB}
    (hwf : WF n0 w own loc ob) (hn0 : n0 ≤ w.heap.size) (hnid : loc nid = none) (hsub : ∀ id o, ob0 id = some o → ob id = some o)
    (hv : RVs w (okf own n0 w.heap.size) loc vs (xs.map ρ)) (hop : opF op vs ob0 nid = some (r, us)) : Does P n0 w own loc ob nid (execOp ρ ⟨dst, .alloc t, ty, pos, after, guard⟩) r us := by
  simp only [compOp] at hc
  obtain ⟨z, hz, hc⟩ := Option.bind_eq_some_iff.1 hc
  split at hc
  case isFalse => cases hc
  rename_i hok
  injection hc with hc; injection hc with h1 h2; subst h1; subst h2
  obtain ⟨i, zv, h1, h2, h3, h4⟩ := zeroOf_spec hz
  have hvs : vs = [] := List.length_eq_zero_iff.1 (by have := hv.1; simpa using this.symm)
  subst hvs
  simp only [opF] at hop; injection hop with hop; injection hop with h5 h6; subst h5; subst h6
  obtain ⟨hzr, _⟩ := toVs_rv (w := w) (ok := okf own n0 w.heap.size) (loc := loc) h3
  have hzs : zv.cells.size = z.length := by have := hzr.1; simpa using this
  obtain ⟨h7, h8⟩ := new_ob hwf hnid zv.cells t z.length 1 [z] none (by omega) (by simp) (by simp) (fun c h => by cases h) (fun i j v hv => by
    obtain ⟨r, h9, h10⟩ := el_some hv
    cases i with
    | zero =>
      simp at h9; subst h9
      have hj : j < zv.cells.toList.length := by rw [hzr.1]; exact (List.getElem?_eq_some_iff.1 h10).1
      refine ⟨zv.cells.toList[j], by simp at hj ⊢; try exact hj, hzr.2 j v _ h10 (List.getElem?_eq_getElem hj)⟩
    | succ i => simp at h9)
  refine .of_value (s := Instr.alloc t true (.tuple #[])) (y := .pointer (some ⟨w.heap.size, 0, none⟩)) ?_ ?_ h7 h8 (fun id hne h => by simp [hne, h])
  · have hap : ∀ o : Obj, ({ heap := w.heap.push o, tape := w.tape, drawn := w.drawn, os := w.os, output := w.output } : World) = w.alloc o := fun o => rfl
    simp [Instr.alloc, zero_of h1 h2, newVar, newRow, hap]
  · exact .pt nid 0 0 _ (by simp) fun q hq => by simp at hq; subst hq; simp

theorem snd_box {dst : Option Tmp} {ty : TypeId} {pos : String} {after : Array Edge} {guard : Option (Nat × Bool)} (t : TypeId) (x : Operand) {h op : Ok} {xs : List Operand} (hc : compOp P ⟨dst, .box t x, ty, pos, after, guard⟩ h = some (op, xs)) {ρ : Operand → Value} {vs : List V} {r : V} {us : Ups} {ob0 : OB}
    (hwf : WF n0 w own loc ob) (hn0 : n0 ≤ w.heap.size) (hnid : loc nid = none) (hsub : ∀ id o, ob0 id = some o → ob id = some o)
    (hv : RVs w (okf own n0 w.heap.size) loc vs (xs.map ρ)) (hop : opF op vs ob0 nid = some (r, us)) : Does P n0 w own loc ob nid (execOp ρ ⟨dst, .box t x, ty, pos, after, guard⟩) r us := by
  simp only [compOp] at hc
  obtain ⟨n, hn, hc⟩ := Option.map_eq_some_iff.1 hc
  injection hc with h1 h2; subst h1; subst h2
  obtain ⟨v, rfl, hx⟩ := rvs1 hv
  simp only [opF] at hop
  split at hop
  case isFalse => cases hop
  rename_i hok
  injection hop with hop; injection hop with h5 h6; subst h5; subst h6
  simp only [okRow, Bool.and_eq_true, beq_iff_eq] at hok
  obtain ⟨hcr, _⟩ := cells_rv hx hok.2
  have hxs : (ρ x).cells.size = n.getD 1 := by have := hcr.1; simp at this; omega
  obtain ⟨h7, h8⟩ := new_ob hwf hnid (ρ x).cells t (n.getD 1) 1 [cellsV v] none (by omega) (by simp) (by simp [hok.1]) (fun c h => by cases h) (fun i j q hu => by
    obtain ⟨r, h9, h10⟩ := el_some hu
    cases i with
    | zero =>
      simp at h9; subst h9
      have hj : j < (ρ x).cells.toList.length := by rw [hcr.1]; exact (List.getElem?_eq_some_iff.1 h10).1
      refine ⟨(ρ x).cells.toList[j], by simp at hj ⊢; try exact hj, hcr.2 j q _ h10 (List.getElem?_eq_getElem hj)⟩
    | succ i => simp at h9)
  refine .of_value (s := Instr.box t (ρ x)) (y := .pointer (some ⟨w.heap.size, 0, none⟩)) ?_ ?_ h7 h8 (fun id hne h => by simp [hne, h])
  · have hap : ∀ o : Obj, ({ heap := w.heap.push o, tape := w.tape, drawn := w.drawn, os := w.os, output := w.output } : World) = w.alloc o := fun o => rfl
    simp [Instr.box, newVar, newRow, hap]
  · exact .pt nid 0 0 _ (by simp) fun q hq => by simp at hq; subst hq; simp

theorem snd_build {dst : Option Tmp} {ty : TypeId} {pos : String} {after : Array Edge} {guard : Option (Nat × Bool)} (t : TypeId) (parts : Array (Nat × Operand)) {h op : Ok} {xs : List Operand} (hc : compOp P ⟨dst, .build t parts, ty, pos, after, guard⟩ h = some (op, xs)) {ρ : Operand → Value} {vs : List V} {r : V} {us : Ups} {ob0 : OB}
    (hwf : WF n0 w own loc ob) (hn0 : n0 ≤ w.heap.size) (hnid : loc nid = none) (hsub : ∀ id o, ob0 id = some o → ob id = some o)
    (hv : RVs w (okf own n0 w.heap.size) loc vs (xs.map ρ)) (hop : opF op vs ob0 nid = some (r, us)) : Does P n0 w own loc ob nid (execOp ρ ⟨dst, .build t parts, ty, pos, after, guard⟩) r us := by
  simp only [compOp] at hc
  obtain ⟨fs, hf, hc⟩ := Option.bind_eq_some_iff.1 hc
  split at hc
  case isFalse => cases hc
  rename_i hall
  obtain ⟨z, hz, hc⟩ := Option.bind_eq_some_iff.1 hc
  obtain ⟨ps, hps, hc⟩ := Option.map_eq_some_iff.1 hc
  injection hc with h1 h2; subst h1; subst h2
  simp only [opF] at hop
  obtain ⟨l, hl, hop⟩ := Option.map_eq_some_iff.1 hop
  injection hop with h5 h6; subst h5; subst h6
  have hps' : optAll ((parts.toList.map (·.1)).map fun i => partPl P fs i) = some ps := by rw [List.map_map]; exact hps
  obtain ⟨y, hy, hyr⟩ := build_run (w := w) hf hall hz hps' hv hl
  refine .of_same hwf (s := Instr.build t (parts.map fun p => (p.1, ρ p.2))) ?_ hyr
  have e : (parts.map fun p => (p.1, ρ p.2)) = ((parts.toList.map (·.1)).zip ((parts.toList.map (·.2)).map ρ)).toArray := by
    rw [← zip_map]; apply Array.ext'; simp
  rw [e]; exact hy

theorem snd_buildSlice {dst : Option Tmp} {ty : TypeId} {pos : String} {after : Array Edge} {guard : Option (Nat × Bool)} (t : TypeId) (n : Nat) (parts : Array (Nat × Operand)) {h op : Ok} {xs : List Operand} (hc : compOp P ⟨dst, .buildSlice t n parts, ty, pos, after, guard⟩ h = some (op, xs)) {ρ : Operand → Value} {vs : List V} {r : V} {us : Ups} {ob0 : OB}
    (hwf : WF n0 w own loc ob) (hn0 : n0 ≤ w.heap.size) (hnid : loc nid = none) (hsub : ∀ id o, ob0 id = some o → ob id = some o)
    (hv : RVs w (okf own n0 w.heap.size) loc vs (xs.map ρ)) (hop : opF op vs ob0 nid = some (r, us)) : Does P n0 w own loc ob nid (execOp ρ ⟨dst, .buildSlice t n parts, ty, pos, after, guard⟩) r us := by
  simp only [compOp] at hc
  obtain ⟨fz, _, hc⟩ := Option.bind_eq_some_iff.1 hc
  obtain ⟨⟨k, z⟩, hkz, hc⟩ := Option.bind_eq_some_iff.1 hc
  split at hc
  case isFalse => cases hc
  rename_i hnk
  have hnk' : n * k ≤ 16777216 := by simpa [maxLit] using hnk
  clear hnk
  injection hc with hc; injection hc with h1 h2; subst h1; subst h2
  have hop' : opF (.bsl k z (parts.toList.map (·.1)) n fz) vs ob0 nid = some (r, us) := hop
  clear hop
  obtain ⟨y, w', own', loc', h3, h4, h5, h6, h7⟩ := bsl_does (P := P) (t := t) hwf hn0 hnid hkz hnk' (is := parts.toList.map (·.1)) (xs := (parts.toList.map (·.2)).map ρ) (by simp) hv hop'
  have e : (parts.map fun (i, x) => (i, ρ x)) = ((parts.toList.map (·.1)).zip ((parts.toList.map (·.2)).map ρ)).toArray := by
    rw [← zip_map]; apply Array.ext'; simp
  rw [← e] at h3
  have hx : execOp ρ ⟨dst, .buildSlice t n parts, ty, pos, after, guard⟩ = (do pure (Next.value (← Instr.buildSlice t n (parts.map fun (i, x) => (i, ρ x)))) : Sem Next) := by simp only [execOp]
  rw [hx]
  exact .of_value h3 h4 h5 h6 h7

theorem snd_load {dst : Option Tmp} {ty : TypeId} {pos : String} {after : Array Edge} {guard : Option (Nat × Bool)} (t : TypeId) (a : Operand) {h op : Ok} {xs : List Operand} (hc : compOp P ⟨dst, .load t a, ty, pos, after, guard⟩ h = some (op, xs)) {ρ : Operand → Value} {vs : List V} {r : V} {us : Ups} {ob0 : OB}
    (hwf : WF n0 w own loc ob) (hn0 : n0 ≤ w.heap.size) (hnid : loc nid = none) (hsub : ∀ id o, ob0 id = some o → ob id = some o)
    (hv : RVs w (okf own n0 w.heap.size) loc vs (xs.map ρ)) (hop : opF op vs ob0 nid = some (r, us)) : Does P n0 w own loc ob nid (execOp ρ ⟨dst, .load t a, ty, pos, after, guard⟩) r us := by
  simp only [compOp] at hc
  obtain ⟨n, hn, hc⟩ := Option.map_eq_some_iff.1 hc
  injection hc with h1 h2; subst h1; subst h2
  obtain ⟨v, rfl, hx⟩ := rvs1 hv
  simp only [opF] at hop
  obtain ⟨v', hl, hop⟩ := Option.map_eq_some_iff.1 hop
  injection hop with h5 h6; subst h5; subst h6
  obtain ⟨y, h3, h4⟩ := ld_does hwf hn (ldV_sub hsub hl) hx
  exact .of_same hwf h3 h4

theorem snd_store {dst : Option Tmp} {ty : TypeId} {pos : String} {after : Array Edge} {guard : Option (Nat × Bool)} (t : TypeId) (a x : Operand) {h op : Ok} {xs : List Operand} (hc : compOp P ⟨dst, .store t a x, ty, pos, after, guard⟩ h = some (op, xs)) {ρ : Operand → Value} {vs : List V} {r : V} {us : Ups} {ob0 : OB}
    (hwf : WF n0 w own loc ob) (hn0 : n0 ≤ w.heap.size) (hnid : loc nid = none) (hsub : ∀ id o, ob0 id = some o → ob id = some o)
    (hv : RVs w (okf own n0 w.heap.size) loc vs (xs.map ρ)) (hop : opF op vs ob0 nid = some (r, us)) : Does P n0 w own loc ob nid (execOp ρ ⟨dst, .store t a x, ty, pos, after, guard⟩) r us := by
  simp only [compOp] at hc
  obtain ⟨n, hn, hc⟩ := Option.map_eq_some_iff.1 hc
  injection hc with h1 h2; subst h1; subst h2
  obtain ⟨v, v2, rfl, hx, hy⟩ := rvs2 hv
  simp only [opF] at hop
  obtain ⟨⟨id, i, o⟩, hq, hopA⟩ := Option.bind_eq_some_iff.1 hop
  clear hop
  obtain ⟨X, hX, hopB⟩ := Option.bind_eq_some_iff.1 hopA
  clear hopA
  obtain ⟨row, hr, hop⟩ := Option.bind_eq_some_iff.1 hopB
  clear hopB
  have hq' := toPt_inv hq
  rw [hq'] at hx
  split at hop
  case isFalse => cases hop
  rename_i hcond
  injection hop with hop; injection hop with h5 h6; subst h5; subst h6
  obtain ⟨w', h3, h4, h5⟩ := store_pt hwf hn (hsub id X hX) hr hcond.2.2 hcond.1 hcond.2.1 hx hy
  exact ⟨undef, w', own, loc, .inr ⟨by simp [execOp, h3], rfl⟩, .u _, h4, h5, fun _ _ h => h⟩

theorem eq_nil_slice {t : TypeId} {e : TypeId} (hu : P.underlying t = some (.slice e)) (a : Option Addr) (n c : Nat) (xo y : Operand) (op : BinOp) (neg : Bool) (hop : negOp op = some neg) :
    (do eqGuard op t xo y (.slice a n c) (.slice none 0 0); binOp op t (.slice a n c) (.slice none 0 0) : Sem Value).run P w = .ok (.bool (if neg then !a.isNone else a.isNone)) w := by
  have he : (Op.equal t (.slice a n c) (.slice none 0 0)).run P w = .ok a.isNone w := by
    have aux : ∀ d, (Op.equalIn (d + 1) t (.slice a n c) (.slice none 0 0)).run P w = .ok a.isNone w := fun d => by cases a <;> simp [Op.equalIn, run_underlying hu]
    exact aux 9999
  cases op <;> simp only [negOp] at hop <;> first | (cases hop; done) | skip
  · injection hop with hop; subst hop; simp [eqGuard, binOp, he]
  · injection hop with hop; subst hop; simp [eqGuard, binOp, he]

theorem eq_nil_ptr {t : TypeId} {e : TypeId} (hu : P.underlying t = some (.pointer e)) (a : Option Addr) (xo y : Operand) (op : BinOp) (neg : Bool) (hop : negOp op = some neg) :
    (do eqGuard op t xo y (.pointer a) (.pointer none); binOp op t (.pointer a) (.pointer none) : Sem Value).run P w = .ok (.bool (if neg then !a.isNone else a.isNone)) w := by
  have he : (Op.equal t (.pointer a) (.pointer none)).run P w = .ok a.isNone w := by
    have aux : ∀ d, (Op.equalIn (d + 1) t (.pointer a) (.pointer none)).run P w = .ok a.isNone w := fun d => by cases a <;> simp [Op.equalIn, run_underlying hu]
    exact aux 9999
  cases op <;> simp only [negOp] at hop <;> first | (cases hop; done) | skip
  · injection hop with hop; subst hop; simp [eqGuard, binOp, he]
  · injection hop with hop; subst hop; simp [eqGuard, binOp, he]

theorem eq_nil_fn {t : TypeId} {a b : Array TypeId} {q : Bool} (hu : P.underlying t = some (.func a b q)) (x : Value) (c : Bool) (hx : (x = .nilFunc ∧ c = true) ∨ (∃ f g h, x = .func f g h) ∧ c = false) (xo y : Operand) (op : BinOp) (neg : Bool) (hop : negOp op = some neg) :
    (do eqGuard op t xo y x .nilFunc; binOp op t x .nilFunc : Sem Value).run P w = .ok (.bool (if neg then !c else c)) w := by
  have he : (Op.equal t x .nilFunc).run P w = .ok c w := by
    have aux : ∀ d, (Op.equalIn (d + 1) t x .nilFunc).run P w = .ok c w := fun d => by
     rcases hx with ⟨rfl, rfl⟩ | ⟨⟨f, g, h, rfl⟩, rfl⟩ <;> simp [Op.equalIn, run_underlying hu]
    exact aux 9999
  rcases hx with ⟨rfl, rfl⟩ | ⟨⟨f, g, h, rfl⟩, rfl⟩ <;> cases op <;> simp only [negOp] at hop <;> first | (cases hop; done) | skip
  all_goals (injection hop with hop; subst hop; simp [eqGuard, binOp, he])

theorem eq_nil_map {t : TypeId} {a b : TypeId} (hu : P.underlying t = some (.map a b)) (xo y : Operand) (op : BinOp) (neg : Bool) (hop : negOp op = some neg) :
    (do eqGuard op t xo y (.map none) (.map none); binOp op t (.map none) (.map none) : Sem Value).run P w = .ok (.bool (if neg then false else true)) w := by
  have he : (Op.equal t (.map none) (.map none)).run P w = .ok true w := by
    have aux : ∀ d, (Op.equalIn (d + 1) t (.map none) (.map none)).run P w = .ok true w := fun d => by simp [Op.equalIn, run_underlying hu]
    exact aux 9999
  cases op <;> simp only [negOp] at hop <;> first | (cases hop; done) | skip
  · injection hop with hop; subst hop; simp [eqGuard, binOp, he]
  · injection hop with hop; subst hop; simp [eqGuard, binOp, he]

theorem nil_run {kd : Nat} {t : TypeId} {x : Value} {v r : V} {y : Operand} {op : BinOp} {neg : Bool} (ht : nilTy P t = some kd) (hy : nilConst kd y = true) (hop : negOp op = some neg)
    (hwf : WF n0 w own loc ob) (hx : RV w (okf own n0 w.heap.size) loc v x) (h : isNil ob kd v = some r) (ρ : Operand → Value) (hρ : ∀ v, ρ (.const v) = v) (xo : Operand) :
    ∃ z, (do eqGuard op t xo y x (ρ y); binOp op t x (ρ y) : Sem Value).run P w = .ok z w ∧ RV w (okf own n0 w.heap.size) loc (negV neg r) z := by
  unfold nilTy at ht
  split at ht
  · rename_i e hu
    injection ht with ht; subst ht
    unfold nilConst at hy
    split at hy <;> first | omega | (cases hy; done) | skip
    rw [hρ]
    unfold isNil at h
    split at h <;> first | omega | (cases h; done) | skip
    · injection h with h; subst h
      obtain ⟨a, rfl⟩ := hx.z_inv
      exact ⟨_, eq_nil_slice hu _ _ _ _ _ _ _ hop, .q _⟩
    · injection h with h; subst h
      cases hx with
      | e f a cap h => exact ⟨_, eq_nil_slice hu _ _ _ _ _ _ _ hop, .q _⟩
      | im f l k b off n cap ys hn hk hc ho h0 h => exact ⟨_, eq_nil_slice hu _ _ _ _ _ _ _ hop, .q _⟩
    · injection h with h; subst h
      cases hx with
      | im f l k b off n cap ys hn hk hc ho h0 h => exact ⟨_, eq_nil_slice hu _ _ _ _ _ _ _ hop, by cases neg <;> exact .c _⟩
    · obtain ⟨X, hX, h⟩ := Option.map_eq_some_iff.1 h
      subst h
      obtain ⟨p, hp, hor, hcap, rfl⟩ := sl_at hwf hX hx
      exact ⟨_, eq_nil_slice hu _ _ _ _ _ _ _ hop, by cases neg <;> exact .c _⟩
  · rename_i e hu
    injection ht with ht; subst ht
    unfold nilConst at hy
    split at hy <;> first | omega | (cases hy; done) | skip
    rw [hρ]
    unfold isNil at h
    split at h <;> first | omega | (cases h; done) | skip
    · injection h with h; subst h
      have := hx.c_inv; subst this
      exact ⟨_, eq_nil_ptr hu _ _ _ _ _ hop, by cases neg <;> exact .c _⟩
    · obtain ⟨X, hX, h⟩ := Option.map_eq_some_iff.1 h
      subst h
      obtain ⟨p, hp, hor⟩ := hwf.has _ X hX
      cases hx with
      | pt _ _ _ a hl h => rw [h p hp]; exact ⟨_, eq_nil_ptr hu _ _ _ _ _ hop, by cases neg <;> exact .c _⟩
    · injection h with h; subst h
      cases hx with
      | bp _ b off ys ho h0 h => exact ⟨_, eq_nil_ptr hu _ _ _ _ _ hop, by cases neg <;> exact .c _⟩
  · rename_i a b q hu
    injection ht with ht; subst ht
    unfold nilConst at hy
    split at hy <;> first | omega | (cases hy; done) | skip
    rw [hρ]
    unfold isNil at h
    split at h <;> first | omega | (cases h; done) | skip
    · injection h with h; subst h
      have := hx.c_inv; subst this
      exact ⟨_, eq_nil_fn hu _ true (.inl ⟨rfl, rfl⟩) _ _ _ _ hop, by cases neg <;> exact .c _⟩
    · injection h with h; subst h
      cases hx with
      | fn f caps xs hn h => exact ⟨_, eq_nil_fn hu _ false (.inr ⟨⟨_, _, _, rfl⟩, rfl⟩) _ _ _ _ hop, by cases neg <;> exact .c _⟩
  · rename_i a b hu
    injection ht with ht; subst ht
    unfold nilConst at hy
    split at hy <;> first | omega | (cases hy; done) | skip
    rw [hρ]
    unfold isNil at h
    split at h <;> first | omega | (cases h; done) | skip
    injection h with h; subst h
    have := hx.c_inv; subst this
    exact ⟨_, eq_nil_map hu _ _ _ _ hop, by cases neg <;> exact .c _⟩
  · cases ht

theorem snd_binOp {dst : Option Tmp} {ty : TypeId} {pos : String} {after : Array Edge} {guard : Option (Nat × Bool)} (op' : BinOp) (t : TypeId) (x y : Operand) (t2 : TypeId) {h op : Ok} {xs : List Operand} (hc : compOp P ⟨dst, .binOp op' t x y t2, ty, pos, after, guard⟩ h = some (op, xs)) {ρ : Operand → Value} {vs : List V} {r : V} {us : Ups} {ob0 : OB}
    (hwf : WF n0 w own loc ob) (hn0 : n0 ≤ w.heap.size) (hnid : loc nid = none) (hsub : ∀ id o, ob0 id = some o → ob id = some o)
    (hρ : ∀ v, ρ (.const v) = v) (hv : RVs w (okf own n0 w.heap.size) loc vs (xs.map ρ)) (hop : opF op vs ob0 nid = some (r, us)) : Does P n0 w own loc ob nid (execOp ρ ⟨dst, .binOp op' t x y t2, ty, pos, after, guard⟩) r us := by
  simp only [compOp] at hc
  split at hc
  · rename_i ht
    injection hc with hc; injection hc with h1 h2; subst h1; subst h2
    obtain ⟨v, v2, rfl, hx, hy⟩ := rvs2 hv
    simp only [opF] at hop
    obtain ⟨a, ha, hop⟩ := Option.bind_eq_some_iff.1 hop
    obtain ⟨b, hb, hop⟩ := Option.bind_eq_some_iff.1 hop
    obtain ⟨q, hq, hop⟩ := Option.map_eq_some_iff.1 hop
    injection hop with h5 h6; subst h5; subst h6
    have e1 := toC_inv ha; have e2 := toC_inv hb
    subst e1; subst e2
    have e3 := hx.c_inv; have e4 := hy.c_inv
    have := bin_run (P := P) (w := w) hq t ht x y
    rw [← e3, ← e4] at this
    exact .of_same hwf this (.c q)
  · split at hc
    · rename_i _ ht
      injection hc with hc; injection hc with h1 h2; subst h1; subst h2
      obtain ⟨v, v2, rfl, hx, hy⟩ := rvs2 hv
      simp only [opF] at hop
      obtain ⟨a, ha, hop⟩ := Option.bind_eq_some_iff.1 hop
      obtain ⟨b, hb, hop⟩ := Option.bind_eq_some_iff.1 hop
      obtain ⟨q, hq, hop⟩ := Option.map_eq_some_iff.1 hop
      injection hop with h5 h6; subst h5; subst h6
      have e1 := toBool_inv ha; have e2 := toBool_inv hb
      subst e1; subst e2
      have e3 := hx.c_inv; have e4 := hy.c_inv
      have := bb_run (P := P) (w := w) hq t ht x y
      rw [← e3, ← e4] at this
      exact .of_same hwf this (.c _)
    · obtain ⟨kd, hkd, hc⟩ := Option.bind_eq_some_iff.1 hc
      split at hc
      case isFalse => cases hc
      rename_i hnil
      obtain ⟨neg, hneg, hc⟩ := Option.map_eq_some_iff.1 hc
      injection hc with h1 h2; subst h1; subst h2
      obtain ⟨v, rfl, hx⟩ := rvs1 hv
      simp only [opF] at hop
      obtain ⟨q, hq, hop⟩ := Option.map_eq_some_iff.1 hop
      injection hop with h5 h6; subst h5; subst h6
      have hq' : isNil ob kd v = some q := isNil_sub hsub hq
      obtain ⟨z, hz1, hz2⟩ := nil_run hkd hnil hneg hwf hx hq' ρ hρ x
      exact .of_same hwf hz1 hz2

theorem snd_unOp {dst : Option Tmp} {ty : TypeId} {pos : String} {after : Array Edge} {guard : Option (Nat × Bool)} (op' : UnOp) (t : TypeId) (x : Operand) {h op : Ok} {xs : List Operand} (hc : compOp P ⟨dst, .unOp op' t x, ty, pos, after, guard⟩ h = some (op, xs)) {ρ : Operand → Value} {vs : List V} {r : V} {us : Ups} {ob0 : OB}
    (hwf : WF n0 w own loc ob) (hn0 : n0 ≤ w.heap.size) (hnid : loc nid = none) (hsub : ∀ id o, ob0 id = some o → ob id = some o)
    (hv : RVs w (okf own n0 w.heap.size) loc vs (xs.map ρ)) (hop : opF op vs ob0 nid = some (r, us)) : Does P n0 w own loc ob nid (execOp ρ ⟨dst, .unOp op' t x, ty, pos, after, guard⟩) r us := by
  simp only [compOp] at hc
  injection hc with hc; injection hc with h1 h2; subst h1; subst h2
  obtain ⟨v, rfl, hx⟩ := rvs1 hv
  simp only [opF] at hop
  obtain ⟨a, ha, hop⟩ := Option.bind_eq_some_iff.1 hop
  obtain ⟨q, hq, hop⟩ := Option.map_eq_some_iff.1 hop
  injection hop with h5 h6; subst h5; subst h6
  have e1 := toC_inv ha
  subst e1
  have e3 := hx.c_inv
  refine .of_same hwf (s := Op.unary op' (ρ x)) ?_ (.c q)
  rw [e3]
  unfold unS at hq
  split at hq
  · injection hq with hq; subst hq; simp [Op.unary]
  · injection hq with hq; subst hq; simp [Op.unary, Op.intArith]
  · cases hq

theorem snd_convert {dst : Option Tmp} {ty : TypeId} {pos : String} {after : Array Edge} {guard : Option (Nat × Bool)} (s d : TypeId) (x : Operand) {h op : Ok} {xs : List Operand} (hc : compOp P ⟨dst, .convert s d x, ty, pos, after, guard⟩ h = some (op, xs)) {ρ : Operand → Value} {vs : List V} {r : V} {us : Ups} {ob0 : OB}
    (hwf : WF n0 w own loc ob) (hn0 : n0 ≤ w.heap.size) (hnid : loc nid = none) (hsub : ∀ id o, ob0 id = some o → ob id = some o)
    (hv : RVs w (okf own n0 w.heap.size) loc vs (xs.map ρ)) (hop : opF op vs ob0 nid = some (r, us)) : Does P n0 w own loc ob nid (execOp ρ ⟨dst, .convert s d x, ty, pos, after, guard⟩) r us := by
  simp only [compOp] at hc
  split at hc
  case h_2 => cases hc
  rename_i sd k hs hd
  injection hc with hc; injection hc with h1 h2; subst h1; subst h2
  obtain ⟨v, rfl, hx⟩ := rvs1 hv
  simp only [opF] at hop
  obtain ⟨a, ha, hop⟩ := Option.map_eq_some_iff.1 hop
  injection hop with h5 h6; subst h5; subst h6
  obtain ⟨kk, rfl⟩ := toInt_inv ha
  have e3 := hx.c_inv
  refine .of_same hwf (s := Go.convert s d (ρ x)) ?_ (.c _)
  rw [e3]
  simp [Go.convert, run_underlying hs, run_underlying hd, Conv.intToInt]

theorem snd_fieldAddr {dst : Option Tmp} {ty : TypeId} {pos : String} {after : Array Edge} {guard : Option (Nat × Bool)} (s : TypeId) (x : Operand) (f : Nat) {h op : Ok} {xs : List Operand} (hc : compOp P ⟨dst, .fieldAddr s x f, ty, pos, after, guard⟩ h = some (op, xs)) {ρ : Operand → Value} {vs : List V} {r : V} {us : Ups} {ob0 : OB}
    (hwf : WF n0 w own loc ob) (hn0 : n0 ≤ w.heap.size) (hnid : loc nid = none) (hsub : ∀ id o, ob0 id = some o → ob id = some o)
    (hv : RVs w (okf own n0 w.heap.size) loc vs (xs.map ρ)) (hop : opF op vs ob0 nid = some (r, us)) : Does P n0 w own loc ob nid (execOp ρ ⟨dst, .fieldAddr s x f, ty, pos, after, guard⟩) r us := by
  simp only [compOp] at hc
  obtain ⟨fs, hf, hc⟩ := Option.bind_eq_some_iff.1 hc
  obtain ⟨fd, hfd, hc⟩ := Option.bind_eq_some_iff.1 hc
  obtain ⟨i, hi, hc⟩ := Option.bind_eq_some_iff.1 hc
  split at hc
  · cases hc
  rename_i h0
  injection hc with hc; injection hc with h1 h2; subst h1; subst h2
  obtain ⟨v, rfl, hx⟩ := rvs1 hv
  simp only [opF] at hop
  obtain ⟨v', hl, hop⟩ := Option.map_eq_some_iff.1 hop
  injection hop with h5 h6; subst h5; subst h6
  obtain ⟨b, o, h3, h4⟩ := fa_rv hwf hx (faV_sub hsub hl)
  refine .of_same hwf (s := Instr.fieldAt s (ρ x) f) ?_ h4
  rw [h3]; exact fieldAt_run (fieldsOf_spec hf) hfd hi h0 b o

theorem snd_field {dst : Option Tmp} {ty : TypeId} {pos : String} {after : Array Edge} {guard : Option (Nat × Bool)} (t : TypeId) (x : Operand) (f : Nat) {h op : Ok} {xs : List Operand} (hc : compOp P ⟨dst, .field t x f, ty, pos, after, guard⟩ h = some (op, xs)) {ρ : Operand → Value} {vs : List V} {r : V} {us : Ups} {ob0 : OB}
    (hwf : WF n0 w own loc ob) (hn0 : n0 ≤ w.heap.size) (hnid : loc nid = none) (hsub : ∀ id o, ob0 id = some o → ob id = some o)
    (hv : RVs w (okf own n0 w.heap.size) loc vs (xs.map ρ)) (hop : opF op vs ob0 nid = some (r, us)) : Does P n0 w own loc ob nid (execOp ρ ⟨dst, .field t x f, ty, pos, after, guard⟩) r us := by
  simp only [compOp] at hc
  obtain ⟨fs, hf, hc⟩ := Option.bind_eq_some_iff.1 hc
  obtain ⟨fd, hfd, hc⟩ := Option.bind_eq_some_iff.1 hc
  obtain ⟨n, hn, hc⟩ := Option.map_eq_some_iff.1 hc
  injection hc with h1 h2; subst h1; subst h2
  obtain ⟨v, rfl, hx⟩ := rvs1 hv
  simp only [opF] at hop
  obtain ⟨l, hl, hopA⟩ := Option.bind_eq_some_iff.1 hop
  clear hop
  have hop := hopA
  clear hopA
  have hl' := toAg_inv hl
  rw [hl'] at hx
  split at hop
  case isFalse => cases hop
  rename_i hle
  obtain ⟨v', hp, hop⟩ := Option.map_eq_some_iff.1 hop
  injection hop with h5 h6; subst h5; subst h6
  obtain ⟨xs, hxs, hr⟩ := hx.ag_inv
  obtain ⟨ha1, ha2⟩ := tySz_spec hn w
  have hxl : xs.length = l.length := hr.1
  refine .of_same hwf (s := Instr.field t (ρ x) f) (y := packX n ((xs.drop fd.offset).take (n.getD 1))) ?_ (pack_rv hp ⟨by simp; omega, fun j a b ha hb => ?_⟩)
  · have hu := fieldsOf_spec hf
    rw [hxs]
    cases n with
    | none =>
      have hlt : fd.offset < xs.length := by simp at hle; omega
      simp [Instr.field, run_underlying hu, hfd, part, ha1, asAgg, packX, hlt]
      have e : xs.drop fd.offset = xs[fd.offset] :: xs.drop (fd.offset + 1) := List.drop_eq_getElem_cons hlt
      rw [e]; rfl
    | some m =>
      simp only [Option.getD_some] at hle ha2 ⊢
      simp [Instr.field, run_underlying hu, hfd, part, ha1, ha2, asAgg, packX]
  · rw [List.getElem?_take, List.getElem?_drop] at ha hb
    split at ha
    · rename_i hj; rw [if_pos hj] at hb; exact hr.2 _ a b ha hb
    · cases ha

theorem snd_indexAddr {dst : Option Tmp} {ty : TypeId} {pos : String} {after : Array Edge} {guard : Option (Nat × Bool)} (t : TypeId) (x i : Operand) {h op : Ok} {xs : List Operand} (hc : compOp P ⟨dst, .indexAddr t x i, ty, pos, after, guard⟩ h = some (op, xs)) {ρ : Operand → Value} {vs : List V} {r : V} {us : Ups} {ob0 : OB}
    (hwf : WF n0 w own loc ob) (hn0 : n0 ≤ w.heap.size) (hnid : loc nid = none) (hsub : ∀ id o, ob0 id = some o → ob id = some o)
    (hv : RVs w (okf own n0 w.heap.size) loc vs (xs.map ρ)) (hop : opF op vs ob0 nid = some (r, us)) : Does P n0 w own loc ob nid (execOp ρ ⟨dst, .indexAddr t x i, ty, pos, after, guard⟩) r us := by
  simp only [compOp] at hc
  split at hc
  · rename_i e hu
    obtain ⟨k, hk, hc⟩ := Option.map_eq_some_iff.1 hc
    injection hc with h1 h2; subst h1; subst h2
    obtain ⟨v, v2, rfl, hx, hy⟩ := rvs2 hv
    simp only [opF] at hop
    obtain ⟨n, hn, hop⟩ := Option.bind_eq_some_iff.1 hop
    obtain ⟨v', hl, hop⟩ := Option.map_eq_some_iff.1 hop
    injection hop with h5 h6; subst h5; subst h6
    obtain ⟨kk, rfl⟩ := toInt_inv hn
    have hi := hy.c_inv
    obtain ⟨y, h3, h4⟩ := ia_rv (P := P) hwf hk (kk := kk) hx (iaV_sub hsub hl)
    refine .of_same hwf (s := Instr.indexAt t (ρ x) (ρ i)) ?_ h4
    rw [hi]; exact h3
  · rename_i len e hu
    obtain ⟨j, hj, hc⟩ := Option.map_eq_some_iff.1 hc
    injection hc with h1 h2; subst h1; subst h2
    obtain ⟨v, v2, rfl, hx, hy⟩ := rvs2 hv
    simp only [opF] at hop
    obtain ⟨n, hn, hop⟩ := Option.bind_eq_some_iff.1 hop
    split at hop
    case isFalse => cases hop
    rename_i hcond
    obtain ⟨v', hl, hop⟩ := Option.map_eq_some_iff.1 hop
    injection hop with h5 h6; subst h5; subst h6
    obtain ⟨kk, rfl⟩ := toInt_inv hn
    have hi := hy.c_inv
    obtain ⟨b, o, h3, h4⟩ := fa_rv hwf hx (faV_sub hsub hl)
    refine .of_same hwf (s := Instr.indexAt t (ρ x) (ρ i)) ?_ h4
    rw [hi, h3]; exact indexAt_array hu hj b o kk n hcond.1 hcond.2
  · cases hc

theorem snd_makeSlice {dst : Option Tmp} {ty : TypeId} {pos : String} {after : Array Edge} {guard : Option (Nat × Bool)} (t : TypeId) (l c : Operand) {h op : Ok} {xs : List Operand} (hc : compOp P ⟨dst, .makeSlice t l c, ty, pos, after, guard⟩ h = some (op, xs)) {ρ : Operand → Value} {vs : List V} {r : V} {us : Ups} {ob0 : OB}
    (hwf : WF n0 w own loc ob) (hn0 : n0 ≤ w.heap.size) (hnid : loc nid = none) (hsub : ∀ id o, ob0 id = some o → ob id = some o)
    (hv : RVs w (okf own n0 w.heap.size) loc vs (xs.map ρ)) (hop : opF op vs ob0 nid = some (r, us)) : Does P n0 w own loc ob nid (execOp ρ ⟨dst, .makeSlice t l c, ty, pos, after, guard⟩) r us := by
  simp only [compOp] at hc
  obtain ⟨fz, _, hc⟩ := Option.bind_eq_some_iff.1 hc
  obtain ⟨⟨k, z⟩, hkz, hc⟩ := Option.map_eq_some_iff.1 hc
  injection hc with h1 h2; subst h1; subst h2
  obtain ⟨v, v2, rfl, hx, hy⟩ := rvs2 hv
  obtain ⟨y, w', own', loc', h3, h4, h5, h6, h7⟩ := make_does hwf hn0 hnid hkz hx hy hop
  exact .of_value (s := Instr.makeSlice t (ρ l) (ρ c)) h3 h4 h5 h6 h7

theorem snd_extract {dst : Option Tmp} {ty : TypeId} {pos : String} {after : Array Edge} {guard : Option (Nat × Bool)} (x : Operand) (i : Nat) {h op : Ok} {xs : List Operand} (hc : compOp P ⟨dst, .extract x i, ty, pos, after, guard⟩ h = some (op, xs)) {ρ : Operand → Value} {vs : List V} {r : V} {us : Ups} {ob0 : OB}
    (hwf : WF n0 w own loc ob) (hn0 : n0 ≤ w.heap.size) (hnid : loc nid = none) (hsub : ∀ id o, ob0 id = some o → ob id = some o)
    (hv : RVs w (okf own n0 w.heap.size) loc vs (xs.map ρ)) (hop : opF op vs ob0 nid = some (r, us)) : Does P n0 w own loc ob nid (execOp ρ ⟨dst, .extract x i, ty, pos, after, guard⟩) r us := by
  simp only [compOp] at hc
  injection hc with hc; injection hc with h1 h2; subst h1; subst h2
  obtain ⟨v, rfl, hx⟩ := rvs1 hv
  simp only [opF] at hop
  obtain ⟨l, hl, hop⟩ := Option.bind_eq_some_iff.1 hop
  obtain ⟨v', hp, hop⟩ := Option.map_eq_some_iff.1 hop
  injection hop with h5 h6; subst h5; subst h6
  have hl' := toTp_inv hl
  subst hl'
  obtain ⟨xs, hxs, hr⟩ := hx.tp_inv
  have hi : i < xs.length := by rw [hr.1]; exact (List.getElem?_eq_some_iff.1 hp).1
  refine .of_same hwf (s := Instr.extract (ρ x) i) (y := xs[i]) ?_ (hr.2 i _ _ hp (List.getElem?_eq_getElem hi))
  rw [hxs]
  simp [Instr.extract, hi]

end
end Go.Proofs.Ytamdidmfcjdcgaa.D
