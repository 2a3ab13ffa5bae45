/- The machine's operations, as those over plain values: literals, slicing, places. No condition. -/
import Derived.Test.YtamdidmfcjdcgaaD9
set_option linter.unusedVariables false
set_option linter.unusedSectionVars false
set_option linter.unusedSimpArgs false
set_option linter.constructorNameAsVariable false
namespace Go.Proofs.Ytamdidmfcjdcgaa.D
open Go Go.RowKit

section
variable {P : Program} {n0 : Nat} {w : World} {own : Nat → Option Nat} {loc : Loc} {ob : OB} {nid : Nat} [Bk]

theorem set_fold : ∀ (l : List Value) (off m : Nat) (cs : Array Value), off + m + l.length ≤ cs.size →
    ((l.zipIdx m).foldl (fun cs (p : Value × Nat) => cs.setIfInBounds (off + p.2) p.1) cs).toList = cs.toList.take (off + m) ++ l ++ cs.toList.drop (off + m + l.length)
  | [], off, m, cs, h => by simp
  | x :: l, off, m, cs, h => by
    simp only [List.length_cons] at h
    rw [List.zipIdx_cons, List.foldl_cons, set_fold l off (m + 1) _ (by simp; omega)]
    have e1 : off + (m + 1) = off + m + 1 := by omega
    have e2 : off + (m + 1) + l.length = off + m + (l.length + 1) := by omega
    rw [Array.toList_setIfInBounds, e2, e1]
    have h1 : (cs.toList.set (off + m) x).take (off + m + 1) = cs.toList.take (off + m) ++ [x] := by
      rw [List.take_add_one, List.take_set_of_le (Nat.le_refl _), List.getElem?_set_self (by simp; omega)]
      rfl
    have h2 : (cs.toList.set (off + m) x).drop (off + m + (l.length + 1)) = cs.toList.drop (off + m + (l.length + 1)) := List.drop_set_of_lt (by omega)
    rw [h1, h2]; simp

/-- Parts put into cells. -/
theorem fill_rv {ok : Fl → Nat → Prop} (place : Nat → Option (Nat × Nat)) : ∀ (is : List Nat) (ps : List (Nat × Nat)) (vs : List V) (xs : List Value) (cells l : List V) (cx : Array Value),
    is.length = ps.length → (∀ (j i : Nat) (p : Nat × Nat), is[j]? = some i → ps[j]? = some p → place i = some p) → RVs w ok loc vs xs → RVs w ok loc cells cx.toList → fill cells ps vs = some l →
    ∃ cy, Instr.fill place cx (is.zip xs) = some cy ∧ RVs w ok loc l cy.toList
  | [], ps, vs, xs, cells, l, cx, hlen, hpl, hv, hc, h => by
    cases ps with
    | cons _ _ => simp at hlen
    | nil =>
      cases vs with
      | cons _ _ => simp [fill] at h
      | nil => simp only [fill] at h; injection h with h; subst h; exact ⟨cx, by simp [Instr.fill], hc⟩
  | i :: is, ps, vs, xs, cells, l, cx, hlen, hpl, hv, hc, h => by
    cases ps with
    | nil => simp at hlen
    | cons p ps =>
      obtain ⟨off, n⟩ := p
      cases vs with
      | nil => simp [fill] at h
      | cons v vs =>
        obtain ⟨hvl, hvr⟩ := hv
        cases xs with
        | nil => simp at hvl
        | cons x xs =>
          simp only [fill] at h
          split at h
          case isFalse => cases h
          rename_i hcond
          obtain ⟨h1, h2, h3⟩ := hcond
          have hx := hvr 0 v x rfl rfl
          obtain ⟨hcr, _⟩ := cells_rv hx h3
          have hxs : x.cells.size = n := by have := hcr.1; simp at this; omega
          have hcl : cx.size = cells.length := by have := hc.1; simpa using this
          have hpl0 := hpl 0 i (off, n) rfl rfl
          have hfold : (x.cells.zipIdx.foldl (fun cs (p : Value × Nat) => cs.setIfInBounds (off + p.2) p.1) cx).toList = cx.toList.take off ++ x.cells.toList ++ cx.toList.drop (off + n) := by
            have := set_fold x.cells.toList off 0 cx (by simp [hxs]; omega)
            simp only [Nat.add_zero, Array.length_toList, hxs] at this
            rw [← this, ← Array.foldl_toList]
            congr 1
            congr 1
            simp
          have hnew : RVs w ok loc (cells.take off ++ cellsV v ++ cells.drop (off + n)) (x.cells.zipIdx.foldl (fun cs (p : Value × Nat) => cs.setIfInBounds (off + p.2) p.1) cx).toList := by
            rw [hfold]
            refine ⟨by simp [hcl, h1, hxs], fun q zz y hq1 hq2 => ?_⟩
            have e1 := seg_get cells (cellsV v) off q (by omega)
            have e2 := seg_get cx.toList x.cells.toList off q (by simp [hxs]; omega)
            rw [h1] at e1
            simp only [Array.length_toList, hxs] at e2
            rw [e1] at hq1; rw [e2] at hq2
            split at hq1
            · rename_i h; rw [if_pos h] at hq2; exact hc.2 q zz y hq1 hq2
            · rename_i h; rw [if_neg h] at hq2
              split at hq1
              · rename_i h'; rw [if_pos h'] at hq2; exact hcr.2 _ zz y hq1 hq2
              · rename_i h'; rw [if_neg h'] at hq2; exact hc.2 q zz y hq1 hq2
          obtain ⟨cy, h4, h5⟩ := fill_rv place is ps vs xs _ l _ (by simpa using hlen) (fun j i p hj hp => hpl (j + 1) i p (by simpa using hj) (by simpa using hp))
            ⟨by simpa using hvl, fun j a b ha hb => hvr (j + 1) a b (by simpa using ha) (by simpa using hb)⟩ hnew h
          refine ⟨cy, ?_, h5⟩
          have hc1 : (x.cells.size ≠ n || decide (off + x.cells.size > cx.size)) = false := by simp [hxs]; omega
          simp only [List.zip_cons_cons, Instr.fill, hpl0]
          rw [if_neg (by rw [hc1]; simp)]
          exact h4

/-- What a literal's parts are. -/
theorem lit_rows {ok : Fl → Nat → Prop} {l : List V} {cy : Array Value} {k n : Nat} (h : RVs w ok loc l cy.toList) :
    ∀ i j v, el ((List.range n).map fun i => (l.drop (i * k)).take k) i j = some v → ∃ x, cy[i * k + j]? = some x ∧ RV w ok loc v x := by
  intro i j v hv
  obtain ⟨r, h1, h2⟩ := el_some hv
  rw [List.getElem?_map] at h1
  cases hr : (List.range n)[i]? with
  | none => rw [hr] at h1; cases h1
  | some q =>
    rw [hr] at h1
    injection h1 with h1
    have hq : q = i := by
      have := (List.getElem?_eq_some_iff.1 hr).2
      simpa using this.symm
    subst hq; subst h1
    rw [List.getElem?_take] at h2
    split at h2
    · rw [List.getElem?_drop] at h2
      have hlt : q * k + j < cy.toList.length := by rw [h.1]; exact (List.getElem?_eq_some_iff.1 h2).1
      refine ⟨cy.toList[q * k + j], ?_, h.2 _ v _ h2 (List.getElem?_eq_getElem hlt)⟩
      simp at hlt ⊢
      try exact hlt
    · cases h2

/-- A slice literal. -/
theorem bsl_does (hwf : WF n0 w own loc ob) (hn0 : n0 ≤ w.heap.size) (hnid : loc nid = none) {t : TypeId} {k n : Nat} {z : List V} {fz : Bool} (ht : elZ P t = some (k, z)) (hnk : n * k ≤ 16777216) {is : List Nat} {xs : List Value} {vs : List V} {r : V} {us : Ups} {ob0 : OB}
    (hlen : is.length = xs.length) (hv : RVs w (okf own n0 w.heap.size) loc vs xs) (hop : opF (.bsl k z is n fz) vs ob0 nid = some (r, us)) :
    ∃ y w' own' loc', (Instr.buildSlice t n (is.zip xs).toArray).run P w = .ok y w' ∧ RV w' (okf own' n0 w'.heap.size) loc' r y ∧
      WF n0 w' own' loc' (apps ob us) ∧ Stp w own loc w' own' loc' ∧ ∀ id, id ≠ nid → loc id = none → loc' id = none := by
  obtain ⟨e, i, zv, hu, hi, hik, hz, hzl, hzk, hk0, hb0, hb1, hkb⟩ := elZ_spec ht
  simp only [opF] at hop
  obtain ⟨l, hf, hop1⟩ := Option.bind_eq_some_iff.1 hop
  clear hop
  by_cases hok : ((List.range n).map fun i => (l.drop (i * k)).take k).all (okRow k) = true
  case neg => rw [if_neg hok] at hop1; cases hop1
  rw [if_pos hok] at hop1
  have hzs : zv.cells.size = k := by
    have := (toVs_rv (w := w) (ok := okf own n0 w.heap.size) (loc := loc) hzl).1.1
    simp at this; omega
  generalize hcs : (Array.map (fun x => (if n * k = 0 then #[] else zv.cells)[x % (if n * k = 0 then #[] else zv.cells).size]!) (Array.range (n * k))) = cs
  have hget : ∀ q, q < n * k → cs[q]? = zv.cells[q % k]? := fun q hq => by
    rw [← hcs]
    have : n * k ≠ 0 := by omega
    simp only [this, if_false]
    exact zeros_get zv.cells k hzs n q hq
  have hsize : cs.size = n * k := by rw [← hcs]; simp
  have hrows := zeros_rows (w := w) (ok := okf own n0 w.heap.size) (loc := loc) hzl hzk n cs hget
  have hzl' : ∀ ch ∈ List.replicate n z, ch.length = k := fun ch h => by rw [List.eq_of_mem_replicate h, hzk]
  have hc0 : RVs w (okf own n0 w.heap.size) loc (List.replicate n z).flatten cs.toList := by
    have hfl := flat_len _ k hzl'
    simp only [List.length_replicate] at hfl
    refine ⟨by rw [hfl]; simpa using hsize, fun q v x h1 h2 => ?_⟩
    have hq : q < n * k := by rw [← hfl]; exact (List.getElem?_eq_some_iff.1 h1).1
    have e2 : q = q / k * k + q % k := by have := Nat.div_add_mod q k; rw [Nat.mul_comm] at this; omega
    rw [e2, flat_at _ k _ _ hzl' (Nat.mod_lt q hk0)] at h1
    obtain ⟨y, h3, h4⟩ := hrows _ _ v h1
    rw [← e2] at h3
    have : x = y := by
      rw [Array.getElem?_toList, h3] at h2
      injection h2 with h2; exact h2.symm
    rw [this]; exact h4
  obtain ⟨cy, hcy, hcr⟩ := fill_rv (fun i => some (i * k, k)) is (is.map fun i => (i * k, k)) vs xs _ l cs (by simp) (fun j i p hj hp => by
    rw [List.getElem?_map, hj] at hp; injection hp with hp; exact congrArg some hp) hv hc0 hf
  have hcyl : cy.size = n * k := by
    have h1 := hcr.1
    have h2 : l.length = n * k := by
      have aux : ∀ (ps : List (Nat × Nat)) (vs : List V) (cells l : List V), fill cells ps vs = some l → l.length = cells.length := by
        intro ps
        induction ps with
        | nil => intro vs cells l h; cases vs with
          | nil => simp only [fill] at h; injection h with h; rw [h]
          | cons _ _ => simp [fill] at h
        | cons p ps ih =>
          intro vs cells l h
          obtain ⟨off, n⟩ := p
          cases vs with
          | nil => simp [fill] at h
          | cons v vs =>
            simp only [fill] at h
            split at h
            · rename_i hc
              rw [ih _ _ _ h]
              simp [hc.1]; omega
            · cases h
      rw [aux _ _ _ _ hf]
      have := flat_len _ k hzl'
      simpa using this
    simp at h1; omega
  have hlt : ¬ n * i.size > 2 ^ 24 := by rw [hik]; omega
  have hrun : (Instr.buildSlice t n (is.zip xs).toArray).run P w = .ok (.slice (some ⟨w.heap.size, 0, none⟩) n n) (w.alloc (.cells cy e)) := by
    subst hik
    have hap : ∀ o : Obj, ({ heap := w.heap.push o, tape := w.tape, drawn := w.drawn, os := w.os, output := w.output } : World) = w.alloc o := fun o => rfl
    simp only [Instr.buildSlice, Sem.run_bind, run_underlying hu, size_of hi, Result.andThen_ok, Sem.run_ite, hlt, if_false, Sem.run_pure]
    have hi0 : i.size ≠ 0 := by omega
    by_cases h0 : n = 0
    · subst h0
      have hc00 : cs = #[] := Array.eq_empty_of_size_eq_zero (by simpa using hsize)
      rw [hc00] at hcy
      have hr0 : Array.range 0 = #[] := rfl
      simp [hr0, hcy, newRow, hap]
    · have h1 : n * i.size ≠ 0 := Nat.mul_ne_zero h0 hi0
      simp only [h1, if_false] at hcs
      simp [h0, h1, hi0, zero_of hi hz, hcs, hcy, newRow, hap]
  have hrow2 := lit_rows (n := n) (k := k) hcr
  obtain ⟨hrl, hrf⟩ := okRow_spec hok
  obtain ⟨hb1', hb2'⟩ := new_blk hwf (.cells cy e)
  by_cases hn : n = 0
  · rw [if_pos hn] at hop1
    injection hop1 with hop1; injection hop1 with h1 h2; subst h1; subst h2; subst hn
    exact ⟨_, _, own, loc, hrun, .z _, hb1', hb2', fun _ _ h => h⟩
  · rw [if_neg hn] at hop1
    cases fz with
    | true =>
      simp only [if_true] at hop1
      injection hop1 with hop1; injection hop1 with h1 h2; subst h1; subst h2
      refine ⟨_, _, own, loc, hrun, ?_, hb1', hb2', fun _ _ h => h⟩
      have hnone : own w.heap.size = none := by
        cases ho : own w.heap.size with
        | none => rfl
        | some id => exact absurd (hwf.lt _ _ ho) (by omega)
      refine .im .b _ k w.heap.size 0 n n (fun i j => (cy[i * k + j]?).getD undef) (by simp) hrl (Nat.le_refl _) ⟨hnone, by simp, .inr (.inr hn0)⟩ (fun i j v hv => ?_) (fun i j v hv => ?_)
      · obtain ⟨x, h3, h4⟩ := hrow2 i j v hv
        simp [h3]
      · obtain ⟨x, h3, h4⟩ := hrow2 i j v hv
        rw [h3]; exact h4.stp hb2'
    | false =>
      simp only [Bool.false_eq_true, if_false] at hop1
      injection hop1 with hop1; injection hop1 with h1 h2; subst h1; subst h2
      obtain ⟨h1, h2⟩ := new_ob hwf hnid cy e k n _ none (by omega) (by simp) hrl (fun c h => by cases h) hrow2
      refine ⟨_, _, _, _, hrun, ?_, h1, h2, fun id hne h => by simp [hne, h]⟩
      refine .sl nid 0 _ _ _ (by simp) fun q hq => ?_
      simp only [if_true, Option.some.injEq] at hq
      subst hq
      exact ⟨by simp, by simp, by simp⟩

theorem fieldAt_run {s : TypeId} {fs : Array Field} {f : Field} {fi : Nat} {i : TypeInfo} (hu : P.underlying s = some (.struct fs)) (hf : fs[fi]? = some f) (hi : P.info? f.type = some i) (h0 : i.size ≠ 0) (b off : Nat) :
    (Instr.fieldAt s (.pointer (some ⟨b, off, none⟩)) fi).run P w = .ok (.pointer (some ⟨b, off + f.offset, none⟩)) w := by
  simp [Instr.fieldAt, run_underlying hu, hf, Instr.sureAddr, fieldPlace, size_of hi, h0, addr_add]

theorem indexAt_slice {t e : TypeId} {i : TypeInfo} (hu : P.underlying t = some (.slice e)) (hi : P.info? e = some i) (b off len c : Nat) (k : IntKind) (n : Int) (h0 : 0 ≤ n) (h1 : n < len) :
    (Instr.indexAt t (.slice (some ⟨b, off, none⟩) len c) (.int k n)).run P w = .ok (.pointer (some ⟨b, off + n.toNat * i.size, none⟩)) w := by
  simp [Instr.indexAt, asIntOf, run_underlying hu, h0, h1, size_of hi, addr_add]

theorem indexAt_array {t e : TypeId} {i : TypeInfo} {len : Nat} (hu : P.underlying t = some (.array len e)) (hi : P.info? e = some i) (b off : Nat) (k : IntKind) (n : Int) (h0 : 0 ≤ n) (h1 : n < len) :
    (Instr.indexAt t (.pointer (some ⟨b, off, none⟩)) (.int k n)).run P w = .ok (.pointer (some ⟨b, off + n.toNat * i.size, none⟩)) w := by
  simp [Instr.indexAt, asIntOf, run_underlying hu, Instr.sureAddr, h0, h1, size_of hi, addr_add]

/-- A place moved on. -/
theorem fa_rv (hwf : WF n0 w own loc ob) {off : Nat} {v r : V} {x : Value} (hv : RV w (okf own n0 w.heap.size) loc v x) (h : faV ob off v = some r) :
    ∃ b o, x = .pointer (some ⟨b, o, none⟩) ∧ RV w (okf own n0 w.heap.size) loc r (.pointer (some ⟨b, o + off, none⟩)) := by
  unfold faV at h
  split at h
  · rename_i id i o
    obtain ⟨X, hX, h⟩ := Option.bind_eq_some_iff.1 h
    injection h with h; subst h
    obtain ⟨p, hq, _⟩ := hwf.has id X hX
    cases hv with
    | pt _ _ _ a hl hp =>
      have := hp p hq
      subst this
      exact ⟨_, _, rfl, .pt id i (o + off) _ hl fun p' hp' => by rw [hq] at hp'; cases hp'; simp only [Nat.add_assoc]⟩
  · rename_i l
    injection h with h; subst h
    cases hv with
    | bp _ b o ys ho h0 h =>
      refine ⟨b, o, rfl, .bp _ b (o + off) (fun j => ys (off + j)) ho (fun j v hj => ?_) (fun j v hj => ?_)⟩
      · rw [List.getElem?_drop] at hj
        have := h0 _ v hj
        rw [← this]; congr 2; omega
      · rw [List.getElem?_drop] at hj
        exact h _ v hj
  · cases h

theorem okf_b {own : Nat → Option Nat} {n0 n b : Nat} {f : Fl} (h : okf own n0 n f b) : okf own n0 n .n b := ⟨h.1, h.2.1, .inl rfl⟩

/-- An element's place. -/
theorem ia_rv (hwf : WF n0 w own loc ob) {t : TypeId} {k : Nat} (ht : elSz P t = some k) {kk : IntKind} {n : Int} {v r : V} {x : Value} (hv : RV w (okf own n0 w.heap.size) loc v x) (h : iaV ob k v n = some r) :
    ∃ y, (Instr.indexAt t x (.int kk n)).run P w = .ok y w ∧ RV w (okf own n0 w.heap.size) loc r y := by
  obtain ⟨e, i, hu, hi, hik⟩ := elSz_spec ht
  unfold iaV at h
  split at h
  · rename_i f l
    split at h
    case isFalse => cases h
    rename_i hc
    obtain ⟨row, hr, h⟩ := Option.bind_eq_some_iff.1 h
    split at h
    case isFalse => cases h
    rename_i hrk
    injection h with h; subst h
    cases hv with
    | e f a cap h => simp at hc; omega
    | im f l k' b off m cap ys hn hk' hcc ho h0 h =>
      subst hn
      have hkk : k' = k := by rw [← hk' row (List.mem_of_getElem? hr)]; exact hrk
      refine ⟨_, indexAt_slice hu hi b off _ cap kk n hc.1 hc.2, ?_⟩
      rw [hik, ← hkk]
      exact .bp row b _ (fun j => ys n.toNat j) (okf_b ho) (fun j v hj => h0 _ j v (el_mk hr hj)) (fun j v hj => h _ j v (el_mk hr hj))
  · rename_i id off len
    obtain ⟨X, hX, h⟩ := Option.bind_eq_some_iff.1 h
    split at h
    case isFalse => cases h
    rename_i hc
    injection h with h; subst h
    obtain ⟨p, hp, hor, hcap, rfl⟩ := sl_at hwf hX hv
    refine ⟨_, indexAt_slice hu hi p.b _ len _ kk n hc.1 hc.2.1, ?_⟩
    have hpk : p.k = i.size := by rw [← hor.k, hc.2.2, hik]
    refine .pt id _ 0 _ (by rw [hp]; simp) fun q hq => ?_
    rw [hp] at hq; cases hq
    rw [hpk, Nat.add_mul]; simp only [Nat.add_zero, Nat.add_assoc]
  · cases h

/-- A slice of a slice. -/
theorem slice_rv (hwf : WF n0 w own loc ob) {t : TypeId} {k : Nat} (ht : elSz P t = some k) {lo hi : Option Int} {xlo xhi : Option Value} {v r : V} {x : Value}
    (hlo : ∀ n, lo = some n → ∃ kk, xlo = some (.int kk n)) (hlo' : lo = none → xlo = none) (hhi : ∀ n, hi = some n → ∃ kk, xhi = some (.int kk n)) (hhi' : hi = none → xhi = none)
    (hv : RV w (okf own n0 w.heap.size) loc v x) (h : sliceV ob k v lo hi = some r) :
    ∃ y, (Instr.sliceAt t x xlo xhi none).run P w = .ok y w ∧ RV w (okf own n0 w.heap.size) loc r y := by
  obtain ⟨e, i, hu, hi', hik⟩ := elSz_spec ht
  have bounds : ∀ (len cap : Nat) (H A : Int), H = hi.getD len → A = lo.getD 0 → 0 ≤ A → A ≤ H → H ≤ cap →
      (Instr.sliceBounds true len cap xlo xhi none).run P w = .ok (A.toNat, H.toNat, cap) w := by
    intro len cap H A hH hA h0 h1 h2
    have h3 : 0 ≤ H := by omega
    cases hi with
    | none =>
      obtain rfl := hhi' rfl
      simp at hH
      cases lo with
      | none => obtain rfl := hlo' rfl; simp at hA; subst hA; subst hH; simp [Instr.sliceBounds]
      | some a =>
        obtain ⟨kk, rfl⟩ := hlo a rfl
        simp at hA; subst hA; subst hH
        simp [Instr.sliceBounds, Instr.sliceBound, asIntOf, h0, h1]
    | some b =>
      obtain ⟨kk, rfl⟩ := hhi b rfl
      simp at hH
      cases lo with
      | none => obtain rfl := hlo' rfl; simp at hA; subst hA; subst hH; simp [Instr.sliceBounds, Instr.sliceBound, asIntOf, h3, h2]
      | some a =>
        obtain ⟨kk, rfl⟩ := hlo a rfl
        simp at hA; subst hA; subst hH
        have h6 : A ≤ max H 0 := by omega
        have h7 : ¬ max H 0 < A := by omega
        simp [Instr.sliceBounds, Instr.sliceBound, asIntOf, h3, h2, h0, h1, h6, h7]
  have run : ∀ (a : Option Addr) (len cap : Nat) (H A : Int), H = hi.getD len → A = lo.getD 0 → 0 ≤ A → A ≤ H → H ≤ cap →
      (Instr.sliceAt t (.slice a len cap) xlo xhi none).run P w = .ok (.slice (if cap = A.toNat then a else a.map (·.add (A.toNat * k))) (H.toNat - A.toNat) (cap - A.toNat)) w := by
    intro a len cap H A hH hA h0 h1 h2
    have hb := bounds len cap H A hH hA h0 h1 h2
    simp [Instr.sliceAt, Instr.slice, run_underlying hu, hb, size_of hi', hik]
  unfold sliceV at h
  split at h
  · -- what is only read
    rename_i f l
    simp only at h
    split at h
    case isFalse => cases h
    rename_i hc
    injection h with h; subst h
    obtain ⟨hfo, hlk, h0, h1, h2⟩ := hc
    have hlen' : ((l.take (hi.getD l.length).toNat).drop (lo.getD 0).toNat).length = (hi.getD l.length).toNat - (lo.getD 0).toNat := by
      rw [List.length_drop, List.length_take]; omega
    cases hv with
    | e f a cap h =>
      refine ⟨_, run a 0 cap _ _ rfl rfl h0 h1 (by simp at h2 ⊢; omega), ?_⟩
      have h3 : lo.getD 0 = 0 := by simp at h1 h2; omega
      have h4 : hi.getD (([] : List (List V)).length : Int) = 0 := by simp at h1 h2 ⊢; omega
      have h4' : hi.getD ((0 : Nat) : Int) = 0 := by simpa using h4
      simp only [h3, h4']
      simp
      exact .e f _ cap h
    | im f l k' b off m cap ys hn hk' hcc ho h0' h =>
      subst hn
      refine ⟨_, run _ l.length cap _ _ rfl rfl h0 h1 (by omega), ?_⟩
      by_cases hemp : (hi.getD l.length).toNat - (lo.getD 0).toNat = 0
      · have hnil : (l.take (hi.getD l.length).toNat).drop (lo.getD 0).toNat = [] := List.eq_nil_of_length_eq_zero (by rw [hlen', hemp])
        rw [hnil, hemp]
        exact .e f _ _ (fun hf => absurd hf hfo)
      · have hne : ¬ cap = (lo.getD 0).toNat := by omega
        rw [if_neg hne]
        have hadd : (some (⟨b, off, none⟩ : Addr)).map (·.add ((lo.getD 0).toNat * k)) = some ⟨b, off + (lo.getD 0).toNat * k, none⟩ := by simp [addr_add]
        rw [hadd]
        have hel : ∀ i j v, el ((l.take (hi.getD l.length).toNat).drop (lo.getD 0).toNat) i j = some v → el l ((lo.getD 0).toNat + i) j = some v := fun i j v hv => by
          obtain ⟨r, h3, h4⟩ := el_some hv
          rw [List.getElem?_drop, List.getElem?_take] at h3
          split at h3
          · exact el_mk h3 h4
          · cases h3
        refine .im f _ k b _ _ _ (fun i j => ys ((lo.getD 0).toNat + i) j) hlen'.symm (fun ch hch => hlk ch (List.mem_of_mem_take (List.mem_of_mem_drop hch))) (by omega) ho (fun i j v hv => ?_) (fun i j v hv => h _ j v (hel i j v hv))
        have hv' := hel i j v hv
        have hkk : k' = k := by
          obtain ⟨r, h3, h4⟩ := el_some hv'
          rw [← hk' r (List.mem_of_getElem? h3), hlk r (List.mem_of_getElem? h3)]
        rw [← h0' _ j v hv', ← hkk]; congr 2
        rw [Nat.add_mul]; omega
  · -- without room
    split at h
    case isFalse => cases h
    rename_i hc
    injection h with h; subst h
    obtain ⟨a, rfl⟩ := hv.z_inv
    refine ⟨_, run a 0 0 0 0 (by simpa using hc.2.symm) hc.1.symm (by omega) (by omega) (by omega), ?_⟩
    exact .z _
  · -- over an object
    rename_i id off len
    obtain ⟨X, hX, h⟩ := Option.bind_eq_some_iff.1 h
    simp only at h
    split at h
    case isFalse => cases h
    rename_i hc
    obtain ⟨hXk, h0, h1, h2⟩ := hc
    obtain ⟨p, hp, hor, hcap, rfl⟩ := sl_at hwf hX hv
    have hpk : p.k = k := by rw [← hor.k, hXk]
    have hXl := hor.len
    refine ⟨_, run _ len (p.cap - off) _ _ rfl rfl h0 h1 (by omega), ?_⟩
    split at h
    · rename_i ha0
      injection h with h; subst h
      rw [ha0]
      have e1 : (if p.cap - off = (0 : Int).toNat then (some (⟨p.b, p.base + off * p.k, none⟩ : Addr)) else (some (⟨p.b, p.base + off * p.k, none⟩ : Addr)).map (·.add ((0 : Int).toNat * k))) = some ⟨p.b, p.base + off * p.k, none⟩ := by
        split <;> simp [addr_add]
      rw [e1]
      refine .sl id off _ _ _ (by rw [hp]; simp) fun q hq => ?_
      rw [hp] at hq; cases hq
      exact ⟨by omega, rfl, by simp⟩
    · rename_i ha0
      split at h
      · rename_i hah
        injection h with h; subst h
        have : (hi.getD len).toNat - (lo.getD 0).toNat = 0 := by omega
        rw [this]
        exact .e _ _ _ (fun hf => by cases hf)
      · rename_i hah
        injection h with h; subst h
        rw [if_neg (by omega)]
        have e1 : (some (⟨p.b, p.base + off * p.k, none⟩ : Addr)).map (·.add ((lo.getD 0).toNat * k)) = some ⟨p.b, p.base + (off + (lo.getD 0).toNat) * p.k, none⟩ := by
          simp [addr_add, hpk, Nat.add_mul, Nat.add_assoc]
        rw [e1]
        have e2 : (hi.getD len).toNat - (lo.getD 0).toNat = (hi.getD len - lo.getD 0).toNat := by omega
        rw [e2]
        refine .sl id _ _ _ _ (by rw [hp]; simp) fun q hq => ?_
        rw [hp] at hq; cases hq
        exact ⟨by omega, rfl, by omega⟩
  · cases h

end
end Go.Proofs.Ytamdidmfcjdcgaa.D
