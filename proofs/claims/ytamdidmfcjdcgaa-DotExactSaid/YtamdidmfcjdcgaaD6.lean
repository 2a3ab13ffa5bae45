/- The machine's operations, as those over plain values: slices. No condition. -/
import Derived.Test.YtamdidmfcjdcgaaD5
set_option linter.unusedVariables false
set_option linter.unusedSectionVars false
set_option linter.unusedSimpArgs false
set_option linter.constructorNameAsVariable false
namespace Go.Proofs.Ytamdidmfcjdcgaa.D
open Go Go.RowKit

section
variable {P : Program} {n0 : Nat} {w : World} {own : Nat → Option Nat} {loc : Loc} {ob : OB} {nid : Nat} [Bk]

theorem okRow_spec {k : Nat} {rows : List (List V)} (h : rows.all (okRow k) = true) : (∀ ch ∈ rows, ch.length = k) ∧ ∀ ch ∈ rows, ch.all leaf = true := by
  refine ⟨fun ch hc => ?_, fun ch hc => ?_⟩ <;> have := List.all_eq_true.1 h ch hc <;> simp only [okRow, Bool.and_eq_true, beq_iff_eq] at this
  · exact this.1
  · exact this.2

/-- A slice's cells, side by side. -/
theorem rows_cells {ok : Fl → Nat → Prop} {rows : List (List V)} {k b off : Nat} (hk : ∀ ch ∈ rows, ch.length = k)
    (h : ∀ i j v, el rows i j = some v → ∃ y, w.cell? ⟨b, off + i * k + j, none⟩ = some y ∧ RV w ok loc v y) :
    ∃ ys : List Value, ys.length = rows.length * k ∧ RVs w ok loc rows.flatten ys ∧ ∀ q y, ys[q]? = some y → w.cell? ⟨b, off + q, none⟩ = some y := by
  have hfl := flat_len rows k hk
  have key : ∀ q, q < rows.length * k → ∃ y v, rows.flatten[q]? = some v ∧ w.cell? ⟨b, off + q, none⟩ = some y ∧ RV w ok loc v y := fun q hq => by
    have hk0 : 0 < k := Nat.pos_of_ne_zero (by rintro rfl; simp at hq)
    have e : q = q / k * k + q % k := by have := Nat.div_add_mod q k; rw [Nat.mul_comm] at this; omega
    have hv := List.getElem?_eq_getElem (l := rows.flatten) (i := q) (by rw [hfl]; exact hq)
    have hm := Nat.mod_lt q hk0
    have he : el rows (q / k) (q % k) = some (rows.flatten[q]'(by rw [hfl]; exact hq)) := by
      rw [← flat_at rows k _ _ hk hm, ← e]; exact hv
    obtain ⟨y, h1, h2⟩ := h _ _ _ he
    refine ⟨y, _, hv, ?_, h2⟩
    rw [← h1]; congr 2; omega
  refine ⟨(List.range (rows.length * k)).map fun q => (w.cell? ⟨b, off + q, none⟩).getD undef, by simp, ⟨by simp [hfl], fun q v y h1 h2 => ?_⟩, fun q y hq => ?_⟩
  · have hq : q < rows.length * k := by rw [← hfl]; exact (List.getElem?_eq_some_iff.1 h1).1
    obtain ⟨y', v', h3, h4, h5⟩ := key q hq
    rw [h3] at h1; cases h1
    simp [List.getElem?_map, List.getElem?_range hq, h4] at h2
    subst h2; exact h5
  · have hqn : q < rows.length * k := by
      have := (List.getElem?_eq_some_iff.1 hq).1
      simpa using this
    obtain ⟨y', v', h3, h4, h5⟩ := key q hqn
    simp [List.getElem?_map, List.getElem?_range hqn, h4] at hq
    rw [h4, hq]

theorem rvs_one {ok : Fl → Nat → Prop} {rows : List (List V)} {ys : List Value} (hl : ∀ ch ∈ rows, ch.all leaf = true) (h : RVs w ok loc rows.flatten ys) : ∀ y ∈ ys, y.oneCell' = true := fun y hy => by
  obtain ⟨i, hi, rfl⟩ := List.getElem_of_mem hy
  have hi' : i < rows.flatten.length := by rw [← h.1]; exact hi
  refine leaf_one (h.2 i _ _ (List.getElem?_eq_getElem hi') (List.getElem?_eq_getElem hi)) ?_
  have hm := List.getElem_mem hi'
  obtain ⟨ch, hc1, hc2⟩ := List.mem_flatten.1 hm
  exact List.all_eq_true.1 (hl ch hc1) _ hc2

theorem el_take_drop {l : List (List V)} {a n i j : Nat} {v : V} (h : el ((l.drop a).take n) i j = some v) : el l (a + i) j = some v := by
  obtain ⟨r, h1, h2⟩ := el_some h
  rw [List.getElem?_take] at h1
  split at h1
  · rw [List.getElem?_drop] at h1; exact el_mk h1 h2
  · cases h1

/-- What a slice that is read holds. -/
theorem rows_src (hwf : WF n0 w own loc ob) {v : V} {x : Value} {rows : List (List V)} {k : Nat} (hv : rowsOf ob v = some rows) (hk : rows.all (okRow k) = true)
    (hx : RV w (okf own n0 w.heap.size) loc v x) :
    ∃ a cap ys, x = .slice a rows.length cap ∧ ys.length = rows.length * k ∧ RVs w (okf own n0 w.heap.size) loc rows.flatten ys ∧ (∀ y ∈ ys, y.oneCell' = true) ∧
      (Builtin.firstCells k rows.length x).run P w = .ok ys.toArray w := by
  obtain ⟨hlen, hleaf⟩ := okRow_spec hk
  have nilcase : ∀ (a : Option Addr) (cap : Nat), rows = [] → x = .slice a 0 cap → ∃ a cap ys, x = .slice a rows.length cap ∧ ys.length = rows.length * k ∧ RVs w (okf own n0 w.heap.size) loc rows.flatten ys ∧ (∀ y ∈ ys, y.oneCell' = true) ∧
      (Builtin.firstCells k rows.length x).run P w = .ok ys.toArray w := fun a cap hr hx => by
    subst hr; subst hx
    refine ⟨a, cap, [], rfl, by simp, ⟨rfl, fun i v x h => by cases h⟩, fun y hy => (by cases hy), ?_⟩
    cases a with
    | none => simp [Builtin.firstCells]
    | some a => simp [Builtin.firstCells, loadCells, loadCellsFrom]
  have somecase : ∀ (b off cap : Nat), x = .slice (some ⟨b, off, none⟩) rows.length cap → (∀ i j v, el rows i j = some v → ∃ y, w.cell? ⟨b, off + i * k + j, none⟩ = some y ∧ RV w (okf own n0 w.heap.size) loc v y) →
      ∃ a cap ys, x = .slice a rows.length cap ∧ ys.length = rows.length * k ∧ RVs w (okf own n0 w.heap.size) loc rows.flatten ys ∧ (∀ y ∈ ys, y.oneCell' = true) ∧
      (Builtin.firstCells k rows.length x).run P w = .ok ys.toArray w := fun b off cap hx hc => by
    obtain ⟨ys, h1, h2, h3⟩ := rows_cells hlen hc
    subst hx
    refine ⟨_, _, ys, rfl, h1, h2, rvs_one hleaf h2, ?_⟩
    simp only [Builtin.firstCells]
    rw [← h1]
    exact loadCells_run b off ys h3
  cases v with
  | z => simp only [rowsOf] at hv; cases hv; obtain ⟨a, rfl⟩ := hx.z_inv; exact nilcase _ _ rfl rfl
  | im f l =>
    simp only [rowsOf] at hv; cases hv
    cases hx with
    | e f a cap h => exact nilcase _ _ rfl rfl
    | im f l k' b off n cap ys hn hk' hc ho h0 h =>
      subst hn
      refine somecase b off cap rfl fun i j v hv => ?_
      have : k' = k := by
        obtain ⟨r, h1, h2⟩ := el_some hv
        have hm := List.mem_of_getElem? h1
        rw [← hk' r hm, hlen r hm]
      subst this
      exact ⟨_, h0 i j v hv, h i j v hv⟩
  | sl id off len =>
    simp only [rowsOf] at hv
    cases hX : ob id with
    | none => simp [hX] at hv
    | some X =>
      simp only [hX, Option.bind_some] at hv
      split at hv
      · rename_i hle
        cases hv
        obtain ⟨p, hp, hor⟩ := hwf.has id X hX
        have hrl : ((X.l.drop off).take len).length = len := by simp; omega
        cases hx with
        | sl _ _ _ a c hl h =>
          obtain ⟨_, rfl, rfl⟩ := h p hp
          refine somecase p.b (p.base + off * p.k) _ (by rw [hrl]) fun i j v hv => ?_
          have hv' := el_take_drop hv
          have hpk : p.k = k := by
            obtain ⟨r, h1, h2⟩ := el_some hv
            have hm := List.mem_of_getElem? h1
            rw [← hor.rows r (List.mem_of_mem_drop (List.mem_of_mem_take hm)), hlen r hm]
          obtain ⟨y, h1, h2⟩ := hor.cells _ _ _ hv'
          refine ⟨y, ?_, h2⟩
          rw [← h1, ← hpk]; congr 2
          rw [Nat.add_mul]; omega
      · cases hv
  | _ => simp [rowsOf] at hv

theorem over_len (l : List (List V)) (a : Nat) (xs : List (List V)) (h : a ≤ l.length) : (over l a xs).length = max l.length (a + xs.length) := by
  simp [over]; omega

theorem over_mem {l : List (List V)} {a : Nat} {xs : List (List V)} {ch : List V} (h : ch ∈ over l a xs) : ch ∈ l ∨ ch ∈ xs := by
  simp only [over, List.mem_append] at h
  rcases h with (h | h) | h
  · exact .inl (List.mem_of_mem_take h)
  · exact .inr h
  · exact .inl (List.mem_of_mem_drop h)

/-- The cells of an object that rows have been written to. -/
theorem over_cells {ok : Fl → Nat → Prop} {p : Pl} {X : Ob} (hor : OR w ok loc p X) {cs : Array Value} {t : TypeId} (hh : w.heap[p.b]? = some (.cells cs t (0, 0)))
    (hbig : p.base + p.cap * p.k ≤ cs.size) {at_ : Nat} {xs : List (List V)} {ys : List Value} (hat : at_ ≤ X.l.length) (hfit : at_ + xs.length ≤ p.cap)
    (hk : ∀ ch ∈ xs, ch.length = p.k) (hy : RVs w ok loc xs.flatten ys) :
    ∀ i j v, el (over X.l at_ xs) i j = some v →
      ∃ x, (cs.toList.take (p.base + at_ * p.k) ++ ys ++ cs.toList.drop (p.base + at_ * p.k + ys.length)).toArray[p.base + i * p.k + j]? = some x ∧ RV w ok loc v x := by
  intro i j v hv
  have hyl : ys.length = xs.length * p.k := by rw [hy.1, flat_len xs p.k hk]
  have hb : p.base + at_ * p.k + ys.length ≤ cs.toList.length := by
    have h1 : (at_ + xs.length) * p.k ≤ p.cap * p.k := Nat.mul_le_mul_right _ hfit
    rw [Nat.add_mul] at h1
    simp only [Array.length_toList]; omega
  obtain ⟨r, h1, h2⟩ := el_some hv
  have hjk : j < p.k := by
    have hr : r.length = p.k := by
      rcases over_mem (List.mem_of_getElem? h1) with h | h
      · exact hor.rows r h
      · exact hk r h
    have := (List.getElem?_eq_some_iff.1 h2).1
    omega
  rw [List.getElem?_toArray, seg_get _ _ _ _ hb]
  have hsplit : (over X.l at_ xs)[i]? = if i < at_ then X.l[i]? else if i < at_ + xs.length then xs[i - at_]? else X.l[i]? := by
    unfold over
    by_cases hfit2 : at_ + xs.length ≤ X.l.length
    · exact seg_get X.l xs at_ i hfit2
    · have e : X.l.drop (at_ + xs.length) = [] := List.drop_eq_nil_of_le (by omega)
      rw [e, List.append_nil]
      have hta : (X.l.take at_).length = at_ := by rw [List.length_take]; omega
      by_cases h1 : i < at_
      · rw [if_pos h1, List.getElem?_append_left (by omega), List.getElem?_take, if_pos h1]
      · rw [if_neg h1, List.getElem?_append_right (by omega), hta]
        split
        · rfl
        · rw [List.getElem?_eq_none (by omega), List.getElem?_eq_none (by omega)]
  rw [hsplit] at h1
  have hlt : ∀ a b : Nat, a < b → a * p.k + j < b * p.k := fun a b hab => by
    have : (a + 1) * p.k ≤ b * p.k := Nat.mul_le_mul_right _ hab
    rw [Nat.add_mul] at this; omega
  by_cases hi : i < at_
  · rw [if_pos hi] at h1
    have := hlt i at_ hi
    rw [if_pos (by omega)]
    obtain ⟨x, h3, h4⟩ := hor.cells i j v (el_mk h1 h2)
    exact ⟨x, by simpa [World.cell?, hh] using h3, h4⟩
  · rw [if_neg hi] at h1
    have hge : at_ * p.k ≤ i * p.k := Nat.mul_le_mul_right _ (by omega)
    rw [if_neg (by omega)]
    by_cases hi2 : i < at_ + xs.length
    · rw [if_pos hi2] at h1
      have h5 := hlt (i - at_) xs.length (by omega)
      have h6 : (i - at_) * p.k = i * p.k - at_ * p.k := Nat.sub_mul _ _ _
      rw [if_pos (by omega)]
      have h7 : xs.flatten[(i - at_) * p.k + j]? = some v := by rw [flat_at xs p.k _ _ hk hjk]; exact el_mk h1 h2
      have h8 : (i - at_) * p.k + j < ys.length := by omega
      refine ⟨ys[(i - at_) * p.k + j], ?_, hy.2 _ _ _ h7 (List.getElem?_eq_getElem h8)⟩
      rw [← List.getElem?_eq_getElem h8]; congr 1; omega
    · rw [if_neg hi2] at h1
      have h5 : (at_ + xs.length) * p.k ≤ i * p.k := Nat.mul_le_mul_right _ (by omega)
      rw [Nat.add_mul] at h5
      rw [if_neg (by omega)]
      obtain ⟨x, h3, h4⟩ := hor.cells i j v (el_mk h1 h2)
      exact ⟨x, by simpa [World.cell?, hh] using h3, h4⟩

/-- Rows written to an object, in the machine. -/
theorem over_run (hwf : WF n0 w own loc ob) {id : Nat} {p : Pl} {X : Ob} (hX : ob id = some X) (hp : loc id = some (some p)) (hor : OR w (okf own n0 w.heap.size) loc p X)
    {at_ : Nat} {xs : List (List V)} {ys : List Value} (hat : at_ ≤ X.l.length) (hfit : at_ + xs.length ≤ p.cap)
    (hk : ∀ ch ∈ xs, ch.length = p.k) (hy : RVs w (okf own n0 w.heap.size) loc xs.flatten ys) (h1 : ∀ y ∈ ys, y.oneCell' = true) :
    ∃ w', (storeCells ⟨p.b, p.base + at_ * p.k, none⟩ ys).run P w = .ok () w' ∧
      (WF n0 w' own loc (fun j => if j = id then some ⟨X.k, over X.l at_ xs, X.cap⟩ else ob j) ∧ Stp w own loc w' own loc) ∧
      (∀ nid cap, loc nid = none → (∀ c, cap = some c → c = p.cap) →
        WF n0 w' (fun b => if b = p.b then some nid else own b) (fun j => if j = nid then some (some p) else if j = id then some none else loc j)
          (fun j => if j = nid then some ⟨X.k, over X.l at_ xs, cap⟩ else if j = id then none else ob j) ∧
        Stp w own loc w' (fun b => if b = p.b then some nid else own b) (fun j => if j = nid then some (some p) else if j = id then some none else loc j)) := by
  obtain ⟨cs, t, hh, hbig⟩ := hor.mem
  have hyl : ys.length = xs.length * p.k := by rw [hy.1, flat_len xs p.k hk]
  have hb : p.base + at_ * p.k + ys.length ≤ cs.size := by
    have h1 : (at_ + xs.length) * p.k ≤ p.cap * p.k := Nat.mul_le_mul_right _ hfit
    rw [Nat.add_mul] at h1; omega
  have hcells := over_cells hor hh hbig hat hfit hk hy
  have hst := run_storeCells_at (P := P) p.b (p.base + at_ * p.k) t ys 0 cs w hh (by simpa using hb) h1
  have hsz : (cs.toList.take (p.base + at_ * p.k) ++ ys ++ cs.toList.drop (p.base + at_ * p.k + ys.length)).toArray.size = cs.size := by simp; omega
  have hol : (over X.l at_ xs).length ≤ p.cap := by rw [over_len _ _ _ hat]; have := hor.len; omega
  have hor' : ∀ ch ∈ over X.l at_ xs, ch.length = p.k := fun ch hc => by
    rcases over_mem hc with h | h
    · exact hor.rows ch h
    · exact hk ch h
  refine ⟨_, hst, upd_ob hwf hp ⟨X.k, over X.l at_ xs, X.cap⟩ cs _ t hh hsz hbig hor.k hol hor' hor.cap hcells, fun nid cap hnid hcap => ?_⟩
  exact move_ob hwf hp hnid ⟨X.k, over X.l at_ xs, cap⟩ cs _ t hh hsz hbig hor.k hol hor' hcap hcells

end
end Go.Proofs.Ytamdidmfcjdcgaa.D
