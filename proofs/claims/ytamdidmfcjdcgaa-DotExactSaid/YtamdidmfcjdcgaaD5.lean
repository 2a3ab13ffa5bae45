/- The machine's operations, as those over plain values: loads, stores, what is made. No condition. -/
import Derived.Test.YtamdidmfcjdcgaaD4
set_option linter.unusedVariables false
set_option linter.unusedSectionVars false
set_option linter.unusedSimpArgs false
set_option linter.constructorNameAsVariable false
namespace Go.Proofs.Ytamdidmfcjdcgaa.D
open Go Go.RowKit

section
variable {P : Program} {n0 : Nat} {w : World} {own : Nat → Option Nat} {loc : Loc} {ob : OB} {nid : Nat} [Bk]

theorem info_of {t : TypeId} {i : TypeInfo} (h : P.info? t = some i) (w : World) : (typeInfo t).run P w = .ok i w := by simp [typeInfo, h]
theorem size_of {t : TypeId} {i : TypeInfo} (h : P.info? t = some i) (w : World) : (sizeOf t).run P w = .ok i.size w := by simp [sizeOf, info_of h]
theorem zero_of {t : TypeId} {i : TypeInfo} {z : Value} (h : P.info? t = some i) (hz : i.zero = some z) (w : World) : (zeroValue t).run P w = .ok z w := by simp [zeroValue, info_of h, hz]

/-- What a type's shape says. -/
theorem tySz_spec {t : TypeId} {sz : Option Nat} (h : tySz P t = some sz) (w : World) :
    (isAgg t).run P w = .ok sz.isSome w ∧ (sizeOf t).run P w = .ok (sz.getD 1) w := by
  unfold tySz at h
  split at h
  · rename_i fs i h1 h2; cases h; exact ⟨by simp [isAgg, run_underlying h1], by simp [size_of h2]⟩
  · rename_i a b i h1 h2; cases h; exact ⟨by simp [isAgg, run_underlying h1], by simp [size_of h2]⟩
  · rename_i d i h1 h2 h3 h4
    split at h
    · rename_i h5
      cases h
      refine ⟨?_, by simp [size_of h4, h5]⟩
      simp only [isAgg, Sem.run_bind, run_underlying h3, Result.andThen_ok]
      cases d <;> first | rfl | exact (h1 _ rfl).elim | exact (h2 _ _ rfl).elim
    · cases h
  · cases h

theorem addr_add (b off n : Nat) : (⟨b, off, none⟩ : Addr).add n = ⟨b, off + n, none⟩ := by unfold Addr.add; split <;> simp_all

/-- Cells side by side, read. -/
theorem loadCells_run (b off : Nat) (ys : List Value) (hc : ∀ j y, ys[j]? = some y → w.cell? ⟨b, off + j, none⟩ = some y) :
    (loadCells ⟨b, off, none⟩ ys.length).run P w = .ok ys.toArray w :=
  run_loadCells_list w _ ys fun j v hj => by rw [addr_add]; exact hc j v hj

/-- What is packed out of cells. -/
def packX : Option Nat → List Value → Value
  | none, l => l.headD undef
  | some _, l => .agg l.toArray

theorem pack_rv {ok : Fl → Nat → Prop} {sz : Option Nat} {l : List V} {v : V} {ys : List Value} (h : pack sz l = some v) (hy : RVs w ok loc l ys) : RV w ok loc v (packX sz ys) := by
  unfold pack at h
  split at h
  · injection h with h; subst h
    obtain ⟨h1, h2⟩ := hy
    match ys, h1 with
    | [y], _ => exact h2 0 _ y rfl rfl
  · cases h
  · split at h
    · injection h with h; subst h; exact .ag _ ys hy.1 hy.2
    · cases h

theorem loadVar_run {t : TypeId} {sz : Option Nat} (ht : tySz P t = some sz) (b off : Nat) (ys : List Value) (hy : ys.length = sz.getD 1)
    (hc : ∀ j y, ys[j]? = some y → w.cell? ⟨b, off + j, none⟩ = some y) : (loadVar t ⟨b, off, none⟩).run P w = .ok (packX sz ys) w := by
  obtain ⟨h1, h2⟩ := tySz_spec ht w
  cases sz with
  | none =>
    match ys, hy with
    | [y], _ =>
      have := hc 0 y rfl
      simp [loadVar, h1, packX]
      rw [show off = off + 0 from rfl, this]
  | some n =>
    simp only [Option.getD_some] at hy h2
    simp [loadVar, h1, h2, packX]
    rw [← hy, loadCells_run b off ys hc]
    rfl

/-- The cells of an object's row. -/
theorem row_cells {ok : Fl → Nat → Prop} {p : Pl} {X : Ob} (hor : OR w ok loc p X) {i o n : Nat} {row : List V} (hi : X.l[i]? = some row) (hn : o + n ≤ row.length) :
    ∃ ys : List Value, ys.length = n ∧ RVs w ok loc ((row.drop o).take n) ys ∧ ∀ j y, ys[j]? = some y → w.cell? ⟨p.b, p.base + i * p.k + o + j, none⟩ = some y := by
  have key : ∀ j, j < n → ∃ x v, row[o + j]? = some v ∧ w.cell? ⟨p.b, p.base + i * p.k + o + j, none⟩ = some x ∧ RV w ok loc v x := fun j hj => by
    have hv := List.getElem?_eq_getElem (l := row) (i := o + j) (by omega)
    obtain ⟨x, h1, h2⟩ := hor.cells i (o + j) _ (el_mk hi hv)
    exact ⟨x, _, hv, by rw [← h1]; congr 2; omega, h2⟩
  refine ⟨(List.range n).map fun j => (w.cell? ⟨p.b, p.base + i * p.k + o + j, none⟩).getD undef, by simp, ⟨by simp; omega, fun j v x h1 h2 => ?_⟩, fun j y hj => ?_⟩
  · simp only [List.getElem?_take, List.getElem?_drop] at h1
    split at h1
    · rename_i hj
      obtain ⟨x', v', h3, h4, h5⟩ := key j hj
      rw [h3] at h1; cases h1
      simp [List.getElem?_map, List.getElem?_range hj, h4] at h2
      subst h2; exact h5
    · cases h1
  · have hjn : j < n := by
      have := (List.getElem?_eq_some_iff.1 hj).1
      simpa using this
    obtain ⟨x', v', h3, h4, h5⟩ := key j hjn
    simp [List.getElem?_map, List.getElem?_range hjn, h4] at hj
    rw [h4, hj]

/-- Loads. -/
theorem load_pt (hwf : WF n0 w own loc ob) {t : TypeId} {sz : Option Nat} (ht : tySz P t = some sz) {id i o : Nat} {X : Ob} {row : List V} {v : V} {x : Value}
    (hX : ob id = some X) (hi : X.l[i]? = some row) (hn : o + sz.getD 1 ≤ row.length) (hv : pack sz ((row.drop o).take (sz.getD 1)) = some v)
    (hx : RV w (okf own n0 w.heap.size) loc (.pt id i o) x) : ∃ y, (Instr.loadAt t x).run P w = .ok y w ∧ RV w (okf own n0 w.heap.size) loc v y := by
  obtain ⟨p, hp, hor⟩ := hwf.has id X hX
  cases hx with
  | pt _ _ _ a hl h =>
    rw [h p hp]
    obtain ⟨ys, h1, h2, h3⟩ := row_cells hor hi hn
    refine ⟨packX sz ys, ?_, pack_rv hv h2⟩
    simp only [Instr.loadAt, Instr.sureAddr, Sem.run_bind, Sem.run_pure, Result.andThen_ok]
    exact loadVar_run ht p.b (p.base + i * p.k + o) ys h1 h3

theorem load_bp {ok : Fl → Nat → Prop} {t : TypeId} {sz : Option Nat} (ht : tySz P t = some sz) {l : List V} {v : V} {x : Value}
    (hn : sz.getD 1 ≤ l.length) (hv : pack sz (l.take (sz.getD 1)) = some v)
    (hx : RV w ok loc (.bp l) x) : ∃ y, (Instr.loadAt t x).run P w = .ok y w ∧ RV w ok loc v y := by
  cases hx with
  | bp _ b off ys ho h0 h =>
    have hys : ∀ j, j < sz.getD 1 → l[j]? = some (l[j]?.getD .u) := fun j hj => by
      rw [List.getElem?_eq_getElem (by omega)]; rfl
    refine ⟨packX sz ((List.range (sz.getD 1)).map ys), ?_, pack_rv hv ⟨by simp; omega, fun j v x h1 h2 => ?_⟩⟩
    · simp only [Instr.loadAt, Instr.sureAddr, Sem.run_bind, Sem.run_pure, Result.andThen_ok]
      refine loadVar_run ht b off _ (by simp) fun j y hj => ?_
      have hjn : j < sz.getD 1 := by
        have := (List.getElem?_eq_some_iff.1 hj).1
        simpa using this
      simp [List.getElem?_map, List.getElem?_range hjn] at hj
      rw [← hj]; exact h0 j _ (hys j hjn)
    · simp only [List.getElem?_take] at h1
      split at h1
      · rename_i hj
        simp [List.getElem?_map, List.getElem?_range hj] at h2
        subst h2; exact h j v h1
      · cases h1

theorem seg_get {α : Type} (l vs : List α) (a q : Nat) (h : a + vs.length ≤ l.length) :
    (l.take a ++ vs ++ l.drop (a + vs.length))[q]? = if q < a then l[q]? else if q < a + vs.length then vs[q - a]? else l[q]? := by
  have hta : (l.take a).length = a := by rw [List.length_take]; omega
  by_cases h1 : q < a
  · rw [if_pos h1, List.append_assoc, List.getElem?_append_left (by rw [hta]; exact h1), List.getElem?_take, if_pos h1]
  · rw [if_neg h1]
    by_cases h2 : q < a + vs.length
    · rw [if_pos h2, List.getElem?_append_left (by rw [List.length_append, hta]; exact h2), List.getElem?_append_right (by rw [hta]; omega), hta]
    · rw [if_neg h2, List.getElem?_append_right (by rw [List.length_append, hta]; omega), List.length_append, hta, List.getElem?_drop]
      congr 1; omega

/-- A store. -/
theorem store_pt (hwf : WF n0 w own loc ob) {t : TypeId} {sz : Option Nat} (ht : tySz P t = some sz) {id i o : Nat} {X : Ob} {row : List V} {v : V} {x y : Value}
    (hX : ob id = some X) (hi : X.l[i]? = some row) (hn : o + sz.getD 1 ≤ row.length) (hv : (cellsV v).length = sz.getD 1) (hl : (cellsV v).all leaf = true)
    (hx : RV w (okf own n0 w.heap.size) loc (.pt id i o) x) (hy : RV w (okf own n0 w.heap.size) loc v y) :
    ∃ w', (Instr.storeAt t x y).run P w = .ok () w' ∧
      WF n0 w' own loc (fun j => if j = id then some ⟨X.k, X.l.set i (row.take o ++ cellsV v ++ row.drop (o + sz.getD 1)), X.cap⟩ else ob j) ∧ Stp w own loc w' own loc := by
  obtain ⟨p, hp, hor⟩ := hwf.has id X hX
  obtain ⟨hcr, hone⟩ := cells_rv hy hl
  obtain ⟨cs, elt, hh, hbig⟩ := hor.mem
  have hrow : row.length = p.k := hor.rows row (List.mem_of_getElem? hi)
  have hil : i < X.l.length := (List.getElem?_eq_some_iff.1 hi).1
  have hlen := hor.len
  have hsz : y.cells.toList.length = sz.getD 1 := by rw [hcr.1, hv]
  have hbnd : p.base + i * p.k + o + sz.getD 1 ≤ cs.size := by
    have : (i + 1) * p.k ≤ p.cap * p.k := Nat.mul_le_mul_right _ (by omega)
    rw [Nat.add_mul] at this
    omega
  generalize hcs' : (cs.toList.take (p.base + i * p.k + o) ++ y.cells.toList ++ cs.toList.drop (p.base + i * p.k + o + sz.getD 1)).toArray = cs'
  have hsize : cs'.size = cs.size := by
    rw [← hcs']; simp [hsz]; omega
  have hget : ∀ q, cs'[q]? = if q < p.base + i * p.k + o then cs[q]? else if q < p.base + i * p.k + o + sz.getD 1 then y.cells.toList[q - (p.base + i * p.k + o)]? else cs[q]? := fun q => by
    have e := seg_get cs.toList y.cells.toList (p.base + i * p.k + o) q (by rw [hsz]; simpa using hbnd)
    rw [hsz] at e
    rw [← hcs', List.getElem?_toArray, e]
    simp only [Array.getElem?_toList]
  have := upd_ob hwf hp ⟨X.k, X.l.set i (row.take o ++ cellsV v ++ row.drop (o + sz.getD 1)), X.cap⟩ cs cs' elt hh hsize hbig hor.k (by simpa using hlen)
    (fun ch hch => by
      rcases List.mem_or_eq_of_mem_set hch with h | h
      · exact hor.rows ch h
      · rw [h]; simp [hv]; omega) hor.cap
    (fun a j q hu => by
      obtain ⟨r, hr1, hr2⟩ := el_some hu
      simp only [List.getElem?_set] at hr1
      by_cases hai : i = a
      · subst hai
        simp only [if_true, hil, if_true, Option.some.injEq] at hr1
        subst hr1
        have e := seg_get row (cellsV v) o j (by rw [hv]; exact hn)
        rw [hv] at e
        rw [e] at hr2
        by_cases h1 : j < o
        · rw [if_pos h1] at hr2
          obtain ⟨z, hz1, hz2⟩ := hor.cells i j q (el_mk hi hr2)
          refine ⟨z, ?_, hz2⟩
          rw [hget, if_pos (by omega)]
          simpa [World.cell?, hh] using hz1
        · rw [if_neg h1] at hr2
          by_cases h2 : j < o + sz.getD 1
          · rw [if_pos h2] at hr2
            have hj' : j - o < y.cells.toList.length := by rw [hsz]; omega
            refine ⟨y.cells.toList[j - o], ?_, hcr.2 (j - o) q _ hr2 (List.getElem?_eq_getElem hj')⟩
            rw [hget, if_neg (by omega), if_pos (by omega), ← List.getElem?_eq_getElem hj']
            congr 1; omega
          · rw [if_neg h2] at hr2
            obtain ⟨z, hz1, hz2⟩ := hor.cells i j q (el_mk hi hr2)
            refine ⟨z, ?_, hz2⟩
            rw [hget, if_neg (by omega), if_neg (by omega)]
            simpa [World.cell?, hh] using hz1
      · rw [if_neg hai] at hr1
        obtain ⟨z, hz1, hz2⟩ := hor.cells a j q (el_mk hr1 hr2)
        have hj : j < p.k := by
          have := (List.getElem?_eq_some_iff.1 hr2).1
          rw [hor.rows r (List.mem_of_getElem? hr1)] at this
          exact this
        refine ⟨z, ?_, hz2⟩
        have hz : cs[p.base + a * p.k + j]? = some z := by simpa [World.cell?, hh] using hz1
        rw [hget]
        by_cases h1 : p.base + a * p.k + j < p.base + i * p.k + o
        · rw [if_pos h1]; exact hz
        · rw [if_neg h1, if_neg ?_]; exact hz
          intro h2
          have : (p.base + a * p.k + j) - p.base = a * p.k + j := by omega
          have e := pos_eq (i := a) (j := j) (i' := i) (j' := (a * p.k + j) - i * p.k) hj (by omega) (by omega)
          exact hai e.1.symm)
  refine ⟨w.setRow p.b cs', ?_, this⟩
  cases hx with
  | pt _ _ _ a hl h =>
    rw [h p hp]
    have hst := run_storeCells_at (P := P) p.b (p.base + i * p.k + o) elt y.cells.toList 0 cs w hh (by simp only [Nat.add_zero, hsz]; omega) hone
    have hsz2 : y.cells.size = sz.getD 1 := by rw [← hsz]; simp
    have hcs2 : (cs.toList.take (p.base + i * p.k + o + 0) ++ y.cells.toList ++ cs.toList.drop (p.base + i * p.k + o + 0 + y.cells.toList.length)).toArray = cs' := by rw [← hcs', hsz]; rfl
    rw [hcs2] at hst
    simp [Instr.storeAt, Instr.sureAddr, storeVar, (tySz_spec ht w).2, hsz2, hst]

end
end Go.Proofs.Ytamdidmfcjdcgaa.D
