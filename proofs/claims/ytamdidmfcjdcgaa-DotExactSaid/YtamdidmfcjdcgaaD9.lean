/- The machine's operations, as those over plain values: make, literals, slicing, places. No condition. -/
import Derived.Test.YtamdidmfcjdcgaaD8
set_option linter.unusedVariables false
set_option linter.unusedSectionVars false
set_option linter.unusedSimpArgs false
set_option linter.constructorNameAsVariable false
namespace Go.Proofs.Ytamdidmfcjdcgaa.D
open Go Go.RowKit

section
variable {P : Program} {n0 : Nat} {w : World} {own : Nat → Option Nat} {loc : Loc} {ob : OB} {nid : Nat} [Bk]

theorem toInt_inv {v : V} {n : Int} (h : toInt v = some n) : ∃ k, v = .c (.int k n) := by
  unfold toInt at h
  split at h
  · rename_i k m; injection h with h; subst h; exact ⟨k, rfl⟩
  · cases h

theorem toC_inv {v : V} {x : Value} (h : toC v = some x) : v = .c x := by
  unfold toC at h
  split at h
  · injection h with h; subst h; rfl
  · cases h

theorem toBool_inv {v : V} {b : Bool} (h : toBool v = some b) : v = .c (.bool b) := by
  unfold toBool at h
  split at h
  · injection h with h; subst h; rfl
  · cases h

/-- An element type's zero row, its size, its bytes. -/
def elZ (P : Program) (t : TypeId) : Option (Nat × List V) :=
  (sliceEl P t).bind fun e => (P.info? e).bind fun i => i.zero.bind fun z => (toVs z.cells.toList).bind fun l =>
    if l.length = i.size ∧ 0 < i.size ∧ 0 < i.bytes ∧ i.bytes ≤ 4096 ∧ i.size ≤ 4096 then some (i.size, l) else none

theorem elZ_spec {t : TypeId} {k : Nat} {l : List V} (h : elZ P t = some (k, l)) : ∃ e i z, P.underlying t = some (.slice e) ∧ P.info? e = some i ∧ i.size = k ∧ i.zero = some z ∧ toVs z.cells.toList = some l ∧
    l.length = k ∧ 0 < k ∧ 0 < i.bytes ∧ i.bytes ≤ 4096 ∧ k ≤ 4096 := by
  unfold elZ sliceEl at h
  split at h
  · rename_i e h1
    simp only [Option.bind_some] at h
    cases h2 : P.info? e with
    | none => simp [h2] at h
    | some i =>
      simp only [h2, Option.bind_some] at h
      cases h3 : i.zero with
      | none => simp [h3] at h
      | some z =>
        simp only [h3, Option.bind_some] at h
        cases h4 : toVs z.cells.toList with
        | none => simp [h4] at h
        | some l' =>
          simp only [h4, Option.bind_some] at h
          split at h
          · rename_i hc
            injection h with h; injection h with ha hb
            subst ha; subst hb
            exact ⟨e, i, z, h1, h2, rfl, h3, h4, hc.1, hc.2.1, hc.2.2.1, hc.2.2.2.1, hc.2.2.2.2⟩
          · cases h
  · simp at h

theorem flatten_rep_at {α : Type} (zl : List α) {k : Nat} (hz : zl.length = k) : ∀ (n i j : Nat), i < n → j < k → (List.replicate n zl).flatten[i * k + j]? = zl[j]?
  | 0, i, j, h, _ => by omega
  | n + 1, 0, j, h, hj => by rw [List.replicate_succ, List.flatten_cons, List.getElem?_append_left (by rw [hz]; omega)]; simp
  | n + 1, i + 1, j, h, hj => by
    rw [List.replicate_succ, List.flatten_cons, List.getElem?_append_right (by rw [hz, Nat.add_mul]; omega)]
    have : (i + 1) * k + j - zl.length = i * k + j := by rw [hz, Nat.add_mul]; omega
    rw [this]; exact flatten_rep_at zl hz n i j (by omega) hj

/-- Zero cells, over and over. -/
theorem zeros_get (z : Array Value) (k : Nat) (hz : z.size = k) (n q : Nat) (hq : q < n * k) : (Array.map (fun x => z[x % z.size]!) (Array.range (n * k)))[q]? = z[q % k]? := by
  have hk0 : 0 < k := Nat.pos_of_ne_zero (by rintro rfl; simp at hq)
  have hm : q % k < z.size := by rw [hz]; exact Nat.mod_lt q hk0
  simp [hz, hq]
  rw [Array.getElem?_eq_getElem hm]
  simp [hm]

/-- The rows of a slice of noughts. -/
theorem zeros_rows {ok : Fl → Nat → Prop} {z : Array Value} {l : List V} {k : Nat} (hl : toVs z.toList = some l) (hlk : l.length = k) (n : Nat) (cs : Array Value)
    (hcs : ∀ q, q < n * k → cs[q]? = z[q % k]?) : ∀ i j v, el (List.replicate n l) i j = some v → ∃ x, cs[i * k + j]? = some x ∧ RV w ok loc v x := by
  intro i j v hv
  obtain ⟨r, h1, h2⟩ := el_some hv
  have hi : i < n := by have := (List.getElem?_eq_some_iff.1 h1).1; simpa using this
  have hr : r = l := by
    rw [List.getElem?_replicate, if_pos hi] at h1
    injection h1 with h1; exact h1.symm
  subst hr
  have hj : j < k := by have := (List.getElem?_eq_some_iff.1 h2).1; omega
  obtain ⟨hrv, _⟩ := toVs_rv (w := w) (ok := ok) (loc := loc) hl
  have hq : i * k + j < n * k := by
    have : (i + 1) * k ≤ n * k := Nat.mul_le_mul_right _ (by omega)
    rw [Nat.add_mul] at this; omega
  have hmod : (i * k + j) % k = j := by rw [Nat.mul_comm, Nat.mul_add_mod, Nat.mod_eq_of_lt hj]
  have hjz : j < z.toList.length := by rw [hrv.1]; omega
  refine ⟨z.toList[j], ?_, hrv.2 j v _ h2 (List.getElem?_eq_getElem hjz)⟩
  rw [hcs _ hq, hmod]
  simp at hjz ⊢
  try exact hjz

/-- make. -/
theorem make_does (hwf : WF n0 w own loc ob) (hn0 : n0 ≤ w.heap.size) (hnid : loc nid = none) {t : TypeId} {k : Nat} {z : List V} {fz : Bool} (ht : elZ P t = some (k, z)) {xn xm : Value} {vn vm r : V} {us : Ups} {ob0 : OB}
    (hn : RV w (okf own n0 w.heap.size) loc vn xn) (hm : RV w (okf own n0 w.heap.size) loc vm xm) (hop : opF (.mks k z fz) [vn, vm] ob0 nid = some (r, us)) :
    ∃ y w' own' loc', (Instr.makeSlice t xn xm).run P w = .ok y w' ∧ RV w' (okf own' n0 w'.heap.size) loc' r y ∧
      WF n0 w' own' loc' (apps ob us) ∧ Stp w own loc w' own' loc' ∧ ∀ id, id ≠ nid → loc id = none → loc' id = none := by
  obtain ⟨e, i, zv, hu, hi, hik, hz, hzl, hzk, hk0, hb0, hb1, hkb⟩ := elZ_spec ht
  simp only [opF] at hop
  obtain ⟨n, hn1, hopA⟩ := Option.bind_eq_some_iff.1 hop
  obtain ⟨m, hm1, hop2⟩ := Option.bind_eq_some_iff.1 hopA
  clear hop hopA
  obtain ⟨k1, rfl⟩ := toInt_inv hn1
  obtain ⟨k2, rfl⟩ := toInt_inv hm1
  have hn' := hn.c_inv; have hm' := hm.c_inv
  subst hn'; subst hm'
  clear hn1 hm1
  by_cases hcond : n = m ∧ 0 ≤ n ∧ n ≤ maxLen
  case neg => rw [if_neg hcond] at hop2; cases hop2
  rw [if_pos hcond] at hop2
  have hop := hop2; clear hop2
  obtain ⟨rfl, hnn, hnm⟩ := hcond
  obtain ⟨N, rfl⟩ : ∃ N : Nat, n = N := ⟨n.toNat, by omega⟩
  have hN : N ≤ maxLen := by omega
  unfold maxLen at hN
  have hwrap : IntKind.i64.wrap (N : Int) = N := by simp [IntKind.wrap, IntKind.bits, IntKind.signed]; omega
  have hlt1 : ¬ ((N : Int) < 0) := by omega
  have hbig : ¬ ((i.bytes : Int) * (N : Int) > 2 ^ 48) := by
    have : i.bytes * N ≤ 4096 * 4294967296 := Nat.mul_le_mul hb1 hN
    have h2 : (i.bytes : Int) * (N : Int) = ((i.bytes * N : Nat) : Int) := by rw [Int.natCast_mul]
    rw [h2]
    omega
  have hzs : zv.cells.size = k := by
    have := (toVs_rv (w := w) (ok := okf own n0 w.heap.size) (loc := loc) hzl).1.1
    simp at this; omega
  -- the run
  generalize hcs : (Array.map (fun x => (if N * k = 0 then #[] else zv.cells)[x % (if N * k = 0 then #[] else zv.cells).size]!) (Array.range (N * k))) = cs
  have hget : ∀ q, q < N * k → cs[q]? = zv.cells[q % k]? := fun q hq => by
    rw [← hcs]
    have : N * k ≠ 0 := by omega
    simp only [this, if_false]
    exact zeros_get zv.cells k hzs N q hq
  have hsize : cs.size = N * k := by rw [← hcs]; simp
  have hrun : (Instr.makeSlice t (.int k1 N) (.int k2 N)).run P w = .ok (.slice (some ⟨w.heap.size, 0, none⟩) N N) (w.alloc (.cells cs e)) := by
    subst hik
    have hap : ∀ o : Obj, ({ heap := w.heap.push o, tape := w.tape, drawn := w.drawn, os := w.os, output := w.output } : World) = w.alloc o := fun o => rfl
    have hT : (decide ((N : Int) < 0) || decide ((i.bytes : Int) * N > 2 ^ 48)) = false := by simp only [hlt1, hbig, decide_false, Bool.or_self]
    have hnn : ¬ ((N : Int) > N) := by omega
    have hbig2 : ¬ (281474976710656 < (i.bytes : Int) * (N : Int)) := by simpa using hbig
    have htn : (N : Int).toNat = N := by simp
    simp only [Instr.makeSlice, Sem.run_bind, run_underlying hu, asInt, asIntOf, info_of hi, size_of hi, Sem.run_pure, Result.andThen_ok, hwrap, hT, hlt1, hnn, decide_false, Bool.or_self, Bool.false_eq_true, if_false, run_askRoom, htn, Sem.run_ite]
    by_cases h0 : N * i.size = 0
    · simp only [h0, if_true] at hcs
      simp [h0, newRow, hbig2, ← hcs, hap]
    · simp only [h0, if_false] at hcs
      simp [h0, newRow, hbig2, zero_of hi hz, ← hcs, hap]
  have hrows := zeros_rows (w := w) (ok := okf own n0 w.heap.size) (loc := loc) hzl hzk N cs hget
  cases fz with
  | true =>
    simp only [if_true] at hop
    injection hop with hop; injection hop with h1 h2; subst h1; subst h2
    obtain ⟨h1, h2⟩ := new_blk hwf (.cells cs e)
    refine ⟨_, _, own, loc, hrun, ?_, h1, h2, fun _ _ h => h⟩
    have hnone : own w.heap.size = none := by
      cases ho : own w.heap.size with
      | none => rfl
      | some id => exact absurd (hwf.lt _ _ ho) (by omega)
    by_cases hN0 : N = 0
    · subst hN0; exact .e _ _ _ (fun h => by cases h)
    · have hch : ∀ i j v, el (List.replicate (N : Int).toNat z) i j = some v → ∃ x, cs[i * k + j]? = some x ∧ RV w (okf own n0 w.heap.size) loc v x := by simpa using hrows
      refine .im .b _ k w.heap.size 0 N N (fun i j => (cs[i * k + j]?).getD undef) (by simp) (fun ch h => by rw [List.eq_of_mem_replicate h, hzk]) (Nat.le_refl _) ⟨hnone, by simp, .inr (.inr hn0)⟩ (fun i j v hv => ?_) (fun i j v hv => ?_)
      · obtain ⟨x, h3, h4⟩ := hch i j v hv
        simp [h3]
      · obtain ⟨x, h3, h4⟩ := hch i j v hv
        rw [h3]; exact h4.stp h2
  | false =>
    simp only [Bool.false_eq_true, if_false] at hop
    injection hop with hop; injection hop with h1 h2; subst h1; subst h2
    obtain ⟨h1, h2⟩ := new_ob hwf hnid cs e k N (List.replicate N z) none (by omega) (by simp) (fun ch h => by rw [List.eq_of_mem_replicate h, hzk]) (fun c h => by cases h) hrows
    refine ⟨_, _, _, _, hrun, ?_, by simpa [apps] using h1, h2, fun id hne h => by simp [hne, h]⟩
    refine .sl nid 0 _ _ _ (by simp) fun q hq => ?_
    simp only [if_true, Option.some.injEq] at hq
    subst hq
    exact ⟨by simp, by simp, by simp⟩

end
end Go.Proofs.Ytamdidmfcjdcgaa.D
