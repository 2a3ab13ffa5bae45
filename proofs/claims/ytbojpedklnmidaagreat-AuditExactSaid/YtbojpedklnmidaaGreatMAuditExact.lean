/- AuditExact, packed. No condition beyond the statement's own. -/
import Derived.Test.YtbojpedklnmidaaGreatMAuditExacte
import Derived.Test.YtbojpedklnmidaaGreatRows
import Derived.WalkKit
import Derived.ProofKit
import Derived.OpenShut
import Derived.ShutString
import Derived.ChangeOld
import Derived.Below
import Derived.SizedLaws
section
set_option linter.unusedVariables false
set_option linter.unusedSimpArgs false
set_option linter.constructorNameAsVariable false
set_option maxRecDepth 100000

/- The page's rows: the walks. No condition. -/
namespace Go.Proofs.YtbojpedklnmidaaGreat.D
open Go Go.Proofs
open Nat (reduceAdd reduceEqDiff reduceLeDiff)
open Int (reduceLE reduceEq reduceNeg reduceToNat)
theorem goneD_s {l : List Opx} {i t : Nat} {s : ByteArray} {x : Opx} (h : i < l.length) : goneD (ofK (l.take (i + 1)) t s) x = (goneD (ofK (l.take i) t s) x || (decide ((gN l i).table = (t : Int) ∧ (gN l i).key = s) && (decide ((gN l i).kind = 3) && (gN l i).dots.any fun d => sameD d x.dot))) := by
  rw [ofK_s h]
  by_cases hc : (gN l i).table = (t : Int) ∧ (gN l i).key = s
  · rw [if_pos hc, decide_eq_true hc]
    unfold goneD
    rw [List.any_append]; simp
  · rw [if_neg hc, decide_eq_false hc, Bool.false_and, Bool.or_false]
theorem cellsP_set {c : Nat} {L : List Opx} {x : Opx} {k : Nat} (hk : k < c) (ho : ∀ y, L.foldl (lastS k) none = some y → nameB y.dot = true ∧ y.kind ≠ 0) (ha : 0 ≤ atX x k) (hoth : ∀ j, j < c → j ≠ k → ¬ 0 ≤ atX x j) : (cellsP c L).set k (laterC (gN (cellsP c L) k) (gN x.vals (atX x k).toNat) x) = cellsP c (L ++ [x]) := by
  refine List.ext_getElem (by simp [cellsP]) fun j h1 h2 => ?_
  have hj : j < c := by simpa [cellsP] using h2
  rw [List.getElem_set]
  have hgk : gN (cellsP c L) k = cellO (L.foldl (lastS k) none) k := by
    rw [gN_eq (by simpa [cellsP] using hk)]; simp [cellsP]
  by_cases e : k = j
  · subst e
    rw [if_pos rfl, hgk, later_cell ho ha]
    simp only [cellsP, List.getElem_map, List.getElem_range, List.foldl_append]; rfl
  · rw [if_neg e]
    simp only [cellsP, List.getElem_map, List.getElem_range, List.foldl_append, List.foldl_cons, List.foldl_nil]
    unfold lastS
    rw [if_neg fun h => hoth j hj (fun q => e q.symm) h.1]
theorem cellsP_no {c : Nat} {L : List Opx} {x : Opx} (hoth : ∀ j, j < c → ¬ 0 ≤ atX x j) : cellsP c (L ++ [x]) = cellsP c L := by
  unfold cellsP
  refine List.map_congr_left fun j hj => ?_
  rw [List.foldl_append, List.foldl_cons, List.foldl_nil]
  congr 1
  exact if_neg fun h => hoth j (List.mem_range.1 hj) h.1
theorem rowM_cells {s : ByteArray} {c : Nat} {L : List Opx} (h : thereM (mdeK s c L) = true) : rowM (mdeK s c L) = ⟨4, 0, s⟩ :: (cellsP c L).map (·.v) := by
  have hk : (mdeK s c L).key = s := by unfold mdeK; rw [note_key]; rfl
  unfold rowM
  rw [if_pos h, hk]
  congr 1
  have hlast : (mdeK s c L).last = (List.replicate c none).mapIdx fun j o => L.foldl (lastS j) o := by unfold mdeK; rw [note_lastL]; rfl
  rw [hlast]
  refine List.ext_getElem (by simp [cellsP]) fun j h1 h2 => ?_
  simp only [cellsP, List.getElem_map, List.getElem_range, List.getElem_mapIdx, List.getElem_replicate]
  cases L.foldl (lastS j) none with
  | none => rfl
  | some y => rfl
def cellsI (c : Nat) (L : List Opx) (x : Opx) (q : Nat) : List Cel := (List.range c).map fun j => if j < q then cellO (lastS j (L.foldl (lastS j) none) x) j else cellO (L.foldl (lastS j) none) j
theorem cellsI_0 (c : Nat) (L : List Opx) (x : Opx) : cellsI c L x 0 = cellsP c L := by
  unfold cellsI cellsP
  exact List.map_congr_left fun j _ => if_neg (by omega)
theorem cellsI_c (c : Nat) (L : List Opx) (x : Opx) : cellsI c L x c = cellsP c (L ++ [x]) := by
  unfold cellsI cellsP
  refine List.map_congr_left fun j hj => ?_
  rw [if_pos (List.mem_range.1 hj), List.foldl_append]; rfl
theorem cellsI_s {c : Nat} {L : List Opx} {x : Opx} {q : Nat} (hq : q < c) (ho : ∀ y, L.foldl (lastS q) none = some y → nameB y.dot = true ∧ y.kind ≠ 0) (ha : atX x q = (q : Int)) : (cellsI c L x q).set q (laterC (gN (cellsI c L x q) q) (gN x.vals q) x) = cellsI c L x (q + 1) := by
  have hg : gN (cellsI c L x q) q = cellO (L.foldl (lastS q) none) q := by
    rw [gN_eq (by simpa [cellsI] using hq)]; simp [cellsI]
  have hl := later_cell (o := L.foldl (lastS q) none) (x := x) (j := q) ho (by rw [ha]; omega)
  rw [ha] at hl
  have hl : laterC (cellO (L.foldl (lastS q) none) q) (gN x.vals q) x = cellO (lastS q (L.foldl (lastS q) none) x) q := hl
  rw [hg, hl]
  refine List.ext_getElem (by simp [cellsI]) fun j h1 h2 => ?_
  rw [List.getElem_set]
  simp only [cellsI, List.getElem_map, List.getElem_range]
  by_cases e : q = j
  · subst e; rw [if_pos rfl, if_pos (by omega)]
  · rw [if_neg e]
    by_cases h3 : j < q
    · rw [if_pos h3, if_pos (by omega)]
    · rw [if_neg h3, if_neg (by omega)]
set_option maxHeartbeats 4000000 in
theorem Made14_row {fm : Fl} (c t : Nat) (s : ByteArray) (l : List Opx) (hc : 1 ≤ c ∧ c ≤ 1000) (hl : l.length ≤ 100) (hg : ∀ x ∈ l, x.table = (t : Int) → x.key = s → GoodA c x ∧ (x.kind = 2 → x.col < c ∧ x.vals.length = 1)) (hx : ∀ x ∈ l, x.dots.length ≤ 1000) :
    FnB Tryz.prog 64 [vi c, vi t, .c (.string s), ops fm l] (vals .o (rowM (mdeK s c (ofK l t s)))) := by
  refine fnB_intro cf64 (by simp) ?_
  simp +contextual (maxSteps := 1000000) only [go_sem, ints, intRows, reduceAdd, Nat.reduceBEq, reduceEqDiff, reduceLeDiff, Nat.reduceLT, reduceIte, reduceLE, Int.reduceLT, reduceEq, reduceNeg, reduceToNat, ops, vals, dots, c64, Int.toNat_natCast]
  refine ⟨by unfold maxLen; omega, ?_⟩
  have hcl : ∀ L, (cellsP c L).length = c := fun L => by simp [cellsP]
  have hcg : ∀ L j, j < c → gN (cellsP c L) j = cellO (L.foldl (lastS j) none) j := fun L j hj => by
    rw [gN_eq (by rw [hcl]; exact hj)]; simp [cellsP]
  refine wpC_lp (fun env ob n' => env 0 = vi c ∧ env 1 = vi t ∧ env 2 = .c (.string s) ∧ env 3 = ops fm l ∧ env 10 = .sl 3 0 c ∧ 6 ≤ n' ∧ ∃ i : Nat, env 11 = vi i ∧ i ≤ l.length ∧ env 9 = vb (thereP (ofK l t s) (ofK (l.take i) t s)) ∧ ob 3 = some ⟨8, (cellsP c (ofK (l.take i) t s)).map celV, none⟩) (fun env ob _ => (l.length - iv (env 11)).toNat) ?_ ?_
  · simp +contextual (maxSteps := 1000000) only [go_sem, ints, intRows, reduceAdd, Nat.reduceBEq, reduceEqDiff, reduceLeDiff, Nat.reduceLT, reduceIte, reduceLE, Int.reduceLT, reduceEq, reduceNeg, reduceToNat, ops, vals, dots]
    refine ⟨0, rfl, by omega, rfl, ?_⟩
    congr 2
    refine List.ext_getElem (by simp [hcl]) fun j h1 h2 => ?_
    simp [cellsP, ofK, cellO, celV, noS]
  rintro env ob n' ⟨h0, h1, h2, h3, h10, hn', i, h11, hi, h9, hob⟩
  have w1 : IntKind.i64.wrap ((i : Int) + 1) = ((i + 1 : Nat) : Int) := by rw [w64 (by omega)]; omega
  have g3 : ∀ k, (3 == n' + k) = false := fun k => by simp; omega
  simp +contextual (maxSteps := 1000000) only [go_sem, ints, intRows, reduceAdd, Nat.reduceBEq, reduceEqDiff, reduceLeDiff, Nat.reduceLT, reduceIte, reduceLE, Int.reduceLT, reduceEq, reduceNeg, reduceToNat, ops, vals, dots, h0, h1, h2, h3, h10, h11, h9, hob, w1, hcl]
  refine ⟨fun hlt => ?_, fun hge => ?_⟩
  · simp only [decide_eq_true_eq] at hlt
    simp +contextual (maxSteps := 1000000) only [go_sem, ints, intRows, reduceAdd, Nat.reduceBEq, reduceEqDiff, reduceLeDiff, Nat.reduceLT, reduceIte, reduceLE, Int.reduceLT, reduceEq, reduceNeg, reduceToNat, ops, vals, dots, wpC_bl, h0, h1, h2, h3, h10, h11, h9, hob, w1, g3, eqStr, Nat.add_assoc, beq_add, Nat.zero_add, Nat.add_zero]
    have hxl := gN_mem (show i < l.length by omega)
    refine ⟨by omega, fun hs => ?_, fun hs => ?_⟩
    · have hn2 : ¬ ((gN l i).table = (t : Int) ∧ (gN l i).key = s) := by
        rintro ⟨q1, q2⟩
        rw [if_pos (decide_eq_true q1), decide_eq_true q2] at hs; cases hs
      have e := ofK_s (t := t) (s := s) (show i < l.length by omega)
      rw [if_neg hn2] at e
      exact ⟨⟨i + 1, rfl, by omega, by rw [e], by rw [e]⟩, by omega⟩
    have hts : (gN l i).table = (t : Int) ∧ (gN l i).key = s := by
      by_cases q1 : (gN l i).table = (t : Int)
      · rw [if_pos (decide_eq_true q1)] at hs
        exact ⟨q1, by simpa using hs⟩
      · rw [if_neg (by simpa using q1)] at hs; cases hs
    obtain ⟨hga, hg2⟩ := hg _ hxl hts.1 hts.2
    have e := ofK_s (t := t) (s := s) (show i < l.length by omega)
    rw [if_pos hts] at e
    have hgood : ∀ j y, (ofK (l.take i) t s).foldl (lastS j) none = some y → nameB y.dot = true ∧ y.kind ≠ 0 := fun j => fold_good (c := c) fun x hx2 => by
      obtain ⟨q1, q2, q3⟩ := mem_ofK.1 hx2
      exact (hg x (List.mem_of_mem_take q1) q2 q3).1.name
    generalize hxx : gN l i = x at *
    generalize hob1 : updO (updO ob _ _) _ _ = ob1
    have hcells : ∀ j, (ofK (l.take (i + 1)) t s).foldl (lastS j) none = lastS j ((ofK (l.take i) t s).foldl (lastS j) none) x := fun j => by rw [e, List.foldl_append]; rfl
    refine ⟨fun hk1 => ?_, fun hk1 => ?_⟩
    · have hk1' : x.kind = 1 := by simpa using hk1
      have hA1 : ob1 3 = some ⟨8, (cellsP c (ofK (l.take i) t s)).map celV, none⟩ := by rw [← hob1, updO, if_neg (by omega), updO, if_neg (by omega), hob]
      have hB1 : ob1 (n' + 8) = some ⟨12, [opV x], none⟩ := by rw [← hob1, updO_s]
      have hxv : x.vals.length = c := hga.vals hk1'
      refine wpC_lp (fun env' ob' n2 => env' 0 = vi c ∧ env' 1 = vi t ∧ env' 2 = .c (.string s) ∧ env' 3 = ops fm l ∧ env' 10 = .sl 3 0 c ∧ env' 11 = vi i ∧ env' 12 = .pt (n' + 8) 0 0 ∧ env' 9 = vb (thereP (ofK l t s) (ofK (l.take i) t s)) ∧ n' + 26 ≤ n2 ∧ ob' 3 = ob1 3 ∧ ob' (n' + 8) = ob1 (n' + 8) ∧ ∃ k : Nat, env' 14 = vi k ∧ k ≤ l.length ∧ env' 13 = vb (goneD (ofK (l.take k) t s) x)) (fun env' _ _ => (l.length - iv (env' 14)).toNat) ?_ ?_
      · simp +contextual (maxSteps := 1000000) only [go_sem, ints, intRows, reduceAdd, Nat.reduceBEq, reduceEqDiff, reduceLeDiff, Nat.reduceLT, reduceIte, reduceLE, Int.reduceLT, reduceEq, reduceNeg, reduceToNat, ops, vals, dots, h0, h1, h2, h3, h10, h11, h9]
        exact ⟨0, rfl, by omega, rfl⟩
      clear h0 h1 h2 h3 h10 h11 h9
      rintro env' ob2 n2 ⟨h0, h1, h2, h3, h10, h11, h12, h9, hn2, o1, o2, k, h14, hk, h13⟩
      have w2 : IntKind.i64.wrap ((k : Int) + 1) = ((k + 1 : Nat) : Int) := by rw [w64 (by omega)]; omega
      have hA2 := o1.trans hA1
      have hB2 := o2.trans hB1
      simp +contextual (maxSteps := 1000000) only [go_sem, ints, intRows, reduceAdd, Nat.reduceBEq, reduceEqDiff, reduceLeDiff, Nat.reduceLT, reduceIte, reduceLE, Int.reduceLT, reduceEq, reduceNeg, reduceToNat, ops, vals, dots, h0, h1, h2, h3, h10, h11, h12, h9, h13, h14, hA2, hB2, w2, eqStr]
      refine ⟨fun hkl => ?_, fun hkl => ?_⟩
      · simp only [decide_eq_true_eq] at hkl
        have hgs := goneD_s (t := t) (s := s) (x := x) (show k < l.length by omega)
        refine ⟨by omega, fun _ => by omega, fun _ => by omega, fun hsk => ?_, fun hin => ?_⟩
        · have hz : (decide ((gN l k).table = (t : Int) ∧ (gN l k).key = s) && (decide ((gN l k).kind = 3) && (gN l k).dots.any fun d => sameD d x.dot)) = false := by
            by_cases q3 : (gN l k).kind = 3
            · rw [if_pos (decide_eq_true q3)] at hsk
              have : ¬ ((gN l k).table = (t : Int) ∧ (gN l k).key = s) := by
                rintro ⟨q1, q2⟩
                simp [q1, q2] at hsk
              rw [decide_eq_false this]; rfl
            · rw [decide_eq_false q3, Bool.false_and, Bool.and_false]
          rw [hz, Bool.or_false] at hgs
          exact ⟨⟨by omega, hA1.symm, hB1.symm, k + 1, rfl, by omega, by rw [hgs]⟩, by omega⟩
        have hin' : (gN l k).kind = 3 ∧ (gN l k).table = (t : Int) ∧ (gN l k).key = s := by
          rw [Bool.or_eq_false_iff] at hin
          by_cases q3 : (gN l k).kind = 3
          · rw [if_pos (decide_eq_true q3)] at hin
            exact ⟨q3, by simpa using hin.1, by simpa using hin.2⟩
          · rw [if_neg (by simpa using q3)] at hin; simp at hin
        obtain ⟨q3, q1, q2⟩ := hin'
        have hdl := hx _ (gN_mem (show k < l.length by omega))
        refine wpC_lp (fun env' ob' n4 => env' 0 = vi c ∧ env' 1 = vi t ∧ env' 2 = .c (.string s) ∧ env' 3 = ops fm l ∧ env' 10 = .sl 3 0 c ∧ env' 11 = vi i ∧ env' 12 = .pt (n' + 8) 0 0 ∧ env' 9 = vb (thereP (ofK l t s) (ofK (l.take i) t s)) ∧ n' + 26 ≤ n4 ∧ ob' 3 = ob1 3 ∧ ob' (n' + 8) = ob1 (n' + 8) ∧ env' 14 = vi k ∧ ∃ j : Nat, env' 15 = vi j ∧ j ≤ (gN l k).dots.length ∧ env' 13 = vb (goneD (ofK (l.take k) t s) x || ((gN l k).dots.take j).any fun d => sameD d x.dot)) (fun env' _ _ => ((gN l k).dots.length - iv (env' 15)).toNat) ?_ ?_
        · simp +contextual (maxSteps := 1000000) only [go_sem, ints, intRows, reduceAdd, Nat.reduceBEq, reduceEqDiff, reduceLeDiff, Nat.reduceLT, reduceIte, reduceLE, Int.reduceLT, reduceEq, reduceNeg, reduceToNat, ops, vals, dots, h0, h1, h2, h3, h10, h11, h12, h9, h14, h13]
          exact ⟨by omega, o1, o2, 0, rfl, by omega, by simp⟩
        clear h0 h1 h2 h3 h10 h11 h12 h9 h14 h13 hA2 hB2 o1 o2
        rintro env4 ob4 n4 ⟨h0, h1, h2, h3, h10, h11, h12, h9, hn4, o1, o2, h14, j, h15, hj, h13⟩
        have w3 : IntKind.i64.wrap ((j : Int) + 1) = ((j + 1 : Nat) : Int) := by rw [w64 (by omega)]; omega
        have hA2 := o1.trans hA1
        have hB2 := o2.trans hB1
        simp +contextual (maxSteps := 1000000) only [go_sem, ints, intRows, reduceAdd, Nat.reduceBEq, reduceEqDiff, reduceLeDiff, Nat.reduceLT, reduceIte, reduceLE, Int.reduceLT, reduceEq, reduceNeg, reduceToNat, ops, vals, dots, h0, h1, h2, h3, h10, h11, h12, h9, h13, h14, h15, hA2, hB2, w2, w3, eqStr]
        refine ⟨by omega, fun hjl => ?_, fun hjl => ?_⟩
        · simp only [decide_eq_true_eq] at hjl
          refine ⟨fun _ => by omega, fun _ => by omega, gCD_i (fun _ => KDot_ok (gN (gN l k).dots j) x.dot) trivial ?_⟩
          simp +contextual (maxSteps := 1000000) only [go_sem, ints, intRows, reduceAdd, Nat.reduceBEq, reduceEqDiff, reduceLeDiff, Nat.reduceLT, reduceIte, reduceLE, Int.reduceLT, reduceEq, reduceNeg, reduceToNat, ops, vals, dots, h0, h1, h2, h3, h10, h11, h12, h9, h13, h14, h15, hA2, hB2, w2, w3, eqStr]
          refine ⟨⟨by omega, hA1.symm, hB1.symm, j + 1, rfl, by omega, ?_⟩, by omega⟩
          rw [take_gN (by omega), List.any_append, ← Bool.or_assoc]
          simp
        · simp only [decide_eq_false_iff_not] at hjl
          obtain rfl : j = (gN l k).dots.length := by omega
          rw [List.take_length]
          rw [decide_eq_true (show (gN l k).table = (t : Int) ∧ (gN l k).key = s from ⟨q1, q2⟩), decide_eq_true q3, Bool.true_and, Bool.true_and] at hgs
          exact ⟨⟨by omega, hA1.symm, hB1.symm, k + 1, rfl, by omega, by rw [hgs]⟩, by omega⟩
      · simp only [decide_eq_false_iff_not] at hkl
        obtain rfl : k = l.length := by omega
        have hth : thereP (ofK l t s) (ofK (l.take (i + 1)) t s) = (thereP (ofK l t s) (ofK (l.take i) t s) || !goneD (ofK l t s) x) := by
          rw [e]; unfold thereP; rw [List.any_append]; simp [hk1']
        rw [List.take_length]
        have hat : ∀ j : Nat, atX x j = (j : Int) := fun j => if_pos hk1'
        refine wpC_lp (fun env' ob' n4 => env' 0 = vi c ∧ env' 1 = vi t ∧ env' 2 = .c (.string s) ∧ env' 3 = ops fm l ∧ env' 10 = .sl 3 0 c ∧ env' 11 = vi i ∧ env' 12 = .pt (n' + 8) 0 0 ∧ env' 9 = vb (thereP (ofK l t s) (ofK (l.take (i + 1)) t s)) ∧ n' + 26 ≤ n4 ∧ ob' (n' + 8) = some ⟨12, [opV x], none⟩ ∧ ∃ q : Nat, env' 16 = vi q ∧ q ≤ c ∧ ob' 3 = some ⟨8, (cellsI c (ofK (l.take i) t s) x q).map celV, none⟩) (fun env' _ _ => ((c : Int) - iv (env' 16)).toNat) ?_ ?_
        · simp +contextual (maxSteps := 1000000) only [go_sem, ints, intRows, reduceAdd, Nat.reduceBEq, reduceEqDiff, reduceLeDiff, Nat.reduceLT, reduceIte, reduceLE, Int.reduceLT, reduceEq, reduceNeg, reduceToNat, ops, vals, dots, h0, h1, h2, h3, h10, h11, h12, h9]
          exact ⟨by rw [hth], by omega, hB2, 0, rfl, by omega, by rw [cellsI_0]; exact hA2⟩
        clear h0 h1 h2 h3 h10 h11 h12 h9 h14 h13 hA2 hB2 o1 o2
        rintro env4 ob4 n4 ⟨h0, h1, h2, h3, h10, h11, h12, h9, hn4, hB2, q, h16, hq, hA2⟩
        have w3 : IntKind.i64.wrap ((q : Int) + 1) = ((q + 1 : Nat) : Int) := by rw [w64 (by omega)]; omega
        have hcI : ∀ q, (cellsI c (ofK (l.take i) t s) x q).length = c := fun q => by simp [cellsI]
        simp +contextual (maxSteps := 1000000) only [go_sem, ints, intRows, reduceAdd, Nat.reduceBEq, reduceEqDiff, reduceLeDiff, Nat.reduceLT, reduceIte, reduceLE, Int.reduceLT, reduceEq, reduceNeg, reduceToNat, ops, vals, dots, h0, h1, h2, h3, h10, h11, h12, h9, h16, hA2, hB2, w3, hxv, hcI, w1]
        refine ⟨fun hql => ?_, fun hql => ?_⟩
        · simp only [decide_eq_true_eq] at hql
          refine ⟨by omega, by omega, ?_⟩
          refine rcS_i (later14_ok (cells := cellsI c (ofK (l.take i) t s) x q) (k := q) (by rw [hcI]; omega) hA2 (by omega) fun ob5 n5 hn5 hfr5 hA5 => ?_)
          rw [cellsI_s (by omega) (hgood q) (hat q)] at hA5
          have hB5 := (hfr5 (n' + 8) (by omega) (by omega)).trans hB2
          simp +contextual (maxSteps := 1000000) only [go_sem, ints, intRows, reduceAdd, Nat.reduceBEq, reduceEqDiff, reduceLeDiff, Nat.reduceLT, reduceIte, reduceLE, Int.reduceLT, reduceEq, reduceNeg, reduceToNat, ops, vals, dots, h0, h1, h2, h3, h10, h11, h12, h9, h16, hA5, hB5, w3, hxv, hcI, w1]
          exact ⟨⟨by omega, q + 1, rfl, by omega, rfl⟩, by omega⟩
        · simp only [decide_eq_false_iff_not] at hql
          obtain rfl : q = c := by omega
          rw [cellsI_c, ← e]
          exact ⟨⟨i + 1, rfl, by omega, rfl, rfl⟩, by omega⟩
    · have hk1' : ¬ x.kind = 1 := by simpa using hk1
      have hA1 : ob1 3 = some ⟨8, (cellsP c (ofK (l.take i) t s)).map celV, none⟩ := by rw [← hob1, updO, if_neg (by omega), updO, if_neg (by omega), hob]
      have hth : thereP (ofK l t s) (ofK (l.take (i + 1)) t s) = thereP (ofK l t s) (ofK (l.take i) t s) := by
        rw [e]; unfold thereP; rw [List.any_append]; simp [hk1']
      refine ⟨fun hk2 => ?_, fun hk2 => ?_⟩
      · have hk2' : x.kind = 2 := by simpa using hk2
        obtain ⟨q1, q2⟩ := hg2 hk2'
        have q3 := hga.col hk2'
        refine ⟨⟨q3, q1⟩, by omega, ?_⟩
        have hat : ∀ j : Nat, atX x j = if x.col = (j : Int) then 0 else -1 := fun j => by
          unfold atX
          rw [if_neg hk1']
          by_cases h : x.col = (j : Int)
          · rw [if_pos ⟨hk2', h⟩, if_pos h]
          · rw [if_neg fun q => h q.2, if_neg h]
        have hca : (x.col.toNat : Int) = x.col := by omega
        refine rcS_i (later14_ok (cells := cellsP c (ofK (l.take i) t s)) (k := x.col.toNat) (by rw [hcl]; omega) hA1 (by omega) fun ob2 n2 hn2 hfr2 hA2 => ?_)
        have hset := cellsP_set (c := c) (L := ofK (l.take i) t s) (x := x) (k := x.col.toNat) (by omega) (hgood _) (by rw [hat, if_pos hca.symm]; exact Int.le_refl _) (fun j hj hne => by rw [hat, if_neg (by omega)]; omega)
        rw [hat, if_pos hca.symm] at hset
        have hset : (cellsP c (ofK (l.take i) t s)).set x.col.toNat (laterC (gN (cellsP c (ofK (l.take i) t s)) x.col.toNat) (gN x.vals 0) x) = cellsP c (ofK (l.take i) t s ++ [x]) := hset
        rw [hset, ← e] at hA2
        simp +contextual (maxSteps := 1000000) only [go_sem, ints, intRows, reduceAdd, Nat.reduceBEq, reduceEqDiff, reduceLeDiff, Nat.reduceLT, reduceIte, reduceLE, Int.reduceLT, reduceEq, reduceNeg, reduceToNat, ops, vals, dots, wpC_bl, h0, h1, h2, h3, h10, h11, h9, w1]
        exact ⟨⟨i + 1, rfl, by omega, by rw [hth], hA2⟩, by omega⟩
      · have hk2' : ¬ x.kind = 2 := by simpa using hk2
        have hno : cellsP c (ofK (l.take (i + 1)) t s) = cellsP c (ofK (l.take i) t s) := by
          rw [e]
          refine cellsP_no fun j hj => ?_
          unfold atX
          rw [if_neg hk1', if_neg fun q => hk2' q.1]; omega
        exact ⟨⟨i + 1, rfl, by omega, by rw [hth], by rw [hno]⟩, by omega⟩
  · simp only [decide_eq_false_iff_not] at hge
    obtain rfl : i = l.length := by omega
    rw [List.take_length] at h9 hob ⊢
    rw [thereP_all (k := s) (c := c)]
    refine ⟨fun hf => ?_, fun hf => ?_⟩
    · unfold rowM; rw [hf]; rfl
    have hf : thereM (mdeK s c (ofK l t s)) = true := by simpa using hf
    rw [rowM_cells hf]
    have hgc := hcl (ofK l t s)
    generalize cellsP c (ofK l t s) = R at *
    refine wpC_lp (fun env ob n2 => env 0 = vi c ∧ env 10 = .sl 3 0 c ∧ ob 3 = some ⟨8, R.map celV, none⟩ ∧ 4 ≤ n2 ∧ (∀ id len, env 17 = .sl id 0 len → 4 ≤ id) ∧ ∃ k : Nat, env 18 = vi k ∧ k ≤ c ∧ Own n2 ob (env 17) 3 ((⟨4, 0, s⟩ :: (R.map (·.v)).take k).map vlV)) (fun env _ _ => ((c : Int) - iv (env 18)).toNat) ?_ ?_
    · simp +contextual (maxSteps := 1000000) only [go_sem, ints, intRows, reduceAdd, Nat.reduceBEq, reduceEqDiff, reduceLeDiff, Nat.reduceLT, reduceIte, reduceLE, Int.reduceLT, reduceEq, reduceNeg, reduceToNat, ops, vals, dots, h0, h10, hob, g3, Nat.add_assoc, beq_add, Nat.zero_add, Nat.add_zero]
      refine ⟨?_, 0, rfl, by omega, .inr ⟨by simp, n' + 8, none, by omega, rfl, updO_s _ _ _⟩⟩
      first | omega | (intro id len e; first | omega | (injection e; omega))
    clear h0 h10 hob h9 h1 h2 h3 h11 hge g3 hn'
    rintro env ob n2 ⟨h0, h10, hob, hn2, hid, k, h18, hk, ho⟩
    have w3 : IntKind.i64.wrap ((k : Int) + 1) = ((k + 1 : Nat) : Int) := by rw [w64 (by omega)]; omega
    simp +contextual (maxSteps := 1000000) only [go_sem, ints, intRows, reduceAdd, Nat.reduceBEq, reduceEqDiff, reduceLeDiff, Nat.reduceLT, reduceIte, reduceLE, Int.reduceLT, reduceEq, reduceNeg, reduceToNat, ops, vals, dots, h0, h10, hob, h18, w3, hgc]
    refine ⟨fun hkl => ?_, fun hkl => ?_⟩
    · simp only [decide_eq_true_eq] at hkl
      refine ⟨by omega, by omega, ?_⟩
      have hRl : (R.map (·.v)).length = c := by rw [List.length_map, hgc]
      refine nxS_any (xs := [vlV (gN R k).v]) ho (by omega) rfl rfl (by simp [maxLen]; omega) fun v' ob3 u2 u3 u4 => ?_
      have hob3 := (u3 3 (by omega) (fun len e => by have := hid _ _ e; omega)).trans hob
      simp +contextual (maxSteps := 1000000) only [go_sem, ints, intRows, reduceAdd, Nat.reduceBEq, reduceEqDiff, reduceLeDiff, Nat.reduceLT, reduceIte, reduceLE, Int.reduceLT, reduceEq, reduceNeg, reduceToNat, ops, vals, dots, h0, h10, hob3, h18, w3, hgc]
      refine ⟨⟨fun id len e => ?_, k + 1, rfl, by omega, ?_⟩, by omega⟩
      · rcases u4 with rfl | ⟨len', rfl⟩
        · exact hid _ _ e
        · injection e; omega
      · have hgv : gN (R.map (·.v)) k = (gN R k).v := by rw [gN_eq (by omega), List.getElem_map, ← gN_eq (by omega)]
        rw [take_gN (by omega), hgv, List.map_append]
        exact u2.mono (by omega)
    · simp only [decide_eq_false_iff_not] at hkl
      obtain rfl : k = c := by omega
      rw [List.take_of_length_le (by rw [List.length_map, hgc]; omega)] at ho
      rw [out_own ho (fun ob' => gVals ob' _) [] (fun _ => rfl)]
      show V.im Fl.o (List.map vlV (⟨4, 0, s⟩ :: R.map (·.v))) = _
      rw [List.map_cons, List.map_map]; rfl
end Go.Proofs.YtbojpedklnmidaaGreat.D
end
section
set_option linter.unusedVariables false
set_option linter.unusedSimpArgs false
set_option linter.constructorNameAsVariable false
set_option maxRecDepth 100000

/- The order of operations: the walk of the statement. No condition. -/
namespace Go.Proofs.YtbojpedklnmidaaGreat.D
open Go Go.Proofs
open Nat (reduceAdd reduceEqDiff reduceLeDiff)
open Int (reduceLE reduceEq reduceNeg reduceToNat)
theorem heavyOs_dots {l : List Opx} (h : heavyOs l = false) : ∀ x ∈ l, x.dots.length ≤ 100 := fun x hx => by
  simp only [heavyOs, Bool.or_eq_false_iff] at h
  have := List.any_eq_false.1 h.2 x hx
  have h2 : heavyO x = false := by simpa using this
  simp [heavyO] at h2
  omega
theorem sameL_refl {α : Type} [Inhabited α] {e : α → α → Bool} (h : ∀ x, e x x = true) (a : List α) : sameL e a a = true := sameL_iff.2 ⟨rfl, fun j _ => h _⟩
theorem sameT_refl (a : List (List (List Vl))) : sameL (sameL (sameL eqV)) a a = true := sameL_refl (sameL_refl (sameL_refl fun x => by simp [eqV])) a
end Go.Proofs.YtbojpedklnmidaaGreat.D
end
section
set_option linter.unusedVariables false
set_option linter.unusedSimpArgs false
set_option linter.constructorNameAsVariable false
set_option maxRecDepth 100000

/- The page's tables: the walk. No condition. -/
namespace Go.Proofs.YtbojpedklnmidaaGreat.D
open Go Go.Proofs
open Nat (reduceAdd reduceEqDiff reduceLeDiff)
open Int (reduceLE reduceEq reduceNeg reduceToNat)
def keysV (K : List ByteArray) : V := if K = [] then .z else strs .b K
theorem res_keysV (ob : OB) (m : Nat) (K : List ByteArray) : resV ob (m + 2) (keysV K) = strs .b K := by
  unfold keysV
  split
  · rename_i h; subst h; rfl
  · simp [strs, strV, resV, resFl, Function.comp_def]
theorem len_keysV (K : List ByteArray) : lenOf (keysV K) = some K.length := by
  unfold keysV
  split
  · rename_i h; subst h; rfl
  · simp [strs, lenOf]
theorem imp_key (l : List ByteArray) (s : ByteArray) (K : List ByteArray) (nid : Nat) : imp .fz nid (strs (keyF l s) K) = (strs .b K, []) := by
  rcases keyF_bo l s with e | e <;> rw [e] <;> rfl
def OwnT (n : Nat) (ob : OB) (v : V) (L : List (List (List Vl))) : Prop :=
  ∃ cells, Own n ob v 1 cells ∧ cells.length = L.length ∧ ∀ k, k < L.length → ∃ rv, cells[k]? = some [rv] ∧ Own n ob rv 1 ((gN L k).map fun r => [vals .b r]) ∧ ∀ id len len', v = .sl id 0 len → rv ≠ .sl id 0 len'
theorem OwnT.fr {n n' : Nat} {ob ob' : OB} {v : V} {L : List (List (List Vl))} (h : OwnT n ob v L) (hn : n ≤ n') (hf : ∀ j, j < n → ob' j = ob j) : OwnT n' ob' v L := by
  obtain ⟨cells, h1, h2, h3⟩ := h
  refine ⟨cells, own_fr h1 hn fun j hj _ => hf j hj, h2, fun k hk => ?_⟩
  obtain ⟨rv, r1, r2, r3⟩ := h3 k hk
  exact ⟨rv, r1, own_fr r2 hn fun j hj _ => hf j hj, r3⟩
theorem gOwn1 {n : Nat} {ob : OB} {v : V} {rows : List (List Vl)} (h : Own n ob v 1 (rows.map fun r => [vals .b r])) (m : Nat) : gV ob (m + 3) v = .im .b (rows.map fun r => [vals .b r]) := by
  rcases h with ⟨h1, rfl⟩ | ⟨_, id, c, _, rfl, h4⟩
  · have : rows = [] := by simpa using h1
    subst this; rfl
  · simp only [gV, rowsOf, h4, Option.bind_some, List.length_map]
    rw [if_pos (by simp), List.drop_zero, List.take_of_length_le (by simp)]
    show V.im Fl.b (List.map (fun r => List.map (gV ob (m + 2)) r) (rows.map fun r => [vals .b r])) = _
    rw [List.map_map]
    congr 1
    exact List.map_congr_left fun r _ => by simp only [Function.comp, List.map_cons, List.map_nil, g_vals1]
theorem OwnT.out {n : Nat} {ob : OB} {v : V} {L : List (List (List Vl))} (h : OwnT n ob v L) : retV (outL ob [v]) = .im .o (L.map fun rows => [.im .b (rows.map fun r => [vals .b r])]) := by
  obtain ⟨cells, h1, h4, h5⟩ := h
  rcases h1 with ⟨rfl, rfl⟩ | ⟨hne, id, c, _, rfl, h3⟩
  · have : L = [] := List.eq_nil_of_length_eq_zero (by simpa using h4.symm)
    subst this; rfl
  · have hr : rowsOf ob (.sl id 0 cells.length) = some cells := by
      simp only [rowsOf, h3, Option.bind_some]
      rw [if_pos (by omega), List.drop_zero, List.take_of_length_le (by omega)]
    have hc0 : ¬ cells.length = 0 := fun e => hne (List.eq_nil_of_length_eq_zero e)
    simp only [outL, hr, if_neg hc0, List.map_nil]
    show V.im Fl.o (List.map (fun r => List.map (gV (kill ob id) 6) r) cells) = _
    congr 1
    refine List.ext_getElem (by simp [h4]) fun k h6 h7 => ?_
    simp only [List.getElem_map]
    have hk : k < L.length := by simpa using h7
    obtain ⟨rv, r1, r2, r3⟩ := h5 k hk
    have : cells[k] = [rv] := by
      rw [List.getElem?_eq_getElem (by omega)] at r1; exact Option.some.inj r1
    have hr2 := own_fr (ob' := kill ob id) r2 (Nat.le_refl _) fun j _ e => by
      have hj : j ≠ id := fun q => by subst q; exact r3 _ _ _ rfl e
      simp [kill, hj]
    rw [this, List.map_cons, List.map_nil, gOwn1 hr2 3, gN_eq hk]
theorem keysT_s {t : Nat} {l : List Opx} {i : Nat} (h : i < l.length) : keysT t (l.take (i + 1)) = if (gN l i).table = (t : Int) then keyIns (keysT t (l.take i)) (gN l i).key else keysT t (l.take i) := by
  rw [take_gN h]; unfold keysT; rw [List.foldl_append]; rfl
theorem keyIns_ne (K : List ByteArray) (s : ByteArray) : keyIns K s ≠ [] := by
  unfold keyIns
  split
  · rename_i h; intro e; rw [e] at h; simp at h
  · simp
theorem keyIns_len (K : List ByteArray) (s : ByteArray) : (keyIns K s).length ≤ K.length + 1 := by
  unfold keyIns
  split
  · omega
  · have := tw_le (p := fun k => keyLt k s) K
    unfold keyPos; simp; omega
theorem keysT_len (t : Nat) (l : List Opx) : ∀ i, i ≤ l.length → (keysT t (l.take i)).length ≤ i
  | 0, _ => by simp [keysT]
  | i + 1, hi => by
    have ih := keysT_len t l i (by omega)
    rw [keysT_s (by omega)]
    split
    · have := keyIns_len (keysT t (l.take i)) (gN l i).key; omega
    · omega
set_option maxHeartbeats 4000000 in
theorem RMade14_ok {fl fm : Fl} {n : Int} (f : List (List Int)) (l : List Opx) (hf : formsG f = 0) (hl : l.length ≤ 100) (hck : ∀ x ∈ l, checkG n f x = 0) :
    FnB Tryz.prog 29 [tbs fl f, ops fm l] (.im .o (((List.range f.length).map fun t => seenM (mdesS f l t)).map fun rows => [.im .b (rows.map fun r => [vals .b r])])) := by
  have hF := formsG_cols hf
  refine fnB_intro cf29 (by simp) ?_
  simp +contextual (maxSteps := 1000000) only [go_sem, ints, intRows, reduceAdd, Nat.reduceBEq, reduceEqDiff, reduceLeDiff, Nat.reduceLT, reduceIte, reduceLE, Int.reduceLT, reduceEq, reduceNeg, reduceToNat, ops, vals, dots, c29, tbs]
  refine wpC_lp (fun env ob n' => env 0 = tbs fl f ∧ env 1 = ops fm l ∧ ∃ t : Nat, env 6 = vi t ∧ t ≤ f.length ∧ OwnT n' ob (env 5) ((List.range t).map fun s => seenM (mdesS f l s))) (fun env ob _ => (f.length - iv (env 6)).toNat) ?_ ?_
  · simp +contextual (maxSteps := 1000000) only [go_sem, ints, intRows, reduceAdd, Nat.reduceBEq, reduceEqDiff, reduceLeDiff, Nat.reduceLT, reduceIte, reduceLE, Int.reduceLT, reduceEq, reduceNeg, reduceToNat, ops, vals, dots, tbs]
    exact ⟨0, rfl, by omega, [], Own.nil, rfl, fun k hk => by simp at hk⟩
  rintro env ob n' ⟨h0, h1, t, h6, ht, hO⟩
  have w1 : IntKind.i64.wrap ((t : Int) + 1) = ((t + 1 : Nat) : Int) := by rw [w64 (by omega)]; omega
  simp +contextual (maxSteps := 1000000) only [go_sem, ints, intRows, reduceAdd, Nat.reduceBEq, reduceEqDiff, reduceLeDiff, Nat.reduceLT, reduceIte, reduceLE, Int.reduceLT, reduceEq, reduceNeg, reduceToNat, ops, vals, dots, h0, h1, h6, tbs, w1]
  refine ⟨fun htl => ?_, fun htl => ?_⟩
  · simp only [decide_eq_true_eq] at htl
    refine wpC_lp (fun env' ob' n2 => env' 0 = tbs fl f ∧ env' 1 = ops fm l ∧ env' 6 = vi t ∧ env' 5 = env 5 ∧ n' ≤ n2 ∧ ob' = ob ∧ ∃ i : Nat, env' 8 = vi i ∧ i ≤ l.length ∧ env' 7 = keysV (keysT t (l.take i))) (fun env' _ _ => (l.length - iv (env' 8)).toNat) ?_ ?_
    · simp +contextual (maxSteps := 1000000) only [go_sem, ints, intRows, reduceAdd, Nat.reduceBEq, reduceEqDiff, reduceLeDiff, Nat.reduceLT, reduceIte, reduceLE, Int.reduceLT, reduceEq, reduceNeg, reduceToNat, ops, vals, dots, h0, h1, h6, tbs]
      exact ⟨by omega, 0, rfl, by omega, rfl⟩
    clear h0 h1 h6
    rintro env' ob' n2 ⟨h0, h1, h6, h5, hn2, rfl, i, h8, hi, h7⟩
    have w2 : IntKind.i64.wrap ((i : Int) + 1) = ((i + 1 : Nat) : Int) := by rw [w64 (by omega)]; omega
    simp +contextual (maxSteps := 1000000) only [go_sem, ints, intRows, reduceAdd, Nat.reduceBEq, reduceEqDiff, reduceLeDiff, Nat.reduceLT, reduceIte, reduceLE, Int.reduceLT, reduceEq, reduceNeg, reduceToNat, ops, vals, dots, h0, h1, h6, h5, h7, h8, tbs, w2]
    refine ⟨fun hil => ?_, fun hil => ?_⟩
    · simp only [decide_eq_true_eq] at hil
      have hks := keysT_s (t := t) (show i < l.length by omega)
      have hkl := keysT_len t l i hi
      refine ⟨by omega, fun htb => ⟨by omega, ?_⟩, fun htb => ?_⟩
      · rw [res_keysV]
        refine caS_i (Key14_ok (keysT t (l.take i)) (gN l i).key (by omega)) trivial ?_
        rw [imp_key]
        simp +contextual (maxSteps := 1000000) only [go_sem, ints, intRows, reduceAdd, Nat.reduceBEq, reduceEqDiff, reduceLeDiff, Nat.reduceLT, reduceIte, reduceLE, Int.reduceLT, reduceEq, reduceNeg, reduceToNat, ops, vals, dots, h0, h1, h6, h5, h7, h8, tbs, w2]
        have hne := keyIns_ne (keysT t (l.take i)) (gN l i).key
        have htb' : (gN l i).table = (t : Int) := by simpa using htb
        rw [if_pos htb'] at hks
        exact ⟨⟨by omega, i + 1, rfl, by omega, by rw [hks]; unfold keysV; rw [if_neg hne]⟩, by omega⟩
      · have htb' : ¬ (gN l i).table = (t : Int) := by simpa using htb
        rw [if_neg htb'] at hks
        exact ⟨⟨by omega, i + 1, rfl, by omega, by rw [hks]⟩, by omega⟩
    · simp only [decide_eq_false_iff_not] at hil
      obtain rfl : i = l.length := by omega
      have hkl := keysT_len t l l.length (Nat.le_refl _)
      rw [List.take_length] at h7 hkl
      have hkl2 : lenOf (keysV (keysT t l)) = some (keysT t l).length := len_keysV _
      refine wpC_lp (fun env4 ob4 n4 => env4 0 = tbs fl f ∧ env4 1 = ops fm l ∧ env4 6 = vi t ∧ env4 5 = env 5 ∧ env4 7 = keysV (keysT t l) ∧ n' ≤ n4 ∧ (∀ j, j < n' → ob4 j = ob' j) ∧ ∃ k : Nat, env4 10 = vi k ∧ k ≤ (keysT t l).length ∧ Own n4 ob4 (env4 9) 1 ((((keysT t l).take k).filterMap (seeK (mdesS f l t))).map fun r => [vals .b r]) ∧ ∀ id len, env4 9 = .sl id 0 len → n' ≤ id) (fun env4 _ _ => ((keysT t l).length - iv (env4 10)).toNat) ?_ ?_
      · simp +contextual (maxSteps := 1000000) only [go_sem, ints, intRows, reduceAdd, Nat.reduceBEq, reduceEqDiff, reduceLeDiff, Nat.reduceLT, reduceIte, reduceLE, Int.reduceLT, reduceEq, reduceNeg, reduceToNat, ops, vals, dots, h0, h1, h6, h5, h7, tbs]
        exact ⟨by omega, 0, rfl, by omega, Own.nil, fun id len e => by cases e⟩
      clear h0 h1 h6 h5 h7 h8 w2 hi hil
      rintro env4 ob4 n4 ⟨h0, h1, h6, h5, h7, hn4, hfr4, k, h10, hk, ho, hid⟩
      have w2 : IntKind.i64.wrap ((k : Int) + 1) = ((k + 1 : Nat) : Int) := by rw [w64 (by omega)]; omega
      simp +contextual (maxSteps := 1000000) only [go_sem, ints, intRows, reduceAdd, Nat.reduceBEq, reduceEqDiff, reduceLeDiff, Nat.reduceLT, reduceIte, reduceLE, Int.reduceLT, reduceEq, reduceNeg, reduceToNat, ops, vals, dots, h0, h1, h6, h5, h7, h10, hkl2, tbs, w1, w2]
      refine ⟨fun hkk => ?_, fun hkk => ?_⟩
      · simp only [decide_eq_true_eq] at hkk
        have hkv : keysV (keysT t l) = strs .b (keysT t l) := by
          unfold keysV; rw [if_neg]; intro e; rw [e] at hkk; simp at hkk; omega
        simp +contextual (maxSteps := 1000000) only [go_sem, ints, intRows, reduceAdd, Nat.reduceBEq, reduceEqDiff, reduceLeDiff, Nat.reduceLT, reduceIte, reduceLE, Int.reduceLT, reduceEq, reduceNeg, reduceToNat, ops, vals, dots, h0, h1, h6, h5, h7, h10, hkl2, hkv, strs, tbs, w1, w2]
        have hcl := hF.2 _ (gN_mem (show t < f.length by omega))
        have hgood : ∀ x ∈ l, x.table = (t : Int) → x.key = gN (keysT t l) k → GoodA (gN f t).length x ∧ (x.kind = 2 → x.col < (gN f t).length ∧ x.vals.length = 1) := fun x hx hxt _ => by
          obtain ⟨s, hC⟩ := check_apply (hck x hx)
          have e := hC.tab
          have : s = t := by omega
          subst this
          refine ⟨hC.good, fun h2 => ?_⟩
          have h3 := (checkG_0 (hck x hx)).2.2
          unfold rightX rightO tab0 oz at h3
          simp only [Bool.and_eq_true] at h3
          have h4 := h3.2.2
          rw [if_neg (by omega), if_pos h2] at h4
          simp only [Bool.and_eq_true, decide_eq_true_eq] at h4
          have hst : x.table.toNat = s := by omega
          rw [hst] at h4
          exact ⟨h4.1.1.2, by have := small_len h4.1.2; simpa using this⟩
        have hdots : ∀ x ∈ l, x.dots.length ≤ 1000 := fun x hx => by
          obtain ⟨s, hC⟩ := check_apply (hck x hx)
          have := hC.dots; omega
        refine ⟨by omega, by omega, ?_⟩
        refine caD_i (Made14_row (fm := resFl fm) (gN f t).length t (gN (keysT t l) k) l (by omega) hl hgood hdots) trivial ?_
        have hsee : seeK (mdesS f l t) (gN (keysT t l) k) = if rowM (mdeK (gN (keysT t l) k) (gN f t).length (ofK l t (gN (keysT t l) k))) = [] then none else some (rowM (mdeK (gN (keysT t l) k) (gN f t).length (ofK l t (gN (keysT t l) k)))) := by
          have hmem : gN (keysT t l) k ∈ keysT t l := gN_mem (by omega)
          obtain ⟨x, x1, x2⟩ := ((keysT_from t l [] List.Pairwise.nil).2 (gN (keysT t l) k)).1 hmem |>.resolve_left (by simp)
          have hne : ofK l t (gN (keysT t l) k) ≠ [] := List.ne_nil_of_mem (mem_ofK.2 ⟨x1, x2⟩)
          rw [seeK_at, atK_mdeK, if_neg hne]
          simp only [Option.bind_some]
          cases hth : thereM (mdeK (gN (keysT t l) k) (gN f t).length (ofK l t (gN (keysT t l) k))) with
          | true =>
            rw [if_pos rfl, if_neg]
            unfold rowM; rw [if_pos hth]; simp
          | false =>
            rw [if_neg (by simp), if_pos]
            unfold rowM; rw [if_neg (by rw [hth]; simp)]
        generalize rowM (mdeK (gN (keysT t l) k) (gN f t).length (ofK l t (gN (keysT t l) k))) = R at *
        simp +contextual (maxSteps := 1000000) only [go_sem, ints, intRows, reduceAdd, Nat.reduceBEq, reduceEqDiff, reduceLeDiff, Nat.reduceLT, reduceIte, reduceLE, Int.reduceLT, reduceEq, reduceNeg, reduceToNat, ops, vals, dots, h0, h1, h6, h5, h7, h10, hkl2, hkv, strs, tbs, w1, w2]
        have hfl : ((((keysT t l).take k).filterMap (seeK (mdesS f l t))).length) ≤ k := Nat.le_trans (List.length_filterMap_le _ _) (by rw [List.length_take]; omega)
        have htk : ((keysT t l).take (k + 1)).filterMap (seeK (mdesS f l t)) = ((keysT t l).take k).filterMap (seeK (mdesS f l t)) ++ (if R = [] then [] else [R]) := by
          rw [take_gN (by omega), List.filterMap_append]
          congr 1
          rw [List.filterMap_cons, hsee]
          by_cases hR : R = []
          · rw [if_pos hR, if_pos hR]; rfl
          · rw [if_neg hR, if_neg hR]; rfl
        refine ⟨fun hr => ?_, fun hr => ?_⟩
        · have hR : R ≠ [] := fun e => by rw [e] at hr; simp at hr
          rw [if_neg hR] at htk
          refine nxS_any (xs := [[vals .b R]]) ho (by omega) rfl rfl (by simp [maxLen]; omega) fun v' ob5 u2 u3 u4 => ?_
          simp +contextual (maxSteps := 1000000) only [go_sem, ints, intRows, reduceAdd, Nat.reduceBEq, reduceEqDiff, reduceLeDiff, Nat.reduceLT, reduceIte, reduceLE, Int.reduceLT, reduceEq, reduceNeg, reduceToNat, ops, vals, dots, h0, h1, h6, h5, h7, h10, hkl2, hkv, strs, tbs, w1, w2]
          refine ⟨⟨by omega, fun j hj => ?_, k + 1, rfl, by omega, ?_, fun id len e => ?_⟩, by omega⟩
          · rw [u3 j (by omega) fun len e => by have := hid _ _ e; omega]; exact hfr4 j hj
          · rw [htk, List.map_append]; exact u2.mono (by omega)
          · rcases u4 with rfl | ⟨len', rfl⟩
            · exact hid _ _ e
            · injection e; omega
        · have hR : R = [] := List.eq_nil_of_length_eq_zero (by simp at hr; rw [hr]; rfl)
          rw [if_pos hR, List.append_nil] at htk
          exact ⟨⟨by omega, hfr4, k + 1, rfl, by omega, by rw [htk]; exact ho.mono (by omega), hid⟩, by omega⟩
      · simp only [decide_eq_false_iff_not] at hkk
        obtain rfl : k = (keysT t l).length := by omega
        rw [List.take_length] at ho
        have hseen : (keysT t l).filterMap (seeK (mdesS f l t)) = seenM (mdesS f l t) := by unfold seenM; rw [keysT_sort f t l]
        rw [hseen] at ho
        have hb : ∀ i, opF (.bsl 1 [.z] [0] 1 true) [env4 9] ob4 i = some (.im .b [[env4 9]], []) := fun i => by
          rcases ho with ⟨_, e⟩ | ⟨_, id, c, _, e, _⟩ <;> rw [e] <;> rfl
        rw [hb]
        have hlf : leaf (env4 9) = true := by rcases ho with ⟨_, e⟩ | ⟨_, id, c, _, e, _⟩ <;> rw [e] <;> rfl
        simp +contextual (maxSteps := 1000000) only [go_sem, ints, intRows, reduceAdd, Nat.reduceBEq, reduceEqDiff, reduceLeDiff, Nat.reduceLT, reduceIte, reduceLE, Int.reduceLT, reduceEq, reduceNeg, reduceToNat, ops, vals, dots, h0, h1, h6, h5, h7, h10]
        obtain ⟨cells, p1, p2, p3⟩ := hO.fr (Nat.le_refl _) hfr4
        refine nxS_any (xs := [[env4 9]]) p1 (by omega) rfl (by simp [okRow, hlf]) (by rw [p2]; simp [maxLen]; omega) fun v' ob5 u2 u3 u4 => ?_
        simp +contextual (maxSteps := 1000000) only [go_sem, ints, intRows, reduceAdd, Nat.reduceBEq, reduceEqDiff, reduceLeDiff, Nat.reduceLT, reduceIte, reduceLE, Int.reduceLT, reduceEq, reduceNeg, reduceToNat, ops, vals, dots, h0, h1, h6, h5, h7, h10, w1, tbs]
        have h5id : ∀ id len, env 5 = .sl id 0 len → id < n' := fun id len e => by
          rcases p1 with ⟨_, q⟩ | ⟨_, id2, c, q1, q2, _⟩
          · rw [e] at q; cases q
          · rw [e] at q2; injection q2 with q2; omega
        have h9id : ∀ id len, env4 9 = .sl id 0 len → id < n4 := fun id len e => by
          rcases ho with ⟨_, q⟩ | ⟨_, id2, c, q1, q2, _⟩
          · rw [e] at q; cases q
          · rw [e] at q2; injection q2 with q2; omega
        refine ⟨⟨t + 1, rfl, by omega, cells ++ [[env4 9]], u2.mono (by omega), by simp [p2], fun k2 hk2 => ?_⟩, by omega⟩
        have hlen : ((List.range t).map fun s => seenM (mdesS f l s)).length = t := by simp
        by_cases hkt : k2 < t
        · obtain ⟨rv, r1, r2, r3⟩ := p3 k2 (by omega)
          have e : gN ((List.range (t + 1)).map fun s => seenM (mdesS f l s)) k2 = gN ((List.range t).map fun s => seenM (mdesS f l s)) k2 := by
            rw [gN_eq (by simp; omega), gN_eq (by simp; omega)]; simp
          rw [e]
          have hrid : ∀ id len, rv = .sl id 0 len → id < n' := fun id len e => by
            rcases r2 with ⟨_, q⟩ | ⟨_, id2, c, q1, q2, _⟩
            · rw [e] at q; cases q
            · rw [e] at q2; injection q2 with q2; omega
          refine ⟨rv, by rw [List.getElem?_append_left (by rw [p2, hlen]; omega), r1], own_fr r2 (by omega) fun id hid2 e2 => u3 id (by omega) fun len e3 => r3 _ _ _ e3 e2, fun id len len' e1 e2 => ?_⟩
          rcases u4 with rfl | ⟨len3, rfl⟩
          · exact r3 _ _ _ e1 e2
          · injection e1 with e1
            have := hrid _ _ e2; omega
        · have hk3 : k2 = t := by simp at hk2; omega
          subst hk3
          have e : gN ((List.range (k2 + 1)).map fun s => seenM (mdesS f l s)) k2 = seenM (mdesS f l k2) := by
            rw [gN_eq (by simp)]; simp
          rw [e]
          refine ⟨env4 9, by rw [List.getElem?_append_right (by rw [p2, hlen]; omega), p2, hlen, Nat.sub_self]; rfl, own_fr ho (by omega) fun id hid2 e2 => u3 id (by omega) fun len e3 => by have := h5id _ _ e3; have := hid _ _ e2; omega, fun id len len' e1 e2 => ?_⟩
          have hq1 := hid _ _ e2
          have hq2 := h9id _ _ e2
          rcases u4 with rfl | ⟨len3, rfl⟩
          · have := h5id _ _ e1; omega
          · injection e1 with e1; omega
  · simp only [decide_eq_false_iff_not] at htl
    obtain rfl : t = f.length := by omega
    rw [hO.out, List.map_map]; rfl
end Go.Proofs.YtbojpedklnmidaaGreat.D
end
section
set_option linter.unusedVariables false
set_option linter.unusedSimpArgs false
set_option linter.constructorNameAsVariable false
set_option maxRecDepth 100000

/- Operations twinned: all their slices are one's own. No condition. -/
namespace Go.Proofs.YtbojpedklnmidaaGreat.D
open Go Go.Proofs
open Nat (reduceAdd reduceEqDiff reduceLeDiff)
open Int (reduceLE reduceEq reduceNeg reduceToNat)
def rowZ (y : Opx) (dv vv tv : V) : List V := [vi y.dot.p, vi y.dot.n, dv, vi y.st.p, vi y.st.l, vi y.st.q, vi y.kind, vi y.table, .c (.string y.key), vi y.col, vv, tv]
theorem own_updk {n n' k k' j : Nat} {ob : OB} {v : V} {rows r : List (List V)} {c : Option Nat} {o : Option Ob} (h : Own n ob v k rows) (hn : n ≤ n') (h0 : ob j = some ⟨k', r, c⟩) (hk : k ≠ k') : Own n' (updO ob j o) v k rows := by
  rcases h with h | ⟨h1, id, c2, h2, h3, h4⟩
  · exact .inl h
  · refine .inr ⟨h1, id, c2, by omega, h3, ?_⟩
    rw [updO, if_neg, h4]
    rintro rfl
    rw [h0] at h4
    simp at h4; exact hk h4.1.symm
set_option maxHeartbeats 2000000 in
theorem TwinS_ok {x : Opx} {nid : Nat} {ob : OB} {C : V → OB → Nat → Prop} (h1 : x.deps.length ≤ maxLen) (h2 : x.vals.length ≤ maxLen) (h3 : x.dots.length ≤ maxLen)
    (hC : ∀ dv vv tv ob' n', nid ≤ n' → Own n' ob' dv 1 (x.deps.map fun n => [vi n]) → Own n' ob' vv 3 (x.vals.map vlV) → Own n' ob' tv 2 (x.dots.map dotV) → (∀ j, j < nid → ob' j = ob j) → C (.ag (rowZ x dv vv tv)) ob' n') :
    FnS Tryz.prog 53 [.ag (opV x)] ob nid C := by
  refine fnS_intro cf53 (by simp) ?_
  have nid13 : ∀ k, (nid == nid + (k + 1)) = false := fun k => by simp
  have nid14 : ∀ k, (nid + (k + 1) == nid) = false := fun k => by simp
  simp +contextual (maxSteps := 1000000) only [go_sem, ints, intRows, reduceAdd, Nat.reduceBEq, reduceEqDiff, reduceLeDiff, Nat.reduceLT, reduceIte, reduceLE, Int.reduceLT, reduceEq, reduceNeg, reduceToNat, ops, vals, dots, c53, nid13, nid14, Nat.add_assoc, beq_add, Nat.zero_add, Nat.add_zero]
  first | refine caS_i (CloneInts_ok x.deps h1 .b) (fun ch hch => by obtain ⟨_, _, rfl⟩ := List.mem_map.1 hch; rfl) ?_ | refine caD_i (CloneInts_ok x.deps h1 .b) (fun ch hch => by obtain ⟨_, _, rfl⟩ := List.mem_map.1 hch; rfl) ?_ | refine gC_i (fun _ => CloneInts_ok x.deps h1 .b) (fun ch hch => by obtain ⟨_, _, rfl⟩ := List.mem_map.1 hch; rfl) ?_ | refine gCD_i (fun _ => CloneInts_ok x.deps h1 .b) (fun ch hch => by obtain ⟨_, _, rfl⟩ := List.mem_map.1 hch; rfl) ?_ | refine caE_i (CloneInts_ok x.deps h1 .b) (fun ch hch => by obtain ⟨_, _, rfl⟩ := List.mem_map.1 hch; rfl) ?_
  unfold ints
  refine nxD_own fun dv us1 hv1 => ?_
  simp +contextual (maxSteps := 1000000) only [go_sem, ints, intRows, reduceAdd, Nat.reduceBEq, reduceEqDiff, reduceLeDiff, Nat.reduceLT, reduceIte, reduceLE, Int.reduceLT, reduceEq, reduceNeg, reduceToNat, ops, vals, dots, nid13, nid14, Nat.add_assoc, beq_add, Nat.zero_add, Nat.add_zero]
  first | refine caS_i (CloneVals_ok x.vals h2 .b) (fun ch hch => by obtain ⟨_, _, rfl⟩ := List.mem_map.1 hch; rfl) ?_ | refine caD_i (CloneVals_ok x.vals h2 .b) (fun ch hch => by obtain ⟨_, _, rfl⟩ := List.mem_map.1 hch; rfl) ?_ | refine gC_i (fun _ => CloneVals_ok x.vals h2 .b) (fun ch hch => by obtain ⟨_, _, rfl⟩ := List.mem_map.1 hch; rfl) ?_ | refine gCD_i (fun _ => CloneVals_ok x.vals h2 .b) (fun ch hch => by obtain ⟨_, _, rfl⟩ := List.mem_map.1 hch; rfl) ?_ | refine caE_i (CloneVals_ok x.vals h2 .b) (fun ch hch => by obtain ⟨_, _, rfl⟩ := List.mem_map.1 hch; rfl) ?_
  unfold vals
  refine nxD_own fun vv us2 hv2 => ?_
  simp +contextual (maxSteps := 1000000) only [go_sem, ints, intRows, reduceAdd, Nat.reduceBEq, reduceEqDiff, reduceLeDiff, Nat.reduceLT, reduceIte, reduceLE, Int.reduceLT, reduceEq, reduceNeg, reduceToNat, ops, vals, dots, nid13, nid14, Nat.add_assoc, beq_add, Nat.zero_add, Nat.add_zero]
  first | refine caS_i (CloneDots_ok x.dots h3 .b) (fun ch hch => by obtain ⟨_, _, rfl⟩ := List.mem_map.1 hch; rfl) ?_ | refine caD_i (CloneDots_ok x.dots h3 .b) (fun ch hch => by obtain ⟨_, _, rfl⟩ := List.mem_map.1 hch; rfl) ?_ | refine gC_i (fun _ => CloneDots_ok x.dots h3 .b) (fun ch hch => by obtain ⟨_, _, rfl⟩ := List.mem_map.1 hch; rfl) ?_ | refine gCD_i (fun _ => CloneDots_ok x.dots h3 .b) (fun ch hch => by obtain ⟨_, _, rfl⟩ := List.mem_map.1 hch; rfl) ?_ | refine caE_i (CloneDots_ok x.dots h3 .b) (fun ch hch => by obtain ⟨_, _, rfl⟩ := List.mem_map.1 hch; rfl) ?_
  unfold dots
  refine nxD_own fun tv us3 hv3 => ?_
  have l1 : leaf dv = true := by rcases hv1 with ⟨_, rfl, _⟩ | ⟨_, rfl, _⟩ <;> rfl
  have l2 : leaf vv = true := by rcases hv2 with ⟨_, rfl, _⟩ | ⟨_, rfl, _⟩ <;> rfl
  have l3 : leaf tv = true := by rcases hv3 with ⟨_, rfl, _⟩ | ⟨_, rfl, _⟩ <;> rfl
  have c1 : cellsV dv = [dv] := by rcases hv1 with ⟨_, rfl, _⟩ | ⟨_, rfl, _⟩ <;> rfl
  have c2 : cellsV vv = [vv] := by rcases hv2 with ⟨_, rfl, _⟩ | ⟨_, rfl, _⟩ <;> rfl
  have c3 : cellsV tv = [tv] := by rcases hv3 with ⟨_, rfl, _⟩ | ⟨_, rfl, _⟩ <;> rfl
  simp +contextual (maxSteps := 1000000) only [go_sem, ints, intRows, reduceAdd, Nat.reduceBEq, reduceEqDiff, reduceLeDiff, Nat.reduceLT, reduceIte, reduceLE, Int.reduceLT, reduceEq, reduceNeg, reduceToNat, ops, vals, dots, nid13, nid14, l1, l2, l3, c1, c2, c3, List.cons_append, List.nil_append, Nat.add_assoc, beq_add, Nat.zero_add, Nat.add_zero]
  generalize hob : apps _ (us1 ++ us2 ++ us3) = ob9
  have n1 : ∀ {k m : Nat}, k ≠ m → (nid + k = nid + m) = False := fun h => eq_false (by omega)
  have n2 : ∀ {k : Nat}, k ≠ 0 → (nid + k = nid) = False := fun h => eq_false (by omega)
  have n3 : ∀ {k : Nat}, k ≠ 0 → (nid = nid + k) = False := fun h => eq_false (by omega)
  have F : ob9 nid = some ⟨12, [rowZ x dv vv tv], none⟩ ∧ ob9 (nid + 1) = some ⟨12, [[.c (.int .i64 0), .c (.int .i64 0), .z, .c (.int .i64 0), .c (.int .i64 0), .c (.int .i64 0), .c (.int .i64 0), .c (.int .i64 0), .c (.string ⟨#[]⟩), .c (.int .i64 0), .z, .z]], none⟩ ∧ Own (nid + 17) ob9 dv 1 (x.deps.map fun n => [vi n]) ∧ Own (nid + 17) ob9 vv 3 (x.vals.map vlV) ∧ Own (nid + 17) ob9 tv 2 (x.dots.map dotV) ∧ ∀ j, j < nid → ob9 j = ob j := by
    subst hob
    rcases hv1 with ⟨a1, rfl, rfl⟩ | ⟨a1, rfl, rfl⟩ <;> rcases hv2 with ⟨a2, rfl, rfl⟩ | ⟨a2, rfl, rfl⟩ <;> rcases hv3 with ⟨a3, rfl, rfl⟩ | ⟨a3, rfl, rfl⟩ <;>
      refine ⟨by simp [apps, updO, rowZ], by simp [apps, updO], ?_, ?_, ?_, fun j hj => ?_⟩
    all_goals first
      | exact .inl ⟨a1, rfl⟩
      | exact .inl ⟨a2, rfl⟩
      | exact .inl ⟨a3, rfl⟩
      | exact .inr ⟨a1, _, none, by omega, rfl, by simp [apps, updO]⟩
      | exact .inr ⟨a2, _, none, by omega, rfl, by simp [apps, updO]⟩
      | exact .inr ⟨a3, _, none, by omega, rfl, by simp [apps, updO]⟩
      | (simp only [apps, updO, List.append_nil, List.nil_append, List.cons_append]; repeat rw [if_neg (by omega)])
  clear hob hv1 hv2 hv3
  obtain ⟨F1, F0, F2, F3, F4, F5⟩ := F
  simp +contextual (maxSteps := 1000000) only [go_sem, ints, intRows, reduceAdd, Nat.reduceBEq, reduceEqDiff, reduceLeDiff, Nat.reduceLT, reduceIte, reduceLE, Int.reduceLT, reduceEq, reduceNeg, reduceToNat, ops, vals, dots, F1, F0, rowZ, nid13, nid14, l1, l2, l3, c1, c2, c3, List.cons_append, List.nil_append, Nat.add_assoc, beq_add, Nat.zero_add, Nat.add_zero]
  exact hC dv vv tv _ _ (by omega) (own_updk F2 (by omega) F0 (by decide)) (own_updk F3 (by omega) F0 (by decide)) (own_updk F4 (by omega) F0 (by decide)) fun j hj => by rw [updO, if_neg (by omega)]; exact F5 j hj
def OwnZ (n : Nat) (ob : OB) (v : V) (D : List Opx) : Prop :=
  ∃ rows, Own n ob v 12 rows ∧ rows.length = D.length ∧ ∀ k, k < D.length → ∃ dv vv tv, rows[k]? = some (rowZ (gN D k) dv vv tv) ∧ Own n ob dv 1 ((gN D k).deps.map fun x => [vi x]) ∧ Own n ob vv 3 ((gN D k).vals.map vlV) ∧ Own n ob tv 2 ((gN D k).dots.map dotV)
theorem own_diff {n m k k' id len : Nat} {ob : OB} {v w : V} {rows rows' : List (List V)} (h : Own n ob v k rows) (h' : Own m ob w k' rows') (hk : k ≠ k') (h1 : v = .sl id 0 len) : ∀ len', w ≠ .sl id 0 len' := by
  intro len' e
  rcases h with ⟨_, q⟩ | ⟨_, i, c, _, q, o1⟩
  · rw [h1] at q; cases q
  · rw [h1] at q; injection q with q
    rcases h' with ⟨_, r⟩ | ⟨_, i', c', _, r, o2⟩
    · rw [e] at r; cases r
    · rw [e] at r; injection r with r
      rw [← q, r, o2] at o1
      simp at o1; exact hk o1.1.symm
theorem OwnZ.fr {n n' : Nat} {ob ob' : OB} {v : V} {D : List Opx} (h : OwnZ n ob v D) (hn : n ≤ n') (hf : ∀ j, j < n → ob' j = ob j) : OwnZ n' ob' v D := by
  obtain ⟨rows, h1, h2, h3⟩ := h
  refine ⟨rows, own_fr h1 hn fun j hj _ => hf j hj, h2, fun k hk => ?_⟩
  obtain ⟨dv, vv, tv, r1, r2, r3, r4⟩ := h3 k hk
  exact ⟨dv, vv, tv, r1, own_fr r2 hn fun j hj _ => hf j hj, own_fr r3 hn fun j hj _ => hf j hj, own_fr r4 hn fun j hj _ => hf j hj⟩
theorem OwnZ.app {n n' : Nat} {ob ob' : OB} {v v' dv vv tv : V} {D : List Opx} {rows : List (List V)} {y : Opx} (h1 : Own n ob v 12 rows) (h2 : rows.length = D.length) (h3 : ∀ k, k < D.length → ∃ dv vv tv, rows[k]? = some (rowZ (gN D k) dv vv tv) ∧ Own n ob dv 1 ((gN D k).deps.map fun x => [vi x]) ∧ Own n ob vv 3 ((gN D k).vals.map vlV) ∧ Own n ob tv 2 ((gN D k).dots.map dotV)) (hn : n ≤ n') (hv : Own n' ob' v' 12 (rows ++ [rowZ y dv vv tv])) (d1 : Own n' ob' dv 1 (y.deps.map fun x => [vi x])) (d2 : Own n' ob' vv 3 (y.vals.map vlV)) (d3 : Own n' ob' tv 2 (y.dots.map dotV)) (hf : ∀ id, id < n → (∀ len, v ≠ .sl id 0 len) → ob' id = ob id) : OwnZ n' ob' v' (D ++ [y]) := by
  refine ⟨_, hv, by simp [h2], fun k hk => ?_⟩
  by_cases hkl : k < D.length
  · obtain ⟨dv, vv, tv, r1, r2, r3, r4⟩ := h3 k hkl
    have e : gN (D ++ [y]) k = gN D k := by rw [gN_eq hk, gN_eq hkl, List.getElem_append_left hkl]
    rw [e]
    exact ⟨dv, vv, tv, by rw [List.getElem?_append_left (by omega), r1], own_fr r2 hn fun id hid e => hf id hid (own_diff r2 h1 (by decide) e), own_fr r3 hn fun id hid e => hf id hid (own_diff r3 h1 (by decide) e), own_fr r4 hn fun id hid e => hf id hid (own_diff r4 h1 (by decide) e)⟩
  · have hk2 : k = D.length := by simp at hk; omega
    subst hk2
    have e : gN (D ++ [y]) D.length = y := by rw [gN_eq hk]; simp
    rw [e]
    exact ⟨dv, vv, tv, by rw [List.getElem?_append_right (by omega), h2, Nat.sub_self]; rfl, d1, d2, d3⟩
end Go.Proofs.YtbojpedklnmidaaGreat.D
end
section
set_option linter.unusedVariables false
set_option linter.unusedSimpArgs false
set_option linter.constructorNameAsVariable false
set_option maxRecDepth 100000

/- What a vector has of operations, twinned; operations spoilt. No condition. -/
namespace Go.Proofs.YtbojpedklnmidaaGreat.D
open Go Go.Proofs
open Nat (reduceAdd reduceEqDiff reduceLeDiff)
open Int (reduceLE reduceEq reduceNeg reduceToNat)
set_option maxHeartbeats 2000000 in
theorem OfS_ok {fl fm : Fl} {l : List Opx} {v : List Int} {nid : Nat} {ob : OB} {C : V → OB → Nat → Prop} (hl : l.length ≤ 1000) (h : ∀ x ∈ l, OkO x)
    (hC : ∀ w ob' n', nid ≤ n' → OwnZ n' ob' w (ofT l v) → (∀ j, j < nid → ob' j = ob j) → C w ob' n') : FnS Tryz.prog 20 [ops fl l, ints fm v] ob nid C := by
  refine fnS_intro cf20 (by simp) ?_
  simp +contextual (maxSteps := 1000000) only [go_sem, ints, intRows, reduceAdd, Nat.reduceBEq, reduceEqDiff, reduceLeDiff, Nat.reduceLT, reduceIte, reduceLE, Int.reduceLT, reduceEq, reduceNeg, reduceToNat, ops, vals, dots, c20, ops]
  refine wpC_lp (fun env ob' n' => env 1 = ints fm v ∧ env 8 = ops fl l ∧ env 9 = vi l.length ∧ nid ≤ n' ∧ (∀ j, j < nid → ob' j = ob j) ∧ ∃ i : Nat, env 10 = vi i ∧ i ≤ l.length ∧ OwnZ n' ob' (env 5) (ofT (l.take i) v) ∧ ∀ id len, env 5 = .sl id 0 len → nid ≤ id) (fun env ob _ => (l.length - iv (env 10)).toNat) ?_ ?_
  · simp +contextual (maxSteps := 1000000) only [go_sem, ints, intRows, reduceAdd, Nat.reduceBEq, reduceEqDiff, reduceLeDiff, Nat.reduceLT, reduceIte, reduceLE, Int.reduceLT, reduceEq, reduceNeg, reduceToNat, ops, vals, dots, ops]
    refine ⟨by omega, 0, rfl, by omega, ⟨[], Own.nil, rfl, fun k hk => by simp [ofT] at hk⟩, fun id len e => by cases e⟩
  rintro env ob1 n' ⟨h1, h8, h9, hn', hfr, i, h10, hi, ho, hid⟩
  have w1 : IntKind.i64.wrap ((i : Int) + 1) = ((i + 1 : Nat) : Int) := by rw [w64 (by omega)]; omega
  simp +contextual (maxSteps := 1000000) only [go_sem, ints, intRows, reduceAdd, Nat.reduceBEq, reduceEqDiff, reduceLeDiff, Nat.reduceLT, reduceIte, reduceLE, Int.reduceLT, reduceEq, reduceNeg, reduceToNat, ops, vals, dots, h1, h8, h9, h10, ops]
  refine ⟨fun hlt => ?_, fun hge => ?_⟩
  · simp only [decide_eq_true_eq] at hlt
    have hx := h _ (gN_mem (show i < l.length by omega))
    have hfl : (ofT (l.take i) v).length ≤ i := by
      have := filter_len (p := fun x => hasB v x.dot) (l := l.take i)
      rw [List.length_take] at this
      unfold ofT; omega
    repeat (refine And.intro (by omega) ?_)
    first | refine caS_i (Has_ok v (gN l i).dot) trivial ?_ | refine caD_i (Has_ok v (gN l i).dot) trivial ?_ | refine gC_i (fun _ => Has_ok v (gN l i).dot) trivial ?_ | refine gCD_i (fun _ => Has_ok v (gN l i).dot) trivial ?_ | refine caE_i (Has_ok v (gN l i).dot) trivial ?_
    simp +contextual (maxSteps := 1000000) only [go_sem, ints, intRows, reduceAdd, Nat.reduceBEq, reduceEqDiff, reduceLeDiff, Nat.reduceLT, reduceIte, reduceLE, Int.reduceLT, reduceEq, reduceNeg, reduceToNat, ops, vals, dots, h1, h8, h9, h10, ops, w1, Nat.add_assoc, beq_add, Nat.zero_add, Nat.add_zero]
    have hfr2 : ∀ (o1 o2 : Option Ob) j, j < n' → updO (updO ob1 (n' + 3) o1) (n' + 3) o2 j = ob1 j := fun o1 o2 j hj => by rw [updO, if_neg (by omega), updO, if_neg (by omega)]
    refine ⟨fun hb => ?_, fun hb => ?_⟩
    · refine rcS_i (TwinS_ok hx.d hx.v hx.s fun dv vv tv ob3 n3 hn3 g1 g2 g3 hfr3 => ?_)
      have hfr4 : ∀ j, j < n' → ob3 j = ob1 j := fun j hj => (hfr3 j (by omega)).trans (hfr2 _ _ j hj)
      have lf : ∀ {k : Nat} {v : V} {r : List (List V)}, Own n3 ob3 v k r → leaf v = true := fun h => by rcases h with ⟨_, rfl⟩ | ⟨_, _, _, _, rfl, _⟩ <;> rfl
      simp +contextual (maxSteps := 1000000) only [go_sem, ints, intRows, reduceAdd, Nat.reduceBEq, reduceEqDiff, reduceLeDiff, Nat.reduceLT, reduceIte, reduceLE, Int.reduceLT, reduceEq, reduceNeg, reduceToNat, ops, vals, dots, h1, h8, h9, h10, w1, lf g1, lf g2, lf g3, Nat.add_assoc, beq_add, Nat.zero_add, Nat.add_zero]
      rw [op_bsl_r (k := 12) _ _ ?hz ?hk]
      case hz => rfl
      case hk => unfold rowZ okRow; simp only [List.all_cons, List.all_nil, lf g1, lf g2, lf g3]; rfl
      simp +contextual (maxSteps := 1000000) only [go_sem, ints, intRows, reduceAdd, Nat.reduceBEq, reduceEqDiff, reduceLeDiff, Nat.reduceLT, reduceIte, reduceLE, Int.reduceLT, reduceEq, reduceNeg, reduceToNat, ops, vals, dots, h1, h8, h9, h10, w1]
      obtain ⟨rows, p1, p2, p3⟩ := ho.fr (Nat.le_refl _) hfr4
      refine nxS_any (xs := [rowZ (gN l i) dv vv tv]) p1 (by omega) rfl (by unfold rowZ; simp only [okRow, List.all_cons, List.all_nil, lf g1, lf g2, lf g3]; rfl) (by rw [p2]; simp; unfold maxLen; omega) fun v' ob5 u2 u3 u4 => ?_
      have hlt5 : ∀ id len, env 5 = .sl id 0 len → id < n' := fun id len e => by
        rcases p1 with ⟨_, q⟩ | ⟨_, id2, c, q1, q2, _⟩
        · rw [e] at q; cases q
        · rw [e] at q2; injection q2 with q2; omega
      simp +contextual (maxSteps := 1000000) only [go_sem, ints, intRows, reduceAdd, Nat.reduceBEq, reduceEqDiff, reduceLeDiff, Nat.reduceLT, reduceIte, reduceLE, Int.reduceLT, reduceEq, reduceNeg, reduceToNat, ops, vals, dots, h1, h8, h9, h10, w1]
      refine ⟨⟨by omega, fun j hj => ?_, i + 1, rfl, by omega, ?_, fun id len e => ?_⟩, by omega⟩
      · rw [u3 j (by omega) fun len e => by have := hid _ _ e; omega, hfr4 j (by omega), hfr j hj]
      · have : ofT (l.take (i + 1)) v = ofT (l.take i) v ++ [gN l i] := by unfold ofT; rw [filter_take (by omega), if_pos hb]
        rw [this]
        have key : ∀ {k : Nat} {w : V} {r : List (List V)}, k ≠ 12 → Own n3 ob3 w k r → Own (n3 + 3) ob5 w k r := fun hk hw => own_fr hw (by omega) fun id hid2 e => u3 id (by omega) (own_diff hw p1 hk e)
        exact OwnZ.app p1 p2 p3 (by omega) (u2.mono (by omega)) ((key (by decide) g1).mono (by omega)) ((key (by decide) g2).mono (by omega)) ((key (by decide) g3).mono (by omega)) fun id hid2 hne => u3 id (by omega) hne
      · rcases u4 with rfl | ⟨len', rfl⟩
        · exact hid _ _ e
        · injection e; omega
    · refine ⟨⟨by omega, fun j hj => by rw [hfr2 _ _ j (by omega)]; exact hfr j hj, i + 1, rfl, by omega, ?_, hid⟩, by omega⟩
      have : ofT (l.take (i + 1)) v = ofT (l.take i) v := by unfold ofT; rw [filter_take (by omega), if_neg (by simpa using hb), List.append_nil]
      rw [this]
      exact ho.fr (by omega) (hfr2 _ _)
  · simp only [decide_eq_false_iff_not] at hge
    obtain rfl : i = l.length := by omega
    rw [List.take_length] at ho
    exact hC _ _ _ (by omega) (ho.fr (by omega) fun _ _ => rfl) hfr
structure SameZ (ob ob' : OB) : Prop where
  i : ∀ id c (cur : List Int), ob id = some ⟨1, cur.map fun x => [vi x], c⟩ → ∃ cur' : List Int, cur'.length = cur.length ∧ ob' id = some ⟨1, cur'.map fun x => [vi x], c⟩
  v : ∀ id c (cur : List Vl), ob id = some ⟨3, cur.map vlV, c⟩ → ∃ cur' : List Vl, cur'.length = cur.length ∧ ob' id = some ⟨3, cur'.map vlV, c⟩
  d : ∀ id c (cur : List Dt), ob id = some ⟨2, cur.map dotV, c⟩ → ∃ cur' : List Dt, cur'.length = cur.length ∧ ob' id = some ⟨2, cur'.map dotV, c⟩
theorem SameZ.rfl' (ob : OB) : SameZ ob ob := ⟨fun _ _ c h => ⟨c, rfl, h⟩, fun _ _ c h => ⟨c, rfl, h⟩, fun _ _ c h => ⟨c, rfl, h⟩⟩
theorem SameZ.frame {a b : OB} (h : ∀ id k r c, a id = some ⟨k, r, c⟩ → k ≠ 12 → b id = a id) : SameZ a b :=
  ⟨fun id c cur e => ⟨cur, rfl, (h id _ _ _ e (by decide)).trans e⟩, fun id c cur e => ⟨cur, rfl, (h id _ _ _ e (by decide)).trans e⟩, fun id c cur e => ⟨cur, rfl, (h id _ _ _ e (by decide)).trans e⟩⟩
theorem SpoilI_ok {v : V} {l : List Int} {n nid : Nat} {ob : OB} {C : V → OB → Nat → Prop} (h : Own n ob v 1 (l.map fun n => [vi n])) (hn : n ≤ nid) (hl : l.length ≤ maxLen)
    (hC : ∀ ob' n', nid ≤ n' → SameZ ob ob' → (∀ id r c, ob id = some ⟨12, r, c⟩ → ob' id = ob id) → C (.tp []) ob' n') : FnS Tryz.prog 61 [v] ob nid C := by
  unfold maxLen at hl
  refine fnS_intro cf61 (by simp) ?_
  simp +contextual (maxSteps := 1000000) only [go_sem, ints, intRows, reduceAdd, Nat.reduceBEq, reduceEqDiff, reduceLeDiff, Nat.reduceLT, reduceIte, reduceLE, Int.reduceLT, reduceEq, reduceNeg, reduceToNat, ops, vals, dots, c61]
  rcases h with ⟨h1, rfl⟩ | ⟨h1, id, cap, hid, rfl, hob⟩
  · refine wpC_lp (fun env ob' n' => env 0 = .z ∧ env 2 = vi 0 ∧ ob' = ob ∧ nid ≤ n') (fun env ob _ => 0) ?_ ?_
    · simp +contextual (maxSteps := 1000000) only [go_sem, ints, intRows, reduceAdd, Nat.reduceBEq, reduceEqDiff, reduceLeDiff, Nat.reduceLT, reduceIte, reduceLE, Int.reduceLT, reduceEq, reduceNeg, reduceToNat, ops, vals, dots]
      exact Nat.le_succ _
    rintro env ob' n' ⟨h0, h2, rfl, hn'⟩
    simp +contextual (maxSteps := 1000000) only [go_sem, ints, intRows, reduceAdd, Nat.reduceBEq, reduceEqDiff, reduceLeDiff, Nat.reduceLT, reduceIte, reduceLE, Int.reduceLT, reduceEq, reduceNeg, reduceToNat, ops, vals, dots, h0, h2]
    exact hC _ _ (by omega) (.rfl' _) fun _ _ _ _ => rfl
  · have hl0 : (l.map fun n => [vi n]).length = l.length := by simp
    rw [hl0]
    refine wpC_lp (fun env ob' n' => env 0 = .sl id 0 l.length ∧ (∀ j, j ≠ id → ob' j = ob j) ∧ nid ≤ n' ∧ ∃ (i : Nat) (cur : List Int), env 2 = vi i ∧ i ≤ l.length ∧ ob' id = some ⟨1, cur.map fun n => [vi n], cap⟩ ∧ cur.length = l.length) (fun env ob _ => (l.length - iv (env 2)).toNat) ?_ ?_
    · simp +contextual (maxSteps := 1000000) only [go_sem, ints, intRows, reduceAdd, Nat.reduceBEq, reduceEqDiff, reduceLeDiff, Nat.reduceLT, reduceIte, reduceLE, Int.reduceLT, reduceEq, reduceNeg, reduceToNat, ops, vals, dots]
      exact ⟨by omega, 0, l, rfl, by omega, hob, rfl⟩
    rintro env ob' n' ⟨h0, hfr, hn', i, cur, h2, hi, hob', hcl⟩
    simp +contextual (maxSteps := 1000000) only [go_sem, ints, intRows, reduceAdd, Nat.reduceBEq, reduceEqDiff, reduceLeDiff, Nat.reduceLT, reduceIte, reduceLE, Int.reduceLT, reduceEq, reduceNeg, reduceToNat, ops, vals, dots, h0, h2, hob']
    refine ⟨fun hlt => ?_, fun hge => ?_⟩
    · simp at hlt
      refine ⟨by omega, by omega, ⟨fun j hj => ?_, by omega, i + 1, _, ?_, by omega, rfl, by simpa using hcl⟩, ?_⟩
      · simp only [updO, hj, if_false]; exact hfr j hj
      · rw [w64 (by omega)]; simp
      · rw [w64 (by omega)]; omega
    · refine hC _ _ (by omega) ⟨fun j c cur2 e => ?_, fun j c cur2 e => ?_, fun j c cur2 e => ?_⟩ fun j r c e => ?_
      · by_cases hj : j = id
        · subst hj; rw [hob] at e; simp at e
          exact ⟨cur, by rw [hcl]; have := congrArg List.length e.1; simpa using this, by rw [hob', e.2]⟩
        · exact ⟨cur2, rfl, (hfr j hj).trans e⟩
      · by_cases hj : j = id
        · subst hj; rw [hob] at e; simp at e
        · exact ⟨cur2, rfl, (hfr j hj).trans e⟩
      · by_cases hj : j = id
        · subst hj; rw [hob] at e; simp at e
        · exact ⟨cur2, rfl, (hfr j hj).trans e⟩
      · by_cases hj : j = id
        · subst hj; rw [hob] at e; simp at e
        · exact hfr j hj
theorem SpoilV_ok {v : V} {l : List Vl} {n nid : Nat} {ob : OB} {C : V → OB → Nat → Prop} (h : Own n ob v 3 (l.map vlV)) (hn : n ≤ nid) (hl : l.length ≤ maxLen)
    (hC : ∀ ob' n', nid ≤ n' → SameZ ob ob' → (∀ id r c, ob id = some ⟨12, r, c⟩ → ob' id = ob id) → C (.tp []) ob' n') : FnS Tryz.prog 62 [v] ob nid C := by
  unfold maxLen at hl
  refine fnS_intro cf62 (by simp) ?_
  simp +contextual (maxSteps := 1000000) only [go_sem, ints, intRows, reduceAdd, Nat.reduceBEq, reduceEqDiff, reduceLeDiff, Nat.reduceLT, reduceIte, reduceLE, Int.reduceLT, reduceEq, reduceNeg, reduceToNat, ops, vals, dots, c62]
  rcases h with ⟨h1, rfl⟩ | ⟨h1, id, cap, hid, rfl, hob⟩
  · refine wpC_lp (fun env ob' n' => env 0 = .z ∧ env 2 = vi 0 ∧ ob' = ob ∧ nid ≤ n') (fun env ob _ => 0) ?_ ?_
    · simp +contextual (maxSteps := 1000000) only [go_sem, ints, intRows, reduceAdd, Nat.reduceBEq, reduceEqDiff, reduceLeDiff, Nat.reduceLT, reduceIte, reduceLE, Int.reduceLT, reduceEq, reduceNeg, reduceToNat, ops, vals, dots]
      exact Nat.le_succ _
    rintro env ob' n' ⟨h0, h2, rfl, hn'⟩
    simp +contextual (maxSteps := 1000000) only [go_sem, ints, intRows, reduceAdd, Nat.reduceBEq, reduceEqDiff, reduceLeDiff, Nat.reduceLT, reduceIte, reduceLE, Int.reduceLT, reduceEq, reduceNeg, reduceToNat, ops, vals, dots, h0, h2]
    exact hC _ _ (by omega) (.rfl' _) fun _ _ _ _ => rfl
  · have hl0 : (l.map vlV).length = l.length := by simp
    rw [hl0]
    refine wpC_lp (fun env ob' n' => env 0 = .sl id 0 l.length ∧ (∀ j, j ≠ id → ob' j = ob j) ∧ nid ≤ n' ∧ ∃ (i : Nat) (cur : List Vl), env 2 = vi i ∧ i ≤ l.length ∧ ob' id = some ⟨3, cur.map vlV, cap⟩ ∧ cur.length = l.length) (fun env ob _ => (l.length - iv (env 2)).toNat) ?_ ?_
    · simp +contextual (maxSteps := 1000000) only [go_sem, ints, intRows, reduceAdd, Nat.reduceBEq, reduceEqDiff, reduceLeDiff, Nat.reduceLT, reduceIte, reduceLE, Int.reduceLT, reduceEq, reduceNeg, reduceToNat, ops, vals, dots]
      exact ⟨by omega, 0, l, rfl, by omega, hob, rfl⟩
    rintro env ob' n' ⟨h0, hfr, hn', i, cur, h2, hi, hob', hcl⟩
    have w1 : IntKind.i64.wrap ((i : Int) + 1) = ((i + 1 : Nat) : Int) := by rw [w64 (by omega)]; omega
    simp +contextual (maxSteps := 1000000) only [go_sem, ints, intRows, reduceAdd, Nat.reduceBEq, reduceEqDiff, reduceLeDiff, Nat.reduceLT, reduceIte, reduceLE, Int.reduceLT, reduceEq, reduceNeg, reduceToNat, ops, vals, dots, h0, h2, hob', w1]
    have hms : ∀ x : Vl, (List.map vlV cur).set i (vlV x) = (cur.set i x).map vlV := fun x => by rw [List.map_set]
    refine ⟨fun hlt => ?_, fun hge => ?_⟩
    · simp only [decide_eq_true_eq] at hlt
      refine ⟨by omega, by omega, ⟨fun j hj => by rw [updO, if_neg hj]; exact hfr j hj, by omega, i + 1, cur.set i ⟨9, -7, ⟨#[]⟩⟩, rfl, by omega, ?_, by rw [List.length_set]; exact hcl⟩, by omega⟩
      rw [← hms]; rfl
    · refine hC _ _ (by omega) ⟨fun j c cur2 e => ?_, fun j c cur2 e => ?_, fun j c cur2 e => ?_⟩ fun j r c e => ?_
      · by_cases hj : j = id
        · subst hj; rw [hob] at e; simp at e
        · exact ⟨cur2, rfl, (hfr j hj).trans e⟩
      · by_cases hj : j = id
        · subst hj; rw [hob] at e
          injection e with e
          injection e with _ e1 e2
          exact ⟨cur, by rw [hcl]; simpa using congrArg List.length e1, by rw [hob', e2]⟩
        · exact ⟨cur2, rfl, (hfr j hj).trans e⟩
      · by_cases hj : j = id
        · subst hj; rw [hob] at e; simp at e
        · exact ⟨cur2, rfl, (hfr j hj).trans e⟩
      · by_cases hj : j = id
        · subst hj; rw [hob] at e; simp at e
        · exact hfr j hj
def RowsZ (n : Nat) (ob : OB) (rows : List (List V)) : Prop :=
  ∀ k, k < rows.length → ∃ (y : Opx) (dv vv tv : V) (a : List Int) (b : List Vl) (d : List Dt), rows[k]? = some (rowZ y dv vv tv) ∧ Own n ob dv 1 (a.map fun x => [vi x]) ∧ Own n ob vv 3 (b.map vlV) ∧ Own n ob tv 2 (d.map dotV) ∧ a.length ≤ 100000 ∧ b.length ≤ 100000 ∧ d.length ≤ 100000
theorem RowsZ.same {n : Nat} {ob ob' : OB} {rows : List (List V)} (h : RowsZ n ob rows) (hs : SameZ ob ob') : RowsZ n ob' rows := fun k hk => by
  obtain ⟨y, dv, vv, tv, a, b, d, e, h1, h2, h3, l1, l2, l3⟩ := h k hk
  have g1 : ∃ a' : List Int, a'.length = a.length ∧ Own n ob' dv 1 (a'.map fun x => [vi x]) := by
    rcases h1 with ⟨q1, q2⟩ | ⟨q1, id, c, q2, q3, q4⟩
    · exact ⟨a, rfl, .inl ⟨q1, q2⟩⟩
    · obtain ⟨a', r1, r2⟩ := hs.i id c a q4
      exact ⟨a', r1, .inr ⟨fun e => q1 (by have := congrArg List.length e; simp [r1] at this; rw [this]; rfl), id, c, q2, by rw [q3, List.length_map, List.length_map, r1], r2⟩⟩
  have g2 : ∃ b' : List Vl, b'.length = b.length ∧ Own n ob' vv 3 (b'.map vlV) := by
    rcases h2 with ⟨q1, q2⟩ | ⟨q1, id, c, q2, q3, q4⟩
    · exact ⟨b, rfl, .inl ⟨q1, q2⟩⟩
    · obtain ⟨a', r1, r2⟩ := hs.v id c b q4
      exact ⟨a', r1, .inr ⟨fun e => q1 (by have := congrArg List.length e; simp [r1] at this; rw [this]; rfl), id, c, q2, by rw [q3, List.length_map, List.length_map, r1], r2⟩⟩
  have g3 : ∃ d' : List Dt, d'.length = d.length ∧ Own n ob' tv 2 (d'.map dotV) := by
    rcases h3 with ⟨q1, q2⟩ | ⟨q1, id, c, q2, q3, q4⟩
    · exact ⟨d, rfl, .inl ⟨q1, q2⟩⟩
    · obtain ⟨a', r1, r2⟩ := hs.d id c d q4
      exact ⟨a', r1, .inr ⟨fun e => q1 (by have := congrArg List.length e; simp [r1] at this; rw [this]; rfl), id, c, q2, by rw [q3, List.length_map, List.length_map, r1], r2⟩⟩
  obtain ⟨a', x1, y1⟩ := g1
  obtain ⟨b', x2, y2⟩ := g2
  obtain ⟨d', x3, y3⟩ := g3
  exact ⟨y, dv, vv, tv, a', b', d', e, y1, y2, y3, by omega, by omega, by omega⟩
theorem SameZ.updD {ob : OB} {X : Nat} {c : Option Nat} {cur cur' : List Dt} (hX : ob X = some ⟨2, cur.map dotV, c⟩) (hl : cur'.length = cur.length) : SameZ ob (updO ob X (some ⟨2, cur'.map dotV, c⟩)) := by
  refine ⟨fun j c2 cur2 e => ?_, fun j c2 cur2 e => ?_, fun j c2 cur2 e => ?_⟩
  · by_cases hj : j = X
    · subst hj; rw [hX] at e; simp at e
    · exact ⟨cur2, rfl, by rw [updO, if_neg hj]; exact e⟩
  · by_cases hj : j = X
    · subst hj; rw [hX] at e; simp at e
    · exact ⟨cur2, rfl, by rw [updO, if_neg hj]; exact e⟩
  · by_cases hj : j = X
    · subst hj; rw [hX] at e
      injection e with e
      injection e with _ e1 e2
      exact ⟨cur', by rw [hl]; simpa using congrArg List.length e1, by rw [updO_s, e2]⟩
    · exact ⟨cur2, rfl, by rw [updO, if_neg hj]; exact e⟩
@[go_sem] theorem rowZ_len (y : Opx) (dv vv tv : V) : (rowZ y dv vv tv).length = 12 := (rfl)
set_option maxHeartbeats 2000000 in
theorem SpoilOps_ok {v : V} {rows0 : List (List V)} {n nid : Nat} {ob : OB} {C : V → OB → Nat → Prop} (h : Own n ob v 12 rows0) (hr : RowsZ n ob rows0) (hn : n ≤ nid) (hl : rows0.length ≤ 100000)
    (hC : ∀ ob' n', nid ≤ n' → C (.tp []) ob' n') : FnS Tryz.prog 27 [v] ob nid C := by
  refine fnS_intro cf27 (by simp) ?_
  simp +contextual (maxSteps := 1000000) only [go_sem, ints, intRows, reduceAdd, Nat.reduceBEq, reduceEqDiff, reduceLeDiff, Nat.reduceLT, reduceIte, reduceLE, Int.reduceLT, reduceEq, reduceNeg, reduceToNat, ops, vals, dots, c27]
  rcases h with ⟨h1, rfl⟩ | ⟨h1, O, cap, hid, rfl, hob⟩
  · refine wpC_lp (fun env ob' n' => env 0 = .z ∧ env 2 = vi 0 ∧ nid ≤ n') (fun env ob _ => 0) ?_ ?_
    · simp +contextual (maxSteps := 1000000) only [go_sem, ints, intRows, reduceAdd, Nat.reduceBEq, reduceEqDiff, reduceLeDiff, Nat.reduceLT, reduceIte, reduceLE, Int.reduceLT, reduceEq, reduceNeg, reduceToNat, ops, vals, dots]
      omega
    rintro env ob' n' ⟨h0, h2, hn'⟩
    simp +contextual (maxSteps := 1000000) only [go_sem, ints, intRows, reduceAdd, Nat.reduceBEq, reduceEqDiff, reduceLeDiff, Nat.reduceLT, reduceIte, reduceLE, Int.reduceLT, reduceEq, reduceNeg, reduceToNat, ops, vals, dots, h0, h2]
    exact hC _ _ (by omega)
  refine wpC_lp (fun env ob' n' => env 0 = .sl O 0 rows0.length ∧ nid ≤ n' ∧ ∃ (i : Nat) (rows : List (List V)), env 2 = vi i ∧ i ≤ rows0.length ∧ rows.length = rows0.length ∧ ob' O = some ⟨12, rows, cap⟩ ∧ RowsZ n ob' rows) (fun env ob _ => (rows0.length - iv (env 2)).toNat) ?_ ?_
  · simp +contextual (maxSteps := 1000000) only [go_sem, ints, intRows, reduceAdd, Nat.reduceBEq, reduceEqDiff, reduceLeDiff, Nat.reduceLT, reduceIte, reduceLE, Int.reduceLT, reduceEq, reduceNeg, reduceToNat, ops, vals, dots]
    exact ⟨by omega, 0, rows0, rfl, by omega, rfl, hob, hr⟩
  rintro env ob1 n1 ⟨h0, hn1, i, rows, h2, hi, hlen, hO, hR⟩
  have w1 : IntKind.i64.wrap ((i : Int) + 1) = ((i + 1 : Nat) : Int) := by rw [w64 (by omega)]; omega
  simp +contextual (maxSteps := 1000000) only [go_sem, ints, intRows, reduceAdd, Nat.reduceBEq, reduceEqDiff, reduceLeDiff, Nat.reduceLT, reduceIte, reduceLE, Int.reduceLT, reduceEq, reduceNeg, reduceToNat, ops, vals, dots, h0, h2, hO, w1]
  refine ⟨fun hlt => ?_, fun hge => hC _ _ (by omega)⟩
  simp only [decide_eq_true_eq] at hlt
  obtain ⟨y, dv, vv, tv, a, b, d, hrow, g1, g2, g3, l1, l2, l3⟩ := hR i (by omega)
  simp +contextual (maxSteps := 1000000) only [go_sem, ints, intRows, reduceAdd, Nat.reduceBEq, reduceEqDiff, reduceLeDiff, Nat.reduceLT, reduceIte, reduceLE, Int.reduceLT, reduceEq, reduceNeg, reduceToNat, ops, vals, dots, h0, h2, hO, hrow, rowZ, w1, hlen]
  refine ⟨by omega, ?_⟩
  refine rcS_i (SpoilI_ok g1 (by omega) (by unfold maxLen; omega) fun ob2 n2 hn2 hs2 h12 => ?_)
  have hO2 := (h12 O _ _ hO).trans hO
  have hR2 := hR.same hs2
  clear g1 g2 g3 hrow hs2 h12 hO hR
  obtain ⟨y, dv, vv, tv, a, b, d, hrow, g1, g2, g3, l1, l2, l3⟩ := hR2 i (by omega)
  simp +contextual (maxSteps := 1000000) only [go_sem, ints, intRows, reduceAdd, Nat.reduceBEq, reduceEqDiff, reduceLeDiff, Nat.reduceLT, reduceIte, reduceLE, Int.reduceLT, reduceEq, reduceNeg, reduceToNat, ops, vals, dots, h0, h2, hO2, hrow, rowZ, w1, hlen]
  refine ⟨by omega, ?_⟩
  refine rcS_i (SpoilV_ok g2 (by omega) (by unfold maxLen; omega) fun ob3 n3 hn3 hs3 h13 => ?_)
  have hO3 := (h13 O _ _ hO2).trans hO2
  have hR3 := hR2.same hs3
  clear g1 g2 g3 hrow hs3 h13 hO2 hR2
  obtain ⟨y, dv, vv, tv, a, b, d, hrow, g1, g2, g3, l1, l2, l3⟩ := hR3 i (by omega)
  simp +contextual (maxSteps := 1000000) only [go_sem, ints, intRows, reduceAdd, Nat.reduceBEq, reduceEqDiff, reduceLeDiff, Nat.reduceLT, reduceIte, reduceLE, Int.reduceLT, reduceEq, reduceNeg, reduceToNat, ops, vals, dots, h0, h2, hO3, hrow, rowZ, w1, hlen]
  refine wpC_lp (fun env' ob' n' => env' 0 = .sl O 0 rows0.length ∧ env' 2 = vi i ∧ nid ≤ n' ∧ ob' O = some ⟨12, rows, cap⟩ ∧ RowsZ n ob' rows ∧ ∃ k : Nat, env' 3 = vi k ∧ k ≤ d.length ∧ ∃ d' : List Dt, d'.length = d.length ∧ Own n ob' tv 2 (d'.map dotV)) (fun env' ob _ => (d.length - iv (env' 3)).toNat) ?_ ?_
  · simp +contextual (maxSteps := 1000000) only [go_sem, ints, intRows, reduceAdd, Nat.reduceBEq, reduceEqDiff, reduceLeDiff, Nat.reduceLT, reduceIte, reduceLE, Int.reduceLT, reduceEq, reduceNeg, reduceToNat, ops, vals, dots, h0, h2, hO3]
    exact ⟨by omega, hR3, 0, rfl, by omega, d, rfl, g3⟩
  clear hO3 hR3 h0 h2 g3
  rintro env' ob4 n4 ⟨h0, h2, hn4, hO4, hR4, k, h3, hk, d', hd', g3⟩
  have w2 : IntKind.i64.wrap ((k : Int) + 1) = ((k + 1 : Nat) : Int) := by rw [w64 (by omega)]; omega
  have hlt4 : lenOf tv = some d.length := by
    rcases g3 with ⟨q1, rfl⟩ | ⟨_, X, c, q2, rfl, q3⟩
    · have : d'.length = 0 := by simpa using congrArg List.length q1
      simp [lenOf]; omega
    · simp [lenOf, hd']
  simp +contextual (maxSteps := 1000000) only [go_sem, ints, intRows, reduceAdd, Nat.reduceBEq, reduceEqDiff, reduceLeDiff, Nat.reduceLT, reduceIte, reduceLE, Int.reduceLT, reduceEq, reduceNeg, reduceToNat, ops, vals, dots, h0, h2, h3, hO4, hrow, rowZ, w1, w2, hlen, hlt4]
  refine ⟨by omega, fun hlt4 => ?_, fun hge4 => ?_⟩
  · simp only [decide_eq_true_eq] at hlt4
    obtain ⟨X, cX, rfl, hXn, hX⟩ : ∃ X c, tv = .sl X 0 d.length ∧ X < n ∧ ob4 X = some ⟨2, d'.map dotV, c⟩ := by
      rcases g3 with ⟨q1, _⟩ | ⟨_, X, c, q2, q4, q3⟩
      · have : d'.length = 0 := by simpa using congrArg List.length q1
        omega
      · exact ⟨X, c, by rw [q4, List.length_map, hd'], q2, q3⟩
    refine ⟨by omega, ?_⟩
    simp +contextual (maxSteps := 1000000) only [go_sem, ints, intRows, reduceAdd, Nat.reduceBEq, reduceEqDiff, reduceLeDiff, Nat.reduceLT, reduceIte, reduceLE, Int.reduceLT, reduceEq, reduceNeg, reduceToNat, ops, vals, dots, h0, h2, h3, hO4, hrow, rowZ, w1, w2, hlen, hX, hd']
    have hXO : O ≠ X := fun e => by subst e; rw [hO4] at hX; simp at hX
    have hset : ∀ x : Dt, (List.map dotV d').set k (dotV x) = (d'.set k x).map dotV := fun x => by rw [List.map_set]
    have e := hset ⟨(gN d' k).p, -9⟩
    have e : (List.map dotV d').set k [vi (gN d' k).p, V.c (Value.int IntKind.i64 (-9))] = (d'.set k ⟨(gN d' k).p, -9⟩).map dotV := e
    rw [e]
    refine ⟨by omega, by omega, ⟨by omega, by rw [updO, if_neg hXO]; exact hO4, hR4.same (SameZ.updD hX (by simp)), k + 1, rfl, by omega, d'.set k ⟨(gN d' k).p, -9⟩, by simp [hd'], ?_⟩, by omega⟩
    refine .inr ⟨fun h => ?_, X, cX, hXn, by simp [hd'], updO_s _ _ _⟩
    have := congrArg List.length h
    rw [List.length_map, List.length_set, hd', List.length_nil] at this; omega
  · have hi1 : i + 1 ≤ rows0.length := by omega
    refine ⟨by omega, ⟨by clear hlt; omega, i + 1, rows.set i (rowZ { y with key := ⟨#[63]⟩ } dv vv tv), rfl, hi1, by simp [hlen], rfl, fun k2 hk2 => ?_⟩, by omega⟩
    have hs : SameZ ob4 (updO ob4 O (some ⟨12, rows.set i (rowZ { y with key := ⟨#[63]⟩ } dv vv tv), cap⟩)) := SameZ.frame fun id k r c e hk => by
      rw [updO, if_neg]
      rintro rfl
      rw [hO4] at e; simp at e; exact hk e.1.symm
    have hk3 : k2 < rows.length := by simpa using hk2
    obtain ⟨y2, dv2, vv2, tv2, a2, b2, d2, r2, g1, g2, g3, q1, q2, q3⟩ := (hR4.same hs) k2 hk3
    by_cases hki : k2 = i
    · subst hki
      rw [hrow] at r2
      have r2 := Option.some.inj r2
      unfold rowZ at r2
      simp at r2
      obtain ⟨_, _, e1, _, _, _, _, _, _, _, e2, e3⟩ := r2
      subst e1; subst e2; subst e3
      exact ⟨_, dv, vv, tv, a2, b2, d2, by rw [List.getElem?_set, if_pos rfl, if_pos hk3], g1, g2, g3, q1, q2, q3⟩
    · exact ⟨y2, dv2, vv2, tv2, a2, b2, d2, by rw [List.getElem?_set, if_neg (fun h => hki h.symm)]; exact r2, g1, g2, g3, q1, q2, q3⟩
end Go.Proofs.YtbojpedklnmidaaGreat.D
end
section
set_option linter.unusedVariables false
set_option linter.unusedSimpArgs false
set_option linter.constructorNameAsVariable false
set_option maxRecDepth 100000

/- The page's operations had; operations twinned; closed operations, the page's way. No condition. -/
namespace Go.Proofs.YtbojpedklnmidaaGreat.D
open Go Go.Proofs
open Nat (reduceAdd reduceEqDiff reduceLeDiff)
open Int (reduceLE reduceEq reduceNeg reduceToNat)
theorem TwinRow_ok2 {fl : Fl} (l : List Vl) (hl : l.length ≤ maxLen) : FnB Tryz.prog 103 [vals fl l] (vals .o l) := by
  refine fnB_intro cf103 (by simp) ?_
  simp +contextual (maxSteps := 1000000) only [go_sem, ints, intRows, reduceAdd, Nat.reduceBEq, reduceEqDiff, reduceLeDiff, Nat.reduceLT, reduceIte, reduceLE, Int.reduceLT, reduceEq, reduceNeg, reduceToNat, ops, vals, dots, c103]
  refine nxS_app Own.nil (Nat.zero_le _) rfl (allVals l) (by simpa using hl) fun v' ob' ho _ => ?_
  simp +contextual (maxSteps := 1000000) only [go_sem, ints, intRows, reduceAdd, Nat.reduceBEq, reduceEqDiff, reduceLeDiff, Nat.reduceLT, reduceIte, reduceLE, Int.reduceLT, reduceEq, reduceNeg, reduceToNat, ops, vals, dots]
  rw [List.nil_append] at ho
  rw [out_own ho (fun ob' => gVals ob' l) [] (fun _ => rfl)]; rfl
theorem apN (x : Option (List Nat)) : apart [] x := by
  cases x with
  | none => rfl
  | some L => exact True.intro
set_option maxHeartbeats 2000000 in
theorem TwinOp1_ok (x : Opx) (hx : OkO x) : FnB Tryz.prog 54 [.ag (opV x)] (.ag (opV x)) := by
  refine fnB_intro cf54 (by simp) ?_
  simp +contextual (maxSteps := 1000000) only [go_sem, ints, intRows, reduceAdd, Nat.reduceBEq, reduceEqDiff, reduceLeDiff, Nat.reduceLT, reduceIte, reduceLE, Int.reduceLT, reduceEq, reduceNeg, reduceToNat, ops, vals, dots, c54]
  first | refine caS_i (TwinInts_ok2 x.deps hx.d) (fun ch hch => by obtain ⟨_, _, rfl⟩ := List.mem_map.1 hch; rfl) ?_ | refine caD_i (TwinInts_ok2 x.deps hx.d) (fun ch hch => by obtain ⟨_, _, rfl⟩ := List.mem_map.1 hch; rfl) ?_ | refine gC_i (fun _ => TwinInts_ok2 x.deps hx.d) (fun ch hch => by obtain ⟨_, _, rfl⟩ := List.mem_map.1 hch; rfl) ?_ | refine gCD_i (fun _ => TwinInts_ok2 x.deps hx.d) (fun ch hch => by obtain ⟨_, _, rfl⟩ := List.mem_map.1 hch; rfl) ?_ | refine caE_i (TwinInts_ok2 x.deps hx.d) (fun ch hch => by obtain ⟨_, _, rfl⟩ := List.mem_map.1 hch; rfl) ?_
  unfold ints
  rw [imp_oi]
  have hdo : ∀ ob : OB, ∀ v, Own 100 ob v 2 (x.dots.map dotV) → gV ob 5 v = dots .b x.dots := fun ob v h => by
    rcases h with ⟨h1, rfl⟩ | ⟨_, id, c, _, rfl, h4⟩
    · have : x.dots = [] := by simpa using h1
      rw [this]; rfl
    · simp only [gV, rowsOf, h4, Option.bind_some, List.length_map]
      rw [if_pos (by simp), List.drop_zero, List.take_of_length_le (by simp)]
      show V.im Fl.b (List.map (fun r => List.map (gV ob 4) r) (x.dots.map dotV)) = _
      rw [List.map_map]; rfl
  have hde : ∀ ob : OB, ∀ v, Own 100 ob v 1 (x.deps.map fun n => [vi n]) → gV ob 5 v = ints .b x.deps := fun ob v h => by
    rcases h with ⟨h1, rfl⟩ | ⟨_, id, c, _, rfl, h4⟩
    · have : x.deps = [] := by simpa using h1
      rw [this]; rfl
    · simp only [gV, rowsOf, h4, Option.bind_some, List.length_map]
      rw [if_pos (by simp), List.drop_zero, List.take_of_length_le (by simp)]
      show V.im Fl.b (List.map (fun r => List.map (gV ob 4) r) (x.deps.map fun n => [vi n])) = _
      rw [List.map_map]; rfl
  have happ : ∀ (ob : OB) (i : Nat), (x.dots = [] ∧ opF (.app 2) [.z, .im .b (x.dots.map dotV)] ob i = some (.z, [])) ∨ (x.dots ≠ [] ∧ opF (.app 2) [.z, .im .b (x.dots.map dotV)] ob i = some (.sl i 0 x.dots.length, [(i, some ⟨2, x.dots.map dotV, none⟩)])) := fun ob i => by
    by_cases hd : x.dots = []
    · refine .inl ⟨hd, ?_⟩
      rw [hd]; simp [opF, rowsOf]
    · refine .inr ⟨hd, ?_⟩
      have hl0 : x.dots.length ≠ 0 := fun e => hd (List.eq_nil_of_length_eq_zero e)
      have := hx.s
      simp only [opF, rowsOf, Option.bind_some, allDots, if_true, List.length_map, hl0, if_false]
      rw [if_pos this]
  by_cases hd : x.deps = []
  · rw [if_pos (by rw [hd]; rfl)]
    simp +contextual (maxSteps := 1000000) only [go_sem, ints, intRows, reduceAdd, Nat.reduceBEq, reduceEqDiff, reduceLeDiff, Nat.reduceLT, reduceIte, reduceLE, Int.reduceLT, reduceEq, reduceNeg, reduceToNat, ops, vals, dots]
    refine ⟨apN _, apN _, ?_⟩
    first | refine caS_i (TwinRow_ok2 (fl := .b) x.vals hx.v) trivial ?_ | refine caD_i (TwinRow_ok2 (fl := .b) x.vals hx.v) trivial ?_ | refine gC_i (fun _ => TwinRow_ok2 (fl := .b) x.vals hx.v) trivial ?_ | refine gCD_i (fun _ => TwinRow_ok2 (fl := .b) x.vals hx.v) trivial ?_ | refine caE_i (TwinRow_ok2 (fl := .b) x.vals hx.v) trivial ?_
    simp +contextual (maxSteps := 1000000) only [go_sem, ints, intRows, reduceAdd, Nat.reduceBEq, reduceEqDiff, reduceLeDiff, Nat.reduceLT, reduceIte, reduceLE, Int.reduceLT, reduceEq, reduceNeg, reduceToNat, ops, vals, dots]
    rcases happ _ 12 with ⟨e1, e2⟩ | ⟨e1, e2⟩
    · rw [e2]
      simp +contextual (maxSteps := 1000000) only [go_sem, ints, intRows, reduceAdd, Nat.reduceBEq, reduceEqDiff, reduceLeDiff, Nat.reduceLT, reduceIte, reduceLE, Int.reduceLT, reduceEq, reduceNeg, reduceToNat, ops, vals, dots]
      refine ⟨⟨apN _, apN _⟩, ⟨apN _, apN _⟩, apN _, ?_⟩
      simp [opV, e1, hd, ints, vals, dots]
    · rw [e2]
      simp +contextual (maxSteps := 1000000) only [go_sem, ints, intRows, reduceAdd, Nat.reduceBEq, reduceEqDiff, reduceLeDiff, Nat.reduceLT, reduceIte, reduceLE, Int.reduceLT, reduceEq, reduceNeg, reduceToNat, ops, vals, dots]
      refine ⟨⟨apN _, apN _⟩, ⟨apN _, apN _⟩, ⟨apN _, by omega⟩, ?_⟩
      rw [hdo _ (.sl 12 0 x.dots.length) (.inr ⟨by simpa using e1, 12, none, by omega, by simp, by simp [updO]⟩)]
      simp [opV, hd, ints, vals, dots]
  · rw [if_neg (by rw [List.length_map]; exact fun h => hd (List.eq_nil_of_length_eq_zero h))]
    simp +contextual (maxSteps := 1000000) only [go_sem, ints, intRows, reduceAdd, Nat.reduceBEq, reduceEqDiff, reduceLeDiff, Nat.reduceLT, reduceIte, reduceLE, Int.reduceLT, reduceEq, reduceNeg, reduceToNat, ops, vals, dots]
    refine ⟨⟨by omega, apN _⟩, ⟨by omega, apN _⟩, ?_⟩
    first | refine caS_i (TwinRow_ok2 (fl := .b) x.vals hx.v) trivial ?_ | refine caD_i (TwinRow_ok2 (fl := .b) x.vals hx.v) trivial ?_ | refine gC_i (fun _ => TwinRow_ok2 (fl := .b) x.vals hx.v) trivial ?_ | refine gCD_i (fun _ => TwinRow_ok2 (fl := .b) x.vals hx.v) trivial ?_ | refine caE_i (TwinRow_ok2 (fl := .b) x.vals hx.v) trivial ?_
    simp +contextual (maxSteps := 1000000) only [go_sem, ints, intRows, reduceAdd, Nat.reduceBEq, reduceEqDiff, reduceLeDiff, Nat.reduceLT, reduceIte, reduceLE, Int.reduceLT, reduceEq, reduceNeg, reduceToNat, ops, vals, dots]
    rcases happ _ 12 with ⟨e1, e2⟩ | ⟨e1, e2⟩
    · rw [e2]
      simp +contextual (maxSteps := 1000000) only [go_sem, ints, intRows, reduceAdd, Nat.reduceBEq, reduceEqDiff, reduceLeDiff, Nat.reduceLT, reduceIte, reduceLE, Int.reduceLT, reduceEq, reduceNeg, reduceToNat, ops, vals, dots]
      refine ⟨⟨⟨by omega, apN _⟩, apN _⟩, ⟨⟨by omega, apN _⟩, apN _⟩, apN _, ?_⟩
      rw [hde _ (.sl 5 0 x.deps.length) (.inr ⟨by simpa using hd, 5, none, by omega, by simp, by simp [updO]⟩)]
      simp [opV, e1, ints, vals, dots]
    · rw [e2]
      simp +contextual (maxSteps := 1000000) only [go_sem, ints, intRows, reduceAdd, Nat.reduceBEq, reduceEqDiff, reduceLeDiff, Nat.reduceLT, reduceIte, reduceLE, Int.reduceLT, reduceEq, reduceNeg, reduceToNat, ops, vals, dots]
      refine ⟨⟨⟨by omega, apN _⟩, apN _⟩, ⟨⟨by omega, apN _⟩, apN _⟩, ⟨apN _, by omega⟩, ?_⟩
      rw [hde _ (.sl 5 0 x.deps.length) (.inr ⟨by simpa using hd, 5, none, by omega, by simp, by simp [updO]⟩), hdo _ (.sl 12 0 x.dots.length) (.inr ⟨by simpa using e1, 12, none, by omega, by simp, by simp [updO]⟩)]
      simp [opV, ints, vals, dots]
theorem TwinOps_ok {fl : Fl} (l : List Opx) (hl : l.length ≤ 1000) (h : ∀ x ∈ l, OkO x) : FnB Tryz.prog 22 [ops fl l] (ops .o l) := by
  refine fnB_intro cf22 (by simp) ?_
  simp +contextual (maxSteps := 1000000) only [go_sem, ints, intRows, reduceAdd, Nat.reduceBEq, reduceEqDiff, reduceLeDiff, Nat.reduceLT, reduceIte, reduceLE, Int.reduceLT, reduceEq, reduceNeg, reduceToNat, ops, vals, dots, c22]
  refine wpC_lp (fun env ob n' => env 0 = ops fl l ∧ ∃ i : Nat, env 4 = vi i ∧ i ≤ l.length ∧ Own n' ob (env 3) 12 ((l.take i).map opV)) (fun env ob _ => (l.length - iv (env 4)).toNat) ?_ ?_
  · simp +contextual (maxSteps := 1000000) only [go_sem, ints, intRows, reduceAdd, Nat.reduceBEq, reduceEqDiff, reduceLeDiff, Nat.reduceLT, reduceIte, reduceLE, Int.reduceLT, reduceEq, reduceNeg, reduceToNat, ops, vals, dots]
    exact ⟨0, rfl, by omega, Own.nil⟩
  rintro env ob n' ⟨h0, i, h4, hi, ho⟩
  have w1 : IntKind.i64.wrap ((i : Int) + 1) = ((i + 1 : Nat) : Int) := by rw [w64 (by omega)]; omega
  simp +contextual (maxSteps := 1000000) only [go_sem, ints, intRows, reduceAdd, Nat.reduceBEq, reduceEqDiff, reduceLeDiff, Nat.reduceLT, reduceIte, reduceLE, Int.reduceLT, reduceEq, reduceNeg, reduceToNat, ops, vals, dots, h0, h4, w1]
  refine ⟨fun hlt => ?_, fun hge => ?_⟩
  · simp only [decide_eq_true_eq] at hlt
    refine ⟨by omega, ?_⟩
    first | refine caS_i (TwinOp1_ok (gN l i) (h _ (gN_mem (by omega)))) trivial ?_ | refine caD_i (TwinOp1_ok (gN l i) (h _ (gN_mem (by omega)))) trivial ?_ | refine gC_i (fun _ => TwinOp1_ok (gN l i) (h _ (gN_mem (by omega)))) trivial ?_ | refine gCD_i (fun _ => TwinOp1_ok (gN l i) (h _ (gN_mem (by omega)))) trivial ?_ | refine caE_i (TwinOp1_ok (gN l i) (h _ (gN_mem (by omega)))) trivial ?_
    simp +contextual (maxSteps := 1000000) only [go_sem, ints, intRows, reduceAdd, Nat.reduceBEq, reduceEqDiff, reduceLeDiff, Nat.reduceLT, reduceIte, reduceLE, Int.reduceLT, reduceEq, reduceNeg, reduceToNat, ops, vals, dots, h0, h4, w1]
    refine nxS_any (xs := [opV (gN l i)]) ho (by omega) rfl (by simpa using allOps [gN l i]) (by rw [List.length_map, List.length_take]; simp [maxLen]; omega) fun v' ob3 u2 u3 u4 => ?_
    simp +contextual (maxSteps := 1000000) only [go_sem, ints, intRows, reduceAdd, Nat.reduceBEq, reduceEqDiff, reduceLeDiff, Nat.reduceLT, reduceIte, reduceLE, Int.reduceLT, reduceEq, reduceNeg, reduceToNat, ops, vals, dots, h0, h4, w1]
    refine ⟨⟨i + 1, rfl, by omega, ?_⟩, by omega⟩
    rw [take_gN (by omega), List.map_append]
    exact u2.mono (by omega)
  · simp only [decide_eq_false_iff_not] at hge
    obtain rfl : i = l.length := by omega
    rw [List.take_length] at ho
    rw [out_own ho (fun ob' => gOps ob' _) [] (fun _ => rfl)]; rfl
theorem ROf14_ok {fl fm : Fl} (l : List Opx) (v : List Int) (hl : l.length ≤ 1000) (hv : v.length ≤ maxLen) (h : ∀ x ∈ l, OkO x) : FnB Tryz.prog 26 [ops fl l, ints fm v] (ops .b (ofT l v)) := by
  refine fnB_intro cf26 (by simp) ?_
  simp +contextual (maxSteps := 1000000) only [go_sem, ints, intRows, reduceAdd, Nat.reduceBEq, reduceEqDiff, reduceLeDiff, Nat.reduceLT, reduceIte, reduceLE, Int.reduceLT, reduceEq, reduceNeg, reduceToNat, ops, vals, dots, c26]
  refine wpC_lp (fun env ob n' => env 0 = ops fl l ∧ env 1 = ints fm v ∧ ∃ i : Nat, env 6 = vi i ∧ i ≤ l.length ∧ Own n' ob (env 5) 12 ((ofT (l.take i) v).map opV)) (fun env ob _ => (l.length - iv (env 6)).toNat) ?_ ?_
  · simp +contextual (maxSteps := 1000000) only [go_sem, ints, intRows, reduceAdd, Nat.reduceBEq, reduceEqDiff, reduceLeDiff, Nat.reduceLT, reduceIte, reduceLE, Int.reduceLT, reduceEq, reduceNeg, reduceToNat, ops, vals, dots]
    exact ⟨0, rfl, by omega, Own.nil⟩
  rintro env ob n' ⟨h0, h1, i, h6, hi, ho⟩
  have w1 : IntKind.i64.wrap ((i : Int) + 1) = ((i + 1 : Nat) : Int) := by rw [w64 (by omega)]; omega
  simp +contextual (maxSteps := 1000000) only [go_sem, ints, intRows, reduceAdd, Nat.reduceBEq, reduceEqDiff, reduceLeDiff, Nat.reduceLT, reduceIte, reduceLE, Int.reduceLT, reduceEq, reduceNeg, reduceToNat, ops, vals, dots, h0, h1, h6, w1]
  have hfl : (ofT (l.take i) v).length ≤ i := by
    have := filter_len (p := fun x => hasB v x.dot) (l := l.take i)
    rw [List.length_take] at this
    unfold ofT; omega
  refine ⟨fun hlt => ?_, fun hge => ?_⟩
  · simp only [decide_eq_true_eq] at hlt
    refine ⟨by omega, ?_⟩
    first | refine caS_i (RHas_ok v (gN l i).dot hv) trivial ?_ | refine caD_i (RHas_ok v (gN l i).dot hv) trivial ?_ | refine gC_i (fun _ => RHas_ok v (gN l i).dot hv) trivial ?_ | refine gCD_i (fun _ => RHas_ok v (gN l i).dot hv) trivial ?_ | refine caE_i (RHas_ok v (gN l i).dot hv) trivial ?_
    simp +contextual (maxSteps := 1000000) only [go_sem, ints, intRows, reduceAdd, Nat.reduceBEq, reduceEqDiff, reduceLeDiff, Nat.reduceLT, reduceIte, reduceLE, Int.reduceLT, reduceEq, reduceNeg, reduceToNat, ops, vals, dots, h0, h1, h6, w1]
    refine ⟨fun hb => ?_, fun hb => ?_⟩
    · refine ⟨by omega, ?_⟩
      refine nxS_any (xs := [opV (gN l i)]) ho (by omega) rfl (by simpa using allOps [gN l i]) (by simp [maxLen]; omega) fun v' ob3 u2 u3 u4 => ?_
      simp +contextual (maxSteps := 1000000) only [go_sem, ints, intRows, reduceAdd, Nat.reduceBEq, reduceEqDiff, reduceLeDiff, Nat.reduceLT, reduceIte, reduceLE, Int.reduceLT, reduceEq, reduceNeg, reduceToNat, ops, vals, dots, h0, h1, h6, w1]
      refine ⟨⟨i + 1, rfl, by omega, ?_⟩, by omega⟩
      have : ofT (l.take (i + 1)) v = ofT (l.take i) v ++ [gN l i] := by unfold ofT; rw [filter_take (by omega), if_pos hb]
      rw [this, List.map_append]
      exact u2.mono (by omega)
    · refine ⟨⟨i + 1, rfl, by omega, ?_⟩, by omega⟩
      have : ofT (l.take (i + 1)) v = ofT (l.take i) v := by unfold ofT; rw [filter_take (by omega), if_neg (by simpa using hb), List.append_nil]
      rw [this]
      exact ho.mono (by omega)
  · simp only [decide_eq_false_iff_not] at hge
    obtain rfl : i = l.length := by omega
    rw [List.take_length] at ho hfl
    obtain ⟨fO, hfO⟩ := resO ho
    have gO : resV ob 6 (env 5) = ops fO (ofT l v) := hfO 2
    rw [gO]
    first | refine caS_i (TwinOps_ok (fl := fO) (ofT l v) (by omega) fun x hx => h x (List.mem_filter.1 hx).1) trivial ?_ | refine caD_i (TwinOps_ok (fl := fO) (ofT l v) (by omega) fun x hx => h x (List.mem_filter.1 hx).1) trivial ?_ | refine gC_i (fun _ => TwinOps_ok (fl := fO) (ofT l v) (by omega) fun x hx => h x (List.mem_filter.1 hx).1) trivial ?_ | refine gCD_i (fun _ => TwinOps_ok (fl := fO) (ofT l v) (by omega) fun x hx => h x (List.mem_filter.1 hx).1) trivial ?_ | refine caE_i (TwinOps_ok (fl := fO) (ofT l v) (by omega) fun x hx => h x (List.mem_filter.1 hx).1) trivial ?_
    simp +contextual (maxSteps := 1000000) only [go_sem, ints, intRows, reduceAdd, Nat.reduceBEq, reduceEqDiff, reduceLeDiff, Nat.reduceLT, reduceIte, reduceLE, Int.reduceLT, reduceEq, reduceNeg, reduceToNat, ops, vals, dots]
theorem in14_ok (n lo hi : Int) : FnB Tryz.prog 56 [vi n, vi lo, vi hi] (vb (decide (lo ≤ n ∧ n ≤ hi))) := by
  refine fnB_intro cf56 (by simp) ?_
  simp +contextual (maxSteps := 1000000) only [go_sem, ints, intRows, reduceAdd, Nat.reduceBEq, reduceEqDiff, reduceLeDiff, Nat.reduceLT, reduceIte, reduceLE, Int.reduceLT, reduceEq, reduceNeg, reduceToNat, ops, vals, dots, c56]
  simp
theorem nodup_sub {α : Type} [DecidableEq α] : ∀ {l m : List α}, l.Nodup → (∀ a ∈ l, a ∈ m) → l.length ≤ m.length
  | [], _, _, _ => Nat.zero_le _
  | a :: l, m, hn, h => by
    rw [List.nodup_cons] at hn
    have h1 : ∀ b ∈ l, b ∈ m.erase a := fun b hb => (List.mem_erase_of_ne fun e => hn.1 (by rw [← e]; exact hb)).2 (h b (List.mem_cons_of_mem _ hb))
    have := nodup_sub hn.2 h1
    have ha := h a (List.mem_cons_self ..)
    rw [List.length_erase_of_mem ha] at this
    have : 0 < m.length := List.length_pos_of_mem ha
    simp; omega
theorem allD_few {D : List Dt} {p m : Int} (h : allD D p m = true) : m ≤ D.length := by
  by_cases hm : m ≤ 0
  · omega
  have h1 := allD_iff.1 h
  have h2 : ((List.range m.toNat).map fun k => (⟨p, (k + 1 : Nat)⟩ : Dt)).length ≤ (D.map fun d => (d.p, d.n)).length := by
    have : (((List.range m.toNat).map fun k => ((p, ((k + 1 : Nat) : Int)) : Int × Int))).length ≤ (D.map fun d => (d.p, d.n)).length := by
      refine nodup_sub (List.pairwise_map.2 (List.nodup_range.imp fun {a b} hab e => hab (by simp at e; omega))) fun a ha => ?_
      obtain ⟨k, hk, rfl⟩ := List.mem_map.1 ha
      have hk := List.mem_range.1 hk
      exact List.mem_map.2 ⟨_, h1 ((k + 1 : Nat) : Int) (by omega) (by omega), rfl⟩
    simpa using this
  simp at h2
  omega
theorem closed_noHead {n : Int} {l : List Opx} {i : Nat} (hi : i < l.length) (h : ¬ ((∀ k, k < i → (gN l k).dot ≠ (gN l i).dot) ∧ 0 ≤ (gN l i).dot.p ∧ (gN l i).dot.p < n ∧ ((gN l i).deps.length : Int) = n ∧ vecE (gN l i).deps = 0)) : closedB n l = false := by
  have : okHead n l = false := by
    cases hh : okHead n l with
    | false => rfl
    | true =>
      exfalso
      have := of_decide_eq_true (show decide _ = true from hh) i hi
      refine h ⟨fun k hk e => ?_, this.2⟩
      exact (inD_no.1 this.1) (List.mem_map.2 ⟨gN l k, List.mem_take_iff_getElem.2 ⟨k, by omega, by rw [gN_eq (by omega)]⟩, e⟩)
  unfold closedB
  rw [this]; simp
theorem closed_noTail {n : Int} {l : List Opx} {i : Nat} (hi : i < l.length) (h : okTail (l.map (·.dot)) (gN l i) = false) : closedB n l = false := by
  unfold closedB
  have : ¬ ∀ i, i < l.length → okTail (l.map (·.dot)) (gN l i) = true := fun g => by rw [g i hi] at h; cases h
  rw [decide_eq_false this, Bool.and_false]
theorem closed_yes {n : Int} {l : List Opx} (hn : 1 ≤ n ∧ n ≤ 5) (h1 : ∀ i, i < l.length → (∀ k, k < i → (gN l k).dot ≠ (gN l i).dot) ∧ 0 ≤ (gN l i).dot.p ∧ (gN l i).dot.p < n ∧ ((gN l i).deps.length : Int) = n ∧ vecE (gN l i).deps = 0) (h2 : ∀ i, i < l.length → okTail (l.map (·.dot)) (gN l i) = true) : closedB n l = true := by
  have : okHead n l = true := decide_eq_true fun i hi => ⟨inD_no.2 fun hm => by
    obtain ⟨y, h3, h4⟩ := List.mem_map.1 hm
    obtain ⟨j, hj, rfl⟩ := List.mem_take_iff_getElem.1 h3
    have := (h1 i hi).1 j (by omega)
    rw [gN_eq (by omega)] at this
    exact this h4, (h1 i hi).2⟩
  unfold closedB
  rw [this, decide_eq_true hn, decide_eq_true h2]; rfl
set_option maxHeartbeats 2000000 in
theorem RClosed14_ok {fl : Fl} (n : Int) (l : List Opx) (hl : l.length ≤ 1000) (hn : ∀ x ∈ l, inI x.dot.n) (hdl : ∀ x ∈ l, x.deps.length ≤ maxLen) : FnB Tryz.prog 25 [vi n, ops fl l] (vb (closedB n l)) := by
  refine fnB_intro cf25 (by simp) ?_
  simp +contextual (maxSteps := 1000000) only [go_sem, ints, intRows, reduceAdd, Nat.reduceBEq, reduceEqDiff, reduceLeDiff, Nat.reduceLT, reduceIte, reduceLE, Int.reduceLT, reduceEq, reduceNeg, reduceToNat, ops, vals, dots, c25]
  first | refine caS_i (in14_ok n 1 5) trivial ?_ | refine caD_i (in14_ok n 1 5) trivial ?_ | refine gC_i (fun _ => in14_ok n 1 5) trivial ?_ | refine gCD_i (fun _ => in14_ok n 1 5) trivial ?_ | refine caE_i (in14_ok n 1 5) trivial ?_
  simp +contextual (maxSteps := 1000000) only [go_sem, ints, intRows, reduceAdd, Nat.reduceBEq, reduceEqDiff, reduceLeDiff, Nat.reduceLT, reduceIte, reduceLE, Int.reduceLT, reduceEq, reduceNeg, reduceToNat, ops, vals, dots]
  refine ⟨fun h => ?_, fun h => ?_⟩
  · have hn5 : ¬ (1 ≤ n ∧ n ≤ 5) := by simpa using h
    have : closedB n l = false := by unfold closedB; rw [decide_eq_false hn5]; rfl
    rw [this]
  have hn5 : 1 ≤ n ∧ n ≤ 5 := by simpa using h
  clear h
  refine wpC_lp (fun env ob n' => env 0 = vi n ∧ env 1 = ops fl l ∧ ∃ i : Nat, env 5 = vi i ∧ i ≤ l.length ∧ ∀ j, j < i → (∀ k, k < j → (gN l k).dot ≠ (gN l j).dot) ∧ 0 ≤ (gN l j).dot.p ∧ (gN l j).dot.p < n ∧ ((gN l j).deps.length : Int) = n ∧ vecE (gN l j).deps = 0) (fun env ob _ => (l.length - iv (env 5)).toNat) ?_ ?_
  · simp +contextual (maxSteps := 1000000) only [go_sem, ints, intRows, reduceAdd, Nat.reduceBEq, reduceEqDiff, reduceLeDiff, Nat.reduceLT, reduceIte, reduceLE, Int.reduceLT, reduceEq, reduceNeg, reduceToNat, ops, vals, dots]
    exact ⟨0, rfl, by omega, fun j hj => by omega⟩
  rintro env ob n' ⟨h0, h1, i, h5, hi, he⟩
  have w1 : IntKind.i64.wrap ((i : Int) + 1) = ((i + 1 : Nat) : Int) := by rw [w64 (by omega)]; omega
  have wn : IntKind.i64.wrap (n - 1) = n - 1 := w64 (by omega)
  have g3 : ∀ k, (n' == n' + (k + 1)) = false := fun k => by simp
  simp +contextual (maxSteps := 1000000) only [go_sem, ints, intRows, reduceAdd, Nat.reduceBEq, reduceEqDiff, reduceLeDiff, Nat.reduceLT, reduceIte, reduceLE, Int.reduceLT, reduceEq, reduceNeg, reduceToNat, ops, vals, dots, h0, h1, h5, w1, wn, g3, Nat.add_assoc, beq_add, Nat.zero_add, Nat.add_zero]
  refine ⟨fun hlt => ?_, fun hge => ?_⟩
  · simp only [decide_eq_true_eq] at hlt
    refine ⟨by omega, ?_⟩
    first | refine caS_i (in14_ok (gN l i).dot.p 0 (n - 1)) trivial ?_ | refine caD_i (in14_ok (gN l i).dot.p 0 (n - 1)) trivial ?_ | refine gC_i (fun _ => in14_ok (gN l i).dot.p 0 (n - 1)) trivial ?_ | refine gCD_i (fun _ => in14_ok (gN l i).dot.p 0 (n - 1)) trivial ?_ | refine caE_i (in14_ok (gN l i).dot.p 0 (n - 1)) trivial ?_
    simp +contextual (maxSteps := 1000000) only [go_sem, ints, intRows, reduceAdd, Nat.reduceBEq, reduceEqDiff, reduceLeDiff, Nat.reduceLT, reduceIte, reduceLE, Int.reduceLT, reduceEq, reduceNeg, reduceToNat, ops, vals, dots, h0, h1, h5, w1, wn, g3, Nat.add_assoc, beq_add, Nat.zero_add, Nat.add_zero]
    refine ⟨fun _ => by omega, fun _ => by omega, ?_⟩
    refine gC_i (fun _ => Vector_ok (fl := .b) (gN l i).deps) trivial ?_
    simp +contextual (maxSteps := 1000000) only [go_sem, ints, intRows, reduceAdd, Nat.reduceBEq, reduceEqDiff, reduceLeDiff, Nat.reduceLT, reduceIte, reduceLE, Int.reduceLT, reduceEq, reduceNeg, reduceToNat, ops, vals, dots, h0, h1, h5, w1, wn, g3, Nat.add_assoc, beq_add, Nat.zero_add, Nat.add_zero]
    refine ⟨fun hb => ?_, fun hb => ?_⟩
    · rw [closed_noHead (n := n) (show i < l.length by omega) fun ⟨_, c1, c2, c3, c4⟩ => by
        rw [if_pos (decide_eq_true ⟨c1, by omega⟩), decide_eq_true c3, decide_eq_true c4] at hb; simp at hb]
    have hgi : 0 ≤ (gN l i).dot.p ∧ (gN l i).dot.p < n ∧ ((gN l i).deps.length : Int) = n ∧ vecE (gN l i).deps = 0 := by
      rw [Bool.or_eq_false_iff] at hb
      by_cases q : 0 ≤ (gN l i).dot.p ∧ (gN l i).dot.p ≤ n - 1
      · rw [if_pos (decide_eq_true q)] at hb
        exact ⟨q.1, by omega, by simpa using hb.1, by simpa using hb.2⟩
      · rw [if_neg (by simpa using q)] at hb; simp at hb
    generalize hob1 : updO (updO ob _ _) _ _ = ob1
    have hB1 : ob1 (n' + 9) = some ⟨2, [dotV (gN l i).dot], none⟩ := by rw [← hob1, updO_s]; rfl
    clear hob1
    refine wpC_lp (fun env' ob' n2 => env' 0 = vi n ∧ env' 1 = ops fl l ∧ env' 5 = vi i ∧ env' 6 = .pt (n' + 9) 0 0 ∧ ob' (n' + 9) = some ⟨2, [dotV (gN l i).dot], none⟩ ∧ ∃ k : Nat, env' 7 = vi k ∧ k ≤ i ∧ ∀ j, j < k → (gN l j).dot ≠ (gN l i).dot) (fun env' _ _ => (i - iv (env' 7)).toNat) ?_ ?_
    · simp +contextual (maxSteps := 1000000) only [go_sem, ints, intRows, reduceAdd, Nat.reduceBEq, reduceEqDiff, reduceLeDiff, Nat.reduceLT, reduceIte, reduceLE, Int.reduceLT, reduceEq, reduceNeg, reduceToNat, ops, vals, dots, h0, h1, h5]
      exact ⟨hB1, 0, rfl, by omega, fun j hj => by omega⟩
    clear h0 h1 h5
    rintro env' ob2 n2 ⟨h0, h1, h5, h6, hB2, k, h7, hk, hj⟩
    have w2 : IntKind.i64.wrap ((k : Int) + 1) = ((k + 1 : Nat) : Int) := by rw [w64 (by omega)]; omega
    simp +contextual (maxSteps := 1000000) only [go_sem, ints, intRows, reduceAdd, Nat.reduceBEq, reduceEqDiff, reduceLeDiff, Nat.reduceLT, reduceIte, reduceLE, Int.reduceLT, reduceEq, reduceNeg, reduceToNat, ops, vals, dots, h0, h1, h5, h6, h7, hB2, w1, w2]
    refine ⟨fun hkl => ?_, fun hkl => ?_⟩
    · simp only [decide_eq_true_eq] at hkl
      refine ⟨by omega, ?_⟩
      first | refine caS_i (KDot_ok (gN l k).dot (gN l i).dot) trivial ?_ | refine caD_i (KDot_ok (gN l k).dot (gN l i).dot) trivial ?_ | refine gC_i (fun _ => KDot_ok (gN l k).dot (gN l i).dot) trivial ?_ | refine gCD_i (fun _ => KDot_ok (gN l k).dot (gN l i).dot) trivial ?_ | refine caE_i (KDot_ok (gN l k).dot (gN l i).dot) trivial ?_
      simp +contextual (maxSteps := 1000000) only [go_sem, ints, intRows, reduceAdd, Nat.reduceBEq, reduceEqDiff, reduceLeDiff, Nat.reduceLT, reduceIte, reduceLE, Int.reduceLT, reduceEq, reduceNeg, reduceToNat, ops, vals, dots, h0, h1, h5, h6, h7, hB2, w1, w2]
      refine ⟨fun hs => ?_, fun hs => ⟨⟨k + 1, rfl, by omega, fun j hj2 => ?_⟩, by omega⟩⟩
      · rw [closed_noHead (n := n) (show i < l.length by omega) fun ⟨c1, _⟩ => c1 k (by omega) ((sameD_iff _ _).1 hs)]
      · by_cases hjk : j = k
        · subst hjk; intro e; rw [(sameD_iff _ _).2 e] at hs; cases hs
        · exact hj j (by omega)
    · simp only [decide_eq_false_iff_not] at hkl
      refine ⟨⟨i + 1, rfl, by omega, fun j hj2 => ?_⟩, by omega⟩
      by_cases hji : j = i
      · subst hji; exact ⟨fun k' hk' => hj k' (by omega), hgi⟩
      · exact he j (by omega)
  · simp only [decide_eq_false_iff_not] at hge
    obtain rfl : i = l.length := by omega
    clear w1 h5 hi g3
    have hdep : ∀ i, i < l.length → ∀ p, p < (gN l i).deps.length → gN (gN l i).deps p ≤ 1073741824 := fun i hi => vec_most (he i hi).2.2.2.2
    refine wpC_lp (fun env ob n' => env 0 = vi n ∧ env 1 = ops fl l ∧ ∃ i : Nat, env 8 = vi i ∧ i ≤ l.length ∧ ∀ j, j < i → okTail (l.map (·.dot)) (gN l j) = true) (fun env ob _ => (l.length - iv (env 8)).toNat) ?_ ?_
    · simp +contextual (maxSteps := 1000000) only [go_sem, ints, intRows, reduceAdd, Nat.reduceBEq, reduceEqDiff, reduceLeDiff, Nat.reduceLT, reduceIte, reduceLE, Int.reduceLT, reduceEq, reduceNeg, reduceToNat, ops, vals, dots, h0, h1]
      exact ⟨0, rfl, by omega, fun j hj => by omega⟩
    clear h0 h1 env ob n'
    rintro env ob n' ⟨h0, h1, i, h8, hi, ht⟩
    have w1 : IntKind.i64.wrap ((i : Int) + 1) = ((i + 1 : Nat) : Int) := by rw [w64 (by omega)]; omega
    simp +contextual (maxSteps := 1000000) only [go_sem, ints, intRows, reduceAdd, Nat.reduceBEq, reduceEqDiff, reduceLeDiff, Nat.reduceLT, reduceIte, reduceLE, Int.reduceLT, reduceEq, reduceNeg, reduceToNat, ops, vals, dots, h0, h1, h8, w1]
    refine ⟨fun hlt => ?_, fun hge => ?_⟩
    · simp only [decide_eq_true_eq] at hlt
      have hil : i < l.length := by omega
      have hni := hn _ (gN_mem hil)
      have hdi := hdep i hil
      have hgi := he i hil
      have hdln := hgi.2.2.2.1
      generalize hxx : gN l i = x at *
      refine ⟨by omega, fun _ => by omega, fun _ => by omega, ?_⟩
      refine gCD_i (fun _ => There14_ok (fl := resFl fl) l ⟨x.dot.p, IntKind.i64.wrap (x.dot.n - 1)⟩ hl) trivial ?_
      have w3 : 1 < x.dot.n → IntKind.i64.wrap (x.dot.n - 1) = x.dot.n - 1 := fun h => w64 (by unfold inI at hni; omega)
      simp +contextual (maxSteps := 1000000) only [go_sem, ints, intRows, reduceAdd, Nat.reduceBEq, reduceEqDiff, reduceLeDiff, Nat.reduceLT, reduceIte, reduceLE, Int.reduceLT, reduceEq, reduceNeg, reduceToNat, ops, vals, dots, h0, h1, h8, w1]
      refine ⟨fun hb => ?_, fun hb => ?_⟩
      · rw [closed_noTail (n := n) hil]
        rw [hxx]
        rw [Bool.and_eq_true, decide_eq_true_eq] at hb
        rw [w3 hb.1] at hb
        unfold okTail
        rw [decide_eq_false (show ¬ x.dot.n ≤ 1 by omega), Bool.false_or]
        have : inD (l.map (·.dot)) ⟨x.dot.p, x.dot.n - 1⟩ = false := by simpa using hb.2
        rw [this, Bool.false_and]
      have hfirst : (decide (x.dot.n ≤ 1) || inD (l.map (·.dot)) ⟨x.dot.p, x.dot.n - 1⟩) = true := by
        by_cases h1 : 1 < x.dot.n
        · rw [decide_eq_true h1, w3 h1, Bool.true_and] at hb
          rw [Bool.or_eq_true]; right; simpa using hb
        · rw [decide_eq_true (show x.dot.n ≤ 1 by omega), Bool.true_or]
      have hbad : ∀ p, p < x.deps.length → allD (l.map (·.dot)) p (gN x.deps p) = false → closedB n l = false := fun p hp h => by
        refine closed_noTail (n := n) hil ?_
        rw [hxx]
        unfold okTail
        have : ¬ ∀ p, p < x.deps.length → allD (l.map (·.dot)) p (gN x.deps p) = true := fun g => by rw [g p hp] at h; cases h
        rw [decide_eq_false this, Bool.and_false]
      refine wpC_lp (fun env' ob' n2 => env' 0 = vi n ∧ env' 1 = ops fl l ∧ env' 8 = vi i ∧ ∃ q : Nat, env' 9 = vi q ∧ (q : Int) ≤ n ∧ ∀ r, r < q → allD (l.map (·.dot)) r (gN x.deps r) = true) (fun env' _ _ => (n - iv (env' 9)).toNat) ?_ ?_
      · simp +contextual (maxSteps := 1000000) only [go_sem, ints, intRows, reduceAdd, Nat.reduceBEq, reduceEqDiff, reduceLeDiff, Nat.reduceLT, reduceIte, reduceLE, Int.reduceLT, reduceEq, reduceNeg, reduceToNat, ops, vals, dots, h0, h1, h8]
        exact ⟨0, rfl, by omega, fun j hj => by omega⟩
      clear h0 h1 h8
      rintro env' ob2 n2 ⟨h0, h1, h8, q, h9, hq, hall⟩
      have w4 : IntKind.i64.wrap ((q : Int) + 1) = ((q + 1 : Nat) : Int) := by rw [w64 (by omega)]; omega
      simp +contextual (maxSteps := 1000000) only [go_sem, ints, intRows, reduceAdd, Nat.reduceBEq, reduceEqDiff, reduceLeDiff, Nat.reduceLT, reduceIte, reduceLE, Int.reduceLT, reduceEq, reduceNeg, reduceToNat, ops, vals, dots, h0, h1, h8, h9, w1, w4]
      refine ⟨fun hql => ?_, fun hql => ?_⟩
      · simp only [decide_eq_true_eq] at hql
        have hqd : q < x.deps.length := by omega
        rw [hxx]
        refine ⟨by omega, by omega, fun hgt => ?_, fun hgt => ?_⟩
        · have : allD (l.map (·.dot)) q (gN x.deps q) = false := by
            cases ha : allD (l.map (·.dot)) q (gN x.deps q) with
            | false => rfl
            | true =>
              have := allD_few ha
              simp at this hgt; omega
          rw [hbad q hqd this]
        have hle : gN x.deps q ≤ l.length := by simpa using hgt
        refine wpC_lp (fun env' ob' n2 => env' 0 = vi n ∧ env' 1 = ops fl l ∧ env' 8 = vi i ∧ env' 9 = vi q ∧ ∃ k : Nat, env' 10 = vi (k + 1 : Nat) ∧ (k : Int) ≤ max (gN x.deps q) 0 ∧ ∀ j : Nat, j < k → inD (l.map (·.dot)) ⟨q, (j + 1 : Nat)⟩ = true) (fun env' _ _ => ((gN x.deps q) + 1 - iv (env' 10)).toNat) ?_ ?_
        · simp +contextual (maxSteps := 1000000) only [go_sem, ints, intRows, reduceAdd, Nat.reduceBEq, reduceEqDiff, reduceLeDiff, Nat.reduceLT, reduceIte, reduceLE, Int.reduceLT, reduceEq, reduceNeg, reduceToNat, ops, vals, dots, h0, h1, h8, h9]
          exact ⟨0, rfl, by omega, fun j hj => by omega⟩
        clear h0 h1 h8 h9
        rintro env4 ob4 n4 ⟨h0, h1, h8, h9, k, h10, hk, hj⟩
        have w5 : IntKind.i64.wrap (((k + 1 : Nat) : Int) + 1) = ((k + 1 + 1 : Nat) : Int) := by rw [w64 (by omega)]; omega
        simp +contextual (maxSteps := 1000000) only [go_sem, ints, intRows, reduceAdd, Nat.reduceBEq, reduceEqDiff, reduceLeDiff, Nat.reduceLT, reduceIte, reduceLE, Int.reduceLT, reduceEq, reduceNeg, reduceToNat, ops, vals, dots, h0, h1, h8, h9, h10, w1, w4, w5]
        rw [hxx]
        refine ⟨by omega, by omega, fun hkl => ?_, fun hkl => ?_⟩
        · simp only [decide_eq_true_eq] at hkl
          first | refine caS_i (There14_ok (fl := resFl fl) l ⟨q, (k + 1 : Nat)⟩ hl) trivial ?_ | refine caD_i (There14_ok (fl := resFl fl) l ⟨q, (k + 1 : Nat)⟩ hl) trivial ?_ | refine gC_i (fun _ => There14_ok (fl := resFl fl) l ⟨q, (k + 1 : Nat)⟩ hl) trivial ?_ | refine gCD_i (fun _ => There14_ok (fl := resFl fl) l ⟨q, (k + 1 : Nat)⟩ hl) trivial ?_ | refine caE_i (There14_ok (fl := resFl fl) l ⟨q, (k + 1 : Nat)⟩ hl) trivial ?_
          simp +contextual (maxSteps := 1000000) only [go_sem, ints, intRows, reduceAdd, Nat.reduceBEq, reduceEqDiff, reduceLeDiff, Nat.reduceLT, reduceIte, reduceLE, Int.reduceLT, reduceEq, reduceNeg, reduceToNat, ops, vals, dots, h0, h1, h8, h9, h10, w1, w4, w5]
          refine ⟨fun hb => ?_, fun hb => ?_⟩
          · rw [hbad q hqd (allD_bad (k := k) (by omega) hb)]
          · refine ⟨⟨k + 1, rfl, by omega, fun j hj2 => ?_⟩, by omega⟩
            by_cases hjk : j = k
            · subst hjk; simpa using hb
            · exact hj j (by omega)
        · simp only [decide_eq_false_iff_not] at hkl
          refine ⟨⟨q + 1, rfl, by omega, fun r hr => ?_⟩, by omega⟩
          by_cases hrq : r = q
          · subst hrq
            exact allD_ok fun k' hk' => hj k' (by omega)
          · exact hall r (by omega)
      · simp only [decide_eq_false_iff_not] at hql
        refine ⟨⟨i + 1, rfl, by omega, fun j hj => ?_⟩, by omega⟩
        by_cases hji : j = i
        · subst hji
          rw [hxx]
          unfold okTail
          rw [hfirst, Bool.true_and, decide_eq_true_eq]
          exact fun p hp => hall p (by omega)
        · exact ht j (by omega)
    · simp only [decide_eq_false_iff_not] at hge
      obtain rfl : i = l.length := by omega
      rw [closed_yes hn5 he ht]
end Go.Proofs.YtbojpedklnmidaaGreat.D
end
section
set_option linter.unusedVariables false
set_option linter.unusedSimpArgs false
set_option linter.constructorNameAsVariable false
set_option maxRecDepth 100000

/- What operations make, exactly: the walk of the statement. No condition. -/
namespace Go.Proofs.YtbojpedklnmidaaGreat.D
open Go Go.Proofs
open Nat (reduceAdd reduceEqDiff reduceLeDiff)
open Int (reduceLE reduceEq reduceNeg reduceToNat)
theorem heavyF_lenE {f : List (List Int)} (hf1 : heavyF f = false) : f.length ≤ 1000 ∧ ∀ c ∈ f, c.length ≤ 1000 := by
  unfold heavyF at hf1
  rw [Bool.or_eq_false_iff] at hf1
  refine ⟨by have := of_decide_eq_false hf1.1; omega, fun c hc => ?_⟩
  have := List.any_eq_false.1 hf1.2 c hc
  simp at this; omega
theorem KOpsX_ok {fl fm : Fl} (a b : List Opx) (rows : List (List V)) (hr : rows.map (fun r => r.map toB1) = a.map opV) (ha : a.length ≤ maxLen) (hok : ∀ x ∈ a, OkO x) : FnB Tryz.prog 19 [.im fl rows, ops fm b] (vb (sameL eqO a b)) :=
  FnB_nb (KOps_ok (fl := fl) (fm := fm) a b ha hok) ⟨by
    have h : FArg toB1 (.im fl rows) (.im fl (rows.map fun r => r.map toB1)) := .i fl rows
    rw [hr] at h; exact h, .r _, trivial⟩
theorem own_resB {α : Type} (g : α → List V) {k n : Nat} {ob : OB} {v : V} {l : List α} (h : Own n ob v k (l.map g)) (m : Nat) (hg : ∀ a, (g a).map (resV ob m) = g a) : toB1 (resV ob (m + 1) v) = .im .b (l.map g) := by
  rcases h with ⟨h1, rfl⟩ | ⟨_, id, c, _, rfl, h4⟩
  · have : l = [] := by simpa using h1
    subst this; rfl
  · have hr : rowsOf ob (.sl id 0 (l.map g).length) = some (l.map g) := by
      simp only [rowsOf, h4, Option.bind_some]
      rw [if_pos (by omega), List.drop_zero, List.take_of_length_le (by omega)]
    simp only [resV, hr]
    show V.im Fl.b (List.map (fun r => List.map (resV ob m) r) (l.map g)) = _
    rw [List.map_map]
    congr 1
    exact List.map_congr_left fun a _ => hg a
theorem OwnZ.resB {n : Nat} {ob : OB} {v : V} {D : List Opx} (h : OwnZ n ob v D) (m : Nat) : ∃ fl rows, resV ob (m + 3) v = .im fl rows ∧ rows.map (fun r => r.map toB1) = D.map opV := by
  obtain ⟨rows, h1, h2, h3⟩ := h
  rcases h1 with ⟨h1, rfl⟩ | ⟨_, id, c, _, rfl, h4⟩
  · have : D = [] := List.eq_nil_of_length_eq_zero (by rw [← h2, h1]; rfl)
    subst this
    exact ⟨.b, [], rfl, rfl⟩
  · have hr : rowsOf ob (.sl id 0 rows.length) = some rows := by
      simp only [rowsOf, h4, Option.bind_some]
      rw [if_pos (by omega), List.drop_zero, List.take_of_length_le (by omega)]
    refine ⟨.n, rows.map fun r => r.map (resV ob (m + 2)), by simp only [resV, hr], ?_⟩
    refine List.ext_getElem (by simp [h2]) fun k j1 j2 => ?_
    have hk : k < D.length := by simpa using j2
    obtain ⟨dv, vv, tv, q1, q2, q3, q4⟩ := h3 k hk
    have e := q1
    rw [List.getElem?_eq_getElem (by omega)] at e
    simp only [List.getElem_map]
    rw [Option.some.inj e, ← gN_eq hk]
    have e1 := own_resB _ q2 (m + 1) fun _ => rfl
    have e2 := own_resB _ q3 (m + 1) fun _ => rfl
    have e3 := own_resB _ q4 (m + 1) fun _ => rfl
    simp only [rowZ, List.map_cons, List.map_nil, e1, e2, e3]
    rfl
theorem OwnZ.rows {n : Nat} {ob : OB} {v : V} {D : List Opx} (h : OwnZ n ob v D) (hD : ∀ x ∈ D, x.deps.length ≤ 100000 ∧ x.vals.length ≤ 100000 ∧ x.dots.length ≤ 100000) : ∃ rows, Own n ob v 12 rows ∧ rows.length = D.length ∧ RowsZ n ob rows := by
  obtain ⟨rows, h1, h2, h3⟩ := h
  refine ⟨rows, h1, h2, fun k hk => ?_⟩
  obtain ⟨dv, vv, tv, q1, q2, q3, q4⟩ := h3 k (by omega)
  have := hD _ (gN_mem (show k < D.length by omega))
  exact ⟨gN D k, dv, vv, tv, _, _, _, q1, q2, q3, q4, this.1, this.2.1, this.2.2⟩
theorem madeE_s {n : Int} {f : List (List Int)} {l : List Opx} {i : Nat} (hi : i < l.length) (h : madeE n f (l.take i) = 0) : madeE n f (l.take (i + 1)) = checkG n f (gN l i) := by
  unfold madeE at h ⊢
  unfold checkG
  by_cases a : formsG f ≠ 0
  · rw [if_pos a] at h; exact (a h).elim
  · rw [if_neg a] at h ⊢
    rw [if_neg a]
    by_cases b : n < 1 ∨ 5 < n
    · rw [if_pos b] at h; cases h
    · rw [if_neg b] at h ⊢
      rw [take_gN hi, List.all_append]
      have hall : (l.take i).all (rightX n f) = true := by
        cases hh : (l.take i).all (rightX n f) with
        | true => rfl
        | false => rw [hh] at h; simp at h
      rw [hall]
      cases hr : rightX n f (gN l i) with
      | true => rw [if_pos (by simp [hr]), if_neg (by rintro (h | h | h); · exact b (.inl h)
                                                      · exact b (.inr h)
                                                      · cases h)]
      | false => rw [if_neg (by simp [hr]), if_pos (.inr (.inr rfl))]
theorem madeE_bad {n : Int} {f : List (List Int)} {l : List Opx} {i : Nat} (h : madeE n f (l.take i) ≠ 0) : madeE n f l = madeE n f (l.take i) := by
  unfold madeE at h ⊢
  by_cases a : formsG f ≠ 0
  · rw [if_pos a, if_pos a]
  · rw [if_neg a] at h ⊢
    rw [if_neg a]
    by_cases b : n < 1 ∨ 5 < n
    · rw [if_pos b, if_pos b]
    · rw [if_neg b] at h ⊢
      rw [if_neg b]
      have hall : ¬ (l.take i).all (rightX n f) = true := fun hh => by rw [if_pos hh] at h; exact h rfl
      have hl : ¬ l.all (rightX n f) = true := fun hh => hall (by
        rw [List.all_eq_true] at hh ⊢
        exact fun x hx => hh x (List.mem_of_mem_take hx))
      rw [if_neg hall, if_neg hl]
theorem madeE_0 {n : Int} {f : List (List Int)} {l : List Opx} (h : madeE n f l = 0) : formsG f = 0 ∧ ∀ x ∈ l, checkG n f x = 0 := by
  unfold madeE at h
  by_cases a : formsG f ≠ 0
  · rw [if_pos a] at h; exact (a h).elim
  · rw [if_neg a] at h
    by_cases b : n < 1 ∨ 5 < n
    · rw [if_pos b] at h; cases h
    · rw [if_neg b] at h
      have hall : l.all (rightX n f) = true := by
        cases hh : l.all (rightX n f) with
        | true => rfl
        | false => rw [hh] at h; simp at h
      refine ⟨Decidable.of_not_not a, fun x hx => ?_⟩
      have hr := List.all_eq_true.1 hall x hx
      unfold checkG
      rw [if_neg a, if_neg (by
        rintro (h | h | h)
        · exact b (.inl h)
        · exact b (.inr h)
        · rw [hr] at h; cases h)]
set_option maxHeartbeats 4000000 in
theorem AuditExact_ok (n : Int) (f : List (List Int)) (l : List Opx) (v : List Int) (hn : ∀ x ∈ l, inI x.dot.n) : FnB Tryz.prog 4 [vi n, tbs .b f, ops .b l, ints .b v] (vb true) := by
  refine fnB_intro cf4 (by simp) ?_
  simp +contextual (maxSteps := 1000000) only [go_sem, ints, intRows, reduceAdd, Nat.reduceBEq, reduceEqDiff, reduceLeDiff, Nat.reduceLT, reduceIte, reduceLE, Int.reduceLT, reduceEq, reduceNeg, reduceToNat, ops, vals, dots, c4, tbs]
  first | refine caS_i (HeavyForms_ok f) trivial ?_ | refine caD_i (HeavyForms_ok f) trivial ?_ | refine gC_i (fun _ => HeavyForms_ok f) trivial ?_ | refine gCD_i (fun _ => HeavyForms_ok f) trivial ?_ | refine caE_i (HeavyForms_ok f) trivial ?_
  simp +contextual (maxSteps := 1000000) only [go_sem, ints, intRows, reduceAdd, Nat.reduceBEq, reduceEqDiff, reduceLeDiff, Nat.reduceLT, reduceIte, reduceLE, Int.reduceLT, reduceEq, reduceNeg, reduceToNat, ops, vals, dots, tbs]
  first | refine caS_i (HeavyOs_ok l) trivial ?_ | refine caD_i (HeavyOs_ok l) trivial ?_ | refine gC_i (fun _ => HeavyOs_ok l) trivial ?_ | refine gCD_i (fun _ => HeavyOs_ok l) trivial ?_ | refine caE_i (HeavyOs_ok l) trivial ?_
  simp +contextual (maxSteps := 1000000) only [go_sem, ints, intRows, reduceAdd, Nat.reduceBEq, reduceEqDiff, reduceLeDiff, Nat.reduceLT, reduceIte, reduceLE, Int.reduceLT, reduceEq, reduceNeg, reduceToNat, ops, vals, dots, tbs]
  refine fun hb => ?_
  simp only [Bool.or_eq_false_iff, decide_eq_false_iff_not, Bool.not_eq_false', decide_eq_true_eq] at hb
  obtain ⟨⟨⟨hf1, hh1⟩, hl⟩, hv⟩ := hb
  have hok := heavyOs_ok hh1 hn
  have hfl := heavyF_lenE hf1
  have hl : l.length ≤ 40 := by omega
  have hv : v.length ≤ 30 := by omega
  have hxs : ∀ x ∈ l, OkO x ∧ x.dots.length ≤ 100 := fun x hx => ⟨hok x hx, heavyOs_dots hh1 x hx⟩
  first | refine caS_i (TwinOps_ok (fl := .b) l (by omega) hok) trivial ?_ | refine caD_i (TwinOps_ok (fl := .b) l (by omega) hok) trivial ?_ | refine gC_i (fun _ => TwinOps_ok (fl := .b) l (by omega) hok) trivial ?_ | refine gCD_i (fun _ => TwinOps_ok (fl := .b) l (by omega) hok) trivial ?_ | refine caE_i (TwinOps_ok (fl := .b) l (by omega) hok) trivial ?_
  simp +contextual (maxSteps := 1000000) only [go_sem, ints, intRows, reduceAdd, Nat.reduceBEq, reduceEqDiff, reduceLeDiff, Nat.reduceLT, reduceIte, reduceLE, Int.reduceLT, reduceEq, reduceNeg, reduceToNat, ops, vals, dots, tbs]
  first | refine caS_i (TwinForms_ok (fl := .b) f hfl.1 hfl.2) trivial ?_ | refine caD_i (TwinForms_ok (fl := .b) f hfl.1 hfl.2) trivial ?_ | refine gC_i (fun _ => TwinForms_ok (fl := .b) f hfl.1 hfl.2) trivial ?_ | refine gCD_i (fun _ => TwinForms_ok (fl := .b) f hfl.1 hfl.2) trivial ?_ | refine caE_i (TwinForms_ok (fl := .b) f hfl.1 hfl.2) trivial ?_
  simp +contextual (maxSteps := 1000000) only [go_sem, ints, intRows, reduceAdd, Nat.reduceBEq, reduceEqDiff, reduceLeDiff, Nat.reduceLT, reduceIte, reduceLE, Int.reduceLT, reduceEq, reduceNeg, reduceToNat, ops, vals, dots, tbs]
  first | refine caS_i (AMade_ok (fl := .b) (fm := .b) n f l (by omega) hxs) trivial ?_ | refine caD_i (AMade_ok (fl := .b) (fm := .b) n f l (by omega) hxs) trivial ?_ | refine gC_i (fun _ => AMade_ok (fl := .b) (fm := .b) n f l (by omega) hxs) trivial ?_ | refine gCD_i (fun _ => AMade_ok (fl := .b) (fm := .b) n f l (by omega) hxs) trivial ?_ | refine caE_i (AMade_ok (fl := .b) (fm := .b) n f l (by omega) hxs) trivial ?_
  simp +contextual (maxSteps := 1000000) only [go_sem, ints, intRows, reduceAdd, Nat.reduceBEq, reduceEqDiff, reduceLeDiff, Nat.reduceLT, reduceIte, reduceLE, Int.reduceLT, reduceEq, reduceNeg, reduceToNat, ops, vals, dots, tbs]
  first | refine caS_i (AVector_ok (fl := .b) n l (by unfold maxLen; omega)) trivial ?_ | refine caD_i (AVector_ok (fl := .b) n l (by unfold maxLen; omega)) trivial ?_ | refine gC_i (fun _ => AVector_ok (fl := .b) n l (by unfold maxLen; omega)) trivial ?_ | refine gCD_i (fun _ => AVector_ok (fl := .b) n l (by unfold maxLen; omega)) trivial ?_ | refine caE_i (AVector_ok (fl := .b) n l (by unfold maxLen; omega)) trivial ?_
  simp +contextual (maxSteps := 1000000) only [go_sem, ints, intRows, reduceAdd, Nat.reduceBEq, reduceEqDiff, reduceLeDiff, Nat.reduceLT, reduceIte, reduceLE, Int.reduceLT, reduceEq, reduceNeg, reduceToNat, ops, vals, dots, tbs]
  first | refine caS_i (Closed_ok (fl := .b) n l (by unfold maxLen; omega) hn) trivial ?_ | refine caD_i (Closed_ok (fl := .b) n l (by unfold maxLen; omega) hn) trivial ?_ | refine gC_i (fun _ => Closed_ok (fl := .b) n l (by unfold maxLen; omega) hn) trivial ?_ | refine gCD_i (fun _ => Closed_ok (fl := .b) n l (by unfold maxLen; omega) hn) trivial ?_ | refine caE_i (Closed_ok (fl := .b) n l (by unfold maxLen; omega) hn) trivial ?_
  simp +contextual (maxSteps := 1000000) only [go_sem, ints, intRows, reduceAdd, Nat.reduceBEq, reduceEqDiff, reduceLeDiff, Nat.reduceLT, reduceIte, reduceLE, Int.reduceLT, reduceEq, reduceNeg, reduceToNat, ops, vals, dots, tbs]
  refine rcS_i (OfS_ok (fl := .b) (fm := .b) (by omega) hok fun o ob1 n1 hn1 hOz hfr => ?_)
  obtain ⟨fo, orows, ho1, ho2⟩ := hOz.resB 3
  have hob : sameL eqO l l = true := sameL_rfl eqO_rfl l
  have hoo : sameL eqO (ofT l v) (ofT l v) = true := sameL_rfl eqO_rfl _
  have hofl : (ofT l v).length ≤ 40 := by
    have := filter_len (p := fun x => hasB v x.dot) (l := l)
    unfold ofT; omega
  have hofm : ∀ x ∈ ofT l v, x ∈ l := fun x hx => (List.mem_filter.1 hx).1
  simp +contextual (maxSteps := 1000000) only [go_sem, ints, intRows, reduceAdd, Nat.reduceBEq, reduceEqDiff, reduceLeDiff, Nat.reduceLT, reduceIte, reduceLE, Int.reduceLT, reduceEq, reduceNeg, reduceToNat, ops, vals, dots, tbs]
  first | refine caS_i (KOps_ok (fl := .b) (fm := .b) l l (by unfold maxLen; omega) hok) trivial ?_ | refine caD_i (KOps_ok (fl := .b) (fm := .b) l l (by unfold maxLen; omega) hok) trivial ?_ | refine gC_i (fun _ => KOps_ok (fl := .b) (fm := .b) l l (by unfold maxLen; omega) hok) trivial ?_ | refine gCD_i (fun _ => KOps_ok (fl := .b) (fm := .b) l l (by unfold maxLen; omega) hok) trivial ?_ | refine caE_i (KOps_ok (fl := .b) (fm := .b) l l (by unfold maxLen; omega) hok) trivial ?_
  rw [hob]
  simp +contextual (maxSteps := 1000000) only [go_sem, ints, intRows, reduceAdd, Nat.reduceBEq, reduceEqDiff, reduceLeDiff, Nat.reduceLT, reduceIte, reduceLE, Int.reduceLT, reduceEq, reduceNeg, reduceToNat, ops, vals, dots, tbs]
  first | refine caS_i (KForms_ok (fl := .b) (fm := .b) f f hfl.1 hfl.2) trivial ?_ | refine caD_i (KForms_ok (fl := .b) (fm := .b) f f hfl.1 hfl.2) trivial ?_ | refine gC_i (fun _ => KForms_ok (fl := .b) (fm := .b) f f hfl.1 hfl.2) trivial ?_ | refine gCD_i (fun _ => KForms_ok (fl := .b) (fm := .b) f f hfl.1 hfl.2) trivial ?_ | refine caE_i (KForms_ok (fl := .b) (fm := .b) f f hfl.1 hfl.2) trivial ?_
  simp +contextual (maxSteps := 1000000) only [go_sem, ints, intRows, reduceAdd, Nat.reduceBEq, reduceEqDiff, reduceLeDiff, Nat.reduceLT, reduceIte, reduceLE, Int.reduceLT, reduceEq, reduceNeg, reduceToNat, ops, vals, dots, tbs]
  first | refine caS_i (RClosed14_ok (fl := .b) n l (by omega) hn fun x hx => (hok x hx).d) trivial ?_ | refine caD_i (RClosed14_ok (fl := .b) n l (by omega) hn fun x hx => (hok x hx).d) trivial ?_ | refine gC_i (fun _ => RClosed14_ok (fl := .b) n l (by omega) hn fun x hx => (hok x hx).d) trivial ?_ | refine gCD_i (fun _ => RClosed14_ok (fl := .b) n l (by omega) hn fun x hx => (hok x hx).d) trivial ?_ | refine caE_i (RClosed14_ok (fl := .b) n l (by omega) hn fun x hx => (hok x hx).d) trivial ?_
  simp +contextual (maxSteps := 1000000) only [go_sem, ints, intRows, reduceAdd, Nat.reduceBEq, reduceEqDiff, reduceLeDiff, Nat.reduceLT, reduceIte, reduceLE, Int.reduceLT, reduceEq, reduceNeg, reduceToNat, ops, vals, dots, tbs]
  first | refine caS_i (ROf14_ok (fl := .b) (fm := .b) l v (by omega) (by unfold maxLen; omega) hok) trivial ?_ | refine caD_i (ROf14_ok (fl := .b) (fm := .b) l v (by omega) (by unfold maxLen; omega) hok) trivial ?_ | refine gC_i (fun _ => ROf14_ok (fl := .b) (fm := .b) l v (by omega) (by unfold maxLen; omega) hok) trivial ?_ | refine gCD_i (fun _ => ROf14_ok (fl := .b) (fm := .b) l v (by omega) (by unfold maxLen; omega) hok) trivial ?_ | refine caE_i (ROf14_ok (fl := .b) (fm := .b) l v (by omega) (by unfold maxLen; omega) hok) trivial ?_
  simp +contextual (maxSteps := 1000000) only [go_sem, ints, intRows, reduceAdd, Nat.reduceBEq, reduceEqDiff, reduceLeDiff, Nat.reduceLT, reduceIte, reduceLE, Int.reduceLT, reduceEq, reduceNeg, reduceToNat, ops, vals, dots, tbs]
  rw [ho1]
  first | refine caS_i (KOpsX_ok (fl := fo) (fm := .b) (ofT l v) (ofT l v) orows ho2 (by unfold maxLen; omega) fun x hx => hok x (hofm x hx)) trivial ?_ | refine caD_i (KOpsX_ok (fl := fo) (fm := .b) (ofT l v) (ofT l v) orows ho2 (by unfold maxLen; omega) fun x hx => hok x (hofm x hx)) trivial ?_ | refine gC_i (fun _ => KOpsX_ok (fl := fo) (fm := .b) (ofT l v) (ofT l v) orows ho2 (by unfold maxLen; omega) fun x hx => hok x (hofm x hx)) trivial ?_ | refine gCD_i (fun _ => KOpsX_ok (fl := fo) (fm := .b) (ofT l v) (ofT l v) orows ho2 (by unfold maxLen; omega) fun x hx => hok x (hofm x hx)) trivial ?_ | refine caE_i (KOpsX_ok (fl := fo) (fm := .b) (ofT l v) (ofT l v) orows ho2 (by unfold maxLen; omega) fun x hx => hok x (hofm x hx)) trivial ?_
  rw [hoo]
  simp +contextual (maxSteps := 1000000) only [go_sem, ints, intRows, reduceAdd, Nat.reduceBEq, reduceEqDiff, reduceLeDiff, Nat.reduceLT, reduceIte, reduceLE, Int.reduceLT, reduceEq, reduceNeg, reduceToNat, ops, vals, dots, tbs]
  obtain ⟨zr, z1, z2, z3⟩ := hOz.rows fun x hx => by
    have h1 := List.any_eq_false.1 (show l.any heavyO = false by
      unfold heavyOs at hh1; rw [Bool.or_eq_false_iff] at hh1; exact hh1.2) x (hofm x hx)
    have h1 : heavyO x = false := by simpa using h1
    unfold heavyO heavyR at h1
    simp only [Bool.or_eq_false_iff, decide_eq_false_iff_not] at h1
    exact ⟨by omega, by omega, by omega⟩
  refine rcS_i (SpoilOps_ok z1 z3 (by omega) (by omega) fun ob2 n2 hn2 => ?_)
  clear z1 z2 z3 hOz ho1 ho2 hfr
  simp +contextual (maxSteps := 1000000) only [go_sem, ints, intRows, reduceAdd, Nat.reduceBEq, reduceEqDiff, reduceLeDiff, Nat.reduceLT, reduceIte, reduceLE, Int.reduceLT, reduceEq, reduceNeg, reduceToNat, ops, vals, dots, tbs]
  have hE0 : madeE n f [] = if formsG f ≠ 0 then formsG f else if n < 1 ∨ 5 < n then 1 else 0 := by unfold madeE; rfl
  refine cut_ca (fun env ob n' => env 0 = vi n ∧ env 1 = tbs .b f ∧ env 2 = ops .b l ∧ env 9 = ops .b l ∧ env 11 = valTabs .b (madeT n f l) ∧ env 12 = vi (madeE n f l) ∧ env 13 = ints .b (vectorT n l).1 ∧ env 14 = vi (vectorT n l).2 ∧ env 17 = vi (madeE n f [])) ?_ ?_
  · first | refine caS_i (RForms_ok (fl := .b) f hfl.1 hfl.2) trivial ?_ | refine caD_i (RForms_ok (fl := .b) f hfl.1 hfl.2) trivial ?_ | refine gC_i (fun _ => RForms_ok (fl := .b) f hfl.1 hfl.2) trivial ?_ | refine gCD_i (fun _ => RForms_ok (fl := .b) f hfl.1 hfl.2) trivial ?_ | refine caE_i (RForms_ok (fl := .b) f hfl.1 hfl.2) trivial ?_
    simp +contextual (maxSteps := 1000000) only [go_sem, ints, intRows, reduceAdd, Nat.reduceBEq, reduceEqDiff, reduceLeDiff, Nat.reduceLT, reduceIte, reduceLE, Int.reduceLT, reduceEq, reduceNeg, reduceToNat, ops, vals, dots, tbs, valTabs, valRows]
    rw [hE0]
    refine ⟨fun hc => ?_, fun hc => ?_⟩
    · simp only [Bool.and_eq_true, Bool.or_eq_true, decide_eq_true_eq] at hc
      rw [if_neg (by omega), if_pos (by omega)]
    · by_cases h0 : formsG f = 0
      · have h5 : ¬ (n < 1 ∨ 5 < n) := by
          rintro h
          rw [decide_eq_true h0, Bool.true_and, Bool.or_eq_false_iff, decide_eq_false_iff_not, decide_eq_false_iff_not] at hc
          omega
        rw [if_neg (by omega), if_neg h5, h0]
      · rw [if_pos h0]
  clear hn1 hn2 hob hoo
  rintro env ob n' ⟨h0, h1, h2, h9, h11, h12, h13, h14, h17⟩
  simp +contextual (maxSteps := 1000000) only [go_sem, ints, intRows, reduceAdd, Nat.reduceBEq, reduceEqDiff, reduceLeDiff, Nat.reduceLT, reduceIte, reduceLE, Int.reduceLT, reduceEq, reduceNeg, reduceToNat, ops, vals, dots, h0, h1, h2, h9, h11, h12, h13, h14, h17, tbs, valTabs, valRows]
  refine wpC_lp (fun env ob n' => env 0 = vi n ∧ env 1 = tbs .b f ∧ env 2 = ops .b l ∧ env 9 = ops .b l ∧ env 11 = valTabs .b (madeT n f l) ∧ env 12 = vi (madeE n f l) ∧ env 13 = ints .b (vectorT n l).1 ∧ env 14 = vi (vectorT n l).2 ∧ ∃ i : Nat, env 18 = vi i ∧ i ≤ l.length ∧ env 17 = vi (madeE n f (l.take i))) (fun env ob _ => (l.length - iv (env 18)).toNat) ?_ ?_
  · simp +contextual (maxSteps := 1000000) only [go_sem, ints, intRows, reduceAdd, Nat.reduceBEq, reduceEqDiff, reduceLeDiff, Nat.reduceLT, reduceIte, reduceLE, Int.reduceLT, reduceEq, reduceNeg, reduceToNat, ops, vals, dots, h0, h1, h2, h9, h11, h12, h13, h14, h17, tbs, valTabs, valRows]
    exact ⟨0, rfl, by omega, rfl⟩
  clear h0 h1 h2 h9 h11 h12 h13 h14 h17 env ob n'
  rintro env ob n' ⟨h0, h1, h2, h9, h11, h12, h13, h14, i, h18, hi, h17⟩
  have w1 : IntKind.i64.wrap ((i : Int) + 1) = ((i + 1 : Nat) : Int) := by rw [w64 (by omega)]; omega
  simp +contextual (maxSteps := 1000000) only [go_sem, ints, intRows, reduceAdd, Nat.reduceBEq, reduceEqDiff, reduceLeDiff, Nat.reduceLT, reduceIte, reduceLE, Int.reduceLT, reduceEq, reduceNeg, reduceToNat, ops, vals, dots, h0, h1, h2, h9, h11, h12, h13, h14, h17, h18, w1, tbs, valTabs, valRows]
  refine ⟨fun hlt => ?_, fun hge => ?_⟩
  · rw [Bool.and_eq_true, decide_eq_true_eq, decide_eq_true_eq] at hlt
    have hil : i < l.length := by omega
    have hxo := hok _ (gN_mem hil)
    refine ⟨by omega, ?_⟩
    first | refine caS_i (LCheck_ok n f (gN l i) hfl.1 hfl.2 hxo.v hxo.s) trivial ?_ | refine caD_i (LCheck_ok n f (gN l i) hfl.1 hfl.2 hxo.v hxo.s) trivial ?_ | refine gC_i (fun _ => LCheck_ok n f (gN l i) hfl.1 hfl.2 hxo.v hxo.s) trivial ?_ | refine gCD_i (fun _ => LCheck_ok n f (gN l i) hfl.1 hfl.2 hxo.v hxo.s) trivial ?_ | refine caE_i (LCheck_ok n f (gN l i) hfl.1 hfl.2 hxo.v hxo.s) trivial ?_
    simp +contextual (maxSteps := 1000000) only [go_sem, ints, intRows, reduceAdd, Nat.reduceBEq, reduceEqDiff, reduceLeDiff, Nat.reduceLT, reduceIte, reduceLE, Int.reduceLT, reduceEq, reduceNeg, reduceToNat, ops, vals, dots, h0, h1, h2, h9, h11, h12, h13, h14, h17, h18, w1, tbs, valTabs, valRows]
    exact ⟨⟨i + 1, rfl, by omega, by rw [madeE_s hil hlt.2]⟩, by omega⟩
  have hW : madeE n f (l.take i) = madeE n f l := by
    by_cases hz : madeE n f (l.take i) = 0
    · rw [decide_eq_true hz, Bool.and_true, decide_eq_false_iff_not] at hge
      rw [List.take_of_length_le (by omega)]
    · exact (madeE_bad hz).symm
  rw [hW] at h17 ⊢
  clear hge h18 w1 hi hW
  have hmT : madeE n f l ≠ 0 → (madeT n f l).length = 0 := fun h => by unfold madeT; rw [if_neg h]; rfl
  have hzb : ∀ b : Bool, (b && decide (madeE n f l = 0)) = true → madeE n f l = 0 := fun b h => by
    rw [Bool.and_eq_true, decide_eq_true_eq] at h; exact h.2
  refine gC_i (fun hb => RMade14_ok (fl := .b) (fm := .b) (n := n) f l (madeE_0 (hzb _ hb)).1 (by omega) (madeE_0 (hzb _ hb)).2) trivial ?_
  simp +contextual (maxSteps := 1000000) only [go_sem, ints, intRows, reduceAdd, Nat.reduceBEq, reduceEqDiff, reduceLeDiff, Nat.reduceLT, reduceIte, reduceLE, Int.reduceLT, reduceEq, reduceNeg, reduceToNat, ops, vals, dots, h0, h1, h2, h9, h11, h12, h13, h14, h17, tbs, valTabs, valRows]
  have hsm := made_small (n := n) (f := f) (l := l) hfl (by omega) fun x hx => (hxs x hx).2
  have hMM : madeE n f l = 0 → sameL (sameL (sameL eqV)) (madeT n f l) ((List.range f.length).map fun t => seenM (mdesS f l t)) = true := fun h => by
    have : (List.range f.length).map (fun t => seenM (mdesS f l t)) = madeT n f l := by unfold madeT; rw [if_pos h]
    rw [this]; exact sameT_refl _
  refine gC_i (q := vb (sameL (sameL (sameL eqV)) (madeT n f l) ((List.range f.length).map fun t => seenM (mdesS f l t)))) (fun hb => by
    have h := KTables_ok (fl := .b) (fm := .b) (madeT n f l) ((List.range f.length).map fun t => seenM (mdesS f l t)) hsm.1 hsm.2
    unfold valTabs valRows at h
    rw [List.map_map] at h
    exact h) trivial ?_
  generalize hX : sameL (sameL (sameL eqV)) (madeT n f l) ((List.range f.length).map fun t => seenM (mdesS f l t)) = X at *
  simp +contextual (maxSteps := 1000000) only [go_sem, ints, intRows, reduceAdd, Nat.reduceBEq, reduceEqDiff, reduceLeDiff, Nat.reduceLT, reduceIte, reduceLE, Int.reduceLT, reduceEq, reduceNeg, reduceToNat, ops, vals, dots, h0, h1, h2, h9, h11, h12, h13, h14, h17, tbs, valTabs, valRows]
  have hF : ((if decide (madeE n f l = 0) = true then false else decide (0 < ((madeT n f l).length : Int))) || decide (madeE n f l = 0) && !X) = false := by
    by_cases hz : madeE n f l = 0
    · rw [if_pos (decide_eq_true hz), hMM hz]; simp
    · rw [if_neg (by simpa using hz), decide_eq_false hz, hmT hz]; simp
  refine ⟨fun h => (by rw [hF] at h; cases h), fun _ => ⟨⟨by omega, by unfold maxLen; omega⟩, ?_⟩⟩
  clear hF hMM hX hzb hmT hsm h11 h12 h17
  refine wpC_lp (fun env ob n' => env 0 = vi n ∧ env 2 = ops .b l ∧ env 9 = ops .b l ∧ env 13 = ints .b (vectorT n l).1 ∧ env 14 = vi (vectorT n l).2 ∧ ∃ (i W : Nat) (o : List Int), env 21 = vi i ∧ i ≤ l.length ∧ env 19 = vb (decide (1 ≤ n ∧ n ≤ 5) && (l.take i).all (vecOk n)) ∧ env 20 = .sl W 0 (max 0 (min n 5)).toNat ∧ W < n' ∧ ob W = some ⟨1, o.map fun n => [vi n], none⟩ ∧ o.length = (max 0 (min n 5)).toNat ∧ ((decide (1 ≤ n ∧ n ≤ 5) && (l.take i).all (vecOk n)) = true → o = vecF n (l.take i))) (fun env ob _ => (l.length - iv (env 21)).toNat) ?_ ?_
  · simp +contextual (maxSteps := 1000000) only [go_sem, ints, intRows, reduceAdd, Nat.reduceBEq, reduceEqDiff, reduceLeDiff, Nat.reduceLT, reduceIte, reduceLE, Int.reduceLT, reduceEq, reduceNeg, reduceToNat, ops, vals, dots, h0, h1, h2, h9, h13, h14]
    refine ⟨0, _, List.replicate (max 0 (min n 5)).toNat 0, rfl, by omega, ?_, rfl, by omega, by simp [updO], by simp, fun h => ?_⟩
    · simp only [List.take_zero, List.all_nil, Bool.and_true, Bool.decide_and]
    · simp only [List.take_zero, List.all_nil, Bool.and_true, decide_eq_true_eq] at h
      unfold vecF
      rw [List.take_zero, List.foldl_nil, show (max 0 (min n 5)).toNat = n.toNat by omega]
  clear h0 h1 h2 h9 h13 h14 env ob n'
  rintro env ob n' ⟨h0, h2, h9, h13, h14, i, W, o, h21, hi, h19, h20, hW, hob, hol, hoe⟩
  have w1 : IntKind.i64.wrap ((i : Int) + 1) = ((i + 1 : Nat) : Int) := by rw [w64 (by omega)]; omega
  have g9 : ∀ k, (W == n' + k) = false := fun k => by simp; omega
  have g90 : (W == n') = false := by simp; omega
  have gy : ∀ a b, (n' + a == n' + b) = (a == b) := fun a b => by rw [Bool.eq_iff_iff, beq_iff_eq, beq_iff_eq]; omega
  generalize hc : (decide (1 ≤ n ∧ n ≤ 5) && (l.take i).all (vecOk n)) = c at *
  simp +contextual (maxSteps := 1000000) only [go_sem, ints, intRows, reduceAdd, Nat.reduceBEq, reduceEqDiff, reduceLeDiff, Nat.reduceLT, reduceIte, reduceLE, Int.reduceLT, reduceEq, reduceNeg, reduceToNat, ops, vals, dots, h0, h2, h9, h13, h14, h19, h20, h21, hob]
  refine ⟨fun hlt => ?_, fun hge => ?_⟩
  · rw [Bool.and_eq_true, decide_eq_true_eq] at hlt
    have hil : i < l.length := by omega
    refine ⟨by omega, ?_⟩
    generalize hx : gN l i = x at *
    simp +contextual (maxSteps := 1000000) only [go_sem, ints, intRows, reduceAdd, Nat.reduceBEq, reduceEqDiff, reduceLeDiff, Nat.reduceLT, reduceIte, reduceLE, Int.reduceLT, reduceEq, reduceNeg, reduceToNat, ops, vals, dots, h0, h2, h9, h13, h14, h19, h20, h21, hob, hol, g9, g90, gy, w1, Nat.add_assoc, beq_add, Nat.zero_add, Nat.add_zero]
    have hct : (decide (1 ≤ n ∧ n ≤ 5) && (l.take (i + 1)).all (vecOk n)) = (decide (0 ≤ x.dot.p) && decide (x.dot.p < n) && decide (1 ≤ x.dot.n) && decide (x.dot.n ≤ 1073741824)) := by
      rw [take_gN hil, List.all_append, ← Bool.and_assoc, hc, hlt.2, Bool.true_and, hx]
      simp only [List.all_cons, List.all_nil, Bool.and_true, vecOk, Bool.decide_and, Bool.and_assoc]
    have hn5 : 1 ≤ n ∧ n ≤ 5 := by
      have h := hc.trans hlt.2
      rw [Bool.and_eq_true, decide_eq_true_eq] at h; exact h.1
    have hon : W ≠ n' + 12 := by omega
    refine ⟨fun h => ?_, fun h => ?_⟩
    · have hv : 0 ≤ x.dot.p ∧ x.dot.p < n ∧ 1 ≤ x.dot.n ∧ x.dot.n ≤ 1073741824 := by simp at h; omega
      refine ⟨by omega, by omega, by omega, by omega, ⟨i + 1, W, o.set x.dot.p.toNat (max (gN o x.dot.p.toNat) x.dot.n), rfl, by omega, ?_, rfl, by omega, ?_, by rw [List.length_set, hol], fun _ => ?_⟩, by omega⟩
      · rw [hct, h]
      · simp [updO]
      · rw [vecF_take hil, hx, ← hoe hlt.2]
    · refine ⟨⟨i + 1, W, o, rfl, by omega, ?_, rfl, by omega, ?_, hol, fun h' => ?_⟩, by omega⟩
      · rw [hct, h]
      · simp [updO, hon, hob]
      · rw [hct, h] at h'; cases h'
  have hno : c = false → vectorT n l = ([], 1) := fun h => by
    unfold vectorT
    rw [if_neg]
    rintro ⟨a1, a2, a3⟩
    rw [← hc, Bool.and_eq_false_iff, decide_eq_false_iff_not] at h
    rcases h with h | h
    · exact h ⟨a1, a2⟩
    · rw [List.all_eq_true] at a3
      have : (l.take i).all (vecOk n) = true := List.all_eq_true.2 fun x hx => a3 x (List.mem_of_mem_take hx)
      rw [this] at h; cases h
  have hall : c = true → vectorT n l = (vecF n l, 0) ∧ o = vecF n l ∧ o.length = n.toNat := fun h => by
    have hil : l.length ≤ i := by
      rw [h, Bool.and_true, decide_eq_false_iff_not] at hge; omega
    rw [List.take_of_length_le hil] at hc hoe
    have h2 := hc.trans h
    rw [Bool.and_eq_true, decide_eq_true_eq] at h2
    unfold vectorT
    rw [if_pos ⟨h2.1.1, h2.1.2, h2.2⟩]
    exact ⟨rfl, hoe h, by rw [hoe h, vecF_len]⟩
  have hob' : sameL eqO l l = true := sameL_rfl eqO_rfl l
  cases c with
  | false =>
    have e1 := hno rfl
    simp +contextual (maxSteps := 1000000) only [go_sem, ints, intRows, reduceAdd, Nat.reduceBEq, reduceEqDiff, reduceLeDiff, Nat.reduceLT, reduceIte, reduceLE, Int.reduceLT, reduceEq, reduceNeg, reduceToNat, ops, vals, dots, e1, h0, h2, h9, h13, h14, h19, h20, h21, hob, hol]
    first | refine caS_i (KOps_ok (fl := .b) (fm := .b) l l (by unfold maxLen; omega) hok) trivial ?_ | refine caD_i (KOps_ok (fl := .b) (fm := .b) l l (by unfold maxLen; omega) hok) trivial ?_ | refine gC_i (fun _ => KOps_ok (fl := .b) (fm := .b) l l (by unfold maxLen; omega) hok) trivial ?_ | refine gCD_i (fun _ => KOps_ok (fl := .b) (fm := .b) l l (by unfold maxLen; omega) hok) trivial ?_ | refine caE_i (KOps_ok (fl := .b) (fm := .b) l l (by unfold maxLen; omega) hok) trivial ?_
    rw [hob']
    simp +contextual (maxSteps := 1000000) only [go_sem, ints, intRows, reduceAdd, Nat.reduceBEq, reduceEqDiff, reduceLeDiff, Nat.reduceLT, reduceIte, reduceLE, Int.reduceLT, reduceEq, reduceNeg, reduceToNat, ops, vals, dots]
    first | refine caS_i (wakes26_ok) trivial ?_ | refine caD_i (wakes26_ok) trivial ?_ | refine gC_i (fun _ => wakes26_ok) trivial ?_ | refine gCD_i (fun _ => wakes26_ok) trivial ?_ | refine caE_i (wakes26_ok) trivial ?_
    simp +contextual (maxSteps := 1000000) only [go_sem, ints, intRows, reduceAdd, Nat.reduceBEq, reduceEqDiff, reduceLeDiff, Nat.reduceLT, reduceIte, reduceLE, Int.reduceLT, reduceEq, reduceNeg, reduceToNat, ops, vals, dots]
  | true =>
    obtain ⟨e1, e2, e3⟩ := hall rfl
    have htk : List.take (max 0 (min n 5)).toNat (o.map fun n => [vi n]) = (vecF n l).map fun n => [vi n] := by
      rw [← e2, List.take_of_length_le (by rw [List.length_map, hol]; exact Nat.le_refl _)]
    have hrs : List.map (fun r => List.map (resV ob 5) r) ((vecF n l).map fun n => [vi n]) = (vecF n l).map fun n => [vi n] := by rw [List.map_map]; rfl
    simp +contextual (maxSteps := 1000000) only [go_sem, ints, intRows, reduceAdd, Nat.reduceBEq, reduceEqDiff, reduceLeDiff, Nat.reduceLT, reduceIte, reduceLE, Int.reduceLT, reduceEq, reduceNeg, reduceToNat, ops, vals, dots, e1, h0, h2, h9, h13, h14, h19, h20, h21, hob, hol]
    rw [htk, hrs]
    first | refine caS_i (Ints_ok (fl := .b) (fm := .n) (vecF n l) (vecF n l) (by rw [vecF_len]; unfold maxLen; omega)) trivial ?_ | refine caD_i (Ints_ok (fl := .b) (fm := .n) (vecF n l) (vecF n l) (by rw [vecF_len]; unfold maxLen; omega)) trivial ?_ | refine gC_i (fun _ => Ints_ok (fl := .b) (fm := .n) (vecF n l) (vecF n l) (by rw [vecF_len]; unfold maxLen; omega)) trivial ?_ | refine gCD_i (fun _ => Ints_ok (fl := .b) (fm := .n) (vecF n l) (vecF n l) (by rw [vecF_len]; unfold maxLen; omega)) trivial ?_ | refine caE_i (Ints_ok (fl := .b) (fm := .n) (vecF n l) (vecF n l) (by rw [vecF_len]; unfold maxLen; omega)) trivial ?_
    simp +contextual (maxSteps := 1000000) only [go_sem, ints, intRows, reduceAdd, Nat.reduceBEq, reduceEqDiff, reduceLeDiff, Nat.reduceLT, reduceIte, reduceLE, Int.reduceLT, reduceEq, reduceNeg, reduceToNat, ops, vals, dots, h0, h2, h9, e1]
    first | refine caS_i (KOps_ok (fl := .b) (fm := .b) l l (by unfold maxLen; omega) hok) trivial ?_ | refine caD_i (KOps_ok (fl := .b) (fm := .b) l l (by unfold maxLen; omega) hok) trivial ?_ | refine gC_i (fun _ => KOps_ok (fl := .b) (fm := .b) l l (by unfold maxLen; omega) hok) trivial ?_ | refine gCD_i (fun _ => KOps_ok (fl := .b) (fm := .b) l l (by unfold maxLen; omega) hok) trivial ?_ | refine caE_i (KOps_ok (fl := .b) (fm := .b) l l (by unfold maxLen; omega) hok) trivial ?_
    rw [hob']
    simp +contextual (maxSteps := 1000000) only [go_sem, ints, intRows, reduceAdd, Nat.reduceBEq, reduceEqDiff, reduceLeDiff, Nat.reduceLT, reduceIte, reduceLE, Int.reduceLT, reduceEq, reduceNeg, reduceToNat, ops, vals, dots]
    first | refine caS_i (wakes26_ok) trivial ?_ | refine caD_i (wakes26_ok) trivial ?_ | refine gC_i (fun _ => wakes26_ok) trivial ?_ | refine gCD_i (fun _ => wakes26_ok) trivial ?_ | refine caE_i (wakes26_ok) trivial ?_
    simp +contextual (maxSteps := 1000000) only [go_sem, ints, intRows, reduceAdd, Nat.reduceBEq, reduceEqDiff, reduceLeDiff, Nat.reduceLT, reduceIte, reduceLE, Int.reduceLT, reduceEq, reduceNeg, reduceToNat, ops, vals, dots]
theorem AuditExact_law (n : Int) (f : List (List Int)) (l : List Opx) (v : List Int) (_ : gInt .i64 n) (_ : gList gTb f) (hl : gList gOpx l) (_ : gList (gInt .i64) v) : FnB Tryz.prog 4 [vi n, tbs .b f, ops .b l, ints .b v] (vb true) := AuditExact_ok n f l v fun x hx => gi (hl.2 x hx).1.2
end Go.Proofs.YtbojpedklnmidaaGreat.D
end
section
set_option linter.unusedVariables false
set_option linter.unusedSimpArgs false
set_option linter.constructorNameAsVariable false
/- The row of AuditExact, out of what the law answers to plain values. No condition beyond the statement's own. -/
namespace Go.Proofs.YtbojpedklnmidaaGreat.auditExact
open Go.ChangeShapes Go.WideShapes Go.ChangeAt Go.RowKit Go.Proofs.YtbojpedklnmidaaGreat.D
open Go.ChangeMaps (open_string shut_string)
theorem own : ownKnob Tryz.prog.godebug = none := by kernel_rfl
theorem laidOut : laidOutB Tryz.prog = true := by kernel_rfl
theorem opn46 {H : Type} {enc : TypeId × Value → H} : Opn enc Tryz.prog 46 tbV gTb := by
  intro W base sp held fuel cs x h
  obtain ⟨xs, n, rfl, rfl, hl, hxl, hf⟩ := DataW.trod_struct Tryz.underlying46 h
  obtain ⟨a0, K0, G0⟩ := opn_field (sz := 1) hxl hf 0 _ rfl (opn_slice (sz := 1) Tryz.underlying28 (opn_int Tryz.underlying3) (by kernel_rfl) (by decide) (fun _ => rfl)) (by kernel_rfl)
  have hc : Tryz.prog.cellsOf 46 = 1 := by kernel_rfl
  rw [hc] at hl
  exact ⟨a0, (rv_last K0 hl), G0⟩
theorem opn32 {H : Type} {enc : TypeId × Value → H} : Opn enc Tryz.prog 32 dotV gDt := by
  intro W base sp held fuel cs x h
  obtain ⟨xs, n, rfl, rfl, hl, hxl, hf⟩ := DataW.trod_struct Tryz.underlying32 h
  obtain ⟨a0, K0, G0⟩ := opn_field (sz := 1) hxl hf 0 _ rfl (opn_int Tryz.underlying3) (by kernel_rfl)
  obtain ⟨a1, K1, G1⟩ := opn_field (sz := 1) hxl hf 1 _ rfl (opn_int Tryz.underlying3) (by kernel_rfl)
  have hc : Tryz.prog.cellsOf 32 = 2 := by kernel_rfl
  rw [hc] at hl
  exact ⟨⟨a0, a1⟩, (rv_fields K0 (rv_last K1 hl)), ⟨G0, G1⟩⟩
theorem opn34 {H : Type} {enc : TypeId × Value → H} : Opn enc Tryz.prog 34 stV gSt3 := by
  intro W base sp held fuel cs x h
  obtain ⟨xs, n, rfl, rfl, hl, hxl, hf⟩ := DataW.trod_struct Tryz.underlying34 h
  obtain ⟨a0, K0, G0⟩ := opn_field (sz := 1) hxl hf 0 _ rfl (opn_int Tryz.underlying3) (by kernel_rfl)
  obtain ⟨a1, K1, G1⟩ := opn_field (sz := 1) hxl hf 1 _ rfl (opn_int Tryz.underlying3) (by kernel_rfl)
  obtain ⟨a2, K2, G2⟩ := opn_field (sz := 1) hxl hf 2 _ rfl (opn_int Tryz.underlying3) (by kernel_rfl)
  have hc : Tryz.prog.cellsOf 34 = 3 := by kernel_rfl
  rw [hc] at hl
  exact ⟨⟨a0, a1, a2⟩, (rv_fields K0 (rv_fields K1 (rv_last K2 hl))), ⟨G0, G1, G2⟩⟩
theorem opn101 {H : Type} {enc : TypeId × Value → H} : Opn enc Tryz.prog 101 vlV gVl := by
  intro W base sp held fuel cs x h
  obtain ⟨xs, n, rfl, rfl, hl, hxl, hf⟩ := DataW.trod_struct Tryz.underlying101 h
  obtain ⟨a0, K0, G0⟩ := opn_field (sz := 1) hxl hf 0 _ rfl (opn_int Tryz.underlying3) (by kernel_rfl)
  obtain ⟨a1, K1, G1⟩ := opn_field (sz := 1) hxl hf 1 _ rfl (opn_int Tryz.underlying3) (by kernel_rfl)
  obtain ⟨a2, K2, G2⟩ := opn_field (sz := 1) hxl hf 2 _ rfl (opn_string Tryz.underlying9) (by kernel_rfl)
  have hc : Tryz.prog.cellsOf 101 = 3 := by kernel_rfl
  rw [hc] at hl
  exact ⟨⟨a0, a1, a2⟩, (rv_fields K0 (rv_fields K1 (rv_last K2 hl))), ⟨G0, G1, G2⟩⟩
theorem opn38 {H : Type} {enc : TypeId × Value → H} : Opn enc Tryz.prog 38 opV gOpx := by
  intro W base sp held fuel cs x h
  obtain ⟨xs, n, rfl, rfl, hl, hxl, hf⟩ := DataW.trod_struct Tryz.underlying38 h
  obtain ⟨a0, K0, G0⟩ := opn_field (sz := 2) hxl hf 0 _ rfl opn32 (by kernel_rfl)
  obtain ⟨a1, K1, G1⟩ := opn_field (sz := 1) hxl hf 1 _ rfl (opn_slice (sz := 1) Tryz.underlying28 (opn_int Tryz.underlying3) (by kernel_rfl) (by decide) (fun _ => rfl)) (by kernel_rfl)
  obtain ⟨a2, K2, G2⟩ := opn_field (sz := 3) hxl hf 2 _ rfl opn34 (by kernel_rfl)
  obtain ⟨a3, K3, G3⟩ := opn_field (sz := 1) hxl hf 3 _ rfl (opn_int Tryz.underlying3) (by kernel_rfl)
  obtain ⟨a4, K4, G4⟩ := opn_field (sz := 1) hxl hf 4 _ rfl (opn_int Tryz.underlying3) (by kernel_rfl)
  obtain ⟨a5, K5, G5⟩ := opn_field (sz := 1) hxl hf 5 _ rfl (opn_string Tryz.underlying9) (by kernel_rfl)
  obtain ⟨a6, K6, G6⟩ := opn_field (sz := 1) hxl hf 6 _ rfl (opn_int Tryz.underlying3) (by kernel_rfl)
  obtain ⟨a7, K7, G7⟩ := opn_field (sz := 1) hxl hf 7 _ rfl (opn_slice (sz := 3) Tryz.underlying35 opn101 (by kernel_rfl) (by decide) (fun _ => rfl)) (by kernel_rfl)
  obtain ⟨a8, K8, G8⟩ := opn_field (sz := 1) hxl hf 8 _ rfl (opn_slice (sz := 2) Tryz.underlying36 opn32 (by kernel_rfl) (by decide) (fun _ => rfl)) (by kernel_rfl)
  have hc : Tryz.prog.cellsOf 38 = 12 := by kernel_rfl
  rw [hc] at hl
  exact ⟨⟨a0, a1, a2, a3, a4, a5, a6, a7, a8⟩, (rv_fields K0 (rv_fields K1 (rv_fields K2 (rv_fields K3 (rv_fields K4 (rv_fields K5 (rv_fields K6 (rv_fields K7 (rv_last K8 hl))))))))), ⟨G0, G1, G2, G3, G4, G5, G6, G7, G8⟩⟩
set_option maxRecDepth 100000 in
set_option maxHeartbeats 2000000 in
theorem lifted (os : Os) (started : os.Started) (H : Type) (enc : TypeId × Value → H) :
    ReturnsInHanded {} Tryz.checked os 4 .any (Rows.auditExactSpec.pre6 enc Tryz.prog Tryz.f4 Rows.auditExactRow.domain false) (Rows.auditExactSpec.post enc Tryz.prog Tryz.f4 false true false false) := by
  refine returnsInHanded_of_change_sized (C := Tryz.checked) own started (by kernel_rfl) Tryz.func4
    (ChangeSpec.witness6 (enc := enc) (C := Tryz.checked) false ⟨#[], #[.int .i64 0, .slice none 0 0, .slice none 0 0, .slice none 0 0], []⟩ 8 (by kernel_rfl) (by kernel_rfl) (by kernel_rfl) (by kernel_rfl)) ?_
  intro W base args ds gs before hval0 hW hcnd hsz0 _
  have hval : ∀ (j : Nat) t v, Tryz.f4.params[j]? = some t → args[j]? = some v → Value.okWide Tryz.prog W .any base t v := hval0
  have hW' := hW
  obtain ⟨p, q, hA0, hV, rfl, hfz, hnd⟩ := hW
  have hA : DataW.TrodAll enc Tryz.prog W 0 (fun _ => true) true Tryz.f4.params.toList args.toList ds p := hA0
  rw [Tryz.params4] at hA hval
  obtain ⟨v0, vs0, d0, ds0, p0, q0, hargs, rfl, rfl, h0, r0⟩ := trodAll_cons hA
  obtain ⟨v1, vs1, d1, ds1, p1, q1, rfl, rfl, rfl, h1, r1⟩ := trodAll_cons r0
  obtain ⟨v2, vs2, d2, ds2, p2, q2, rfl, rfl, rfl, h2, r2⟩ := trodAll_cons r1
  obtain ⟨v3, vs3, d3, ds3, p3, q3, rfl, rfl, rfl, h3, r3⟩ := trodAll_cons r2
  obtain ⟨rfl, rfl, rfl⟩ := trodAll_nil r3
  obtain rfl : args = #[v0, v1, v2, v3] := by cases args; simp_all
  obtain ⟨rfl, rfl⟩ := trodVars_none hV
  have k0 := h0
  have lt0 : ∀ x ∈ p0, x.block < W.heap.size := by obtain ⟨m, hm⟩ := k0; exact DataW.trod_lt m _ _ _ hm
  obtain ⟨_, e0⟩ := okWide_int Tryz.underlying3 (hval 0 3 v0 rfl rfl)
  obtain ⟨a0, R0, G0⟩ := arg_one (opn_int Tryz.underlying3) (by rw [e0]; rfl) h0
  have k1 := h1
  have lt1 : ∀ x ∈ p1, x.block < W.heap.size := by obtain ⟨m, hm⟩ := k1; exact DataW.trod_lt m _ _ _ hm
  obtain ⟨_, _, _, e1⟩ := okWide_slice Tryz.underlying22 (hval 1 22 v1 rfl rfl)
  obtain ⟨a1, R1, G1⟩ := arg_one (opn_slice (sz := 1) Tryz.underlying22 opn46 (by kernel_rfl) (by decide) (fun _ => rfl)) (by rw [e1]; rfl) h1
  have k2 := h2
  have lt2 : ∀ x ∈ p2, x.block < W.heap.size := by obtain ⟨m, hm⟩ := k2; exact DataW.trod_lt m _ _ _ hm
  obtain ⟨_, _, _, e2⟩ := okWide_slice Tryz.underlying23 (hval 2 23 v2 rfl rfl)
  obtain ⟨a2, R2, G2⟩ := arg_one (opn_slice (sz := 12) Tryz.underlying23 opn38 (by kernel_rfl) (by decide) (fun _ => rfl)) (by rw [e2]; rfl) h2
  have k3 := h3
  have lt3 : ∀ x ∈ p3, x.block < W.heap.size := by obtain ⟨m, hm⟩ := k3; exact DataW.trod_lt m _ _ _ hm
  obtain ⟨_, _, _, e3⟩ := okWide_slice Tryz.underlying28 (hval 3 28 v3 rfl rfl)
  obtain ⟨a3, R3, G3⟩ := arg_one (opn_slice (sz := 1) Tryz.underlying28 (opn_int Tryz.underlying3) (by kernel_rfl) (by decide) (fun _ => rfl)) (by rw [e3]; rfl) h3
  clear hA0 hval0 hsz0
  have hfn := AuditExact_law a0 a1 a2 a3 G0 G1 G2 G3
  refine (hfn.2 bkA W [v0, v1, v2, v3] (RVs_cons R0 (RVs_cons R1 (RVs_cons R2 (RVs_cons R3 RVs_nil))))).mono fun e W' ⟨x, he, hr, bel⟩ => ?_
  subst he
  obtain rfl := res_true hr
  exact ⟨_, rfl, _, _, _, [], _, [], hW', trodAll_mk1 (shut_bool Tryz.underlying4 _), (trodAll_cons_mk (Below.trod laidOut (by kernel_rfl) (of_decide_eq_true (by kernel_rfl)) k0 bel lt0) (trodAll_cons_mk (Below.trod laidOut (by kernel_rfl) (of_decide_eq_true (by kernel_rfl)) k1 bel lt1) (trodAll_cons_mk (Below.trod laidOut (by kernel_rfl) (of_decide_eq_true (by kernel_rfl)) k2 bel lt2) (trodAll_cons_mk (Below.trod laidOut (by kernel_rfl) (of_decide_eq_true (by kernel_rfl)) k3 bel lt3) trodAll_mk0)))), rfl, bel.frame _, fun h => by cases h⟩
theorem over : Rows.auditExactRow.holds Tryz.pinned (OpenSpec.ofChange Rows.auditExactSpec) :=
  OpenClaim.holds_of_wide 4 Tryz.f4 rfl rfl rfl rfl rfl rfl rfl ⟨rfl, rfl, rfl, rfl, rfl⟩ rfl rfl rfl rfl rfl (by kernel_rfl) Tryz.func4 (by kernel_rfl)
    (of_decide_eq_true (by kernel_rfl)) (by unfold Func.isWrapper; first | (rw [if_pos (by decide +kernel)]; kernel_rfl) | (rw [if_neg (by decide +kernel)]; exact ⟨rfl, rfl⟩))
    (fun os started H enc _ => lifted os started H enc)
theorem proved : Rows.AuditExactSaid := over
#print axioms proved
end Go.Proofs.YtbojpedklnmidaaGreat.auditExact
namespace Go.Proofs.YtbojpedklnmidaaGreat
theorem auditExact_holds : Rows.AuditExactSaid := auditExact.proved
end Go.Proofs.YtbojpedklnmidaaGreat
end
