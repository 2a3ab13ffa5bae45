/- AuditExact, packed. No condition beyond the statement's own. -/
import Derived.Test.YtbojpedklnmidaaGreatMAuditExactc
import Derived.Lib.Bytealg
import Derived.Sort.Walk0
import Derived.Lib.Overlaps
import Derived.Shelf.Sort.Plain
import Derived.Shelf.Slices.In.SortNone
import Derived.Test.YtbojpedklnmidaaGreatProg
section
set_option linter.unusedVariables false
set_option linter.unusedSimpArgs false
set_option maxRecDepth 100000
set_option linter.constructorNameAsVariable false

/- Operations as plain values; what functions of slices answer to them. No condition. -/
namespace Go.Proofs.YtbojpedklnmidaaGreat.D
open Go Go.Proofs
open Nat (reduceAdd reduceEqDiff reduceLeDiff)
open Int (reduceLE reduceEq reduceNeg reduceToNat)
structure Vl where
  k : Int
  i : Int
  s : ByteArray
instance : Inhabited Vl := ⟨⟨0, 0, ⟨#[]⟩⟩⟩
def vlV (v : Vl) : List V := [vi v.k, vi v.i, .c (.string v.s)]
structure St3 where
  p : Int
  l : Int
  q : Int
instance : Inhabited St3 := ⟨⟨0, 0, 0⟩⟩
def stV (s : St3) : List V := [vi s.p, vi s.l, vi s.q]
structure Opx where
  dot : Dt
  deps : List Int
  st : St3
  kind : Int
  table : Int
  key : ByteArray
  col : Int
  vals : List Vl
  dots : List Dt
instance : Inhabited Opx := ⟨⟨default, [], default, 0, 0, ⟨#[]⟩, 0, [], []⟩⟩
def vals (f : Fl) (l : List Vl) : V := .im f (l.map vlV)
def dots (f : Fl) (l : List Dt) : V := .im f (l.map dotV)
def opV (x : Opx) : List V := [vi x.dot.p, vi x.dot.n, ints .b x.deps, vi x.st.p, vi x.st.l, vi x.st.q, vi x.kind, vi x.table, .c (.string x.key), vi x.col, vals .b x.vals, dots .b x.dots]
def ops (f : Fl) (l : List Opx) : V := .im f (l.map opV)
@[go_sem] theorem opV_d1 (x : Opx) : (opV x).drop 1 = [vi x.dot.n, ints .b x.deps, vi x.st.p, vi x.st.l, vi x.st.q, vi x.kind, vi x.table, .c (.string x.key), vi x.col, vals .b x.vals, dots .b x.dots] := (rfl)
@[go_sem] theorem opV_d2 (x : Opx) : (opV x).drop 2 = [ints .b x.deps, vi x.st.p, vi x.st.l, vi x.st.q, vi x.kind, vi x.table, .c (.string x.key), vi x.col, vals .b x.vals, dots .b x.dots] := (rfl)
@[go_sem] theorem opV_d3 (x : Opx) : (opV x).drop 3 = [vi x.st.p, vi x.st.l, vi x.st.q, vi x.kind, vi x.table, .c (.string x.key), vi x.col, vals .b x.vals, dots .b x.dots] := (rfl)
@[go_sem] theorem opV_d4 (x : Opx) : (opV x).drop 4 = [vi x.st.l, vi x.st.q, vi x.kind, vi x.table, .c (.string x.key), vi x.col, vals .b x.vals, dots .b x.dots] := (rfl)
@[go_sem] theorem opV_d5 (x : Opx) : (opV x).drop 5 = [vi x.st.q, vi x.kind, vi x.table, .c (.string x.key), vi x.col, vals .b x.vals, dots .b x.dots] := (rfl)
@[go_sem] theorem opV_d6 (x : Opx) : (opV x).drop 6 = [vi x.kind, vi x.table, .c (.string x.key), vi x.col, vals .b x.vals, dots .b x.dots] := (rfl)
@[go_sem] theorem opV_d7 (x : Opx) : (opV x).drop 7 = [vi x.table, .c (.string x.key), vi x.col, vals .b x.vals, dots .b x.dots] := (rfl)
@[go_sem] theorem opV_d8 (x : Opx) : (opV x).drop 8 = [.c (.string x.key), vi x.col, vals .b x.vals, dots .b x.dots] := (rfl)
@[go_sem] theorem opV_d9 (x : Opx) : (opV x).drop 9 = [vi x.col, vals .b x.vals, dots .b x.dots] := (rfl)
@[go_sem] theorem opV_d10 (x : Opx) : (opV x).drop 10 = [vals .b x.vals, dots .b x.dots] := (rfl)
@[go_sem] theorem opV_d11 (x : Opx) : (opV x).drop 11 = [dots .b x.dots] := (rfl)
@[go_sem] theorem opV_t1 (x : Opx) : (opV x).take 1 = [vi x.dot.p] := (rfl)
@[go_sem] theorem opV_t2 (x : Opx) : (opV x).take 2 = [vi x.dot.p, vi x.dot.n] := (rfl)
@[go_sem] theorem opV_t3 (x : Opx) : (opV x).take 3 = [vi x.dot.p, vi x.dot.n, ints .b x.deps] := (rfl)
@[go_sem] theorem opV_t4 (x : Opx) : (opV x).take 4 = [vi x.dot.p, vi x.dot.n, ints .b x.deps, vi x.st.p] := (rfl)
@[go_sem] theorem opV_t5 (x : Opx) : (opV x).take 5 = [vi x.dot.p, vi x.dot.n, ints .b x.deps, vi x.st.p, vi x.st.l] := (rfl)
@[go_sem] theorem opV_t6 (x : Opx) : (opV x).take 6 = [vi x.dot.p, vi x.dot.n, ints .b x.deps, vi x.st.p, vi x.st.l, vi x.st.q] := (rfl)
@[go_sem] theorem opV_t7 (x : Opx) : (opV x).take 7 = [vi x.dot.p, vi x.dot.n, ints .b x.deps, vi x.st.p, vi x.st.l, vi x.st.q, vi x.kind] := (rfl)
@[go_sem] theorem opV_t8 (x : Opx) : (opV x).take 8 = [vi x.dot.p, vi x.dot.n, ints .b x.deps, vi x.st.p, vi x.st.l, vi x.st.q, vi x.kind, vi x.table] := (rfl)
@[go_sem] theorem opV_t9 (x : Opx) : (opV x).take 9 = [vi x.dot.p, vi x.dot.n, ints .b x.deps, vi x.st.p, vi x.st.l, vi x.st.q, vi x.kind, vi x.table, .c (.string x.key)] := (rfl)
@[go_sem] theorem opV_t10 (x : Opx) : (opV x).take 10 = [vi x.dot.p, vi x.dot.n, ints .b x.deps, vi x.st.p, vi x.st.l, vi x.st.q, vi x.kind, vi x.table, .c (.string x.key), vi x.col] := (rfl)
@[go_sem] theorem opV_t11 (x : Opx) : (opV x).take 11 = [vi x.dot.p, vi x.dot.n, ints .b x.deps, vi x.st.p, vi x.st.l, vi x.st.q, vi x.kind, vi x.table, .c (.string x.key), vi x.col, vals .b x.vals] := (rfl)
@[go_sem] theorem opV_t12 (x : Opx) : (opV x).take 12 = opV x := (rfl)
@[go_sem] theorem opV_d12 (x : Opx) : (opV x).drop 12 = [] := (rfl)
@[go_sem] theorem opV_len (x : Opx) : (opV x).length = 12 := (rfl)
@[go_sem] theorem opV_leaf (x : Opx) : (opV x).all leaf = true := (rfl)
@[go_sem] theorem opV_row (x : Opx) : okRow 12 (opV x) = true := (rfl)
@[go_sem] theorem vlV_row (x : Vl) : okRow 3 (vlV x) = true := (rfl)
@[go_sem] theorem dotV_row (x : Dt) : okRow 2 (dotV x) = true := (rfl)
@[go_sem] theorem res_vl (ob : OB) (n : Nat) (x : Vl) : (vlV x).map (resV ob (n + 1)) = vlV x := (rfl)
@[go_sem] theorem res_dt (ob : OB) (n : Nat) (x : Dt) : (dotV x).map (resV ob (n + 1)) = dotV x := (rfl)
@[go_sem] theorem g_vl (ob : OB) (n : Nat) (x : Vl) : (vlV x).map (gV ob (n + 1)) = vlV x := (rfl)
@[go_sem] theorem g_dt (ob : OB) (n : Nat) (x : Dt) : (dotV x).map (gV ob (n + 1)) = dotV x := (rfl)
@[go_sem] theorem g_op (ob : OB) (n : Nat) (x : Opx) : (opV x).map (gV ob (n + 3)) = opV x := by
  simp [opV, gV, ints, vals, dots, vlV, dotV, Function.comp_def]
@[go_sem] theorem res_op (ob : OB) (n : Nat) (x : Opx) : (opV x).map (resV ob (n + 3)) = opV x := by
  simp [opV, resV, ints, vals, dots, resFl, vlV, dotV, Function.comp_def]
theorem allVals (l : List Vl) : (l.map vlV).all (okRow 3) = true := all_map _ _ (fun _ => rfl) l
theorem allDots (l : List Dt) : (l.map dotV).all (okRow 2) = true := all_map _ _ (fun _ => rfl) l
theorem allOps (l : List Opx) : (l.map opV).all (okRow 12) = true := all_map _ _ (fun _ => rfl) l
theorem gVals (ob' : OB) (l : List Vl) : ∀ r ∈ l.map vlV, r.map (gV ob' 6) = r := g_map _ (fun _ _ => rfl) ob' l
theorem gDots (ob' : OB) (l : List Dt) : ∀ r ∈ l.map dotV, r.map (gV ob' 6) = r := g_map _ (fun _ _ => rfl) ob' l
theorem gOps (ob' : OB) (l : List Opx) : ∀ r ∈ l.map opV, r.map (gV ob' 6) = r := g_map _ (fun ob' a => g_op ob' 3 a) ob' l
theorem CloneVals_ok (v : List Vl) (hv : v.length ≤ maxLen) (f : Fl) : FnB Tryz.prog 102 [vals f v] (vals .o v) := by
  refine fnB_intro cf102 (by simp) ?_
  by_cases h : v = []
  · subst h
    simp +contextual (maxSteps := 1000000) only [go_sem, ints, intRows, reduceAdd, Nat.reduceBEq, reduceEqDiff, reduceLeDiff, Nat.reduceLT, reduceIte, reduceLE, Int.reduceLT, reduceEq, reduceNeg, reduceToNat, c102, vals, List.map_nil]
    refine nxS_app Own.nil (Nat.zero_le _) rfl rfl (by simp [maxLen]) fun v' ob' ho _ => ?_
    simp +contextual (maxSteps := 1000000) only [go_sem, ints, intRows, reduceAdd, Nat.reduceBEq, reduceEqDiff, reduceLeDiff, Nat.reduceLT, reduceIte, reduceLE, Int.reduceLT, reduceEq, reduceNeg, reduceToNat]
    rw [out_own ho (fun ob' => by simp) [] (fun _ => rfl)]; rfl
  · simp +contextual (maxSteps := 1000000) only [go_sem, ints, intRows, reduceAdd, Nat.reduceBEq, reduceEqDiff, reduceLeDiff, Nat.reduceLT, reduceIte, reduceLE, Int.reduceLT, reduceEq, reduceNeg, reduceToNat, c102, vals, h]
    refine nxS_app Own.nil (Nat.zero_le _) rfl (allVals v) (by simpa using hv) fun v' ob' ho _ => ?_
    simp +contextual (maxSteps := 1000000) only [go_sem, ints, intRows, reduceAdd, Nat.reduceBEq, reduceEqDiff, reduceLeDiff, Nat.reduceLT, reduceIte, reduceLE, Int.reduceLT, reduceEq, reduceNeg, reduceToNat]
    rw [List.nil_append] at ho
    rw [out_own ho (fun ob' => gVals ob' v) [] (fun _ => rfl)]; rfl
theorem CloneDots_ok (v : List Dt) (hv : v.length ≤ maxLen) (f : Fl) : FnB Tryz.prog 74 [dots f v] (dots .o v) := by
  refine fnB_intro cf74 (by simp) ?_
  by_cases h : v = []
  · subst h
    simp +contextual (maxSteps := 1000000) only [go_sem, ints, intRows, reduceAdd, Nat.reduceBEq, reduceEqDiff, reduceLeDiff, Nat.reduceLT, reduceIte, reduceLE, Int.reduceLT, reduceEq, reduceNeg, reduceToNat, c74, dots, List.map_nil]
    refine nxS_app Own.nil (Nat.zero_le _) rfl rfl (by simp [maxLen]) fun v' ob' ho _ => ?_
    simp +contextual (maxSteps := 1000000) only [go_sem, ints, intRows, reduceAdd, Nat.reduceBEq, reduceEqDiff, reduceLeDiff, Nat.reduceLT, reduceIte, reduceLE, Int.reduceLT, reduceEq, reduceNeg, reduceToNat]
    rw [out_own ho (fun ob' => by simp) [] (fun _ => rfl)]; rfl
  · simp +contextual (maxSteps := 1000000) only [go_sem, ints, intRows, reduceAdd, Nat.reduceBEq, reduceEqDiff, reduceLeDiff, Nat.reduceLT, reduceIte, reduceLE, Int.reduceLT, reduceEq, reduceNeg, reduceToNat, c74, dots, h]
    refine nxS_app Own.nil (Nat.zero_le _) rfl (allDots v) (by simpa using hv) fun v' ob' ho _ => ?_
    simp +contextual (maxSteps := 1000000) only [go_sem, ints, intRows, reduceAdd, Nat.reduceBEq, reduceEqDiff, reduceLeDiff, Nat.reduceLT, reduceIte, reduceLE, Int.reduceLT, reduceEq, reduceNeg, reduceToNat]
    rw [List.nil_append] at ho
    rw [out_own ho (fun ob' => gDots ob' v) [] (fun _ => rfl)]; rfl
theorem bsl_row {k : Nat} {z l : List V} (ob : OB) (i : Nat) (hz : z.length = k) (h : okRow k l = true) : fill z [(0, k)] [.ag l] = some l ∧ l.take k = l := by
  simp only [okRow, Bool.and_eq_true, beq_iff_eq] at h
  obtain ⟨h1, h2⟩ := h
  refine ⟨?_, by simp [← h1]⟩
  simp only [fill, cellsV, Nat.zero_add]
  rw [if_pos ⟨h1, by simp [hz], h2⟩]
  simp [hz]
theorem op_bsl_r {k : Nat} {z l : List V} (ob : OB) (i : Nat) (hz : z.length = k) (h : okRow k l = true) : opF (.bsl k z [0] 1 true) [.ag l] ob i = some (.im .b [l], []) := by
  obtain ⟨h1, h2⟩ := bsl_row ob i hz h
  simp [opF, h1, h2, h]
theorem op_bsl_o {k : Nat} {z l : List V} (ob : OB) (i : Nat) (hz : z.length = k) (h : okRow k l = true) : opF (.bsl k z [0] 1 false) [.ag l] ob i = some (.sl i 0 1, [(i, some ⟨k, [l], none⟩)]) := by
  obtain ⟨h1, h2⟩ := bsl_row ob i hz h
  simp [opF, h1, h2, h]
section
variable {P : Program} {nid : Nat} {env : Env} {ob : OB} {J : Env → OB → Nat → Prop} {l : List RO} {d : Option Nat} {n k : Nat} {v x : V} {rows xs : List (List V)}
end
section
variable {P : Program} {nid : Nat} {env : Env} {ob : OB} {J : Env → OB → Nat → Prop} {l : List RO} {d : Option Nat} {n k : Nat} {v x : V} {rows xs : List (List V)}
theorem nxD_own {K : Env → OB → Prop} {dl : Ups} (hK : ∀ v' us, ((rows = [] ∧ v' = .z ∧ us = []) ∨ (rows ≠ [] ∧ v' = .sl nid 0 rows.length ∧ us = [(nid, some ⟨k, rows, none⟩)])) → wpD P l (nid + 1) (put env d v') ob (dl ++ us) K) :
    nxD P false d l nid env ob dl K (some (imp (.own k) nid (.im .o rows))) := by
  rw [imp_oi]
  split
  · rename_i h
    exact hK .z [] (.inl ⟨List.eq_nil_of_length_eq_zero h, rfl, rfl⟩)
  · rename_i h
    exact hK _ _ (.inr ⟨fun e => h (by rw [e]; rfl), rfl, rfl⟩)
end
def gVl (v : Vl) : Prop := gInt .i64 v.k ∧ gInt .i64 v.i ∧ gStr v.s
def gSt3 (s : St3) : Prop := gInt .i64 s.p ∧ gInt .i64 s.l ∧ gInt .i64 s.q
end Go.Proofs.YtbojpedklnmidaaGreat.D
end
section
set_option linter.unusedVariables false
set_option linter.unusedSimpArgs false
set_option maxRecDepth 100000
set_option linter.constructorNameAsVariable false

/- Times. No condition. -/
namespace Go.Proofs.YtbojpedklnmidaaGreat.D
open Go Go.Proofs
open Nat (reduceAdd reduceEqDiff reduceLeDiff)
open Int (reduceLE reduceEq reduceNeg reduceToNat)
theorem hIn_ok (n m : Int) : FnB Tryz.prog 157 [vi n, vi m] (vb (decide (0 ≤ n ∧ n ≤ m))) := by
  refine fnB_intro cf157 (by simp) ?_
  simp +contextual (maxSteps := 1000000) only [go_sem, ints, intRows, reduceAdd, Nat.reduceBEq, reduceEqDiff, reduceLeDiff, Nat.reduceLT, reduceIte, reduceLE, Int.reduceLT, reduceEq, reduceNeg, reduceToNat, ops, vals, dots, c157]
  rw [← Bool.decide_and]
@[go_sem] theorem stV_t3 (x : St3) : (stV x).take 3 = stV x := (rfl)
@[go_sem] theorem stV_t1 (x : St3) : (stV x).take 1 = [vi x.p] := (rfl)
@[go_sem] theorem stV_d1 (x : St3) : (stV x).drop 1 = [vi x.l, vi x.q] := (rfl)
@[go_sem] theorem stV_d2 (x : St3) : (stV x).drop 2 = [vi x.q] := (rfl)
@[go_sem] theorem stV_leaf (x : St3) : (stV x).all leaf = true := (rfl)
@[go_sem] theorem stV_len (x : St3) : (stV x).length = 3 := (rfl)
@[go_sem] theorem stV_row (x : St3) : okRow 3 (stV x) = true := (rfl)
@[go_sem] theorem res_st (ob : OB) (n : Nat) (x : St3) : (stV x).map (resV ob (n + 1)) = stV x := (rfl)
@[go_sem] theorem frz1_st (x : St3) : frz1 (.ag (stV x)) = .ag (stV x) := (rfl)
@[go_sem] theorem flat_st (x : St3) : flatV (.ag (stV x)) = true := (rfl)
@[go_sem] theorem g_st (ob : OB) (n : Nat) (x : St3) : (stV x).map (gV ob (n + 1)) = stV x := (rfl)
@[go_sem] theorem op_bsl_st (z : List V) (x : St3) (ob : OB) (i : Nat) (hz : (z.length == 3) = true) : opF (.bsl 3 z [0] 1 true) [.ag (stV x)] ob i = some (.im .b [stV x], []) := op_bsl_r ob i (by simpa using hz) (stV_row x)
def okS (s : St3) : Bool := decide (0 ≤ s.p ∧ s.p ≤ 1099511627776) && decide (0 ≤ s.l ∧ s.l ≤ 65536) && decide (0 ≤ s.q ∧ s.q ≤ 4)
def hlcE (s : St3) : Int := if okS s then 0 else 1
theorem hCheck_ok (s : St3) : FnB Tryz.prog 141 [.ag (stV s)] (vi (hlcE s)) := by
  refine fnB_intro cf141 (by simp) ?_
  simp +contextual (maxSteps := 1000000) only [go_sem, ints, intRows, reduceAdd, Nat.reduceBEq, reduceEqDiff, reduceLeDiff, Nat.reduceLT, reduceIte, reduceLE, Int.reduceLT, reduceEq, reduceNeg, reduceToNat, ops, vals, dots, c141, stV]
  first | refine caS_i (hIn_ok s.p 1099511627776) trivial ?_ | refine caD_i (hIn_ok s.p 1099511627776) trivial ?_ | refine gC_i (fun _ => hIn_ok s.p 1099511627776) trivial ?_ | refine gCD_i (fun _ => hIn_ok s.p 1099511627776) trivial ?_ | refine caE_i (hIn_ok s.p 1099511627776) trivial ?_
  simp +contextual (maxSteps := 1000000) only [go_sem, ints, intRows, reduceAdd, Nat.reduceBEq, reduceEqDiff, reduceLeDiff, Nat.reduceLT, reduceIte, reduceLE, Int.reduceLT, reduceEq, reduceNeg, reduceToNat, ops, vals, dots]
  first | refine caS_i (hIn_ok s.l 65536) trivial ?_ | refine caD_i (hIn_ok s.l 65536) trivial ?_ | refine gC_i (fun _ => hIn_ok s.l 65536) trivial ?_ | refine gCD_i (fun _ => hIn_ok s.l 65536) trivial ?_ | refine caE_i (hIn_ok s.l 65536) trivial ?_
  simp +contextual (maxSteps := 1000000) only [go_sem, ints, intRows, reduceAdd, Nat.reduceBEq, reduceEqDiff, reduceLeDiff, Nat.reduceLT, reduceIte, reduceLE, Int.reduceLT, reduceEq, reduceNeg, reduceToNat, ops, vals, dots]
  first | refine caS_i (hIn_ok s.q 4) trivial ?_ | refine caD_i (hIn_ok s.q 4) trivial ?_ | refine gC_i (fun _ => hIn_ok s.q 4) trivial ?_ | refine gCD_i (fun _ => hIn_ok s.q 4) trivial ?_ | refine caE_i (hIn_ok s.q 4) trivial ?_
  simp +contextual (maxSteps := 1000000) only [go_sem, ints, intRows, reduceAdd, Nat.reduceBEq, reduceEqDiff, reduceLeDiff, Nat.reduceLT, reduceIte, reduceLE, Int.reduceLT, reduceEq, reduceNeg, reduceToNat, ops, vals, dots]
  exact ⟨fun h => by rw [hlcE, okS, h]; rfl, fun h => by rw [hlcE, okS, h]; rfl⟩
def cmpT (a b : St3) : Int := orV [cmpI a.p b.p, cmpI a.l b.l, cmpI a.q b.q]
theorem cmpT_ok (a b : St3) : FnB Tryz.prog 91 [.ag (stV a), .ag (stV b)] (vi (cmpT a b)) := by
  refine fnB_intro cf91 (by simp) ?_
  simp +contextual (maxSteps := 1000000) only [go_sem, ints, intRows, reduceAdd, Nat.reduceBEq, reduceEqDiff, reduceLeDiff, Nat.reduceLT, reduceIte, reduceLE, Int.reduceLT, reduceEq, reduceNeg, reduceToNat, ops, vals, dots, c91, stV]
  first | refine caS_i (cmpI_ok a.p b.p) trivial ?_ | refine caD_i (cmpI_ok a.p b.p) trivial ?_ | refine gC_i (fun _ => cmpI_ok a.p b.p) trivial ?_ | refine gCD_i (fun _ => cmpI_ok a.p b.p) trivial ?_ | refine caE_i (cmpI_ok a.p b.p) trivial ?_
  simp +contextual (maxSteps := 1000000) only [go_sem, ints, intRows, reduceAdd, Nat.reduceBEq, reduceEqDiff, reduceLeDiff, Nat.reduceLT, reduceIte, reduceLE, Int.reduceLT, reduceEq, reduceNeg, reduceToNat, ops, vals, dots]
  first | refine caS_i (cmpI_ok a.l b.l) trivial ?_ | refine caD_i (cmpI_ok a.l b.l) trivial ?_ | refine gC_i (fun _ => cmpI_ok a.l b.l) trivial ?_ | refine gCD_i (fun _ => cmpI_ok a.l b.l) trivial ?_ | refine caE_i (cmpI_ok a.l b.l) trivial ?_
  simp +contextual (maxSteps := 1000000) only [go_sem, ints, intRows, reduceAdd, Nat.reduceBEq, reduceEqDiff, reduceLeDiff, Nat.reduceLT, reduceIte, reduceLE, Int.reduceLT, reduceEq, reduceNeg, reduceToNat, ops, vals, dots]
  first | refine caS_i (cmpI_ok a.q b.q) trivial ?_ | refine caD_i (cmpI_ok a.q b.q) trivial ?_ | refine gC_i (fun _ => cmpI_ok a.q b.q) trivial ?_ | refine gCD_i (fun _ => cmpI_ok a.q b.q) trivial ?_ | refine caE_i (cmpI_ok a.q b.q) trivial ?_
  simp +contextual (maxSteps := 1000000) only [go_sem, ints, intRows, reduceAdd, Nat.reduceBEq, reduceEqDiff, reduceLeDiff, Nat.reduceLT, reduceIte, reduceLE, Int.reduceLT, reduceEq, reduceNeg, reduceToNat, ops, vals, dots]
  first | refine caS_i (cmpOr_ok [cmpI a.p b.p, cmpI a.l b.l, cmpI a.q b.q] (by simp [maxLen])) trivial ?_ | refine caD_i (cmpOr_ok [cmpI a.p b.p, cmpI a.l b.l, cmpI a.q b.q] (by simp [maxLen])) trivial ?_ | refine gC_i (fun _ => cmpOr_ok [cmpI a.p b.p, cmpI a.l b.l, cmpI a.q b.q] (by simp [maxLen])) trivial ?_ | refine gCD_i (fun _ => cmpOr_ok [cmpI a.p b.p, cmpI a.l b.l, cmpI a.q b.q] (by simp [maxLen])) trivial ?_ | refine caE_i (cmpOr_ok [cmpI a.p b.p, cmpI a.l b.l, cmpI a.q b.q] (by simp [maxLen])) trivial ?_
  simp +contextual (maxSteps := 1000000) only [go_sem, ints, intRows, reduceAdd, Nat.reduceBEq, reduceEqDiff, reduceLeDiff, Nat.reduceLT, reduceIte, reduceLE, Int.reduceLT, reduceEq, reduceNeg, reduceToNat, ops, vals, dots, cmpT]
end Go.Proofs.YtbojpedklnmidaaGreat.D
end
section
set_option linter.unusedVariables false
set_option linter.unusedSimpArgs false
set_option maxRecDepth 100000
set_option linter.constructorNameAsVariable false

/- Values. No condition. -/
namespace Go.Proofs.YtbojpedklnmidaaGreat.D
open Go Go.Proofs
open Nat (reduceAdd reduceEqDiff reduceLeDiff)
open Int (reduceLE reduceEq reduceNeg reduceToNat)
theorem within_ok (n m : Int) (hm : IntKind.i64.wrap (0 - m) = -m) : FnB Tryz.prog 156 [vi n, vi m] (vb (decide (-m ≤ n ∧ n ≤ m))) := by
  refine fnB_intro cf156 (by simp) ?_
  simp +contextual (maxSteps := 1000000) only [go_sem, ints, intRows, reduceAdd, Nat.reduceBEq, reduceEqDiff, reduceLeDiff, Nat.reduceLT, reduceIte, reduceLE, Int.reduceLT, reduceEq, reduceNeg, reduceToNat, ops, vals, dots, c156, hm]
  rw [← Bool.decide_and]
@[reducible] def noS : ByteArray := ⟨#[]⟩
theorem toList_inj {a b : ByteArray} (h : a.toList = b.toList) : a = b := by
  have h2 : a.data.toList = b.data.toList := by
    rw [ByteArray.toList_eq, ByteArray.toList_eq] at h
    exact h
  cases a; cases b; simp at h2; simp [h2]
theorem eqStr (a b : ByteArray) : (a.toList = b.toList) = (a = b) := propext ⟨toList_inj, fun h => by rw [h]⟩
@[go_sem] theorem so_eql (a b : ByteArray) : strsOp .eql a b = some (.bool (decide (a.toList = b.toList))) := (rfl)
@[go_sem] theorem so_neq (a b : ByteArray) : strsOp .neq a b = some (.bool (!decide (a.toList = b.toList))) := (rfl)
@[go_sem] theorem vlV_leaf (x : Vl) : (vlV x).all leaf = true := (rfl)
@[go_sem] theorem dotV_leaf (x : Dt) : (dotV x).all leaf = true := (rfl)
@[go_sem] theorem vlV_len (x : Vl) : (vlV x).length = 3 := (rfl)
@[go_sem] theorem vlV_t1 (x : Vl) : (vlV x).take 1 = [vi x.k] := (rfl)
@[go_sem] theorem dotV_t1 (x : Dt) : (dotV x).take 1 = [vi x.p] := (rfl)
@[go_sem] theorem dotV_d1 (x : Dt) : (dotV x).drop 1 = [vi x.n] := (rfl)
@[go_sem] theorem vlV_d1 (x : Vl) : (vlV x).drop 1 = [vi x.i, .c (.string x.s)] := (rfl)
@[go_sem] theorem vlV_d2 (x : Vl) : (vlV x).drop 2 = [.c (.string x.s)] := (rfl)
@[go_sem] theorem vlV_t3 (x : Vl) : (vlV x).take 3 = vlV x := (rfl)
@[go_sem] theorem dotV_len (x : Dt) : (dotV x).length = 2 := (rfl)
@[go_sem] theorem dotV_t2 (x : Dt) : (dotV x).take 2 = dotV x := (rfl)
def okVl (v : Vl) : Bool :=
  if v.k = 1 then decide (v.i = 0) && decide (v.s.toList = noS.toList)
  else if v.k = 2 then (decide (v.i = 0) || decide (v.i = 1)) && decide (v.s.toList = noS.toList)
  else if v.k = 3 then decide (-1152921504606846976 ≤ v.i ∧ v.i ≤ 1152921504606846976) && decide (v.s.toList = noS.toList)
  else if v.k = 4 then decide (v.i = 0) && decide ((v.s.size : Int) ≤ 24) else false
def valE (v : Vl) : Int := if okVl v then 0 else 1
theorem vCheck_ok (v : Vl) : FnB Tryz.prog 155 [.ag (vlV v)] (vi (valE v)) := by
  refine fnB_intro cf155 (by simp) ?_
  have hm : IntKind.i64.wrap (0 - 1152921504606846976) = -1152921504606846976 := by decide
  simp +contextual (maxSteps := 1000000) only [go_sem, ints, intRows, reduceAdd, Nat.reduceBEq, reduceEqDiff, reduceLeDiff, Nat.reduceLT, reduceIte, reduceLE, Int.reduceLT, reduceEq, reduceNeg, reduceToNat, ops, vals, dots, c155, vlV]
  have no : okVl v = false → vi 1 = vi (valE v) := fun h => by rw [valE, h]; rfl
  have yes : okVl v = true → vi 0 = vi (valE v) := fun h => by rw [valE, h]; rfl
  refine ⟨fun h1 => ?_, fun h1 => ⟨fun h2 => ?_, fun h2 => ⟨fun h3 => ?_, fun h3 => ⟨fun h4 => ?_, fun h4 => ?_⟩⟩⟩⟩
  · have e : okVl v = (decide (v.i = 0) && decide (v.s.toList = noS.toList)) := by unfold okVl; rw [if_pos (by simpa using h1)]
    exact ⟨fun h => no (by rw [e, h]), fun h => yes (by rw [e]; rw [Bool.not_eq_false'] at h; exact h)⟩
  · have e : okVl v = ((decide (v.i = 0) || decide (v.i = 1)) && decide (v.s.toList = noS.toList)) := by unfold okVl; rw [if_neg (by simpa using h1), if_pos (by simpa using h2)]
    exact ⟨fun h => no (by rw [e, h]), fun h => yes (by rw [e]; rw [Bool.not_eq_false'] at h; exact h)⟩
  · have e : okVl v = (decide (-1152921504606846976 ≤ v.i ∧ v.i ≤ 1152921504606846976) && decide (v.s.toList = noS.toList)) := by unfold okVl; rw [if_neg (by simpa using h1), if_neg (by simpa using h2), if_pos (by simpa using h3)]
    first | refine caS_i (within_ok v.i 1152921504606846976 hm) trivial ?_ | refine caD_i (within_ok v.i 1152921504606846976 hm) trivial ?_ | refine gC_i (fun _ => within_ok v.i 1152921504606846976 hm) trivial ?_ | refine gCD_i (fun _ => within_ok v.i 1152921504606846976 hm) trivial ?_ | refine caE_i (within_ok v.i 1152921504606846976 hm) trivial ?_
    simp +contextual (maxSteps := 1000000) only [go_sem, ints, intRows, reduceAdd, Nat.reduceBEq, reduceEqDiff, reduceLeDiff, Nat.reduceLT, reduceIte, reduceLE, Int.reduceLT, reduceEq, reduceNeg, reduceToNat, ops, vals, dots]
    exact ⟨fun h => no (by rw [e, h]), fun h => yes (by rw [e]; rw [Bool.not_eq_false'] at h; exact h)⟩
  · have e : okVl v = (decide (v.i = 0) && decide ((v.s.size : Int) ≤ 24)) := by unfold okVl; rw [if_neg (by simpa using h1), if_neg (by simpa using h2), if_neg (by simpa using h3), if_pos (by simpa using h4)]
    exact ⟨fun h => no (by rw [e, h]), fun h => yes (by rw [e]; rw [Bool.not_eq_false'] at h; exact h)⟩
  · exact no (by unfold okVl; rw [if_neg (by simpa using h1), if_neg (by simpa using h2), if_neg (by simpa using h3), if_neg (by simpa using h4)])
def fitsV (v : Vl) (t : Int) : Bool := (decide (t = 2) || decide (t = 3) || decide (t = 4)) && okVl v && (decide (v.k = t) || decide (v.k = 1))
theorem valE_0 (v : Vl) : decide (valE v = 0) = okVl v := by unfold valE; cases okVl v <;> rfl
theorem vFits_ok (v : Vl) (t : Int) : FnB Tryz.prog 140 [.ag (vlV v), vi t] (vb (fitsV v t)) := by
  refine fnB_intro cf140 (by simp) ?_
  simp +contextual (maxSteps := 1000000) only [go_sem, ints, intRows, reduceAdd, Nat.reduceBEq, reduceEqDiff, reduceLeDiff, Nat.reduceLT, reduceIte, reduceLE, Int.reduceLT, reduceEq, reduceNeg, reduceToNat, ops, vals, dots, c140]
  first | refine caS_i (vCheck_ok v) trivial ?_ | refine caD_i (vCheck_ok v) trivial ?_ | refine gC_i (fun _ => vCheck_ok v) trivial ?_ | refine gCD_i (fun _ => vCheck_ok v) trivial ?_ | refine caE_i (vCheck_ok v) trivial ?_
  simp +contextual (maxSteps := 1000000) only [go_sem, ints, intRows, reduceAdd, Nat.reduceBEq, reduceEqDiff, reduceLeDiff, Nat.reduceLT, reduceIte, reduceLE, Int.reduceLT, reduceEq, reduceNeg, reduceToNat, ops, vals, dots, valE_0]
  rfl
def smallV (v : Vl) : Bool := okVl v && (!decide (v.k = 3) || decide (-2147483648 ≤ v.i ∧ v.i ≤ 2147483648))
theorem vSmall_ok (v : Vl) : FnB Tryz.prog 139 [.ag (vlV v)] (vb (smallV v)) := by
  refine fnB_intro cf139 (by simp) ?_
  have hm : IntKind.i64.wrap (0 - 2147483648) = -2147483648 := by decide
  simp +contextual (maxSteps := 1000000) only [go_sem, ints, intRows, reduceAdd, Nat.reduceBEq, reduceEqDiff, reduceLeDiff, Nat.reduceLT, reduceIte, reduceLE, Int.reduceLT, reduceEq, reduceNeg, reduceToNat, ops, vals, dots, c139]
  first | refine caS_i (vCheck_ok v) trivial ?_ | refine caD_i (vCheck_ok v) trivial ?_ | refine gC_i (fun _ => vCheck_ok v) trivial ?_ | refine gCD_i (fun _ => vCheck_ok v) trivial ?_ | refine caE_i (vCheck_ok v) trivial ?_
  simp +contextual (maxSteps := 1000000) only [go_sem, ints, intRows, reduceAdd, Nat.reduceBEq, reduceEqDiff, reduceLeDiff, Nat.reduceLT, reduceIte, reduceLE, Int.reduceLT, reduceEq, reduceNeg, reduceToNat, ops, vals, dots, valE_0]
  first | refine caS_i (within_ok v.i 2147483648 hm) trivial ?_ | refine caD_i (within_ok v.i 2147483648 hm) trivial ?_ | refine gC_i (fun _ => within_ok v.i 2147483648 hm) trivial ?_ | refine gCD_i (fun _ => within_ok v.i 2147483648 hm) trivial ?_ | refine caE_i (within_ok v.i 2147483648 hm) trivial ?_
  simp +contextual (maxSteps := 1000000) only [go_sem, ints, intRows, reduceAdd, Nat.reduceBEq, reduceEqDiff, reduceLeDiff, Nat.reduceLT, reduceIte, reduceLE, Int.reduceLT, reduceEq, reduceNeg, reduceToNat, ops, vals, dots]
  unfold smallV
  cases okVl v <;> by_cases h3 : v.k = 3 <;> simp [h3]
theorem ia_h (ob : OB) (k : Nat) (f : Fl) (r : List V) (l : List (List V)) : iaV ob k (.im f (r :: l)) 0 = if r.length = k then some (.bp r) else none := by
  simp [iaV]
@[go_sem] theorem frz1_vl (x : Vl) : frz1 (.ag (vlV x)) = .ag (vlV x) := (rfl)
@[go_sem] theorem op_bsl_vl (z : List V) (x : Vl) (ob : OB) (i : Nat) (hz : (z.length == 3) = true) : opF (.bsl 3 z [0] 1 true) [.ag (vlV x)] ob i = some (.im .b [vlV x], []) := op_bsl_r ob i (by simpa using hz) (vlV_row x)
@[go_sem] theorem op_bsl_isc (z : List V) (i j : Int) (s : ByteArray) (ob : OB) (n : Nat) (hz : (z.length == 3) = true) : opF (.bsl 3 z [0] 1 true) [.ag [.c (.int .i64 i), .c (.int .i64 j), .c (.string s)]] ob n = some (.im .b [[.c (.int .i64 i), .c (.int .i64 j), .c (.string s)]], []) := op_bsl_vl z ⟨i, j, s⟩ ob n hz
@[go_sem] theorem op_bsl_vlo (z : List V) (x : Vl) (ob : OB) (i : Nat) (hz : (z.length == 3) = true) : opF (.bsl 3 z [0] 1 false) [.ag (vlV x)] ob i = some (.sl i 0 1, [(i, some ⟨3, [vlV x], none⟩)]) := op_bsl_o ob i (by simpa using hz) (vlV_row x)
@[go_sem] theorem op_bsl_isco (z : List V) (i j : Int) (s : ByteArray) (ob : OB) (n : Nat) (hz : (z.length == 3) = true) : opF (.bsl 3 z [0] 1 false) [.ag [.c (.int .i64 i), .c (.int .i64 j), .c (.string s)]] ob n = some (.sl n 0 1, [(n, some ⟨3, [[.c (.int .i64 i), .c (.int .i64 j), .c (.string s)]], none⟩)]) := op_bsl_vlo z ⟨i, j, s⟩ ob n hz
theorem beq_add (n a b : Nat) : (n + a == n + b) = (a == b) := by rw [Bool.eq_iff_iff, beq_iff_eq, beq_iff_eq]; omega
theorem beq_0s (n k : Nat) : (n == n + (k + 1)) = false := by simp
theorem beq_s0 (n k : Nat) : (n + (k + 1) == n) = false := by simp
@[go_sem] theorem op_bsl_dto (z : List V) (i j : Int) (ob : OB) (n : Nat) (hz : (z.length == 2) = true) : opF (.bsl 2 z [0] 1 false) [.ag [.c (.int .i64 i), .c (.int .i64 j)]] ob n = some (.sl n 0 1, [(n, some ⟨2, [[.c (.int .i64 i), .c (.int .i64 j)]], none⟩)]) := op_bsl_o ob n (by simpa using hz) (dotV_row ⟨i, j⟩)
end Go.Proofs.YtbojpedklnmidaaGreat.D
end
section
set_option linter.unusedVariables false
set_option linter.unusedSimpArgs false
set_option maxRecDepth 100000
set_option linter.constructorNameAsVariable false

/- Cells, rows, tables as plain values; functions of slices at them. No condition. -/
namespace Go.Proofs.YtbojpedklnmidaaGreat.D
open Go Go.Proofs
open Nat (reduceAdd reduceEqDiff reduceLeDiff)
open Int (reduceLE reduceEq reduceNeg reduceToNat)
structure Cel where
  v : Vl
  st : St3
  d : Dt
instance : Inhabited Cel := ⟨⟨default, default, default⟩⟩
def celV (c : Cel) : List V := [vi c.v.k, vi c.v.i, .c (.string c.v.s), vi c.st.p, vi c.st.l, vi c.st.q, vi c.d.p, vi c.d.n]
def cels (f : Fl) (l : List Cel) : V := .im f (l.map celV)
structure Rwx where
  key : ByteArray
  dots : List Dt
  cells : List Cel
instance : Inhabited Rwx := ⟨⟨⟨#[]⟩, [], []⟩⟩
def rwV (r : Rwx) : List V := [.c (.string r.key), dots .b r.dots, cels .b r.cells]
def rws (f : Fl) (l : List Rwx) : V := .im f (l.map rwV)
def tbV (cols : List Int) : List V := [ints .b cols]
def tbs (f : Fl) (l : List (List Int)) : V := .im f (l.map tbV)
@[go_sem] theorem celV_leaf (c : Cel) : (celV c).all leaf = true := (rfl)
@[go_sem] theorem celV_len (c : Cel) : (celV c).length = 8 := (rfl)
@[go_sem] theorem celV_row (c : Cel) : okRow 8 (celV c) = true := (rfl)
@[go_sem] theorem celV_t1 (c : Cel) : (celV c).take 1 = [vi c.v.k] := (rfl)
@[go_sem] theorem celV_t3 (c : Cel) : (celV c).take 3 = vlV c.v := (rfl)
@[go_sem] theorem celV_t8 (c : Cel) : (celV c).take 8 = celV c := (rfl)
@[go_sem] theorem celV_d3 (c : Cel) : (celV c).drop 3 = [vi c.st.p, vi c.st.l, vi c.st.q, vi c.d.p, vi c.d.n] := (rfl)
@[go_sem] theorem celV_d6 (c : Cel) : (celV c).drop 6 = dotV c.d := (rfl)
@[go_sem] theorem celV_d8 (c : Cel) : (celV c).drop 8 = [] := (rfl)
@[go_sem] theorem res_cel (ob : OB) (n : Nat) (c : Cel) : (celV c).map (resV ob (n + 1)) = celV c := (rfl)
@[go_sem] theorem g_cel (ob : OB) (n : Nat) (c : Cel) : (celV c).map (gV ob (n + 1)) = celV c := (rfl)
@[go_sem] theorem frz1_cel (c : Cel) : frz1 (.ag (celV c)) = .ag (celV c) := (rfl)
@[go_sem] theorem flat_cel (c : Cel) : flatV (.ag (celV c)) = true := (rfl)
@[go_sem] theorem st_cel (c : Cel) : [vi c.st.p, vi c.st.l, vi c.st.q] = stV c.st := (rfl)
@[go_sem] theorem leaf_cels (f : Fl) (l : List Cel) : leaf (cels f l) = true := (rfl)
@[go_sem] theorem len_cels (f : Fl) (l : List Cel) : lenOf (cels f l) = some l.length := by simp [cels, lenOf]
@[go_sem] theorem rwV_leaf (r : Rwx) : (rwV r).all leaf = true := (rfl)
@[go_sem] theorem rwV_len (r : Rwx) : (rwV r).length = 3 := (rfl)
@[go_sem] theorem rwV_row (r : Rwx) : okRow 3 (rwV r) = true := (rfl)
@[go_sem] theorem rwV_t1 (r : Rwx) : (rwV r).take 1 = [.c (.string r.key)] := (rfl)
@[go_sem] theorem rwV_t3 (r : Rwx) : (rwV r).take 3 = rwV r := (rfl)
@[go_sem] theorem rwV_d1 (r : Rwx) : (rwV r).drop 1 = [dots .b r.dots, cels .b r.cells] := (rfl)
@[go_sem] theorem rwV_d2 (r : Rwx) : (rwV r).drop 2 = [cels .b r.cells] := (rfl)
@[go_sem] theorem rwV_d3 (r : Rwx) : (rwV r).drop 3 = [] := (rfl)
@[go_sem] theorem frz1_rw (r : Rwx) : frz1 (.ag (rwV r)) = .ag (rwV r) := (rfl)
theorem g_dots (ob : OB) (n : Nat) (l : List Dt) : gV ob (n + 2) (dots .b l) = dots .b l := by
  simp only [dots, gV, List.map_map]; congr 1
theorem res_dots (ob : OB) (n : Nat) (f : Fl) (l : List Dt) : resV ob (n + 2) (dots f l) = dots (resFl f) l := by
  simp only [dots, resV, List.map_map]; congr 1
theorem g_cels (ob : OB) (n : Nat) (l : List Cel) : gV ob (n + 2) (cels .b l) = cels .b l := by
  simp only [cels, gV, List.map_map]; congr 1
theorem res_cels (ob : OB) (n : Nat) (f : Fl) (l : List Cel) : resV ob (n + 2) (cels f l) = cels (resFl f) l := by
  simp only [cels, resV, List.map_map]; congr 1
@[go_sem] theorem g_rw (ob : OB) (n : Nat) (r : Rwx) : (rwV r).map (gV ob (n + 3)) = rwV r := by
  simp only [rwV, List.map_cons, List.map_nil, g_dots, g_cels]; rfl
@[go_sem] theorem res_rw (ob : OB) (n : Nat) (r : Rwx) : (rwV r).map (resV ob (n + 3)) = rwV r := by
  simp only [rwV, List.map_cons, List.map_nil, res_dots, res_cels]; rfl
@[go_sem] theorem tbV_len (r : List Int) : (tbV r).length = 1 := (rfl)
@[go_sem] theorem tbV_row (r : List Int) : okRow 1 (tbV r) = true := (rfl)
@[go_sem] theorem tbV_leaf (r : List Int) : (tbV r).all leaf = true := (rfl)
@[go_sem] theorem tbV_t1 (r : List Int) : (tbV r).take 1 = [ints .b r] := (rfl)
@[go_sem] theorem frz1_tb (r : List Int) : frz1 (.ag (tbV r)) = .ag (tbV r) := (rfl)
@[go_sem] theorem res_tb (ob : OB) (n : Nat) (r : List Int) : (tbV r).map (resV ob (n + 2)) = tbV r := by
  simp only [tbV, ints, List.map_cons, List.map_nil, resV, List.map_map]; congr 2
def flg : Bool → Fl
  | false => .b
  | true => .n
structure Rwf where
  r : Rwx
  fd : Bool
  fc : Bool
instance : Inhabited Rwf := ⟨⟨default, false, false⟩⟩
def rwF (x : Rwf) : List V := [.c (.string x.r.key), dots (flg x.fd) x.r.dots, cels (flg x.fc) x.r.cells]
@[go_sem] theorem rwF_leaf (r : Rwf) : (rwF r).all leaf = true := (rfl)
@[go_sem] theorem rwF_len (r : Rwf) : (rwF r).length = 3 := (rfl)
@[go_sem] theorem rwF_row (r : Rwf) : okRow 3 (rwF r) = true := (rfl)
@[go_sem] theorem rwF_t1 (r : Rwf) : (rwF r).take 1 = [.c (.string r.r.key)] := (rfl)
@[go_sem] theorem rwF_t3 (r : Rwf) : (rwF r).take 3 = rwF r := (rfl)
@[go_sem] theorem rwF_d1 (r : Rwf) : (rwF r).drop 1 = [dots (flg r.fd) r.r.dots, cels (flg r.fc) r.r.cells] := (rfl)
@[go_sem] theorem rwF_d2 (r : Rwf) : (rwF r).drop 2 = [cels (flg r.fc) r.r.cells] := (rfl)
@[go_sem] theorem rwF_d3 (r : Rwf) : (rwF r).drop 3 = [] := (rfl)
@[go_sem] theorem frz1_rwF (r : Rwf) : frz1 (.ag (rwF r)) = .ag (rwF r) := (rfl)
@[go_sem] theorem res_flg (b : Bool) : resFl (flg b) = flg b := by cases b <;> rfl
@[go_sem] theorem res_rwF (ob : OB) (n : Nat) (r : Rwf) : (rwF r).map (resV ob (n + 3)) = rwF r := by
  simp only [rwF, List.map_cons, List.map_nil, res_dots, res_cels, res_flg]; rfl
structure Opz extends Opx where
  fd : Bool
instance : Inhabited Opz := ⟨⟨default, false⟩⟩
def opZ (x : Opz) : List V := [vi x.dot.p, vi x.dot.n, ints .b x.deps, vi x.st.p, vi x.st.l, vi x.st.q, vi x.kind, vi x.table, .c (.string x.key), vi x.col, vals .b x.vals, dots (flg x.fd) x.dots]
@[go_sem] theorem opZ_d1 (x : Opz) : (opZ x).drop 1 = [vi x.dot.n, ints .b x.deps, vi x.st.p, vi x.st.l, vi x.st.q, vi x.kind, vi x.table, .c (.string x.key), vi x.col, vals .b x.vals, dots (flg x.fd) x.dots] := (rfl)
@[go_sem] theorem opZ_d2 (x : Opz) : (opZ x).drop 2 = [ints .b x.deps, vi x.st.p, vi x.st.l, vi x.st.q, vi x.kind, vi x.table, .c (.string x.key), vi x.col, vals .b x.vals, dots (flg x.fd) x.dots] := (rfl)
@[go_sem] theorem opZ_d3 (x : Opz) : (opZ x).drop 3 = [vi x.st.p, vi x.st.l, vi x.st.q, vi x.kind, vi x.table, .c (.string x.key), vi x.col, vals .b x.vals, dots (flg x.fd) x.dots] := (rfl)
@[go_sem] theorem opZ_d4 (x : Opz) : (opZ x).drop 4 = [vi x.st.l, vi x.st.q, vi x.kind, vi x.table, .c (.string x.key), vi x.col, vals .b x.vals, dots (flg x.fd) x.dots] := (rfl)
@[go_sem] theorem opZ_d5 (x : Opz) : (opZ x).drop 5 = [vi x.st.q, vi x.kind, vi x.table, .c (.string x.key), vi x.col, vals .b x.vals, dots (flg x.fd) x.dots] := (rfl)
@[go_sem] theorem opZ_d6 (x : Opz) : (opZ x).drop 6 = [vi x.kind, vi x.table, .c (.string x.key), vi x.col, vals .b x.vals, dots (flg x.fd) x.dots] := (rfl)
@[go_sem] theorem opZ_d7 (x : Opz) : (opZ x).drop 7 = [vi x.table, .c (.string x.key), vi x.col, vals .b x.vals, dots (flg x.fd) x.dots] := (rfl)
@[go_sem] theorem opZ_d8 (x : Opz) : (opZ x).drop 8 = [.c (.string x.key), vi x.col, vals .b x.vals, dots (flg x.fd) x.dots] := (rfl)
@[go_sem] theorem opZ_d9 (x : Opz) : (opZ x).drop 9 = [vi x.col, vals .b x.vals, dots (flg x.fd) x.dots] := (rfl)
@[go_sem] theorem opZ_d10 (x : Opz) : (opZ x).drop 10 = [vals .b x.vals, dots (flg x.fd) x.dots] := (rfl)
@[go_sem] theorem opZ_d11 (x : Opz) : (opZ x).drop 11 = [dots (flg x.fd) x.dots] := (rfl)
@[go_sem] theorem opZ_t1 (x : Opz) : (opZ x).take 1 = [vi x.dot.p] := (rfl)
@[go_sem] theorem opZ_t2 (x : Opz) : (opZ x).take 2 = [vi x.dot.p, vi x.dot.n] := (rfl)
@[go_sem] theorem opZ_t3 (x : Opz) : (opZ x).take 3 = [vi x.dot.p, vi x.dot.n, ints .b x.deps] := (rfl)
@[go_sem] theorem opZ_t4 (x : Opz) : (opZ x).take 4 = [vi x.dot.p, vi x.dot.n, ints .b x.deps, vi x.st.p] := (rfl)
@[go_sem] theorem opZ_t5 (x : Opz) : (opZ x).take 5 = [vi x.dot.p, vi x.dot.n, ints .b x.deps, vi x.st.p, vi x.st.l] := (rfl)
@[go_sem] theorem opZ_t6 (x : Opz) : (opZ x).take 6 = [vi x.dot.p, vi x.dot.n, ints .b x.deps, vi x.st.p, vi x.st.l, vi x.st.q] := (rfl)
@[go_sem] theorem opZ_t7 (x : Opz) : (opZ x).take 7 = [vi x.dot.p, vi x.dot.n, ints .b x.deps, vi x.st.p, vi x.st.l, vi x.st.q, vi x.kind] := (rfl)
@[go_sem] theorem opZ_t8 (x : Opz) : (opZ x).take 8 = [vi x.dot.p, vi x.dot.n, ints .b x.deps, vi x.st.p, vi x.st.l, vi x.st.q, vi x.kind, vi x.table] := (rfl)
@[go_sem] theorem opZ_t9 (x : Opz) : (opZ x).take 9 = [vi x.dot.p, vi x.dot.n, ints .b x.deps, vi x.st.p, vi x.st.l, vi x.st.q, vi x.kind, vi x.table, .c (.string x.key)] := (rfl)
@[go_sem] theorem opZ_t10 (x : Opz) : (opZ x).take 10 = [vi x.dot.p, vi x.dot.n, ints .b x.deps, vi x.st.p, vi x.st.l, vi x.st.q, vi x.kind, vi x.table, .c (.string x.key), vi x.col] := (rfl)
@[go_sem] theorem opZ_t11 (x : Opz) : (opZ x).take 11 = [vi x.dot.p, vi x.dot.n, ints .b x.deps, vi x.st.p, vi x.st.l, vi x.st.q, vi x.kind, vi x.table, .c (.string x.key), vi x.col, vals .b x.vals] := (rfl)
@[go_sem] theorem opZ_t12 (x : Opz) : (opZ x).take 12 = opZ x := (rfl)
@[go_sem] theorem opZ_d12 (x : Opz) : (opZ x).drop 12 = [] := (rfl)
@[go_sem] theorem opZ_len (x : Opz) : (opZ x).length = 12 := (rfl)
@[go_sem] theorem opZ_leaf (x : Opz) : (opZ x).all leaf = true := (rfl)
@[go_sem] theorem opZ_row (x : Opz) : okRow 12 (opZ x) = true := (rfl)
@[go_sem] theorem res_opZ (ob : OB) (n : Nat) (x : Opz) : (opZ x).map (resV ob (n + 3)) = opZ x := by
  obtain ⟨o, fd⟩ := x
  cases fd <;> simp [opZ, flg, resV, ints, vals, dots, resFl, vlV, dotV, Function.comp_def]
@[go_sem] theorem frz1_opZ (x : Opz) : frz1 (.ag (opZ x)) = .ag (opZ x) := (rfl)
theorem IndexTbs_ok {fl : Fl} (l : List (List Int)) (f : Nat) (caps : List V) (p : (List Int) → Bool) (hl : l.length ≤ maxLen) (hc : ∀ ob, caps.map (resV ob 6) = caps) (hp : ∀ x ∈ l, FnB Tryz.prog f (.ag (tbV x) :: caps) (vb (p x))) :
    FnB Tryz.prog 124 [tbs fl l, .fn f caps] (vi (idxI p l)) := by
  unfold maxLen at hl
  refine fnB_intro cf124 (by simp) ?_
  simp +contextual (maxSteps := 1000000) only [go_sem, ints, intRows, reduceAdd, Nat.reduceBEq, reduceEqDiff, reduceLeDiff, Nat.reduceLT, reduceIte, reduceLE, Int.reduceLT, reduceEq, reduceNeg, reduceToNat, ops, vals, dots, c124, tbs]
  refine wpC_lp (fun env ob n => env 0 = tbs fl l ∧ env 1 = .fn f caps ∧ env 7 = vi l.length ∧ ∃ i : Nat, env 8 = vi i ∧ i ≤ l.length ∧ ∀ n ∈ l.take i, p n = false) (fun env ob n => (l.length - iv (env 8)).toNat) ?_ ?_
  · simp +contextual (maxSteps := 1000000) only [go_sem, ints, intRows, reduceAdd, Nat.reduceBEq, reduceEqDiff, reduceLeDiff, Nat.reduceLT, reduceIte, reduceLE, Int.reduceLT, reduceEq, reduceNeg, reduceToNat, ops, vals, dots, tbs]
    simp
    exact ⟨0, by simp⟩
  · rintro env ob n ⟨h0, h1, h7, i, h8, hi, he⟩
    simp +contextual (maxSteps := 1000000) only [go_sem, ints, intRows, reduceAdd, Nat.reduceBEq, reduceEqDiff, reduceLeDiff, Nat.reduceLT, reduceIte, reduceLE, Int.reduceLT, reduceEq, reduceNeg, reduceToNat, ops, vals, dots, h0, h1, h7, h8, List.map_append, List.map_cons, hc, tbs]
    refine ⟨fun hlt => ?_, fun hge => ?_⟩
    · simp at hlt
      have hpi := hp (gN l i) (by rw [gN_eq hlt]; exact List.getElem_mem _)
      repeat (refine And.intro (by omega) ?_)
      first | refine caS_i (hpi) trivial ?_ | refine caD_i (hpi) trivial ?_ | refine gC_i (fun _ => hpi) trivial ?_ | refine gCD_i (fun _ => hpi) trivial ?_ | refine caE_i (hpi) trivial ?_
      simp +contextual (maxSteps := 1000000) only [go_sem, ints, intRows, reduceAdd, Nat.reduceBEq, reduceEqDiff, reduceLeDiff, Nat.reduceLT, reduceIte, reduceLE, Int.reduceLT, reduceEq, reduceNeg, reduceToNat, ops, vals, dots, h0, h1, h7, h8, tbs]
      refine ⟨fun hb => ?_, fun hg => ⟨⟨i + 1, ?_, by omega, (take_succ_iff hlt).2 ⟨he, hg⟩⟩, ?_⟩⟩
      · rw [idxI_at hlt he hb]
      · rw [w64 (by omega)]; simp
      · rw [w64 (by omega)]; omega
    · simp at hge
      rw [List.take_of_length_le (by omega)] at he
      rw [idxI_no he]
theorem IndexVals_ok {fl : Fl} (l : List Vl) (f : Nat) (caps : List V) (p : Vl → Bool) (hl : l.length ≤ maxLen) (hc : ∀ ob, caps.map (resV ob 6) = caps) (hp : ∀ x ∈ l, FnB Tryz.prog f (.ag (vlV x) :: caps) (vb (p x))) :
    FnB Tryz.prog 159 [vals fl l, .fn f caps] (vi (idxI p l)) := by
  unfold maxLen at hl
  refine fnB_intro cf159 (by simp) ?_
  simp +contextual (maxSteps := 1000000) only [go_sem, ints, intRows, reduceAdd, Nat.reduceBEq, reduceEqDiff, reduceLeDiff, Nat.reduceLT, reduceIte, reduceLE, Int.reduceLT, reduceEq, reduceNeg, reduceToNat, ops, vals, dots, c159, vals]
  refine wpC_lp (fun env ob n => env 0 = vals fl l ∧ env 1 = .fn f caps ∧ env 7 = vi l.length ∧ ∃ i : Nat, env 8 = vi i ∧ i ≤ l.length ∧ ∀ n ∈ l.take i, p n = false) (fun env ob n => (l.length - iv (env 8)).toNat) ?_ ?_
  · simp +contextual (maxSteps := 1000000) only [go_sem, ints, intRows, reduceAdd, Nat.reduceBEq, reduceEqDiff, reduceLeDiff, Nat.reduceLT, reduceIte, reduceLE, Int.reduceLT, reduceEq, reduceNeg, reduceToNat, ops, vals, dots, vals]
    simp
    exact ⟨0, by simp⟩
  · rintro env ob n ⟨h0, h1, h7, i, h8, hi, he⟩
    simp +contextual (maxSteps := 1000000) only [go_sem, ints, intRows, reduceAdd, Nat.reduceBEq, reduceEqDiff, reduceLeDiff, Nat.reduceLT, reduceIte, reduceLE, Int.reduceLT, reduceEq, reduceNeg, reduceToNat, ops, vals, dots, h0, h1, h7, h8, List.map_append, List.map_cons, hc, vals]
    refine ⟨fun hlt => ?_, fun hge => ?_⟩
    · simp at hlt
      have hpi := hp (gN l i) (by rw [gN_eq hlt]; exact List.getElem_mem _)
      repeat (refine And.intro (by omega) ?_)
      first | refine caS_i (hpi) trivial ?_ | refine caD_i (hpi) trivial ?_ | refine gC_i (fun _ => hpi) trivial ?_ | refine gCD_i (fun _ => hpi) trivial ?_ | refine caE_i (hpi) trivial ?_
      simp +contextual (maxSteps := 1000000) only [go_sem, ints, intRows, reduceAdd, Nat.reduceBEq, reduceEqDiff, reduceLeDiff, Nat.reduceLT, reduceIte, reduceLE, Int.reduceLT, reduceEq, reduceNeg, reduceToNat, ops, vals, dots, h0, h1, h7, h8, vals]
      refine ⟨fun hb => ?_, fun hg => ⟨⟨i + 1, ?_, by omega, (take_succ_iff hlt).2 ⟨he, hg⟩⟩, ?_⟩⟩
      · rw [idxI_at hlt he hb]
      · rw [w64 (by omega)]; simp
      · rw [w64 (by omega)]; omega
    · simp at hge
      rw [List.take_of_length_le (by omega)] at he
      rw [idxI_no he]
theorem IndexDots_ok {fl : Fl} (l : List Dt) (f : Nat) (caps : List V) (p : Dt → Bool) (hl : l.length ≤ maxLen) (hc : ∀ ob, caps.map (resV ob 6) = caps) (hp : ∀ x ∈ l, FnB Tryz.prog f (.ag (dotV x) :: caps) (vb (p x))) :
    FnB Tryz.prog 122 [dots fl l, .fn f caps] (vi (idxI p l)) := by
  unfold maxLen at hl
  refine fnB_intro cf122 (by simp) ?_
  simp +contextual (maxSteps := 1000000) only [go_sem, ints, intRows, reduceAdd, Nat.reduceBEq, reduceEqDiff, reduceLeDiff, Nat.reduceLT, reduceIte, reduceLE, Int.reduceLT, reduceEq, reduceNeg, reduceToNat, ops, vals, dots, c122, dots]
  refine wpC_lp (fun env ob n => env 0 = dots fl l ∧ env 1 = .fn f caps ∧ env 7 = vi l.length ∧ ∃ i : Nat, env 8 = vi i ∧ i ≤ l.length ∧ ∀ n ∈ l.take i, p n = false) (fun env ob n => (l.length - iv (env 8)).toNat) ?_ ?_
  · simp +contextual (maxSteps := 1000000) only [go_sem, ints, intRows, reduceAdd, Nat.reduceBEq, reduceEqDiff, reduceLeDiff, Nat.reduceLT, reduceIte, reduceLE, Int.reduceLT, reduceEq, reduceNeg, reduceToNat, ops, vals, dots, dots]
    simp
    exact ⟨0, by simp⟩
  · rintro env ob n ⟨h0, h1, h7, i, h8, hi, he⟩
    simp +contextual (maxSteps := 1000000) only [go_sem, ints, intRows, reduceAdd, Nat.reduceBEq, reduceEqDiff, reduceLeDiff, Nat.reduceLT, reduceIte, reduceLE, Int.reduceLT, reduceEq, reduceNeg, reduceToNat, ops, vals, dots, h0, h1, h7, h8, List.map_append, List.map_cons, hc, dots]
    refine ⟨fun hlt => ?_, fun hge => ?_⟩
    · simp at hlt
      have hpi := hp (gN l i) (by rw [gN_eq hlt]; exact List.getElem_mem _)
      repeat (refine And.intro (by omega) ?_)
      first | refine caS_i (hpi) trivial ?_ | refine caD_i (hpi) trivial ?_ | refine gC_i (fun _ => hpi) trivial ?_ | refine gCD_i (fun _ => hpi) trivial ?_ | refine caE_i (hpi) trivial ?_
      simp +contextual (maxSteps := 1000000) only [go_sem, ints, intRows, reduceAdd, Nat.reduceBEq, reduceEqDiff, reduceLeDiff, Nat.reduceLT, reduceIte, reduceLE, Int.reduceLT, reduceEq, reduceNeg, reduceToNat, ops, vals, dots, h0, h1, h7, h8, dots]
      refine ⟨fun hb => ?_, fun hg => ⟨⟨i + 1, ?_, by omega, (take_succ_iff hlt).2 ⟨he, hg⟩⟩, ?_⟩⟩
      · rw [idxI_at hlt he hb]
      · rw [w64 (by omega)]; simp
      · rw [w64 (by omega)]; omega
    · simp at hge
      rw [List.take_of_length_le (by omega)] at he
      rw [idxI_no he]
theorem ContainsTbs_ok {fl : Fl} (l : List (List Int)) (f : Nat) (caps : List V) (p : (List Int) → Bool) (hl : l.length ≤ maxLen) (hc : ∀ ob, caps.map (resV ob 6) = caps) (hc' : ∀ ob, caps.map (resV ob 5) = caps) (hp : ∀ x ∈ l, FnB Tryz.prog f (.ag (tbV x) :: caps) (vb (p x))) :
    FnB Tryz.prog 86 [tbs fl l, .fn f caps] (vb (l.any p)) := by
  refine fnB_intro cf86 (by simp) ?_
  simp +contextual (maxSteps := 1000000) only [go_sem, ints, intRows, reduceAdd, Nat.reduceBEq, reduceEqDiff, reduceLeDiff, Nat.reduceLT, reduceIte, reduceLE, Int.reduceLT, reduceEq, reduceNeg, reduceToNat, ops, vals, dots, c86, hc', tbs]
  first | refine caS_i (IndexTbs_ok l f caps p hl hc hp) trivial ?_ | refine caD_i (IndexTbs_ok l f caps p hl hc hp) trivial ?_ | refine gC_i (fun _ => IndexTbs_ok l f caps p hl hc hp) trivial ?_ | refine gCD_i (fun _ => IndexTbs_ok l f caps p hl hc hp) trivial ?_ | refine caE_i (IndexTbs_ok l f caps p hl hc hp) trivial ?_
  simp +contextual (maxSteps := 1000000) only [go_sem, ints, intRows, reduceAdd, Nat.reduceBEq, reduceEqDiff, reduceLeDiff, Nat.reduceLT, reduceIte, reduceLE, Int.reduceLT, reduceEq, reduceNeg, reduceToNat, ops, vals, dots, idxI_ge]
theorem ContainsVals_ok {fl : Fl} (l : List Vl) (f : Nat) (caps : List V) (p : Vl → Bool) (hl : l.length ≤ maxLen) (hc : ∀ ob, caps.map (resV ob 6) = caps) (hc' : ∀ ob, caps.map (resV ob 5) = caps) (hp : ∀ x ∈ l, FnB Tryz.prog f (.ag (vlV x) :: caps) (vb (p x))) :
    FnB Tryz.prog 144 [vals fl l, .fn f caps] (vb (l.any p)) := by
  refine fnB_intro cf144 (by simp) ?_
  simp +contextual (maxSteps := 1000000) only [go_sem, ints, intRows, reduceAdd, Nat.reduceBEq, reduceEqDiff, reduceLeDiff, Nat.reduceLT, reduceIte, reduceLE, Int.reduceLT, reduceEq, reduceNeg, reduceToNat, ops, vals, dots, c144, hc', vals]
  first | refine caS_i (IndexVals_ok l f caps p hl hc hp) trivial ?_ | refine caD_i (IndexVals_ok l f caps p hl hc hp) trivial ?_ | refine gC_i (fun _ => IndexVals_ok l f caps p hl hc hp) trivial ?_ | refine gCD_i (fun _ => IndexVals_ok l f caps p hl hc hp) trivial ?_ | refine caE_i (IndexVals_ok l f caps p hl hc hp) trivial ?_
  simp +contextual (maxSteps := 1000000) only [go_sem, ints, intRows, reduceAdd, Nat.reduceBEq, reduceEqDiff, reduceLeDiff, Nat.reduceLT, reduceIte, reduceLE, Int.reduceLT, reduceEq, reduceNeg, reduceToNat, ops, vals, dots, idxI_ge]
def allG {α β : Type} [Inhabited α] [Inhabited β] (p : α → β → Bool) (a : List α) (b : List β) : Bool := decide (a.length = b.length ∧ ∀ i, i < a.length → p (gN a i) (gN b i) = true)
theorem EqualVals_ok {fl fm : Fl} (a : List Vl) (b : List Int) (f : Nat) (caps : List V) (p : Vl → Int → Bool) (ha : a.length ≤ maxLen) (hc : ∀ ob, caps.map (resV ob 6) = caps) (hp : ∀ x y, FnB Tryz.prog f (.ag (vlV x) :: vi y :: caps) (vb (p x y))) :
    FnB Tryz.prog 158 [vals fl a, ints fm b, .fn f caps] (vb (allG p a b)) := by
  unfold maxLen at ha
  refine fnB_intro cf158 (by simp) ?_
  simp +contextual (maxSteps := 1000000) only [go_sem, ints, intRows, reduceAdd, Nat.reduceBEq, reduceEqDiff, reduceLeDiff, Nat.reduceLT, reduceIte, reduceLE, Int.reduceLT, reduceEq, reduceNeg, reduceToNat, ops, vals, dots, c158, vals]
  refine ⟨?_, ?_⟩
  · intro h; simp at h
    simp only [allG]; rw [decide_eq_false]; rintro ⟨h1, _⟩; omega
  · intro h; simp at h
    refine wpC_lp (fun env ob n => env 0 = vals fl a ∧ env 1 = ints fm b ∧ env 2 = .fn f caps ∧ env 15 = vals fl a ∧ env 16 = vi a.length ∧ ∃ i : Nat, env 17 = vi i ∧ i ≤ a.length ∧ ∀ j, j < i → p (gN a j) (gN b j) = true) (fun env ob n => (a.length - iv (env 17)).toNat) ?_ ?_
    · simp +contextual (maxSteps := 1000000) only [go_sem, ints, intRows, reduceAdd, Nat.reduceBEq, reduceEqDiff, reduceLeDiff, Nat.reduceLT, reduceIte, reduceLE, Int.reduceLT, reduceEq, reduceNeg, reduceToNat, ops, vals, dots, vals]
      simp
      exact ⟨0, by simp⟩
    · rintro env ob n ⟨h0, h1, h2, h15, h16, i, h17, hi, he⟩
      simp +contextual (maxSteps := 1000000) only [go_sem, ints, intRows, reduceAdd, Nat.reduceBEq, reduceEqDiff, reduceLeDiff, Nat.reduceLT, reduceIte, reduceLE, Int.reduceLT, reduceEq, reduceNeg, reduceToNat, ops, vals, dots, h0, h1, h2, h15, h16, h17, List.map_append, List.map_cons, hc, vals]
      refine ⟨fun hlt => ?_, fun hge => ?_⟩
      · simp at hlt
        repeat (refine And.intro (by omega) ?_)
        first | refine caS_i (hp (gN a i) (gN b i)) trivial ?_ | refine caD_i (hp (gN a i) (gN b i)) trivial ?_ | refine gC_i (fun _ => hp (gN a i) (gN b i)) trivial ?_ | refine gCD_i (fun _ => hp (gN a i) (gN b i)) trivial ?_ | refine caE_i (hp (gN a i) (gN b i)) trivial ?_
        simp +contextual (maxSteps := 1000000) only [go_sem, ints, intRows, reduceAdd, Nat.reduceBEq, reduceEqDiff, reduceLeDiff, Nat.reduceLT, reduceIte, reduceLE, Int.reduceLT, reduceEq, reduceNeg, reduceToNat, ops, vals, dots, h0, h1, h2, h15, h16, h17, vals]
        simp
        refine ⟨fun hb => ?_, fun hg => ⟨⟨i + 1, ?_, by omega, fun j hj => ?_⟩, ?_⟩⟩
        · simp only [allG]; rw [decide_eq_false]; rintro ⟨_, h⟩; rw [h i hlt] at hb; cases hb
        · rw [w64 (by omega)]; simp
        · by_cases hji : j = i
          · subst hji; exact hg
          · exact he j (by omega)
        · rw [w64 (by omega)]; omega
      · simp at hge
        have : i = a.length := by omega
        subst this
        simp only [allG]; rw [decide_eq_true]; exact ⟨by omega, he⟩
end Go.Proofs.YtbojpedklnmidaaGreat.D
end
section
set_option linter.unusedVariables false
set_option linter.unusedSimpArgs false
set_option maxRecDepth 100000
set_option linter.constructorNameAsVariable false

/- Whether a table may be. No condition. -/
namespace Go.Proofs.YtbojpedklnmidaaGreat.D
open Go Go.Proofs
open Nat (reduceAdd reduceEqDiff reduceLeDiff)
open Int (reduceLE reduceEq reduceNeg reduceToNat)
@[go_sem] theorem so_geq (a b : ByteArray) : strsOp .geq a b = some (.bool (!Op.bytesLess a.toList b.toList)) := (rfl)
def nameB (d : Dt) : Bool := decide (0 ≤ d.p) && decide (d.p < 5) && decide (1 ≤ d.n) && decide (d.n ≤ 1073741824)
def writ (c : Cel) : Bool := !(decide (c.d.p = 0) && decide (c.d.n = 0))
def isZ (c : Cel) : Bool := decide (c.v.k = 0) && (decide (c.v.i = 0) && (decide (c.v.s.toList = noS.toList) && (decide (c.st.p = 0) && (decide (c.st.l = 0) && (decide (c.st.q = 0) && (decide (c.d.p = 0) && decide (c.d.n = 0)))))))
def cellB (c : Cel) (t : Int) : Bool := if writ c then nameB c.d && smallV c.v && fitsV c.v t && okS c.st else isZ c
def keyB (k : ByteArray) : Bool := decide (1 ≤ (k.size : Int)) && decide ((k.size : Int) ≤ 12)
theorem Key_ok (k : ByteArray) : FnB Tryz.prog 106 [.c (.string k)] (vb (keyB k)) := by
  refine fnB_intro cf106 (by simp) ?_
  simp +contextual (maxSteps := 1000000) only [go_sem, ints, intRows, reduceAdd, Nat.reduceBEq, reduceEqDiff, reduceLeDiff, Nat.reduceLT, reduceIte, reduceLE, Int.reduceLT, reduceEq, reduceNeg, reduceToNat, ops, vals, dots, c106]
  rfl
theorem forms1_ok (cols : List Int) : FnB Tryz.prog 87 [.ag (tbV cols)] (vb (decide ((cols.length : Int) < 1) || decide (4 < (cols.length : Int)))) := by
  refine fnB_intro cf87 (by simp) ?_
  simp +contextual (maxSteps := 1000000) only [go_sem, ints, intRows, reduceAdd, Nat.reduceBEq, reduceEqDiff, reduceLeDiff, Nat.reduceLT, reduceIte, reduceLE, Int.reduceLT, reduceEq, reduceNeg, reduceToNat, ops, vals, dots, c87, tbV]
theorem forms2_ok (c : Int) : FnB Tryz.prog 89 [vi c] (vb (decide (c < 2) || decide (4 < c))) := by
  refine fnB_intro cf89 (by simp) ?_
  simp +contextual (maxSteps := 1000000) only [go_sem, ints, intRows, reduceAdd, Nat.reduceBEq, reduceEqDiff, reduceLeDiff, Nat.reduceLT, reduceIte, reduceLE, Int.reduceLT, reduceEq, reduceNeg, reduceToNat, ops, vals, dots, c89]
def dotsB (l : List Dt) : Bool := decide (∀ i, i < l.length → nameB (gN l i) = true ∧ (0 < i → lessD (gN l (i - 1)) (gN l i) = true))
@[go_sem] theorem op_bsl_tb (z : List V) (x : List Int) (ob : OB) (i : Nat) (hz : (z.length == 1) = true) : opF (.bsl 1 z [0] 1 true) [.ag (tbV x)] ob i = some (.im .b [tbV x], []) := op_bsl_r ob i (by simpa using hz) (tbV_row x)
def formE (cols : List Int) : Int := if (cols.length : Int) < 1 ∨ 4 < (cols.length : Int) then 2 else if cols.any (fun c => decide (c < 2) || decide (4 < c)) then 10 else 0
theorem Forms_ok (cols : List Int) : FnB Tryz.prog 44 [tbs .b [cols]] (vi (formE cols)) := by
  refine fnB_intro cf44 (by simp) ?_
  simp +contextual (maxSteps := 1000000) only [go_sem, ints, intRows, reduceAdd, Nat.reduceBEq, reduceEqDiff, reduceLeDiff, Nat.reduceLT, reduceIte, reduceLE, Int.reduceLT, reduceEq, reduceNeg, reduceToNat, ops, vals, dots, c44, tbs]
  have hct := ContainsTbs_ok (fl := .b) [cols] 87 [] (fun cols => decide ((cols.length : Int) < 1) || decide (4 < (cols.length : Int))) (by simp [maxLen]) (fun _ => rfl) (fun _ => rfl) fun x _ => forms1_ok x
  first | refine caS_i (hct) trivial ?_ | refine caD_i (hct) trivial ?_ | refine gC_i (fun _ => hct) trivial ?_ | refine gCD_i (fun _ => hct) trivial ?_ | refine caE_i (hct) trivial ?_
  simp +contextual (maxSteps := 1000000) only [go_sem, ints, intRows, reduceAdd, Nat.reduceBEq, reduceEqDiff, reduceLeDiff, Nat.reduceLT, reduceIte, reduceLE, Int.reduceLT, reduceEq, reduceNeg, reduceToNat, ops, vals, dots, List.any_cons, List.any_nil]
  refine ⟨fun hb => ?_, fun hb => ?_⟩
  · simp at hb
    rw [formE, if_pos (by simpa using hb)]
  have hlen : ¬ ((cols.length : Int) < 1 ∨ 4 < (cols.length : Int)) := by simp at hb; omega
  refine wpC_lp (fun env ob n => env 15 = tbs .b [cols] ∧ env 16 = vi 1 ∧ (env 17 = vi 0 ∨ env 17 = vi 1 ∧ cols.any (fun c => decide (c < 2) || decide (4 < c)) = false)) (fun env ob n => (1 - iv (env 17)).toNat) ?_ ?_
  · simp +contextual (maxSteps := 1000000) only [go_sem, ints, intRows, reduceAdd, Nat.reduceBEq, reduceEqDiff, reduceLeDiff, Nat.reduceLT, reduceIte, reduceLE, Int.reduceLT, reduceEq, reduceNeg, reduceToNat, ops, vals, dots, tbs]
  rintro env ob n ⟨h15, h16, h17 | ⟨h17, hc⟩⟩
  · simp +contextual (maxSteps := 1000000) only [go_sem, ints, intRows, reduceAdd, Nat.reduceBEq, reduceEqDiff, reduceLeDiff, Nat.reduceLT, reduceIte, reduceLE, Int.reduceLT, reduceEq, reduceNeg, reduceToNat, ops, vals, dots, h15, h16, h17, tbs, ia_h]
    have hc2 := ContainsInts_ok (fl := .b) cols 89 [] (fun c => decide (c < 2) || decide (4 < c)) (by unfold maxLen; omega) (fun _ => rfl) (fun _ => rfl) fun x _ => forms2_ok x
    first | refine caS_i (hc2) trivial ?_ | refine caD_i (hc2) trivial ?_ | refine gC_i (fun _ => hc2) trivial ?_ | refine gCD_i (fun _ => hc2) trivial ?_ | refine caE_i (hc2) trivial ?_
    simp +contextual (maxSteps := 1000000) only [go_sem, ints, intRows, reduceAdd, Nat.reduceBEq, reduceEqDiff, reduceLeDiff, Nat.reduceLT, reduceIte, reduceLE, Int.reduceLT, reduceEq, reduceNeg, reduceToNat, ops, vals, dots, h15, h16, h17, tbs]
    have w1 : IntKind.i64.wrap (0 + 1) = 1 := by decide
    rw [w1]
    exact ⟨fun hb => by rw [formE, if_neg hlen, if_pos hb], fun hb => ⟨.inr rfl, by decide⟩⟩
  · simp +contextual (maxSteps := 1000000) only [go_sem, ints, intRows, reduceAdd, Nat.reduceBEq, reduceEqDiff, reduceLeDiff, Nat.reduceLT, reduceIte, reduceLE, Int.reduceLT, reduceEq, reduceNeg, reduceToNat, ops, vals, dots, h15, h16, h17, tbs]
    rw [formE, if_neg hlen, if_neg (by rw [hc]; simp)]
def rightB (cols : List Int) (r : Rwx) : Bool := keyB r.key && dotsB r.dots && allG cellB r.cells cols && (decide (r.dots.length = 0) || !r.cells.any (fun c => !writ c))
structure ShortR (r : Rwx) : Prop where
  d : r.dots.length ≤ maxLen
  c : r.cells.length ≤ maxLen
def keyLt (a b : ByteArray) : Bool := Op.bytesLess a.toList b.toList
def rowsB (cols : List Int) (l : List Rwx) : Bool := decide (∀ i, i < l.length → rightB cols (gN l i) = true ∧ (0 < i → keyLt (gN l (i - 1)).key (gN l i).key = true))
def checkT (cols : List Int) (l : List Rwx) : Int := if formE cols ≠ 0 then 10 else if rowsB cols l then 0 else 1
end Go.Proofs.YtbojpedklnmidaaGreat.D
end
section
set_option linter.unusedVariables false
set_option linter.unusedSimpArgs false
set_option maxRecDepth 100000
set_option linter.constructorNameAsVariable false

/- What is seen of tables. No condition. -/
namespace Go.Proofs.YtbojpedklnmidaaGreat.D
open Go Go.Proofs
open Nat (reduceAdd reduceEqDiff reduceLeDiff)
open Int (reduceLE reduceEq reduceNeg reduceToNat)
def findT (l : List Rwx) (key : ByteArray) : Int := idxI (fun r => decide (r.key.toList = key.toList)) l
def seeT (r : Rwx) : List Vl := if r.dots.length = 0 then [] else ⟨4, 0, r.key⟩ :: r.cells.map (·.v)
def seenT (cols : List Int) (l : List Rwx) : List (List Vl) := if checkT cols l ≠ 0 then [] else (l.filter fun r => decide (0 < r.dots.length)).map seeT
@[go_sem] theorem vs1_len (x : List Vl) : [vals .b x].length = 1 := (rfl)
def valRows (f : Fl) (l : List (List Vl)) : V := .im f (l.map fun x => [vals .b x])
theorem g_vals1 (ob : OB) (n : Nat) (l : List Vl) : gV ob (n + 2) (vals .b l) = vals .b l := by
  simp only [vals, gV, List.map_map]; congr 1
end Go.Proofs.YtbojpedklnmidaaGreat.D
end
section
set_option linter.unusedVariables false
set_option linter.unusedSimpArgs false
set_option maxRecDepth 100000
set_option linter.constructorNameAsVariable false

/- Whether an operation may be. No condition. -/
namespace Go.Proofs.YtbojpedklnmidaaGreat.D
open Go Go.Proofs
open Nat (reduceAdd reduceEqDiff reduceLeDiff)
open Int (reduceLE reduceEq reduceNeg reduceToNat)
theorem sm1_ok (v : Vl) : FnB Tryz.prog 145 [.ag (vlV v)] (vb (!smallV v)) := by
  refine fnB_intro cf145 (by simp) ?_
  simp +contextual (maxSteps := 1000000) only [go_sem, ints, intRows, reduceAdd, Nat.reduceBEq, reduceEqDiff, reduceLeDiff, Nat.reduceLT, reduceIte, reduceLE, Int.reduceLT, reduceEq, reduceNeg, reduceToNat, ops, vals, dots, c145]
  first | refine caS_i (vSmall_ok v) trivial ?_ | refine caD_i (vSmall_ok v) trivial ?_ | refine gC_i (fun _ => vSmall_ok v) trivial ?_ | refine gCD_i (fun _ => vSmall_ok v) trivial ?_ | refine caE_i (vSmall_ok v) trivial ?_
  simp +contextual (maxSteps := 1000000) only [go_sem, ints, intRows, reduceAdd, Nat.reduceBEq, reduceEqDiff, reduceLeDiff, Nat.reduceLT, reduceIte, reduceLE, Int.reduceLT, reduceEq, reduceNeg, reduceToNat, ops, vals, dots]
theorem rFits_ok {fl fm : Fl} (r : List Vl) (cols : List Int) (hr : r.length ≤ maxLen) : FnB Tryz.prog 143 [vals fl r, ints fm cols] (vb (allG fitsV r cols)) := by
  refine fnB_intro cf143 (by simp) ?_
  simp +contextual (maxSteps := 1000000) only [go_sem, ints, intRows, reduceAdd, Nat.reduceBEq, reduceEqDiff, reduceLeDiff, Nat.reduceLT, reduceIte, reduceLE, Int.reduceLT, reduceEq, reduceNeg, reduceToNat, ops, vals, dots, c143]
  first | refine caS_i (EqualVals_ok r cols 140 [] fitsV hr (fun _ => rfl) fun x y => vFits_ok x y) trivial ?_ | refine caD_i (EqualVals_ok r cols 140 [] fitsV hr (fun _ => rfl) fun x y => vFits_ok x y) trivial ?_ | refine gC_i (fun _ => EqualVals_ok r cols 140 [] fitsV hr (fun _ => rfl) fun x y => vFits_ok x y) trivial ?_ | refine gCD_i (fun _ => EqualVals_ok r cols 140 [] fitsV hr (fun _ => rfl) fun x y => vFits_ok x y) trivial ?_ | refine caE_i (EqualVals_ok r cols 140 [] fitsV hr (fun _ => rfl) fun x y => vFits_ok x y) trivial ?_
  simp +contextual (maxSteps := 1000000) only [go_sem, ints, intRows, reduceAdd, Nat.reduceBEq, reduceEqDiff, reduceLeDiff, Nat.reduceLT, reduceIte, reduceLE, Int.reduceLT, reduceEq, reduceNeg, reduceToNat, ops, vals, dots]
def smallBs (v : List Vl) (cols : List Int) : Bool := allG fitsV v cols && !v.any (fun v => !smallV v)
theorem small_ok {fl fm : Fl} (r : List Vl) (cols : List Int) (hr : r.length ≤ maxLen) : FnB Tryz.prog 114 [vals fl r, ints fm cols] (vb (smallBs r cols)) := by
  refine fnB_intro cf114 (by simp) ?_
  simp +contextual (maxSteps := 1000000) only [go_sem, ints, intRows, reduceAdd, Nat.reduceBEq, reduceEqDiff, reduceLeDiff, Nat.reduceLT, reduceIte, reduceLE, Int.reduceLT, reduceEq, reduceNeg, reduceToNat, ops, vals, dots, c114]
  first | refine caS_i (rFits_ok r cols hr) trivial ?_ | refine caD_i (rFits_ok r cols hr) trivial ?_ | refine gC_i (fun _ => rFits_ok r cols hr) trivial ?_ | refine gCD_i (fun _ => rFits_ok r cols hr) trivial ?_ | refine caE_i (rFits_ok r cols hr) trivial ?_
  simp +contextual (maxSteps := 1000000) only [go_sem, ints, intRows, reduceAdd, Nat.reduceBEq, reduceEqDiff, reduceLeDiff, Nat.reduceLT, reduceIte, reduceLE, Int.reduceLT, reduceEq, reduceNeg, reduceToNat, ops, vals, dots]
  first | refine caS_i (ContainsVals_ok r 145 [] (fun v => !smallV v) hr (fun _ => rfl) (fun _ => rfl) fun x _ => sm1_ok x) trivial ?_ | refine caD_i (ContainsVals_ok r 145 [] (fun v => !smallV v) hr (fun _ => rfl) (fun _ => rfl) fun x _ => sm1_ok x) trivial ?_ | refine gC_i (fun _ => ContainsVals_ok r 145 [] (fun v => !smallV v) hr (fun _ => rfl) (fun _ => rfl) fun x _ => sm1_ok x) trivial ?_ | refine gCD_i (fun _ => ContainsVals_ok r 145 [] (fun v => !smallV v) hr (fun _ => rfl) (fun _ => rfl) fun x _ => sm1_ok x) trivial ?_ | refine caE_i (ContainsVals_ok r 145 [] (fun v => !smallV v) hr (fun _ => rfl) (fun _ => rfl) fun x _ => sm1_ok x) trivial ?_
  simp +contextual (maxSteps := 1000000) only [go_sem, ints, intRows, reduceAdd, Nat.reduceBEq, reduceEqDiff, reduceLeDiff, Nat.reduceLT, reduceIte, reduceLE, Int.reduceLT, reduceEq, reduceNeg, reduceToNat, ops, vals, dots]
  rfl
def wholeB (n : Int) (x : Opz) : Bool := decide (0 ≤ x.dot.p) && decide (x.dot.p < n) && decide (1 ≤ x.dot.n) && decide (x.dot.n ≤ 1073741824) && decide ((x.deps.length : Int) = n) && decide (vecE x.deps = 0) && decide (gN x.deps x.dot.p.toNat = x.dot.n - 1) && okS x.st && decide (x.st.q = x.dot.p)
theorem hlcE_0 (s : St3) : decide (hlcE s = 0) = okS s := by unfold hlcE; cases okS s <;> rfl
theorem whole_ok (n : Int) (x : Opz) : FnB Tryz.prog 113 [vi n, .ag (opZ x)] (vb (wholeB n x)) := by
  refine fnB_intro cf113 (by simp) ?_
  simp +contextual (maxSteps := 1000000) only [go_sem, ints, intRows, reduceAdd, Nat.reduceBEq, reduceEqDiff, reduceLeDiff, Nat.reduceLT, reduceIte, reduceLE, Int.reduceLT, reduceEq, reduceNeg, reduceToNat, ops, vals, dots, c113]
  first | refine caS_i (Check_ok x.deps) trivial ?_ | refine caD_i (Check_ok x.deps) trivial ?_ | refine gC_i (fun _ => Check_ok x.deps) trivial ?_ | refine gCD_i (fun _ => Check_ok x.deps) trivial ?_ | refine caE_i (Check_ok x.deps) trivial ?_
  simp +contextual (maxSteps := 1000000) only [go_sem, ints, intRows, reduceAdd, Nat.reduceBEq, reduceEqDiff, reduceLeDiff, Nat.reduceLT, reduceIte, reduceLE, Int.reduceLT, reduceEq, reduceNeg, reduceToNat, ops, vals, dots]
  refine ⟨fun h => ?_, ?_⟩
  · simp only [Bool.and_eq_true, decide_eq_true_eq] at h; omega
  first | refine caS_i (hCheck_ok x.st) trivial ?_ | refine caD_i (hCheck_ok x.st) trivial ?_ | refine gC_i (fun _ => hCheck_ok x.st) trivial ?_ | refine gCD_i (fun _ => hCheck_ok x.st) trivial ?_ | refine caE_i (hCheck_ok x.st) trivial ?_
  simp +contextual (maxSteps := 1000000) only [go_sem, ints, intRows, reduceAdd, Nat.reduceBEq, reduceEqDiff, reduceLeDiff, Nat.reduceLT, reduceIte, reduceLE, Int.reduceLT, reduceEq, reduceNeg, reduceToNat, ops, vals, dots, hlcE_0]
  unfold wholeB
  by_cases hn : 1 ≤ x.dot.n ∧ x.dot.n ≤ 1073741824
  · have hw : IntKind.i64.wrap (x.dot.n - 1) = x.dot.n - 1 := w64 (by omega)
    rw [hw]
  · have : decide (1 ≤ x.dot.n) = false ∨ decide (x.dot.n ≤ 1073741824) = false := by simp; omega
    rcases this with h | h <;> rw [h] <;> simp
def hadB (v : List Int) (l : List Dt) : Bool := decide (∀ i, i < l.length → hasB v (gN l i) = true ∧ (0 < i → lessD (gN l (i - 1)) (gN l i) = true))
theorem had_ok {fl fm : Fl} (v : List Int) (l : List Dt) (hl : l.length ≤ maxLen) : FnB Tryz.prog 115 [ints fm v, dots fl l] (vb (hadB v l)) := by
  refine fnB_intro cf115 (by simp) ?_
  unfold maxLen at hl
  simp +contextual (maxSteps := 1000000) only [go_sem, ints, intRows, reduceAdd, Nat.reduceBEq, reduceEqDiff, reduceLeDiff, Nat.reduceLT, reduceIte, reduceLE, Int.reduceLT, reduceEq, reduceNeg, reduceToNat, ops, vals, dots, c115]
  refine wpC_lp (fun env ob n => env 0 = ints fm v ∧ env 1 = dots fl l ∧ env 7 = dots fl l ∧ env 8 = vi l.length ∧ ∃ i : Nat, env 9 = vi i ∧ i ≤ l.length ∧ ∀ j, j < i → hasB v (gN l j) = true ∧ (0 < j → lessD (gN l (j - 1)) (gN l j) = true)) (fun env ob n => (l.length - iv (env 9)).toNat) ?_ ?_
  · simp +contextual (maxSteps := 1000000) only [go_sem, ints, intRows, reduceAdd, Nat.reduceBEq, reduceEqDiff, reduceLeDiff, Nat.reduceLT, reduceIte, reduceLE, Int.reduceLT, reduceEq, reduceNeg, reduceToNat, ops, vals, dots]
    exact ⟨0, rfl, Nat.zero_le _, fun j hj => by omega⟩
  rintro env ob n ⟨h0, h1, h5, h6, i, h7, hi, he⟩
  simp +contextual (maxSteps := 1000000) only [go_sem, ints, intRows, reduceAdd, Nat.reduceBEq, reduceEqDiff, reduceLeDiff, Nat.reduceLT, reduceIte, reduceLE, Int.reduceLT, reduceEq, reduceNeg, reduceToNat, ops, vals, dots, h0, h1, h5, h6, h7, Nat.add_assoc]
  have w1 : IntKind.i64.wrap ((i : Int) + 1) = ((i + 1 : Nat) : Int) := by rw [w64 (by omega)]; omega
  refine ⟨fun hlt => ?_, fun hge => ?_⟩
  · simp at hlt
    repeat (refine And.intro (by omega) ?_)
    first | refine caS_i (Has_ok v (gN l i)) trivial ?_ | refine caD_i (Has_ok v (gN l i)) trivial ?_ | refine gC_i (fun _ => Has_ok v (gN l i)) trivial ?_ | refine gCD_i (fun _ => Has_ok v (gN l i)) trivial ?_ | refine caE_i (Has_ok v (gN l i)) trivial ?_
    by_cases h0i : i = 0
    · subst h0i
      simp +contextual (maxSteps := 1000000) only [go_sem, ints, intRows, reduceAdd, Nat.reduceBEq, reduceEqDiff, reduceLeDiff, Nat.reduceLT, reduceIte, reduceLE, Int.reduceLT, reduceEq, reduceNeg, reduceToNat, ops, vals, dots, h0, h1, h5, h6, h7, Bool.not_true, Bool.not_false, Bool.or_false, Bool.false_or, Bool.and_false, Bool.true_and, Bool.and_true, Bool.true_or, Bool.or_true]
      have w1' : IntKind.i64.wrap (0 + 1) = ((1 : Nat) : Int) := by decide
      rw [w1']
      refine ⟨fun hb => ?_, fun hg => ⟨⟨1, rfl, hlt, fun j hj => ?_⟩, by omega⟩⟩
      · rw [hadB, decide_eq_false]; intro h; simp [(h 0 hlt).1] at hb
      · have : j = 0 := by omega
        subst this
        refine ⟨by simpa using hg, fun h => by omega⟩
    · have w0 : IntKind.i64.wrap ((i : Int) - 1) = ((i - 1 : Nat) : Int) := by rw [w64 (by omega)]; omega
      have p0 : decide (0 < (i : Int)) = true := by simp; omega
      simp +contextual (maxSteps := 1000000) only [go_sem, ints, intRows, reduceAdd, Nat.reduceBEq, reduceEqDiff, reduceLeDiff, Nat.reduceLT, reduceIte, reduceLE, Int.reduceLT, reduceEq, reduceNeg, reduceToNat, ops, vals, dots, h0, h1, h5, h6, h7, w0, p0, Bool.not_true, Bool.not_false, Bool.or_false, Bool.false_or, Bool.and_false, Bool.true_and, Bool.and_true, Bool.true_or, Bool.or_true]
      refine ⟨fun _ => by omega, ?_⟩
      first | refine caS_i (Less_ok (gN l (i - 1)) (gN l i)) trivial ?_ | refine caD_i (Less_ok (gN l (i - 1)) (gN l i)) trivial ?_ | refine gC_i (fun _ => Less_ok (gN l (i - 1)) (gN l i)) trivial ?_ | refine gCD_i (fun _ => Less_ok (gN l (i - 1)) (gN l i)) trivial ?_ | refine caE_i (Less_ok (gN l (i - 1)) (gN l i)) trivial ?_
      simp +contextual (maxSteps := 1000000) only [go_sem, ints, intRows, reduceAdd, Nat.reduceBEq, reduceEqDiff, reduceLeDiff, Nat.reduceLT, reduceIte, reduceLE, Int.reduceLT, reduceEq, reduceNeg, reduceToNat, ops, vals, dots, h0, h1, h5, h6, h7, w1]
      refine ⟨fun hb => ?_, fun hg => ⟨⟨i + 1, rfl, by omega, fun j hj => ?_⟩, by omega⟩⟩
      · rw [hadB, decide_eq_false]; intro h; simp [(h i hlt).1, (h i hlt).2 (by omega)] at hb
      · by_cases hji : j = i
        · subst hji
          cases hn : hasB v (gN l j) with
          | false => rw [hn] at hg; simp at hg
          | true => rw [hn] at hg; exact ⟨rfl, fun _ => by simpa using hg⟩
        · exact he j (by omega)
  · simp at hge
    have : i = l.length := by omega
    subst this
    rw [hadB, decide_eq_true he]
def rightO (n : Int) (cols : List Int) (x : Opz) : Bool := wholeB n x && decide (x.table = 0) && keyB x.key &&
  (if x.kind = 1 then smallBs x.vals cols && decide (x.col = 0) && decide (x.dots.length = 0)
   else if x.kind = 2 then decide (0 ≤ x.col ∧ x.col < cols.length) && smallBs x.vals [gN cols x.col.toNat] && decide (x.dots.length = 0)
   else if x.kind = 3 then decide (1 ≤ x.dots.length ∧ x.dots.length ≤ 64) && hadB x.deps x.dots && decide (x.col = 0) && decide (x.vals.length = 0) else false)
theorem oright_ok (n : Int) (cols : List Int) (x : Opz) (hv : x.vals.length ≤ maxLen) (hd : x.dots.length ≤ maxLen) (hc : cols.length ≤ 4) : FnB Tryz.prog 72 [vi n, tbs .b [cols], .ag (opZ x)] (vb (rightO n cols x)) := by
  refine fnB_intro cf72 (by simp) ?_
  simp +contextual (maxSteps := 1000000) only [go_sem, ints, intRows, reduceAdd, Nat.reduceBEq, reduceEqDiff, reduceLeDiff, Nat.reduceLT, reduceIte, reduceLE, Int.reduceLT, reduceEq, reduceNeg, reduceToNat, ops, vals, dots, c72, tbs]
  first | refine caS_i (whole_ok n x) trivial ?_ | refine caD_i (whole_ok n x) trivial ?_ | refine gC_i (fun _ => whole_ok n x) trivial ?_ | refine gCD_i (fun _ => whole_ok n x) trivial ?_ | refine caE_i (whole_ok n x) trivial ?_
  simp +contextual (maxSteps := 1000000) only [go_sem, ints, intRows, reduceAdd, Nat.reduceBEq, reduceEqDiff, reduceLeDiff, Nat.reduceLT, reduceIte, reduceLE, Int.reduceLT, reduceEq, reduceNeg, reduceToNat, ops, vals, dots]
  first | refine caS_i (Key_ok x.key) trivial ?_ | refine caD_i (Key_ok x.key) trivial ?_ | refine gC_i (fun _ => Key_ok x.key) trivial ?_ | refine gCD_i (fun _ => Key_ok x.key) trivial ?_ | refine caE_i (Key_ok x.key) trivial ?_
  simp +contextual (maxSteps := 1000000) only [go_sem, ints, intRows, reduceAdd, Nat.reduceBEq, reduceEqDiff, reduceLeDiff, Nat.reduceLT, reduceIte, reduceLE, Int.reduceLT, reduceEq, reduceNeg, reduceToNat, ops, vals, dots]
  refine ⟨fun hb => ?_, fun hb => ?_⟩
  · unfold rightO
    have : (wholeB n x && decide (x.table = 0) && keyB x.key) = false := by
      cases h1 : wholeB n x <;> cases h2 : keyB x.key <;> simp_all
      omega
    rw [this, Bool.false_and]
  have hw : wholeB n x = true ∧ x.table = 0 ∧ keyB x.key = true := by
    cases h1 : wholeB n x <;> cases h2 : keyB x.key <;> simp_all
    omega
  obtain ⟨hw1, hw2, hw3⟩ := hw
  have hr : rightO n cols x = (if x.kind = 1 then smallBs x.vals cols && decide (x.col = 0) && decide (x.dots.length = 0)
   else if x.kind = 2 then decide (0 ≤ x.col ∧ x.col < cols.length) && smallBs x.vals [gN cols x.col.toNat] && decide (x.dots.length = 0)
   else if x.kind = 3 then decide (1 ≤ x.dots.length ∧ x.dots.length ≤ 64) && hadB x.deps x.dots && decide (x.col = 0) && decide (x.vals.length = 0) else false) := by
    unfold rightO; rw [hw1, hw2, hw3]; rfl
  simp +contextual (maxSteps := 1000000) only [go_sem, ints, intRows, reduceAdd, Nat.reduceBEq, reduceEqDiff, reduceLeDiff, Nat.reduceLT, reduceIte, reduceLE, Int.reduceLT, reduceEq, reduceNeg, reduceToNat, ops, vals, dots, hw2, ia_h, tbV]
  refine ⟨fun h1 => ?_, fun h1 => ⟨fun h2 => ?_, fun h2 => ⟨fun h3 => ?_, fun h3 => ?_⟩⟩⟩
  · first | refine caS_i (small_ok (fl := .b) (fm := .b) x.vals cols hv) trivial ?_ | refine caD_i (small_ok (fl := .b) (fm := .b) x.vals cols hv) trivial ?_ | refine gC_i (fun _ => small_ok (fl := .b) (fm := .b) x.vals cols hv) trivial ?_ | refine gCD_i (fun _ => small_ok (fl := .b) (fm := .b) x.vals cols hv) trivial ?_ | refine caE_i (small_ok (fl := .b) (fm := .b) x.vals cols hv) trivial ?_
    simp +contextual (maxSteps := 1000000) only [go_sem, ints, intRows, reduceAdd, Nat.reduceBEq, reduceEqDiff, reduceLeDiff, Nat.reduceLT, reduceIte, reduceLE, Int.reduceLT, reduceEq, reduceNeg, reduceToNat, ops, vals, dots]
    rw [hr, if_pos (by simpa using h1)]
    simp
  · have hR := hr
    rw [if_neg (by simpa using h1), if_pos (by simpa using h2)] at hR
    by_cases hcol : 0 ≤ x.col ∧ x.col < cols.length
    · obtain ⟨c, hc1⟩ : ∃ c : Nat, x.col = c := ⟨x.col.toNat, by omega⟩
      have hw : IntKind.i64.wrap (x.col + 1) = ((c + 1 : Nat) : Int) := by rw [w64 (by omega)]; omega
      refine ⟨fun _ => ⟨by decide, fun ch hch => by obtain ⟨_, _, rfl⟩ := List.mem_map.1 hch; rfl, hcol.1, by rw [hw]; omega, by rw [hw]; omega⟩, ?_⟩
      have harg : ∀ ob : OB, List.map (fun r => List.map (resV ob 5) r) (List.drop x.col.toNat (List.take (IntKind.i64.wrap (x.col + 1)).toNat (List.map (fun n => [vi n]) cols))) = [gN cols x.col.toNat].map fun n => [vi n] := fun ob => by
        rw [hw, hc1, Int.toNat_natCast, Int.toNat_natCast, ← List.map_take, ← List.map_drop, take_gN (by omega), List.drop_append_of_le_length (by simp; omega), List.drop_eq_nil_of_le (by simp; omega)]
        rfl
      rw [harg]
      first | refine caS_i (small_ok (fl := .b) (fm := .b) x.vals [gN cols x.col.toNat] hv) trivial ?_ | refine caD_i (small_ok (fl := .b) (fm := .b) x.vals [gN cols x.col.toNat] hv) trivial ?_ | refine gC_i (fun _ => small_ok (fl := .b) (fm := .b) x.vals [gN cols x.col.toNat] hv) trivial ?_ | refine gCD_i (fun _ => small_ok (fl := .b) (fm := .b) x.vals [gN cols x.col.toNat] hv) trivial ?_ | refine caE_i (small_ok (fl := .b) (fm := .b) x.vals [gN cols x.col.toNat] hv) trivial ?_
      simp +contextual (maxSteps := 1000000) only [go_sem, ints, intRows, reduceAdd, Nat.reduceBEq, reduceEqDiff, reduceLeDiff, Nat.reduceLT, reduceIte, reduceLE, Int.reduceLT, reduceEq, reduceNeg, reduceToNat, ops, vals, dots]
      rw [hR]; simp
    · have hf : (decide (0 ≤ x.col) && decide (x.col < (cols.length : Int))) = false := by simp; omega
      refine ⟨fun h => absurd h (by rw [hf]; simp), ?_⟩
      refine gCD_i (q := vb true) (fun h => absurd h (by rw [hf]; simp)) trivial ?_
      simp +contextual (maxSteps := 1000000) only [go_sem, ints, intRows, reduceAdd, Nat.reduceBEq, reduceEqDiff, reduceLeDiff, Nat.reduceLT, reduceIte, reduceLE, Int.reduceLT, reduceEq, reduceNeg, reduceToNat, ops, vals, dots]
      have hf2 : decide (0 ≤ x.col ∧ x.col < (cols.length : Int)) = false := by simp; omega
      rw [hR, hf, hf2]; simp
  · rw [if_neg (by simpa using h1), if_neg (by simpa using h2), if_pos (by simpa using h3)] at hr
    first | refine caS_i (had_ok (fl := flg x.fd) (fm := .b) x.deps x.dots hd) trivial ?_ | refine caD_i (had_ok (fl := flg x.fd) (fm := .b) x.deps x.dots hd) trivial ?_ | refine gC_i (fun _ => had_ok (fl := flg x.fd) (fm := .b) x.deps x.dots hd) trivial ?_ | refine gCD_i (fun _ => had_ok (fl := flg x.fd) (fm := .b) x.deps x.dots hd) trivial ?_ | refine caE_i (had_ok (fl := flg x.fd) (fm := .b) x.deps x.dots hd) trivial ?_
    simp +contextual (maxSteps := 1000000) only [go_sem, ints, intRows, reduceAdd, Nat.reduceBEq, reduceEqDiff, reduceLeDiff, Nat.reduceLT, reduceIte, reduceLE, Int.reduceLT, reduceEq, reduceNeg, reduceToNat, ops, vals, dots]
    have c1 : decide (1 ≤ (x.dots.length : Int)) = decide (1 ≤ x.dots.length) := by rw [decide_eq_decide]; omega
    have c2 : decide ((x.dots.length : Int) ≤ 64) = decide (x.dots.length ≤ 64) := by rw [decide_eq_decide]; omega
    rw [hr, c1, c2]; simp
  · rw [hr, if_neg (by simpa using h1), if_neg (by simpa using h2), if_neg (by simpa using h3)]
def opE (cols : List Int) (x : Opz) : Int := if formE cols ≠ 0 then formE cols else if (x.deps.length : Int) < 1 ∨ 5 < (x.deps.length : Int) ∨ rightO x.deps.length cols x = false then 1 else 0
theorem opCheck_ok (cols : List Int) (x : Opz) (hv : x.vals.length ≤ maxLen) (hd : x.dots.length ≤ maxLen) : FnB Tryz.prog 36 [vi x.deps.length, tbs .b [cols], .ag (opZ x)] (vi (opE cols x)) := by
  refine fnB_intro cf36 (by simp) ?_
  simp +contextual (maxSteps := 1000000) only [go_sem, ints, intRows, reduceAdd, Nat.reduceBEq, reduceEqDiff, reduceLeDiff, Nat.reduceLT, reduceIte, reduceLE, Int.reduceLT, reduceEq, reduceNeg, reduceToNat, ops, vals, dots, c36, tbs]
  first | refine caS_i (Forms_ok cols) trivial ?_ | refine caD_i (Forms_ok cols) trivial ?_ | refine gC_i (fun _ => Forms_ok cols) trivial ?_ | refine gCD_i (fun _ => Forms_ok cols) trivial ?_ | refine caE_i (Forms_ok cols) trivial ?_
  simp +contextual (maxSteps := 1000000) only [go_sem, ints, intRows, reduceAdd, Nat.reduceBEq, reduceEqDiff, reduceLeDiff, Nat.reduceLT, reduceIte, reduceLE, Int.reduceLT, reduceEq, reduceNeg, reduceToNat, ops, vals, dots, tbs]
  refine ⟨fun h => ?_, fun h => ?_⟩
  · rw [opE, if_pos (by simpa using h)]
  have hf : formE cols = 0 := by simpa using h
  have hc : cols.length ≤ 4 := by
    unfold formE at hf
    split at hf
    · cases hf
    · omega
  first | refine caS_i (oright_ok x.deps.length cols x hv hd hc) trivial ?_ | refine caD_i (oright_ok x.deps.length cols x hv hd hc) trivial ?_ | refine gC_i (fun _ => oright_ok x.deps.length cols x hv hd hc) trivial ?_ | refine gCD_i (fun _ => oright_ok x.deps.length cols x hv hd hc) trivial ?_ | refine caE_i (oright_ok x.deps.length cols x hv hd hc) trivial ?_
  simp +contextual (maxSteps := 1000000) only [go_sem, ints, intRows, reduceAdd, Nat.reduceBEq, reduceEqDiff, reduceLeDiff, Nat.reduceLT, reduceIte, reduceLE, Int.reduceLT, reduceEq, reduceNeg, reduceToNat, ops, vals, dots]
  refine ⟨fun hb => ?_, fun hb => ?_⟩
  · rw [opE, if_neg (by simpa using hf), if_pos (by simpa [or_assoc] using hb)]
  · rw [opE, if_neg (by simpa using hf), if_neg]
    simp at hb
    rintro (h1 | h1 | h1)
    · omega
    · omega
    · rw [hb.2] at h1; cases h1
end Go.Proofs.YtbojpedklnmidaaGreat.D
end
section
set_option linter.unusedVariables false
set_option linter.unusedSimpArgs false
set_option maxRecDepth 100000
set_option linter.constructorNameAsVariable false

/- Looking for a place; comparing texts. No condition. -/
namespace Go.Proofs.YtbojpedklnmidaaGreat.D
open Go Go.Proofs
open Nat (reduceAdd reduceEqDiff reduceLeDiff)
open Int (reduceLE reduceEq reduceNeg reduceToNat)
def cmpB (a b : ByteArray) : Int := Lib.compareBytes a.data.toList b.data.toList
theorem cmpL_r (a b : List UInt8) : (Lib.compareBytes a b = -1 ∧ a < b) ∨ (Lib.compareBytes a b = 0 ∧ a = b) ∨ (Lib.compareBytes a b = 1 ∧ b < a) := by
  induction a generalizing b with
  | nil => cases b with
    | nil => exact .inr (.inl ⟨rfl, rfl⟩)
    | cons y b => exact .inl ⟨rfl, by simp⟩
  | cons x a ih => cases b with
    | nil => exact .inr (.inr ⟨rfl, by simp⟩)
    | cons y b =>
      unfold Lib.compareBytes
      by_cases h1 : x < y
      · rw [if_pos h1]; exact .inl ⟨rfl, List.cons_lt_cons_iff.2 (.inl h1)⟩
      · rw [if_neg h1]
        by_cases h2 : y < x
        · rw [if_pos h2]; exact .inr (.inr ⟨rfl, List.cons_lt_cons_iff.2 (.inl h2)⟩)
        · rw [if_neg h2]
          have : x = y := UInt8.le_antisymm (UInt8.not_lt.1 h2) (UInt8.not_lt.1 h1)
          subst this
          rcases ih b with ⟨e, h⟩ | ⟨e, h⟩ | ⟨e, h⟩
          · exact .inl ⟨e, List.cons_lt_cons_iff.2 (.inr ⟨rfl, h⟩)⟩
          · exact .inr (.inl ⟨e, by rw [h]⟩)
          · exact .inr (.inr ⟨e, List.cons_lt_cons_iff.2 (.inr ⟨rfl, h⟩)⟩)
theorem keyLt_iff (a b : ByteArray) : keyLt a b = true ↔ a.data.toList < b.data.toList := by
  unfold keyLt
  rw [Proofs.bytesLess_eq, ByteArray.toList_eq, ByteArray.toList_eq]; simp
theorem cmpB_r (a b : ByteArray) : (cmpB a b = -1 ∧ keyLt a b = true) ∨ (cmpB a b = 0 ∧ a = b) ∨ (cmpB a b = 1 ∧ keyLt b a = true) := by
  rcases cmpL_r a.data.toList b.data.toList with ⟨e, h⟩ | ⟨e, h⟩ | ⟨e, h⟩
  · exact .inl ⟨e, (keyLt_iff a b).2 h⟩
  · refine .inr (.inl ⟨e, ?_⟩)
    cases a; cases b; simp at h; simp [h]
  · exact .inr (.inr ⟨e, (keyLt_iff b a).2 h⟩)
theorem keyLt_trans {a b c : ByteArray} (h1 : keyLt a b = true) (h2 : keyLt b c = true) : keyLt a c = true :=
  (keyLt_iff a c).2 (List.lt_trans ((keyLt_iff a b).1 h1) ((keyLt_iff b c).1 h2))
theorem keyLt_irr (a : ByteArray) : keyLt a a = false := by
  cases h : keyLt a a with
  | false => rfl
  | true => exact absurd ((keyLt_iff a a).1 h) (List.lt_irrefl _)
structure Rw (k : Nat) where
  r : List V
  ok : okRow k r = true
theorem Rw.len {k : Nat} (x : Rw k) : x.r.length = k := by have := x.ok; simp [okRow] at this; exact this.1
theorem Rw.leaf {k : Nat} (x : Rw k) : x.r.all leaf = true := by have := x.ok; unfold okRow at this; rw [Bool.and_eq_true] at this; exact this.2
instance : Inhabited (Rw 3) := ⟨⟨rwV default, rfl⟩⟩
instance : Inhabited (Rw 2) := ⟨⟨dotV default, rfl⟩⟩
instance : Inhabited (Rw 8) := ⟨⟨celV default, rfl⟩⟩
@[go_sem] theorem rw3_len (x : Rw 3) : x.r.length = 3 := x.len
@[go_sem] theorem rw3_leaf (x : Rw 3) : x.r.all leaf = true := x.leaf
@[go_sem] theorem rw3_row (x : Rw 3) : okRow 3 x.r = true := x.ok
@[go_sem] theorem rw3_t (x : Rw 3) : x.r.take 3 = x.r := List.take_of_length_le (by rw [x.len]; exact Nat.le_refl _)
@[go_sem] theorem rw3_d (x : Rw 3) : x.r.drop 3 = [] := List.drop_eq_nil_of_le (by rw [x.len]; exact Nat.le_refl _)
@[go_sem] theorem rw2_len (x : Rw 2) : x.r.length = 2 := x.len
@[go_sem] theorem rw2_leaf (x : Rw 2) : x.r.all leaf = true := x.leaf
@[go_sem] theorem rw2_row (x : Rw 2) : okRow 2 x.r = true := x.ok
@[go_sem] theorem rw2_t (x : Rw 2) : x.r.take 2 = x.r := List.take_of_length_le (by rw [x.len]; exact Nat.le_refl _)
@[go_sem] theorem rw2_d (x : Rw 2) : x.r.drop 2 = [] := List.drop_eq_nil_of_le (by rw [x.len]; exact Nat.le_refl _)
@[go_sem] theorem rw8_len (x : Rw 8) : x.r.length = 8 := x.len
@[go_sem] theorem rw8_leaf (x : Rw 8) : x.r.all leaf = true := x.leaf
@[go_sem] theorem rw8_row (x : Rw 8) : okRow 8 x.r = true := x.ok
@[go_sem] theorem rw8_t (x : Rw 8) : x.r.take 8 = x.r := List.take_of_length_le (by rw [x.len]; exact Nat.le_refl _)
@[go_sem] theorem rw8_d (x : Rw 8) : x.r.drop 8 = [] := List.drop_eq_nil_of_le (by rw [x.len]; exact Nat.le_refl _)
end Go.Proofs.YtbojpedklnmidaaGreat.D
end
section
set_option linter.unusedVariables false
set_option linter.unusedSimpArgs false
set_option maxRecDepth 100000
set_option linter.constructorNameAsVariable false

/- Looking for a place. No condition. -/
namespace Go.Proofs.YtbojpedklnmidaaGreat.D
open Go Go.Proofs
open Nat (reduceAdd reduceEqDiff reduceLeDiff)
open Int (reduceLE reduceEq reduceNeg reduceToNat)
end Go.Proofs.YtbojpedklnmidaaGreat.D
end
section
set_option linter.unusedVariables false
set_option linter.unusedSimpArgs false
set_option maxRecDepth 100000
set_option linter.constructorNameAsVariable false

/- Inserting and deleting at dots and rows, as they lie in memory. No condition. -/
namespace Go.Proofs.YtbojpedklnmidaaGreat.D
open Go Go.Proofs
open Nat (reduceAdd reduceEqDiff reduceLeDiff)
open Int (reduceLE reduceEq reduceNeg reduceToNat)
def OwnE (n : Nat) (ob : OB) (v : V) (k : Nat) (rows : List (List V)) : Prop :=
  (rows = [] ∧ v = .z) ∨ ∃ id cap, id < n ∧ v = .sl id 0 rows.length ∧ ob id = some ⟨k, rows, cap⟩
theorem Own.e {n : Nat} {ob : OB} {v : V} {k : Nat} {rows : List (List V)} (h : Own n ob v k rows) : OwnE n ob v k rows := h.imp id fun ⟨_, i, c, h⟩ => ⟨i, c, h⟩
@[go_sem] theorem op_slc3 (x a b c : V) (ob : OB) (i : Nat) : opF .slc3 [x, a, b, c] ob i = (toInt a).bind fun a => (toInt b).bind fun b => (toInt c).bind fun c => (lenS ob x).bind fun n => if 0 ≤ a ∧ a ≤ b ∧ b ≤ c ∧ c ≤ n then some (.u, []) else none := (rfl)
@[go_sem] theorem lenS_sl (ob : OB) (id off len : Nat) : lenS ob (.sl id off len) = (ob id).map fun _ => len := (rfl)
@[go_sem] theorem lenS_z (ob : OB) : lenS ob .z = some 0 := (rfl)
@[go_sem] theorem slice_sl (ob : OB) (k id off len : Nat) (lo hi : Option Int) : sliceV ob k (.sl id off len) lo hi = (ob id).bind fun o => if o.k = k ∧ 0 ≤ lo.getD 0 ∧ lo.getD 0 ≤ hi.getD len ∧ off + hi.getD len ≤ o.l.length then some (if lo.getD 0 = 0 then .sl id off (hi.getD len).toNat else if lo.getD 0 = hi.getD len then .im .b [] else .sl id (off + (lo.getD 0).toNat) (hi.getD len - lo.getD 0).toNat) else none := by
  simp only [sliceV]
  congr 1
  funext o
  split
  · split
    · rfl
    · split <;> rfl
  · rfl
@[go_sem] theorem slice_z (ob : OB) (k : Nat) (lo hi : Option Int) : sliceV ob k .z lo hi = if lo.getD 0 = 0 ∧ hi.getD 0 = 0 then some V.z else none := (rfl)
@[go_sem] theorem dotV_d2 (x : Dt) : (dotV x).drop 2 = [] := (rfl)
def rw3V (x : Rw 3) : List V := x.r
@[go_sem] theorem rw3V_len (x : Rw 3) : (rw3V x).length = 3 := x.len
@[go_sem] theorem rw3V_leaf (x : Rw 3) : (rw3V x).all leaf = true := x.leaf
@[go_sem] theorem rw3V_row (x : Rw 3) : okRow 3 (rw3V x) = true := x.ok
@[go_sem] theorem rw3V_t (x : Rw 3) : (rw3V x).take 3 = rw3V x := rw3_t x
@[go_sem] theorem rw3V_d (x : Rw 3) : (rw3V x).drop 3 = [] := rw3_d x
end Go.Proofs.YtbojpedklnmidaaGreat.D
end
section
set_option linter.unusedVariables false
set_option linter.unusedSimpArgs false
set_option maxRecDepth 100000
set_option linter.constructorNameAsVariable false

/- Writing cells; a row behind an operation. No condition. -/
namespace Go.Proofs.YtbojpedklnmidaaGreat.D
open Go Go.Proofs
open Nat (reduceAdd reduceEqDiff reduceLeDiff)
open Int (reduceLE reduceEq reduceNeg reduceToNat)
def wrB (c : Cel) (x : Opz) : Bool := !writ c || decide (cmpT c.st x.st < 0)
def wrCel (c : Cel) (v : Vl) (x : Opz) : Cel := if wrB c x then ⟨v, x.st, x.dot⟩ else c
theorem set_same {α : Type} [Inhabited α] {l : List α} {i : Nat} (h : i < l.length) : l.set i (gN l i) = l := by
  refine List.ext_getElem (by simp) fun j h1 h2 => ?_
  rw [List.getElem_set]
  split
  · rename_i e; subst e; rw [gN_eq h]
  · rfl
end Go.Proofs.YtbojpedklnmidaaGreat.D
end
section
set_option linter.unusedVariables false
set_option linter.unusedSimpArgs false
set_option linter.constructorNameAsVariable false
set_option maxRecDepth 100000

/- A row behind an operation. No condition. -/
namespace Go.Proofs.YtbojpedklnmidaaGreat.D
open Go Go.Proofs
open Nat (reduceAdd reduceEqDiff reduceLeDiff)
open Int (reduceLE reduceEq reduceNeg reduceToNat)
def eqD (d e : Dt) : Bool := decide (d.p = e.p) && decide (d.n = e.n)
def inD (l : List Dt) (d : Dt) : Bool := l.any fun e => eqD d e
theorem IndexD_ok {fl : Fl} (l : List Dt) (d : Dt) (hl : l.length ≤ maxLen) : FnB Tryz.prog 123 [dots fl l, .ag (dotV d)] (vi (idxI (eqD d) l)) := by
  refine fnB_intro cf123 (by simp) ?_
  unfold maxLen at hl
  simp +contextual (maxSteps := 1000000) only [go_sem, ints, intRows, reduceAdd, Nat.reduceBEq, reduceEqDiff, reduceLeDiff, Nat.reduceLT, reduceIte, reduceLE, Int.reduceLT, reduceEq, reduceNeg, reduceToNat, ops, vals, dots, c123]
  refine wpC_lp (fun env ob n => env 0 = dots fl l ∧ ob 0 = some ⟨2, [dotV d], none⟩ ∧ env 3 = .pt 0 0 0 ∧ env 7 = vi l.length ∧ ∃ i : Nat, env 8 = vi i ∧ i ≤ l.length ∧ ∀ n ∈ l.take i, eqD d n = false) (fun env ob n => (l.length - iv (env 8)).toNat) ?_ ?_
  · simp +contextual (maxSteps := 1000000) only [go_sem, ints, intRows, reduceAdd, Nat.reduceBEq, reduceEqDiff, reduceLeDiff, Nat.reduceLT, reduceIte, reduceLE, Int.reduceLT, reduceEq, reduceNeg, reduceToNat, ops, vals, dots]
    exact ⟨0, rfl, Nat.zero_le _, by simp⟩
  rintro env ob n ⟨h0, ho, h3, h7, i, h8, hi, he⟩
  simp +contextual (maxSteps := 1000000) only [go_sem, ints, intRows, reduceAdd, Nat.reduceBEq, reduceEqDiff, reduceLeDiff, Nat.reduceLT, reduceIte, reduceLE, Int.reduceLT, reduceEq, reduceNeg, reduceToNat, ops, vals, dots, h0, ho, h3, h7, h8]
  have w1 : IntKind.i64.wrap ((i : Int) + 1) = ((i + 1 : Nat) : Int) := by rw [w64 (by omega)]; omega
  refine ⟨fun hlt => ?_, fun hge => ?_⟩
  · simp at hlt
    repeat (refine And.intro (by omega) ?_)
    simp +contextual (maxSteps := 1000000) only [go_sem, ints, intRows, reduceAdd, Nat.reduceBEq, reduceEqDiff, reduceLeDiff, Nat.reduceLT, reduceIte, reduceLE, Int.reduceLT, reduceEq, reduceNeg, reduceToNat, ops, vals, dots, h0, ho, h3, h7, h8, w1, dotV]
    refine ⟨fun hb => ?_, fun hg => ⟨⟨i + 1, rfl, by omega, (take_succ_iff hlt).2 ⟨he, hg⟩⟩, by omega⟩⟩
    rw [idxI_at hlt he hb]
  · simp at hge
    rw [List.take_of_length_le (by omega)] at he
    rw [idxI_no he]
theorem ContainsD_ok {fl : Fl} (l : List Dt) (d : Dt) (hl : l.length ≤ maxLen) : FnB Tryz.prog 85 [dots fl l, .ag (dotV d)] (vb (inD l d)) := by
  refine fnB_intro cf85 (by simp) ?_
  simp +contextual (maxSteps := 1000000) only [go_sem, ints, intRows, reduceAdd, Nat.reduceBEq, reduceEqDiff, reduceLeDiff, Nat.reduceLT, reduceIte, reduceLE, Int.reduceLT, reduceEq, reduceNeg, reduceToNat, ops, vals, dots, c85]
  first | refine caS_i (IndexD_ok l d hl) trivial ?_ | refine caD_i (IndexD_ok l d hl) trivial ?_ | refine gC_i (fun _ => IndexD_ok l d hl) trivial ?_ | refine gCD_i (fun _ => IndexD_ok l d hl) trivial ?_ | refine caE_i (IndexD_ok l d hl) trivial ?_
  simp +contextual (maxSteps := 1000000) only [go_sem, ints, intRows, reduceAdd, Nat.reduceBEq, reduceEqDiff, reduceLeDiff, Nat.reduceLT, reduceIte, reduceLE, Int.reduceLT, reduceEq, reduceNeg, reduceToNat, ops, vals, dots, idxI_ge]
  rfl
theorem own_res2 {n : Nat} {ob : OB} {v : V} {ds : List Dt} (h : OwnE n ob v 2 (ds.map dotV)) : ∃ b : Bool, ∀ m, resV ob (m + 3) v = dots (flg b) ds := by
  rcases h with ⟨h0, rfl⟩ | ⟨id, cap, hid, rfl, hob⟩
  · have : ds = [] := by simpa using h0
    subst this; exact ⟨false, fun m => rfl⟩
  · refine ⟨true, fun m => ?_⟩
    simp only [resV, rowsOf, hob, Option.bind_some]
    rw [if_pos (by simp)]
    simp only [List.drop_zero, List.take_length, List.map_map, dots, flg]
    congr 1
theorem OwnE.upd {n m k : Nat} {ob : OB} {v : V} {rows : List (List V)} {x : Option Ob} (h : OwnE n ob v k rows) (hm : n ≤ m) : OwnE n (updO ob m x) v k rows := by
  rcases h with h | ⟨id, cap, hid, h2, h3⟩
  · exact .inl h
  · exact .inr ⟨id, cap, hid, h2, by rw [updO, if_neg (by omega), h3]⟩
theorem OwnE.mono {n n' k : Nat} {ob : OB} {v : V} {rows : List (List V)} (h : OwnE n ob v k rows) (hn : n ≤ n') : OwnE n' ob v k rows := by
  rcases h with h | ⟨id, cap, hid, h2, h3⟩
  · exact .inl h
  · exact .inr ⟨id, cap, by omega, h2, h3⟩
theorem OwnE.fr {n n' k : Nat} {ob ob' : OB} {v : V} {rows : List (List V)} (h : OwnE n ob v k rows) (hn : n ≤ n') (hf : ∀ id len, v = .sl id 0 len → id < n → ob' id = ob id) : OwnE n' ob' v k rows := by
  rcases h with h | ⟨id, cap, hid, h2, h3⟩
  · exact .inl h
  · exact .inr ⟨id, cap, by omega, h2, by rw [hf id _ h2 hid, h3]⟩
theorem OwnE.cell {n k : Nat} {ob : OB} {v : V} {rows : List (List V)} (h : OwnE n ob v k rows) : cellsV v = [v] ∧ leaf v = true := by
  rcases h with ⟨_, rfl⟩ | ⟨id, cap, hid, rfl, h3⟩ <;> exact ⟨rfl, rfl⟩
theorem OwnE.ne {n k k' A len : Nat} {ob : OB} {v : V} {rows r : List (List V)} {c : Option Nat} (h : OwnE n ob v k rows) (hA : ob A = some ⟨k', r, c⟩) (hk : k ≠ k') : v ≠ .sl A 0 len := by
  rcases h with ⟨_, rfl⟩ | ⟨id, cap, hid, h2, h3⟩
  · intro e; cases e
  · intro e; rw [h2] at e; cases e; rw [h3] at hA; cases hA; exact hk rfl
theorem OwnE.lt {n k A len : Nat} {ob : OB} {v : V} {rows : List (List V)} (h : OwnE n ob v k rows) (hA : n ≤ A) : v ≠ .sl A 0 len := by
  rcases h with ⟨_, rfl⟩ | ⟨id, cap, hid, h2, h3⟩
  · intro e; cases e
  · intro e; rw [h2] at e; cases e; omega
def posD (l : List Dt) (d : Dt) : Nat := (l.takeWhile fun a => decide (cmpD a d < 0)).length
def insD (l : List Dt) (d : Dt) : List Dt := if posD l d < l.length ∧ cmpD (gN l (posD l d)) d = 0 then l else l.take (posD l d) ++ d :: l.drop (posD l d)
theorem tw_all {α : Type} {p : α → Bool} : ∀ {l : List α}, ∀ x ∈ l.takeWhile p, p x = true
  | [], x, h => by cases h
  | a :: l, x, h => by
    rw [List.takeWhile_cons] at h
    split at h
    · rename_i ha
      rcases List.mem_cons.1 h with rfl | h
      · exact ha
      · exact tw_all x h
    · cases h
def wrs (cs : List Cel) (vs : List Vl) (x : Opz) : List Cel := (List.range cs.length).map fun i => if i < vs.length then wrCel (gN cs i) (gN vs i) x else gN cs i
theorem wrs_len (cs : List Cel) (vs : List Vl) (x : Opz) : (wrs cs vs x).length = cs.length := by simp [wrs]
theorem wrs_at {cs : List Cel} {vs : List Vl} {x : Opz} {i : Nat} (h : i < cs.length) : gN (wrs cs vs x) i = if i < vs.length then wrCel (gN cs i) (gN vs i) x else gN cs i := by
  rw [gN_eq (by rw [wrs_len]; exact h)]; simp [wrs]
end Go.Proofs.YtbojpedklnmidaaGreat.D
end
section
set_option linter.unusedVariables false
set_option linter.unusedSimpArgs false
set_option linter.constructorNameAsVariable false
set_option maxRecDepth 100000

/- Dots in a map; whether operations are closed. No condition. -/
namespace Go.Proofs.YtbojpedklnmidaaGreat.D
open Go Go.Proofs
open Nat (reduceAdd reduceEqDiff reduceLeDiff)
open Int (reduceLE reduceEq reduceNeg reduceToNat)
def drV (d : Dt) : List V := [.ag (dotV d), .c (.bool true)]
theorem keyEq_dot (d e : Dt) : keyEq true [0, 0] (.ag (dotV d)) (.ag (dotV e)) = some (eqD d e) := by
  simp [keyEq, keyC, dotV, eqCells, eqS, eqD]
theorem keyOk_dot (d : Dt) : keyOk true [0, 0] (.ag (dotV d)) = true := rfl
theorem posM_dots (d : Dt) : ∀ D : List Dt, ∃ q, posM true [0, 0] (.ag (dotV d)) (D.map drV) = some q ∧ valM (.c (.bool false)) (D.map drV) q = .c (.bool (inD D d)) ∧ (inD D d = false → q = none)
  | [] => ⟨none, rfl, rfl, fun _ => rfl⟩
  | e :: D => by
    obtain ⟨q, h1, h2, h3⟩ := posM_dots d D
    simp only [List.map_cons, drV, posM, keyEq_dot, Option.bind_some]
    cases h : eqD d e with
    | true => exact ⟨some 0, by simp, by simp [valM, inD, h], by simp [inD, h]⟩
    | false =>
      refine ⟨q.map (· + 1), by simp [h1], ?_, fun hn => ?_⟩
      · cases q with
        | none => simp [valM, inD, h] at h2 ⊢; exact h2
        | some i => simp [valM, inD, h] at h2 ⊢; exact h2
      · have : inD D d = false := by simpa [inD, h] using hn
        rw [h3 this]; rfl
def allD (D : List Dt) (p m : Int) : Bool := (List.range m.toNat).all fun k => inD D ⟨p, (k + 1 : Nat)⟩
theorem allD_bad {D : List Dt} {p m : Int} {k : Nat} (h1 : (k : Int) < m) (h : inD D ⟨p, (k + 1 : Nat)⟩ = false) : allD D p m = false := by
  cases ha : allD D p m with
  | false => rfl
  | true =>
    unfold allD at ha
    have := List.all_eq_true.1 ha k (List.mem_range.2 (by omega))
    rw [h] at this; cases this
theorem allD_ok {D : List Dt} {p m : Int} (h : ∀ k : Nat, (k : Int) < m → inD D ⟨p, (k + 1 : Nat)⟩ = true) : allD D p m = true := by
  unfold allD
  rw [List.all_eq_true]
  intro k hk
  exact h k (by have := List.mem_range.1 hk; omega)
@[go_sem] theorem bld_dot (a b : Int) (ob : OB) (i : Nat) : opF (.bld [.c (.int .i64 0), .c (.int .i64 0)] [(0, 1), (1, 1)]) [vi a, vi b] ob i = some (.ag (dotV ⟨a, b⟩), []) := by
  simp [opF, fill, cellsV, leaf, dotV, Value.oneCell']
theorem all_ok {D : List Dt} {M nid : Nat} {cap : Option Nat} {p m : Int} {ob : OB} {C : V → OB → Nat → Prop} (hM : ob M = some ⟨0, D.map drV, cap⟩) (hm : m ≤ 1073741824)
    (hC : ∀ n', nid ≤ n' → C (vb (allD D p m)) ob n') : FnS Tryz.prog 49 [.mp M, vi p, vi m] ob nid C := by
  refine fnS_intro cf49 (by simp) ?_
  simp +contextual (maxSteps := 1000000) only [go_sem, ints, intRows, reduceAdd, Nat.reduceBEq, reduceEqDiff, reduceLeDiff, Nat.reduceLT, reduceIte, reduceLE, Int.reduceLT, reduceEq, reduceNeg, reduceToNat, ops, vals, dots, c49]
  refine wpC_lp (fun env ob' n' => ob' = ob ∧ nid ≤ n' ∧ env 0 = .mp M ∧ env 1 = vi p ∧ env 2 = vi m ∧ ∃ k : Nat, env 7 = vi (k + 1 : Nat) ∧ (k : Int) ≤ max m 0 ∧ ∀ j : Nat, j < k → inD D ⟨p, (j + 1 : Nat)⟩ = true) (fun env ob n => (m + 1 - iv (env 7)).toNat) ?_ ?_
  · simp +contextual (maxSteps := 1000000) only [go_sem, ints, intRows, reduceAdd, Nat.reduceBEq, reduceEqDiff, reduceLeDiff, Nat.reduceLT, reduceIte, reduceLE, Int.reduceLT, reduceEq, reduceNeg, reduceToNat, ops, vals, dots]
    exact ⟨by omega, 0, rfl, by omega, fun j hj => by omega⟩
  rintro env ob' n' ⟨rfl, hn, e0, e1, e2, k, e7, hk, he⟩
  obtain ⟨q, q1, q2, q3⟩ := posM_dots ⟨p, (k + 1 : Nat)⟩ D
  have q1' : posM true [0, 0] (.ag [.c (.int .i64 p), .c (.int .i64 (k + 1 : Nat))]) (D.map drV) = some q := q1
  simp +contextual (maxSteps := 1000000) only [go_sem, ints, intRows, reduceAdd, Nat.reduceBEq, reduceEqDiff, reduceLeDiff, Nat.reduceLT, reduceIte, reduceLE, Int.reduceLT, reduceEq, reduceNeg, reduceToNat, ops, vals, dots, e0, e1, e2, e7]
  refine ⟨fun hlt => ?_, fun hge => ?_⟩
  · simp at hlt
    have w1 : IntKind.i64.wrap (((k + 1 : Nat) : Int) + 1) = ((k + 1 + 1 : Nat) : Int) := by rw [w64 (by omega)]; omega
    simp +contextual (maxSteps := 1000000) only [go_sem, ints, intRows, reduceAdd, Nat.reduceBEq, reduceEqDiff, reduceLeDiff, Nat.reduceLT, reduceIte, reduceLE, Int.reduceLT, reduceEq, reduceNeg, reduceToNat, ops, vals, dots, e0, e1, e2, e7, hM, q1', q2, w1]
    refine ⟨rfl, ?_⟩
    refine ⟨fun hb => ?_, fun hb => ⟨⟨by omega, k + 1, rfl, by omega, fun j hj => ?_⟩, by omega⟩⟩
    · rw [← allD_bad (D := D) (p := p) (m := m) (k := k) (by omega) hb]
      exact hC _ (by omega)
    · by_cases hjk : j = k
      · subst hjk; simpa using hb
      · exact he j (by omega)
  · simp at hge
    rw [← allD_ok (D := D) (p := p) (m := m) fun j hj => he j (by omega)]
    exact hC _ (by omega)
def okHead (n : Int) (l : List Opx) : Bool := decide (∀ i, i < l.length → inD ((l.take i).map (·.dot)) (gN l i).dot = false ∧ 0 ≤ (gN l i).dot.p ∧ (gN l i).dot.p < n ∧ ((gN l i).deps.length : Int) = n ∧ vecE (gN l i).deps = 0)
def okTail (D : List Dt) (x : Opx) : Bool := (decide (x.dot.n ≤ 1) || inD D ⟨x.dot.p, x.dot.n - 1⟩) && decide (∀ p, p < x.deps.length → allD D p (gN x.deps p) = true)
def closedB (n : Int) (l : List Opx) : Bool := decide (1 ≤ n ∧ n ≤ 5) && okHead n l && decide (∀ i, i < l.length → okTail (l.map (·.dot)) (gN l i) = true)
theorem vec_most {v : List Int} (h : vecE v = 0) : ∀ p, p < v.length → gN v p ≤ 1073741824 := fun p hp => by
  unfold vecE at h
  split at h
  · split at h
    · rename_i h2; exact (h2 _ (gN_mem hp)).2
    · cases h
  · cases h
set_option maxHeartbeats 2000000 in
theorem Closed_ok {fl : Fl} (n : Int) (l : List Opx) (hl : l.length ≤ maxLen) (hn : ∀ x ∈ l, inI x.dot.n) : FnB Tryz.prog 16 [vi n, ops fl l] (vb (closedB n l)) := by
  unfold maxLen at hl
  refine fnB_intro cf16 (by simp) ?_
  simp +contextual (maxSteps := 1000000) only [go_sem, ints, intRows, reduceAdd, Nat.reduceBEq, reduceEqDiff, reduceLeDiff, Nat.reduceLT, reduceIte, reduceLE, Int.reduceLT, reduceEq, reduceNeg, reduceToNat, ops, vals, dots, c16]
  refine ⟨fun hb => ?_, fun hb => ?_⟩
  · have : decide (1 ≤ n ∧ n ≤ 5) = false := by
      rw [decide_eq_false_iff_not]; intro h
      have h1 : decide (n < 1) = false := by simp; omega
      have h2 : decide (5 < n) = false := by simp; omega
      rw [h1, h2] at hb; cases hb
    unfold closedB; rw [this]; rfl
  have hn5 : 1 ≤ n ∧ n ≤ 5 := by
    simp at hb; omega
  refine wpC_lp (fun env ob nn => env 0 = vi n ∧ env 1 = ops fl l ∧ env 5 = .mp 7 ∧ env 19 = ops fl l ∧ env 20 = vi l.length ∧ 7 < nn ∧ ∃ (i : Nat) (D : List Dt), env 21 = vi i ∧ i ≤ l.length ∧ ob 7 = some ⟨0, D.map drV, none⟩ ∧ D = (l.take i).map (·.dot) ∧ ∀ j, j < i → inD ((l.take j).map (·.dot)) (gN l j).dot = false ∧ 0 ≤ (gN l j).dot.p ∧ (gN l j).dot.p < n ∧ ((gN l j).deps.length : Int) = n ∧ vecE (gN l j).deps = 0) (fun env ob _ => (l.length - iv (env 21)).toNat) ?_ ?_
  · simp +contextual (maxSteps := 1000000) only [go_sem, ints, intRows, reduceAdd, Nat.reduceBEq, reduceEqDiff, reduceLeDiff, Nat.reduceLT, reduceIte, reduceLE, Int.reduceLT, reduceEq, reduceNeg, reduceToNat, ops, vals, dots]
    exact ⟨0, [], rfl, Nat.zero_le _, rfl, rfl, fun j hj => by omega⟩
  rintro env ob nn ⟨h0, h1, h5, h19, h20, hnn, i, D, h21, hi, oM, hD, he⟩
  have w1 : IntKind.i64.wrap ((i : Int) + 1) = ((i + 1 : Nat) : Int) := by rw [w64 (by omega)]; omega
  simp +contextual (maxSteps := 1000000) only [go_sem, ints, intRows, reduceAdd, Nat.reduceBEq, reduceEqDiff, reduceLeDiff, Nat.reduceLT, reduceIte, reduceLE, Int.reduceLT, reduceEq, reduceNeg, reduceToNat, ops, vals, dots, h0, h1, h5, h19, h20, h21]
  refine ⟨fun hlt => ?_, fun hge => ?_⟩
  · simp at hlt
    obtain ⟨q, q1, q2, q3⟩ := posM_dots (gN l i).dot D
    have h4 : (7 == nn + 1 + 1 + 1) = false := by simp; omega
    have q1' : posM true [0, 0] (.ag [vi (gN l i).dot.p, vi (gN l i).dot.n]) (D.map drV) = some q := q1
    have qk : keyOk true [0, 0] (.ag [vi (gN l i).dot.p, vi (gN l i).dot.n]) = true := rfl
    repeat (refine And.intro (by omega) ?_)
    simp +contextual (maxSteps := 1000000) only [go_sem, ints, intRows, reduceAdd, Nat.reduceBEq, reduceEqDiff, reduceLeDiff, Nat.reduceLT, reduceIte, reduceLE, Int.reduceLT, reduceEq, reduceNeg, reduceToNat, ops, vals, dots, h0, h1, h5, h19, h20, h21, h4, oM, qk, q1', q2, w1]
    first | refine caS_i (Check_ok (fl := .b) (gN l i).deps) trivial ?_ | refine caD_i (Check_ok (fl := .b) (gN l i).deps) trivial ?_ | refine gC_i (fun _ => Check_ok (fl := .b) (gN l i).deps) trivial ?_ | refine gCD_i (fun _ => Check_ok (fl := .b) (gN l i).deps) trivial ?_ | refine caE_i (Check_ok (fl := .b) (gN l i).deps) trivial ?_
    simp +contextual (maxSteps := 1000000) only [go_sem, ints, intRows, reduceAdd, Nat.reduceBEq, reduceEqDiff, reduceLeDiff, Nat.reduceLT, reduceIte, reduceLE, Int.reduceLT, reduceEq, reduceNeg, reduceToNat, ops, vals, dots, h0, h1, h5, h19, h20, h21, h4, oM, qk, q1', q2, w1]
    subst hD
    refine ⟨fun hb => ?_, fun hb => ⟨⟨by omega, i + 1, ((l.take i).map (·.dot)) ++ [(gN l i).dot], rfl, by omega, ?_, ?_, fun j hj => ?_⟩, by omega⟩⟩
    · have hno : okHead n l = false := by
        unfold okHead; rw [decide_eq_false_iff_not]; intro h
        obtain ⟨a1, a2, a3, a4, a5⟩ := h i hlt
        have b2 : decide ((gN l i).dot.p < 0) = false := by simp; omega
        have b3 : decide (n ≤ (gN l i).dot.p) = false := by simp; omega
        rw [a1, b2, b3, decide_eq_true a4, decide_eq_true a5] at hb
        cases hb
      unfold closedB; rw [hno, Bool.and_false]; rfl
    · have hin : inD ((l.take i).map (·.dot)) (gN l i).dot = false := by
        cases h : inD ((l.take i).map (·.dot)) (gN l i).dot with
        | false => rfl
        | true => rw [h] at hb; simp at hb
      rw [q3 hin, List.map_append]; rfl
    · rw [take_gN hlt, List.map_append]; rfl
    · by_cases hji : j = i
      · subst hji
        simp only [Bool.or_eq_false_iff, Bool.not_eq_false', decide_eq_false_iff_not, decide_eq_true_eq] at hb
        exact ⟨hb.1.1.1.1, by omega, by omega, hb.1.2, hb.2⟩
      · exact he j (by omega)
  have hi' : i = l.length := by simp at hge; omega
  subst hi'
  rw [List.take_length] at hD
  have hhead : okHead n l = true := by unfold okHead; rw [decide_eq_true he]
  have hcl : closedB n l = decide (∀ i, i < l.length → okTail D (gN l i) = true) := by unfold closedB; rw [decide_eq_true hn5, hhead, hD]; rfl
  clear hge w1 h21 hb hhead
  refine wpC_lp (fun env' ob' n' => env' 0 = vi n ∧ env' 5 = .mp 7 ∧ env' 59 = ops fl l ∧ env' 60 = vi l.length ∧ 7 < n' ∧ ob' 7 = some ⟨0, D.map drV, none⟩ ∧ ∃ i : Nat, env' 61 = vi i ∧ i ≤ l.length ∧ ∀ j, j < i → okTail D (gN l j) = true) (fun env ob _ => (l.length - iv (env 61)).toNat) ?_ ?_
  · simp +contextual (maxSteps := 1000000) only [go_sem, ints, intRows, reduceAdd, Nat.reduceBEq, reduceEqDiff, reduceLeDiff, Nat.reduceLT, reduceIte, reduceLE, Int.reduceLT, reduceEq, reduceNeg, reduceToNat, ops, vals, dots, h0, h1, h5, h19, h20, oM]
    exact ⟨by omega, 0, rfl, Nat.zero_le _, fun j hj => by omega⟩
  clear h0 h1 h5 h19 h20 oM
  rintro env ob nn ⟨h0, h5, h59, h60, hnn, oM, i, h61, hi, ht⟩
  have w1 : IntKind.i64.wrap ((i : Int) + 1) = ((i + 1 : Nat) : Int) := by rw [w64 (by omega)]; omega
  simp +contextual (maxSteps := 1000000) only [go_sem, ints, intRows, reduceAdd, Nat.reduceBEq, reduceEqDiff, reduceLeDiff, Nat.reduceLT, reduceIte, reduceLE, Int.reduceLT, reduceEq, reduceNeg, reduceToNat, ops, vals, dots, h0, h5, h59, h60, h61]
  refine ⟨fun hlt => ?_, fun hge => ?_⟩
  · simp at hlt
    have hve := he i hlt
    have hnx := hn _ (gN_mem hlt)
    generalize hx : gN l i = x at *
    obtain ⟨q, q1, q2, q3⟩ := posM_dots ⟨x.dot.p, IntKind.i64.wrap (x.dot.n - 1)⟩ D
    have h4 : (7 == nn + 1 + 1 + 1) = false := by simp; omega
    have q1' : posM true [0, 0] (.ag [.c (.int .i64 x.dot.p), .c (.int .i64 (IntKind.i64.wrap (x.dot.n - 1)))]) (D.map drV) = some q := q1
    have qk : keyOk true [0, 0] (.ag [.c (.int .i64 x.dot.p), .c (.int .i64 (IntKind.i64.wrap (x.dot.n - 1)))]) = true := rfl
    have q1'' : posM true [0, 0] (.ag (dotV ⟨x.dot.p, IntKind.i64.wrap (x.dot.n - 1)⟩)) (D.map drV) = some q := q1
    repeat (refine And.intro (by omega) ?_)
    simp +contextual (maxSteps := 1000000) only [go_sem, ints, intRows, reduceAdd, Nat.reduceBEq, reduceEqDiff, reduceLeDiff, Nat.reduceLT, reduceIte, reduceLE, Int.reduceLT, reduceEq, reduceNeg, reduceToNat, ops, vals, dots, h0, h5, h59, h60, h61, h4, oM, qk, q1', q1'', q2, w1, hx, keyOk_dot]
    have hbad : okTail D x = false → vb false = vb (closedB n l) := fun h => by
      rw [hcl, decide_eq_false]; intro h2; have := h2 i hlt; rw [hx, h] at this; cases this
    have hfst : (decide (1 < x.dot.n) && !inD D ⟨x.dot.p, IntKind.i64.wrap (x.dot.n - 1)⟩) = !(decide (x.dot.n ≤ 1) || inD D ⟨x.dot.p, x.dot.n - 1⟩) := by
      by_cases h1 : 1 < x.dot.n
      · have hw : IntKind.i64.wrap (x.dot.n - 1) = x.dot.n - 1 := by unfold inI at hnx; exact w64 (by omega)
        have h2 : decide (x.dot.n ≤ 1) = false := by simp; omega
        rw [hw, h2, decide_eq_true h1]; simp
      · have h2 : decide (x.dot.n ≤ 1) = true := by simp; omega
        rw [h2, decide_eq_false h1]; rfl
    rw [hfst]
    refine ⟨fun hb => ?_, fun hb => ?_⟩
    · refine hbad ?_
      unfold okTail
      have : (decide (x.dot.n ≤ 1) || inD D ⟨x.dot.p, x.dot.n - 1⟩) = false := by simpa using hb
      rw [this]; rfl
    have hb1 : (decide (x.dot.n ≤ 1) || inD D ⟨x.dot.p, x.dot.n - 1⟩) = true := by
      cases h : (decide (x.dot.n ≤ 1) || inD D ⟨x.dot.p, x.dot.n - 1⟩) with
      | true => rfl
      | false => rw [h] at hb; cases hb
    have hdl : x.deps.length ≤ 5 := by
      have := hve.2.2.2.1; omega
    refine wpC_lp (fun env' ob' n' => env' 0 = vi n ∧ env' 5 = .mp 7 ∧ env' 59 = ops fl l ∧ env' 60 = vi l.length ∧ env' 61 = vi i ∧ 7 < n' ∧ ob' 7 = some ⟨0, D.map drV, none⟩ ∧ env' 83 = ints .b x.deps ∧ env' 84 = vi x.deps.length ∧ ∃ p : Nat, env' 85 = vi p ∧ p ≤ x.deps.length ∧ ∀ j, j < p → allD D j (gN x.deps j) = true) (fun env ob _ => (x.deps.length - iv (env 85)).toNat) ?_ ?_
    · simp +contextual (maxSteps := 1000000) only [go_sem, ints, intRows, reduceAdd, Nat.reduceBEq, reduceEqDiff, reduceLeDiff, Nat.reduceLT, reduceIte, reduceLE, Int.reduceLT, reduceEq, reduceNeg, reduceToNat, ops, vals, dots, h0, h5, h59, h60, h61, h4, oM]
      exact ⟨by omega, 0, rfl, Nat.zero_le _, fun j hj => by omega⟩
    clear h0 h5 h59 h60 h61 oM h4
    rintro env ob2 n2 ⟨h0, h5, h59, h60, h61, hn2, oM, h83, h84, p, h85, hp, hap⟩
    have w2 : IntKind.i64.wrap ((p : Int) + 1) = ((p + 1 : Nat) : Int) := by rw [w64 (by omega)]; omega
    simp +contextual (maxSteps := 1000000) only [go_sem, ints, intRows, reduceAdd, Nat.reduceBEq, reduceEqDiff, reduceLeDiff, Nat.reduceLT, reduceIte, reduceLE, Int.reduceLT, reduceEq, reduceNeg, reduceToNat, ops, vals, dots, h0, h5, h59, h60, h61, h83, h84, h85]
    refine ⟨fun hlp => ?_, fun hgp => ?_⟩
    · simp at hlp
      repeat (refine And.intro (by omega) ?_)
      have hmost := vec_most hve.2.2.2.2 p hlp
      refine rcS_i (all_ok oM hmost fun n' hn' => ?_)
      simp +contextual (maxSteps := 1000000) only [go_sem, ints, intRows, reduceAdd, Nat.reduceBEq, reduceEqDiff, reduceLeDiff, Nat.reduceLT, reduceIte, reduceLE, Int.reduceLT, reduceEq, reduceNeg, reduceToNat, ops, vals, dots, h0, h5, h59, h60, h61, h83, h84, h85, w2]
      refine ⟨fun hb => ?_, fun hb => ⟨⟨by omega, oM, p + 1, rfl, by omega, fun j hj => ?_⟩, by omega⟩⟩
      · refine hbad ?_
        unfold okTail
        have : decide (∀ p : Nat, p < x.deps.length → allD D p (gN x.deps p) = true) = false := decide_eq_false fun h => by have := h p hlp; rw [hb] at this; cases this
        rw [this, Bool.and_false]
      · by_cases hjp : j = p
        · subst hjp; simpa using hb
        · exact hap j (by omega)
    · have hp' : p = x.deps.length := by simp at hgp; omega
      subst hp'
      simp +contextual (maxSteps := 1000000) only [go_sem, ints, intRows, reduceAdd, Nat.reduceBEq, reduceEqDiff, reduceLeDiff, Nat.reduceLT, reduceIte, reduceLE, Int.reduceLT, reduceEq, reduceNeg, reduceToNat, ops, vals, dots, h0, h5, h59, h60, h61, w1]
      refine ⟨⟨by omega, oM, i + 1, rfl, by omega, fun j hj => ?_⟩, by omega⟩
      by_cases hji : j = i
      · subst hji
        rw [hx]; unfold okTail; rw [hb1, decide_eq_true hap]; rfl
      · exact ht j (by omega)
  · have hi' : i = l.length := by simp at hge; omega
    subst hi'
    rw [hcl, decide_eq_true ht]
end Go.Proofs.YtbojpedklnmidaaGreat.D
end
section
set_option linter.unusedVariables false
set_option linter.unusedSimpArgs false
set_option linter.constructorNameAsVariable false
set_option maxRecDepth 100000

/- What is read only and not handed back: a call's arguments taken so. No condition. -/
namespace Go.Proofs.YtbojpedklnmidaaGreat.D
open Go Go.Proofs
open Nat (reduceAdd reduceEqDiff reduceLeDiff)
open Int (reduceLE reduceEq reduceNeg reduceToNat)
def toN1 : V → V
  | .im .b l => .im .n l
  | v => v
def toB1 : V → V
  | .im .n l => .im .b l
  | v => v
section
variable {w : World} {ok : Fl → Nat → Prop} {loc : Loc}
theorem RV_fl {f f' : Fl} {l : List (List V)} {x : Value} (hok : ∀ b, ok f b → ok f' b) (ho : f' = .o → f = .o) (h : RV w ok loc (.im f l) x) : RV w ok loc (.im f' l) x := by
  cases h with
  | e _ a cap h => exact .e f' a cap fun e => h (ho e)
  | im _ _ k b off n cap ys hn hk hc ho h0 h => exact .im f' l k b off n cap ys hn hk hc (hok _ ho) h0 h
theorem RV_toN {v : V} {x : Value} (hok : ∀ b, ok .b b → ok .n b) (h : RV w ok loc v x) : RV w ok loc (toN1 v) x := by
  unfold toN1; split
  · exact RV_fl hok (fun e => by cases e) h
  · exact h
theorem RV_toB {v : V} {x : Value} (hok : ∀ b, ok .n b → ok .b b) (h : RV w ok loc v x) : RV w ok loc (toB1 v) x := by
  unfold toB1; split
  · exact RV_fl hok (fun e => by cases e) h
  · exact h
theorem el_mapG {l : List (List V)} {g : V → V} {i j : Nat} {v : V} (h : el (l.map fun r => r.map g) i j = some v) : ∃ v0, el l i j = some v0 ∧ v = g v0 := by
  unfold el at h ⊢
  rw [List.getElem?_map] at h
  cases hl : l[i]? with
  | none => rw [hl] at h; cases h
  | some r =>
    rw [hl] at h
    simp only [Option.map_some, Option.bind_some, List.getElem?_map] at h ⊢
    obtain ⟨v0, h1, rfl⟩ := Option.map_eq_some_iff.1 h
    exact ⟨v0, h1, rfl⟩
theorem RV_rows {g : V → V} (hg : ∀ v x, RV w ok loc v x → RV w ok loc (g v) x) {f : Fl} {l : List (List V)} {x : Value} (h : RV w ok loc (.im f l) x) : RV w ok loc (.im f (l.map fun r => r.map g)) x := by
  cases h with
  | e _ a cap h => exact .e f a cap h
  | im _ _ k b off n cap ys hn hk hc ho h0 h =>
    refine .im f _ k b off n cap ys (by simpa using hn) (fun ch hch => ?_) hc ho (fun i j v hv => ?_) fun i j v hv => ?_
    · obtain ⟨r, hr, rfl⟩ := List.mem_map.1 hch
      rw [List.length_map]; exact hk r hr
    · obtain ⟨v0, h1, _⟩ := el_mapG hv
      exact h0 i j v0 h1
    · obtain ⟨v0, h1, rfl⟩ := el_mapG hv
      exact hg _ _ (h i j v0 h1)
theorem RV_ag {g : V → V} (hg : ∀ v x, RV w ok loc v x → RV w ok loc (g v) x) {l : List V} {x : Value} (h : RV w ok loc (.ag l) x) : RV w ok loc (.ag (l.map g)) x := by
  cases h with
  | ag _ xs hn h =>
    refine .ag _ xs (by simpa using hn) fun i v x hv hx => ?_
    rw [List.getElem?_map] at hv
    obtain ⟨v0, h1, rfl⟩ := Option.map_eq_some_iff.1 hv
    exact hg _ _ (h i v0 x h1 hx)
end
inductive FArg (g : V → V) : V → V → Prop
  | r (v : V) : FArg g v v
  | i (f : Fl) (l : List (List V)) : FArg g (.im f l) (.im f (l.map fun r => r.map g))
  | a (l : List V) : FArg g (.ag l) (.ag (l.map g))
def FArgs (g : V → V) : List V → List V → Prop
  | [], [] => True
  | a :: l, a' :: l' => FArg g a a' ∧ FArgs g l l'
  | _, _ => False
theorem FArgs.get {g : V → V} : ∀ {l l' : List V}, FArgs g l l' → l.length = l'.length ∧ ∀ (i : Nat) (v' : V), l'[i]? = some v' → ∃ v, l[i]? = some v ∧ FArg g v v'
  | [], [], _ => ⟨rfl, fun i v' h => by cases h⟩
  | a :: l, a' :: l', h => by
    obtain ⟨h1, h2⟩ := FArgs.get h.2
    refine ⟨by simp [h1], fun i v' hv => ?_⟩
    cases i with
    | zero =>
      simp only [List.getElem?_cons_zero, Option.some.injEq] at hv ⊢
      subst hv; exact ⟨a, rfl, h.1⟩
    | succ i => simpa using h2 i v' (by simpa using hv)
  | [], _ :: _, h => h.elim
  | _ :: _, [], h => h.elim
theorem RVs_args {w : World} {ok : Fl → Nat → Prop} {loc : Loc} {g : V → V} (hg : ∀ v x, RV w ok loc v x → RV w ok loc (g v) x) {l l' : List V} {xs : List Value} (ha : FArgs g l l') (h : RVs w ok loc l xs) : RVs w ok loc l' xs := by
  obtain ⟨h1, h2⟩ := ha.get
  refine ⟨h.1.trans h1, fun i v x hv hx => ?_⟩
  obtain ⟨v0, h3, h4⟩ := h2 i v hv
  have h5 := h.2 i v0 x h3 hx
  cases h4 with
  | r => exact h5
  | i f l => exact RV_rows hg h5
  | a l => exact RV_ag hg h5
theorem FnB_weak {P : Program} {f : FuncId} {args args' : List V} {r : V} (h : FnB P f args' r) (ha : FArgs toN1 args args') : FnB P f args r :=
  ⟨h.1, fun B w xs hx => h.2 B w xs (RVs_args (fun v x => RV_toN fun b hb => ⟨hb.1, hb.2.1, .inl rfl⟩) ha hx)⟩
theorem FnB_nb {P : Program} {f : FuncId} {args args' : List V} {c : Value} (h : FnB P f args (.c c)) (ha : FArgs toB1 args' args) : FnB P f args' (.c c) := by
  refine ⟨h.1, fun B w xs hx => ?_⟩
  have hx2 : RVs w (@okf ⟨fun _ => True⟩ (fun _ => none) w.heap.size w.heap.size) (fun _ => none) args' xs :=
    ⟨hx.1, fun i v x hv hxx => (hx.2 i v x hv hxx).mono (fun _ _ _ _ _ h => h) (fun f b hb => ⟨hb.1, hb.2.1, by
      rcases hb.2.2 with h | h | h
      · exact .inl h
      · exact .inr (.inl ⟨h.1, trivial⟩)
      · exact .inr (.inr h)⟩) fun id h => .inl rfl⟩
  have hx3 := RVs_args (fun v x => RV_toB fun b hb => ⟨hb.1, hb.2.1, .inr (.inl ⟨rfl, trivial⟩)⟩) ha hx2
  refine (h.2 ⟨fun _ => True⟩ w xs hx3).mono ?_
  rintro e w' ⟨x, h1, h2, h3⟩
  refine ⟨x, h1, ?_, h3⟩
  obtain ⟨bo, g1, g2, g3⟩ := h2
  refine ⟨bo, g1, fun i r x hr hx => ?_, g3⟩
  have hr2 := g2 i r x hr hx
  have : r = .c c := by
    cases i with
    | zero => simpa using hr.symm
    | succ i => simp at hr
  subst this
  obtain ⟨k1, k2⟩ := hr2
  cases k2
  exact ⟨k1, .c _⟩
def opN (x : Opx) : List V := [vi x.dot.p, vi x.dot.n, ints .n x.deps, vi x.st.p, vi x.st.l, vi x.st.q, vi x.kind, vi x.table, .c (.string x.key), vi x.col, vals .n x.vals, dots .n x.dots]
def opsN (f : Fl) (l : List Opx) : V := .im f (l.map opN)
@[go_sem] theorem opsN_d (f : Fl) (l : List Opx) : opsN f l = .im f (l.map opN) := (rfl)
@[go_sem] theorem opN_d1 (x : Opx) : (opN x).drop 1 = [vi x.dot.n, ints .n x.deps, vi x.st.p, vi x.st.l, vi x.st.q, vi x.kind, vi x.table, .c (.string x.key), vi x.col, vals .n x.vals, dots .n x.dots] := (rfl)
@[go_sem] theorem opN_d2 (x : Opx) : (opN x).drop 2 = [ints .n x.deps, vi x.st.p, vi x.st.l, vi x.st.q, vi x.kind, vi x.table, .c (.string x.key), vi x.col, vals .n x.vals, dots .n x.dots] := (rfl)
@[go_sem] theorem opN_d3 (x : Opx) : (opN x).drop 3 = [vi x.st.p, vi x.st.l, vi x.st.q, vi x.kind, vi x.table, .c (.string x.key), vi x.col, vals .n x.vals, dots .n x.dots] := (rfl)
@[go_sem] theorem opN_d4 (x : Opx) : (opN x).drop 4 = [vi x.st.l, vi x.st.q, vi x.kind, vi x.table, .c (.string x.key), vi x.col, vals .n x.vals, dots .n x.dots] := (rfl)
@[go_sem] theorem opN_d5 (x : Opx) : (opN x).drop 5 = [vi x.st.q, vi x.kind, vi x.table, .c (.string x.key), vi x.col, vals .n x.vals, dots .n x.dots] := (rfl)
@[go_sem] theorem opN_d6 (x : Opx) : (opN x).drop 6 = [vi x.kind, vi x.table, .c (.string x.key), vi x.col, vals .n x.vals, dots .n x.dots] := (rfl)
@[go_sem] theorem opN_d7 (x : Opx) : (opN x).drop 7 = [vi x.table, .c (.string x.key), vi x.col, vals .n x.vals, dots .n x.dots] := (rfl)
@[go_sem] theorem opN_d8 (x : Opx) : (opN x).drop 8 = [.c (.string x.key), vi x.col, vals .n x.vals, dots .n x.dots] := (rfl)
@[go_sem] theorem opN_d9 (x : Opx) : (opN x).drop 9 = [vi x.col, vals .n x.vals, dots .n x.dots] := (rfl)
@[go_sem] theorem opN_d10 (x : Opx) : (opN x).drop 10 = [vals .n x.vals, dots .n x.dots] := (rfl)
@[go_sem] theorem opN_d11 (x : Opx) : (opN x).drop 11 = [dots .n x.dots] := (rfl)
@[go_sem] theorem opN_t1 (x : Opx) : (opN x).take 1 = [vi x.dot.p] := (rfl)
@[go_sem] theorem opN_t2 (x : Opx) : (opN x).take 2 = [vi x.dot.p, vi x.dot.n] := (rfl)
@[go_sem] theorem opN_t3 (x : Opx) : (opN x).take 3 = [vi x.dot.p, vi x.dot.n, ints .n x.deps] := (rfl)
@[go_sem] theorem opN_t4 (x : Opx) : (opN x).take 4 = [vi x.dot.p, vi x.dot.n, ints .n x.deps, vi x.st.p] := (rfl)
@[go_sem] theorem opN_t5 (x : Opx) : (opN x).take 5 = [vi x.dot.p, vi x.dot.n, ints .n x.deps, vi x.st.p, vi x.st.l] := (rfl)
@[go_sem] theorem opN_t6 (x : Opx) : (opN x).take 6 = [vi x.dot.p, vi x.dot.n, ints .n x.deps, vi x.st.p, vi x.st.l, vi x.st.q] := (rfl)
@[go_sem] theorem opN_t7 (x : Opx) : (opN x).take 7 = [vi x.dot.p, vi x.dot.n, ints .n x.deps, vi x.st.p, vi x.st.l, vi x.st.q, vi x.kind] := (rfl)
@[go_sem] theorem opN_t8 (x : Opx) : (opN x).take 8 = [vi x.dot.p, vi x.dot.n, ints .n x.deps, vi x.st.p, vi x.st.l, vi x.st.q, vi x.kind, vi x.table] := (rfl)
@[go_sem] theorem opN_t9 (x : Opx) : (opN x).take 9 = [vi x.dot.p, vi x.dot.n, ints .n x.deps, vi x.st.p, vi x.st.l, vi x.st.q, vi x.kind, vi x.table, .c (.string x.key)] := (rfl)
@[go_sem] theorem opN_t10 (x : Opx) : (opN x).take 10 = [vi x.dot.p, vi x.dot.n, ints .n x.deps, vi x.st.p, vi x.st.l, vi x.st.q, vi x.kind, vi x.table, .c (.string x.key), vi x.col] := (rfl)
@[go_sem] theorem opN_t11 (x : Opx) : (opN x).take 11 = [vi x.dot.p, vi x.dot.n, ints .n x.deps, vi x.st.p, vi x.st.l, vi x.st.q, vi x.kind, vi x.table, .c (.string x.key), vi x.col, vals .n x.vals] := (rfl)
@[go_sem] theorem opN_t12 (x : Opx) : (opN x).take 12 = opN x := (rfl)
@[go_sem] theorem opN_d12 (x : Opx) : (opN x).drop 12 = [] := (rfl)
@[go_sem] theorem opN_len (x : Opx) : (opN x).length = 12 := (rfl)
@[go_sem] theorem opN_leaf (x : Opx) : (opN x).all leaf = true := (rfl)
@[go_sem] theorem opN_row (x : Opx) : okRow 12 (opN x) = true := (rfl)
@[go_sem] theorem res_opN (ob : OB) (n : Nat) (x : Opx) : (opN x).map (resV ob (n + 3)) = opN x := by
  simp [opN, resV, ints, vals, dots, resFl, vlV, dotV, Function.comp_def]
theorem ops_toN (f : Fl) (l : List Opx) : FArg toN1 (ops f l) (opsN f l) := by
  have : opsN f l = .im f ((l.map opV).map fun r => r.map toN1) := by
    unfold opsN; rw [List.map_map]; rfl
  rw [this]; exact .i f _
theorem op_toB (x : Opx) : FArg toB1 (.ag (opN x)) (.ag (opV x)) := .a (opN x)
end Go.Proofs.YtbojpedklnmidaaGreat.D
end
section
set_option linter.unusedVariables false
set_option linter.unusedSimpArgs false
set_option linter.constructorNameAsVariable false
set_option maxRecDepth 100000

/- What operations make of a key: an operation noted. No condition. -/
namespace Go.Proofs.YtbojpedklnmidaaGreat.D
open Go Go.Proofs
open Nat (reduceAdd reduceEqDiff reduceLeDiff)
open Int (reduceLE reduceEq reduceNeg reduceToNat)
section
variable {ob : OB} {nid k : Nat} {v x : V} {rows xs : List (List V)}
theorem app_new (h : (rows = [] ∧ v = .z) ∨ (∃ id cap, v = .sl id 0 rows.length ∧ ob id = some ⟨k, rows, cap⟩)) (h0 : xs ≠ []) (hx : rowsOf ob x = some xs) (hk : xs.all (okRow k) = true) (hlen : rows.length + xs.length ≤ maxLen) :
    ∃ us, opF (.app k) [v, x] ob nid = some (.sl nid 0 (rows.length + xs.length), us) ∧ apps ob us nid = some ⟨k, rows ++ xs, none⟩ ∧ ∀ id, id ≠ nid → (∀ len, v ≠ .sl id 0 len) → apps ob us id = ob id := by
  have hx0 : xs.length ≠ 0 := fun e => h0 (List.eq_nil_of_length_eq_zero e)
  rcases h with ⟨rfl, rfl⟩ | ⟨id, cap, rfl, hob⟩
  · refine ⟨[(nid, some ⟨k, xs, none⟩)], ?_, by simp [apps], fun j hj _ => by simp [apps, hj]⟩
    simp only [opF, hx, hk, Option.bind_some, if_true, hx0, if_false]; rw [if_pos (by simpa using hlen)]; simp
  · refine ⟨grown cap id (rows.length + xs.length) ++ [(nid, some ⟨k, rows ++ xs, none⟩)], ?_, ?_, fun j hj hs => ?_⟩
    · simp only [opF, hx, hk, Option.bind_some, if_true, hob]
      rw [if_pos ⟨trivial, by omega, hlen⟩, if_neg (by omega)]
      simp
    · rw [apps_append]; simp [apps]
    · rw [apps_append]
      have hji : j ≠ id := fun e => hs rows.length (by rw [e])
      have : apps ob (grown cap id (rows.length + xs.length)) j = ob j := by
        unfold grown; split
        · split <;> simp [apps, hji]
        · simp [apps, hji]
      simp [apps, hj, this]
end
def atX (x : Opx) (col : Int) : Int := if x.kind = 1 then col else if x.kind = 2 ∧ x.col = col then 0 else -1
theorem at_ok (x : Opx) (col : Int) : FnB Tryz.prog 90 [.ag (opV x), vi col] (vi (atX x col)) := by
  refine fnB_intro cf90 (by simp) ?_
  simp +contextual (maxSteps := 1000000) only [go_sem, ints, intRows, reduceAdd, Nat.reduceBEq, reduceEqDiff, reduceLeDiff, Nat.reduceLT, reduceIte, reduceLE, Int.reduceLT, reduceEq, reduceNeg, reduceToNat, ops, vals, dots, c90]
  unfold atX
  refine ⟨fun h1 => ?_, fun h1 => ⟨fun h2 => ?_, fun h2 => ?_⟩⟩
  · rw [if_pos (by simpa using h1)]
  · simp at h1 h2
    rw [if_neg h1, if_pos h2]
  · simp only [decide_eq_false_iff_not] at h1
    rw [if_neg h1, if_neg]
    rintro ⟨a, b⟩
    simp [a, b] at h2
theorem at_okN (x : Opx) (col : Int) : FnB Tryz.prog 90 [.ag (opN x), vi col] (vi (atX x col)) := FnB_nb (at_ok x col) ⟨op_toB x, .r _, trivial⟩
structure Mde where
  key : ByteArray
  ins : List Dt
  outs : List Dt
  last : List (Option Opx)
instance : Inhabited Mde := ⟨⟨⟨#[]⟩, [], [], []⟩⟩
def zOpV : List V := [vi 0, vi 0, .z, vi 0, vi 0, vi 0, vi 0, vi 0, .c (.string ⟨#[]⟩), vi 0, .z, .z]
def lastV : Option Opx → List V
  | none => zOpV
  | some x => opN x
def lateB (o : Option Opx) (x : Opx) : Bool := match o with
  | none => true
  | some y => decide (y.kind = 0) || decide (cmpT y.st x.st < 0)
def noteM (M : Mde) (x : Opx) : Mde := ⟨M.key, if x.kind = 1 then M.ins ++ [x.dot] else M.ins, if x.kind = 3 then M.outs ++ x.dots else M.outs, M.last.mapIdx fun c o => if 0 ≤ atX x c ∧ lateB o x = true then some x else o⟩
structure MadeO (ob : OB) (n mid : Nat) (M : Mde) (inV outV laV : V) : Prop where
  m : ob mid = some ⟨4, [[.c (.string M.key), inV, outV, laV]], none⟩
  i : Own n ob inV 2 (M.ins.map dotV)
  o : Own n ob outV 2 (M.outs.map dotV)
  l : OwnE n ob laV 12 (M.last.map lastV)
  d : ∀ id len len', inV = .sl id 0 len → outV ≠ .sl id 0 len'
  lt : mid < n
end Go.Proofs.YtbojpedklnmidaaGreat.D
end
section
set_option linter.constructorNameAsVariable false

/- The library's sort of texts, by its contract, at this program: written by the kit's tool. No condition. -/
namespace Go.Proofs.YtbojpedklnmidaaGreat.D
open Go Go.Proofs
open Nat (reduceAdd reduceEqDiff reduceLeDiff)
open Int (reduceLE reduceEq reduceNeg reduceToNat)
open Go.Shelf
def laysSort_ren : Go.Shelf.Ren := ⟨fun | 190 => 46 | 125 => 93 | 258 => 92 | 128 => 135 | 129 => 136 | 302 => 126 | 303 => 127 | 304 => 128 | 305 => 129 | 306 => 130 | 307 => 131 | 308 => 132 | 309 => 133 | 310 => 134 | 333 => 149 | 329 => 150 | 330 => 151 | 334 => 152 | 335 => 153 | 336 => 154 | 344 => 161 | n => n, fun | 31 => 91 | 9 => 9 | 3 => 3 | 46 => 119 | 0 => 0 | 51 => 166 | 53 => 168 | 4 => 4 | 183 => 159 | 182 => 158 | 131 => 74 | 5 => 5 | 218 => 173 | 222 => 177 | 228 => 184 | 229 => 185 | n => n, fun | n => n⟩
theorem laysSort : Go.Proofs.Lays.n190 Tryz.prog laysSort_ren := {
  mixed := by kernel_rfl
  f125 := Tryz.func93.trans (congrArg some (by kernel_rfl))
  f128 := Tryz.func135.trans (congrArg some (by kernel_rfl))
  f129 := Tryz.func136.trans (congrArg some (by kernel_rfl))
  f190 := Tryz.func46.trans (congrArg some (by kernel_rfl))
  f258 := Tryz.func92.trans (congrArg some (by kernel_rfl))
  f302 := Tryz.func126.trans (congrArg some (by kernel_rfl))
  f303 := Tryz.func127.trans (congrArg some (by kernel_rfl))
  f304 := Tryz.func128.trans (congrArg some (by kernel_rfl))
  f305 := Tryz.func129.trans (congrArg some (by kernel_rfl))
  f306 := Tryz.func130.trans (congrArg some (by kernel_rfl))
  f307 := Tryz.func131.trans (congrArg some (by kernel_rfl))
  f308 := Tryz.func132.trans (congrArg some (by kernel_rfl))
  f309 := Tryz.func133.trans (congrArg some (by kernel_rfl))
  f310 := Tryz.func134.trans (congrArg some (by kernel_rfl))
  f329 := Tryz.func150.trans (congrArg some (by kernel_rfl))
  f330 := Tryz.func151.trans (congrArg some (by kernel_rfl))
  f333 := Tryz.func149.trans (congrArg some (by kernel_rfl))
  f334 := Tryz.func152.trans (congrArg some (by kernel_rfl))
  f335 := Tryz.func153.trans (congrArg some (by kernel_rfl))
  f336 := Tryz.func154.trans (congrArg some (by kernel_rfl))
  f344 := Tryz.func161.trans (congrArg some (by kernel_rfl))
  t0 := Tryz.underlying0
  a0 := Tryz.isAgg0
  z0 := Tryz.sizeOf0
  v0 := Tryz.zeroValue0
  t3 := Tryz.underlying3
  a3 := Tryz.isAgg3
  z3 := Tryz.sizeOf3
  v3 := Tryz.zeroValue3
  t4 := Tryz.underlying4
  a4 := Tryz.isAgg4
  z4 := Tryz.sizeOf4
  v4 := Tryz.zeroValue4
  t5 := Tryz.underlying5
  a5 := Tryz.isAgg5
  z5 := Tryz.sizeOf5
  v5 := Tryz.zeroValue5
  t9 := Tryz.underlying9
  a9 := Tryz.isAgg9
  z9 := Tryz.sizeOf9
  v9 := Tryz.zeroValue9
  t31 := Tryz.underlying91
  a31 := Tryz.isAgg91
  z31 := Tryz.sizeOf91
  v31 := Tryz.zeroValue91
  t46 := Tryz.underlying119
  a46 := Tryz.isAgg119
  z46 := Tryz.sizeOf119
  v46 := Tryz.zeroValue119
  t51 := Tryz.underlying166
  a51 := Tryz.isAgg166
  z51 := Tryz.sizeOf166
  v51 := Tryz.zeroValue166
  t53 := Tryz.underlying168
  a53 := Tryz.isAgg168
  z53 := Tryz.sizeOf168
  v53 := Tryz.zeroValue168
  t131 := Tryz.underlying74
  a131 := Tryz.isAgg74
  z131 := Tryz.sizeOf74
  v131 := Tryz.zeroValue74
  t182 := Tryz.underlying158
  a182 := Tryz.isAgg158
  z182 := Tryz.sizeOf158
  v182 := Tryz.zeroValue158
  t183 := Tryz.underlying159
  a183 := Tryz.isAgg159
  z183 := Tryz.sizeOf159
  v183 := Tryz.zeroValue159
  t218 := Tryz.underlying173
  a218 := Tryz.isAgg173
  z218 := Tryz.sizeOf173
  v218 := Tryz.zeroValue173
  t222 := Tryz.underlying177
  a222 := Tryz.isAgg177
  z222 := Tryz.sizeOf177
  v222 := Tryz.zeroValue177
  t228 := Tryz.underlying184
  a228 := Tryz.isAgg184
  z228 := Tryz.sizeOf184
  v228 := Tryz.zeroValue184
  t229 := Tryz.underlying185
  a229 := Tryz.isAgg185
  z229 := Tryz.sizeOf185
  v229 := Tryz.zeroValue185 }
open Go.Sort Go.RowKit in
theorem sort_calls (blk off cap : Nat) (ss : List (List UInt8)) (w : World) (hH : Holds encStr w blk off ss.toArray) (hblk : blk < w.heap.size) (hsz : ss.length < 4611686018427387904) :
    Calls Tryz.prog 46 #[.slice (some ⟨blk, off, none⟩) ss.length cap] w fun e w' =>
      e = .returned (.tuple #[]) ∧ ∃ n os, w' = grow (putRow encStr (Sort.ahead w n) blk off (ss.mergeSort fun x y => decide (x ≤ y)).toArray) os := Any.slices_Sort_string laysSort blk off cap ss w hH hblk hsz
theorem sort_calls_none (p : Option Addr) (cap : Nat) (w : World) :
    Calls Tryz.prog 46 #[.slice p 0 cap] w fun e w' => e = .returned (.tuple #[]) ∧ w' = w := Any.slices_Sort_string_none laysSort p cap w
end Go.Proofs.YtbojpedklnmidaaGreat.D
end
section
set_option linter.unusedVariables false
set_option linter.unusedSimpArgs false
set_option linter.constructorNameAsVariable false
set_option maxRecDepth 100000

/- Sorting texts of one's own. No condition. -/
namespace Go.Proofs.YtbojpedklnmidaaGreat.D
open Go Go.Proofs
open Nat (reduceAdd reduceEqDiff reduceLeDiff)
open Int (reduceLE reduceEq reduceNeg reduceToNat)
section
variable {n0 : Nat} {w : World} {own : Nat → Option Nat} {loc : Loc} {ob : OB} [Bk]
theorem ahead_ok (hwf : WF n0 w own loc ob) (n : Nat) : WF n0 (Sort.ahead w n) own loc ob ∧ Stp w own loc (Sort.ahead w n) own loc := by
  have hs : Stp w own loc (Sort.ahead w n) own loc := ⟨rfl, rfl, rfl, Nat.le_refl _, fun b hb ho => ⟨ho, rfl⟩, fun id hid => .inl rfl⟩
  refine ⟨⟨fun id o h => ?_, hwf.owns, hwf.lt⟩, hs⟩
  obtain ⟨p, h1, h2⟩ := hwf.has id o h
  exact ⟨p, h1, h2.stp hs rfl⟩
theorem grow_ok (hwf : WF n0 w own loc ob) (os : Array Obj) : WF n0 (Sort.grow w os) own loc ob ∧ Stp w own loc (Sort.grow w os) own loc := by
  have hh : ∀ b, b < w.heap.size → (Sort.grow w os).heap[b]? = w.heap[b]? := fun b hb => by
    show (w.heap ++ os)[b]? = _
    rw [Array.getElem?_append_left hb]
  have hsz : w.heap.size ≤ (Sort.grow w os).heap.size := by
    show w.heap.size ≤ (w.heap ++ os).size
    simp
  have hs : Stp w own loc (Sort.grow w os) own loc := ⟨rfl, rfl, rfl, hsz, fun b hb ho => ⟨ho, hh b hb⟩, fun id hid => .inl rfl⟩
  refine ⟨⟨fun id o h => ?_, fun id p h => ?_, fun b id h => ?_⟩, hs⟩
  · obtain ⟨p, h1, h2⟩ := hwf.has id o h
    exact ⟨p, h1, h2.stp hs (hh _ (hwf.owns id p h1).2)⟩
  · exact ⟨(hwf.owns id p h).1, Nat.lt_of_lt_of_le (hwf.owns id p h).2 hsz⟩
  · exact Nat.lt_of_lt_of_le (hwf.lt b id h) hsz
end
def sortB (l : List ByteArray) : List ByteArray := ((l.map fun s => s.data.toList).mergeSort fun x y => decide (x ≤ y)).map fun x => ⟨x.toArray⟩
theorem sortB_len (l : List ByteArray) : (sortB l).length = l.length := by simp [sortB]
@[reducible] def strV (s : ByteArray) : List V := [.c (.string s)]
theorem SortStr_ok {l : List ByteArray} {v : V} {n nid : Nat} {ob : OB} {C : V → OB → Nat → Prop} (h : Own n ob v 1 (l.map strV)) (hn : n ≤ nid) (hl : l.length ≤ maxLen)
    (hC : ∀ ob', Own n ob' v 1 ((sortB l).map strV) → (∀ id, (∀ len, v ≠ .sl id 0 len) → ob' id = ob id) → C (.tp []) ob' nid) : FnS Tryz.prog 46 [v] ob nid C := by
  unfold maxLen at hl
  refine ⟨by kernel_rfl, fun B n0 w own loc xs hwf hn0 hfree hv => ?_⟩
  obtain ⟨hv1, hv2⟩ := hv
  obtain ⟨x, rfl⟩ : ∃ x, xs = [x] := List.length_eq_one_iff.1 (by simpa using hv1)
  have hx := hv2 0 v x rfl rfl
  rcases h with ⟨hz, rfl⟩ | ⟨hne, id, cap, hid, rfl, hob⟩
  · have hl0 : l = [] := by simpa using hz
    subst hl0
    obtain ⟨a, rfl⟩ := hx.z_inv
    refine (sort_calls_none a 0 w).mono fun e w' ⟨he, hw⟩ => ?_
    subst hw
    exact ⟨_, .tp [], ob, nid, own, loc, he, .tp _ [] rfl (fun i v x h => by simp at h), hwf, .refl _ _ _, hfree, hC ob (.inl ⟨by simp [sortB], rfl⟩) fun _ _ => rfl⟩
  · obtain ⟨p, hp, hor, hcap, rfl⟩ := sl_at hwf hob hx
    have hmp := sl_mp hx hp
    obtain ⟨cs, t, hm1, hm2⟩ := hor.mem
    have hpk : p.k = 1 := hor.k.symm
    have hlen : (l.map strV).length = l.length := by simp
    have hcell : ∀ j, j < l.length → w.cell? ⟨p.b, p.base + j, none⟩ = some (.string (gN l j)) := fun j hj => by
      obtain ⟨y, h1, h2⟩ := hor.cells j 0 (.c (.string (gN l j))) (by
        simp only [el, List.getElem?_map]
        rw [List.getElem?_eq_getElem hj, gN_eq hj]; rfl)
      rw [h2.c_inv] at h1
      rw [← h1, hpk]; congr 2; omega
    have hH : Sort.Holds encStr w p.b p.base ((l.map fun s => s.data.toList).toArray) := fun j hj => by
      have hj' : j < l.length := by simpa using hj
      refine ⟨?_, by simp [World.frozen?, hm1]⟩
      rw [hcell j hj', getElem!_pos _ j (by simpa using hj')]
      simp [encStr, gN_eq hj']
    have hb := (hwf.owns id p hp).2
    have e0 : (⟨p.b, p.base + 0 * p.k, none⟩ : Addr) = ⟨p.b, p.base, none⟩ := by rw [Nat.zero_mul, Nat.add_zero]
    rw [e0]
    have hcall := sort_calls p.b p.base (p.cap - 0) (l.map fun s => s.data.toList) w hH hb (by simp; omega)
    rw [List.length_map] at hcall
    rw [hlen]
    refine hcall.mono fun e w' ⟨he, k, os, hw⟩ => ?_
    subst hw
    obtain ⟨a1, a2⟩ := ahead_ok hwf k
    have hss : ((l.map fun s => s.data.toList).mergeSort fun x y => decide (x ≤ y)) = (sortB l).map fun s => s.data.toList := by
      unfold sortB; rw [List.map_map]
      have : ((fun s : ByteArray => s.data.toList) ∘ fun x : List UInt8 => (⟨x.toArray⟩ : ByteArray)) = _root_.id := by funext x; simp
      rw [this, List.map_id]
    rw [hss]
    have hsl := sortB_len l
    have hm1' : (Sort.ahead w k).heap[p.b]? = some (.cells cs t (0, 0)) := hm1
    generalize hL : ((sortB l).map fun s => s.data.toList).toArray = L
    have hLs : L.size = l.length := by rw [← hL]; simp [hsl]
    have hLj : ∀ j, j < l.length → L[j]! = (gN (sortB l) j).data.toList := fun j hj => by
      rw [getElem!_pos _ j (by rw [hLs]; exact hj)]
      simp only [← hL, List.getElem_toArray, List.getElem_map]
      rw [gN_eq (by omega)]
    have hput : Sort.putRow encStr (Sort.ahead w k) p.b p.base L = { Sort.ahead w k with heap := (Sort.ahead w k).heap.setIfInBounds p.b (.cells (Sort.putCells encStr p.base L cs) t (0, 0)) } := by
      unfold Sort.putRow Sort.mapBlock
      congr 1
      apply Array.ext_getElem?
      intro i
      rw [Array.getElem?_modify, Array.getElem?_setIfInBounds]
      by_cases hi : p.b = i
      · subst hi
        rw [if_pos rfl, if_pos rfl, hm1', if_pos (show p.b < (Sort.ahead w k).heap.size from hb)]
        rfl
      · rw [if_neg hi, if_neg hi]
    rw [hput]
    have hcs : ∀ q, (Sort.putCells encStr p.base L cs)[q]? = (cs[q]?).map fun x => if p.base ≤ q ∧ q < p.base + L.size then encStr L[q - p.base]! else x := fun q => by
      unfold Sort.putCells
      rw [Array.getElem?_mapIdx]
    obtain ⟨b1, b2⟩ := set_xr a1 hp (.cells (Sort.putCells encStr p.base L cs) t (0, 0)) ⟨1, (sortB l).map strV, cap⟩ fun hs => .of hmp ⟨⟨_, t, by
        simp only [Array.getElem?_setIfInBounds_self]
        rw [if_pos (show p.b < (Sort.ahead w k).heap.size from hb)], by unfold Sort.putCells; simpa using hm2⟩, hor.k, by rw [List.length_map, hsl, ← hlen]; exact hor.len, fun ch hc => by
      obtain ⟨_, _, rfl⟩ := List.mem_map.1 hc; exact hor.k, fun i j v hv => by
      obtain ⟨r, h1, h2⟩ := el_some hv
      rw [List.getElem?_map] at h1
      obtain ⟨s, h3, rfl⟩ := Option.map_eq_some_iff.1 h1
      have hi : i < l.length := by rw [← hsl]; exact (List.getElem?_eq_some_iff.1 h3).1
      have hj : j = 0 := by
        have := (List.getElem?_eq_some_iff.1 h2).1; simpa using this
      subst hj
      simp at h2; subst h2
      refine ⟨.string s, ?_, .c _⟩
      have hold := hcell i hi
      simp only [World.cell?, hm1, Option.isSome_none, Bool.false_eq_true, if_false] at hold
      have hset : ((Sort.ahead w k).heap.setIfInBounds p.b (.cells (Sort.putCells encStr p.base L cs) t (0, 0)))[p.b]? = some (.cells (Sort.putCells encStr p.base L cs) t (0, 0)) := by
        rw [Array.getElem?_setIfInBounds_self, if_pos (show p.b < (Sort.ahead w k).heap.size from hb)]
      simp only [World.cell?, hset, Option.isSome_none, Bool.false_eq_true, if_false]
      have e1 : p.base + i * p.k + 0 = p.base + i := by rw [hpk]; omega
      rw [e1, hcs, hold]
      simp only [Option.map_some]
      rw [if_pos ⟨by omega, by omega⟩]
      have e2 : p.base + i - p.base = i := by omega
      rw [e2, hLj i hi]
      have : gN (sortB l) i = s := by
        rw [gN_eq (by omega)]
        have := List.getElem?_eq_some_iff.1 h3
        exact this.2
      rw [this], hor.cap⟩
    obtain ⟨c1, c2⟩ := grow_ok b1 os
    refine ⟨_, .tp [], _, nid, own, loc, he, .tp _ [] rfl (fun i v x h => by simp at h), c1, (a2.trans b2).trans c2, hfree, hC _ (.inr ⟨?_, id, cap, hid, ?_, ?_⟩) fun j hj => ?_⟩
    · intro e; apply hne
      have := congrArg List.length e
      rw [List.length_map, hsl] at this
      exact List.eq_nil_of_length_eq_zero (by simpa using this)
    · rw [List.length_map, List.length_map, hsl]
    · simp
    · have : j ≠ id := fun e => hj (l.map strV).length (by rw [e])
      simp [this]
end Go.Proofs.YtbojpedklnmidaaGreat.D
end
section
set_option linter.unusedVariables false
set_option linter.unusedSimpArgs false
set_option linter.constructorNameAsVariable false
set_option maxRecDepth 100000

/- Tables anew, as one's own. No condition. -/
namespace Go.Proofs.YtbojpedklnmidaaGreat.D
open Go Go.Proofs
open Nat (reduceAdd reduceEqDiff reduceLeDiff)
open Int (reduceLE reduceEq reduceNeg reduceToNat)
def RowO (ob : OB) (hi : Nat) (r : List V) (R : Rwx) : Prop := ∃ dv cv, r = [.c (.string R.key), dv, cv] ∧ OwnE hi ob dv 2 (R.dots.map dotV) ∧ OwnE hi ob cv 8 (R.cells.map celV)
def ids (r : List V) : List Nat := r.flatMap vid
def RowsO (ob : OB) (hi : Nat) : List (List V) → List Rwx → Prop
  | [], [] => True
  | r :: rs, R :: Rs => RowO ob hi r R ∧ RowsO ob hi rs Rs
  | _, _ => False
theorem vid_own {n k : Nat} {ob : OB} {v : V} {rows : List (List V)} (h : OwnE n ob v k rows) {id : Nat} (hid : id ∈ vid v) : id < n ∧ v = .sl id 0 rows.length ∧ ∃ cap, ob id = some ⟨k, rows, cap⟩ := by
  rcases h with ⟨_, rfl⟩ | ⟨i, cap, hi, rfl, h3⟩
  · simp [vid] at hid
  · simp [vid] at hid; subst hid; exact ⟨hi, rfl, cap, h3⟩
theorem RowsO.len {ob : OB} {hi : Nat} : ∀ {rows : List (List V)} {L : List Rwx}, RowsO ob hi rows L → rows.length = L.length
  | [], [], _ => rfl
  | r :: rs, R :: Rs, h => by simp [RowsO.len h.2]
  | [], _ :: _, h => h.elim
  | _ :: _, [], h => h.elim
theorem RowsO.app {ob : OB} {hi : Nat} : ∀ {A B : List (List V)} {L M : List Rwx}, RowsO ob hi A L → RowsO ob hi B M → RowsO ob hi (A ++ B) (L ++ M)
  | [], B, [], M, _, h => h
  | r :: rs, B, R :: Rs, M, h, h2 => ⟨h.1, RowsO.app h.2 h2⟩
  | [], _, _ :: _, _, h, _ => h.elim
  | _ :: _, _, [], _, h, _ => h.elim
theorem RowsO.lt {ob : OB} {hi : Nat} : ∀ {rows : List (List V)} {L : List Rwx}, RowsO ob hi rows L → ∀ id ∈ rows.flatMap ids, id < hi ∧ ∃ k r c, ob id = some ⟨k, r, c⟩ ∧ (k = 2 ∨ k = 8)
  | [], [], _, id, h => by simp at h
  | r :: rs, R :: Rs, h, id, hid => by
    rw [List.flatMap_cons] at hid
    rcases List.mem_append.1 hid with h1 | h1
    · obtain ⟨dv, cv, rfl, h2, h3⟩ := h.1
      simp only [ids, List.flatMap_cons, List.flatMap_nil, List.append_nil, vid, List.nil_append, List.mem_append] at h1
      rcases h1 with h1 | h1
      · obtain ⟨a1, _, cap, a3⟩ := vid_own h2 h1
        exact ⟨a1, _, _, _, a3, .inl rfl⟩
      · obtain ⟨a1, _, cap, a3⟩ := vid_own h3 h1
        exact ⟨a1, _, _, _, a3, .inr rfl⟩
    · exact RowsO.lt h.2 id h1
  | [], _ :: _, h, _, _ => h.elim
  | _ :: _, [], h, _, _ => h.elim
end Go.Proofs.YtbojpedklnmidaaGreat.D
end
section
set_option linter.unusedVariables false
set_option linter.unusedSimpArgs false
set_option linter.constructorNameAsVariable false
set_option maxRecDepth 100000

/- Tables anew, as one's own: the walk. No condition. -/
namespace Go.Proofs.YtbojpedklnmidaaGreat.D
open Go Go.Proofs
open Nat (reduceAdd reduceEqDiff reduceLeDiff)
open Int (reduceLE reduceEq reduceNeg reduceToNat)
def OwnU (m : Nat) (v : V) (k : Nat) (rows : List (List V)) (us : Ups) : Prop := (rows = [] ∧ v = .z ∧ us = []) ∨ (rows ≠ [] ∧ v = .sl m 0 rows.length ∧ us = [(m, some ⟨k, rows, none⟩)])
theorem OwnU.cell {m k : Nat} {v : V} {rows : List (List V)} {us : Ups} (h : OwnU m v k rows us) : cellsV v = [v] ∧ leaf v = true := by
  rcases h with ⟨_, rfl, _⟩ | ⟨_, rfl, _⟩ <;> exact ⟨rfl, rfl⟩
theorem OwnU.out {m k : Nat} {v : V} {rows : List (List V)} {us : Ups} (h : OwnU m v k rows us) (ob : OB) : ∀ j, j ≠ m → apps ob us j = ob j := by
  rcases h with ⟨_, _, rfl⟩ | ⟨_, _, rfl⟩
  · exact fun _ _ => rfl
  · intro j hj; simp [apps, hj]
theorem OwnU.own {m k : Nat} {v : V} {rows : List (List V)} {us : Ups} (h : OwnU m v k rows us) (ob : OB) : OwnE (m + 1) (apps ob us) v k rows := by
  rcases h with ⟨h1, h2, rfl⟩ | ⟨h1, h2, rfl⟩
  · exact .inl ⟨h1, h2⟩
  · exact .inr ⟨m, none, by omega, h2, by simp [apps]⟩
end Go.Proofs.YtbojpedklnmidaaGreat.D
end
section
set_option linter.unusedVariables false
set_option linter.unusedSimpArgs false
set_option linter.constructorNameAsVariable false
set_option maxRecDepth 100000

/- Tables behind an operation. No condition. -/
namespace Go.Proofs.YtbojpedklnmidaaGreat.D
open Go Go.Proofs
open Nat (reduceAdd reduceEqDiff reduceLeDiff)
open Int (reduceLE reduceEq reduceNeg reduceToNat)
@[reducible] def zCel : Cel := ⟨⟨0, 0, noS⟩, ⟨0, 0, 0⟩, ⟨0, 0⟩⟩
def posK (l : List Rwx) (key : ByteArray) : Nat := (l.takeWhile fun r => decide (cmpB r.key key < 0)).length
def isK (l : List Rwx) (key : ByteArray) : Bool := decide (posK l key < l.length) && decide (cmpB (gN l (posK l key)).key key = 0)
def withK (cols : List Int) (l : List Rwx) (key : ByteArray) : List Rwx := if isK l key then l else l.take (posK l key) ++ ⟨key, [], List.replicate cols.length zCel⟩ :: l.drop (posK l key)
def chgT (r : Rwx) (x : Opz) : Rwx := if x.kind = 1 then ⟨r.key, insD r.dots x.dot, wrs r.cells x.vals x⟩
  else if x.kind = 2 then ⟨r.key, r.dots, r.cells.set x.col.toNat (wrCel (gN r.cells x.col.toNat) (gN x.vals 0) x)⟩
  else if x.kind = 3 then ⟨r.key, r.dots.filter fun d => !inD x.dots d, r.cells⟩ else r
def tab0 (x : Opz) : Opz := { x with table := 0 }
def applyT (cols : List Int) (l : List Rwx) (x : Opz) : List Rwx × List Vl × List Vl × Int :=
  if checkT cols l ≠ 0 then ([], [], [], checkT cols l)
  else if opE cols (tab0 x) ≠ 0 then ([], [], [], 1)
  else ((withK cols l x.key).set (posK l x.key) (chgT (gN (withK cols l x.key) (posK l x.key)) x), seeT (gN (withK cols l x.key) (posK l x.key)), seeT (chgT (gN (withK cols l x.key) (posK l x.key)) x), 0)
end Go.Proofs.YtbojpedklnmidaaGreat.D
end
section
set_option linter.unusedVariables false
set_option linter.unusedSimpArgs false
set_option linter.constructorNameAsVariable false
set_option maxRecDepth 100000

/- Tables behind an operation: plain facts. No condition. -/
namespace Go.Proofs.YtbojpedklnmidaaGreat.D
open Go Go.Proofs
open Nat (reduceAdd reduceEqDiff reduceLeDiff)
open Int (reduceLE reduceEq reduceNeg reduceToNat)
theorem tw_le {α : Type} {p : α → Bool} (l : List α) : (l.takeWhile p).length ≤ l.length := (List.takeWhile_sublist _).length_le
theorem tw_stop {α : Type} [Inhabited α] {p : α → Bool} : ∀ {l : List α}, (l.takeWhile p).length < l.length → p (gN l (l.takeWhile p).length) = false
  | [], h => by simp at h
  | a :: l, h => by
    rw [List.takeWhile_cons] at h ⊢
    split at h
    · rename_i ha
      rw [if_pos ha]
      simp only [List.length_cons] at h ⊢
      have := tw_stop (p := p) (l := l) (by omega)
      exact this
    · rename_i ha
      rw [if_neg ha]
      show p a = false
      simpa using ha
theorem tw_at {α : Type} [Inhabited α] {p : α → Bool} {l : List α} {i : Nat} (h : i < (l.takeWhile p).length) : p (gN l i) = true := by
  have h1 := tw_le (p := p) l
  have h3 := tw_all _ (List.getElem_mem h)
  have h4 : (l.takeWhile p)[i]'h = gN l i := by
    rw [gN_eq (by omega)]
    exact (List.takeWhile_prefix _).getElem h
  rw [h4] at h3; exact h3
theorem tw_up {α : Type} [Inhabited α] {p : α → Bool} {l : List α} (hd : ∀ i, 0 < i → i < l.length → p (gN l i) = true → p (gN l (i - 1)) = true) {i : Nat} (h1 : (l.takeWhile p).length ≤ i) (h2 : i < l.length) : p (gN l i) = false := by
  cases hp : p (gN l i) with
  | false => rfl
  | true =>
    exfalso
    have down : ∀ k, k ≤ i → p (gN l (i - k)) = true := by
      intro k
      induction k with
      | zero => intro _; exact hp
      | succ k ih =>
        intro hk
        have := hd (i - k) (by omega) (by omega) (ih (by omega))
        have e : i - (k + 1) = i - k - 1 := by omega
        rw [e]; exact this
    have := down (i - (l.takeWhile p).length) (by omega)
    have e : i - (i - (l.takeWhile p).length) = (l.takeWhile p).length := by omega
    rw [e] at this
    have h5 := tw_stop (p := p) (l := l) (by omega)
    rw [h5] at this
    cases this
theorem chk_0 {cols : List Int} {l : List Rwx} (h : checkT cols l = 0) : formE cols = 0 ∧ rowsB cols l = true := by
  unfold checkT at h
  split at h
  · cases h
  · rename_i hf
    split at h
    · rename_i hr; exact ⟨by simpa using hf, hr⟩
    · cases h
theorem rows_at {cols : List Int} {l : List Rwx} (h : rowsB cols l = true) {i : Nat} (hi : i < l.length) : rightB cols (gN l i) = true ∧ (0 < i → keyLt (gN l (i - 1)).key (gN l i).key = true) := by
  unfold rowsB at h; exact (of_decide_eq_true h) i hi
structure Right (cols : List Int) (r : Rwx) : Prop where
  key : keyB r.key = true
  dots : dotsB r.dots = true
  cells : allG cellB r.cells cols = true
  there : r.dots.length = 0 ∨ ∀ c ∈ r.cells, writ c = true
theorem right_iff {cols : List Int} {r : Rwx} : rightB cols r = true ↔ Right cols r := by
  unfold rightB
  rw [Bool.and_eq_true, Bool.and_eq_true, Bool.and_eq_true, Bool.or_eq_true]
  constructor
  · rintro ⟨⟨⟨h1, h2⟩, h3⟩, h4⟩
    refine ⟨h1, h2, h3, ?_⟩
    rcases h4 with h4 | h4
    · exact .inl (of_decide_eq_true h4)
    · right; intro c hc; simpa using (by simpa using h4 : ∀ x ∈ r.cells, writ x = true) c hc
  · rintro ⟨h1, h2, h3, h4⟩
    refine ⟨⟨⟨h1, h2⟩, h3⟩, ?_⟩
    rcases h4 with h4 | h4
    · exact .inl (decide_eq_true h4)
    · right; simpa using h4
theorem Right.len {cols : List Int} {r : Rwx} (h : Right cols r) : r.cells.length = cols.length := by
  have := h.cells; unfold allG at this; exact (of_decide_eq_true this).1
theorem keys_up {cols : List Int} {l : List Rwx} {key : ByteArray} (h : rowsB cols l = true) {i : Nat} (h1 : posK l key ≤ i) (h2 : i < l.length) : 0 ≤ cmpB (gN l i).key key := by
  have := tw_up (p := fun r => decide (cmpB r.key key < 0)) (l := l) (fun i hi hlt hp => ?_) h1 h2
  · simpa using this
  · have hl := (rows_at h hlt).2 hi
    have hp : cmpB (gN l i).key key < 0 := by simpa using hp
    have : keyLt (gN l i).key key = true := by rcases cmpB_r (gN l i).key key with ⟨e, h⟩ | ⟨e, h⟩ | ⟨e, h⟩ <;> first | exact h | omega
    have h3 := keyLt_trans hl this
    have : cmpB (gN l (i - 1)).key key < 0 := by
      rcases cmpB_r (gN l (i - 1)).key key with ⟨e, h⟩ | ⟨e, h⟩ | ⟨e, h⟩
      · omega
      · rw [h] at h3; rw [keyLt_irr] at h3; cases h3
      · have := keyLt_trans h3 h; rw [keyLt_irr] at this; cases this
    simpa using this
theorem posK_le (l : List Rwx) (key : ByteArray) : posK l key ≤ l.length := tw_le l
theorem posK_lt {l : List Rwx} {key : ByteArray} {i : Nat} (h : i < posK l key) : cmpB (gN l i).key key < 0 := by simpa using tw_at h
theorem withK_lt (cols : List Int) (l : List Rwx) (key : ByteArray) : posK l key < (withK cols l key).length := by
  unfold withK
  have := posK_le l key
  split
  · rename_i h; unfold isK at h; simp at h; exact h.1
  · simp; omega
theorem withK_at (cols : List Int) (l : List Rwx) (key : ByteArray) : (isK l key = true ∧ withK cols l key = l) ∨ (isK l key = false ∧ withK cols l key = l.take (posK l key) ++ ⟨key, [], List.replicate cols.length zCel⟩ :: l.drop (posK l key) ∧ gN (withK cols l key) (posK l key) = ⟨key, [], List.replicate cols.length zCel⟩) := by
  have := posK_le l key
  cases h : isK l key with
  | true => left; exact ⟨rfl, by rw [withK, if_pos h]⟩
  | false =>
    right
    have e : withK cols l key = l.take (posK l key) ++ ⟨key, [], List.replicate cols.length zCel⟩ :: l.drop (posK l key) := by rw [withK, if_neg (by rw [h]; simp)]
    refine ⟨rfl, e, ?_⟩
    rw [gN_eq (withK_lt _ _ _)]
    simp only [e]
    rw [List.getElem_append_right (by simp; omega)]
    simp [Nat.min_eq_left this]
theorem opE_0 {cols : List Int} {x : Opz} (h : opE cols x = 0) : formE cols = 0 ∧ 1 ≤ x.deps.length ∧ x.deps.length ≤ 5 ∧ rightO x.deps.length cols x = true := by
  unfold opE at h
  split at h
  · rename_i hf; exact absurd h hf
  · rename_i hf
    split at h
    · cases h
    · rename_i h1
      have h1 := h1
      refine ⟨by simpa using hf, by omega, by omega, ?_⟩
      cases hr : rightO x.deps.length cols x with
      | true => rfl
      | false => exact absurd (.inr (.inr hr)) h1
structure OpR_ (n : Nat) (cols : List Int) (x : Opz) : Prop where
  whole : wholeB n x = true
  key : keyB x.key = true
  kind : (x.kind = 1 ∧ smallBs x.vals cols = true ∧ x.col = 0 ∧ x.dots.length = 0) ∨ (x.kind = 2 ∧ 0 ≤ x.col ∧ x.col < cols.length ∧ smallBs x.vals [gN cols x.col.toNat] = true ∧ x.dots.length = 0) ∨ (x.kind = 3 ∧ 1 ≤ x.dots.length ∧ x.dots.length ≤ 64 ∧ hadB x.deps x.dots = true ∧ x.col = 0 ∧ x.vals.length = 0)
theorem rightO_1 {n : Nat} {cols : List Int} {x : Opz} (h : rightO n cols x = true) : OpR_ n cols x := by
  unfold rightO at h
  rw [Bool.and_eq_true, Bool.and_eq_true, Bool.and_eq_true] at h
  obtain ⟨⟨⟨h1, h2⟩, h3⟩, h4⟩ := h
  refine ⟨h1, h3, ?_⟩
  split at h4
  · rename_i hk
    simp only [Bool.and_eq_true, decide_eq_true_eq] at h4
    exact .inl ⟨hk, h4.1.1, h4.1.2, h4.2⟩
  · split at h4
    · rename_i hk
      simp only [Bool.and_eq_true, decide_eq_true_eq] at h4
      exact .inr (.inl ⟨hk, h4.1.1.1, h4.1.1.2, h4.1.2, h4.2⟩)
    · split at h4
      · rename_i hk
        simp only [Bool.and_eq_true, decide_eq_true_eq] at h4
        exact .inr (.inr ⟨hk, h4.1.1.1.1, h4.1.1.1.2, h4.1.1.2, h4.1.2, h4.2⟩)
      · cases h4
theorem small_len {v : List Vl} {cols : List Int} (h : smallBs v cols = true) : v.length = cols.length := by
  unfold smallBs allG at h
  simp only [Bool.and_eq_true, decide_eq_true_eq] at h
  exact h.1.1
end Go.Proofs.YtbojpedklnmidaaGreat.D
end
section
set_option linter.unusedVariables false
set_option linter.unusedSimpArgs false
set_option linter.constructorNameAsVariable false
set_option maxRecDepth 100000

/- Tables behind an operation: the walk. No condition. -/
namespace Go.Proofs.YtbojpedklnmidaaGreat.D
open Go Go.Proofs
open Nat (reduceAdd reduceEqDiff reduceLeDiff)
open Int (reduceLE reduceEq reduceNeg reduceToNat)
theorem RowsO.at {ob : OB} {n : Nat} : ∀ {rows : List (List V)} {L : List Rwx}, RowsO ob n rows L → ∀ k, k < rows.length → RowO ob n (gN rows k) (gN L k)
  | [], [], _, k, h => by simp at h
  | r :: rs, R :: Rs, h, 0, _ => h.1
  | r :: rs, R :: Rs, h, k + 1, hk => RowsO.at h.2 k (by simpa using hk)
  | [], _ :: _, h, _, _ => h.elim
  | _ :: _, [], h, _, _ => h.elim
@[go_sem] theorem op_bsl_rwo (z : List V) (s : ByteArray) (i a b : Nat) (ob : OB) (n : Nat) (hz : (z.length == 3) = true) : opF (.bsl 3 z [0] 1 false) [.ag [.c (.string s), .z, .sl i a b]] ob n = some (.sl n 0 1, [(n, some ⟨3, [[.c (.string s), .z, .sl i a b]], none⟩)]) := op_bsl_o ob n (by simpa using hz) rfl
end Go.Proofs.YtbojpedklnmidaaGreat.D
end
section
set_option linter.unusedVariables false
set_option linter.unusedSimpArgs false
set_option linter.constructorNameAsVariable false
set_option maxRecDepth 100000

/- A table by operations is right: plain law. No condition. -/
namespace Go.Proofs.YtbojpedklnmidaaGreat.D
open Go Go.Proofs
open Nat (reduceAdd reduceEqDiff reduceLeDiff)
open Int (reduceLE reduceEq reduceNeg reduceToNat)
theorem gN_mem_iff {α : Type} [Inhabited α] {l : List α} {a : α} : a ∈ l ↔ ∃ i, i < l.length ∧ gN l i = a := by
  constructor
  · intro h
    obtain ⟨i, hi, rfl⟩ := List.mem_iff_getElem.1 h
    exact ⟨i, hi, gN_eq hi⟩
  · rintro ⟨i, hi, rfl⟩; exact gN_mem hi
theorem adj_pw {α : Type} [Inhabited α] {lt : α → α → Bool} (ht : ∀ a b c, lt a b = true → lt b c = true → lt a c = true) {l : List α} : (∀ i, i < l.length → 0 < i → lt (gN l (i - 1)) (gN l i) = true) ↔ l.Pairwise (fun a b => lt a b = true) := by
  rw [List.pairwise_iff_getElem]
  constructor
  · intro h i j hi hj hij
    have key : ∀ k, i + k + 1 < l.length → lt (gN l i) (gN l (i + k + 1)) = true := by
      intro k
      induction k with
      | zero => intro hk; have := h (i + 1) hk (by omega); simpa using this
      | succ k ih =>
        intro hk
        have h1 := ih (by omega)
        have h2 := h (i + (k + 1) + 1) hk (by omega)
        have e : i + (k + 1) + 1 - 1 = i + k + 1 := by omega
        rw [e] at h2
        exact ht _ _ _ h1 h2
    have := key (j - i - 1) (by omega)
    have e : i + (j - i - 1) + 1 = j := by omega
    rw [e, gN_eq hi, gN_eq hj] at this
    exact this
  · intro h i hi h0
    rw [gN_eq hi, gN_eq (by omega)]
    exact h (i - 1) i (by omega) hi (by omega)
theorem lessD_trans {a b c : Dt} (h1 : lessD a b = true) (h2 : lessD b c = true) : lessD a c = true := by
  unfold lessD at *; simp at *; omega
theorem dotsB_iff {l : List Dt} : dotsB l = true ↔ (∀ d ∈ l, nameB d = true) ∧ l.Pairwise (fun a b => lessD a b = true) := by
  rw [← adj_pw (lt := lessD) (fun a b c h1 h2 => lessD_trans h1 h2)]
  unfold dotsB
  rw [decide_eq_true_eq]
  constructor
  · intro h
    refine ⟨fun d hd => ?_, fun i hi h0 => (h i hi).2 h0⟩
    obtain ⟨i, hi, rfl⟩ := gN_mem_iff.1 hd
    exact (h i hi).1
  · rintro ⟨h1, h2⟩ i hi
    exact ⟨h1 _ (gN_mem hi), h2 i hi⟩
theorem rowsB_iff {cols : List Int} {l : List Rwx} : rowsB cols l = true ↔ (∀ r ∈ l, Right cols r) ∧ l.Pairwise (fun a b => keyLt a.key b.key = true) := by
  rw [← adj_pw (lt := fun a b : Rwx => keyLt a.key b.key) (fun a b c h1 h2 => keyLt_trans h1 h2)]
  unfold rowsB
  rw [decide_eq_true_eq]
  constructor
  · intro h
    refine ⟨fun d hd => ?_, fun i hi h0 => (h i hi).2 h0⟩
    obtain ⟨i, hi, rfl⟩ := gN_mem_iff.1 hd
    exact right_iff.1 (h i hi).1
  · rintro ⟨h1, h2⟩ i hi
    exact ⟨right_iff.2 (h1 _ (gN_mem hi)), h2 i hi⟩
theorem tw_take {α : Type} (p : α → Bool) (l : List α) : l.take (l.takeWhile p).length = l.takeWhile p := by
  conv => lhs; rw [← List.takeWhile_append_dropWhile (p := p) (l := l)]
  rw [List.takeWhile_append_dropWhile]
  have := List.takeWhile_append_dropWhile (p := p) (l := l)
  conv => lhs; arg 2; rw [← this]
  rw [List.take_left]
theorem cmpI_r' (a b : Int) : cmpI a b = -1 ∧ a < b ∨ cmpI a b = 0 ∧ a = b ∨ cmpI a b = 1 ∧ b < a := by unfold cmpI; omega
theorem cmpD_r (a b : Dt) : (cmpD a b = -1 ∧ lessD a b = true) ∨ (cmpD a b = 0 ∧ a = b) ∨ (cmpD a b = 1 ∧ lessD b a = true) := by
  obtain ⟨ap, an⟩ := a; obtain ⟨bp, bn⟩ := b
  unfold cmpD lessD
  rcases cmpI_r' ap bp with ⟨e1, h1⟩ | ⟨e1, h1⟩ | ⟨e1, h1⟩ <;> rcases cmpI_r' an bn with ⟨e2, h2⟩ | ⟨e2, h2⟩ | ⟨e2, h2⟩ <;> simp [orV, e1, e2] <;> omega
theorem keyLt_asym {a b : ByteArray} (h : keyLt a b = true) : keyLt b a = false := by
  cases h2 : keyLt b a with
  | false => rfl
  | true => have := keyLt_trans h h2; rw [keyLt_irr] at this; cases this
theorem insD_spec {ds : List Dt} {d : Dt} (h : ds.Pairwise (fun a b => lessD a b = true)) : (insD ds d).Pairwise (fun a b => lessD a b = true) ∧ ∀ e, e ∈ insD ds d ↔ e = d ∨ e ∈ ds := by
  have hA : ∀ a ∈ ds.take (posD ds d), lessD a d = true := fun a ha => by
    unfold posD at ha
    rw [tw_take] at ha
    have := tw_all _ ha
    have : cmpD a d < 0 := by simpa using this
    rcases cmpD_r a d with ⟨e, h⟩ | ⟨e, h⟩ | ⟨e, h⟩ <;> first | exact h | omega
  unfold insD
  split
  · rename_i hf
    have hin : d ∈ ds := by
      rcases cmpD_r (gN ds (posD ds d)) d with ⟨e, _⟩ | ⟨_, e⟩ | ⟨e, _⟩
      · omega
      · rw [← e]; exact gN_mem hf.1
      · omega
    exact ⟨h, fun e => ⟨.inr, fun h => h.elim (fun e => e ▸ hin) id⟩⟩
  · rename_i hf
    have hB : ∀ b ∈ ds.drop (posD ds d), lessD d b = true := fun b hb => by
      have hne : ¬ (posD ds d < ds.length ∧ cmpD (gN ds (posD ds d)) d = 0) := hf
      obtain ⟨i, hi, rfl⟩ := List.mem_iff_getElem.1 hb
      rw [List.getElem_drop]
      have hlt : posD ds d + i < ds.length := by simpa [Nat.lt_sub_iff_add_lt'] using hi
      have h0 : 0 ≤ cmpD (gN ds (posD ds d)) d := by
        have := tw_stop (p := fun a => decide (cmpD a d < 0)) (l := ds) (by show posD ds d < ds.length; omega)
        have h2 : decide (cmpD (gN ds (posD ds d)) d < 0) = false := this
        simpa using h2
      have h1 : lessD d (gN ds (posD ds d)) = true := by
        rcases cmpD_r (gN ds (posD ds d)) d with ⟨e, _⟩ | ⟨e, _⟩ | ⟨_, e⟩
        · omega
        · exact absurd ⟨by omega, e⟩ hne
        · exact e
      by_cases hi0 : i = 0
      · subst hi0; rw [gN_eq (by omega)] at h1; exact h1
      · refine lessD_trans h1 ?_
        rw [gN_eq (by omega)]
        exact List.pairwise_iff_getElem.1 h _ _ (by omega) hlt (by omega)
    refine ⟨?_, fun e => ?_⟩
    · rw [List.pairwise_append, List.pairwise_cons]
      refine ⟨h.sublist (List.take_sublist _ _), ⟨hB, h.sublist (List.drop_sublist _ _)⟩, fun a ha b hb => ?_⟩
      rcases List.mem_cons.1 hb with rfl | hb
      · exact hA a ha
      · exact lessD_trans (hA a ha) (hB b hb)
    · rw [List.mem_append, List.mem_cons]
      conv => rhs; rhs; rw [← List.take_append_drop (posD ds d) ds, List.mem_append]
      constructor
      · rintro (h | h | h)
        · exact .inr (.inl h)
        · exact .inl h
        · exact .inr (.inr h)
      · rintro (h | h | h)
        · exact .inr (.inl h)
        · exact .inl h
        · exact .inr (.inr h)
theorem zCel_writ : writ zCel = false := rfl
theorem zCel_ok (t : Int) : cellB zCel t = true := by unfold cellB; rw [zCel_writ]; simp [isZ]
theorem new_right {cols : List Int} {key : ByteArray} (h : keyB key = true) : Right cols ⟨key, [], List.replicate cols.length zCel⟩ := by
  refine ⟨h, rfl, ?_, .inl rfl⟩
  unfold allG
  rw [decide_eq_true_eq]
  refine ⟨by simp, fun i hi => ?_⟩
  have hi : i < cols.length := by simpa using hi
  rw [gN_eq (l := List.replicate cols.length zCel) (by simpa using hi)]
  simp [zCel_ok]
theorem withK_spec {cols : List Int} {l : List Rwx} {key : ByteArray} (h : rowsB cols l = true) (hk : keyB key = true) : rowsB cols (withK cols l key) = true ∧ (gN (withK cols l key) (posK l key)).key = key := by
  obtain ⟨h1, h2⟩ := rowsB_iff.1 h
  have hp := posK_le l key
  have hA : ∀ a ∈ l.take (posK l key), keyLt a.key key = true := fun a ha => by
    unfold posK at ha
    rw [tw_take] at ha
    have := tw_all _ ha
    have : cmpB a.key key < 0 := by simpa using this
    rcases cmpB_r a.key key with ⟨e, h⟩ | ⟨e, h⟩ | ⟨e, h⟩ <;> first | exact h | omega
  rcases withK_at cols l key with ⟨hi, e⟩ | ⟨hi, e, eg⟩
  · rw [e]
    refine ⟨h, ?_⟩
    unfold isK at hi
    simp only [Bool.and_eq_true, decide_eq_true_eq] at hi
    rcases cmpB_r (gN l (posK l key)).key key with ⟨e, _⟩ | ⟨_, e⟩ | ⟨e, _⟩
    · omega
    · exact e
    · omega
  · refine ⟨?_, by rw [eg]⟩
    rw [e]
    have hB : ∀ b ∈ l.drop (posK l key), keyLt key b.key = true := fun b hb => by
      obtain ⟨i, hil, rfl⟩ := List.mem_iff_getElem.1 hb
      rw [List.getElem_drop]
      have hlt : posK l key + i < l.length := by simpa [Nat.lt_sub_iff_add_lt'] using hil
      have h0 : 0 ≤ cmpB (gN l (posK l key)).key key := keys_up h (Nat.le_refl _) (by omega)
      have hne : ¬ cmpB (gN l (posK l key)).key key = 0 := fun e0 => by
        unfold isK at hi
        simp only [Bool.and_eq_false_iff, decide_eq_false_iff_not] at hi
        rcases hi with hi | hi
        · omega
        · exact hi e0
      have h1' : keyLt key (gN l (posK l key)).key = true := by
        rcases cmpB_r (gN l (posK l key)).key key with ⟨e, _⟩ | ⟨e, _⟩ | ⟨_, e⟩
        · omega
        · exact absurd e hne
        · exact e
      by_cases hi0 : i = 0
      · subst hi0; rw [gN_eq (by omega)] at h1'; exact h1'
      · refine keyLt_trans h1' ?_
        rw [gN_eq (by omega)]
        exact List.pairwise_iff_getElem.1 h2 _ _ (by omega) hlt (by omega)
    refine rowsB_iff.2 ⟨fun r hr => ?_, ?_⟩
    · rcases List.mem_append.1 hr with hr | hr
      · exact h1 r (List.mem_of_mem_take hr)
      · rcases List.mem_cons.1 hr with rfl | hr
        · exact new_right hk
        · exact h1 r (List.mem_of_mem_drop hr)
    · rw [List.pairwise_append, List.pairwise_cons]
      refine ⟨h2.sublist (List.take_sublist _ _), ⟨hB, h2.sublist (List.drop_sublist _ _)⟩, fun a ha b hb => ?_⟩
      rcases List.mem_cons.1 hb with rfl | hb
      · exact hA a ha
      · exact keyLt_trans (hA a ha) (hB b hb)
end Go.Proofs.YtbojpedklnmidaaGreat.D
end
section
set_option linter.unusedVariables false
set_option linter.unusedSimpArgs false
set_option linter.constructorNameAsVariable false
set_option maxRecDepth 100000

/- A row behind an operation is right: plain law. No condition. -/
namespace Go.Proofs.YtbojpedklnmidaaGreat.D
open Go Go.Proofs
open Nat (reduceAdd reduceEqDiff reduceLeDiff)
open Int (reduceLE reduceEq reduceNeg reduceToNat)
theorem whole_name {n : Nat} {x : Opz} (h : wholeB n x = true) (hn : n ≤ 5) : nameB x.dot = true ∧ okS x.st = true := by
  unfold wholeB at h
  simp only [Bool.and_eq_true, decide_eq_true_eq] at h
  refine ⟨?_, h.1.2⟩
  unfold nameB
  simp only [Bool.and_eq_true, decide_eq_true_eq]
  omega
theorem writ_name {d : Dt} {c : Cel} (h : nameB d = true) (hd : c.d = d) : writ c = true := by
  unfold nameB at h
  unfold writ
  rw [hd]
  simp only [Bool.and_eq_true, decide_eq_true_eq] at h
  simp; omega
theorem wr_writ {c : Cel} {v : Vl} {x : Opz} (hn : nameB x.dot = true) : writ (wrCel c v x) = true := by
  unfold wrCel
  split
  · exact writ_name hn rfl
  · rename_i h
    unfold wrB at h
    simp at h; exact h.1
theorem wr_cell {c : Cel} {v : Vl} {x : Opz} {t : Int} (hn : nameB x.dot = true) (hs : okS x.st = true) (hc : cellB c t = true) (hv : smallV v = true) (hf : fitsV v t = true) : cellB (wrCel c v x) t = true := by
  unfold wrCel
  split
  · unfold cellB
    rw [if_pos (writ_name hn rfl)]
    simp [hn, hv, hf, hs]
  · exact hc
theorem allG_at {α β : Type} [Inhabited α] [Inhabited β] {p : α → β → Bool} {a : List α} {b : List β} (h : allG p a b = true) : a.length = b.length ∧ ∀ i, i < a.length → p (gN a i) (gN b i) = true := by
  unfold allG at h; exact of_decide_eq_true h
theorem small_at {v : List Vl} {cols : List Int} (h : smallBs v cols = true) : v.length = cols.length ∧ ∀ i, i < v.length → fitsV (gN v i) (gN cols i) = true ∧ smallV (gN v i) = true := by
  unfold smallBs at h
  rw [Bool.and_eq_true] at h
  obtain ⟨h1, h2⟩ := h
  obtain ⟨h3, h4⟩ := allG_at h1
  refine ⟨h3, fun i hi => ⟨h4 i hi, ?_⟩⟩
  have : ∀ x ∈ v, smallV x = true := by simpa using h2
  exact this _ (gN_mem hi)
theorem all_gN {α : Type} [Inhabited α] {l : List α} {p : α → Prop} : (∀ a ∈ l, p a) ↔ ∀ i, i < l.length → p (gN l i) :=
  ⟨fun h i hi => h _ (gN_mem hi), fun h a ha => by obtain ⟨i, hi, rfl⟩ := gN_mem_iff.1 ha; exact h i hi⟩
theorem chg_right {cols : List Int} {r : Rwx} {x : Opz} {n : Nat} (hr : Right cols r) (ho : OpR_ n cols (tab0 x)) (hn : n ≤ 5) : Right cols (chgT r x) ∧ (chgT r x).key = r.key := by
  obtain ⟨h1, h2⟩ := whole_name ho.whole hn
  have h1 : nameB x.dot = true := h1
  have h2 : okS x.st = true := h2
  obtain ⟨d1, d2⟩ := dotsB_iff.1 hr.dots
  obtain ⟨c1, c2⟩ := allG_at hr.cells
  rcases ho.kind with ⟨k, k2, _⟩ | ⟨k, k2, k3, k4, _⟩ | ⟨k, _⟩
  · have k : x.kind = 1 := k
    have e : chgT r x = ⟨r.key, insD r.dots x.dot, wrs r.cells x.vals x⟩ := by rw [chgT, if_pos k]
    obtain ⟨s1, s2⟩ := small_at k2
    have s1 : x.vals.length = cols.length := s1
    rw [e]
    obtain ⟨i1, i2⟩ := insD_spec (d := x.dot) d2
    have at' : ∀ i, i < r.cells.length → gN (wrs r.cells x.vals x) i = wrCel (gN r.cells i) (gN x.vals i) x := fun i hi => by rw [wrs_at hi, if_pos (by omega)]
    refine ⟨⟨hr.key, dotsB_iff.2 ⟨fun d hd => ?_, i1⟩, ?_, .inr ?_⟩, rfl⟩
    · rcases (i2 d).1 hd with rfl | h
      · exact h1
      · exact d1 d h
    · unfold allG
      rw [decide_eq_true_eq]
      refine ⟨by rw [wrs_len]; exact c1, fun i hi => ?_⟩
      rw [wrs_len] at hi
      rw [at' i hi]
      have := s2 i (by show i < x.vals.length; omega)
      exact wr_cell h1 h2 (c2 i hi) this.2 this.1
    · rw [all_gN]
      intro i hi
      rw [wrs_len] at hi
      rw [at' i hi]
      exact wr_writ h1
  · have k : x.kind = 2 := k
    have k2 : 0 ≤ x.col := k2
    have k3 : x.col < cols.length := k3
    have e : chgT r x = ⟨r.key, r.dots, r.cells.set x.col.toNat (wrCel (gN r.cells x.col.toNat) (gN x.vals 0) x)⟩ := by rw [chgT, if_neg (by omega), if_pos k]
    obtain ⟨s1, s2⟩ := small_at k4
    have hv := s2 0 (by rw [s1]; simp)
    have hv1 : fitsV (gN x.vals 0) (gN cols x.col.toNat) = true := hv.1
    have hv2 : smallV (gN x.vals 0) = true := hv.2
    have hcl : x.col.toNat < r.cells.length := by omega
    rw [e]
    refine ⟨⟨hr.key, hr.dots, ?_, ?_⟩, rfl⟩
    · unfold allG
      rw [decide_eq_true_eq]
      refine ⟨by simpa using c1, fun i hi => ?_⟩
      have hi : i < r.cells.length := by simpa using hi
      by_cases hic : i = x.col.toNat
      · rw [hic, gN_set hcl]
        exact wr_cell h1 h2 (c2 _ hcl) hv2 hv1
      · rw [gN_eq (by simpa using hi), List.getElem_set_ne (by omega), ← gN_eq hi]
        exact c2 i hi
    · rcases hr.there with h | h
      · exact .inl h
      · right
        rw [all_gN] at h ⊢
        intro i hi
        have hi : i < r.cells.length := by simpa using hi
        by_cases hic : i = x.col.toNat
        · rw [hic, gN_set hcl]; exact wr_writ h1
        · rw [gN_eq (by simpa using hi), List.getElem_set_ne (by omega), ← gN_eq hi]
          exact h i hi
  · have k : x.kind = 3 := k
    have e : chgT r x = ⟨r.key, r.dots.filter fun d => !inD x.dots d, r.cells⟩ := by rw [chgT, if_neg (by omega), if_neg (by omega), if_pos k]
    rw [e]
    refine ⟨⟨hr.key, dotsB_iff.2 ⟨fun d hd => d1 d ((List.mem_filter.1 hd).1), d2.filter _⟩, hr.cells, ?_⟩, rfl⟩
    rcases hr.there with h | h
    · left
      have : r.dots = [] := List.eq_nil_of_length_eq_zero h
      show (List.filter _ r.dots).length = 0
      rw [this]; rfl
    · exact .inr h
theorem rows_set {cols : List Int} {l : List Rwx} {k : Nat} {r : Rwx} (h : rowsB cols l = true) (hk : k < l.length) (hr : Right cols r) (hkey : r.key = (gN l k).key) : rowsB cols (l.set k r) = true := by
  obtain ⟨h1, h2⟩ := rowsB_iff.1 h
  refine rowsB_iff.2 ⟨fun a ha => ?_, ?_⟩
  · rcases List.mem_or_eq_of_mem_set ha with h | h
    · exact h1 a h
    · rw [h]; exact hr
  · rw [List.pairwise_iff_getElem] at h2 ⊢
    intro i j hi hj hij
    have hi' : i < l.length := by simpa using hi
    have hj' : j < l.length := by simpa using hj
    have := h2 i j hi' hj' hij
    have e : ∀ m (hm : m < (l.set k r).length) (hm' : m < l.length), (l.set k r)[m].key = l[m].key := fun m hm hm' => by
      rw [List.getElem_set]
      split
      · rename_i e; subst e; rw [hkey, gN_eq hm']
      · rfl
    rw [e i hi hi', e j hj hj']; exact this
theorem apply_e {cols : List Int} {l : List Rwx} {x : Opz} (h : checkT cols l = 0) (ho : opE cols (tab0 x) = 0) : applyT cols l x = ((withK cols l x.key).set (posK l x.key) (chgT (gN (withK cols l x.key) (posK l x.key)) x), seeT (gN (withK cols l x.key) (posK l x.key)), seeT (chgT (gN (withK cols l x.key) (posK l x.key)) x), 0) := by
  rw [applyT, if_neg (by simpa using h), if_neg (by simpa using ho)]
theorem apply_right {cols : List Int} {l : List Rwx} {x : Opz} (h : checkT cols l = 0) (ho : opE cols (tab0 x) = 0) : checkT cols (applyT cols l x).1 = 0 := by
  rw [apply_e h ho]
  obtain ⟨hf, hr⟩ := chk_0 h
  obtain ⟨_, o1, o2, o3⟩ := opE_0 ho
  have o := rightO_1 o3
  obtain ⟨w1, w2⟩ := withK_spec hr o.key
  have w1 : rowsB cols (withK cols l x.key) = true := w1
  have w2 : (gN (withK cols l x.key) (posK l x.key)).key = x.key := w2
  have hk := withK_lt cols l x.key
  have hR := right_iff.1 (rows_at w1 hk).1
  obtain ⟨c1, c2⟩ := chg_right hR o o2
  unfold checkT
  rw [if_neg (by simpa using hf), if_pos (rows_set w1 hk c1 c2)]
end Go.Proofs.YtbojpedklnmidaaGreat.D
end
section
set_option linter.unusedVariables false
set_option linter.unusedSimpArgs false
set_option linter.constructorNameAsVariable false
set_option maxRecDepth 100000

/- Inserts of one column. No condition. -/
namespace Go.Proofs.YtbojpedklnmidaaGreat.D
open Go Go.Proofs
open Nat (reduceAdd reduceEqDiff reduceLeDiff)
open Int (reduceLE reduceEq reduceNeg reduceToNat)
@[go_sem] theorem op_bslo_3 (z' a b c : V) (ob : OB) (i : Nat) (h : okRow 1 (cellsV a) = true) (k : okRow 1 (cellsV b) = true) (m : okRow 1 (cellsV c) = true) : opF (.bsl 1 [z'] [0, 1, 2] 3 false) [a, b, c] ob i = some (.sl i 0 3, [(i, some ⟨1, [cellsV a, cellsV b, cellsV c], none⟩)]) := by
  have := op_bsl_3 z' a b c ob i h k m
  simp only [opF] at this ⊢
  cases hf : fill ((List.replicate 3 [z']).flatten) ([0, 1, 2].map fun i => (i * 1, 1)) [a, b, c] with
  | none => rw [hf] at this; simp at this
  | some l =>
    rw [hf] at this
    simp only [Option.bind_some] at this ⊢
    split at this
    · rename_i hr
      rw [if_pos hr]
      simp at this ⊢
      exact this
    · cases this
@[reducible] def insZ (key : ByteArray) (p : Nat) (n t v : Int) : Opz := ⟨⟨⟨p, n⟩, [9, 9, 9].set p (n - 1), ⟨t, 0, p⟩, 1, 0, key, 0, [⟨3, v, noS⟩], []⟩, false⟩
theorem form3 : formE [3] = 0 := by unfold formE; simp
theorem small3 {v : Int} (h : -2147483648 ≤ v ∧ v ≤ 2147483648) : smallBs [⟨3, v, noS⟩] [3] = true := by
  have h1 : okVl ⟨3, v, noS⟩ = true := by unfold okVl; simp; omega
  have h2 : smallV ⟨3, v, noS⟩ = true := by unfold smallV; rw [h1]; simp; omega
  unfold smallBs allG
  simp [h2]
  unfold fitsV
  simp [gN, h1]
theorem opE_ins {x : Opz} {v : Int} (hd : 1 ≤ x.deps.length ∧ x.deps.length ≤ 5) (hw : wholeB x.deps.length x = true) (hk : keyB x.key = true) (h1 : x.kind = 1) (h2 : x.vals = [⟨3, v, noS⟩]) (hv : -2147483648 ≤ v ∧ v ≤ 2147483648) (h3 : x.col = 0) (h4 : x.dots = []) : opE [3] (tab0 x) = 0 := by
  have hr : rightO x.deps.length [3] (tab0 x) = true := by
    unfold rightO
    have hw' : wholeB x.deps.length (tab0 x) = true := hw
    have hk' : keyB (tab0 x).key = true := hk
    have e : (tab0 x).kind = 1 := h1
    rw [hw', hk', if_pos e]
    show (true && decide ((0 : Int) = 0) && true && (smallBs x.vals [3] && decide (x.col = 0) && decide (x.dots.length = 0))) = true
    rw [h2, small3 hv, h3, h4]; rfl
  unfold opE
  rw [if_neg (by rw [form3]; simp), if_neg]
  rintro (h | h | h)
  · have : ((tab0 x).deps.length : Int) = x.deps.length := rfl
    omega
  · have : ((tab0 x).deps.length : Int) = x.deps.length := rfl
    omega
  · have hr' : rightO ((tab0 x).deps.length : Int) [3] (tab0 x) = true := hr
    rw [hr'] at h; cases h
theorem cmpB_self (k : ByteArray) : cmpB k k = 0 := by
  rcases cmpB_r k k with ⟨_, h⟩ | ⟨e, _⟩ | ⟨_, h⟩
  · rw [keyLt_irr] at h; cases h
  · exact e
  · rw [keyLt_irr] at h; cases h
end Go.Proofs.YtbojpedklnmidaaGreat.D
end
section
set_option linter.unusedVariables false
set_option linter.unusedSimpArgs false
set_option linter.constructorNameAsVariable false
set_option maxRecDepth 100000

/- One dead row. No condition. -/
namespace Go.Proofs.YtbojpedklnmidaaGreat.D
open Go Go.Proofs
open Nat (reduceAdd reduceEqDiff reduceLeDiff)
open Int (reduceLE reduceEq reduceNeg reduceToNat)
@[reducible] def kK : ByteArray := ⟨#[107]⟩
@[reducible] def wk1 : Opz := ⟨⟨⟨0, 1⟩, [0], ⟨0, 0, 0⟩, 1, 0, kK, 0, [⟨3, 3, noS⟩], []⟩, false⟩
@[reducible] def wk2 : Opz := ⟨⟨⟨0, 2⟩, [1], ⟨0, 0, 0⟩, 3, 0, kK, 0, [], [⟨0, 1⟩]⟩, false⟩
@[reducible] def wkc : Cel := ⟨⟨3, 3, noS⟩, ⟨0, 0, 0⟩, ⟨0, 1⟩⟩
theorem wk1_o : opE [3] (tab0 wk1) = 0 := opE_ins (x := wk1) (v := 3) (by simp) (by decide) (by decide) rfl rfl (by omega) rfl rfl
@[go_sem] theorem op_bsl_d2 (z : List V) (a b : Int) (ob : OB) (i : Nat) (hz : (z.length == 2) = true) : opF (.bsl 2 z [0] 1 true) [.ag [vi a, vi b]] ob i = some (.im .b [[vi a, vi b]], []) := op_bsl_r ob i (by simpa using hz) rfl
end Go.Proofs.YtbojpedklnmidaaGreat.D
end
section
set_option linter.unusedVariables false
set_option linter.unusedSimpArgs false
set_option linter.constructorNameAsVariable false
set_option maxRecDepth 100000

/- What one insert makes: the waking call's. No condition. -/
namespace Go.Proofs.YtbojpedklnmidaaGreat.D
open Go Go.Proofs
open Nat (reduceAdd reduceEqDiff reduceLeDiff)
open Int (reduceLE reduceEq reduceNeg reduceToNat)
def runs (P : Program) (c : IC) (Q : Post) : Nat → Env → OB → Nat → Prop
  | 0, _, _, _ => False
  | k + 1, env, ob, n => wpC P c (thenQ (runs P c Q k) Q) env ob n
theorem least {p : Nat → Prop} (h : ∃ k, p k) : ∃ k, p k ∧ ∀ j, j < k → ¬ p j := by
  obtain ⟨k, hk⟩ := h
  induction k using Nat.strongRecOn with
  | _ k ih =>
    by_cases h : ∃ j, j < k ∧ p j
    · obtain ⟨j, hj, hp⟩ := h; exact ih j hj hp
    · exact ⟨k, hk, fun j hj hp => h ⟨j, hj, hp⟩⟩
open Classical in
theorem wpC_runs {P : Program} {c : IC} {Q : Post} {env : Env} {ob : OB} {n : Nat} (k : Nat) (h : runs P c Q k env ob n) : wpC P (.lp c) Q env ob n := by
  refine wpC_lp (fun env ob n => ∃ k, runs P c Q k env ob n) (fun env ob n => if h : ∃ k, runs P c Q k env ob n then Classical.choose (least h) else 0) ⟨k, h⟩ ?_
  intro env ob n hI
  rw [dif_pos hI]
  obtain ⟨h1, h2⟩ := Classical.choose_spec (least hI)
  generalize hm : Classical.choose (least hI) = m at *
  cases m with
  | zero => exact h1.elim
  | succ m =>
    refine wpC_mono (fun e env' ob' n' hq => ?_) h1
    cases e with
    | nrm =>
      have hI' : ∃ k, runs P c Q k env' ob' n' := ⟨m, hq⟩
      refine ⟨hI', ?_⟩
      show (if h : ∃ k, runs P c Q k env' ob' n' then Classical.choose (least h) else 0) < m + 1
      rw [dif_pos hI']
      obtain ⟨_, g2⟩ := Classical.choose_spec (least hI')
      exact Nat.lt_succ_of_le (Nat.le_of_not_lt fun hlt => g2 m hlt hq)
    | _ => exact hq
theorem runs_s {P : Program} {c : IC} {Q : Post} {env : Env} {ob : OB} {n k : Nat} : runs P c Q (k + 1) env ob n = wpC P c (thenQ (runs P c Q k) Q) env ob n := rfl
@[go_sem] theorem op_app0 (k : Nat) (f : Fl) (r : List V) (ob : OB) (i : Nat) (h : okRow k r = true) : opF (.app k) [.z, .im f [r]] ob i = some (.sl i 0 1, [(i, some ⟨k, [r], none⟩)]) := by
  obtain ⟨us, h1, _, _⟩ := app_new (ob := ob) (nid := i) (k := k) (v := .z) (x := .im f [r]) (rows := []) (xs := [r]) (.inl ⟨rfl, rfl⟩) (by simp) rfl (by simp [h]) (by simp [maxLen])
  simp [opF, rowsOf, h, maxLen]
theorem ContainsFDots_ok {fl : Fl} (l : List Dt) (f : Nat) (caps : List V) (p : Dt → Bool) (hl : l.length ≤ maxLen) (hc : ∀ ob, caps.map (resV ob 6) = caps) (hc' : ∀ ob, caps.map (resV ob 5) = caps) (hp : ∀ x ∈ l, FnB Tryz.prog f (.ag (dotV x) :: caps) (vb (p x))) :
    FnB Tryz.prog 94 [dots fl l, .fn f caps] (vb (l.any p)) := by
  refine fnB_intro cf94 (by simp) ?_
  simp +contextual (maxSteps := 1000000) only [go_sem, ints, intRows, reduceAdd, Nat.reduceBEq, reduceEqDiff, reduceLeDiff, Nat.reduceLT, reduceIte, reduceLE, Int.reduceLT, reduceEq, reduceNeg, reduceToNat, ops, vals, dots, c94, hc']
  first | refine caS_i (IndexDots_ok l f caps p hl hc hp) trivial ?_ | refine caD_i (IndexDots_ok l f caps p hl hc hp) trivial ?_ | refine gC_i (fun _ => IndexDots_ok l f caps p hl hc hp) trivial ?_ | refine gCD_i (fun _ => IndexDots_ok l f caps p hl hc hp) trivial ?_ | refine caE_i (IndexDots_ok l f caps p hl hc hp) trivial ?_
  simp +contextual (maxSteps := 1000000) only [go_sem, ints, intRows, reduceAdd, Nat.reduceBEq, reduceEqDiff, reduceLeDiff, Nat.reduceLT, reduceIte, reduceLE, Int.reduceLT, reduceEq, reduceNeg, reduceToNat, ops, vals, dots, idxI_ge]
theorem row1_ok (d : Dt) (a c : V) (o : List Dt) {fo : Fl} (ho : o.length ≤ maxLen) {i : List (List V)} {fi : Fl} : FnB Tryz.prog 95 [.ag (dotV d), .bp [.bp [a, .im fi i, dots fo o, c]]] (vb (!inD o d)) := by
  refine fnB_intro cf95 (by simp) ?_
  simp +contextual (maxSteps := 1000000) only [go_sem, ints, intRows, reduceAdd, Nat.reduceBEq, reduceEqDiff, reduceLeDiff, Nat.reduceLT, reduceIte, reduceLE, Int.reduceLT, reduceEq, reduceNeg, reduceToNat, ops, vals, dots, c95]
  first | refine caS_i (ContainsD_ok o d ho) trivial ?_ | refine caD_i (ContainsD_ok o d ho) trivial ?_ | refine gC_i (fun _ => ContainsD_ok o d ho) trivial ?_ | refine gCD_i (fun _ => ContainsD_ok o d ho) trivial ?_ | refine caE_i (ContainsD_ok o d ho) trivial ?_
  simp +contextual (maxSteps := 1000000) only [go_sem, ints, intRows, reduceAdd, Nat.reduceBEq, reduceEqDiff, reduceLeDiff, Nat.reduceLT, reduceIte, reduceLE, Int.reduceLT, reduceEq, reduceNeg, reduceToNat, ops, vals, dots]
@[reducible] def wkZ : List V := [vi 0, vi 0, .z, vi 0, vi 0, vi 0, vi 0, vi 0, .c (.string ⟨#[]⟩), vi 0, .z, .z]
set_option maxHeartbeats 4000000 in
theorem noteW_ok {mid laid nid : Nat} {cap : Option Nat} {ob : OB} {C : V → OB → Nat → Prop} (hm : ob mid = some ⟨4, [[.c (.string kK), .z, .z, .sl laid 0 1]], none⟩) (hl : ob laid = some ⟨12, [wkZ], cap⟩) (h1 : mid < nid) (h2 : laid < nid) (h12 : mid ≠ laid)
    (hC : ∀ ob' n' inid c1 c2, nid ≤ inid → inid < n' → ob' mid = some ⟨4, [[.c (.string kK), .sl inid 0 1, .z, .sl laid 0 1]], none⟩ → ob' inid = some ⟨2, [dotV ⟨0, 1⟩], c1⟩ → ob' laid = some ⟨12, [opV wk1.toOpx], c2⟩ → (∀ j, j < nid → j ≠ mid → j ≠ laid → ob' j = ob j) → C (.tp []) ob' n') :
    FnS Tryz.prog 45 [.pt mid 0 0, .ag (opV wk1.toOpx)] ob nid C := by
  refine fnS_intro cf45 (by simp) ?_
  have ha : ∀ k, (mid == nid + k) = false := fun k => by simp; omega
  have ha0 : (mid == nid) = false := by simp; omega
  have hb : ∀ k, (laid == nid + k) = false := fun k => by simp; omega
  have hb0 : (laid == nid) = false := by simp; omega
  have hml : (mid == laid) = false := by simp; omega
  have hlm : (laid == mid) = false := by simp; omega
  simp +contextual (maxSteps := 1000000) only [go_sem, ints, intRows, reduceAdd, Nat.reduceBEq, reduceEqDiff, reduceLeDiff, Nat.reduceLT, reduceIte, reduceLE, Int.reduceLT, reduceEq, reduceNeg, reduceToNat, ops, vals, dots, c45, hm, hl, ha, ha0, hb, hb0, hml, hlm, Nat.add_assoc, beq_add, Nat.zero_add, Nat.add_zero]
  refine wpC_runs 2 ?_
  have ha' : ∀ k, (nid + k == mid) = false := fun k => by simp; omega
  have hb' : ∀ k, (nid + k == laid) = false := fun k => by simp; omega
  have hat : atX wk1.toOpx 0 = 0 := rfl
  have nid13 : ∀ k, (nid == nid + (k + 1)) = false := fun k => by simp
  have w01 : IntKind.i64.wrap (0 + 1) = 1 := rfl
  have ha1 : (nid == mid) = false := by simp; omega
  have hb1 : (nid == laid) = false := by simp; omega
  simp +contextual (maxSteps := 1000000) only [go_sem, ints, intRows, reduceAdd, Nat.reduceBEq, reduceEqDiff, reduceLeDiff, Nat.reduceLT, reduceIte, reduceLE, Int.reduceLT, reduceEq, reduceNeg, reduceToNat, ops, vals, dots, runs_s, hm, hl, ha, ha0, ha1, hb1, nid13, w01, hb, hb0, hml, hlm, ha', hb', Nat.add_assoc, beq_add, Nat.zero_add, Nat.add_zero]
  first | refine caS_i (at_ok wk1.toOpx 0) trivial ?_ | refine caD_i (at_ok wk1.toOpx 0) trivial ?_ | refine gC_i (fun _ => at_ok wk1.toOpx 0) trivial ?_ | refine gCD_i (fun _ => at_ok wk1.toOpx 0) trivial ?_ | refine caE_i (at_ok wk1.toOpx 0) trivial ?_
  simp +contextual (maxSteps := 1000000) only [go_sem, ints, intRows, reduceAdd, Nat.reduceBEq, reduceEqDiff, reduceLeDiff, Nat.reduceLT, reduceIte, reduceLE, Int.reduceLT, reduceEq, reduceNeg, reduceToNat, ops, vals, dots, runs_s, hat, hm, hl, ha, ha0, ha1, hb1, nid13, w01, hb, hb0, hml, hlm, ha', hb', Nat.add_assoc, beq_add, Nat.zero_add, Nat.add_zero]
  refine hC _ _ (nid + 13) none cap (by omega) (by omega) ?_ ?_ ?_ (fun j h3 h4 h5 => ?_)
  · rw [updO_o _ _ _ _ hml, updO_s]
  · rw [updO_o _ _ _ _ (hb' _), updO_o _ _ _ _ (ha' _), updO_s]; rfl
  · rw [updO_s]
  · rw [updO, if_neg h5, updO, if_neg h4, updO, if_neg (by omega), updO, if_neg (by omega)]
set_option maxHeartbeats 4000000 in
theorem rowW_ok {mid laid inid nid : Nat} {c1 c2 : Option Nat} {ob : OB} {C : V → OB → Nat → Prop} (hm : ob mid = some ⟨4, [[.c (.string kK), .sl inid 0 1, .z, .sl laid 0 1]], none⟩) (hi : ob inid = some ⟨2, [dotV ⟨0, 1⟩], c1⟩) (hl : ob laid = some ⟨12, [opV wk1.toOpx], c2⟩) (h1 : mid < nid) (h2 : laid < nid) (h3 : inid < nid)
    (hC : ∀ ob' n' rid c3, nid ≤ rid → rid < n' → ob' rid = some ⟨3, [vlV ⟨4, 0, kK⟩, vlV ⟨3, 3, noS⟩], c3⟩ → (∀ j, j < nid → ob' j = ob j) → C (.sl rid 0 2) ob' n') :
    FnS Tryz.prog 47 [.pt mid 0 0] ob nid C := by
  refine fnS_intro cf47 (by simp) ?_
  have ha : ∀ k, (mid == nid + k) = false := fun k => by simp; omega
  have ha0 : (mid == nid) = false := by simp; omega
  have hb : ∀ k, (laid == nid + k) = false := fun k => by simp; omega
  have hb0 : (laid == nid) = false := by simp; omega
  have hc : ∀ k, (inid == nid + k) = false := fun k => by simp; omega
  have hc0 : (inid == nid) = false := by simp; omega
  have nid13 : ∀ k, (nid == nid + (k + 1)) = false := fun k => by simp
  have nid14 : ∀ k, (nid + (k + 1) == nid) = false := fun k => by simp
  have w01 : IntKind.i64.wrap (0 + 1) = 1 := rfl
  simp +contextual (maxSteps := 1000000) only [go_sem, ints, intRows, reduceAdd, Nat.reduceBEq, reduceEqDiff, reduceLeDiff, Nat.reduceLT, reduceIte, reduceLE, Int.reduceLT, reduceEq, reduceNeg, reduceToNat, ops, vals, dots, c47, hm, hl, hi, ha, ha0, hb, hb0, hc, hc0, nid13, nid14, w01, ia_h, vals, Nat.add_assoc, beq_add, Nat.zero_add, Nat.add_zero]
  refine ⟨rfl, ?_⟩
  first | refine caS_i (ContainsFDots_ok (fl := .n) [⟨0, 1⟩] 95 _ (fun d => !inD [] d) (by simp [maxLen]) (fun _ => rfl) (fun _ => rfl) (fun d _ => row1_ok d _ _ [] (fo := .b) (by simp))) trivial ?_ | refine caD_i (ContainsFDots_ok (fl := .n) [⟨0, 1⟩] 95 _ (fun d => !inD [] d) (by simp [maxLen]) (fun _ => rfl) (fun _ => rfl) (fun d _ => row1_ok d _ _ [] (fo := .b) (by simp))) trivial ?_ | refine gC_i (fun _ => ContainsFDots_ok (fl := .n) [⟨0, 1⟩] 95 _ (fun d => !inD [] d) (by simp [maxLen]) (fun _ => rfl) (fun _ => rfl) (fun d _ => row1_ok d _ _ [] (fo := .b) (by simp))) trivial ?_ | refine gCD_i (fun _ => ContainsFDots_ok (fl := .n) [⟨0, 1⟩] 95 _ (fun d => !inD [] d) (by simp [maxLen]) (fun _ => rfl) (fun _ => rfl) (fun d _ => row1_ok d _ _ [] (fo := .b) (by simp))) trivial ?_ | refine caE_i (ContainsFDots_ok (fl := .n) [⟨0, 1⟩] 95 _ (fun d => !inD [] d) (by simp [maxLen]) (fun _ => rfl) (fun _ => rfl) (fun d _ => row1_ok d _ _ [] (fo := .b) (by simp))) trivial ?_
  have hcd : (List.any [(⟨0, 1⟩ : Dt)] fun d => !inD [] d) = true := rfl
  simp +contextual (maxSteps := 1000000) only [go_sem, ints, intRows, reduceAdd, Nat.reduceBEq, reduceEqDiff, reduceLeDiff, Nat.reduceLT, reduceIte, reduceLE, Int.reduceLT, reduceEq, reduceNeg, reduceToNat, ops, vals, dots, hcd, hm, hl, hi, ha, ha0, hb, hb0, hc, hc0, nid13, nid14, w01, ia_h, vals, Nat.add_assoc, beq_add, Nat.zero_add, Nat.add_zero]
  refine wpC_runs 2 ?_
  have hat : atX wk1.toOpx 0 = 0 := rfl
  simp +contextual (maxSteps := 1000000) only [go_sem, ints, intRows, reduceAdd, Nat.reduceBEq, reduceEqDiff, reduceLeDiff, Nat.reduceLT, reduceIte, reduceLE, Int.reduceLT, reduceEq, reduceNeg, reduceToNat, ops, vals, dots, runs_s, hm, hl, hi, ha, ha0, hb, hb0, hc, hc0, nid13, nid14, w01, ia_h, vals, Nat.add_assoc, beq_add, Nat.zero_add, Nat.add_zero]
  first | refine caS_i (at_ok wk1.toOpx 0) trivial ?_ | refine caD_i (at_ok wk1.toOpx 0) trivial ?_ | refine gC_i (fun _ => at_ok wk1.toOpx 0) trivial ?_ | refine gCD_i (fun _ => at_ok wk1.toOpx 0) trivial ?_ | refine caE_i (at_ok wk1.toOpx 0) trivial ?_
  simp +contextual (maxSteps := 1000000) only [go_sem, ints, intRows, reduceAdd, Nat.reduceBEq, reduceEqDiff, reduceLeDiff, Nat.reduceLT, reduceIte, reduceLE, Int.reduceLT, reduceEq, reduceNeg, reduceToNat, ops, vals, dots, runs_s, hat, hm, hl, hi, ha, ha0, hb, hb0, hc, hc0, nid13, nid14, w01, ia_h, vals, Nat.add_assoc, beq_add, Nat.zero_add, Nat.add_zero]
  generalize hob : updO (updO (updO (updO ob nid _) _ _) _ _) _ _ = ob1
  have hrid : ob1 (nid + 14) = some ⟨3, [[vi 4, vi 0, .c (.string kK)]], none⟩ := by
    rw [← hob, updO, if_neg (by omega), updO, if_neg (by omega), updO_s]
  have hold : ∀ j, j < nid → ob1 j = ob j := fun j hj => by
    rw [← hob, updO, if_neg (by omega), updO, if_neg (by omega), updO, if_neg (by omega), updO, if_neg (by omega)]
  clear hob
  obtain ⟨us, u1, u2, u3⟩ := app_new (ob := ob1) (nid := nid + 38) (k := 3) (v := .sl (nid + 14) 0 1) (x := .im .b [vlV ⟨3, 3, noS⟩]) (rows := [[vi 4, vi 0, .c (.string kK)]]) (xs := [vlV ⟨3, 3, noS⟩]) (.inr ⟨_, _, rfl, hrid⟩) (by simp) rfl rfl (by simp [maxLen])
  have hold2 : ∀ j, j < nid → apps ob1 us j = ob j := fun j hj => by
    rw [u3 j (by omega) (fun len e => by injection e with e; omega), hold j hj]
  rw [u1, nxD_t]
  clear u1
  generalize apps ob1 us = ob2 at *
  simp +contextual (maxSteps := 1000000) only [go_sem, ints, intRows, reduceAdd, Nat.reduceBEq, reduceEqDiff, reduceLeDiff, Nat.reduceLT, reduceIte, reduceLE, Int.reduceLT, reduceEq, reduceNeg, reduceToNat, ops, vals, dots, runs_s, w01]
  refine hC _ _ (nid + 38) none (by omega) (by omega) u2 hold2
@[go_sem] theorem nil1_n (ob : OB) : isNil ob 1 (.c (.pointer none)) = some (.c (.bool true)) := (rfl)
@[go_sem] theorem nil1_p (ob : OB) (a b c : Nat) : isNil ob 1 (.pt a b c) = (ob a).map fun _ => .c (.bool false) := (rfl)
set_option maxHeartbeats 4000000 in
theorem MadeW_ok : FnB Tryz.prog 13 [vi 1, tbs .b [[3]], ops .b [wk1.toOpx]] (.tp [.im .o [[.im .b [[.im .b [vlV ⟨4, 0, kK⟩, vlV ⟨3, 3, noS⟩]]]]], vi 0]) := by
  refine fnB_intro cf13 (by simp) ?_
  have hf : formE [3] = 0 := form3
  have ho : opE [3] wk1 = 0 := wk1_o
  have hz : opZ wk1 = opV wk1.toOpx := rfl
  have ck := opCheck_ok [3] wk1 (by simp [maxLen]) (by simp [maxLen])
  rw [hz, ho] at ck
  have fk := Forms_ok [3]
  rw [hf] at fk
  simp +contextual (maxSteps := 1000000) only [go_sem, ints, intRows, reduceAdd, Nat.reduceBEq, reduceEqDiff, reduceLeDiff, Nat.reduceLT, reduceIte, reduceLE, Int.reduceLT, reduceEq, reduceNeg, reduceToNat, ops, vals, dots, c13]
  first | refine caS_i (fk) trivial ?_ | refine caD_i (fk) trivial ?_ | refine gC_i (fun _ => fk) trivial ?_ | refine gCD_i (fun _ => fk) trivial ?_ | refine caE_i (fk) trivial ?_
  simp +contextual (maxSteps := 1000000) only [go_sem, ints, intRows, reduceAdd, Nat.reduceBEq, reduceEqDiff, reduceLeDiff, Nat.reduceLT, reduceIte, reduceLE, Int.reduceLT, reduceEq, reduceNeg, reduceToNat, ops, vals, dots, tbs]
  refine ⟨by simp [maxLen], wpC_runs 2 ?_⟩
  have w01 : IntKind.i64.wrap (0 + 1) = 1 := rfl
  have hrep : List.replicate 1 [V.c (Value.map none)] = [[V.c (Value.map none)]] := rfl
  rw [hrep]
  simp +contextual (maxSteps := 1000000) only [go_sem, ints, intRows, reduceAdd, Nat.reduceBEq, reduceEqDiff, reduceLeDiff, Nat.reduceLT, reduceIte, reduceLE, Int.reduceLT, reduceEq, reduceNeg, reduceToNat, ops, vals, dots, runs_s, w01]
  refine ⟨⟨rfl, rfl⟩, wpC_runs 2 ?_⟩
  have hcm : ∀ i, cellsV (.mp i) = [.mp i] := fun _ => rfl
  have hpm : posM false [1] (.c (.string kK)) [] = some none := rfl
  have hkm : keyOk false [1] (.c (.string kK)) = true := rfl
  simp only [hcm]
  simp +contextual (maxSteps := 1000000) only [go_sem, ints, intRows, reduceAdd, Nat.reduceBEq, reduceEqDiff, reduceLeDiff, Nat.reduceLT, reduceIte, reduceLE, Int.reduceLT, reduceEq, reduceNeg, reduceToNat, ops, vals, dots, runs_s, w01, ops, ia_h, tbs]
  first | refine caS_i (ck) trivial ?_ | refine caD_i (ck) trivial ?_ | refine gC_i (fun _ => ck) trivial ?_ | refine gCD_i (fun _ => ck) trivial ?_ | refine caE_i (ck) trivial ?_
  simp +contextual (maxSteps := 1000000) only [go_sem, ints, intRows, reduceAdd, Nat.reduceBEq, reduceEqDiff, reduceLeDiff, Nat.reduceLT, reduceIte, reduceLE, Int.reduceLT, reduceEq, reduceNeg, reduceToNat, ops, vals, dots, runs_s, w01, ia_h, tbs, hpm, hkm]
  have hvm : ∀ d, valM d [] none = d := fun _ => rfl
  have hrep2 : List.replicate 1 wkZ = [wkZ] := rfl
  simp only [hvm]
  simp +contextual (maxSteps := 1000000) only [go_sem, ints, intRows, reduceAdd, Nat.reduceBEq, reduceEqDiff, reduceLeDiff, Nat.reduceLT, reduceIte, reduceLE, Int.reduceLT, reduceEq, reduceNeg, reduceToNat, ops, vals, dots, runs_s, w01, ia_h, tbs, hpm, hkm, hvm, hrep2]
  refine ⟨by simp [maxLen], rcS_i (noteW_ok (mid := 70) (laid := 68) (cap := none) ?_ ?_ (by omega) (by omega) (by omega) fun ob' n' inid c1 c2 hin hin2 o70 oin o68 hfr => ?_)⟩
  · rw [updO_o _ _ _ _ rfl, updO_s]
  · rw [updO_o _ _ _ _ rfl, updO_o _ _ _ _ rfl, updO_s]
  have hsm : setM (.c (.string kK)) (.pt 70 0 0) [] none = [[.c (.string kK), .pt 70 0 0]] := rfl
  have o17 : ob' 17 = some ⟨1, [[.mp 27]], none⟩ := by
    rw [hfr 17 (by omega) (by omega) (by omega)]
    repeat first | rw [updO_s] | rw [updO_o _ _ _ _ rfl]
  have o27 : ob' 27 = some ⟨0, [[.c (.string kK), .pt 70 0 0]], none⟩ := by
    rw [hfr 27 (by omega) (by omega) (by omega)]
    repeat first | rw [updO_s] | rw [updO_o _ _ _ _ rfl]
    rw [hsm]
  clear hfr
  have g17 : ∀ k, (17 == n' + k) = false := fun k => by simp; omega
  have g27 : ∀ k, (27 == n' + k) = false := fun k => by simp; omega
  have g68 : ∀ k, (68 == n' + k) = false := fun k => by simp; omega
  have g70 : ∀ k, (70 == n' + k) = false := fun k => by simp; omega
  have gin : ∀ k, (inid == n' + k) = false := fun k => by simp; omega
  have gz : ∀ k, (n' == n' + (k + 1)) = false := fun k => by simp
  simp +contextual (maxSteps := 1000000) only [go_sem, ints, intRows, reduceAdd, Nat.reduceBEq, reduceEqDiff, reduceLeDiff, Nat.reduceLT, reduceIte, reduceLE, Int.reduceLT, reduceEq, reduceNeg, reduceToNat, ops, vals, dots, runs_s, w01, o17]
  refine wpC_runs 2 ?_
  simp +contextual (maxSteps := 1000000) only [go_sem, ints, intRows, reduceAdd, Nat.reduceBEq, reduceEqDiff, reduceLeDiff, Nat.reduceLT, reduceIte, reduceLE, Int.reduceLT, reduceEq, reduceNeg, reduceToNat, ops, vals, dots, runs_s, w01, o17, o27, o68, o70, oin, g17, g27, g68, g70, gin, gz, Nat.add_assoc, beq_add, Nat.zero_add, Nat.add_zero]
  refine wpC_runs 2 ?_
  simp +contextual (maxSteps := 1000000) only [go_sem, ints, intRows, reduceAdd, Nat.reduceBEq, reduceEqDiff, reduceLeDiff, Nat.reduceLT, reduceIte, reduceLE, Int.reduceLT, reduceEq, reduceNeg, reduceToNat, ops, vals, dots, runs_s, w01, o17, o27, o68, o70, oin, g17, g27, g68, g70, gin, gz, Nat.add_assoc, beq_add, Nat.zero_add, Nat.add_zero]
  refine nxt_i (it := n' + 13) (id := 27) (seen := []) (rows := [[.c (.string kK), .pt 70 0 0]]) (cap := none) (cap' := none) (by rw [updO_s]; rfl) (by rw [updO_o _ _ _ _ (g27 _)]; exact o27) (fun h => absurd (h 0 (by simp)) (by simp)) (fun i kv vv hi hs hr => ?_)
  obtain rfl : i = 0 := by simp at hi; omega
  simp only [List.getElem?_cons_zero, Option.some.injEq, List.cons.injEq, and_true] at hr
  obtain ⟨rfl, rfl⟩ := hr
  generalize hX : updO (updO ob' (n' + 13) _) (n' + 13) _ = ob2
  have it2 : ob2 (n' + 13) = some ⟨0, itRows 27 1 [0], none⟩ := by rw [← hX, updO_s]; rfl
  have p17 : ob2 17 = some ⟨1, [[.mp 27]], none⟩ := by rw [← hX, updO_o _ _ _ _ (g17 _), updO_o _ _ _ _ (g17 _), o17]
  have p27 : ob2 27 = some ⟨0, [[.c (.string kK), .pt 70 0 0]], none⟩ := by rw [← hX, updO_o _ _ _ _ (g27 _), updO_o _ _ _ _ (g27 _), o27]
  have p68 : ob2 68 = some ⟨12, [opV wk1.toOpx], c2⟩ := by rw [← hX, updO_o _ _ _ _ (g68 _), updO_o _ _ _ _ (g68 _), o68]
  have p70 : ob2 70 = some ⟨4, [[.c (.string kK), .sl inid 0 1, .z, .sl 68 0 1]], none⟩ := by rw [← hX, updO_o _ _ _ _ (g70 _), updO_o _ _ _ _ (g70 _), o70]
  have pin : ob2 inid = some ⟨2, [dotV ⟨0, 1⟩], c1⟩ := by rw [← hX, updO_o _ _ _ _ (gin _), updO_o _ _ _ _ (gin _), oin]
  have he : ∀ nid, opF .ent [.mi (n' + 13)] ob2 nid = some (.tp [.c (.string kK), .pt 70 0 0], []) := fun _ => ent_i (seen := []) (i := 0) it2 p27 rfl
  clear hX o17 o27 o68 o70 oin
  simp +contextual (maxSteps := 1000000) only [go_sem, ints, intRows, reduceAdd, Nat.reduceBEq, reduceEqDiff, reduceLeDiff, Nat.reduceLT, reduceIte, reduceLE, Int.reduceLT, reduceEq, reduceNeg, reduceToNat, ops, vals, dots, runs_s, w01, he, p17, p27, p68, p70, pin, g17, g27, g68, g70, gin, gz, Nat.add_assoc, beq_add, Nat.zero_add, Nat.add_zero]
  have this1 : ∀ i, i < 1 → i ∈ [0] := fun i hi => List.mem_singleton.2 (by omega)
  have gy : ∀ a b, (n' + a == n' + b) = (a == b) := fun a b => by rw [Bool.eq_iff_iff, beq_iff_eq, beq_iff_eq]; omega
  refine nxt_i (it := n' + 13) (id := 27) (seen := [0]) (rows := [[.c (.string kK), .pt 70 0 0]]) (cap := none) (cap' := none) (by rw [updO_o _ _ _ _ (gy 13 21)]; exact it2) (by rw [updO_o _ _ _ _ (g27 _)]; exact p27) (fun _ => ?_) (fun i kv vv hi hs hr => absurd (this1 i hi) hs)
  simp +contextual (maxSteps := 1000000) only [go_sem, ints, intRows, reduceAdd, Nat.reduceBEq, reduceEqDiff, reduceLeDiff, Nat.reduceLT, reduceIte, reduceLE, Int.reduceLT, reduceEq, reduceNeg, reduceToNat, ops, vals, dots, runs_s, w01, p17, p27, p68, p70, pin, g17, g27, g68, g70, gin, gz, gy, Nat.add_assoc, beq_add, Nat.zero_add, Nat.add_zero]
  have hs1 : sortB [kK] = [kK] := by simp [sortB]
  refine rcS_i (SortStr_ok (l := [kK]) (n := n' + 22) (.inr ⟨by simp, n' + 21, none, by omega, rfl, updO_s _ _ _⟩) (by omega) (by simp [maxLen]) fun ob3 hown hfr3 => ?_)
  rw [hs1] at hown
  have q21 : ∃ c3, ob3 (n' + 21) = some ⟨1, [[.c (.string kK)]], c3⟩ := by
    rcases hown with ⟨h, _⟩ | ⟨_, sid, c3, _, e3, hsid⟩
    · simp at h
    · injection e3 with e3 _ _
      subst e3; exact ⟨c3, hsid⟩
  obtain ⟨c3, q21⟩ := q21
  have hold3 : ∀ j, j ≠ n' + 21 → ob3 j = ob2 j := fun j hj => by
    rw [hfr3 j fun len e => by injection e with e; omega]
    rw [updO, if_neg hj]
  have q17 := (hold3 17 (by omega)).trans p17
  have q27 := (hold3 27 (by omega)).trans p27
  have q68 := (hold3 68 (by omega)).trans p68
  have q70 := (hold3 70 (by omega)).trans p70
  have qin := (hold3 inid (by omega)).trans pin
  clear hfr3 hold3 hown p17 p27 p68 p70 pin he it2
  have hpm1 : posM false [1] (.c (.string kK)) [[.c (.string kK), .pt 70 0 0]] = some (some 0) := by simp [posM, keyEq, keyC, eqS, eqCells]
  have hvm1 : ∀ d, valM d [[.c (.string kK), .pt 70 0 0]] (some 0) = .pt 70 0 0 := fun _ => rfl
  simp +contextual (maxSteps := 1000000) only [go_sem, ints, intRows, reduceAdd, Nat.reduceBEq, reduceEqDiff, reduceLeDiff, Nat.reduceLT, reduceIte, reduceLE, Int.reduceLT, reduceEq, reduceNeg, reduceToNat, ops, vals, dots, runs_s, w01, q17, q21, q27, q68, q70, qin, g17, g27, g68, g70, gin, gz, gy, Nat.add_assoc, beq_add, Nat.zero_add, Nat.add_zero]
  refine wpC_runs 2 ?_
  simp +contextual (maxSteps := 1000000) only [go_sem, ints, intRows, reduceAdd, Nat.reduceBEq, reduceEqDiff, reduceLeDiff, Nat.reduceLT, reduceIte, reduceLE, Int.reduceLT, reduceEq, reduceNeg, reduceToNat, ops, vals, dots, runs_s, w01, hkm, hpm1, hvm1, q17, q21, q27, q68, q70, qin, g17, g27, g68, g70, gin, gz, gy, Nat.add_assoc, beq_add, Nat.zero_add, Nat.add_zero]
  refine rcS_i (rowW_ok (mid := 70) (laid := 68) (inid := inid) q70 qin q68 (by omega) (by omega) (by omega) fun ob4 n4 rid c4 hr1 hr2 orid hfr4 => ?_)
  have r17 := (hfr4 17 (by omega)).trans q17
  have r21 := (hfr4 (n' + 21) (by omega)).trans q21
  have r27 := (hfr4 27 (by omega)).trans q27
  clear hfr4 q17 q21 q27 q68 q70 qin
  have f17 : ∀ k, (17 == n4 + k) = false := fun k => by simp; omega
  have f27 : ∀ k, (27 == n4 + k) = false := fun k => by simp; omega
  have frid : ∀ k, (rid == n4 + k) = false := fun k => by simp; omega
  have f21 : ∀ k, (n' + 21 == n4 + k) = false := fun k => by simp; omega
  have fy : ∀ a b, (n4 + a == n4 + b) = (a == b) := fun a b => by rw [Bool.eq_iff_iff, beq_iff_eq, beq_iff_eq]; omega
  have hok : ∀ id len, okRow 1 [.sl id 0 len] = true := fun _ _ => rfl
  have hcs : ∀ id len, cellsV (.sl id 0 len) = [.sl id 0 len] := fun _ _ => rfl
  simp +contextual (maxSteps := 1000000) only [go_sem, ints, intRows, reduceAdd, Nat.reduceBEq, reduceEqDiff, reduceLeDiff, Nat.reduceLT, reduceIte, reduceLE, Int.reduceLT, reduceEq, reduceNeg, reduceToNat, ops, vals, dots, runs_s, w01, r17, r21, r27, orid, f17, f27, frid, f21, fy, hok, hcs, Nat.add_assoc, beq_add, Nat.zero_add, Nat.add_zero]
  have e1 : updO (updO ob4 (n4 + 7) (some ⟨1, [[V.sl rid 0 2]], none⟩)) (n4 + 15) (some ⟨1, [[V.sl (n4 + 7) 0 1]], none⟩) (n4 + 15) = some ⟨1, [[V.sl (n4 + 7) 0 1]], none⟩ := updO_s _ _ _
  have e2 : kill (updO (updO ob4 (n4 + 7) (some ⟨1, [[V.sl rid 0 2]], none⟩)) (n4 + 15) (some ⟨1, [[V.sl (n4 + 7) 0 1]], none⟩)) (n4 + 15) (n4 + 7) = some ⟨1, [[V.sl rid 0 2]], none⟩ := by
    rw [kill_o _ _ _ (fy 7 15), updO_o _ _ _ _ (fy 7 15), updO_s]
  have e3 : kill (updO (updO ob4 (n4 + 7) (some ⟨1, [[V.sl rid 0 2]], none⟩)) (n4 + 15) (some ⟨1, [[V.sl (n4 + 7) 0 1]], none⟩)) (n4 + 15) rid = some ⟨3, [vlV ⟨4, 0, kK⟩, vlV ⟨3, 3, noS⟩], c4⟩ := by
    rw [kill_o _ _ _ (frid 15), updO_o _ _ _ _ (frid 15), updO_o _ _ _ _ (frid 7), orid]
  simp [outL, retV, rowsOf, e1, gV, e2, e3, vlV]
end Go.Proofs.YtbojpedklnmidaaGreat.D
end
section
set_option linter.unusedVariables false
set_option linter.unusedSimpArgs false
set_option linter.constructorNameAsVariable false
set_option maxRecDepth 100000

/- Inserts of one key: plain law. No condition. -/
namespace Go.Proofs.YtbojpedklnmidaaGreat.D
open Go Go.Proofs
open Nat (reduceAdd reduceEqDiff reduceLeDiff)
open Int (reduceLE reduceEq reduceNeg reduceToNat)
@[reducible] def insY (key : ByteArray) (p : Nat) (n t v : Int) : Opz := ⟨⟨⟨p, n⟩, [9, 9, 9].set p (n - 1), ⟨t, 0, p⟩, 1, 0, key, 0, [⟨3, v, noS⟩], []⟩, false⟩
theorem ins_op {key : ByteArray} {p : Nat} {n t v : Int} (hk : keyB key = true) (hp : p < 3) (hn : 1 ≤ n ∧ n ≤ 1073741824) (ht : 0 ≤ t ∧ t ≤ 1099511627776) (hv : -2147483648 ≤ v ∧ v ≤ 2147483648) : opE [3] (tab0 (insZ key p n t v)) = 0 := by
  refine opE_ins (x := insZ key p n t v) (v := v) (by simp) ?_ hk rfl rfl hv rfl rfl
  have hs : okS ⟨t, 0, p⟩ = true := by unfold okS; simp; omega
  have hvv : vecE ([9, 9, 9].set p (n - 1)) = 0 := by
    unfold vecE
    rw [if_pos (by simp), if_pos]
    intro a ha
    rcases List.mem_or_eq_of_mem_set ha with h | h
    · simp at h; omega
    · omega
  have hg : gN ([9, 9, 9].set p (n - 1) : List Int) p = n - 1 := gN_set (by simp; exact hp) _
  have e : wholeB (insZ key p n t v).deps.length (insZ key p n t v) = (decide (0 ≤ (p : Int)) && decide ((p : Int) < (([9, 9, 9].set p (n - 1) : List Int).length : Int)) && decide (1 ≤ n) && decide (n ≤ 1073741824) && decide ((([9, 9, 9].set p (n - 1) : List Int).length : Int) = (([9, 9, 9].set p (n - 1) : List Int).length : Int)) && decide (vecE ([9, 9, 9].set p (n - 1)) = 0) && decide (gN ([9, 9, 9].set p (n - 1) : List Int) (p : Int).toNat = n - 1) && okS ⟨t, 0, p⟩ && decide ((p : Int) = (p : Int))) := rfl
  rw [e, hs, hvv, Int.toNat_natCast, hg]
  simp; omega
@[reducible] def celI (p : Nat) (n t v : Int) : Cel := ⟨⟨3, v, noS⟩, ⟨t, 0, p⟩, ⟨p, n⟩⟩
def tA (u : Nat → Nat) (i : Nat) : Nat := u i * 20 + i
@[reducible] def dtT (i : Nat) : Dt := ⟨((i % 3 : Nat) : Int), ((i / 3 + 1 : Nat) : Int)⟩
@[reducible] def xT (u : Nat → Nat) (i : Nat) : Opz := insZ kK (i % 3) ((i / 3 + 1 : Nat) : Int) (tA u i : Nat) (i : Nat)
@[reducible] def cT (u : Nat → Nat) (i : Nat) : Cel := celI (i % 3) ((i / 3 + 1 : Nat) : Int) (tA u i : Nat) (i : Nat)
structure LatI (m T : Nat) (u : Nat → Nat) (i : Nat) (ds : List Dt) (c : Cel) : Prop where
  len : ds.length = i
  mem : ∀ e ∈ ds, ∃ j, j < i ∧ e = dtT ((j + T) % m)
  chk : checkT [3] [⟨kK, ds, [c]⟩] = 0
  cell : ∃ k, k < m ∧ c = cT u k ∧ ∀ j, j < i → tA u ((j + T) % m) ≤ tA u k
end Go.Proofs.YtbojpedklnmidaaGreat.D
end
section
set_option linter.unusedVariables false
set_option linter.unusedSimpArgs false
set_option linter.constructorNameAsVariable false
set_option maxRecDepth 100000

/- Rows by their keys: plain law. No condition. -/
namespace Go.Proofs.YtbojpedklnmidaaGreat.D
open Go Go.Proofs
open Nat (reduceAdd reduceEqDiff reduceLeDiff)
open Int (reduceLE reduceEq reduceNeg reduceToNat)
theorem toL_iff {a b : ByteArray} : a.toList = b.toList ↔ a = b := by
  constructor
  · intro h
    rw [ByteArray.toList_eq, ByteArray.toList_eq] at h
    cases a; cases b; simp at h; simp [h]
  · rintro rfl; rfl
theorem isK_true {l : List Rwx} {key : ByteArray} (h : isK l key = true) : posK l key < l.length ∧ (gN l (posK l key)).key = key := by
  unfold isK at h
  simp only [Bool.and_eq_true, decide_eq_true_eq] at h
  refine ⟨h.1, ?_⟩
  rcases cmpB_r (gN l (posK l key)).key key with ⟨e, _⟩ | ⟨_, e⟩ | ⟨e, _⟩
  · omega
  · exact e
  · omega
theorem keys_lt {cols : List Int} {l : List Rwx} (h : rowsB cols l = true) {i j : Nat} (hij : i < j) (hj : j < l.length) : keyLt (gN l i).key (gN l j).key = true := by
  have := List.pairwise_iff_getElem.1 (rowsB_iff.1 h).2 i j (by omega) hj hij
  rw [gN_eq (by omega), gN_eq hj]; exact this
theorem keys_inj {cols : List Int} {l : List Rwx} (h : rowsB cols l = true) {i j : Nat} (hi : i < l.length) (hj : j < l.length) (e : (gN l i).key = (gN l j).key) : i = j := by
  rcases Nat.lt_trichotomy i j with h1 | h1 | h1
  · have := keys_lt h h1 hj; rw [e, keyLt_irr] at this; cases this
  · exact h1
  · have := keys_lt h h1 hi; rw [e, keyLt_irr] at this; cases this
theorem posK_at {cols : List Int} {l : List Rwx} (h : rowsB cols l = true) {i : Nat} (hi : i < l.length) : posK l (gN l i).key = i ∧ isK l (gN l i).key = true := by
  have h0 : posK l (gN l i).key ≤ i := Nat.le_of_not_lt fun hc => by
    have := posK_lt hc; rw [cmpB_self] at this; omega
  have h1 : posK l (gN l i).key = i := by
    rcases Nat.lt_or_ge (posK l (gN l i).key) i with h2 | h2
    · have h3 := keys_lt h h2 hi
      have h4 := keys_up h (Nat.le_refl _) (show posK l (gN l i).key < l.length by omega)
      rcases cmpB_r (gN l (posK l (gN l i).key)).key (gN l i).key with ⟨e, _⟩ | ⟨_, e⟩ | ⟨_, e⟩
      · omega
      · rw [e, keyLt_irr] at h3; cases h3
      · rw [keyLt_asym h3] at e; cases e
    · omega
  refine ⟨h1, ?_⟩
  unfold isK
  rw [h1, cmpB_self]
  simp [hi]
theorem findT_k {cols : List Int} {l : List Rwx} (h : rowsB cols l = true) (key : ByteArray) : findT l key = if isK l key then (posK l key : Int) else -1 := by
  unfold findT
  split
  · rename_i hk
    obtain ⟨h1, h2⟩ := isK_true hk
    refine idxI_at h1 (fun r hr => ?_) (by simp [h2])
    obtain ⟨i, hi, rfl⟩ := gN_mem_iff.1 hr
    have hi' : i < posK l key := by simp at hi; omega
    have e : gN (l.take (posK l key)) i = gN l i := by
      rw [gN_eq hi, gN_eq (by omega)]; simp
    rw [e]
    simp only [decide_eq_false_iff_not, toL_iff]
    intro e2
    have := keys_inj h (by omega) h1 (e2.trans h2.symm)
    omega
  · rename_i hk
    refine idxI_no fun r hr => ?_
    obtain ⟨i, hi, rfl⟩ := gN_mem_iff.1 hr
    simp only [decide_eq_false_iff_not, toL_iff]
    rintro rfl
    exact hk (posK_at h hi).2
theorem withK_len (cols : List Int) {l : List Rwx} {key : ByteArray} : (withK cols l key).length = l.length + if isK l key then 0 else 1 := by
  have := posK_le l key
  unfold withK
  split
  · rfl
  · simp; omega
theorem withK_old {cols : List Int} {l : List Rwx} {key : ByteArray} {k : Nat} (hk : k < (withK cols l key).length) (hne : k ≠ posK l key) : gN (withK cols l key) k ∈ l := by
  have := posK_le l key
  rcases withK_at cols l key with ⟨h, e⟩ | ⟨h, e, _⟩
  · rw [e] at hk ⊢; exact gN_mem hk
  · rw [gN_eq hk]
    simp only [e]
    rw [List.getElem_append]
    split
    · exact List.mem_of_mem_take (List.getElem_mem _)
    · rename_i hc
      have hc : posK l key ≤ k := by simp at hc; omega
      obtain ⟨d, hd⟩ : ∃ d, k - (l.take (posK l key)).length = d + 1 := ⟨k - posK l key - 1, by simp; omega⟩
      simp only [hd, List.getElem_cons_succ]
      exact List.mem_of_mem_drop (List.getElem_mem _)
theorem insD_pos (ds : List Dt) (d : Dt) : 0 < (insD ds d).length ∧ (insD ds d).length ≤ ds.length + 1 := by
  have : posD ds d ≤ ds.length := tw_le ds
  unfold insD
  split
  · rename_i h; omega
  · simp; omega
structure KeyI (i : Nat) (l : List Rwx) : Prop where
  chk : checkT [3] l = 0
  len : l.length ≤ i
  row : ∀ r ∈ l, (∃ j : Nat, j < i ∧ r.cells = [celI 0 ((j + 1 : Nat) : Int) (j : Nat) (j : Nat)]) ∧ 0 < r.dots.length ∧ r.dots.length ≤ i
theorem KeyI.step {i : Nat} {l : List Rwx} {key : ByteArray} (h : KeyI i l) (hi : i < 40) (hk : keyB key = true) :
    ∃ l' g, applyT [3] l (insZ key 0 ((i + 1 : Nat) : Int) (i : Nat) (i : Nat)) = (l', g, [⟨4, 0, key⟩, ⟨3, (i : Nat), noS⟩], 0) ∧ KeyI (i + 1) l' ∧ l'.length = l.length + if findT l key < 0 then 1 else 0 := by
  have ho : opE [3] (tab0 (insZ key 0 ((i + 1 : Nat) : Int) (i : Nat) (i : Nat))) = 0 := ins_op hk (by omega) (by omega) (by omega) (by omega)
  have hr := (chk_0 h.chk).2
  have hlt := withK_lt [3] l key
  have hkey := (withK_spec hr hk).2
  obtain ⟨R, hR⟩ : ∃ R, R = gN (withK [3] l key) (posK l key) := ⟨_, rfl⟩
  have hRc : ∃ c, R.cells = [c] ∧ wrB c (insZ key 0 ((i + 1 : Nat) : Int) (i : Nat) (i : Nat)) = true ∧ R.dots.length ≤ i := by
    rcases withK_at [3] l key with ⟨q, e⟩ | ⟨q, _, e⟩
    · have hm : R ∈ l := by rw [hR, e]; exact gN_mem (by rw [e] at hlt; exact hlt)
      obtain ⟨⟨j, hj, hc⟩, h1, h2⟩ := h.row R hm
      refine ⟨_, hc, ?_, h2⟩
      unfold wrB
      have hlt2 : cmpT (⟨(j : Nat), 0, (0 : Nat)⟩ : St3) ⟨(i : Nat), 0, (0 : Nat)⟩ < 0 := by
        unfold cmpT orV cmpI
        rw [if_pos (by simp; omega)]
        have : ((j : Nat) : Int) < (i : Nat) := by omega
        simp [this]
      have : decide (cmpT (celI 0 ((j + 1 : Nat) : Int) (j : Nat) (j : Nat)).st (insZ key 0 ((i + 1 : Nat) : Int) (i : Nat) (i : Nat)).st < 0) = true := decide_eq_true hlt2
      rw [this, Bool.or_true]
    · rw [hR, e]; exact ⟨zCel, rfl, rfl, Nat.zero_le _⟩
  obtain ⟨c, c1, c2, c3⟩ := hRc
  have hRk : R.key = key := by rw [hR]; exact hkey
  have hch : chgT R (insZ key 0 ((i + 1 : Nat) : Int) (i : Nat) (i : Nat)) = ⟨key, insD R.dots ⟨((0 : Nat) : Int), ((i + 1 : Nat) : Int)⟩, [celI 0 ((i + 1 : Nat) : Int) (i : Nat) (i : Nat)]⟩ := by
    have e1 : chgT R (insZ key 0 ((i + 1 : Nat) : Int) (i : Nat) (i : Nat)) = ⟨R.key, insD R.dots ⟨((0 : Nat) : Int), ((i + 1 : Nat) : Int)⟩, wrs R.cells [⟨3, (i : Nat), noS⟩] (insZ key 0 ((i + 1 : Nat) : Int) (i : Nat) (i : Nat))⟩ := rfl
    rw [e1, hRk, c1]
    have e2 : wrs [c] [⟨3, (i : Nat), noS⟩] (insZ key 0 ((i + 1 : Nat) : Int) (i : Nat) (i : Nat)) = [wrCel c ⟨3, (i : Nat), noS⟩ (insZ key 0 ((i + 1 : Nat) : Int) (i : Nat) (i : Nat))] := rfl
    rw [e2, wrCel, if_pos c2]
  obtain ⟨p1, p2⟩ := insD_pos R.dots ⟨((0 : Nat) : Int), ((i + 1 : Nat) : Int)⟩
  have ha := apply_e h.chk ho
  have hri := apply_right h.chk ho
  have hxk : (insZ key 0 ((i + 1 : Nat) : Int) (i : Nat) (i : Nat)).key = key := rfl
  rw [hxk, ← hR, hch] at ha
  rw [ha] at hri
  have hlen : ((withK [3] l key).set (posK l key) ⟨key, insD R.dots ⟨((0 : Nat) : Int), ((i + 1 : Nat) : Int)⟩, [celI 0 ((i + 1 : Nat) : Int) (i : Nat) (i : Nat)]⟩).length = l.length + if findT l key < 0 then 1 else 0 := by
    rw [List.length_set, withK_len, findT_k hr]
    cases isK l key <;> simp
  refine ⟨_, _, by rw [ha]; congr 3; unfold seeT; rw [if_neg (by show ¬ (insD R.dots _).length = 0; omega)]; rfl, ⟨hri, ?_, fun r hrm => ?_⟩, hlen⟩
  · rw [hlen]
    have := h.len
    split <;> omega
  · obtain ⟨k, hk1, rfl⟩ := gN_mem_iff.1 hrm
    rw [List.length_set] at hk1
    by_cases hkp : k = posK l key
    · subst hkp
      rw [gN_set hk1]
      refine ⟨⟨i, by omega, rfl⟩, p1, ?_⟩
      show (insD R.dots _).length ≤ _
      omega
    · have e : gN ((withK [3] l key).set (posK l key) ⟨key, insD R.dots ⟨((0 : Nat) : Int), ((i + 1 : Nat) : Int)⟩, [celI 0 ((i + 1 : Nat) : Int) (i : Nat) (i : Nat)]⟩) k = gN (withK [3] l key) k := by
        rw [gN_eq (by simpa using hk1), gN_eq hk1, List.getElem_set_ne (by omega)]
      rw [e]
      obtain ⟨⟨j, hj, hc⟩, h1, h2⟩ := h.row _ (withK_old hk1 hkp)
      exact ⟨⟨j, by omega, hc⟩, h1, by omega⟩
theorem KeyI.seen {i : Nat} {l : List Rwx} (h : KeyI i l) : seenT [3] l = l.map seeT := by
  unfold seenT
  rw [if_neg (by rw [h.chk]; simp), List.filter_eq_self.2]
  intro r hr
  have := (h.row r hr).2.1
  simp; omega
theorem KeyI.see {i : Nat} {l : List Rwx} (h : KeyI i l) {k : Nat} (hk : k < l.length) : ∃ v, seeT (gN l k) = [⟨4, 0, (gN l k).key⟩, v] := by
  obtain ⟨⟨j, hj, hc⟩, h1, h2⟩ := h.row _ (gN_mem hk)
  unfold seeT
  rw [if_neg (by omega), hc]
  exact ⟨_, rfl⟩
end Go.Proofs.YtbojpedklnmidaaGreat.D
end
section
set_option linter.unusedVariables false
set_option linter.unusedSimpArgs false
set_option linter.constructorNameAsVariable false
set_option maxRecDepth 100000

/- An insert that a delete did not know of stays. No condition. -/
namespace Go.Proofs.YtbojpedklnmidaaGreat.D
open Go Go.Proofs
open Nat (reduceAdd reduceEqDiff reduceLeDiff)
open Int (reduceLE reduceEq reduceNeg reduceToNat)
@[reducible] def dZ (ds : List Dt) : Opz := ⟨⟨⟨2, 1⟩, [1, 1, 0], ⟨9, 0, 2⟩, 3, 0, kK, 0, [], ds⟩, true⟩
@[reducible] def cA (w : Int) : Cel := ⟨⟨3, w, noS⟩, ⟨5, 0, 0⟩, ⟨0, 1⟩⟩
@[reducible] def cB (w : Int) : Cel := ⟨⟨3, w, noS⟩, ⟨7, 0, 1⟩, ⟨1, 1⟩⟩
@[reducible] def lS (ds : List Dt) (c : Cel) : List Rwx := [⟨kK, ds, [c]⟩]
end Go.Proofs.YtbojpedklnmidaaGreat.D
end
section
set_option linter.unusedVariables false
set_option linter.unusedSimpArgs false
set_option linter.constructorNameAsVariable false
set_option maxRecDepth 100000

/- Deleting rows as they lie in memory. No condition. -/
namespace Go.Proofs.YtbojpedklnmidaaGreat.D
open Go Go.Proofs
open Nat (reduceAdd reduceEqDiff reduceLeDiff)
open Int (reduceLE reduceEq reduceNeg reduceToNat)
abbrev RwP := Rw 3 × Rwf
instance : Inhabited RwP := ⟨⟨default, default⟩⟩
def rwP (x : RwP) : List V := x.1.r
@[go_sem] theorem rwP_len (x : RwP) : (rwP x).length = 3 := x.1.len
@[go_sem] theorem rwP_leaf (x : RwP) : (rwP x).all leaf = true := x.1.leaf
@[go_sem] theorem rwP_row (x : RwP) : okRow 3 (rwP x) = true := x.1.ok
@[go_sem] theorem rwP_t (x : RwP) : (rwP x).take 3 = rwP x := rw3_t x.1
@[go_sem] theorem rwP_d (x : RwP) : (rwP x).drop 3 = [] := rw3_d x.1
end Go.Proofs.YtbojpedklnmidaaGreat.D
end
section
set_option linter.unusedVariables false
set_option linter.unusedSimpArgs false
set_option linter.constructorNameAsVariable false
set_option maxRecDepth 100000

/- Compacting: its parts. No condition. -/
namespace Go.Proofs.YtbojpedklnmidaaGreat.D
open Go Go.Proofs
open Nat (reduceAdd reduceEqDiff reduceLeDiff)
open Int (reduceLE reduceEq reduceNeg reduceToNat)
theorem RowO.ok {ob : OB} {n : Nat} {r : List V} {R : Rwx} (h : RowO ob n r R) : okRow 3 r = true := by
  obtain ⟨dv, cv, rfl, hd, hc⟩ := h
  have h1 : leaf dv = true := by rcases hd with ⟨_, rfl⟩ | ⟨_, _, _, rfl, _⟩ <;> rfl
  have h2 : leaf cv = true := by rcases hc with ⟨_, rfl⟩ | ⟨_, _, _, rfl, _⟩ <;> rfl
  simp [okRow, h1, h2]; rfl
end Go.Proofs.YtbojpedklnmidaaGreat.D
end
section
set_option linter.unusedVariables false
set_option linter.unusedSimpArgs false
set_option maxRecDepth 100000
set_option linter.constructorNameAsVariable false

/- As S_opH: comparing operations; which are not played; for tables. No condition. -/
namespace Go.Proofs.YtbojpedklnmidaaGreat.D
open Go Go.Proofs
open Nat (reduceAdd reduceEqDiff reduceLeDiff)
open Int (reduceLE reduceEq reduceNeg reduceToNat)
structure OkO (x : Opx) : Prop where
  d : x.deps.length ≤ maxLen
  v : x.vals.length ≤ maxLen
  s : x.dots.length ≤ maxLen
  n : inI x.dot.n
def sameD (a b : Dt) : Bool := decide (a.p = b.p ∧ a.n = b.n)
def eqV (a b : Vl) : Bool := decide (a.k = b.k) && decide (a.i = b.i) && decide (a.s.toList = b.s.toList)
def eqS3 (a b : St3) : Bool := decide (a.p = b.p) && decide (a.l = b.l) && decide (a.q = b.q)
def sameL {α : Type} (e : α → α → Bool) : List α → List α → Bool
  | [], [] => true
  | x :: a, y :: b => e x y && sameL e a b
  | _, _ => false
def eqO (a b : Opx) : Bool := sameD a.dot b.dot && decide (a.deps = b.deps) && eqS3 a.st b.st && decide (a.kind = b.kind) && decide (a.table = b.table) && decide (a.key.toList = b.key.toList) && decide (a.col = b.col) && sameL eqV a.vals b.vals && sameL sameD a.dots b.dots
theorem sameL_iff {α : Type} [Inhabited α] {e : α → α → Bool} : ∀ {a b : List α}, sameL e a b = true ↔ a.length = b.length ∧ ∀ i, i < a.length → e (gN a i) (gN b i) = true
  | [], [] => by simp [sameL]
  | [], y :: b => by simp [sameL]
  | x :: a, [] => by simp [sameL]
  | x :: a, y :: b => by
    simp only [sameL, Bool.and_eq_true, sameL_iff (a := a) (b := b), List.length_cons]
    constructor
    · rintro ⟨h1, h2, h3⟩
      refine ⟨by omega, fun i hi => ?_⟩
      cases i with
      | zero => simpa [gN] using h1
      | succ i => have := h3 i (by omega); simpa [gN] using this
    · rintro ⟨h1, h2⟩
      refine ⟨by have := h2 0 (by omega); simpa [gN] using this, by omega, fun i hi => ?_⟩
      have := h2 (i + 1) (by omega); simpa [gN] using this
theorem sameL_rfl {α : Type} {e : α → α → Bool} (he : ∀ x, e x x = true) : ∀ a : List α, sameL e a a = true
  | [] => rfl
  | x :: a => by simp [sameL, he, sameL_rfl he a]
theorem sameD_eq (x y : Dt) (h : sameD x y = true) : x = y := by
  simp [sameD] at h
  cases x; cases y; simp at h ⊢; exact h
theorem sameD_iff (x y : Dt) : sameD x y = true ↔ x = y := ⟨sameD_eq x y, fun h => by subst h; simp [sameD]⟩
theorem eqO_rfl (x : Opx) : eqO x x = true := by
  simp only [eqO, Bool.and_eq_true, decide_eq_true_eq]
  refine ⟨⟨⟨⟨⟨⟨⟨⟨?_, trivial⟩, ?_⟩, trivial⟩, trivial⟩, trivial⟩, trivial⟩, sameL_rfl (fun x => by simp [eqV]) _⟩, sameL_rfl (fun x => by simp [sameD]) _⟩
  · simp [sameD]
  · simp [eqS3]
theorem KValue_ok (a b : Vl) : FnB Tryz.prog 97 [.ag (vlV a), .ag (vlV b)] (vb (eqV a b)) := by
  refine fnB_intro cf97 (by simp) ?_
  simp +contextual (maxSteps := 1000000) only [go_sem, ints, intRows, reduceAdd, Nat.reduceBEq, reduceEqDiff, reduceLeDiff, Nat.reduceLT, reduceIte, reduceLE, Int.reduceLT, reduceEq, reduceNeg, reduceToNat, ops, vals, dots, c97, vlV]
  rfl
theorem KDot_ok (a b : Dt) : FnB Tryz.prog 58 [.ag (dotV a), .ag (dotV b)] (vb (sameD a b)) := by
  refine fnB_intro cf58 (by simp) ?_
  simp +contextual (maxSteps := 1000000) only [go_sem, ints, intRows, reduceAdd, Nat.reduceBEq, reduceEqDiff, reduceLeDiff, Nat.reduceLT, reduceIte, reduceLE, Int.reduceLT, reduceEq, reduceNeg, reduceToNat, ops, vals, dots, c58, dotV]
  simp [sameD]
theorem KStamp_ok (a b : St3) : FnB Tryz.prog 98 [.ag (stV a), .ag (stV b)] (vb (eqS3 a b)) := by
  refine fnB_intro cf98 (by simp) ?_
  simp +contextual (maxSteps := 1000000) only [go_sem, ints, intRows, reduceAdd, Nat.reduceBEq, reduceEqDiff, reduceLeDiff, Nat.reduceLT, reduceIte, reduceLE, Int.reduceLT, reduceEq, reduceNeg, reduceToNat, ops, vals, dots, c98, stV]
  rfl
theorem sameL_no {α : Type} [Inhabited α] {e : α → α → Bool} {a b : List α} (h : a.length ≠ b.length) : sameL e a b = false := by
  cases hs : sameL e a b with
  | false => rfl
  | true => exact absurd (sameL_iff.1 hs).1 h
theorem sameL_bad {α : Type} [Inhabited α] {e : α → α → Bool} {a b : List α} {i : Nat} (hi : i < a.length) (h : e (gN a i) (gN b i) = false) : sameL e a b = false := by
  cases hs : sameL e a b with
  | false => rfl
  | true => have := (sameL_iff.1 hs).2 i hi; rw [h] at this; cases this
theorem KRow_ok {fl fm : Fl} (a b : List Vl) (ha : a.length ≤ maxLen) : FnB Tryz.prog 50 [vals fl a, vals fm b] (vb (sameL eqV a b)) := by
  unfold maxLen at ha
  refine fnB_intro cf50 (by simp) ?_
  simp +contextual (maxSteps := 1000000) only [go_sem, ints, intRows, reduceAdd, Nat.reduceBEq, reduceEqDiff, reduceLeDiff, Nat.reduceLT, reduceIte, reduceLE, Int.reduceLT, reduceEq, reduceNeg, reduceToNat, ops, vals, dots, c50]
  refine ⟨fun h => ?_, fun h => ?_⟩
  · simp at h; rw [sameL_no (by omega)]
  simp at h
  have hab : a.length = b.length := by omega
  refine wpC_lp (fun env ob n => env 0 = vals fl a ∧ env 1 = vals fm b ∧ ∃ i : Nat, env 5 = vi i ∧ i ≤ a.length ∧ ∀ j, j < i → eqV (gN a j) (gN b j) = true) (fun env ob n => (a.length - iv (env 5)).toNat) ?_ ?_
  · simp +contextual (maxSteps := 1000000) only [go_sem, ints, intRows, reduceAdd, Nat.reduceBEq, reduceEqDiff, reduceLeDiff, Nat.reduceLT, reduceIte, reduceLE, Int.reduceLT, reduceEq, reduceNeg, reduceToNat, ops, vals, dots]
    exact ⟨0, rfl, by omega, fun j hj => by omega⟩
  rintro env ob n ⟨h0, h1, i, h5, hi, he⟩
  simp +contextual (maxSteps := 1000000) only [go_sem, ints, intRows, reduceAdd, Nat.reduceBEq, reduceEqDiff, reduceLeDiff, Nat.reduceLT, reduceIte, reduceLE, Int.reduceLT, reduceEq, reduceNeg, reduceToNat, ops, vals, dots, h0, h1, h5]
  refine ⟨fun hlt => ?_, fun hge => ?_⟩
  · simp at hlt
    repeat (refine And.intro (by omega) ?_)
    first | refine caS_i (KValue_ok (gN a i) (gN b i)) trivial ?_ | refine caD_i (KValue_ok (gN a i) (gN b i)) trivial ?_ | refine gC_i (fun _ => KValue_ok (gN a i) (gN b i)) trivial ?_ | refine gCD_i (fun _ => KValue_ok (gN a i) (gN b i)) trivial ?_ | refine caE_i (KValue_ok (gN a i) (gN b i)) trivial ?_
    simp +contextual (maxSteps := 1000000) only [go_sem, ints, intRows, reduceAdd, Nat.reduceBEq, reduceEqDiff, reduceLeDiff, Nat.reduceLT, reduceIte, reduceLE, Int.reduceLT, reduceEq, reduceNeg, reduceToNat, ops, vals, dots, h0, h1, h5]
    refine ⟨fun hn => ?_, fun hy => ⟨⟨i + 1, ?_, by omega, fun j hj => ?_⟩, ?_⟩⟩
    · rw [sameL_bad hlt (by simpa using hn)]
    · rw [w64 (by omega)]; simp
    · by_cases hji : j = i
      · subst hji; simpa using hy
      · exact he j (by omega)
    · rw [w64 (by omega)]; omega
  · simp at hge
    have : sameL eqV a b = true := sameL_iff.2 ⟨hab, fun j hj => he j (by omega)⟩
    rw [this]
theorem KDots_ok {fl fm : Fl} (a b : List Dt) (ha : a.length ≤ maxLen) : FnB Tryz.prog 99 [dots fl a, dots fm b] (vb (sameL sameD a b)) := by
  unfold maxLen at ha
  refine fnB_intro cf99 (by simp) ?_
  simp +contextual (maxSteps := 1000000) only [go_sem, ints, intRows, reduceAdd, Nat.reduceBEq, reduceEqDiff, reduceLeDiff, Nat.reduceLT, reduceIte, reduceLE, Int.reduceLT, reduceEq, reduceNeg, reduceToNat, ops, vals, dots, c99]
  refine ⟨fun h => ?_, fun h => ?_⟩
  · simp at h; rw [sameL_no (by omega)]
  simp at h
  have hab : a.length = b.length := by omega
  refine wpC_lp (fun env ob n => env 0 = dots fl a ∧ env 1 = dots fm b ∧ ∃ i : Nat, env 5 = vi i ∧ i ≤ a.length ∧ ∀ j, j < i → sameD (gN a j) (gN b j) = true) (fun env ob n => (a.length - iv (env 5)).toNat) ?_ ?_
  · simp +contextual (maxSteps := 1000000) only [go_sem, ints, intRows, reduceAdd, Nat.reduceBEq, reduceEqDiff, reduceLeDiff, Nat.reduceLT, reduceIte, reduceLE, Int.reduceLT, reduceEq, reduceNeg, reduceToNat, ops, vals, dots]
    exact ⟨0, rfl, by omega, fun j hj => by omega⟩
  rintro env ob n ⟨h0, h1, i, h5, hi, he⟩
  simp +contextual (maxSteps := 1000000) only [go_sem, ints, intRows, reduceAdd, Nat.reduceBEq, reduceEqDiff, reduceLeDiff, Nat.reduceLT, reduceIte, reduceLE, Int.reduceLT, reduceEq, reduceNeg, reduceToNat, ops, vals, dots, h0, h1, h5]
  refine ⟨fun hlt => ?_, fun hge => ?_⟩
  · simp at hlt
    repeat (refine And.intro (by omega) ?_)
    first | refine caS_i (KDot_ok (gN a i) (gN b i)) trivial ?_ | refine caD_i (KDot_ok (gN a i) (gN b i)) trivial ?_ | refine gC_i (fun _ => KDot_ok (gN a i) (gN b i)) trivial ?_ | refine gCD_i (fun _ => KDot_ok (gN a i) (gN b i)) trivial ?_ | refine caE_i (KDot_ok (gN a i) (gN b i)) trivial ?_
    simp +contextual (maxSteps := 1000000) only [go_sem, ints, intRows, reduceAdd, Nat.reduceBEq, reduceEqDiff, reduceLeDiff, Nat.reduceLT, reduceIte, reduceLE, Int.reduceLT, reduceEq, reduceNeg, reduceToNat, ops, vals, dots, h0, h1, h5]
    refine ⟨fun hn => ?_, fun hy => ⟨⟨i + 1, ?_, by omega, fun j hj => ?_⟩, ?_⟩⟩
    · rw [sameL_bad hlt (by simpa using hn)]
    · rw [w64 (by omega)]; simp
    · by_cases hji : j = i
      · subst hji; simpa using hy
      · exact he j (by omega)
    · rw [w64 (by omega)]; omega
  · simp at hge
    have : sameL sameD a b = true := sameL_iff.2 ⟨hab, fun j hj => he j (by omega)⟩
    rw [this]
theorem KOp_ok (a b : Opx) (ha : OkO a) : FnB Tryz.prog 51 [.ag (opV a), .ag (opV b)] (vb (eqO a b)) := by
  refine fnB_intro cf51 (by simp) ?_
  simp +contextual (maxSteps := 1000000) only [go_sem, ints, intRows, reduceAdd, Nat.reduceBEq, reduceEqDiff, reduceLeDiff, Nat.reduceLT, reduceIte, reduceLE, Int.reduceLT, reduceEq, reduceNeg, reduceToNat, ops, vals, dots, c51]
  first | refine caS_i (KDot_ok a.dot b.dot) trivial ?_ | refine caD_i (KDot_ok a.dot b.dot) trivial ?_ | refine gC_i (fun _ => KDot_ok a.dot b.dot) trivial ?_ | refine gCD_i (fun _ => KDot_ok a.dot b.dot) trivial ?_ | refine caE_i (KDot_ok a.dot b.dot) trivial ?_
  simp +contextual (maxSteps := 1000000) only [go_sem, ints, intRows, reduceAdd, Nat.reduceBEq, reduceEqDiff, reduceLeDiff, Nat.reduceLT, reduceIte, reduceLE, Int.reduceLT, reduceEq, reduceNeg, reduceToNat, ops, vals, dots]
  first | refine caS_i (Ints_ok a.deps b.deps ha.d) trivial ?_ | refine caD_i (Ints_ok a.deps b.deps ha.d) trivial ?_ | refine gC_i (fun _ => Ints_ok a.deps b.deps ha.d) trivial ?_ | refine gCD_i (fun _ => Ints_ok a.deps b.deps ha.d) trivial ?_ | refine caE_i (Ints_ok a.deps b.deps ha.d) trivial ?_
  simp +contextual (maxSteps := 1000000) only [go_sem, ints, intRows, reduceAdd, Nat.reduceBEq, reduceEqDiff, reduceLeDiff, Nat.reduceLT, reduceIte, reduceLE, Int.reduceLT, reduceEq, reduceNeg, reduceToNat, ops, vals, dots]
  first | refine caS_i (KStamp_ok a.st b.st) trivial ?_ | refine caD_i (KStamp_ok a.st b.st) trivial ?_ | refine gC_i (fun _ => KStamp_ok a.st b.st) trivial ?_ | refine gCD_i (fun _ => KStamp_ok a.st b.st) trivial ?_ | refine caE_i (KStamp_ok a.st b.st) trivial ?_
  simp +contextual (maxSteps := 1000000) only [go_sem, ints, intRows, reduceAdd, Nat.reduceBEq, reduceEqDiff, reduceLeDiff, Nat.reduceLT, reduceIte, reduceLE, Int.reduceLT, reduceEq, reduceNeg, reduceToNat, ops, vals, dots]
  first | refine caS_i (KRow_ok a.vals b.vals ha.v) trivial ?_ | refine caD_i (KRow_ok a.vals b.vals ha.v) trivial ?_ | refine gC_i (fun _ => KRow_ok a.vals b.vals ha.v) trivial ?_ | refine gCD_i (fun _ => KRow_ok a.vals b.vals ha.v) trivial ?_ | refine caE_i (KRow_ok a.vals b.vals ha.v) trivial ?_
  simp +contextual (maxSteps := 1000000) only [go_sem, ints, intRows, reduceAdd, Nat.reduceBEq, reduceEqDiff, reduceLeDiff, Nat.reduceLT, reduceIte, reduceLE, Int.reduceLT, reduceEq, reduceNeg, reduceToNat, ops, vals, dots]
  first | refine caS_i (KDots_ok a.dots b.dots ha.s) trivial ?_ | refine caD_i (KDots_ok a.dots b.dots ha.s) trivial ?_ | refine gC_i (fun _ => KDots_ok a.dots b.dots ha.s) trivial ?_ | refine gCD_i (fun _ => KDots_ok a.dots b.dots ha.s) trivial ?_ | refine caE_i (KDots_ok a.dots b.dots ha.s) trivial ?_
  simp +contextual (maxSteps := 1000000) only [go_sem, ints, intRows, reduceAdd, Nat.reduceBEq, reduceEqDiff, reduceLeDiff, Nat.reduceLT, reduceIte, reduceLE, Int.reduceLT, reduceEq, reduceNeg, reduceToNat, ops, vals, dots]
  rfl
theorem KOps_ok {fl fm : Fl} (a b : List Opx) (ha : a.length ≤ maxLen) (hok : ∀ x ∈ a, OkO x) : FnB Tryz.prog 19 [ops fl a, ops fm b] (vb (sameL eqO a b)) := by
  unfold maxLen at ha
  refine fnB_intro cf19 (by simp) ?_
  simp +contextual (maxSteps := 1000000) only [go_sem, ints, intRows, reduceAdd, Nat.reduceBEq, reduceEqDiff, reduceLeDiff, Nat.reduceLT, reduceIte, reduceLE, Int.reduceLT, reduceEq, reduceNeg, reduceToNat, ops, vals, dots, c19]
  refine ⟨fun h => ?_, fun h => ?_⟩
  · simp at h; rw [sameL_no (by omega)]
  simp at h
  have hab : a.length = b.length := by omega
  refine wpC_lp (fun env ob n => env 0 = ops fl a ∧ env 1 = ops fm b ∧ ∃ i : Nat, env 5 = vi i ∧ i ≤ a.length ∧ ∀ j, j < i → eqO (gN a j) (gN b j) = true) (fun env ob n => (a.length - iv (env 5)).toNat) ?_ ?_
  · simp +contextual (maxSteps := 1000000) only [go_sem, ints, intRows, reduceAdd, Nat.reduceBEq, reduceEqDiff, reduceLeDiff, Nat.reduceLT, reduceIte, reduceLE, Int.reduceLT, reduceEq, reduceNeg, reduceToNat, ops, vals, dots]
    exact ⟨0, rfl, by omega, fun j hj => by omega⟩
  rintro env ob n ⟨h0, h1, i, h5, hi, he⟩
  simp +contextual (maxSteps := 1000000) only [go_sem, ints, intRows, reduceAdd, Nat.reduceBEq, reduceEqDiff, reduceLeDiff, Nat.reduceLT, reduceIte, reduceLE, Int.reduceLT, reduceEq, reduceNeg, reduceToNat, ops, vals, dots, h0, h1, h5]
  refine ⟨fun hlt => ?_, fun hge => ?_⟩
  · simp at hlt
    repeat (refine And.intro (by omega) ?_)
    first | refine caS_i (KOp_ok (gN a i) (gN b i) (hok _ (gN_mem hlt))) trivial ?_ | refine caD_i (KOp_ok (gN a i) (gN b i) (hok _ (gN_mem hlt))) trivial ?_ | refine gC_i (fun _ => KOp_ok (gN a i) (gN b i) (hok _ (gN_mem hlt))) trivial ?_ | refine gCD_i (fun _ => KOp_ok (gN a i) (gN b i) (hok _ (gN_mem hlt))) trivial ?_ | refine caE_i (KOp_ok (gN a i) (gN b i) (hok _ (gN_mem hlt))) trivial ?_
    simp +contextual (maxSteps := 1000000) only [go_sem, ints, intRows, reduceAdd, Nat.reduceBEq, reduceEqDiff, reduceLeDiff, Nat.reduceLT, reduceIte, reduceLE, Int.reduceLT, reduceEq, reduceNeg, reduceToNat, ops, vals, dots, h0, h1, h5]
    refine ⟨fun hn => ?_, fun hy => ⟨⟨i + 1, ?_, by omega, fun j hj => ?_⟩, ?_⟩⟩
    · rw [sameL_bad hlt (by simpa using hn)]
    · rw [w64 (by omega)]; simp
    · by_cases hji : j = i
      · subst hji; simpa using hy
      · exact he j (by omega)
    · rw [w64 (by omega)]; omega
  · simp at hge
    have : sameL eqO a b = true := sameL_iff.2 ⟨hab, fun j hj => he j (by omega)⟩
    rw [this]
def longV (l : List Vl) : Bool := l.any fun v => decide (300 < v.s.size)
theorem any_no {α : Type} [Inhabited α] {p : α → Bool} {l : List α} (h : ∀ j, j < l.length → p (gN l j) = false) : l.any p = false := by
  cases ha : l.any p with
  | false => rfl
  | true =>
    obtain ⟨x, hx, hp⟩ := List.any_eq_true.1 ha
    obtain ⟨j, hj, rfl⟩ := List.mem_iff_getElem.1 hx
    have := h j hj
    rw [gN_eq hj, hp] at this; cases this
theorem Long_ok {fl : Fl} (l : List Vl) (hl : l.length ≤ maxLen) : FnB Tryz.prog 65 [vals fl l] (vb (longV l)) := by
  unfold maxLen at hl
  refine fnB_intro cf65 (by simp) ?_
  simp +contextual (maxSteps := 1000000) only [go_sem, ints, intRows, reduceAdd, Nat.reduceBEq, reduceEqDiff, reduceLeDiff, Nat.reduceLT, reduceIte, reduceLE, Int.reduceLT, reduceEq, reduceNeg, reduceToNat, ops, vals, dots, c65]
  refine wpC_lp (fun env ob n => env 0 = vals fl l ∧ ∃ i : Nat, env 3 = vi i ∧ i ≤ l.length ∧ ∀ j, j < i → decide (300 < (gN l j).s.size) = false) (fun env ob n => (l.length - iv (env 3)).toNat) ?_ ?_
  · simp +contextual (maxSteps := 1000000) only [go_sem, ints, intRows, reduceAdd, Nat.reduceBEq, reduceEqDiff, reduceLeDiff, Nat.reduceLT, reduceIte, reduceLE, Int.reduceLT, reduceEq, reduceNeg, reduceToNat, ops, vals, dots]
    exact ⟨0, rfl, by omega, fun j hj => by omega⟩
  rintro env ob n ⟨h0, i, h3, hi, he⟩
  simp +contextual (maxSteps := 1000000) only [go_sem, ints, intRows, reduceAdd, Nat.reduceBEq, reduceEqDiff, reduceLeDiff, Nat.reduceLT, reduceIte, reduceLE, Int.reduceLT, reduceEq, reduceNeg, reduceToNat, ops, vals, dots, h0, h3]
  refine ⟨fun hlt => ?_, fun hge => ?_⟩
  · simp at hlt
    repeat (refine And.intro (by omega) ?_)
    refine ⟨fun hb => ?_, fun hg => ⟨⟨i + 1, ?_, by omega, fun j hj => ?_⟩, ?_⟩⟩
    · have : longV l = true := List.any_eq_true.2 ⟨_, gN_mem hlt, by simp at hb ⊢; omega⟩
      rw [this]
    · rw [w64 (by omega)]; simp
    · by_cases hji : j = i
      · subst hji; simp at hg ⊢; omega
      · exact he j (by omega)
    · rw [w64 (by omega)]; omega
  · simp at hge
    have : longV l = false := any_no fun j hj => he j (by omega)
    rw [this]
def heavyR (l : List Vl) : Bool := decide (40 < l.length) || longV l
theorem HeavyR_ok {fl : Fl} (l : List Vl) : FnB Tryz.prog 30 [vals fl l] (vb (heavyR l)) := by
  refine fnB_intro cf30 (by simp) ?_
  simp +contextual (maxSteps := 1000000) only [go_sem, ints, intRows, reduceAdd, Nat.reduceBEq, reduceEqDiff, reduceLeDiff, Nat.reduceLT, reduceIte, reduceLE, Int.reduceLT, reduceEq, reduceNeg, reduceToNat, ops, vals, dots, c30]
  refine gC_i (fun hb => Long_ok l (by simp at hb; unfold maxLen; omega)) trivial ?_
  simp +contextual (maxSteps := 1000000) only [go_sem, ints, intRows, reduceAdd, Nat.reduceBEq, reduceEqDiff, reduceLeDiff, Nat.reduceLT, reduceIte, reduceLE, Int.reduceLT, reduceEq, reduceNeg, reduceToNat, ops, vals, dots]
  have : (40 < (l.length : Int)) ↔ (40 < l.length) := by omega
  simp [heavyR, this]
def heavyO (x : Opx) : Bool := decide (30 < x.deps.length) || decide (100 < x.key.size) || heavyR x.vals || decide (100 < x.dots.length)
def heavyOs (l : List Opx) : Bool := decide (300 < l.length) || l.any heavyO
theorem HeavyOs_ok {fl : Fl} (l : List Opx) : FnB Tryz.prog 6 [ops fl l] (vb (heavyOs l)) := by
  refine fnB_intro cf6 (by simp) ?_
  simp +contextual (maxSteps := 1000000) only [go_sem, ints, intRows, reduceAdd, Nat.reduceBEq, reduceEqDiff, reduceLeDiff, Nat.reduceLT, reduceIte, reduceLE, Int.reduceLT, reduceEq, reduceNeg, reduceToNat, ops, vals, dots, c6]
  refine ⟨fun hb => ?_, fun hl => ?_⟩
  · simp at hb
    have : heavyOs l = true := by simp [heavyOs]; left; omega
    rw [this]
  simp at hl
  refine wpC_lp (fun env ob n => env 0 = ops fl l ∧ ∃ i : Nat, env 3 = vi i ∧ i ≤ l.length ∧ ∀ j, j < i → heavyO (gN l j) = false) (fun env ob n => (l.length - iv (env 3)).toNat) ?_ ?_
  · simp +contextual (maxSteps := 1000000) only [go_sem, ints, intRows, reduceAdd, Nat.reduceBEq, reduceEqDiff, reduceLeDiff, Nat.reduceLT, reduceIte, reduceLE, Int.reduceLT, reduceEq, reduceNeg, reduceToNat, ops, vals, dots]
    exact ⟨0, rfl, by omega, fun j hj => by omega⟩
  rintro env ob n ⟨h0, i, h3, hi, he⟩
  simp +contextual (maxSteps := 1000000) only [go_sem, ints, intRows, reduceAdd, Nat.reduceBEq, reduceEqDiff, reduceLeDiff, Nat.reduceLT, reduceIte, reduceLE, Int.reduceLT, reduceEq, reduceNeg, reduceToNat, ops, vals, dots, h0, h3]
  refine ⟨fun hlt => ?_, fun hge => ?_⟩
  · simp at hlt
    refine ⟨by omega, fun _ => by omega, fun _ => by omega, ?_⟩
    first | refine caS_i (HeavyR_ok (gN l i).vals) trivial ?_ | refine caD_i (HeavyR_ok (gN l i).vals) trivial ?_ | refine gC_i (fun _ => HeavyR_ok (gN l i).vals) trivial ?_ | refine gCD_i (fun _ => HeavyR_ok (gN l i).vals) trivial ?_ | refine caE_i (HeavyR_ok (gN l i).vals) trivial ?_
    simp +contextual (maxSteps := 1000000) only [go_sem, ints, intRows, reduceAdd, Nat.reduceBEq, reduceEqDiff, reduceLeDiff, Nat.reduceLT, reduceIte, reduceLE, Int.reduceLT, reduceEq, reduceNeg, reduceToNat, ops, vals, dots, h0, h3]
    have e : (decide (30 < ((gN l i).deps.length : Int)) || decide (100 < ((gN l i).key.size : Int)) || heavyR (gN l i).vals || decide (100 < ((gN l i).dots.length : Int))) = heavyO (gN l i) := by
      have a1 : (30 < ((gN l i).deps.length : Int)) ↔ 30 < (gN l i).deps.length := by omega
      have a2 : (100 < ((gN l i).key.size : Int)) ↔ 100 < (gN l i).key.size := by omega
      have a3 : (100 < ((gN l i).dots.length : Int)) ↔ 100 < (gN l i).dots.length := by omega
      simp [heavyO, a1, a2, a3]
    rw [e]
    refine ⟨fun _ => by omega, fun hb => ?_, fun hg => ⟨⟨i + 1, ?_, by omega, fun j hj => ?_⟩, ?_⟩⟩
    · have : heavyOs l = true := by
        rw [heavyOs, List.any_eq_true.2 ⟨_, gN_mem hlt, hb⟩]; simp
      rw [this]
    · rw [w64 (by omega)]; simp
    · by_cases hji : j = i
      · subst hji; exact hg
      · exact he j (by omega)
    · rw [w64 (by omega)]; omega
  · simp at hge
    have : heavyOs l = false := by
      rw [heavyOs, any_no fun j hj => he j (by omega)]
      simp; omega
    rw [this]
theorem heavyO_ok {x : Opx} (h : heavyO x = false) (hn : inI x.dot.n) : OkO x := by
  simp [heavyO, heavyR] at h
  exact ⟨by unfold maxLen; omega, by unfold maxLen; omega, by unfold maxLen; omega, hn⟩
theorem heavyOs_ok {l : List Opx} (h : heavyOs l = false) (hn : ∀ x ∈ l, inI x.dot.n) : ∀ x ∈ l, OkO x := fun x hx => by
  simp only [heavyOs, Bool.or_eq_false_iff] at h
  have := List.any_eq_false.1 h.2 x hx
  exact heavyO_ok (by simpa using this) (hn x hx)
theorem inRef_ok (n a b : Int) : FnB Tryz.prog 31 [vi n, vi a, vi b] (vb (decide (a ≤ n ∧ n ≤ b))) := by
  refine fnB_intro cf31 (by simp) ?_
  simp +contextual (maxSteps := 1000000) only [go_sem, ints, intRows, reduceAdd, Nat.reduceBEq, reduceEqDiff, reduceLeDiff, Nat.reduceLT, reduceIte, reduceLE, Int.reduceLT, reduceEq, reduceNeg, reduceToNat, ops, vals, dots, c31]
  rw [← Bool.decide_and]
theorem TypeR_ok (n : Int) : FnB Tryz.prog 32 [vi n] (vb (decide (2 ≤ n ∧ n ≤ 4))) := by
  refine fnB_intro cf32 (by simp) ?_
  simp +contextual (maxSteps := 1000000) only [go_sem, ints, intRows, reduceAdd, Nat.reduceBEq, reduceEqDiff, reduceLeDiff, Nat.reduceLT, reduceIte, reduceLE, Int.reduceLT, reduceEq, reduceNeg, reduceToNat, ops, vals, dots, c32]
  first | refine caS_i (inRef_ok n 2 4) trivial ?_ | refine caD_i (inRef_ok n 2 4) trivial ?_ | refine gC_i (fun _ => inRef_ok n 2 4) trivial ?_ | refine gCD_i (fun _ => inRef_ok n 2 4) trivial ?_ | refine caE_i (inRef_ok n 2 4) trivial ?_
  simp +contextual (maxSteps := 1000000) only [go_sem, ints, intRows, reduceAdd, Nat.reduceBEq, reduceEqDiff, reduceLeDiff, Nat.reduceLT, reduceIte, reduceLE, Int.reduceLT, reduceEq, reduceNeg, reduceToNat, ops, vals, dots]
theorem sign_ok (b : Bool) : FnB Tryz.prog 34 [vb b] (vi (if b then -1 else 1)) := by
  refine fnB_intro cf34 (by simp) ?_
  cases b <;> simp +contextual (maxSteps := 1000000) only [go_sem, ints, intRows, reduceAdd, Nat.reduceBEq, reduceEqDiff, reduceLeDiff, Nat.reduceLT, reduceIte, reduceLE, Int.reduceLT, reduceEq, reduceNeg, reduceToNat, ops, vals, dots, c34] <;> simp
theorem cmpI_ne {a b : Int} (h : ¬ a = b) : cmpI a b = if a < b then -1 else 1 := by
  unfold cmpI; split
  · rfl
  · rw [if_pos (by omega)]
theorem cmpI_eq {a b : Int} (h : a = b) : cmpI a b = 0 := by
  unfold cmpI; rw [if_neg (by omega), if_neg (by omega)]
theorem orV_ne {x : Int} {l : List Int} (h : x ≠ 0) : orV (x :: l) = x := by unfold orV; rw [if_pos h]
theorem orV_0 {l : List Int} : orV (0 :: l) = orV l := rfl
theorem cmpI_n0 {a b : Int} (h : ¬ a = b) : cmpI a b ≠ 0 := by rw [cmpI_ne h]; split <;> omega
theorem CompareStamps_ok (a b : St3) : FnB Tryz.prog 11 [.ag (stV a), .ag (stV b)] (vi (cmpT a b)) := by
  refine fnB_intro cf11 (by simp) ?_
  simp +contextual (maxSteps := 1000000) only [go_sem, ints, intRows, reduceAdd, Nat.reduceBEq, reduceEqDiff, reduceLeDiff, Nat.reduceLT, reduceIte, reduceLE, Int.reduceLT, reduceEq, reduceNeg, reduceToNat, ops, vals, dots, c11, stV]
  refine ⟨fun h => ?_, fun h => ⟨fun h2 => ?_, fun h2 => ⟨fun h3 => ?_, fun h3 => ?_⟩⟩⟩
  · simp at h
    first | refine caS_i (sign_ok (decide (a.p < b.p))) trivial ?_ | refine caD_i (sign_ok (decide (a.p < b.p))) trivial ?_ | refine gC_i (fun _ => sign_ok (decide (a.p < b.p))) trivial ?_ | refine gCD_i (fun _ => sign_ok (decide (a.p < b.p))) trivial ?_ | refine caE_i (sign_ok (decide (a.p < b.p))) trivial ?_
    simp +contextual (maxSteps := 1000000) only [go_sem, ints, intRows, reduceAdd, Nat.reduceBEq, reduceEqDiff, reduceLeDiff, Nat.reduceLT, reduceIte, reduceLE, Int.reduceLT, reduceEq, reduceNeg, reduceToNat, ops, vals, dots]
    unfold cmpT; rw [orV_ne (cmpI_n0 h), cmpI_ne h]; by_cases hh : a.p < b.p <;> simp [hh]
  · simp at h h2
    first | refine caS_i (sign_ok (decide (a.l < b.l))) trivial ?_ | refine caD_i (sign_ok (decide (a.l < b.l))) trivial ?_ | refine gC_i (fun _ => sign_ok (decide (a.l < b.l))) trivial ?_ | refine gCD_i (fun _ => sign_ok (decide (a.l < b.l))) trivial ?_ | refine caE_i (sign_ok (decide (a.l < b.l))) trivial ?_
    simp +contextual (maxSteps := 1000000) only [go_sem, ints, intRows, reduceAdd, Nat.reduceBEq, reduceEqDiff, reduceLeDiff, Nat.reduceLT, reduceIte, reduceLE, Int.reduceLT, reduceEq, reduceNeg, reduceToNat, ops, vals, dots]
    unfold cmpT; rw [cmpI_eq h, orV_0, orV_ne (cmpI_n0 h2), cmpI_ne h2]; by_cases hh : a.l < b.l <;> simp [hh]
  · simp at h h2 h3
    first | refine caS_i (sign_ok (decide (a.q < b.q))) trivial ?_ | refine caD_i (sign_ok (decide (a.q < b.q))) trivial ?_ | refine gC_i (fun _ => sign_ok (decide (a.q < b.q))) trivial ?_ | refine gCD_i (fun _ => sign_ok (decide (a.q < b.q))) trivial ?_ | refine caE_i (sign_ok (decide (a.q < b.q))) trivial ?_
    simp +contextual (maxSteps := 1000000) only [go_sem, ints, intRows, reduceAdd, Nat.reduceBEq, reduceEqDiff, reduceLeDiff, Nat.reduceLT, reduceIte, reduceLE, Int.reduceLT, reduceEq, reduceNeg, reduceToNat, ops, vals, dots]
    unfold cmpT; rw [cmpI_eq h, orV_0, cmpI_eq h2, orV_0, orV_ne (cmpI_n0 h3), cmpI_ne h3]; by_cases hh : a.q < b.q <;> simp [hh]
  · simp at h h2 h3
    unfold cmpT; rw [cmpI_eq h, cmpI_eq h2, cmpI_eq h3]; rfl
end Go.Proofs.YtbojpedklnmidaaGreat.D
end
section
set_option linter.unusedVariables false
set_option linter.unusedSimpArgs false
set_option linter.constructorNameAsVariable false

/- What shares the store, told as an answer. No condition. -/
namespace Go.Proofs.YtbojpedklnmidaaGreat.D
open Go Go.Proofs Go.RowKit
theorem unpackR_rv {w : World} {ok : Fl → Nat → Prop} {loc : Loc} {vs : List V} {x : Value} (h : RV w ok loc (packV vs) x) : ∃ xs, x = packR xs ∧ RVs w ok loc vs xs := by
  match vs with
  | [] =>
    cases h with
    | tp l xs hn h => exact ⟨[], by have : xs = [] := List.eq_nil_of_length_eq_zero hn; subst this; rfl, rfl, fun i v x h => by simp at h⟩
  | [v] => exact ⟨[x], rfl, rfl, fun i v' x' h1 h2 => by
      cases i with
      | zero => simp at h1 h2; subst h1; subst h2; exact h
      | succ i => simp at h1⟩
  | a :: b :: l =>
    cases h with
    | tp l xs hn h =>
      refine ⟨xs, ?_, hn, h⟩
      match xs, hn with
      | _ :: _ :: _, _ => rfl
theorem fnB_of_S {P : Program} {f : FuncId} {args : List V} {r : V} (h : FnS P f args noOb 0 fun v ob _ => ∃ vs, v = packV vs ∧ retV (outL ob vs) = r) : FnB P f args r := by
  refine ⟨h.1, fun B w xs hxs => ?_⟩
  refine (h.2 B w.heap.size w (fun _ => none) (fun _ => none) xs ⟨fun id o h => (by cases h), fun id p h => (by cases h), fun b id h => (by cases h)⟩ (Nat.le_refl _) (fun _ _ => rfl) hxs).mono fun e w' q => ?_
  obtain ⟨x, r', ob', nid', own', loc', rfl, hrv, hwf, hstp, hfr, vs, rfl, hr⟩ := q
  obtain ⟨xs, rfl, hvs⟩ := unpackR_rv hrv
  refine ⟨_, rfl, ?_, ⟨hstp.os, hstp.tape, hstp.output, hstp.size, fun b hb => (hstp.block b hb rfl).2⟩⟩
  have hnew : ∀ b id, own' b = some id → w.heap.size ≤ b := fun b id hb => by
    rcases Nat.lt_or_ge b w.heap.size with h | h
    · rw [(hstp.block b h rfl).1] at hb; cases hb
    · exact h
  have hres := out_res hwf hnew (hfr nid' (Nat.le_refl _)) _ _ hvs
  rw [← hr]
  clear hvs hrv hr
  generalize outL ob' vs = l at hres
  have hlen := hres.choose_spec.1
  match l, xs, hlen with
  | [], [], _ => exact ⟨[], rfl, hres⟩
  | [v], [x], _ =>
    cases v <;> first | exact hres | exact ⟨none, rfl, fun i r x hr hx => (by
      cases i with
      | zero => simp at hr; subst hr; exact res1_g .u (.u _)
      | succ i => simp at hr), fun i j r s hr hs hor => (by
      cases i with
      | zero => simp at hr; subst hr; cases hor
      | succ i => simp at hr)⟩
  | a :: b :: l, x :: y :: xs, _ =>
    have e : retV (a :: b :: l) = .tp (a :: b :: l) := by cases a <;> rfl
    rw [e]; exact ⟨_, rfl, hres⟩
end Go.Proofs.YtbojpedklnmidaaGreat.D
end
section
set_option linter.unusedVariables false
set_option linter.unusedSimpArgs false
set_option linter.constructorNameAsVariable false
set_option maxRecDepth 100000

/- What a vector has of operations; the greatest numbers of dots. No condition. -/
namespace Go.Proofs.YtbojpedklnmidaaGreat.D
open Go Go.Proofs
open Nat (reduceAdd reduceEqDiff reduceLeDiff)
open Int (reduceLE reduceEq reduceNeg reduceToNat)
@[go_sem] theorem op_bsl_op (z : List V) (x : Opx) (ob : OB) (i : Nat) (hz : (z.length == 12) = true) : opF (.bsl 12 z [0] 1 true) [.ag (opV x)] ob i = some (.im .b [opV x], []) := op_bsl_r ob i (by simpa using hz) (opV_row x)
def ofT (l : List Opx) (v : List Int) : List Opx := l.filter fun x => hasB v x.dot
theorem filter_take {p : Opx → Bool} {l : List Opx} {i : Nat} (h : i < l.length) : (l.take (i + 1)).filter p = (l.take i).filter p ++ if p (gN l i) then [gN l i] else [] := by
  rw [take_gN h, List.filter_append]
  cases hp : p (gN l i) <;> simp [hp]
theorem filter_len {p : Opx → Bool} {l : List Opx} : (l.filter p).length ≤ l.length := List.length_filter_le _ _
theorem own_frP {n n' k : Nat} {ob ob' : OB} {v : V} {rows : List (List V)} (h : Own n ob v k rows) (hn : n ≤ n') (hf : ∀ id, id < n → v = .sl id 0 rows.length → ob' id = ob id) : Own n' ob' v k rows :=
  h.imp id fun ⟨h1, i, c, h2, h3, h4⟩ => ⟨h1, i, c, by omega, h3, (hf i h2 h3).trans h4⟩
theorem app_anyP {ob : OB} {n nid k : Nat} {v x : V} {rows xs : List (List V)} (h : Own n ob v k rows) (hn : n ≤ nid) (hx : rowsOf ob x = some xs) (hk : xs.all (okRow k) = true) (hlen : rows.length + xs.length ≤ maxLen) :
    ∃ v' us, opF (.app k) [v, x] ob nid = some (v', us) ∧ Own (nid + 1) (apps ob us) v' k (rows ++ xs) ∧ (∀ id, id ≠ nid → (∀ len, v ≠ .sl id 0 len) → apps ob us id = ob id) ∧ (v' = v ∨ ∃ len, v' = .sl nid 0 len) ∧ cellsV v' = [v'] ∧ leaf v' = true := by
  by_cases h0 : xs = []
  · subst h0
    rcases h with ⟨rfl, rfl⟩ | ⟨h1, id, cap, h2, rfl, h4⟩
    · exact ⟨.z, [], by simp [opF, hx], .inl ⟨rfl, rfl⟩, fun _ _ _ => rfl, .inl rfl, rfl, rfl⟩
    · refine ⟨.sl id 0 rows.length, [(id, some ⟨k, rows, cap⟩)], ?_, ?_, fun j hj hs => ?_, .inl rfl, rfl, rfl⟩
      · simp only [opF, hx, Option.bind_some, h4]
        simp at hlen
        simp [hlen, over]
      · refine .inr ⟨by simpa using h1, id, cap, by omega, by simp, ?_⟩
        simp [apps]
      · have : j ≠ id := fun e => hs rows.length (by rw [e])
        simp [apps, this]
  · have h1 : (rows = [] ∧ v = .z) ∨ (∃ id cap, v = .sl id 0 rows.length ∧ ob id = some ⟨k, rows, cap⟩) := h.imp id fun ⟨_, i, c, _, h3, h4⟩ => ⟨i, c, h3, h4⟩
    obtain ⟨us, u1, u2, u3⟩ := app_new (nid := nid) h1 h0 hx hk hlen
    exact ⟨_, us, u1, .inr ⟨by simp [h0], nid, none, by omega, by simp, u2⟩, u3, .inr ⟨_, rfl⟩, rfl, rfl⟩
theorem nxS_anyP {P : Program} {n k nid : Nat} {env : Env} {ob : OB} {J : Env → OB → Nat → Prop} {l : List RO} {d : Option Nat} {v x : V} {rows xs : List (List V)} (h : Own n ob v k rows) (hn : n ≤ nid) (hx : rowsOf ob x = some xs) (hk : xs.all (okRow k) = true) (hlen : rows.length + xs.length ≤ maxLen)
    (hK : ∀ v' ob', Own (nid + 1) ob' v' k (rows ++ xs) → (∀ id, id ≠ nid → (∀ len, v ≠ .sl id 0 len) → ob' id = ob id) → (v' = v ∨ ∃ len, v' = .sl nid 0 len) → wpS P l (nid + 1) (put env d v') ob' J) : nxS P d l nid env ob J (opF (.app k) [v, x] ob nid) := by
  obtain ⟨v', us, u1, u2, u3, u4, _⟩ := app_anyP (nid := nid) h hn hx hk hlen
  rw [u1, nxS_s]; exact hK _ _ u2 u3 u4
def rowZP (y : Opx) (dv vv tv : V) : List V := [vi y.dot.p, vi y.dot.n, dv, vi y.st.p, vi y.st.l, vi y.st.q, vi y.kind, vi y.table, .c (.string y.key), vi y.col, vv, tv]
theorem own_updkP {n n' k k' j : Nat} {ob : OB} {v : V} {rows r : List (List V)} {c : Option Nat} {o : Option Ob} (h : Own n ob v k rows) (hn : n ≤ n') (h0 : ob j = some ⟨k', r, c⟩) (hk : k ≠ k') : Own n' (updO ob j o) v k rows := by
  rcases h with h | ⟨h1, id, c2, h2, h3, h4⟩
  · exact .inl h
  · refine .inr ⟨h1, id, c2, by omega, h3, ?_⟩
    rw [updO, if_neg, h4]
    rintro rfl
    rw [h0] at h4
    simp at h4; exact hk h4.1.symm
set_option maxHeartbeats 2000000 in
theorem TwinS_okP {x : Opx} {nid : Nat} {ob : OB} {C : V → OB → Nat → Prop} (h1 : x.deps.length ≤ maxLen) (h2 : x.vals.length ≤ maxLen) (h3 : x.dots.length ≤ maxLen)
    (hC : ∀ dv vv tv ob' n', nid ≤ n' → Own n' ob' dv 1 (x.deps.map fun n => [vi n]) → Own n' ob' vv 3 (x.vals.map vlV) → Own n' ob' tv 2 (x.dots.map dotV) → (∀ j, j < nid → ob' j = ob j) → C (.ag (rowZP x dv vv tv)) ob' n') :
    FnS Tryz.prog 53 [.ag (opV x)] ob nid C := by
  refine fnS_intro cf53 (by simp) ?_
  have nid13 : ∀ k, (nid == nid + (k + 1)) = false := fun k => by simp
  have nid14 : ∀ k, (nid + (k + 1) == nid) = false := fun k => by simp
  simp +contextual (maxSteps := 1000000) only [go_sem, ints, intRows, reduceAdd, Nat.reduceBEq, reduceEqDiff, reduceLeDiff, Nat.reduceLT, reduceIte, reduceLE, Int.reduceLT, reduceEq, reduceNeg, reduceToNat, ops, vals, dots, c53, nid13, nid14, Nat.add_assoc, beq_add, Nat.zero_add, Nat.add_zero]
  first | refine caS_i (CloneInts_ok x.deps h1 .b) (fun ch hch => by obtain ⟨_, _, rfl⟩ := List.mem_map.1 hch; rfl) ?_ | refine caD_i (CloneInts_ok x.deps h1 .b) (fun ch hch => by obtain ⟨_, _, rfl⟩ := List.mem_map.1 hch; rfl) ?_ | refine gC_i (fun _ => CloneInts_ok x.deps h1 .b) (fun ch hch => by obtain ⟨_, _, rfl⟩ := List.mem_map.1 hch; rfl) ?_ | refine gCD_i (fun _ => CloneInts_ok x.deps h1 .b) (fun ch hch => by obtain ⟨_, _, rfl⟩ := List.mem_map.1 hch; rfl) ?_ | refine caE_i (CloneInts_ok x.deps h1 .b) (fun ch hch => by obtain ⟨_, _, rfl⟩ := List.mem_map.1 hch; rfl) ?_
  unfold ints
  refine nxD_own fun dv us1 hv1 => ?_
  simp +contextual (maxSteps := 1000000) only [go_sem, ints, intRows, reduceAdd, Nat.reduceBEq, reduceEqDiff, reduceLeDiff, Nat.reduceLT, reduceIte, reduceLE, Int.reduceLT, reduceEq, reduceNeg, reduceToNat, ops, vals, dots, nid13, nid14, Nat.add_assoc, beq_add, Nat.zero_add, Nat.add_zero]
  first | refine caS_i (CloneVals_ok x.vals h2 .b) (fun ch hch => by obtain ⟨_, _, rfl⟩ := List.mem_map.1 hch; rfl) ?_ | refine caD_i (CloneVals_ok x.vals h2 .b) (fun ch hch => by obtain ⟨_, _, rfl⟩ := List.mem_map.1 hch; rfl) ?_ | refine gC_i (fun _ => CloneVals_ok x.vals h2 .b) (fun ch hch => by obtain ⟨_, _, rfl⟩ := List.mem_map.1 hch; rfl) ?_ | refine gCD_i (fun _ => CloneVals_ok x.vals h2 .b) (fun ch hch => by obtain ⟨_, _, rfl⟩ := List.mem_map.1 hch; rfl) ?_ | refine caE_i (CloneVals_ok x.vals h2 .b) (fun ch hch => by obtain ⟨_, _, rfl⟩ := List.mem_map.1 hch; rfl) ?_
  unfold vals
  refine nxD_own fun vv us2 hv2 => ?_
  simp +contextual (maxSteps := 1000000) only [go_sem, ints, intRows, reduceAdd, Nat.reduceBEq, reduceEqDiff, reduceLeDiff, Nat.reduceLT, reduceIte, reduceLE, Int.reduceLT, reduceEq, reduceNeg, reduceToNat, ops, vals, dots, nid13, nid14, Nat.add_assoc, beq_add, Nat.zero_add, Nat.add_zero]
  first | refine caS_i (CloneDots_ok x.dots h3 .b) (fun ch hch => by obtain ⟨_, _, rfl⟩ := List.mem_map.1 hch; rfl) ?_ | refine caD_i (CloneDots_ok x.dots h3 .b) (fun ch hch => by obtain ⟨_, _, rfl⟩ := List.mem_map.1 hch; rfl) ?_ | refine gC_i (fun _ => CloneDots_ok x.dots h3 .b) (fun ch hch => by obtain ⟨_, _, rfl⟩ := List.mem_map.1 hch; rfl) ?_ | refine gCD_i (fun _ => CloneDots_ok x.dots h3 .b) (fun ch hch => by obtain ⟨_, _, rfl⟩ := List.mem_map.1 hch; rfl) ?_ | refine caE_i (CloneDots_ok x.dots h3 .b) (fun ch hch => by obtain ⟨_, _, rfl⟩ := List.mem_map.1 hch; rfl) ?_
  unfold dots
  refine nxD_own fun tv us3 hv3 => ?_
  have l1 : leaf dv = true := by rcases hv1 with ⟨_, rfl, _⟩ | ⟨_, rfl, _⟩ <;> rfl
  have l2 : leaf vv = true := by rcases hv2 with ⟨_, rfl, _⟩ | ⟨_, rfl, _⟩ <;> rfl
  have l3 : leaf tv = true := by rcases hv3 with ⟨_, rfl, _⟩ | ⟨_, rfl, _⟩ <;> rfl
  have c1 : cellsV dv = [dv] := by rcases hv1 with ⟨_, rfl, _⟩ | ⟨_, rfl, _⟩ <;> rfl
  have c2 : cellsV vv = [vv] := by rcases hv2 with ⟨_, rfl, _⟩ | ⟨_, rfl, _⟩ <;> rfl
  have c3 : cellsV tv = [tv] := by rcases hv3 with ⟨_, rfl, _⟩ | ⟨_, rfl, _⟩ <;> rfl
  simp +contextual (maxSteps := 1000000) only [go_sem, ints, intRows, reduceAdd, Nat.reduceBEq, reduceEqDiff, reduceLeDiff, Nat.reduceLT, reduceIte, reduceLE, Int.reduceLT, reduceEq, reduceNeg, reduceToNat, ops, vals, dots, nid13, nid14, l1, l2, l3, c1, c2, c3, List.cons_append, List.nil_append, Nat.add_assoc, beq_add, Nat.zero_add, Nat.add_zero]
  generalize hob : apps _ (us1 ++ us2 ++ us3) = ob9
  have n1 : ∀ {k m : Nat}, k ≠ m → (nid + k = nid + m) = False := fun h => eq_false (by omega)
  have n2 : ∀ {k : Nat}, k ≠ 0 → (nid + k = nid) = False := fun h => eq_false (by omega)
  have n3 : ∀ {k : Nat}, k ≠ 0 → (nid = nid + k) = False := fun h => eq_false (by omega)
  have F : ob9 nid = some ⟨12, [rowZP x dv vv tv], none⟩ ∧ ob9 (nid + 1) = some ⟨12, [[.c (.int .i64 0), .c (.int .i64 0), .z, .c (.int .i64 0), .c (.int .i64 0), .c (.int .i64 0), .c (.int .i64 0), .c (.int .i64 0), .c (.string ⟨#[]⟩), .c (.int .i64 0), .z, .z]], none⟩ ∧ Own (nid + 17) ob9 dv 1 (x.deps.map fun n => [vi n]) ∧ Own (nid + 17) ob9 vv 3 (x.vals.map vlV) ∧ Own (nid + 17) ob9 tv 2 (x.dots.map dotV) ∧ ∀ j, j < nid → ob9 j = ob j := by
    subst hob
    rcases hv1 with ⟨a1, rfl, rfl⟩ | ⟨a1, rfl, rfl⟩ <;> rcases hv2 with ⟨a2, rfl, rfl⟩ | ⟨a2, rfl, rfl⟩ <;> rcases hv3 with ⟨a3, rfl, rfl⟩ | ⟨a3, rfl, rfl⟩ <;>
      refine ⟨by simp [apps, updO, rowZP], by simp [apps, updO], ?_, ?_, ?_, fun j hj => ?_⟩
    all_goals first
      | exact .inl ⟨a1, rfl⟩
      | exact .inl ⟨a2, rfl⟩
      | exact .inl ⟨a3, rfl⟩
      | exact .inr ⟨a1, _, none, by omega, rfl, by simp [apps, updO]⟩
      | exact .inr ⟨a2, _, none, by omega, rfl, by simp [apps, updO]⟩
      | exact .inr ⟨a3, _, none, by omega, rfl, by simp [apps, updO]⟩
      | (simp only [apps, updO, List.append_nil, List.nil_append, List.cons_append]; repeat rw [if_neg (by omega)])
  clear hob hv1 hv2 hv3
  obtain ⟨F1, F0, F2, F3, F4, F5⟩ := F
  simp +contextual (maxSteps := 1000000) only [go_sem, ints, intRows, reduceAdd, Nat.reduceBEq, reduceEqDiff, reduceLeDiff, Nat.reduceLT, reduceIte, reduceLE, Int.reduceLT, reduceEq, reduceNeg, reduceToNat, ops, vals, dots, F1, F0, rowZP, nid13, nid14, l1, l2, l3, c1, c2, c3, List.cons_append, List.nil_append, Nat.add_assoc, beq_add, Nat.zero_add, Nat.add_zero]
  exact hC dv vv tv _ _ (by omega) (own_updkP F2 (by omega) F0 (by decide)) (own_updkP F3 (by omega) F0 (by decide)) (own_updkP F4 (by omega) F0 (by decide)) fun j hj => by rw [updO, if_neg (by omega)]; exact F5 j hj
def OwnZP (n : Nat) (ob : OB) (v : V) (D : List Opx) : Prop :=
  ∃ rows, Own n ob v 12 rows ∧ rows.length = D.length ∧ ∀ k, k < D.length → ∃ dv vv tv, rows[k]? = some (rowZP (gN D k) dv vv tv) ∧ Own n ob dv 1 ((gN D k).deps.map fun x => [vi x]) ∧ Own n ob vv 3 ((gN D k).vals.map vlV) ∧ Own n ob tv 2 ((gN D k).dots.map dotV)
theorem own_diffP {n m k k' id len : Nat} {ob : OB} {v w : V} {rows rows' : List (List V)} (h : Own n ob v k rows) (h' : Own m ob w k' rows') (hk : k ≠ k') (h1 : v = .sl id 0 len) : ∀ len', w ≠ .sl id 0 len' := by
  intro len' e
  rcases h with ⟨_, q⟩ | ⟨_, i, c, _, q, o1⟩
  · rw [h1] at q; cases q
  · rw [h1] at q; injection q with q
    rcases h' with ⟨_, r⟩ | ⟨_, i', c', _, r, o2⟩
    · rw [e] at r; cases r
    · rw [e] at r; injection r with r
      rw [← q, r, o2] at o1
      simp at o1; exact hk o1.1.symm
theorem OwnZP.fr {n n' : Nat} {ob ob' : OB} {v : V} {D : List Opx} (h : OwnZP n ob v D) (hn : n ≤ n') (hf : ∀ j, j < n → ob' j = ob j) : OwnZP n' ob' v D := by
  obtain ⟨rows, h1, h2, h3⟩ := h
  refine ⟨rows, own_frP h1 hn fun j hj _ => hf j hj, h2, fun k hk => ?_⟩
  obtain ⟨dv, vv, tv, r1, r2, r3, r4⟩ := h3 k hk
  exact ⟨dv, vv, tv, r1, own_frP r2 hn fun j hj _ => hf j hj, own_frP r3 hn fun j hj _ => hf j hj, own_frP r4 hn fun j hj _ => hf j hj⟩
theorem OwnZP.app {n n' : Nat} {ob ob' : OB} {v v' dv vv tv : V} {D : List Opx} {rows : List (List V)} {y : Opx} (h1 : Own n ob v 12 rows) (h2 : rows.length = D.length) (h3 : ∀ k, k < D.length → ∃ dv vv tv, rows[k]? = some (rowZP (gN D k) dv vv tv) ∧ Own n ob dv 1 ((gN D k).deps.map fun x => [vi x]) ∧ Own n ob vv 3 ((gN D k).vals.map vlV) ∧ Own n ob tv 2 ((gN D k).dots.map dotV)) (hn : n ≤ n') (hv : Own n' ob' v' 12 (rows ++ [rowZP y dv vv tv])) (d1 : Own n' ob' dv 1 (y.deps.map fun x => [vi x])) (d2 : Own n' ob' vv 3 (y.vals.map vlV)) (d3 : Own n' ob' tv 2 (y.dots.map dotV)) (hf : ∀ id, id < n → (∀ len, v ≠ .sl id 0 len) → ob' id = ob id) : OwnZP n' ob' v' (D ++ [y]) := by
  refine ⟨_, hv, by simp [h2], fun k hk => ?_⟩
  by_cases hkl : k < D.length
  · obtain ⟨dv, vv, tv, r1, r2, r3, r4⟩ := h3 k hkl
    have e : gN (D ++ [y]) k = gN D k := by rw [gN_eq hk, gN_eq hkl, List.getElem_append_left hkl]
    rw [e]
    exact ⟨dv, vv, tv, by rw [List.getElem?_append_left (by omega), r1], own_frP r2 hn fun id hid e => hf id hid (own_diffP r2 h1 (by decide) e), own_frP r3 hn fun id hid e => hf id hid (own_diffP r3 h1 (by decide) e), own_frP r4 hn fun id hid e => hf id hid (own_diffP r4 h1 (by decide) e)⟩
  · have hk2 : k = D.length := by simp at hk; omega
    subst hk2
    have e : gN (D ++ [y]) D.length = y := by rw [gN_eq hk]; simp
    rw [e]
    exact ⟨dv, vv, tv, by rw [List.getElem?_append_right (by omega), h2, Nat.sub_self]; rfl, d1, d2, d3⟩
set_option maxHeartbeats 2000000 in
theorem OfS_okP {fl fm : Fl} {l : List Opx} {v : List Int} {nid : Nat} {ob : OB} {C : V → OB → Nat → Prop} (hl : l.length ≤ maxLen) (h : ∀ x ∈ l, OkO x)
    (hC : ∀ w ob' n', nid ≤ n' → OwnZP n' ob' w (ofT l v) → (∀ j, j < nid → ob' j = ob j) → C w ob' n') : FnS Tryz.prog 20 [ops fl l, ints fm v] ob nid C := by
  unfold maxLen at hl
  refine fnS_intro cf20 (by simp) ?_
  simp +contextual (maxSteps := 1000000) only [go_sem, ints, intRows, reduceAdd, Nat.reduceBEq, reduceEqDiff, reduceLeDiff, Nat.reduceLT, reduceIte, reduceLE, Int.reduceLT, reduceEq, reduceNeg, reduceToNat, ops, vals, dots, c20, ops]
  refine wpC_lp (fun env ob' n' => env 1 = ints fm v ∧ env 8 = ops fl l ∧ env 9 = vi l.length ∧ nid ≤ n' ∧ (∀ j, j < nid → ob' j = ob j) ∧ ∃ i : Nat, env 10 = vi i ∧ i ≤ l.length ∧ OwnZP n' ob' (env 5) (ofT (l.take i) v) ∧ ∀ id len, env 5 = .sl id 0 len → nid ≤ id) (fun env ob _ => (l.length - iv (env 10)).toNat) ?_ ?_
  · simp +contextual (maxSteps := 1000000) only [go_sem, ints, intRows, reduceAdd, Nat.reduceBEq, reduceEqDiff, reduceLeDiff, Nat.reduceLT, reduceIte, reduceLE, Int.reduceLT, reduceEq, reduceNeg, reduceToNat, ops, vals, dots, ops]
    refine ⟨by omega, 0, rfl, by omega, ⟨[], Own.nil, rfl, fun k hk => by simp [ofT] at hk⟩, fun id len e => by cases e⟩
  rintro env ob1 n' ⟨h1, h8, h9, hn', hfr, i, h10, hi, ho, hid⟩
  have w1 : IntKind.i64.wrap ((i : Int) + 1) = ((i + 1 : Nat) : Int) := by rw [w64 (by omega)]; omega
  simp +contextual (maxSteps := 1000000) only [go_sem, ints, intRows, reduceAdd, Nat.reduceBEq, reduceEqDiff, reduceLeDiff, Nat.reduceLT, reduceIte, reduceLE, Int.reduceLT, reduceEq, reduceNeg, reduceToNat, ops, vals, dots, h1, h8, h9, h10, ops]
  refine ⟨fun hlt => ?_, fun hge => ?_⟩
  · simp only [decide_eq_true_eq] at hlt
    have hx := h _ (gN_mem (show i < l.length by omega))
    have hfl : (ofT (l.take i) v).length ≤ i := by
      have := filter_len (p := fun x => hasB v x.dot) (l := l.take i)
      rw [List.length_take] at this
      unfold ofT; omega
    repeat (refine And.intro (by omega) ?_)
    first | refine caS_i (Has_ok v (gN l i).dot) trivial ?_ | refine caD_i (Has_ok v (gN l i).dot) trivial ?_ | refine gC_i (fun _ => Has_ok v (gN l i).dot) trivial ?_ | refine gCD_i (fun _ => Has_ok v (gN l i).dot) trivial ?_ | refine caE_i (Has_ok v (gN l i).dot) trivial ?_
    simp +contextual (maxSteps := 1000000) only [go_sem, ints, intRows, reduceAdd, Nat.reduceBEq, reduceEqDiff, reduceLeDiff, Nat.reduceLT, reduceIte, reduceLE, Int.reduceLT, reduceEq, reduceNeg, reduceToNat, ops, vals, dots, h1, h8, h9, h10, ops, w1, Nat.add_assoc, beq_add, Nat.zero_add, Nat.add_zero]
    have hfr2 : ∀ (o1 o2 : Option Ob) j, j < n' → updO (updO ob1 (n' + 3) o1) (n' + 3) o2 j = ob1 j := fun o1 o2 j hj => by rw [updO, if_neg (by omega), updO, if_neg (by omega)]
    refine ⟨fun hb => ?_, fun hb => ?_⟩
    · refine rcS_i (TwinS_okP hx.d hx.v hx.s fun dv vv tv ob3 n3 hn3 g1 g2 g3 hfr3 => ?_)
      have hfr4 : ∀ j, j < n' → ob3 j = ob1 j := fun j hj => (hfr3 j (by omega)).trans (hfr2 _ _ j hj)
      have lf : ∀ {k : Nat} {v : V} {r : List (List V)}, Own n3 ob3 v k r → leaf v = true := fun h => by rcases h with ⟨_, rfl⟩ | ⟨_, _, _, _, rfl, _⟩ <;> rfl
      simp +contextual (maxSteps := 1000000) only [go_sem, ints, intRows, reduceAdd, Nat.reduceBEq, reduceEqDiff, reduceLeDiff, Nat.reduceLT, reduceIte, reduceLE, Int.reduceLT, reduceEq, reduceNeg, reduceToNat, ops, vals, dots, h1, h8, h9, h10, w1, lf g1, lf g2, lf g3, Nat.add_assoc, beq_add, Nat.zero_add, Nat.add_zero]
      rw [op_bsl_r (k := 12) _ _ ?hz ?hk]
      case hz => rfl
      case hk => unfold rowZP okRow; simp only [List.all_cons, List.all_nil, lf g1, lf g2, lf g3]; rfl
      simp +contextual (maxSteps := 1000000) only [go_sem, ints, intRows, reduceAdd, Nat.reduceBEq, reduceEqDiff, reduceLeDiff, Nat.reduceLT, reduceIte, reduceLE, Int.reduceLT, reduceEq, reduceNeg, reduceToNat, ops, vals, dots, h1, h8, h9, h10, w1]
      obtain ⟨rows, p1, p2, p3⟩ := ho.fr (Nat.le_refl _) hfr4
      refine nxS_anyP (xs := [rowZP (gN l i) dv vv tv]) p1 (by omega) rfl (by unfold rowZP; simp only [okRow, List.all_cons, List.all_nil, lf g1, lf g2, lf g3]; rfl) (by rw [p2]; simp; unfold maxLen; omega) fun v' ob5 u2 u3 u4 => ?_
      have hlt5 : ∀ id len, env 5 = .sl id 0 len → id < n' := fun id len e => by
        rcases p1 with ⟨_, q⟩ | ⟨_, id2, c, q1, q2, _⟩
        · rw [e] at q; cases q
        · rw [e] at q2; injection q2 with q2; omega
      simp +contextual (maxSteps := 1000000) only [go_sem, ints, intRows, reduceAdd, Nat.reduceBEq, reduceEqDiff, reduceLeDiff, Nat.reduceLT, reduceIte, reduceLE, Int.reduceLT, reduceEq, reduceNeg, reduceToNat, ops, vals, dots, h1, h8, h9, h10, w1]
      refine ⟨⟨by omega, fun j hj => ?_, i + 1, rfl, by omega, ?_, fun id len e => ?_⟩, by omega⟩
      · rw [u3 j (by omega) fun len e => by have := hid _ _ e; omega, hfr4 j (by omega), hfr j hj]
      · have : ofT (l.take (i + 1)) v = ofT (l.take i) v ++ [gN l i] := by unfold ofT; rw [filter_take (by omega), if_pos hb]
        rw [this]
        have key : ∀ {k : Nat} {w : V} {r : List (List V)}, k ≠ 12 → Own n3 ob3 w k r → Own (n3 + 3) ob5 w k r := fun hk hw => own_frP hw (by omega) fun id hid2 e => u3 id (by omega) (own_diffP hw p1 hk e)
        exact OwnZP.app p1 p2 p3 (by omega) (u2.mono (by omega)) ((key (by decide) g1).mono (by omega)) ((key (by decide) g2).mono (by omega)) ((key (by decide) g3).mono (by omega)) fun id hid2 hne => u3 id (by omega) hne
      · rcases u4 with rfl | ⟨len', rfl⟩
        · exact hid _ _ e
        · injection e; omega
    · refine ⟨⟨by omega, fun j hj => by rw [hfr2 _ _ j (by omega)]; exact hfr j hj, i + 1, rfl, by omega, ?_, hid⟩, by omega⟩
      have : ofT (l.take (i + 1)) v = ofT (l.take i) v := by unfold ofT; rw [filter_take (by omega), if_neg (by simpa using hb), List.append_nil]
      rw [this]
      exact ho.fr (by omega) (hfr2 _ _)
  · simp only [decide_eq_false_iff_not] at hge
    obtain rfl : i = l.length := by omega
    rw [List.take_length] at ho
    exact hC _ _ _ (by omega) (ho.fr (by omega) fun _ _ => rfl) hfr
theorem rowZP_g {n id : Nat} {ob : OB} {y : Opx} {dv vv tv : V} (h1 : Own n ob dv 1 (y.deps.map fun x => [vi x])) (h2 : Own n ob vv 3 (y.vals.map vlV)) (h3 : Own n ob tv 2 (y.dots.map dotV)) {rw_ : List (List V)} {c : Option Nat} (hN : ob id = some ⟨12, rw_, c⟩) : (rowZP y dv vv tv).map (gV (kill ob id) 6) = opV y := by
  have g2 : ∀ {k : Nat} {v : V} {l : List (List V)}, Own n ob v k l → k ≠ 12 → (∀ x ∈ l, x.map (gV (kill ob id) 5) = x) → gV (kill ob id) 6 v = .im .b l := fun {k v l} ho hk hl => by
    rcases ho with ⟨rfl, rfl⟩ | ⟨_, i, cap, hid, rfl, hob⟩
    · rfl
    · have hne : i ≠ id := fun e => by rw [e, hN] at hob; injection hob with hob; injection hob with hob; exact hk hob.symm
      have hk2 : kill ob id i = some ⟨k, l, cap⟩ := by simp [kill, hne, hob]
      simp only [gV, rowsOf, hk2, Option.bind_some]
      rw [if_pos (by simp)]
      simp only [List.drop_zero, List.take_length]
      congr 1
      rw [List.map_congr_left hl]; simp
  simp only [rowZP, List.map_cons, List.map_nil]
  rw [g2 h1 (by omega) (fun x hx => by obtain ⟨d, _, rfl⟩ := List.mem_map.1 hx; rfl), g2 h2 (by omega) (fun x hx => by obtain ⟨d, _, rfl⟩ := List.mem_map.1 hx; rfl), g2 h3 (by omega) (fun x hx => by obtain ⟨d, _, rfl⟩ := List.mem_map.1 hx; rfl)]
  rfl
theorem AOf_ok {fl fm : Fl} (l : List Opx) (v : List Int) (hl : l.length ≤ maxLen) (h : ∀ x ∈ l, OkO x) : FnB Tryz.prog 20 [ops fl l, ints fm v] (ops .o (ofT l v)) := by
  refine fnB_of_S (OfS_okP hl h fun w ob n _ hw _ => ⟨[w], rfl, ?_⟩)
  obtain ⟨rows, h1, h2, h3⟩ := hw
  rcases h1 with ⟨rfl, rfl⟩ | ⟨hne, id, c, hid, rfl, hob⟩
  · have : ofT l v = [] := List.eq_nil_of_length_eq_zero h2.symm
    rw [this]; rfl
  · have hro : rowsOf ob (.sl id 0 rows.length) = some rows := by
      simp only [rowsOf, hob, Option.bind_some]
      rw [if_pos (by omega), List.drop_zero, List.take_length]
    simp only [outL, hro]
    rw [if_neg fun e => hne (List.eq_nil_of_length_eq_zero e)]
    have : rows.map (fun r => r.map (gV (kill ob id) 6)) = (ofT l v).map opV := by
      refine List.ext_getElem (by simp [h2]) fun k a b => ?_
      have hk : k < (ofT l v).length := by simpa using b
      obtain ⟨dv, vv, tv, r1, r2, r3, r4⟩ := h3 k hk
      have e : rows[k] = rowZP (gN (ofT l v) k) dv vv tv := by
        rw [List.getElem?_eq_getElem (by omega)] at r1; exact Option.some.inj r1
      rw [List.getElem_map, List.getElem_map, e, rowZP_g r2 r3 r4 hob, gN_eq hk]
    rw [this]; rfl
def vecF (n : Int) (l : List Opx) : List Int := l.foldl (fun o x => o.set x.dot.p.toNat (max (gN o x.dot.p.toNat) x.dot.n)) (List.replicate n.toNat 0)
def vecOk (n : Int) (x : Opx) : Bool := decide (0 ≤ x.dot.p ∧ x.dot.p < n ∧ 1 ≤ x.dot.n ∧ x.dot.n ≤ 1073741824)
def vectorT (n : Int) (l : List Opx) : List Int × Int := if 1 ≤ n ∧ n ≤ 5 ∧ l.all (vecOk n) = true then (vecF n l, 0) else ([], 1)
theorem vecF_len (n : Int) (l : List Opx) : (vecF n l).length = n.toNat := by
  unfold vecF
  suffices ∀ o : List Int, (l.foldl (fun o x => o.set x.dot.p.toNat (max (gN o x.dot.p.toNat) x.dot.n)) o).length = o.length by rw [this]; simp
  induction l with
  | nil => intro o; rfl
  | cons x l ih => intro o; rw [List.foldl_cons, ih]; simp
theorem vecF_take {n : Int} {l : List Opx} {i : Nat} (h : i < l.length) : vecF n (l.take (i + 1)) = (vecF n (l.take i)).set (gN l i).dot.p.toNat (max (gN (vecF n (l.take i)) (gN l i).dot.p.toNat) (gN l i).dot.n) := by
  rw [take_gN h]; unfold vecF; rw [List.foldl_append]; rfl
set_option maxHeartbeats 2000000 in
theorem AVector_ok {fl : Fl} (n : Int) (l : List Opx) (hl : l.length ≤ maxLen) : FnB Tryz.prog 14 [vi n, ops fl l] (.tp [ints .o (vectorT n l).1, vi (vectorT n l).2]) := by
  unfold maxLen at hl
  refine fnB_intro cf14 (by simp) ?_
  simp +contextual (maxSteps := 1000000) only [go_sem, ints, intRows, reduceAdd, Nat.reduceBEq, reduceEqDiff, reduceLeDiff, Nat.reduceLT, reduceIte, reduceLE, Int.reduceLT, reduceEq, reduceNeg, reduceToNat, ops, vals, dots, c14]
  refine ⟨fun hb => ?_, fun hb => ?_⟩
  · have : vectorT n l = ([], 1) := by
      unfold vectorT; rw [if_neg]; rintro ⟨h1, h2, _⟩
      simp at hb; omega
    rw [this]; rfl
  have hn5 : 1 ≤ n ∧ n ≤ 5 := by
    simp at hb; omega
  refine ⟨⟨by omega, by unfold maxLen; omega⟩, ?_⟩
  refine wpC_lp (fun env ob n' => env 0 = vi n ∧ env 6 = .sl 9 0 n.toNat ∧ env 18 = ops fl l ∧ env 19 = vi l.length ∧ 9 < n' ∧ ∃ (i : Nat) (o : List Int), env 20 = vi i ∧ i ≤ l.length ∧ ob 9 = some ⟨1, o.map fun n => [vi n], none⟩ ∧ o = vecF n (l.take i) ∧ ∀ x ∈ l.take i, vecOk n x = true) (fun env ob _ => (l.length - iv (env 20)).toNat) ?_ ?_
  · simp +contextual (maxSteps := 1000000) only [go_sem, ints, intRows, reduceAdd, Nat.reduceBEq, reduceEqDiff, reduceLeDiff, Nat.reduceLT, reduceIte, reduceLE, Int.reduceLT, reduceEq, reduceNeg, reduceToNat, ops, vals, dots]
    exact ⟨0, _, rfl, by omega, rfl, rfl, fun x hx => by simp at hx⟩
  rintro env ob n' ⟨h0, h6, h18, h19, hn9, i, o, h20, hi, hob, hoe, he⟩
  have w1 : IntKind.i64.wrap ((i : Int) + 1) = ((i + 1 : Nat) : Int) := by rw [w64 (by omega)]; omega
  have hol : o.length = n.toNat := by rw [hoe, vecF_len]
  have g9 : ∀ k, (9 == n' + k) = false := fun k => by simp; omega
  have g90 : (9 == n') = false := by simp; omega
  have gy : ∀ a b, (n' + a == n' + b) = (a == b) := fun a b => by rw [Bool.eq_iff_iff, beq_iff_eq, beq_iff_eq]; omega
  simp +contextual (maxSteps := 1000000) only [go_sem, ints, intRows, reduceAdd, Nat.reduceBEq, reduceEqDiff, reduceLeDiff, Nat.reduceLT, reduceIte, reduceLE, Int.reduceLT, reduceEq, reduceNeg, reduceToNat, ops, vals, dots, h0, h6, h18, h19, h20, hob, hol]
  refine ⟨fun hlt => ?_, fun hge => ?_⟩
  · simp at hlt
    repeat (refine And.intro (by omega) ?_)
    generalize hx : gN l i = x at *
    simp +contextual (maxSteps := 1000000) only [go_sem, ints, intRows, reduceAdd, Nat.reduceBEq, reduceEqDiff, reduceLeDiff, Nat.reduceLT, reduceIte, reduceLE, Int.reduceLT, reduceEq, reduceNeg, reduceToNat, ops, vals, dots, h0, h6, h18, h19, h20, hob, hol, g9, g90, gy, w1, Nat.add_assoc, beq_add, Nat.zero_add, Nat.add_zero]
    refine ⟨fun hb => ?_, fun hb => ?_⟩
    · have : vectorT n l = ([], 1) := by
        unfold vectorT; rw [if_neg]; rintro ⟨_, _, h3⟩
        have := List.all_eq_true.1 h3 x (by rw [← hx]; exact gN_mem hlt)
        unfold vecOk at this
        simp at this hb
        omega
      rw [this]; rfl
    · have hv : 0 ≤ x.dot.p ∧ x.dot.p < n ∧ 1 ≤ x.dot.n ∧ x.dot.n ≤ 1073741824 := by simp at hb; omega
      refine ⟨by omega, by omega, by omega, by omega, ⟨by omega, i + 1, _, rfl, by omega, rfl, ?_, fun y hy => ?_⟩, by omega⟩
      · rw [vecF_take hlt, hx, ← hoe]
      · rw [take_gN hlt, List.mem_append, List.mem_singleton] at hy
        rcases hy with hy | hy
        · exact he y hy
        · subst hy; rw [hx]; unfold vecOk; exact decide_eq_true hv
  · simp at hge
    rw [List.take_of_length_le (by omega)] at hoe he
    have : vectorT n l = (o, 0) := by
      unfold vectorT; rw [if_pos ⟨hn5.1, hn5.2, List.all_eq_true.2 he⟩, hoe]
    rw [this, out_at _ (fun _ _ => rfl) hob hol.symm (by omega) _ (fun _ => rfl)]; rfl
end Go.Proofs.YtbojpedklnmidaaGreat.D
end
