/- AuditApplies, packed. No condition beyond the statement's own. -/
import Derived.Test.YtbojpedklnmidaaGreatMAuditAppliesc
import Derived.Lib.Bytealg
import Derived.Sort.Walk0
import Derived.Lib.Overlaps
section
set_option linter.unusedVariables false
set_option linter.unusedSimpArgs false
set_option maxRecDepth 100000
set_option linter.constructorNameAsVariable false

/- What the reference's functions answer: twins, matrices, vectors. No condition. -/
namespace Go.Proofs.YtbojpedklnmidaaGreat.D
open Go Go.Proofs
open Nat (reduceAdd reduceEqDiff reduceLeDiff)
open Int (reduceLE reduceEq reduceNeg reduceToNat)
theorem take_gN {α : Type} [Inhabited α] {l : List α} {i : Nat} (h : i < l.length) : l.take (i + 1) = l.take i ++ [gN l i] := by
  rw [List.take_add_one, gN_at h]; simp
theorem RHas_ok {fl : Fl} (v : List Int) (d : Dt) (hv : v.length ≤ maxLen) : FnB Tryz.prog 60 [ints fl v, .ag (dotV d)] (vb (hasB v d)) := by
  unfold maxLen at hv
  refine fnB_intro cf60 (by simp) ?_
  simp +contextual (maxSteps := 1000000) only [go_sem, ints, intRows, reduceAdd, Nat.reduceBEq, reduceEqDiff, reduceLeDiff, Nat.reduceLT, reduceIte, reduceLE, Int.reduceLT, reduceEq, reduceNeg, reduceToNat, c60, dotV]
  first | refine caS_i (refIn_ok _ _ _) trivial ?_ | refine caD_i (refIn_ok _ _ _) trivial ?_ | refine gC_i (fun _ => refIn_ok _ _ _) trivial ?_ | refine gCD_i (fun _ => refIn_ok _ _ _) trivial ?_ | refine caE_i (refIn_ok _ _ _) trivial ?_
  simp +contextual (maxSteps := 1000000) only [go_sem, ints, intRows, reduceAdd, Nat.reduceBEq, reduceEqDiff, reduceLeDiff, Nat.reduceLT, reduceIte, reduceLE, Int.reduceLT, reduceEq, reduceNeg, reduceToNat, dotV]
  simp only [hasB]
  by_cases h0 : v.length = 0
  · rw [h0]
    have e : IntKind.i64.wrap (((0 : Nat) : Int) - 1) = -1 := by decide
    rw [e]
    have e1 : decide (0 ≤ d.p ∧ d.p ≤ -1) = false := by rw [decide_eq_false_iff_not]; omega
    have e2 : decide (0 ≤ d.p ∧ d.p < ((0 : Nat) : Int) ∧ 1 ≤ d.n ∧ d.n ≤ gN v d.p.toNat) = false := by rw [decide_eq_false_iff_not]; omega
    rw [e1, e2]; simp
  rw [w64 (by omega)]
  generalize gN v d.p.toNat = z
  simp only [← Bool.decide_and, decide_eq_true_iff, V.c.injEq, Value.bool.injEq, decide_eq_decide]
  omega
theorem RNext_ok {fl : Fl} (v : List Int) (d : Dt) (hl : v.length ≤ maxLen) (hn : inI d.n) (hv : ∀ n ∈ v, inI n) : FnB Tryz.prog 9 [ints fl v, .ag (dotV d)] (vb (nextB v d)) := by
  unfold maxLen at hl
  refine fnB_intro cf9 (by simp) ?_
  simp +contextual (maxSteps := 1000000) only [go_sem, ints, intRows, reduceAdd, Nat.reduceBEq, reduceEqDiff, reduceLeDiff, Nat.reduceLT, reduceIte, reduceLE, Int.reduceLT, reduceEq, reduceNeg, reduceToNat, c9, dotV]
  first | refine caS_i (refIn_ok _ _ _) trivial ?_ | refine caD_i (refIn_ok _ _ _) trivial ?_ | refine gC_i (fun _ => refIn_ok _ _ _) trivial ?_ | refine gCD_i (fun _ => refIn_ok _ _ _) trivial ?_ | refine caE_i (refIn_ok _ _ _) trivial ?_
  simp +contextual (maxSteps := 1000000) only [go_sem, ints, intRows, reduceAdd, Nat.reduceBEq, reduceEqDiff, reduceLeDiff, Nat.reduceLT, reduceIte, reduceLE, Int.reduceLT, reduceEq, reduceNeg, reduceToNat, dotV]
  have e0 : decide (0 ≤ d.p ∧ d.p ≤ IntKind.i64.wrap ((v.length : Int) - 1)) = decide (0 ≤ d.p ∧ d.p < v.length) := by
    by_cases h0 : v.length = 0
    · rw [h0]
      have e : IntKind.i64.wrap (((0 : Nat) : Int) - 1) = -1 := by decide
      rw [e, decide_eq_decide]; omega
    · rw [w64 (by omega), decide_eq_decide]; omega
  rw [e0]
  simp only [nextB]
  by_cases h1 : 0 ≤ d.p ∧ d.p < v.length
  · have h2 := hv (gN v d.p.toNat) (gN_mem (by omega))
    generalize gN v d.p.toNat = z at *
    unfold inI at *
    refine ⟨fun _ => h1, fun _ => h1, ?_⟩
    by_cases h3 : z < d.n
    · rw [w64 (by omega)]
      simp only [← Bool.decide_and, V.c.injEq, Value.bool.injEq, decide_eq_decide]; omega
    · have e1 : decide (z < d.n) = false := by simpa using h3
      have e2 : decide (0 ≤ d.p ∧ d.p < v.length ∧ d.n = z + 1) = false := by rw [decide_eq_false_iff_not]; omega
      rw [e1, e2]; simp
  · have e1 : decide (0 ≤ d.p ∧ d.p < (v.length : Int)) = false := by rw [decide_eq_false_iff_not]; exact h1
    have e2 : decide (0 ≤ d.p ∧ d.p < v.length ∧ d.n = gN v d.p.toNat + 1) = false := by rw [decide_eq_false_iff_not]; omega
    rw [e1, e2]; simp
theorem RLe_ok {fl fm : Fl} (a b : List Int) (ha : a.length ≤ maxLen) : FnB Tryz.prog 10 [ints fl a, ints fm b] (vb (leB a b)) := by
  unfold maxLen at ha
  refine fnB_intro cf10 (by simp) ?_
  simp +contextual (maxSteps := 1000000) only [go_sem, ints, intRows, reduceAdd, Nat.reduceBEq, reduceEqDiff, reduceLeDiff, Nat.reduceLT, reduceIte, reduceLE, Int.reduceLT, reduceEq, reduceNeg, reduceToNat, c10]
  refine ⟨?_, ?_⟩
  · intro h; simp at h
    have : leB a b = false := by rw [← Bool.not_eq_true, leB_iff]; rintro ⟨h1, _⟩; omega
    rw [this]
  · intro h; simp at h
    refine wpC_lp (fun env ob n => env 0 = ints fl a ∧ env 1 = ints fm b ∧ ∃ i : Nat, env 5 = vi i ∧ i ≤ a.length ∧ ∀ j, j < i → gN a j ≤ gN b j) (fun env ob n => (a.length - iv (env 5)).toNat) ?_ ?_
    · simp +contextual (maxSteps := 1000000) only [go_sem, ints, intRows, reduceAdd, Nat.reduceBEq, reduceEqDiff, reduceLeDiff, Nat.reduceLT, reduceIte, reduceLE, Int.reduceLT, reduceEq, reduceNeg, reduceToNat]
      exact ⟨0, rfl, by omega, by omega⟩
    · rintro env ob n ⟨h0, h1, i, h5, hi, he⟩
      simp +contextual (maxSteps := 1000000) only [go_sem, ints, intRows, reduceAdd, Nat.reduceBEq, reduceEqDiff, reduceLeDiff, Nat.reduceLT, reduceIte, reduceLE, Int.reduceLT, reduceEq, reduceNeg, reduceToNat, h0, h1, h5]
      refine ⟨fun hlt => ?_, fun hge => ?_⟩
      · simp at hlt
        refine ⟨by omega, by omega, fun hb => ?_, fun hg => ⟨⟨i + 1, ?_, by omega, fun j hj => ?_⟩, ?_⟩⟩
        · simp at hb
          have : leB a b = false := by rw [← Bool.not_eq_true, leB_iff]; rintro ⟨_, h2⟩; have := h2 i hlt; omega
          rw [this]
        · rw [w64 (by omega)]; simp
        · simp at hg
          by_cases hji : j = i
          · subst hji; omega
          · exact he j (by omega)
        · rw [w64 (by omega)]; omega
      · simp at hge
        have : leB a b = true := leB_iff.2 ⟨by omega, fun j hj => he j (by omega)⟩
        rw [this]
end Go.Proofs.YtbojpedklnmidaaGreat.D
end
section
set_option linter.unusedVariables false
set_option linter.unusedSimpArgs false
set_option maxRecDepth 100000
set_option linter.constructorNameAsVariable false

/- MatRises. No condition. -/
namespace Go.Proofs.YtbojpedklnmidaaGreat.D
open Go Go.Proofs
open Nat (reduceAdd reduceEqDiff reduceLeDiff)
open Int (reduceLE reduceEq reduceNeg reduceToNat)
end Go.Proofs.YtbojpedklnmidaaGreat.D
end
section
set_option linter.unusedVariables false
set_option linter.unusedSimpArgs false
set_option maxRecDepth 100000
set_option linter.constructorNameAsVariable false

/- MatExact. No condition. -/
namespace Go.Proofs.YtbojpedklnmidaaGreat.D
open Go Go.Proofs
open Nat (reduceAdd reduceEqDiff reduceLeDiff)
open Int (reduceLE reduceEq reduceNeg reduceToNat)
end Go.Proofs.YtbojpedklnmidaaGreat.D
end
section
set_option linter.unusedVariables false
set_option linter.unusedSimpArgs false
set_option maxRecDepth 100000
set_option linter.constructorNameAsVariable false

/- Comparing dots; spoiling; DotExact. No condition. -/
namespace Go.Proofs.YtbojpedklnmidaaGreat.D
open Go Go.Proofs
open Nat (reduceAdd reduceEqDiff reduceLeDiff)
open Int (reduceLE reduceEq reduceNeg reduceToNat)
def cmpI (x y : Int) : Int := if x < y then -1 else if y < x then 1 else 0
theorem isNaN_ok (x : Int) : FnB Tryz.prog 147 [vi x] (vb false) := by
  refine fnB_intro cf147 (by simp) ?_
  simp +contextual (maxSteps := 1000000) only [go_sem, ints, intRows, reduceAdd, Nat.reduceBEq, reduceEqDiff, reduceLeDiff, Nat.reduceLT, reduceIte, reduceLE, Int.reduceLT, reduceEq, reduceNeg, reduceToNat, c147]
theorem cmpI_ok (x y : Int) : FnB Tryz.prog 119 [vi x, vi y] (vi (cmpI x y)) := by
  refine fnB_intro cf119 (by simp) ?_
  simp +contextual (maxSteps := 1000000) only [go_sem, ints, intRows, reduceAdd, Nat.reduceBEq, reduceEqDiff, reduceLeDiff, Nat.reduceLT, reduceIte, reduceLE, Int.reduceLT, reduceEq, reduceNeg, reduceToNat, c119]
  first | refine caS_i (isNaN_ok x) trivial ?_ | refine caD_i (isNaN_ok x) trivial ?_ | refine gC_i (fun _ => isNaN_ok x) trivial ?_ | refine gCD_i (fun _ => isNaN_ok x) trivial ?_ | refine caE_i (isNaN_ok x) trivial ?_
  simp +contextual (maxSteps := 1000000) only [go_sem, ints, intRows, reduceAdd, Nat.reduceBEq, reduceEqDiff, reduceLeDiff, Nat.reduceLT, reduceIte, reduceLE, Int.reduceLT, reduceEq, reduceNeg, reduceToNat]
  first | refine caS_i (isNaN_ok y) trivial ?_ | refine caD_i (isNaN_ok y) trivial ?_ | refine gC_i (fun _ => isNaN_ok y) trivial ?_ | refine gCD_i (fun _ => isNaN_ok y) trivial ?_ | refine caE_i (isNaN_ok y) trivial ?_
  simp +contextual (maxSteps := 1000000) only [go_sem, ints, intRows, reduceAdd, Nat.reduceBEq, reduceEqDiff, reduceLeDiff, Nat.reduceLT, reduceIte, reduceLE, Int.reduceLT, reduceEq, reduceNeg, reduceToNat]
  refine ⟨fun h => ?_, fun h => ⟨fun h2 => ?_, fun h2 => ?_⟩⟩ <;> simp at *
  · rw [cmpI, if_pos h]
  · rw [cmpI, if_neg (by omega), if_pos h2]
  · rw [cmpI, if_neg (by omega), if_neg (by omega)]
def orV : List Int → Int
  | [] => 0
  | x :: l => if x ≠ 0 then x else orV l
theorem cmpOr_ok {fl : Fl} (l : List Int) (hl : l.length ≤ maxLen) : FnB Tryz.prog 118 [ints fl l] (vi (orV l)) := by
  unfold maxLen at hl
  refine fnB_intro cf118 (by simp) ?_
  simp +contextual (maxSteps := 1000000) only [go_sem, ints, intRows, reduceAdd, Nat.reduceBEq, reduceEqDiff, reduceLeDiff, Nat.reduceLT, reduceIte, reduceLE, Int.reduceLT, reduceEq, reduceNeg, reduceToNat, c118]
  refine wpC_lp (fun env ob n' => env 3 = vi 0 ∧ env 6 = ints fl l ∧ env 7 = vi l.length ∧ ∃ i : Nat, env 8 = vi i ∧ i ≤ l.length ∧ orV l = orV (l.drop i)) (fun env ob _ => (l.length - iv (env 8)).toNat) ?_ ?_
  · simp +contextual (maxSteps := 1000000) only [go_sem, ints, intRows, reduceAdd, Nat.reduceBEq, reduceEqDiff, reduceLeDiff, Nat.reduceLT, reduceIte, reduceLE, Int.reduceLT, reduceEq, reduceNeg, reduceToNat]
    exact ⟨0, rfl, by omega, by simp⟩
  rintro env ob n' ⟨h3, h6, h7, i, h8, hi, he⟩
  simp +contextual (maxSteps := 1000000) only [go_sem, ints, intRows, reduceAdd, Nat.reduceBEq, reduceEqDiff, reduceLeDiff, Nat.reduceLT, reduceIte, reduceLE, Int.reduceLT, reduceEq, reduceNeg, reduceToNat, h3, h6, h7, h8]
  refine ⟨fun hlt => ?_, fun hge => ?_⟩
  · simp at hlt
    rw [drop_gN hlt, orV] at he
    refine ⟨by omega, fun hb => ?_, fun hg => ⟨⟨i + 1, ?_, by omega, ?_⟩, ?_⟩⟩
    · simp at hb; rw [if_pos hb] at he; rw [he]
    · rw [w64 (by omega)]; simp
    · simp at hg; rw [if_neg (by simpa using hg)] at he; exact he
    · rw [w64 (by omega)]; omega
  · simp at hge
    rw [List.drop_eq_nil_of_le (by omega), orV] at he
    rw [he]
def cmpD (a b : Dt) : Int := orV [cmpI a.p b.p, cmpI a.n b.n]
theorem cmpD_ok (a b : Dt) : FnB Tryz.prog 80 [.ag (dotV a), .ag (dotV b)] (vi (cmpD a b)) := by
  refine fnB_intro cf80 (by simp) ?_
  simp +contextual (maxSteps := 1000000) only [go_sem, ints, intRows, reduceAdd, Nat.reduceBEq, reduceEqDiff, reduceLeDiff, Nat.reduceLT, reduceIte, reduceLE, Int.reduceLT, reduceEq, reduceNeg, reduceToNat, c80, dotV]
  first | refine caS_i (cmpI_ok a.p b.p) trivial ?_ | refine caD_i (cmpI_ok a.p b.p) trivial ?_ | refine gC_i (fun _ => cmpI_ok a.p b.p) trivial ?_ | refine gCD_i (fun _ => cmpI_ok a.p b.p) trivial ?_ | refine caE_i (cmpI_ok a.p b.p) trivial ?_
  simp +contextual (maxSteps := 1000000) only [go_sem, ints, intRows, reduceAdd, Nat.reduceBEq, reduceEqDiff, reduceLeDiff, Nat.reduceLT, reduceIte, reduceLE, Int.reduceLT, reduceEq, reduceNeg, reduceToNat]
  first | refine caS_i (cmpI_ok a.n b.n) trivial ?_ | refine caD_i (cmpI_ok a.n b.n) trivial ?_ | refine gC_i (fun _ => cmpI_ok a.n b.n) trivial ?_ | refine gCD_i (fun _ => cmpI_ok a.n b.n) trivial ?_ | refine caE_i (cmpI_ok a.n b.n) trivial ?_
  simp +contextual (maxSteps := 1000000) only [go_sem, ints, intRows, reduceAdd, Nat.reduceBEq, reduceEqDiff, reduceLeDiff, Nat.reduceLT, reduceIte, reduceLE, Int.reduceLT, reduceEq, reduceNeg, reduceToNat]
  first | refine caS_i (cmpOr_ok [cmpI a.p b.p, cmpI a.n b.n] (by simp [maxLen])) trivial ?_ | refine caD_i (cmpOr_ok [cmpI a.p b.p, cmpI a.n b.n] (by simp [maxLen])) trivial ?_ | refine gC_i (fun _ => cmpOr_ok [cmpI a.p b.p, cmpI a.n b.n] (by simp [maxLen])) trivial ?_ | refine gCD_i (fun _ => cmpOr_ok [cmpI a.p b.p, cmpI a.n b.n] (by simp [maxLen])) trivial ?_ | refine caE_i (cmpOr_ok [cmpI a.p b.p, cmpI a.n b.n] (by simp [maxLen])) trivial ?_
  simp +contextual (maxSteps := 1000000) only [go_sem, ints, intRows, reduceAdd, Nat.reduceBEq, reduceEqDiff, reduceLeDiff, Nat.reduceLT, reduceIte, reduceLE, Int.reduceLT, reduceEq, reduceNeg, reduceToNat, cmpD]
def lessD (a b : Dt) : Bool := decide (a.p < b.p ∨ a.p = b.p ∧ a.n < b.n)
theorem cmpD_less (a b : Dt) : decide (cmpD a b < 0) = lessD a b := by
  unfold cmpD lessD orV orV orV cmpI
  rw [decide_eq_decide]
  repeat' split
  all_goals first | omega | simp_all | skip
theorem Less_ok (a b : Dt) : FnB Tryz.prog 138 [.ag (dotV a), .ag (dotV b)] (vb (lessD a b)) := by
  refine fnB_intro cf138 (by simp) ?_
  simp +contextual (maxSteps := 1000000) only [go_sem, ints, intRows, reduceAdd, Nat.reduceBEq, reduceEqDiff, reduceLeDiff, Nat.reduceLT, reduceIte, reduceLE, Int.reduceLT, reduceEq, reduceNeg, reduceToNat, c138, dotV]
  first | refine caS_i (cmpD_ok a b) trivial ?_ | refine caD_i (cmpD_ok a b) trivial ?_ | refine gC_i (fun _ => cmpD_ok a b) trivial ?_ | refine gCD_i (fun _ => cmpD_ok a b) trivial ?_ | refine caE_i (cmpD_ok a b) trivial ?_
  simp +contextual (maxSteps := 1000000) only [go_sem, ints, intRows, reduceAdd, Nat.reduceBEq, reduceEqDiff, reduceLeDiff, Nat.reduceLT, reduceIte, reduceLE, Int.reduceLT, reduceEq, reduceNeg, reduceToNat, cmpD_less]
theorem RLess_ok (a b : Dt) : FnB Tryz.prog 70 [.ag (dotV a), .ag (dotV b)] (vb (lessD a b)) := by
  refine fnB_intro cf70 (by simp) ?_
  simp +contextual (maxSteps := 1000000) only [go_sem, ints, intRows, reduceAdd, Nat.reduceBEq, reduceEqDiff, reduceLeDiff, Nat.reduceLT, reduceIte, reduceLE, Int.reduceLT, reduceEq, reduceNeg, reduceToNat, c70, dotV]
  simp only [lessD, V.c.injEq, Value.bool.injEq]
  rw [Bool.eq_iff_iff]; simp
theorem gi {n : Int} (h : gInt .i64 n) : inI n := by simp [gInt, Lit.wf, IntKind.min, IntKind.max, IntKind.signed, IntKind.bits] at h; unfold inI; omega
end Go.Proofs.YtbojpedklnmidaaGreat.D
end
section
set_option linter.unusedVariables false
set_option linter.unusedSimpArgs false
set_option maxRecDepth 100000
set_option linter.constructorNameAsVariable false

/- Operations as plain values; what functions of slices answer to them. No condition. -/
namespace Go.Proofs.YtbojpedklnmidaaGreat.D
open Go Go.Proofs
open Nat (reduceAdd reduceEqDiff reduceLeDiff)
open Int (reduceLE reduceEq reduceNeg reduceToNat)
structure Vl where
  k : Int
  i : Int
  s : ByteArray
instance : Inhabited Vl := ⟨⟨0, 0, ⟨#[]⟩⟩⟩
def vlV (v : Vl) : List V := [vi v.k, vi v.i, .c (.string v.s)]
structure St3 where
  p : Int
  l : Int
  q : Int
instance : Inhabited St3 := ⟨⟨0, 0, 0⟩⟩
def stV (s : St3) : List V := [vi s.p, vi s.l, vi s.q]
structure Opx where
  dot : Dt
  deps : List Int
  st : St3
  kind : Int
  table : Int
  key : ByteArray
  col : Int
  vals : List Vl
  dots : List Dt
instance : Inhabited Opx := ⟨⟨default, [], default, 0, 0, ⟨#[]⟩, 0, [], []⟩⟩
def vals (f : Fl) (l : List Vl) : V := .im f (l.map vlV)
def dots (f : Fl) (l : List Dt) : V := .im f (l.map dotV)
def opV (x : Opx) : List V := [vi x.dot.p, vi x.dot.n, ints .b x.deps, vi x.st.p, vi x.st.l, vi x.st.q, vi x.kind, vi x.table, .c (.string x.key), vi x.col, vals .b x.vals, dots .b x.dots]
def ops (f : Fl) (l : List Opx) : V := .im f (l.map opV)
@[go_sem] theorem opV_d1 (x : Opx) : (opV x).drop 1 = [vi x.dot.n, ints .b x.deps, vi x.st.p, vi x.st.l, vi x.st.q, vi x.kind, vi x.table, .c (.string x.key), vi x.col, vals .b x.vals, dots .b x.dots] := (rfl)
@[go_sem] theorem opV_d2 (x : Opx) : (opV x).drop 2 = [ints .b x.deps, vi x.st.p, vi x.st.l, vi x.st.q, vi x.kind, vi x.table, .c (.string x.key), vi x.col, vals .b x.vals, dots .b x.dots] := (rfl)
@[go_sem] theorem opV_d3 (x : Opx) : (opV x).drop 3 = [vi x.st.p, vi x.st.l, vi x.st.q, vi x.kind, vi x.table, .c (.string x.key), vi x.col, vals .b x.vals, dots .b x.dots] := (rfl)
@[go_sem] theorem opV_d4 (x : Opx) : (opV x).drop 4 = [vi x.st.l, vi x.st.q, vi x.kind, vi x.table, .c (.string x.key), vi x.col, vals .b x.vals, dots .b x.dots] := (rfl)
@[go_sem] theorem opV_d5 (x : Opx) : (opV x).drop 5 = [vi x.st.q, vi x.kind, vi x.table, .c (.string x.key), vi x.col, vals .b x.vals, dots .b x.dots] := (rfl)
@[go_sem] theorem opV_d6 (x : Opx) : (opV x).drop 6 = [vi x.kind, vi x.table, .c (.string x.key), vi x.col, vals .b x.vals, dots .b x.dots] := (rfl)
@[go_sem] theorem opV_d7 (x : Opx) : (opV x).drop 7 = [vi x.table, .c (.string x.key), vi x.col, vals .b x.vals, dots .b x.dots] := (rfl)
@[go_sem] theorem opV_d8 (x : Opx) : (opV x).drop 8 = [.c (.string x.key), vi x.col, vals .b x.vals, dots .b x.dots] := (rfl)
@[go_sem] theorem opV_d9 (x : Opx) : (opV x).drop 9 = [vi x.col, vals .b x.vals, dots .b x.dots] := (rfl)
@[go_sem] theorem opV_d10 (x : Opx) : (opV x).drop 10 = [vals .b x.vals, dots .b x.dots] := (rfl)
@[go_sem] theorem opV_d11 (x : Opx) : (opV x).drop 11 = [dots .b x.dots] := (rfl)
@[go_sem] theorem opV_t1 (x : Opx) : (opV x).take 1 = [vi x.dot.p] := (rfl)
@[go_sem] theorem opV_t2 (x : Opx) : (opV x).take 2 = [vi x.dot.p, vi x.dot.n] := (rfl)
@[go_sem] theorem opV_t3 (x : Opx) : (opV x).take 3 = [vi x.dot.p, vi x.dot.n, ints .b x.deps] := (rfl)
@[go_sem] theorem opV_t4 (x : Opx) : (opV x).take 4 = [vi x.dot.p, vi x.dot.n, ints .b x.deps, vi x.st.p] := (rfl)
@[go_sem] theorem opV_t5 (x : Opx) : (opV x).take 5 = [vi x.dot.p, vi x.dot.n, ints .b x.deps, vi x.st.p, vi x.st.l] := (rfl)
@[go_sem] theorem opV_t6 (x : Opx) : (opV x).take 6 = [vi x.dot.p, vi x.dot.n, ints .b x.deps, vi x.st.p, vi x.st.l, vi x.st.q] := (rfl)
@[go_sem] theorem opV_t7 (x : Opx) : (opV x).take 7 = [vi x.dot.p, vi x.dot.n, ints .b x.deps, vi x.st.p, vi x.st.l, vi x.st.q, vi x.kind] := (rfl)
@[go_sem] theorem opV_t8 (x : Opx) : (opV x).take 8 = [vi x.dot.p, vi x.dot.n, ints .b x.deps, vi x.st.p, vi x.st.l, vi x.st.q, vi x.kind, vi x.table] := (rfl)
@[go_sem] theorem opV_t9 (x : Opx) : (opV x).take 9 = [vi x.dot.p, vi x.dot.n, ints .b x.deps, vi x.st.p, vi x.st.l, vi x.st.q, vi x.kind, vi x.table, .c (.string x.key)] := (rfl)
@[go_sem] theorem opV_t10 (x : Opx) : (opV x).take 10 = [vi x.dot.p, vi x.dot.n, ints .b x.deps, vi x.st.p, vi x.st.l, vi x.st.q, vi x.kind, vi x.table, .c (.string x.key), vi x.col] := (rfl)
@[go_sem] theorem opV_t11 (x : Opx) : (opV x).take 11 = [vi x.dot.p, vi x.dot.n, ints .b x.deps, vi x.st.p, vi x.st.l, vi x.st.q, vi x.kind, vi x.table, .c (.string x.key), vi x.col, vals .b x.vals] := (rfl)
@[go_sem] theorem opV_t12 (x : Opx) : (opV x).take 12 = opV x := (rfl)
@[go_sem] theorem opV_d12 (x : Opx) : (opV x).drop 12 = [] := (rfl)
@[go_sem] theorem opV_len (x : Opx) : (opV x).length = 12 := (rfl)
@[go_sem] theorem opV_leaf (x : Opx) : (opV x).all leaf = true := (rfl)
@[go_sem] theorem opV_row (x : Opx) : okRow 12 (opV x) = true := (rfl)
@[go_sem] theorem vlV_row (x : Vl) : okRow 3 (vlV x) = true := (rfl)
@[go_sem] theorem dotV_row (x : Dt) : okRow 2 (dotV x) = true := (rfl)
@[go_sem] theorem res_vl (ob : OB) (n : Nat) (x : Vl) : (vlV x).map (resV ob (n + 1)) = vlV x := (rfl)
@[go_sem] theorem res_dt (ob : OB) (n : Nat) (x : Dt) : (dotV x).map (resV ob (n + 1)) = dotV x := (rfl)
@[go_sem] theorem g_vl (ob : OB) (n : Nat) (x : Vl) : (vlV x).map (gV ob (n + 1)) = vlV x := (rfl)
@[go_sem] theorem g_dt (ob : OB) (n : Nat) (x : Dt) : (dotV x).map (gV ob (n + 1)) = dotV x := (rfl)
@[go_sem] theorem g_op (ob : OB) (n : Nat) (x : Opx) : (opV x).map (gV ob (n + 3)) = opV x := by
  simp [opV, gV, ints, vals, dots, vlV, dotV, Function.comp_def]
@[go_sem] theorem res_op (ob : OB) (n : Nat) (x : Opx) : (opV x).map (resV ob (n + 3)) = opV x := by
  simp [opV, resV, ints, vals, dots, resFl, vlV, dotV, Function.comp_def]
theorem allVals (l : List Vl) : (l.map vlV).all (okRow 3) = true := all_map _ _ (fun _ => rfl) l
theorem allDots (l : List Dt) : (l.map dotV).all (okRow 2) = true := all_map _ _ (fun _ => rfl) l
theorem allOps (l : List Opx) : (l.map opV).all (okRow 12) = true := all_map _ _ (fun _ => rfl) l
theorem gVals (ob' : OB) (l : List Vl) : ∀ r ∈ l.map vlV, r.map (gV ob' 6) = r := g_map _ (fun _ _ => rfl) ob' l
theorem gDots (ob' : OB) (l : List Dt) : ∀ r ∈ l.map dotV, r.map (gV ob' 6) = r := g_map _ (fun _ _ => rfl) ob' l
theorem gOps (ob' : OB) (l : List Opx) : ∀ r ∈ l.map opV, r.map (gV ob' 6) = r := g_map _ (fun ob' a => g_op ob' 3 a) ob' l
theorem CloneVals_ok (v : List Vl) (hv : v.length ≤ maxLen) (f : Fl) : FnB Tryz.prog 102 [vals f v] (vals .o v) := by
  refine fnB_intro cf102 (by simp) ?_
  by_cases h : v = []
  · subst h
    simp +contextual (maxSteps := 1000000) only [go_sem, ints, intRows, reduceAdd, Nat.reduceBEq, reduceEqDiff, reduceLeDiff, Nat.reduceLT, reduceIte, reduceLE, Int.reduceLT, reduceEq, reduceNeg, reduceToNat, c102, vals, List.map_nil]
    refine nxS_app Own.nil (Nat.zero_le _) rfl rfl (by simp [maxLen]) fun v' ob' ho _ => ?_
    simp +contextual (maxSteps := 1000000) only [go_sem, ints, intRows, reduceAdd, Nat.reduceBEq, reduceEqDiff, reduceLeDiff, Nat.reduceLT, reduceIte, reduceLE, Int.reduceLT, reduceEq, reduceNeg, reduceToNat]
    rw [out_own ho (fun ob' => by simp) [] (fun _ => rfl)]; rfl
  · simp +contextual (maxSteps := 1000000) only [go_sem, ints, intRows, reduceAdd, Nat.reduceBEq, reduceEqDiff, reduceLeDiff, Nat.reduceLT, reduceIte, reduceLE, Int.reduceLT, reduceEq, reduceNeg, reduceToNat, c102, vals, h]
    refine nxS_app Own.nil (Nat.zero_le _) rfl (allVals v) (by simpa using hv) fun v' ob' ho _ => ?_
    simp +contextual (maxSteps := 1000000) only [go_sem, ints, intRows, reduceAdd, Nat.reduceBEq, reduceEqDiff, reduceLeDiff, Nat.reduceLT, reduceIte, reduceLE, Int.reduceLT, reduceEq, reduceNeg, reduceToNat]
    rw [List.nil_append] at ho
    rw [out_own ho (fun ob' => gVals ob' v) [] (fun _ => rfl)]; rfl
theorem CloneDots_ok (v : List Dt) (hv : v.length ≤ maxLen) (f : Fl) : FnB Tryz.prog 74 [dots f v] (dots .o v) := by
  refine fnB_intro cf74 (by simp) ?_
  by_cases h : v = []
  · subst h
    simp +contextual (maxSteps := 1000000) only [go_sem, ints, intRows, reduceAdd, Nat.reduceBEq, reduceEqDiff, reduceLeDiff, Nat.reduceLT, reduceIte, reduceLE, Int.reduceLT, reduceEq, reduceNeg, reduceToNat, c74, dots, List.map_nil]
    refine nxS_app Own.nil (Nat.zero_le _) rfl rfl (by simp [maxLen]) fun v' ob' ho _ => ?_
    simp +contextual (maxSteps := 1000000) only [go_sem, ints, intRows, reduceAdd, Nat.reduceBEq, reduceEqDiff, reduceLeDiff, Nat.reduceLT, reduceIte, reduceLE, Int.reduceLT, reduceEq, reduceNeg, reduceToNat]
    rw [out_own ho (fun ob' => by simp) [] (fun _ => rfl)]; rfl
  · simp +contextual (maxSteps := 1000000) only [go_sem, ints, intRows, reduceAdd, Nat.reduceBEq, reduceEqDiff, reduceLeDiff, Nat.reduceLT, reduceIte, reduceLE, Int.reduceLT, reduceEq, reduceNeg, reduceToNat, c74, dots, h]
    refine nxS_app Own.nil (Nat.zero_le _) rfl (allDots v) (by simpa using hv) fun v' ob' ho _ => ?_
    simp +contextual (maxSteps := 1000000) only [go_sem, ints, intRows, reduceAdd, Nat.reduceBEq, reduceEqDiff, reduceLeDiff, Nat.reduceLT, reduceIte, reduceLE, Int.reduceLT, reduceEq, reduceNeg, reduceToNat]
    rw [List.nil_append] at ho
    rw [out_own ho (fun ob' => gDots ob' v) [] (fun _ => rfl)]; rfl
theorem bsl_row {k : Nat} {z l : List V} (ob : OB) (i : Nat) (hz : z.length = k) (h : okRow k l = true) : fill z [(0, k)] [.ag l] = some l ∧ l.take k = l := by
  simp only [okRow, Bool.and_eq_true, beq_iff_eq] at h
  obtain ⟨h1, h2⟩ := h
  refine ⟨?_, by simp [← h1]⟩
  simp only [fill, cellsV, Nat.zero_add]
  rw [if_pos ⟨h1, by simp [hz], h2⟩]
  simp [hz]
theorem op_bsl_r {k : Nat} {z l : List V} (ob : OB) (i : Nat) (hz : z.length = k) (h : okRow k l = true) : opF (.bsl k z [0] 1 true) [.ag l] ob i = some (.im .b [l], []) := by
  obtain ⟨h1, h2⟩ := bsl_row ob i hz h
  simp [opF, h1, h2, h]
theorem op_bsl_o {k : Nat} {z l : List V} (ob : OB) (i : Nat) (hz : z.length = k) (h : okRow k l = true) : opF (.bsl k z [0] 1 false) [.ag l] ob i = some (.sl i 0 1, [(i, some ⟨k, [l], none⟩)]) := by
  obtain ⟨h1, h2⟩ := bsl_row ob i hz h
  simp [opF, h1, h2, h]
section
variable {P : Program} {nid : Nat} {env : Env} {ob : OB} {J : Env → OB → Nat → Prop} {l : List RO} {d : Option Nat} {n k : Nat} {v x : V} {rows xs : List (List V)}
theorem nxS_own (hK : ∀ v' ob', ((rows = [] ∧ v' = .z) ∨ (rows ≠ [] ∧ v' = .sl nid 0 rows.length ∧ ob' nid = some ⟨k, rows, none⟩)) → (∀ id, id ≠ nid → ob' id = ob id) → wpS P l (nid + 1) (put env d v') ob' J) :
    nxS P d l nid env ob J (some (imp (.own k) nid (.im .o rows))) := by
  rw [imp_oi]
  split
  · rename_i h
    have h : rows = [] := List.eq_nil_of_length_eq_zero h
    exact hK .z ob (.inl ⟨h, rfl⟩) fun _ _ => rfl
  · rename_i h
    exact hK _ _ (.inr ⟨fun e => h (by rw [e]; rfl), rfl, updO_s _ _ _⟩) fun id hid => by simp [apps, updO, hid]
end
section
variable {P : Program} {nid : Nat} {env : Env} {ob : OB} {J : Env → OB → Nat → Prop} {l : List RO} {d : Option Nat} {n k : Nat} {v x : V} {rows xs : List (List V)}
theorem nxD_own {K : Env → OB → Prop} {dl : Ups} (hK : ∀ v' us, ((rows = [] ∧ v' = .z ∧ us = []) ∨ (rows ≠ [] ∧ v' = .sl nid 0 rows.length ∧ us = [(nid, some ⟨k, rows, none⟩)])) → wpD P l (nid + 1) (put env d v') ob (dl ++ us) K) :
    nxD P false d l nid env ob dl K (some (imp (.own k) nid (.im .o rows))) := by
  rw [imp_oi]
  split
  · rename_i h
    exact hK .z [] (.inl ⟨List.eq_nil_of_length_eq_zero h, rfl, rfl⟩)
  · rename_i h
    exact hK _ _ (.inr ⟨fun e => h (by rw [e]; rfl), rfl, rfl⟩)
end
def gVl (v : Vl) : Prop := gInt .i64 v.k ∧ gInt .i64 v.i ∧ gStr v.s
def gSt3 (s : St3) : Prop := gInt .i64 s.p ∧ gInt .i64 s.l ∧ gInt .i64 s.q
end Go.Proofs.YtbojpedklnmidaaGreat.D
end
section
set_option linter.unusedVariables false
set_option linter.unusedSimpArgs false
set_option maxRecDepth 100000
set_option linter.constructorNameAsVariable false

/- Times. No condition. -/
namespace Go.Proofs.YtbojpedklnmidaaGreat.D
open Go Go.Proofs
open Nat (reduceAdd reduceEqDiff reduceLeDiff)
open Int (reduceLE reduceEq reduceNeg reduceToNat)
theorem hIn_ok (n m : Int) : FnB Tryz.prog 157 [vi n, vi m] (vb (decide (0 ≤ n ∧ n ≤ m))) := by
  refine fnB_intro cf157 (by simp) ?_
  simp +contextual (maxSteps := 1000000) only [go_sem, ints, intRows, reduceAdd, Nat.reduceBEq, reduceEqDiff, reduceLeDiff, Nat.reduceLT, reduceIte, reduceLE, Int.reduceLT, reduceEq, reduceNeg, reduceToNat, ops, vals, dots, c157]
  rw [← Bool.decide_and]
@[go_sem] theorem stV_t3 (x : St3) : (stV x).take 3 = stV x := (rfl)
@[go_sem] theorem stV_t1 (x : St3) : (stV x).take 1 = [vi x.p] := (rfl)
@[go_sem] theorem stV_d1 (x : St3) : (stV x).drop 1 = [vi x.l, vi x.q] := (rfl)
@[go_sem] theorem stV_d2 (x : St3) : (stV x).drop 2 = [vi x.q] := (rfl)
@[go_sem] theorem stV_leaf (x : St3) : (stV x).all leaf = true := (rfl)
@[go_sem] theorem stV_len (x : St3) : (stV x).length = 3 := (rfl)
@[go_sem] theorem stV_row (x : St3) : okRow 3 (stV x) = true := (rfl)
@[go_sem] theorem res_st (ob : OB) (n : Nat) (x : St3) : (stV x).map (resV ob (n + 1)) = stV x := (rfl)
@[go_sem] theorem frz1_st (x : St3) : frz1 (.ag (stV x)) = .ag (stV x) := (rfl)
@[go_sem] theorem flat_st (x : St3) : flatV (.ag (stV x)) = true := (rfl)
@[go_sem] theorem g_st (ob : OB) (n : Nat) (x : St3) : (stV x).map (gV ob (n + 1)) = stV x := (rfl)
@[go_sem] theorem op_bsl_st (z : List V) (x : St3) (ob : OB) (i : Nat) (hz : (z.length == 3) = true) : opF (.bsl 3 z [0] 1 true) [.ag (stV x)] ob i = some (.im .b [stV x], []) := op_bsl_r ob i (by simpa using hz) (stV_row x)
def okS (s : St3) : Bool := decide (0 ≤ s.p ∧ s.p ≤ 1099511627776) && decide (0 ≤ s.l ∧ s.l ≤ 65536) && decide (0 ≤ s.q ∧ s.q ≤ 4)
def hlcE (s : St3) : Int := if okS s then 0 else 1
theorem hCheck_ok (s : St3) : FnB Tryz.prog 141 [.ag (stV s)] (vi (hlcE s)) := by
  refine fnB_intro cf141 (by simp) ?_
  simp +contextual (maxSteps := 1000000) only [go_sem, ints, intRows, reduceAdd, Nat.reduceBEq, reduceEqDiff, reduceLeDiff, Nat.reduceLT, reduceIte, reduceLE, Int.reduceLT, reduceEq, reduceNeg, reduceToNat, ops, vals, dots, c141, stV]
  first | refine caS_i (hIn_ok s.p 1099511627776) trivial ?_ | refine caD_i (hIn_ok s.p 1099511627776) trivial ?_ | refine gC_i (fun _ => hIn_ok s.p 1099511627776) trivial ?_ | refine gCD_i (fun _ => hIn_ok s.p 1099511627776) trivial ?_ | refine caE_i (hIn_ok s.p 1099511627776) trivial ?_
  simp +contextual (maxSteps := 1000000) only [go_sem, ints, intRows, reduceAdd, Nat.reduceBEq, reduceEqDiff, reduceLeDiff, Nat.reduceLT, reduceIte, reduceLE, Int.reduceLT, reduceEq, reduceNeg, reduceToNat, ops, vals, dots]
  first | refine caS_i (hIn_ok s.l 65536) trivial ?_ | refine caD_i (hIn_ok s.l 65536) trivial ?_ | refine gC_i (fun _ => hIn_ok s.l 65536) trivial ?_ | refine gCD_i (fun _ => hIn_ok s.l 65536) trivial ?_ | refine caE_i (hIn_ok s.l 65536) trivial ?_
  simp +contextual (maxSteps := 1000000) only [go_sem, ints, intRows, reduceAdd, Nat.reduceBEq, reduceEqDiff, reduceLeDiff, Nat.reduceLT, reduceIte, reduceLE, Int.reduceLT, reduceEq, reduceNeg, reduceToNat, ops, vals, dots]
  first | refine caS_i (hIn_ok s.q 4) trivial ?_ | refine caD_i (hIn_ok s.q 4) trivial ?_ | refine gC_i (fun _ => hIn_ok s.q 4) trivial ?_ | refine gCD_i (fun _ => hIn_ok s.q 4) trivial ?_ | refine caE_i (hIn_ok s.q 4) trivial ?_
  simp +contextual (maxSteps := 1000000) only [go_sem, ints, intRows, reduceAdd, Nat.reduceBEq, reduceEqDiff, reduceLeDiff, Nat.reduceLT, reduceIte, reduceLE, Int.reduceLT, reduceEq, reduceNeg, reduceToNat, ops, vals, dots]
  exact ⟨fun h => by rw [hlcE, okS, h]; rfl, fun h => by rw [hlcE, okS, h]; rfl⟩
def cmpT (a b : St3) : Int := orV [cmpI a.p b.p, cmpI a.l b.l, cmpI a.q b.q]
theorem cmpT_ok (a b : St3) : FnB Tryz.prog 91 [.ag (stV a), .ag (stV b)] (vi (cmpT a b)) := by
  refine fnB_intro cf91 (by simp) ?_
  simp +contextual (maxSteps := 1000000) only [go_sem, ints, intRows, reduceAdd, Nat.reduceBEq, reduceEqDiff, reduceLeDiff, Nat.reduceLT, reduceIte, reduceLE, Int.reduceLT, reduceEq, reduceNeg, reduceToNat, ops, vals, dots, c91, stV]
  first | refine caS_i (cmpI_ok a.p b.p) trivial ?_ | refine caD_i (cmpI_ok a.p b.p) trivial ?_ | refine gC_i (fun _ => cmpI_ok a.p b.p) trivial ?_ | refine gCD_i (fun _ => cmpI_ok a.p b.p) trivial ?_ | refine caE_i (cmpI_ok a.p b.p) trivial ?_
  simp +contextual (maxSteps := 1000000) only [go_sem, ints, intRows, reduceAdd, Nat.reduceBEq, reduceEqDiff, reduceLeDiff, Nat.reduceLT, reduceIte, reduceLE, Int.reduceLT, reduceEq, reduceNeg, reduceToNat, ops, vals, dots]
  first | refine caS_i (cmpI_ok a.l b.l) trivial ?_ | refine caD_i (cmpI_ok a.l b.l) trivial ?_ | refine gC_i (fun _ => cmpI_ok a.l b.l) trivial ?_ | refine gCD_i (fun _ => cmpI_ok a.l b.l) trivial ?_ | refine caE_i (cmpI_ok a.l b.l) trivial ?_
  simp +contextual (maxSteps := 1000000) only [go_sem, ints, intRows, reduceAdd, Nat.reduceBEq, reduceEqDiff, reduceLeDiff, Nat.reduceLT, reduceIte, reduceLE, Int.reduceLT, reduceEq, reduceNeg, reduceToNat, ops, vals, dots]
  first | refine caS_i (cmpI_ok a.q b.q) trivial ?_ | refine caD_i (cmpI_ok a.q b.q) trivial ?_ | refine gC_i (fun _ => cmpI_ok a.q b.q) trivial ?_ | refine gCD_i (fun _ => cmpI_ok a.q b.q) trivial ?_ | refine caE_i (cmpI_ok a.q b.q) trivial ?_
  simp +contextual (maxSteps := 1000000) only [go_sem, ints, intRows, reduceAdd, Nat.reduceBEq, reduceEqDiff, reduceLeDiff, Nat.reduceLT, reduceIte, reduceLE, Int.reduceLT, reduceEq, reduceNeg, reduceToNat, ops, vals, dots]
  first | refine caS_i (cmpOr_ok [cmpI a.p b.p, cmpI a.l b.l, cmpI a.q b.q] (by simp [maxLen])) trivial ?_ | refine caD_i (cmpOr_ok [cmpI a.p b.p, cmpI a.l b.l, cmpI a.q b.q] (by simp [maxLen])) trivial ?_ | refine gC_i (fun _ => cmpOr_ok [cmpI a.p b.p, cmpI a.l b.l, cmpI a.q b.q] (by simp [maxLen])) trivial ?_ | refine gCD_i (fun _ => cmpOr_ok [cmpI a.p b.p, cmpI a.l b.l, cmpI a.q b.q] (by simp [maxLen])) trivial ?_ | refine caE_i (cmpOr_ok [cmpI a.p b.p, cmpI a.l b.l, cmpI a.q b.q] (by simp [maxLen])) trivial ?_
  simp +contextual (maxSteps := 1000000) only [go_sem, ints, intRows, reduceAdd, Nat.reduceBEq, reduceEqDiff, reduceLeDiff, Nat.reduceLT, reduceIte, reduceLE, Int.reduceLT, reduceEq, reduceNeg, reduceToNat, ops, vals, dots, cmpT]
end Go.Proofs.YtbojpedklnmidaaGreat.D
end
section
set_option linter.unusedVariables false
set_option linter.unusedSimpArgs false
set_option maxRecDepth 100000
set_option linter.constructorNameAsVariable false

/- Values. No condition. -/
namespace Go.Proofs.YtbojpedklnmidaaGreat.D
open Go Go.Proofs
open Nat (reduceAdd reduceEqDiff reduceLeDiff)
open Int (reduceLE reduceEq reduceNeg reduceToNat)
theorem within_ok (n m : Int) (hm : IntKind.i64.wrap (0 - m) = -m) : FnB Tryz.prog 156 [vi n, vi m] (vb (decide (-m ≤ n ∧ n ≤ m))) := by
  refine fnB_intro cf156 (by simp) ?_
  simp +contextual (maxSteps := 1000000) only [go_sem, ints, intRows, reduceAdd, Nat.reduceBEq, reduceEqDiff, reduceLeDiff, Nat.reduceLT, reduceIte, reduceLE, Int.reduceLT, reduceEq, reduceNeg, reduceToNat, ops, vals, dots, c156, hm]
  rw [← Bool.decide_and]
@[reducible] def noS : ByteArray := ⟨#[]⟩
theorem toList_inj {a b : ByteArray} (h : a.toList = b.toList) : a = b := by
  have h2 : a.data.toList = b.data.toList := by
    rw [ByteArray.toList_eq, ByteArray.toList_eq] at h
    exact h
  cases a; cases b; simp at h2; simp [h2]
@[go_sem] theorem so_eql (a b : ByteArray) : strsOp .eql a b = some (.bool (decide (a.toList = b.toList))) := (rfl)
@[go_sem] theorem so_neq (a b : ByteArray) : strsOp .neq a b = some (.bool (!decide (a.toList = b.toList))) := (rfl)
@[go_sem] theorem vlV_leaf (x : Vl) : (vlV x).all leaf = true := (rfl)
@[go_sem] theorem dotV_leaf (x : Dt) : (dotV x).all leaf = true := (rfl)
@[go_sem] theorem vlV_len (x : Vl) : (vlV x).length = 3 := (rfl)
@[go_sem] theorem vlV_t1 (x : Vl) : (vlV x).take 1 = [vi x.k] := (rfl)
@[go_sem] theorem dotV_t1 (x : Dt) : (dotV x).take 1 = [vi x.p] := (rfl)
@[go_sem] theorem dotV_d1 (x : Dt) : (dotV x).drop 1 = [vi x.n] := (rfl)
@[go_sem] theorem vlV_d1 (x : Vl) : (vlV x).drop 1 = [vi x.i, .c (.string x.s)] := (rfl)
@[go_sem] theorem vlV_d2 (x : Vl) : (vlV x).drop 2 = [.c (.string x.s)] := (rfl)
@[go_sem] theorem vlV_t3 (x : Vl) : (vlV x).take 3 = vlV x := (rfl)
@[go_sem] theorem dotV_len (x : Dt) : (dotV x).length = 2 := (rfl)
@[go_sem] theorem dotV_t2 (x : Dt) : (dotV x).take 2 = dotV x := (rfl)
def okVl (v : Vl) : Bool :=
  if v.k = 1 then decide (v.i = 0) && decide (v.s.toList = noS.toList)
  else if v.k = 2 then (decide (v.i = 0) || decide (v.i = 1)) && decide (v.s.toList = noS.toList)
  else if v.k = 3 then decide (-1152921504606846976 ≤ v.i ∧ v.i ≤ 1152921504606846976) && decide (v.s.toList = noS.toList)
  else if v.k = 4 then decide (v.i = 0) && decide ((v.s.size : Int) ≤ 24) else false
def valE (v : Vl) : Int := if okVl v then 0 else 1
theorem vCheck_ok (v : Vl) : FnB Tryz.prog 155 [.ag (vlV v)] (vi (valE v)) := by
  refine fnB_intro cf155 (by simp) ?_
  have hm : IntKind.i64.wrap (0 - 1152921504606846976) = -1152921504606846976 := by decide
  simp +contextual (maxSteps := 1000000) only [go_sem, ints, intRows, reduceAdd, Nat.reduceBEq, reduceEqDiff, reduceLeDiff, Nat.reduceLT, reduceIte, reduceLE, Int.reduceLT, reduceEq, reduceNeg, reduceToNat, ops, vals, dots, c155, vlV]
  have no : okVl v = false → vi 1 = vi (valE v) := fun h => by rw [valE, h]; rfl
  have yes : okVl v = true → vi 0 = vi (valE v) := fun h => by rw [valE, h]; rfl
  refine ⟨fun h1 => ?_, fun h1 => ⟨fun h2 => ?_, fun h2 => ⟨fun h3 => ?_, fun h3 => ⟨fun h4 => ?_, fun h4 => ?_⟩⟩⟩⟩
  · have e : okVl v = (decide (v.i = 0) && decide (v.s.toList = noS.toList)) := by unfold okVl; rw [if_pos (by simpa using h1)]
    exact ⟨fun h => no (by rw [e, h]), fun h => yes (by rw [e]; rw [Bool.not_eq_false'] at h; exact h)⟩
  · have e : okVl v = ((decide (v.i = 0) || decide (v.i = 1)) && decide (v.s.toList = noS.toList)) := by unfold okVl; rw [if_neg (by simpa using h1), if_pos (by simpa using h2)]
    exact ⟨fun h => no (by rw [e, h]), fun h => yes (by rw [e]; rw [Bool.not_eq_false'] at h; exact h)⟩
  · have e : okVl v = (decide (-1152921504606846976 ≤ v.i ∧ v.i ≤ 1152921504606846976) && decide (v.s.toList = noS.toList)) := by unfold okVl; rw [if_neg (by simpa using h1), if_neg (by simpa using h2), if_pos (by simpa using h3)]
    first | refine caS_i (within_ok v.i 1152921504606846976 hm) trivial ?_ | refine caD_i (within_ok v.i 1152921504606846976 hm) trivial ?_ | refine gC_i (fun _ => within_ok v.i 1152921504606846976 hm) trivial ?_ | refine gCD_i (fun _ => within_ok v.i 1152921504606846976 hm) trivial ?_ | refine caE_i (within_ok v.i 1152921504606846976 hm) trivial ?_
    simp +contextual (maxSteps := 1000000) only [go_sem, ints, intRows, reduceAdd, Nat.reduceBEq, reduceEqDiff, reduceLeDiff, Nat.reduceLT, reduceIte, reduceLE, Int.reduceLT, reduceEq, reduceNeg, reduceToNat, ops, vals, dots]
    exact ⟨fun h => no (by rw [e, h]), fun h => yes (by rw [e]; rw [Bool.not_eq_false'] at h; exact h)⟩
  · have e : okVl v = (decide (v.i = 0) && decide ((v.s.size : Int) ≤ 24)) := by unfold okVl; rw [if_neg (by simpa using h1), if_neg (by simpa using h2), if_neg (by simpa using h3), if_pos (by simpa using h4)]
    exact ⟨fun h => no (by rw [e, h]), fun h => yes (by rw [e]; rw [Bool.not_eq_false'] at h; exact h)⟩
  · exact no (by unfold okVl; rw [if_neg (by simpa using h1), if_neg (by simpa using h2), if_neg (by simpa using h3), if_neg (by simpa using h4)])
def fitsV (v : Vl) (t : Int) : Bool := (decide (t = 2) || decide (t = 3) || decide (t = 4)) && okVl v && (decide (v.k = t) || decide (v.k = 1))
theorem valE_0 (v : Vl) : decide (valE v = 0) = okVl v := by unfold valE; cases okVl v <;> rfl
theorem vFits_ok (v : Vl) (t : Int) : FnB Tryz.prog 140 [.ag (vlV v), vi t] (vb (fitsV v t)) := by
  refine fnB_intro cf140 (by simp) ?_
  simp +contextual (maxSteps := 1000000) only [go_sem, ints, intRows, reduceAdd, Nat.reduceBEq, reduceEqDiff, reduceLeDiff, Nat.reduceLT, reduceIte, reduceLE, Int.reduceLT, reduceEq, reduceNeg, reduceToNat, ops, vals, dots, c140]
  first | refine caS_i (vCheck_ok v) trivial ?_ | refine caD_i (vCheck_ok v) trivial ?_ | refine gC_i (fun _ => vCheck_ok v) trivial ?_ | refine gCD_i (fun _ => vCheck_ok v) trivial ?_ | refine caE_i (vCheck_ok v) trivial ?_
  simp +contextual (maxSteps := 1000000) only [go_sem, ints, intRows, reduceAdd, Nat.reduceBEq, reduceEqDiff, reduceLeDiff, Nat.reduceLT, reduceIte, reduceLE, Int.reduceLT, reduceEq, reduceNeg, reduceToNat, ops, vals, dots, valE_0]
  rfl
def smallV (v : Vl) : Bool := okVl v && (!decide (v.k = 3) || decide (-2147483648 ≤ v.i ∧ v.i ≤ 2147483648))
theorem vSmall_ok (v : Vl) : FnB Tryz.prog 139 [.ag (vlV v)] (vb (smallV v)) := by
  refine fnB_intro cf139 (by simp) ?_
  have hm : IntKind.i64.wrap (0 - 2147483648) = -2147483648 := by decide
  simp +contextual (maxSteps := 1000000) only [go_sem, ints, intRows, reduceAdd, Nat.reduceBEq, reduceEqDiff, reduceLeDiff, Nat.reduceLT, reduceIte, reduceLE, Int.reduceLT, reduceEq, reduceNeg, reduceToNat, ops, vals, dots, c139]
  first | refine caS_i (vCheck_ok v) trivial ?_ | refine caD_i (vCheck_ok v) trivial ?_ | refine gC_i (fun _ => vCheck_ok v) trivial ?_ | refine gCD_i (fun _ => vCheck_ok v) trivial ?_ | refine caE_i (vCheck_ok v) trivial ?_
  simp +contextual (maxSteps := 1000000) only [go_sem, ints, intRows, reduceAdd, Nat.reduceBEq, reduceEqDiff, reduceLeDiff, Nat.reduceLT, reduceIte, reduceLE, Int.reduceLT, reduceEq, reduceNeg, reduceToNat, ops, vals, dots, valE_0]
  first | refine caS_i (within_ok v.i 2147483648 hm) trivial ?_ | refine caD_i (within_ok v.i 2147483648 hm) trivial ?_ | refine gC_i (fun _ => within_ok v.i 2147483648 hm) trivial ?_ | refine gCD_i (fun _ => within_ok v.i 2147483648 hm) trivial ?_ | refine caE_i (within_ok v.i 2147483648 hm) trivial ?_
  simp +contextual (maxSteps := 1000000) only [go_sem, ints, intRows, reduceAdd, Nat.reduceBEq, reduceEqDiff, reduceLeDiff, Nat.reduceLT, reduceIte, reduceLE, Int.reduceLT, reduceEq, reduceNeg, reduceToNat, ops, vals, dots]
  unfold smallV
  cases okVl v <;> by_cases h3 : v.k = 3 <;> simp [h3]
theorem ia_h (ob : OB) (k : Nat) (f : Fl) (r : List V) (l : List (List V)) : iaV ob k (.im f (r :: l)) 0 = if r.length = k then some (.bp r) else none := by
  simp [iaV]
@[go_sem] theorem frz1_vl (x : Vl) : frz1 (.ag (vlV x)) = .ag (vlV x) := (rfl)
@[go_sem] theorem op_bsl_vl (z : List V) (x : Vl) (ob : OB) (i : Nat) (hz : (z.length == 3) = true) : opF (.bsl 3 z [0] 1 true) [.ag (vlV x)] ob i = some (.im .b [vlV x], []) := op_bsl_r ob i (by simpa using hz) (vlV_row x)
@[go_sem] theorem op_bsl_isc (z : List V) (i j : Int) (s : ByteArray) (ob : OB) (n : Nat) (hz : (z.length == 3) = true) : opF (.bsl 3 z [0] 1 true) [.ag [.c (.int .i64 i), .c (.int .i64 j), .c (.string s)]] ob n = some (.im .b [[.c (.int .i64 i), .c (.int .i64 j), .c (.string s)]], []) := op_bsl_vl z ⟨i, j, s⟩ ob n hz
@[go_sem] theorem op_bsl_vlo (z : List V) (x : Vl) (ob : OB) (i : Nat) (hz : (z.length == 3) = true) : opF (.bsl 3 z [0] 1 false) [.ag (vlV x)] ob i = some (.sl i 0 1, [(i, some ⟨3, [vlV x], none⟩)]) := op_bsl_o ob i (by simpa using hz) (vlV_row x)
@[go_sem] theorem op_bsl_isco (z : List V) (i j : Int) (s : ByteArray) (ob : OB) (n : Nat) (hz : (z.length == 3) = true) : opF (.bsl 3 z [0] 1 false) [.ag [.c (.int .i64 i), .c (.int .i64 j), .c (.string s)]] ob n = some (.sl n 0 1, [(n, some ⟨3, [[.c (.int .i64 i), .c (.int .i64 j), .c (.string s)]], none⟩)]) := op_bsl_vlo z ⟨i, j, s⟩ ob n hz
theorem beq_add (n a b : Nat) : (n + a == n + b) = (a == b) := by rw [Bool.eq_iff_iff, beq_iff_eq, beq_iff_eq]; omega
theorem beq_0s (n k : Nat) : (n == n + (k + 1)) = false := by simp
theorem beq_s0 (n k : Nat) : (n + (k + 1) == n) = false := by simp
@[go_sem] theorem op_bsl_dto (z : List V) (i j : Int) (ob : OB) (n : Nat) (hz : (z.length == 2) = true) : opF (.bsl 2 z [0] 1 false) [.ag [.c (.int .i64 i), .c (.int .i64 j)]] ob n = some (.sl n 0 1, [(n, some ⟨2, [[.c (.int .i64 i), .c (.int .i64 j)]], none⟩)]) := op_bsl_o ob n (by simpa using hz) (dotV_row ⟨i, j⟩)
end Go.Proofs.YtbojpedklnmidaaGreat.D
end
section
set_option linter.unusedVariables false
set_option linter.unusedSimpArgs false
set_option maxRecDepth 100000
set_option linter.constructorNameAsVariable false

/- Cells, rows, tables as plain values; functions of slices at them. No condition. -/
namespace Go.Proofs.YtbojpedklnmidaaGreat.D
open Go Go.Proofs
open Nat (reduceAdd reduceEqDiff reduceLeDiff)
open Int (reduceLE reduceEq reduceNeg reduceToNat)
structure Cel where
  v : Vl
  st : St3
  d : Dt
instance : Inhabited Cel := ⟨⟨default, default, default⟩⟩
def celV (c : Cel) : List V := [vi c.v.k, vi c.v.i, .c (.string c.v.s), vi c.st.p, vi c.st.l, vi c.st.q, vi c.d.p, vi c.d.n]
def cels (f : Fl) (l : List Cel) : V := .im f (l.map celV)
structure Rwx where
  key : ByteArray
  dots : List Dt
  cells : List Cel
instance : Inhabited Rwx := ⟨⟨⟨#[]⟩, [], []⟩⟩
def rwV (r : Rwx) : List V := [.c (.string r.key), dots .b r.dots, cels .b r.cells]
def rws (f : Fl) (l : List Rwx) : V := .im f (l.map rwV)
def tbV (cols : List Int) : List V := [ints .b cols]
def tbs (f : Fl) (l : List (List Int)) : V := .im f (l.map tbV)
@[go_sem] theorem celV_leaf (c : Cel) : (celV c).all leaf = true := (rfl)
@[go_sem] theorem celV_len (c : Cel) : (celV c).length = 8 := (rfl)
@[go_sem] theorem celV_row (c : Cel) : okRow 8 (celV c) = true := (rfl)
@[go_sem] theorem celV_t1 (c : Cel) : (celV c).take 1 = [vi c.v.k] := (rfl)
@[go_sem] theorem celV_t3 (c : Cel) : (celV c).take 3 = vlV c.v := (rfl)
@[go_sem] theorem celV_t8 (c : Cel) : (celV c).take 8 = celV c := (rfl)
@[go_sem] theorem celV_d3 (c : Cel) : (celV c).drop 3 = [vi c.st.p, vi c.st.l, vi c.st.q, vi c.d.p, vi c.d.n] := (rfl)
@[go_sem] theorem celV_d6 (c : Cel) : (celV c).drop 6 = dotV c.d := (rfl)
@[go_sem] theorem celV_d8 (c : Cel) : (celV c).drop 8 = [] := (rfl)
@[go_sem] theorem res_cel (ob : OB) (n : Nat) (c : Cel) : (celV c).map (resV ob (n + 1)) = celV c := (rfl)
@[go_sem] theorem g_cel (ob : OB) (n : Nat) (c : Cel) : (celV c).map (gV ob (n + 1)) = celV c := (rfl)
@[go_sem] theorem frz1_cel (c : Cel) : frz1 (.ag (celV c)) = .ag (celV c) := (rfl)
@[go_sem] theorem flat_cel (c : Cel) : flatV (.ag (celV c)) = true := (rfl)
@[go_sem] theorem st_cel (c : Cel) : [vi c.st.p, vi c.st.l, vi c.st.q] = stV c.st := (rfl)
@[go_sem] theorem leaf_cels (f : Fl) (l : List Cel) : leaf (cels f l) = true := (rfl)
@[go_sem] theorem len_cels (f : Fl) (l : List Cel) : lenOf (cels f l) = some l.length := by simp [cels, lenOf]
@[go_sem] theorem rwV_leaf (r : Rwx) : (rwV r).all leaf = true := (rfl)
@[go_sem] theorem rwV_len (r : Rwx) : (rwV r).length = 3 := (rfl)
@[go_sem] theorem rwV_row (r : Rwx) : okRow 3 (rwV r) = true := (rfl)
@[go_sem] theorem rwV_t1 (r : Rwx) : (rwV r).take 1 = [.c (.string r.key)] := (rfl)
@[go_sem] theorem rwV_t3 (r : Rwx) : (rwV r).take 3 = rwV r := (rfl)
@[go_sem] theorem rwV_d1 (r : Rwx) : (rwV r).drop 1 = [dots .b r.dots, cels .b r.cells] := (rfl)
@[go_sem] theorem rwV_d2 (r : Rwx) : (rwV r).drop 2 = [cels .b r.cells] := (rfl)
@[go_sem] theorem rwV_d3 (r : Rwx) : (rwV r).drop 3 = [] := (rfl)
@[go_sem] theorem frz1_rw (r : Rwx) : frz1 (.ag (rwV r)) = .ag (rwV r) := (rfl)
theorem g_dots (ob : OB) (n : Nat) (l : List Dt) : gV ob (n + 2) (dots .b l) = dots .b l := by
  simp only [dots, gV, List.map_map]; congr 1
theorem res_dots (ob : OB) (n : Nat) (f : Fl) (l : List Dt) : resV ob (n + 2) (dots f l) = dots (resFl f) l := by
  simp only [dots, resV, List.map_map]; congr 1
theorem g_cels (ob : OB) (n : Nat) (l : List Cel) : gV ob (n + 2) (cels .b l) = cels .b l := by
  simp only [cels, gV, List.map_map]; congr 1
theorem res_cels (ob : OB) (n : Nat) (f : Fl) (l : List Cel) : resV ob (n + 2) (cels f l) = cels (resFl f) l := by
  simp only [cels, resV, List.map_map]; congr 1
@[go_sem] theorem g_rw (ob : OB) (n : Nat) (r : Rwx) : (rwV r).map (gV ob (n + 3)) = rwV r := by
  simp only [rwV, List.map_cons, List.map_nil, g_dots, g_cels]; rfl
@[go_sem] theorem res_rw (ob : OB) (n : Nat) (r : Rwx) : (rwV r).map (resV ob (n + 3)) = rwV r := by
  simp only [rwV, List.map_cons, List.map_nil, res_dots, res_cels]; rfl
theorem allCels (l : List Cel) : (l.map celV).all (okRow 8) = true := all_map _ _ (fun _ => rfl) l
theorem allRws (l : List Rwx) : (l.map rwV).all (okRow 3) = true := all_map _ _ (fun _ => rfl) l
theorem gCels (ob' : OB) (l : List Cel) : ∀ r ∈ l.map celV, r.map (gV ob' 6) = r := g_map _ (fun _ _ => rfl) ob' l
theorem gRws (ob' : OB) (l : List Rwx) : ∀ r ∈ l.map rwV, r.map (gV ob' 6) = r := g_map _ (fun ob' a => g_rw ob' 3 a) ob' l
@[go_sem] theorem tbV_len (r : List Int) : (tbV r).length = 1 := (rfl)
@[go_sem] theorem tbV_row (r : List Int) : okRow 1 (tbV r) = true := (rfl)
@[go_sem] theorem tbV_leaf (r : List Int) : (tbV r).all leaf = true := (rfl)
@[go_sem] theorem tbV_t1 (r : List Int) : (tbV r).take 1 = [ints .b r] := (rfl)
@[go_sem] theorem frz1_tb (r : List Int) : frz1 (.ag (tbV r)) = .ag (tbV r) := (rfl)
@[go_sem] theorem res_tb (ob : OB) (n : Nat) (r : List Int) : (tbV r).map (resV ob (n + 2)) = tbV r := by
  simp only [tbV, ints, List.map_cons, List.map_nil, resV, List.map_map]; congr 2
def flg : Bool → Fl
  | false => .b
  | true => .n
structure Rwf where
  r : Rwx
  fd : Bool
  fc : Bool
instance : Inhabited Rwf := ⟨⟨default, false, false⟩⟩
def rwF (x : Rwf) : List V := [.c (.string x.r.key), dots (flg x.fd) x.r.dots, cels (flg x.fc) x.r.cells]
@[go_sem] theorem rwF_leaf (r : Rwf) : (rwF r).all leaf = true := (rfl)
@[go_sem] theorem rwF_len (r : Rwf) : (rwF r).length = 3 := (rfl)
@[go_sem] theorem rwF_row (r : Rwf) : okRow 3 (rwF r) = true := (rfl)
@[go_sem] theorem rwF_t1 (r : Rwf) : (rwF r).take 1 = [.c (.string r.r.key)] := (rfl)
@[go_sem] theorem rwF_t3 (r : Rwf) : (rwF r).take 3 = rwF r := (rfl)
@[go_sem] theorem rwF_d1 (r : Rwf) : (rwF r).drop 1 = [dots (flg r.fd) r.r.dots, cels (flg r.fc) r.r.cells] := (rfl)
@[go_sem] theorem rwF_d2 (r : Rwf) : (rwF r).drop 2 = [cels (flg r.fc) r.r.cells] := (rfl)
@[go_sem] theorem rwF_d3 (r : Rwf) : (rwF r).drop 3 = [] := (rfl)
@[go_sem] theorem frz1_rwF (r : Rwf) : frz1 (.ag (rwF r)) = .ag (rwF r) := (rfl)
@[go_sem] theorem res_flg (b : Bool) : resFl (flg b) = flg b := by cases b <;> rfl
@[go_sem] theorem res_rwF (ob : OB) (n : Nat) (r : Rwf) : (rwF r).map (resV ob (n + 3)) = rwF r := by
  simp only [rwF, List.map_cons, List.map_nil, res_dots, res_cels, res_flg]; rfl
def rwfs (f : Fl) (l : List Rwf) : V := .im f (l.map rwF)
structure Opz extends Opx where
  fd : Bool
instance : Inhabited Opz := ⟨⟨default, false⟩⟩
def opZ (x : Opz) : List V := [vi x.dot.p, vi x.dot.n, ints .b x.deps, vi x.st.p, vi x.st.l, vi x.st.q, vi x.kind, vi x.table, .c (.string x.key), vi x.col, vals .b x.vals, dots (flg x.fd) x.dots]
@[go_sem] theorem opZ_d1 (x : Opz) : (opZ x).drop 1 = [vi x.dot.n, ints .b x.deps, vi x.st.p, vi x.st.l, vi x.st.q, vi x.kind, vi x.table, .c (.string x.key), vi x.col, vals .b x.vals, dots (flg x.fd) x.dots] := (rfl)
@[go_sem] theorem opZ_d2 (x : Opz) : (opZ x).drop 2 = [ints .b x.deps, vi x.st.p, vi x.st.l, vi x.st.q, vi x.kind, vi x.table, .c (.string x.key), vi x.col, vals .b x.vals, dots (flg x.fd) x.dots] := (rfl)
@[go_sem] theorem opZ_d3 (x : Opz) : (opZ x).drop 3 = [vi x.st.p, vi x.st.l, vi x.st.q, vi x.kind, vi x.table, .c (.string x.key), vi x.col, vals .b x.vals, dots (flg x.fd) x.dots] := (rfl)
@[go_sem] theorem opZ_d4 (x : Opz) : (opZ x).drop 4 = [vi x.st.l, vi x.st.q, vi x.kind, vi x.table, .c (.string x.key), vi x.col, vals .b x.vals, dots (flg x.fd) x.dots] := (rfl)
@[go_sem] theorem opZ_d5 (x : Opz) : (opZ x).drop 5 = [vi x.st.q, vi x.kind, vi x.table, .c (.string x.key), vi x.col, vals .b x.vals, dots (flg x.fd) x.dots] := (rfl)
@[go_sem] theorem opZ_d6 (x : Opz) : (opZ x).drop 6 = [vi x.kind, vi x.table, .c (.string x.key), vi x.col, vals .b x.vals, dots (flg x.fd) x.dots] := (rfl)
@[go_sem] theorem opZ_d7 (x : Opz) : (opZ x).drop 7 = [vi x.table, .c (.string x.key), vi x.col, vals .b x.vals, dots (flg x.fd) x.dots] := (rfl)
@[go_sem] theorem opZ_d8 (x : Opz) : (opZ x).drop 8 = [.c (.string x.key), vi x.col, vals .b x.vals, dots (flg x.fd) x.dots] := (rfl)
@[go_sem] theorem opZ_d9 (x : Opz) : (opZ x).drop 9 = [vi x.col, vals .b x.vals, dots (flg x.fd) x.dots] := (rfl)
@[go_sem] theorem opZ_d10 (x : Opz) : (opZ x).drop 10 = [vals .b x.vals, dots (flg x.fd) x.dots] := (rfl)
@[go_sem] theorem opZ_d11 (x : Opz) : (opZ x).drop 11 = [dots (flg x.fd) x.dots] := (rfl)
@[go_sem] theorem opZ_t1 (x : Opz) : (opZ x).take 1 = [vi x.dot.p] := (rfl)
@[go_sem] theorem opZ_t2 (x : Opz) : (opZ x).take 2 = [vi x.dot.p, vi x.dot.n] := (rfl)
@[go_sem] theorem opZ_t3 (x : Opz) : (opZ x).take 3 = [vi x.dot.p, vi x.dot.n, ints .b x.deps] := (rfl)
@[go_sem] theorem opZ_t4 (x : Opz) : (opZ x).take 4 = [vi x.dot.p, vi x.dot.n, ints .b x.deps, vi x.st.p] := (rfl)
@[go_sem] theorem opZ_t5 (x : Opz) : (opZ x).take 5 = [vi x.dot.p, vi x.dot.n, ints .b x.deps, vi x.st.p, vi x.st.l] := (rfl)
@[go_sem] theorem opZ_t6 (x : Opz) : (opZ x).take 6 = [vi x.dot.p, vi x.dot.n, ints .b x.deps, vi x.st.p, vi x.st.l, vi x.st.q] := (rfl)
@[go_sem] theorem opZ_t7 (x : Opz) : (opZ x).take 7 = [vi x.dot.p, vi x.dot.n, ints .b x.deps, vi x.st.p, vi x.st.l, vi x.st.q, vi x.kind] := (rfl)
@[go_sem] theorem opZ_t8 (x : Opz) : (opZ x).take 8 = [vi x.dot.p, vi x.dot.n, ints .b x.deps, vi x.st.p, vi x.st.l, vi x.st.q, vi x.kind, vi x.table] := (rfl)
@[go_sem] theorem opZ_t9 (x : Opz) : (opZ x).take 9 = [vi x.dot.p, vi x.dot.n, ints .b x.deps, vi x.st.p, vi x.st.l, vi x.st.q, vi x.kind, vi x.table, .c (.string x.key)] := (rfl)
@[go_sem] theorem opZ_t10 (x : Opz) : (opZ x).take 10 = [vi x.dot.p, vi x.dot.n, ints .b x.deps, vi x.st.p, vi x.st.l, vi x.st.q, vi x.kind, vi x.table, .c (.string x.key), vi x.col] := (rfl)
@[go_sem] theorem opZ_t11 (x : Opz) : (opZ x).take 11 = [vi x.dot.p, vi x.dot.n, ints .b x.deps, vi x.st.p, vi x.st.l, vi x.st.q, vi x.kind, vi x.table, .c (.string x.key), vi x.col, vals .b x.vals] := (rfl)
@[go_sem] theorem opZ_t12 (x : Opz) : (opZ x).take 12 = opZ x := (rfl)
@[go_sem] theorem opZ_d12 (x : Opz) : (opZ x).drop 12 = [] := (rfl)
@[go_sem] theorem opZ_len (x : Opz) : (opZ x).length = 12 := (rfl)
@[go_sem] theorem opZ_leaf (x : Opz) : (opZ x).all leaf = true := (rfl)
@[go_sem] theorem opZ_row (x : Opz) : okRow 12 (opZ x) = true := (rfl)
@[go_sem] theorem res_opZ (ob : OB) (n : Nat) (x : Opz) : (opZ x).map (resV ob (n + 3)) = opZ x := by
  obtain ⟨o, fd⟩ := x
  cases fd <;> simp [opZ, flg, resV, ints, vals, dots, resFl, vlV, dotV, Function.comp_def]
@[go_sem] theorem frz1_opZ (x : Opz) : frz1 (.ag (opZ x)) = .ag (opZ x) := (rfl)
theorem IndexCels_ok {fl : Fl} (l : List Cel) (f : Nat) (caps : List V) (p : Cel → Bool) (hl : l.length ≤ maxLen) (hc : ∀ ob, caps.map (resV ob 6) = caps) (hp : ∀ x ∈ l, FnB Tryz.prog f (.ag (celV x) :: caps) (vb (p x))) :
    FnB Tryz.prog 142 [cels fl l, .fn f caps] (vi (idxI p l)) := by
  unfold maxLen at hl
  refine fnB_intro cf142 (by simp) ?_
  simp +contextual (maxSteps := 1000000) only [go_sem, ints, intRows, reduceAdd, Nat.reduceBEq, reduceEqDiff, reduceLeDiff, Nat.reduceLT, reduceIte, reduceLE, Int.reduceLT, reduceEq, reduceNeg, reduceToNat, ops, vals, dots, c142, cels]
  refine wpC_lp (fun env ob n => env 0 = cels fl l ∧ env 1 = .fn f caps ∧ env 7 = vi l.length ∧ ∃ i : Nat, env 8 = vi i ∧ i ≤ l.length ∧ ∀ n ∈ l.take i, p n = false) (fun env ob n => (l.length - iv (env 8)).toNat) ?_ ?_
  · simp +contextual (maxSteps := 1000000) only [go_sem, ints, intRows, reduceAdd, Nat.reduceBEq, reduceEqDiff, reduceLeDiff, Nat.reduceLT, reduceIte, reduceLE, Int.reduceLT, reduceEq, reduceNeg, reduceToNat, ops, vals, dots, cels]
    simp
    exact ⟨0, by simp⟩
  · rintro env ob n ⟨h0, h1, h7, i, h8, hi, he⟩
    simp +contextual (maxSteps := 1000000) only [go_sem, ints, intRows, reduceAdd, Nat.reduceBEq, reduceEqDiff, reduceLeDiff, Nat.reduceLT, reduceIte, reduceLE, Int.reduceLT, reduceEq, reduceNeg, reduceToNat, ops, vals, dots, h0, h1, h7, h8, List.map_append, List.map_cons, hc, cels]
    refine ⟨fun hlt => ?_, fun hge => ?_⟩
    · simp at hlt
      have hpi := hp (gN l i) (by rw [gN_eq hlt]; exact List.getElem_mem _)
      repeat (refine And.intro (by omega) ?_)
      first | refine caS_i (hpi) trivial ?_ | refine caD_i (hpi) trivial ?_ | refine gC_i (fun _ => hpi) trivial ?_ | refine gCD_i (fun _ => hpi) trivial ?_ | refine caE_i (hpi) trivial ?_
      simp +contextual (maxSteps := 1000000) only [go_sem, ints, intRows, reduceAdd, Nat.reduceBEq, reduceEqDiff, reduceLeDiff, Nat.reduceLT, reduceIte, reduceLE, Int.reduceLT, reduceEq, reduceNeg, reduceToNat, ops, vals, dots, h0, h1, h7, h8, cels]
      refine ⟨fun hb => ?_, fun hg => ⟨⟨i + 1, ?_, by omega, (take_succ_iff hlt).2 ⟨he, hg⟩⟩, ?_⟩⟩
      · rw [idxI_at hlt he hb]
      · rw [w64 (by omega)]; simp
      · rw [w64 (by omega)]; omega
    · simp at hge
      rw [List.take_of_length_le (by omega)] at he
      rw [idxI_no he]
theorem IndexTbs_ok {fl : Fl} (l : List (List Int)) (f : Nat) (caps : List V) (p : (List Int) → Bool) (hl : l.length ≤ maxLen) (hc : ∀ ob, caps.map (resV ob 6) = caps) (hp : ∀ x ∈ l, FnB Tryz.prog f (.ag (tbV x) :: caps) (vb (p x))) :
    FnB Tryz.prog 124 [tbs fl l, .fn f caps] (vi (idxI p l)) := by
  unfold maxLen at hl
  refine fnB_intro cf124 (by simp) ?_
  simp +contextual (maxSteps := 1000000) only [go_sem, ints, intRows, reduceAdd, Nat.reduceBEq, reduceEqDiff, reduceLeDiff, Nat.reduceLT, reduceIte, reduceLE, Int.reduceLT, reduceEq, reduceNeg, reduceToNat, ops, vals, dots, c124, tbs]
  refine wpC_lp (fun env ob n => env 0 = tbs fl l ∧ env 1 = .fn f caps ∧ env 7 = vi l.length ∧ ∃ i : Nat, env 8 = vi i ∧ i ≤ l.length ∧ ∀ n ∈ l.take i, p n = false) (fun env ob n => (l.length - iv (env 8)).toNat) ?_ ?_
  · simp +contextual (maxSteps := 1000000) only [go_sem, ints, intRows, reduceAdd, Nat.reduceBEq, reduceEqDiff, reduceLeDiff, Nat.reduceLT, reduceIte, reduceLE, Int.reduceLT, reduceEq, reduceNeg, reduceToNat, ops, vals, dots, tbs]
    simp
    exact ⟨0, by simp⟩
  · rintro env ob n ⟨h0, h1, h7, i, h8, hi, he⟩
    simp +contextual (maxSteps := 1000000) only [go_sem, ints, intRows, reduceAdd, Nat.reduceBEq, reduceEqDiff, reduceLeDiff, Nat.reduceLT, reduceIte, reduceLE, Int.reduceLT, reduceEq, reduceNeg, reduceToNat, ops, vals, dots, h0, h1, h7, h8, List.map_append, List.map_cons, hc, tbs]
    refine ⟨fun hlt => ?_, fun hge => ?_⟩
    · simp at hlt
      have hpi := hp (gN l i) (by rw [gN_eq hlt]; exact List.getElem_mem _)
      repeat (refine And.intro (by omega) ?_)
      first | refine caS_i (hpi) trivial ?_ | refine caD_i (hpi) trivial ?_ | refine gC_i (fun _ => hpi) trivial ?_ | refine gCD_i (fun _ => hpi) trivial ?_ | refine caE_i (hpi) trivial ?_
      simp +contextual (maxSteps := 1000000) only [go_sem, ints, intRows, reduceAdd, Nat.reduceBEq, reduceEqDiff, reduceLeDiff, Nat.reduceLT, reduceIte, reduceLE, Int.reduceLT, reduceEq, reduceNeg, reduceToNat, ops, vals, dots, h0, h1, h7, h8, tbs]
      refine ⟨fun hb => ?_, fun hg => ⟨⟨i + 1, ?_, by omega, (take_succ_iff hlt).2 ⟨he, hg⟩⟩, ?_⟩⟩
      · rw [idxI_at hlt he hb]
      · rw [w64 (by omega)]; simp
      · rw [w64 (by omega)]; omega
    · simp at hge
      rw [List.take_of_length_le (by omega)] at he
      rw [idxI_no he]
theorem IndexVals_ok {fl : Fl} (l : List Vl) (f : Nat) (caps : List V) (p : Vl → Bool) (hl : l.length ≤ maxLen) (hc : ∀ ob, caps.map (resV ob 6) = caps) (hp : ∀ x ∈ l, FnB Tryz.prog f (.ag (vlV x) :: caps) (vb (p x))) :
    FnB Tryz.prog 159 [vals fl l, .fn f caps] (vi (idxI p l)) := by
  unfold maxLen at hl
  refine fnB_intro cf159 (by simp) ?_
  simp +contextual (maxSteps := 1000000) only [go_sem, ints, intRows, reduceAdd, Nat.reduceBEq, reduceEqDiff, reduceLeDiff, Nat.reduceLT, reduceIte, reduceLE, Int.reduceLT, reduceEq, reduceNeg, reduceToNat, ops, vals, dots, c159, vals]
  refine wpC_lp (fun env ob n => env 0 = vals fl l ∧ env 1 = .fn f caps ∧ env 7 = vi l.length ∧ ∃ i : Nat, env 8 = vi i ∧ i ≤ l.length ∧ ∀ n ∈ l.take i, p n = false) (fun env ob n => (l.length - iv (env 8)).toNat) ?_ ?_
  · simp +contextual (maxSteps := 1000000) only [go_sem, ints, intRows, reduceAdd, Nat.reduceBEq, reduceEqDiff, reduceLeDiff, Nat.reduceLT, reduceIte, reduceLE, Int.reduceLT, reduceEq, reduceNeg, reduceToNat, ops, vals, dots, vals]
    simp
    exact ⟨0, by simp⟩
  · rintro env ob n ⟨h0, h1, h7, i, h8, hi, he⟩
    simp +contextual (maxSteps := 1000000) only [go_sem, ints, intRows, reduceAdd, Nat.reduceBEq, reduceEqDiff, reduceLeDiff, Nat.reduceLT, reduceIte, reduceLE, Int.reduceLT, reduceEq, reduceNeg, reduceToNat, ops, vals, dots, h0, h1, h7, h8, List.map_append, List.map_cons, hc, vals]
    refine ⟨fun hlt => ?_, fun hge => ?_⟩
    · simp at hlt
      have hpi := hp (gN l i) (by rw [gN_eq hlt]; exact List.getElem_mem _)
      repeat (refine And.intro (by omega) ?_)
      first | refine caS_i (hpi) trivial ?_ | refine caD_i (hpi) trivial ?_ | refine gC_i (fun _ => hpi) trivial ?_ | refine gCD_i (fun _ => hpi) trivial ?_ | refine caE_i (hpi) trivial ?_
      simp +contextual (maxSteps := 1000000) only [go_sem, ints, intRows, reduceAdd, Nat.reduceBEq, reduceEqDiff, reduceLeDiff, Nat.reduceLT, reduceIte, reduceLE, Int.reduceLT, reduceEq, reduceNeg, reduceToNat, ops, vals, dots, h0, h1, h7, h8, vals]
      refine ⟨fun hb => ?_, fun hg => ⟨⟨i + 1, ?_, by omega, (take_succ_iff hlt).2 ⟨he, hg⟩⟩, ?_⟩⟩
      · rw [idxI_at hlt he hb]
      · rw [w64 (by omega)]; simp
      · rw [w64 (by omega)]; omega
    · simp at hge
      rw [List.take_of_length_le (by omega)] at he
      rw [idxI_no he]
theorem IndexDots_ok {fl : Fl} (l : List Dt) (f : Nat) (caps : List V) (p : Dt → Bool) (hl : l.length ≤ maxLen) (hc : ∀ ob, caps.map (resV ob 6) = caps) (hp : ∀ x ∈ l, FnB Tryz.prog f (.ag (dotV x) :: caps) (vb (p x))) :
    FnB Tryz.prog 122 [dots fl l, .fn f caps] (vi (idxI p l)) := by
  unfold maxLen at hl
  refine fnB_intro cf122 (by simp) ?_
  simp +contextual (maxSteps := 1000000) only [go_sem, ints, intRows, reduceAdd, Nat.reduceBEq, reduceEqDiff, reduceLeDiff, Nat.reduceLT, reduceIte, reduceLE, Int.reduceLT, reduceEq, reduceNeg, reduceToNat, ops, vals, dots, c122, dots]
  refine wpC_lp (fun env ob n => env 0 = dots fl l ∧ env 1 = .fn f caps ∧ env 7 = vi l.length ∧ ∃ i : Nat, env 8 = vi i ∧ i ≤ l.length ∧ ∀ n ∈ l.take i, p n = false) (fun env ob n => (l.length - iv (env 8)).toNat) ?_ ?_
  · simp +contextual (maxSteps := 1000000) only [go_sem, ints, intRows, reduceAdd, Nat.reduceBEq, reduceEqDiff, reduceLeDiff, Nat.reduceLT, reduceIte, reduceLE, Int.reduceLT, reduceEq, reduceNeg, reduceToNat, ops, vals, dots, dots]
    simp
    exact ⟨0, by simp⟩
  · rintro env ob n ⟨h0, h1, h7, i, h8, hi, he⟩
    simp +contextual (maxSteps := 1000000) only [go_sem, ints, intRows, reduceAdd, Nat.reduceBEq, reduceEqDiff, reduceLeDiff, Nat.reduceLT, reduceIte, reduceLE, Int.reduceLT, reduceEq, reduceNeg, reduceToNat, ops, vals, dots, h0, h1, h7, h8, List.map_append, List.map_cons, hc, dots]
    refine ⟨fun hlt => ?_, fun hge => ?_⟩
    · simp at hlt
      have hpi := hp (gN l i) (by rw [gN_eq hlt]; exact List.getElem_mem _)
      repeat (refine And.intro (by omega) ?_)
      first | refine caS_i (hpi) trivial ?_ | refine caD_i (hpi) trivial ?_ | refine gC_i (fun _ => hpi) trivial ?_ | refine gCD_i (fun _ => hpi) trivial ?_ | refine caE_i (hpi) trivial ?_
      simp +contextual (maxSteps := 1000000) only [go_sem, ints, intRows, reduceAdd, Nat.reduceBEq, reduceEqDiff, reduceLeDiff, Nat.reduceLT, reduceIte, reduceLE, Int.reduceLT, reduceEq, reduceNeg, reduceToNat, ops, vals, dots, h0, h1, h7, h8, dots]
      refine ⟨fun hb => ?_, fun hg => ⟨⟨i + 1, ?_, by omega, (take_succ_iff hlt).2 ⟨he, hg⟩⟩, ?_⟩⟩
      · rw [idxI_at hlt he hb]
      · rw [w64 (by omega)]; simp
      · rw [w64 (by omega)]; omega
    · simp at hge
      rw [List.take_of_length_le (by omega)] at he
      rw [idxI_no he]
theorem ContainsCels_ok {fl : Fl} (l : List Cel) (f : Nat) (caps : List V) (p : Cel → Bool) (hl : l.length ≤ maxLen) (hc : ∀ ob, caps.map (resV ob 6) = caps) (hc' : ∀ ob, caps.map (resV ob 5) = caps) (hp : ∀ x ∈ l, FnB Tryz.prog f (.ag (celV x) :: caps) (vb (p x))) :
    FnB Tryz.prog 110 [cels fl l, .fn f caps] (vb (l.any p)) := by
  refine fnB_intro cf110 (by simp) ?_
  simp +contextual (maxSteps := 1000000) only [go_sem, ints, intRows, reduceAdd, Nat.reduceBEq, reduceEqDiff, reduceLeDiff, Nat.reduceLT, reduceIte, reduceLE, Int.reduceLT, reduceEq, reduceNeg, reduceToNat, ops, vals, dots, c110, hc', cels]
  first | refine caS_i (IndexCels_ok l f caps p hl hc hp) trivial ?_ | refine caD_i (IndexCels_ok l f caps p hl hc hp) trivial ?_ | refine gC_i (fun _ => IndexCels_ok l f caps p hl hc hp) trivial ?_ | refine gCD_i (fun _ => IndexCels_ok l f caps p hl hc hp) trivial ?_ | refine caE_i (IndexCels_ok l f caps p hl hc hp) trivial ?_
  simp +contextual (maxSteps := 1000000) only [go_sem, ints, intRows, reduceAdd, Nat.reduceBEq, reduceEqDiff, reduceLeDiff, Nat.reduceLT, reduceIte, reduceLE, Int.reduceLT, reduceEq, reduceNeg, reduceToNat, ops, vals, dots, idxI_ge]
theorem ContainsTbs_ok {fl : Fl} (l : List (List Int)) (f : Nat) (caps : List V) (p : (List Int) → Bool) (hl : l.length ≤ maxLen) (hc : ∀ ob, caps.map (resV ob 6) = caps) (hc' : ∀ ob, caps.map (resV ob 5) = caps) (hp : ∀ x ∈ l, FnB Tryz.prog f (.ag (tbV x) :: caps) (vb (p x))) :
    FnB Tryz.prog 86 [tbs fl l, .fn f caps] (vb (l.any p)) := by
  refine fnB_intro cf86 (by simp) ?_
  simp +contextual (maxSteps := 1000000) only [go_sem, ints, intRows, reduceAdd, Nat.reduceBEq, reduceEqDiff, reduceLeDiff, Nat.reduceLT, reduceIte, reduceLE, Int.reduceLT, reduceEq, reduceNeg, reduceToNat, ops, vals, dots, c86, hc', tbs]
  first | refine caS_i (IndexTbs_ok l f caps p hl hc hp) trivial ?_ | refine caD_i (IndexTbs_ok l f caps p hl hc hp) trivial ?_ | refine gC_i (fun _ => IndexTbs_ok l f caps p hl hc hp) trivial ?_ | refine gCD_i (fun _ => IndexTbs_ok l f caps p hl hc hp) trivial ?_ | refine caE_i (IndexTbs_ok l f caps p hl hc hp) trivial ?_
  simp +contextual (maxSteps := 1000000) only [go_sem, ints, intRows, reduceAdd, Nat.reduceBEq, reduceEqDiff, reduceLeDiff, Nat.reduceLT, reduceIte, reduceLE, Int.reduceLT, reduceEq, reduceNeg, reduceToNat, ops, vals, dots, idxI_ge]
theorem ContainsVals_ok {fl : Fl} (l : List Vl) (f : Nat) (caps : List V) (p : Vl → Bool) (hl : l.length ≤ maxLen) (hc : ∀ ob, caps.map (resV ob 6) = caps) (hc' : ∀ ob, caps.map (resV ob 5) = caps) (hp : ∀ x ∈ l, FnB Tryz.prog f (.ag (vlV x) :: caps) (vb (p x))) :
    FnB Tryz.prog 144 [vals fl l, .fn f caps] (vb (l.any p)) := by
  refine fnB_intro cf144 (by simp) ?_
  simp +contextual (maxSteps := 1000000) only [go_sem, ints, intRows, reduceAdd, Nat.reduceBEq, reduceEqDiff, reduceLeDiff, Nat.reduceLT, reduceIte, reduceLE, Int.reduceLT, reduceEq, reduceNeg, reduceToNat, ops, vals, dots, c144, hc', vals]
  first | refine caS_i (IndexVals_ok l f caps p hl hc hp) trivial ?_ | refine caD_i (IndexVals_ok l f caps p hl hc hp) trivial ?_ | refine gC_i (fun _ => IndexVals_ok l f caps p hl hc hp) trivial ?_ | refine gCD_i (fun _ => IndexVals_ok l f caps p hl hc hp) trivial ?_ | refine caE_i (IndexVals_ok l f caps p hl hc hp) trivial ?_
  simp +contextual (maxSteps := 1000000) only [go_sem, ints, intRows, reduceAdd, Nat.reduceBEq, reduceEqDiff, reduceLeDiff, Nat.reduceLT, reduceIte, reduceLE, Int.reduceLT, reduceEq, reduceNeg, reduceToNat, ops, vals, dots, idxI_ge]
def allG {α β : Type} [Inhabited α] [Inhabited β] (p : α → β → Bool) (a : List α) (b : List β) : Bool := decide (a.length = b.length ∧ ∀ i, i < a.length → p (gN a i) (gN b i) = true)
theorem EqualCels_ok {fl fm : Fl} (a : List Cel) (b : List Int) (f : Nat) (caps : List V) (p : Cel → Int → Bool) (ha : a.length ≤ maxLen) (hc : ∀ ob, caps.map (resV ob 6) = caps) (hp : ∀ x y, FnB Tryz.prog f (.ag (celV x) :: vi y :: caps) (vb (p x y))) :
    FnB Tryz.prog 108 [cels fl a, ints fm b, .fn f caps] (vb (allG p a b)) := by
  unfold maxLen at ha
  refine fnB_intro cf108 (by simp) ?_
  simp +contextual (maxSteps := 1000000) only [go_sem, ints, intRows, reduceAdd, Nat.reduceBEq, reduceEqDiff, reduceLeDiff, Nat.reduceLT, reduceIte, reduceLE, Int.reduceLT, reduceEq, reduceNeg, reduceToNat, ops, vals, dots, c108, cels]
  refine ⟨?_, ?_⟩
  · intro h; simp at h
    simp only [allG]; rw [decide_eq_false]; rintro ⟨h1, _⟩; omega
  · intro h; simp at h
    refine wpC_lp (fun env ob n => env 0 = cels fl a ∧ env 1 = ints fm b ∧ env 2 = .fn f caps ∧ env 15 = cels fl a ∧ env 16 = vi a.length ∧ ∃ i : Nat, env 17 = vi i ∧ i ≤ a.length ∧ ∀ j, j < i → p (gN a j) (gN b j) = true) (fun env ob n => (a.length - iv (env 17)).toNat) ?_ ?_
    · simp +contextual (maxSteps := 1000000) only [go_sem, ints, intRows, reduceAdd, Nat.reduceBEq, reduceEqDiff, reduceLeDiff, Nat.reduceLT, reduceIte, reduceLE, Int.reduceLT, reduceEq, reduceNeg, reduceToNat, ops, vals, dots, cels]
      simp
      exact ⟨0, by simp⟩
    · rintro env ob n ⟨h0, h1, h2, h15, h16, i, h17, hi, he⟩
      simp +contextual (maxSteps := 1000000) only [go_sem, ints, intRows, reduceAdd, Nat.reduceBEq, reduceEqDiff, reduceLeDiff, Nat.reduceLT, reduceIte, reduceLE, Int.reduceLT, reduceEq, reduceNeg, reduceToNat, ops, vals, dots, h0, h1, h2, h15, h16, h17, List.map_append, List.map_cons, hc, cels]
      refine ⟨fun hlt => ?_, fun hge => ?_⟩
      · simp at hlt
        repeat (refine And.intro (by omega) ?_)
        first | refine caS_i (hp (gN a i) (gN b i)) trivial ?_ | refine caD_i (hp (gN a i) (gN b i)) trivial ?_ | refine gC_i (fun _ => hp (gN a i) (gN b i)) trivial ?_ | refine gCD_i (fun _ => hp (gN a i) (gN b i)) trivial ?_ | refine caE_i (hp (gN a i) (gN b i)) trivial ?_
        simp +contextual (maxSteps := 1000000) only [go_sem, ints, intRows, reduceAdd, Nat.reduceBEq, reduceEqDiff, reduceLeDiff, Nat.reduceLT, reduceIte, reduceLE, Int.reduceLT, reduceEq, reduceNeg, reduceToNat, ops, vals, dots, h0, h1, h2, h15, h16, h17, cels]
        simp
        refine ⟨fun hb => ?_, fun hg => ⟨⟨i + 1, ?_, by omega, fun j hj => ?_⟩, ?_⟩⟩
        · simp only [allG]; rw [decide_eq_false]; rintro ⟨_, h⟩; rw [h i hlt] at hb; cases hb
        · rw [w64 (by omega)]; simp
        · by_cases hji : j = i
          · subst hji; exact hg
          · exact he j (by omega)
        · rw [w64 (by omega)]; omega
      · simp at hge
        have : i = a.length := by omega
        subst this
        simp only [allG]; rw [decide_eq_true]; exact ⟨by omega, he⟩
theorem EqualVals_ok {fl fm : Fl} (a : List Vl) (b : List Int) (f : Nat) (caps : List V) (p : Vl → Int → Bool) (ha : a.length ≤ maxLen) (hc : ∀ ob, caps.map (resV ob 6) = caps) (hp : ∀ x y, FnB Tryz.prog f (.ag (vlV x) :: vi y :: caps) (vb (p x y))) :
    FnB Tryz.prog 158 [vals fl a, ints fm b, .fn f caps] (vb (allG p a b)) := by
  unfold maxLen at ha
  refine fnB_intro cf158 (by simp) ?_
  simp +contextual (maxSteps := 1000000) only [go_sem, ints, intRows, reduceAdd, Nat.reduceBEq, reduceEqDiff, reduceLeDiff, Nat.reduceLT, reduceIte, reduceLE, Int.reduceLT, reduceEq, reduceNeg, reduceToNat, ops, vals, dots, c158, vals]
  refine ⟨?_, ?_⟩
  · intro h; simp at h
    simp only [allG]; rw [decide_eq_false]; rintro ⟨h1, _⟩; omega
  · intro h; simp at h
    refine wpC_lp (fun env ob n => env 0 = vals fl a ∧ env 1 = ints fm b ∧ env 2 = .fn f caps ∧ env 15 = vals fl a ∧ env 16 = vi a.length ∧ ∃ i : Nat, env 17 = vi i ∧ i ≤ a.length ∧ ∀ j, j < i → p (gN a j) (gN b j) = true) (fun env ob n => (a.length - iv (env 17)).toNat) ?_ ?_
    · simp +contextual (maxSteps := 1000000) only [go_sem, ints, intRows, reduceAdd, Nat.reduceBEq, reduceEqDiff, reduceLeDiff, Nat.reduceLT, reduceIte, reduceLE, Int.reduceLT, reduceEq, reduceNeg, reduceToNat, ops, vals, dots, vals]
      simp
      exact ⟨0, by simp⟩
    · rintro env ob n ⟨h0, h1, h2, h15, h16, i, h17, hi, he⟩
      simp +contextual (maxSteps := 1000000) only [go_sem, ints, intRows, reduceAdd, Nat.reduceBEq, reduceEqDiff, reduceLeDiff, Nat.reduceLT, reduceIte, reduceLE, Int.reduceLT, reduceEq, reduceNeg, reduceToNat, ops, vals, dots, h0, h1, h2, h15, h16, h17, List.map_append, List.map_cons, hc, vals]
      refine ⟨fun hlt => ?_, fun hge => ?_⟩
      · simp at hlt
        repeat (refine And.intro (by omega) ?_)
        first | refine caS_i (hp (gN a i) (gN b i)) trivial ?_ | refine caD_i (hp (gN a i) (gN b i)) trivial ?_ | refine gC_i (fun _ => hp (gN a i) (gN b i)) trivial ?_ | refine gCD_i (fun _ => hp (gN a i) (gN b i)) trivial ?_ | refine caE_i (hp (gN a i) (gN b i)) trivial ?_
        simp +contextual (maxSteps := 1000000) only [go_sem, ints, intRows, reduceAdd, Nat.reduceBEq, reduceEqDiff, reduceLeDiff, Nat.reduceLT, reduceIte, reduceLE, Int.reduceLT, reduceEq, reduceNeg, reduceToNat, ops, vals, dots, h0, h1, h2, h15, h16, h17, vals]
        simp
        refine ⟨fun hb => ?_, fun hg => ⟨⟨i + 1, ?_, by omega, fun j hj => ?_⟩, ?_⟩⟩
        · simp only [allG]; rw [decide_eq_false]; rintro ⟨_, h⟩; rw [h i hlt] at hb; cases hb
        · rw [w64 (by omega)]; simp
        · by_cases hji : j = i
          · subst hji; exact hg
          · exact he j (by omega)
        · rw [w64 (by omega)]; omega
      · simp at hge
        have : i = a.length := by omega
        subst this
        simp only [allG]; rw [decide_eq_true]; exact ⟨by omega, he⟩
end Go.Proofs.YtbojpedklnmidaaGreat.D
end
section
set_option linter.unusedVariables false
set_option linter.unusedSimpArgs false
set_option maxRecDepth 100000
set_option linter.constructorNameAsVariable false

/- Whether a table may be. No condition. -/
namespace Go.Proofs.YtbojpedklnmidaaGreat.D
open Go Go.Proofs
open Nat (reduceAdd reduceEqDiff reduceLeDiff)
open Int (reduceLE reduceEq reduceNeg reduceToNat)
@[go_sem] theorem so_geq (a b : ByteArray) : strsOp .geq a b = some (.bool (!Op.bytesLess a.toList b.toList)) := (rfl)
def nameB (d : Dt) : Bool := decide (0 ≤ d.p) && decide (d.p < 5) && decide (1 ≤ d.n) && decide (d.n ≤ 1073741824)
theorem name_ok (d : Dt) : FnB Tryz.prog 137 [.ag (dotV d)] (vb (nameB d)) := by
  refine fnB_intro cf137 (by simp) ?_
  simp +contextual (maxSteps := 1000000) only [go_sem, ints, intRows, reduceAdd, Nat.reduceBEq, reduceEqDiff, reduceLeDiff, Nat.reduceLT, reduceIte, reduceLE, Int.reduceLT, reduceEq, reduceNeg, reduceToNat, ops, vals, dots, c137, dotV]
  rfl
def writ (c : Cel) : Bool := !(decide (c.d.p = 0) && decide (c.d.n = 0))
theorem written_ok (c : Cel) : FnB Tryz.prog 112 [.ag (celV c)] (vb (writ c)) := by
  refine fnB_intro cf112 (by simp) ?_
  simp +contextual (maxSteps := 1000000) only [go_sem, ints, intRows, reduceAdd, Nat.reduceBEq, reduceEqDiff, reduceLeDiff, Nat.reduceLT, reduceIte, reduceLE, Int.reduceLT, reduceEq, reduceNeg, reduceToNat, ops, vals, dots, c112, dotV]
  rfl
def isZ (c : Cel) : Bool := decide (c.v.k = 0) && (decide (c.v.i = 0) && (decide (c.v.s.toList = noS.toList) && (decide (c.st.p = 0) && (decide (c.st.l = 0) && (decide (c.st.q = 0) && (decide (c.d.p = 0) && decide (c.d.n = 0)))))))
def cellB (c : Cel) (t : Int) : Bool := if writ c then nameB c.d && smallV c.v && fitsV c.v t && okS c.st else isZ c
theorem cell_ok (c : Cel) (t : Int) : FnB Tryz.prog 109 [.ag (celV c), vi t] (vb (cellB c t)) := by
  refine fnB_intro cf109 (by simp) ?_
  simp +contextual (maxSteps := 1000000) only [go_sem, ints, intRows, reduceAdd, Nat.reduceBEq, reduceEqDiff, reduceLeDiff, Nat.reduceLT, reduceIte, reduceLE, Int.reduceLT, reduceEq, reduceNeg, reduceToNat, ops, vals, dots, c109]
  first | refine caS_i (written_ok c) trivial ?_ | refine caD_i (written_ok c) trivial ?_ | refine gC_i (fun _ => written_ok c) trivial ?_ | refine gCD_i (fun _ => written_ok c) trivial ?_ | refine caE_i (written_ok c) trivial ?_
  simp +contextual (maxSteps := 1000000) only [go_sem, ints, intRows, reduceAdd, Nat.reduceBEq, reduceEqDiff, reduceLeDiff, Nat.reduceLT, reduceIte, reduceLE, Int.reduceLT, reduceEq, reduceNeg, reduceToNat, ops, vals, dots]
  refine ⟨fun h => ?_, fun h => ?_⟩
  · simp +contextual (maxSteps := 1000000) only [go_sem, ints, intRows, reduceAdd, Nat.reduceBEq, reduceEqDiff, reduceLeDiff, Nat.reduceLT, reduceIte, reduceLE, Int.reduceLT, reduceEq, reduceNeg, reduceToNat, ops, vals, dots, celV]
    rw [cellB, h]; rfl
  · first | refine caS_i (name_ok c.d) trivial ?_ | refine caD_i (name_ok c.d) trivial ?_ | refine gC_i (fun _ => name_ok c.d) trivial ?_ | refine gCD_i (fun _ => name_ok c.d) trivial ?_ | refine caE_i (name_ok c.d) trivial ?_
    simp +contextual (maxSteps := 1000000) only [go_sem, ints, intRows, reduceAdd, Nat.reduceBEq, reduceEqDiff, reduceLeDiff, Nat.reduceLT, reduceIte, reduceLE, Int.reduceLT, reduceEq, reduceNeg, reduceToNat, ops, vals, dots]
    first | refine caS_i (vSmall_ok c.v) trivial ?_ | refine caD_i (vSmall_ok c.v) trivial ?_ | refine gC_i (fun _ => vSmall_ok c.v) trivial ?_ | refine gCD_i (fun _ => vSmall_ok c.v) trivial ?_ | refine caE_i (vSmall_ok c.v) trivial ?_
    simp +contextual (maxSteps := 1000000) only [go_sem, ints, intRows, reduceAdd, Nat.reduceBEq, reduceEqDiff, reduceLeDiff, Nat.reduceLT, reduceIte, reduceLE, Int.reduceLT, reduceEq, reduceNeg, reduceToNat, ops, vals, dots]
    first | refine caS_i (vFits_ok c.v t) trivial ?_ | refine caD_i (vFits_ok c.v t) trivial ?_ | refine gC_i (fun _ => vFits_ok c.v t) trivial ?_ | refine gCD_i (fun _ => vFits_ok c.v t) trivial ?_ | refine caE_i (vFits_ok c.v t) trivial ?_
    simp +contextual (maxSteps := 1000000) only [go_sem, ints, intRows, reduceAdd, Nat.reduceBEq, reduceEqDiff, reduceLeDiff, Nat.reduceLT, reduceIte, reduceLE, Int.reduceLT, reduceEq, reduceNeg, reduceToNat, ops, vals, dots]
    first | refine caS_i (hCheck_ok c.st) trivial ?_ | refine caD_i (hCheck_ok c.st) trivial ?_ | refine gC_i (fun _ => hCheck_ok c.st) trivial ?_ | refine gCD_i (fun _ => hCheck_ok c.st) trivial ?_ | refine caE_i (hCheck_ok c.st) trivial ?_
    have he : decide (hlcE c.st = 0) = okS c.st := by unfold hlcE; cases okS c.st <;> rfl
    simp +contextual (maxSteps := 1000000) only [go_sem, ints, intRows, reduceAdd, Nat.reduceBEq, reduceEqDiff, reduceLeDiff, Nat.reduceLT, reduceIte, reduceLE, Int.reduceLT, reduceEq, reduceNeg, reduceToNat, ops, vals, dots, he]
    rw [cellB, if_pos (by simpa using h)]
def keyB (k : ByteArray) : Bool := decide (1 ≤ (k.size : Int)) && decide ((k.size : Int) ≤ 12)
theorem Key_ok (k : ByteArray) : FnB Tryz.prog 106 [.c (.string k)] (vb (keyB k)) := by
  refine fnB_intro cf106 (by simp) ?_
  simp +contextual (maxSteps := 1000000) only [go_sem, ints, intRows, reduceAdd, Nat.reduceBEq, reduceEqDiff, reduceLeDiff, Nat.reduceLT, reduceIte, reduceLE, Int.reduceLT, reduceEq, reduceNeg, reduceToNat, ops, vals, dots, c106]
  rfl
theorem nwrit_ok (c : Cel) : FnB Tryz.prog 111 [.ag (celV c)] (vb (!writ c)) := by
  refine fnB_intro cf111 (by simp) ?_
  simp +contextual (maxSteps := 1000000) only [go_sem, ints, intRows, reduceAdd, Nat.reduceBEq, reduceEqDiff, reduceLeDiff, Nat.reduceLT, reduceIte, reduceLE, Int.reduceLT, reduceEq, reduceNeg, reduceToNat, ops, vals, dots, c111]
  first | refine caS_i (written_ok c) trivial ?_ | refine caD_i (written_ok c) trivial ?_ | refine gC_i (fun _ => written_ok c) trivial ?_ | refine gCD_i (fun _ => written_ok c) trivial ?_ | refine caE_i (written_ok c) trivial ?_
  simp +contextual (maxSteps := 1000000) only [go_sem, ints, intRows, reduceAdd, Nat.reduceBEq, reduceEqDiff, reduceLeDiff, Nat.reduceLT, reduceIte, reduceLE, Int.reduceLT, reduceEq, reduceNeg, reduceToNat, ops, vals, dots]
theorem forms1_ok (cols : List Int) : FnB Tryz.prog 87 [.ag (tbV cols)] (vb (decide ((cols.length : Int) < 1) || decide (4 < (cols.length : Int)))) := by
  refine fnB_intro cf87 (by simp) ?_
  simp +contextual (maxSteps := 1000000) only [go_sem, ints, intRows, reduceAdd, Nat.reduceBEq, reduceEqDiff, reduceLeDiff, Nat.reduceLT, reduceIte, reduceLE, Int.reduceLT, reduceEq, reduceNeg, reduceToNat, ops, vals, dots, c87, tbV]
theorem forms2_ok (c : Int) : FnB Tryz.prog 89 [vi c] (vb (decide (c < 2) || decide (4 < c))) := by
  refine fnB_intro cf89 (by simp) ?_
  simp +contextual (maxSteps := 1000000) only [go_sem, ints, intRows, reduceAdd, Nat.reduceBEq, reduceEqDiff, reduceLeDiff, Nat.reduceLT, reduceIte, reduceLE, Int.reduceLT, reduceEq, reduceNeg, reduceToNat, ops, vals, dots, c89]
def dotsB (l : List Dt) : Bool := decide (∀ i, i < l.length → nameB (gN l i) = true ∧ (0 < i → lessD (gN l (i - 1)) (gN l i) = true))
theorem dots_ok {fl : Fl} (l : List Dt) (hl : l.length ≤ maxLen) : FnB Tryz.prog 107 [dots fl l] (vb (dotsB l)) := by
  refine fnB_intro cf107 (by simp) ?_
  unfold maxLen at hl
  simp +contextual (maxSteps := 1000000) only [go_sem, ints, intRows, reduceAdd, Nat.reduceBEq, reduceEqDiff, reduceLeDiff, Nat.reduceLT, reduceIte, reduceLE, Int.reduceLT, reduceEq, reduceNeg, reduceToNat, ops, vals, dots, c107]
  refine wpC_lp (fun env ob n => env 0 = dots fl l ∧ env 5 = dots fl l ∧ env 6 = vi l.length ∧ ∃ i : Nat, env 7 = vi i ∧ i ≤ l.length ∧ ∀ j, j < i → nameB (gN l j) = true ∧ (0 < j → lessD (gN l (j - 1)) (gN l j) = true)) (fun env ob n => (l.length - iv (env 7)).toNat) ?_ ?_
  · simp +contextual (maxSteps := 1000000) only [go_sem, ints, intRows, reduceAdd, Nat.reduceBEq, reduceEqDiff, reduceLeDiff, Nat.reduceLT, reduceIte, reduceLE, Int.reduceLT, reduceEq, reduceNeg, reduceToNat, ops, vals, dots]
    exact ⟨0, rfl, Nat.zero_le _, fun j hj => by omega⟩
  rintro env ob n ⟨h0, h5, h6, i, h7, hi, he⟩
  simp +contextual (maxSteps := 1000000) only [go_sem, ints, intRows, reduceAdd, Nat.reduceBEq, reduceEqDiff, reduceLeDiff, Nat.reduceLT, reduceIte, reduceLE, Int.reduceLT, reduceEq, reduceNeg, reduceToNat, ops, vals, dots, h0, h5, h6, h7]
  have w1 : IntKind.i64.wrap ((i : Int) + 1) = ((i + 1 : Nat) : Int) := by rw [w64 (by omega)]; omega
  refine ⟨fun hlt => ?_, fun hge => ?_⟩
  · simp at hlt
    repeat (refine And.intro (by omega) ?_)
    first | refine caS_i (name_ok (gN l i)) trivial ?_ | refine caD_i (name_ok (gN l i)) trivial ?_ | refine gC_i (fun _ => name_ok (gN l i)) trivial ?_ | refine gCD_i (fun _ => name_ok (gN l i)) trivial ?_ | refine caE_i (name_ok (gN l i)) trivial ?_
    by_cases h0i : i = 0
    · subst h0i
      simp +contextual (maxSteps := 1000000) only [go_sem, ints, intRows, reduceAdd, Nat.reduceBEq, reduceEqDiff, reduceLeDiff, Nat.reduceLT, reduceIte, reduceLE, Int.reduceLT, reduceEq, reduceNeg, reduceToNat, ops, vals, dots, h0, h5, h6, h7, Bool.not_true, Bool.not_false, Bool.or_false, Bool.false_or, Bool.and_false, Bool.true_and, Bool.and_true, Bool.true_or, Bool.or_true]
      have w1' : IntKind.i64.wrap (0 + 1) = ((1 : Nat) : Int) := by decide
      rw [w1']
      refine ⟨fun hb => ?_, fun hg => ⟨⟨1, rfl, hlt, fun j hj => ?_⟩, by omega⟩⟩
      · rw [dotsB, decide_eq_false]; intro h; simp [(h 0 hlt).1] at hb
      · have : j = 0 := by omega
        subst this
        refine ⟨by simpa using hg, fun h => by omega⟩
    · have w0 : IntKind.i64.wrap ((i : Int) - 1) = ((i - 1 : Nat) : Int) := by rw [w64 (by omega)]; omega
      have p0 : decide (0 < (i : Int)) = true := by simp; omega
      simp +contextual (maxSteps := 1000000) only [go_sem, ints, intRows, reduceAdd, Nat.reduceBEq, reduceEqDiff, reduceLeDiff, Nat.reduceLT, reduceIte, reduceLE, Int.reduceLT, reduceEq, reduceNeg, reduceToNat, ops, vals, dots, h0, h5, h6, h7, w0, p0, Bool.not_true, Bool.not_false, Bool.or_false, Bool.false_or, Bool.and_false, Bool.true_and, Bool.and_true, Bool.true_or, Bool.or_true]
      refine ⟨fun _ => by omega, ?_⟩
      first | refine caS_i (Less_ok (gN l (i - 1)) (gN l i)) trivial ?_ | refine caD_i (Less_ok (gN l (i - 1)) (gN l i)) trivial ?_ | refine gC_i (fun _ => Less_ok (gN l (i - 1)) (gN l i)) trivial ?_ | refine gCD_i (fun _ => Less_ok (gN l (i - 1)) (gN l i)) trivial ?_ | refine caE_i (Less_ok (gN l (i - 1)) (gN l i)) trivial ?_
      simp +contextual (maxSteps := 1000000) only [go_sem, ints, intRows, reduceAdd, Nat.reduceBEq, reduceEqDiff, reduceLeDiff, Nat.reduceLT, reduceIte, reduceLE, Int.reduceLT, reduceEq, reduceNeg, reduceToNat, ops, vals, dots, h0, h5, h6, h7, w1]
      refine ⟨fun hb => ?_, fun hg => ⟨⟨i + 1, rfl, by omega, fun j hj => ?_⟩, by omega⟩⟩
      · rw [dotsB, decide_eq_false]; intro h; simp [(h i hlt).1, (h i hlt).2 (by omega)] at hb
      · by_cases hji : j = i
        · subst hji
          cases hn : nameB (gN l j) with
          | false => rw [hn] at hg; simp at hg
          | true => rw [hn] at hg; exact ⟨rfl, fun _ => by simpa using hg⟩
        · exact he j (by omega)
  · simp at hge
    have : i = l.length := by omega
    subst this
    rw [dotsB, decide_eq_true he]
@[go_sem] theorem op_bsl_tb (z : List V) (x : List Int) (ob : OB) (i : Nat) (hz : (z.length == 1) = true) : opF (.bsl 1 z [0] 1 true) [.ag (tbV x)] ob i = some (.im .b [tbV x], []) := op_bsl_r ob i (by simpa using hz) (tbV_row x)
def formE (cols : List Int) : Int := if (cols.length : Int) < 1 ∨ 4 < (cols.length : Int) then 2 else if cols.any (fun c => decide (c < 2) || decide (4 < c)) then 10 else 0
theorem Forms_ok (cols : List Int) : FnB Tryz.prog 44 [tbs .b [cols]] (vi (formE cols)) := by
  refine fnB_intro cf44 (by simp) ?_
  simp +contextual (maxSteps := 1000000) only [go_sem, ints, intRows, reduceAdd, Nat.reduceBEq, reduceEqDiff, reduceLeDiff, Nat.reduceLT, reduceIte, reduceLE, Int.reduceLT, reduceEq, reduceNeg, reduceToNat, ops, vals, dots, c44, tbs]
  have hct := ContainsTbs_ok (fl := .b) [cols] 87 [] (fun cols => decide ((cols.length : Int) < 1) || decide (4 < (cols.length : Int))) (by simp [maxLen]) (fun _ => rfl) (fun _ => rfl) fun x _ => forms1_ok x
  first | refine caS_i (hct) trivial ?_ | refine caD_i (hct) trivial ?_ | refine gC_i (fun _ => hct) trivial ?_ | refine gCD_i (fun _ => hct) trivial ?_ | refine caE_i (hct) trivial ?_
  simp +contextual (maxSteps := 1000000) only [go_sem, ints, intRows, reduceAdd, Nat.reduceBEq, reduceEqDiff, reduceLeDiff, Nat.reduceLT, reduceIte, reduceLE, Int.reduceLT, reduceEq, reduceNeg, reduceToNat, ops, vals, dots, List.any_cons, List.any_nil]
  refine ⟨fun hb => ?_, fun hb => ?_⟩
  · simp at hb
    rw [formE, if_pos (by simpa using hb)]
  have hlen : ¬ ((cols.length : Int) < 1 ∨ 4 < (cols.length : Int)) := by simp at hb; omega
  refine wpC_lp (fun env ob n => env 15 = tbs .b [cols] ∧ env 16 = vi 1 ∧ (env 17 = vi 0 ∨ env 17 = vi 1 ∧ cols.any (fun c => decide (c < 2) || decide (4 < c)) = false)) (fun env ob n => (1 - iv (env 17)).toNat) ?_ ?_
  · simp +contextual (maxSteps := 1000000) only [go_sem, ints, intRows, reduceAdd, Nat.reduceBEq, reduceEqDiff, reduceLeDiff, Nat.reduceLT, reduceIte, reduceLE, Int.reduceLT, reduceEq, reduceNeg, reduceToNat, ops, vals, dots, tbs]
  rintro env ob n ⟨h15, h16, h17 | ⟨h17, hc⟩⟩
  · simp +contextual (maxSteps := 1000000) only [go_sem, ints, intRows, reduceAdd, Nat.reduceBEq, reduceEqDiff, reduceLeDiff, Nat.reduceLT, reduceIte, reduceLE, Int.reduceLT, reduceEq, reduceNeg, reduceToNat, ops, vals, dots, h15, h16, h17, tbs, ia_h]
    have hc2 := ContainsInts_ok (fl := .b) cols 89 [] (fun c => decide (c < 2) || decide (4 < c)) (by unfold maxLen; omega) (fun _ => rfl) (fun _ => rfl) fun x _ => forms2_ok x
    first | refine caS_i (hc2) trivial ?_ | refine caD_i (hc2) trivial ?_ | refine gC_i (fun _ => hc2) trivial ?_ | refine gCD_i (fun _ => hc2) trivial ?_ | refine caE_i (hc2) trivial ?_
    simp +contextual (maxSteps := 1000000) only [go_sem, ints, intRows, reduceAdd, Nat.reduceBEq, reduceEqDiff, reduceLeDiff, Nat.reduceLT, reduceIte, reduceLE, Int.reduceLT, reduceEq, reduceNeg, reduceToNat, ops, vals, dots, h15, h16, h17, tbs]
    have w1 : IntKind.i64.wrap (0 + 1) = 1 := by decide
    rw [w1]
    exact ⟨fun hb => by rw [formE, if_neg hlen, if_pos hb], fun hb => ⟨.inr rfl, by decide⟩⟩
  · simp +contextual (maxSteps := 1000000) only [go_sem, ints, intRows, reduceAdd, Nat.reduceBEq, reduceEqDiff, reduceLeDiff, Nat.reduceLT, reduceIte, reduceLE, Int.reduceLT, reduceEq, reduceNeg, reduceToNat, ops, vals, dots, h15, h16, h17, tbs]
    rw [formE, if_neg hlen, if_neg (by rw [hc]; simp)]
def rightB (cols : List Int) (r : Rwx) : Bool := keyB r.key && dotsB r.dots && allG cellB r.cells cols && (decide (r.dots.length = 0) || !r.cells.any (fun c => !writ c))
structure ShortR (r : Rwx) : Prop where
  d : r.dots.length ≤ maxLen
  c : r.cells.length ≤ maxLen
theorem right_ok (cols : List Int) (r : Rwx) (hr : ShortR r) : FnB Tryz.prog 71 [.ag (tbV cols), .ag (rwV r)] (vb (rightB cols r)) := by
  refine fnB_intro cf71 (by simp) ?_
  simp +contextual (maxSteps := 1000000) only [go_sem, ints, intRows, reduceAdd, Nat.reduceBEq, reduceEqDiff, reduceLeDiff, Nat.reduceLT, reduceIte, reduceLE, Int.reduceLT, reduceEq, reduceNeg, reduceToNat, ops, vals, dots, c71, tbV, rwV, cels]
  first | refine caS_i (Key_ok r.key) trivial ?_ | refine caD_i (Key_ok r.key) trivial ?_ | refine gC_i (fun _ => Key_ok r.key) trivial ?_ | refine gCD_i (fun _ => Key_ok r.key) trivial ?_ | refine caE_i (Key_ok r.key) trivial ?_
  simp +contextual (maxSteps := 1000000) only [go_sem, ints, intRows, reduceAdd, Nat.reduceBEq, reduceEqDiff, reduceLeDiff, Nat.reduceLT, reduceIte, reduceLE, Int.reduceLT, reduceEq, reduceNeg, reduceToNat, ops, vals, dots, cels]
  first | refine caS_i (dots_ok (fl := .b) r.dots hr.d) trivial ?_ | refine caD_i (dots_ok (fl := .b) r.dots hr.d) trivial ?_ | refine gC_i (fun _ => dots_ok (fl := .b) r.dots hr.d) trivial ?_ | refine gCD_i (fun _ => dots_ok (fl := .b) r.dots hr.d) trivial ?_ | refine caE_i (dots_ok (fl := .b) r.dots hr.d) trivial ?_
  simp +contextual (maxSteps := 1000000) only [go_sem, ints, intRows, reduceAdd, Nat.reduceBEq, reduceEqDiff, reduceLeDiff, Nat.reduceLT, reduceIte, reduceLE, Int.reduceLT, reduceEq, reduceNeg, reduceToNat, ops, vals, dots, cels]
  have he := EqualCels_ok (fl := .b) (fm := .b) r.cells cols 109 [] cellB hr.c (fun _ => rfl) fun x y => cell_ok x y
  first | refine caS_i (he) trivial ?_ | refine caD_i (he) trivial ?_ | refine gC_i (fun _ => he) trivial ?_ | refine gCD_i (fun _ => he) trivial ?_ | refine caE_i (he) trivial ?_
  simp +contextual (maxSteps := 1000000) only [go_sem, ints, intRows, reduceAdd, Nat.reduceBEq, reduceEqDiff, reduceLeDiff, Nat.reduceLT, reduceIte, reduceLE, Int.reduceLT, reduceEq, reduceNeg, reduceToNat, ops, vals, dots, cels]
  refine ⟨fun hb => ?_, fun hb => ?_⟩
  · unfold rightB
    cases h1 : keyB r.key <;> cases h2 : dotsB r.dots <;> cases h3 : allG cellB r.cells cols <;> simp_all
  · have hc := ContainsCels_ok (fl := .b) r.cells 111 [] (fun c => !writ c) hr.c (fun _ => rfl) (fun _ => rfl) fun x _ => nwrit_ok x
    first | refine caS_i (hc) trivial ?_ | refine caD_i (hc) trivial ?_ | refine gC_i (fun _ => hc) trivial ?_ | refine gCD_i (fun _ => hc) trivial ?_ | refine caE_i (hc) trivial ?_
    simp +contextual (maxSteps := 1000000) only [go_sem, ints, intRows, reduceAdd, Nat.reduceBEq, reduceEqDiff, reduceLeDiff, Nat.reduceLT, reduceIte, reduceLE, Int.reduceLT, reduceEq, reduceNeg, reduceToNat, ops, vals, dots]
    unfold rightB
    cases h1 : keyB r.key <;> cases h2 : dotsB r.dots <;> cases h3 : allG cellB r.cells cols <;> by_cases h4 : r.dots.length = 0 <;> simp_all
def keyLt (a b : ByteArray) : Bool := Op.bytesLess a.toList b.toList
def rowsB (cols : List Int) (l : List Rwx) : Bool := decide (∀ i, i < l.length → rightB cols (gN l i) = true ∧ (0 < i → keyLt (gN l (i - 1)).key (gN l i).key = true))
def checkT (cols : List Int) (l : List Rwx) : Int := if formE cols ≠ 0 then 10 else if rowsB cols l then 0 else 1
theorem tCheck_ok {fl : Fl} (cols : List Int) (l : List Rwx) (hl : l.length ≤ maxLen) (hr : ∀ r ∈ l, ShortR r) : FnB Tryz.prog 35 [.ag (tbV cols), rws fl l] (vi (checkT cols l)) := by
  refine fnB_intro cf35 (by simp) ?_
  unfold maxLen at hl
  simp +contextual (maxSteps := 1000000) only [go_sem, ints, intRows, reduceAdd, Nat.reduceBEq, reduceEqDiff, reduceLeDiff, Nat.reduceLT, reduceIte, reduceLE, Int.reduceLT, reduceEq, reduceNeg, reduceToNat, ops, vals, dots, c35, rws, op_bsl_tb]
  first | refine caS_i (Forms_ok cols) trivial ?_ | refine caD_i (Forms_ok cols) trivial ?_ | refine gC_i (fun _ => Forms_ok cols) trivial ?_ | refine gCD_i (fun _ => Forms_ok cols) trivial ?_ | refine caE_i (Forms_ok cols) trivial ?_
  simp +contextual (maxSteps := 1000000) only [go_sem, ints, intRows, reduceAdd, Nat.reduceBEq, reduceEqDiff, reduceLeDiff, Nat.reduceLT, reduceIte, reduceLE, Int.reduceLT, reduceEq, reduceNeg, reduceToNat, ops, vals, dots, rws]
  refine ⟨fun hb => ?_, fun hb => ?_⟩
  · simp at hb; rw [checkT, if_pos hb]
  simp at hb
  refine wpC_lp (fun env ob n => env 1 = rws fl l ∧ env 2 = .pt 0 0 0 ∧ ob 0 = some ⟨1, [tbV cols], none⟩ ∧ 0 < n ∧ env 11 = rws fl l ∧ env 12 = vi l.length ∧ ∃ i : Nat, env 13 = vi i ∧ i ≤ l.length ∧ ∀ j, j < i → rightB cols (gN l j) = true ∧ (0 < j → keyLt (gN l (j - 1)).key (gN l j).key = true)) (fun env ob n => (l.length - iv (env 13)).toNat) ?_ ?_
  · simp +contextual (maxSteps := 1000000) only [go_sem, ints, intRows, reduceAdd, Nat.reduceBEq, reduceEqDiff, reduceLeDiff, Nat.reduceLT, reduceIte, reduceLE, Int.reduceLT, reduceEq, reduceNeg, reduceToNat, ops, vals, dots, rws]
    exact ⟨0, rfl, Nat.zero_le _, fun j hj => by omega⟩
  rintro env ob n ⟨h1, h2, ho, hn, h11, h12, i, h13, hi, he⟩
  have hne : ∀ k, (0 == n + k) = false := fun k => by simp; omega
  simp +contextual (maxSteps := 1000000) only [go_sem, ints, intRows, reduceAdd, Nat.reduceBEq, reduceEqDiff, reduceLeDiff, Nat.reduceLT, reduceIte, reduceLE, Int.reduceLT, reduceEq, reduceNeg, reduceToNat, ops, vals, dots, h1, h2, h11, h12, h13, ho, rws, Nat.add_assoc, hne]
  have w1 : IntKind.i64.wrap ((i : Int) + 1) = ((i + 1 : Nat) : Int) := by rw [w64 (by omega)]; omega
  refine ⟨fun hlt => ?_, fun hge => ?_⟩
  · simp at hlt
    repeat (refine And.intro (by omega) ?_)
    first | refine caS_i (right_ok cols (gN l i) (hr _ (gN_mem hlt))) trivial ?_ | refine caD_i (right_ok cols (gN l i) (hr _ (gN_mem hlt))) trivial ?_ | refine gC_i (fun _ => right_ok cols (gN l i) (hr _ (gN_mem hlt))) trivial ?_ | refine gCD_i (fun _ => right_ok cols (gN l i) (hr _ (gN_mem hlt))) trivial ?_ | refine caE_i (right_ok cols (gN l i) (hr _ (gN_mem hlt))) trivial ?_
    by_cases h0i : i = 0
    · subst h0i
      simp +contextual (maxSteps := 1000000) only [go_sem, ints, intRows, reduceAdd, Nat.reduceBEq, reduceEqDiff, reduceLeDiff, Nat.reduceLT, reduceIte, reduceLE, Int.reduceLT, reduceEq, reduceNeg, reduceToNat, ops, vals, dots, h1, h2, h11, h12, h13, ho, rws, Nat.add_assoc, hne, Bool.not_true, Bool.not_false, Bool.or_false, Bool.false_or, Bool.and_false, Bool.true_and, Bool.and_true, Bool.true_or, Bool.or_true]
      have w1' : IntKind.i64.wrap (0 + 1) = ((1 : Nat) : Int) := by decide
      rw [w1']
      refine ⟨fun hb2 => ?_, fun hg => ⟨⟨by omega, 1, rfl, hlt, fun j hj => ?_⟩, by omega⟩⟩
      · rw [checkT, if_neg (by simpa using hb), if_neg]
        rw [rowsB, decide_eq_false]; simp
        intro h; simp [(h 0 hlt).1] at hb2
      · have : j = 0 := by omega
        subst this
        exact ⟨by simpa using hg, fun h => by omega⟩
    · have w0 : IntKind.i64.wrap ((i : Int) - 1) = ((i - 1 : Nat) : Int) := by rw [w64 (by omega)]; omega
      have p0 : decide (0 < (i : Int)) = true := by simp; omega
      simp +contextual (maxSteps := 1000000) only [go_sem, ints, intRows, reduceAdd, Nat.reduceBEq, reduceEqDiff, reduceLeDiff, Nat.reduceLT, reduceIte, reduceLE, Int.reduceLT, reduceEq, reduceNeg, reduceToNat, ops, vals, dots, h1, h2, h11, h12, h13, ho, rws, Nat.add_assoc, hne, w0, p0, w1, rwV, Bool.not_true, Bool.not_false, Bool.or_false, Bool.false_or, Bool.and_false, Bool.true_and, Bool.and_true, Bool.true_or, Bool.or_true]
      refine ⟨fun _ => by omega, fun hb2 => ?_, fun hg => ⟨⟨by omega, i + 1, rfl, by omega, fun j hj => ?_⟩, by omega⟩⟩
      · rw [checkT, if_neg (by simpa using hb), if_neg]
        rw [rowsB, decide_eq_false]; simp
        intro h
        have h2 := (h i hlt).2 (by omega)
        unfold keyLt at h2
        simp [(h i hlt).1, h2] at hb2
      · by_cases hji : j = i
        · subst hji
          cases hn2 : rightB cols (gN l j) with
          | false => rw [hn2] at hg; simp at hg
          | true => rw [hn2] at hg; exact ⟨rfl, fun _ => by unfold keyLt; simpa using hg⟩
        · exact he j (by omega)
  · simp at hge
    have : i = l.length := by omega
    subst this
    rw [checkT, if_neg (by simpa using hb), rowsB, decide_eq_true he]; rfl
end Go.Proofs.YtbojpedklnmidaaGreat.D
end
section
set_option linter.unusedVariables false
set_option linter.unusedSimpArgs false
set_option maxRecDepth 100000
set_option linter.constructorNameAsVariable false

/- What is seen of tables. No condition. -/
namespace Go.Proofs.YtbojpedklnmidaaGreat.D
open Go Go.Proofs
open Nat (reduceAdd reduceEqDiff reduceLeDiff)
open Int (reduceLE reduceEq reduceNeg reduceToNat)
def findT (l : List Rwx) (key : ByteArray) : Int := idxI (fun r => decide (r.key.toList = key.toList)) l
def seeT (r : Rwx) : List Vl := if r.dots.length = 0 then [] else ⟨4, 0, r.key⟩ :: r.cells.map (·.v)
theorem see_ok (x : Rwf) (hc : x.r.cells.length < maxLen) : FnB Tryz.prog 42 [.ag (rwF x)] (vals .o (seeT x.r)) := by
  refine fnB_intro cf42 (by simp) ?_
  simp +contextual (maxSteps := 1000000) only [go_sem, ints, intRows, reduceAdd, Nat.reduceBEq, reduceEqDiff, reduceLeDiff, Nat.reduceLT, reduceIte, reduceLE, Int.reduceLT, reduceEq, reduceNeg, reduceToNat, ops, vals, dots, c42]
  refine ⟨fun hb => ?_, fun hb => ?_⟩
  · rw [seeT, if_pos (by simpa using hb)]; rfl
  have hs : seeT x.r = ⟨4, 0, x.r.key⟩ :: x.r.cells.map (·.v) := by rw [seeT, if_neg (by simpa using hb)]
  simp +contextual (maxSteps := 1000000) only [go_sem, ints, intRows, reduceAdd, Nat.reduceBEq, reduceEqDiff, reduceLeDiff, Nat.reduceLT, reduceIte, reduceLE, Int.reduceLT, reduceEq, reduceNeg, reduceToNat, ops, vals, dots, rwF, cels]
  have hml : x.r.cells.length < 4294967296 := hc
  refine wpC_lp (fun env ob n => env 15 = cels (flg x.fc) x.r.cells ∧ env 16 = vi x.r.cells.length ∧ ∃ i : Nat, env 17 = vi i ∧ i ≤ x.r.cells.length ∧ Own n ob (env 3) 3 ((⟨4, 0, x.r.key⟩ :: (x.r.cells.take i).map (·.v)).map vlV)) (fun env ob n => (x.r.cells.length - iv (env 17)).toNat) ?_ ?_
  · simp +contextual (maxSteps := 1000000) only [go_sem, ints, intRows, reduceAdd, Nat.reduceBEq, reduceEqDiff, reduceLeDiff, Nat.reduceLT, reduceIte, reduceLE, Int.reduceLT, reduceEq, reduceNeg, reduceToNat, ops, vals, dots, cels]
    exact ⟨0, rfl, Nat.zero_le _, .inr ⟨by simp, 9, none, by omega, by simp, rfl⟩⟩
  rintro env ob n ⟨h15, h16, i, h17, hi, ho⟩
  simp +contextual (maxSteps := 1000000) only [go_sem, ints, intRows, reduceAdd, Nat.reduceBEq, reduceEqDiff, reduceLeDiff, Nat.reduceLT, reduceIte, reduceLE, Int.reduceLT, reduceEq, reduceNeg, reduceToNat, ops, vals, dots, h15, h16, h17, cels, Nat.add_assoc]
  have w1 : IntKind.i64.wrap ((i : Int) + 1) = ((i + 1 : Nat) : Int) := by rw [w64 (by omega)]; omega
  refine ⟨fun hlt => ?_, fun hge => ?_⟩
  · simp at hlt
    repeat (refine And.intro (by omega) ?_)
    refine nxS_app (n := n + 9) (((ho.upd (by omega)).upd (by omega)).mono (by omega)) (Nat.le_refl _) rfl (by simp [vlV_row]) (by simp [maxLen]; omega) fun v' ob' ho2 _ => ?_
    simp +contextual (maxSteps := 1000000) only [go_sem, ints, intRows, reduceAdd, Nat.reduceBEq, reduceEqDiff, reduceLeDiff, Nat.reduceLT, reduceIte, reduceLE, Int.reduceLT, reduceEq, reduceNeg, reduceToNat, ops, vals, dots, h15, h16, h17, w1, cels]
    refine ⟨⟨i + 1, rfl, by omega, ?_⟩, by omega⟩
    rw [take_gN hlt]
    have := ho2.mono (n' := n + 9 + 1 + 1 + 1 + 1) (by omega)
    simpa [Function.comp_def] using this
  · simp at hge
    have hil : i = x.r.cells.length := by omega
    rw [hil, List.take_length, ← hs] at ho
    rw [out_own ho (fun ob' => gVals ob' (seeT x.r)) [] (fun _ => rfl)]; rfl
def seenT (cols : List Int) (l : List Rwx) : List (List Vl) := if checkT cols l ≠ 0 then [] else (l.filter fun r => decide (0 < r.dots.length)).map seeT
@[go_sem] theorem vs1_len (x : List Vl) : [vals .b x].length = 1 := (rfl)
def valRows (f : Fl) (l : List (List Vl)) : V := .im f (l.map fun x => [vals .b x])
theorem allValRows (l : List (List Vl)) : (l.map fun x => [vals .b x]).all (okRow 1) = true := all_map _ _ (fun _ => rfl) l
theorem g_vals1 (ob : OB) (n : Nat) (l : List Vl) : gV ob (n + 2) (vals .b l) = vals .b l := by
  simp only [vals, gV, List.map_map]; congr 1
theorem gValRows (ob' : OB) (l : List (List Vl)) : ∀ r ∈ l.map (fun x => [vals .b x]), r.map (gV ob' 6) = r := g_map _ (fun ob' a => by simp only [List.map_cons, List.map_nil, g_vals1]) ob' l
theorem Seen_ok {fl : Fl} (cols : List Int) (l : List Rwx) (hl : l.length ≤ maxLen) (hr : ∀ r ∈ l, ShortR r) (hc : ∀ r ∈ l, r.cells.length < maxLen) : FnB Tryz.prog 18 [.ag (tbV cols), rws fl l] (valRows .o (seenT cols l)) := by
  refine fnB_intro cf18 (by simp) ?_
  have hl' := hl
  unfold maxLen at hl'
  simp +contextual (maxSteps := 1000000) only [go_sem, ints, intRows, reduceAdd, Nat.reduceBEq, reduceEqDiff, reduceLeDiff, Nat.reduceLT, reduceIte, reduceLE, Int.reduceLT, reduceEq, reduceNeg, reduceToNat, ops, vals, dots, c18, rws]
  first | refine caS_i (tCheck_ok (fl := resFl fl) cols l hl hr) trivial ?_ | refine caD_i (tCheck_ok (fl := resFl fl) cols l hl hr) trivial ?_ | refine gC_i (fun _ => tCheck_ok (fl := resFl fl) cols l hl hr) trivial ?_ | refine gCD_i (fun _ => tCheck_ok (fl := resFl fl) cols l hl hr) trivial ?_ | refine caE_i (tCheck_ok (fl := resFl fl) cols l hl hr) trivial ?_
  simp +contextual (maxSteps := 1000000) only [go_sem, ints, intRows, reduceAdd, Nat.reduceBEq, reduceEqDiff, reduceLeDiff, Nat.reduceLT, reduceIte, reduceLE, Int.reduceLT, reduceEq, reduceNeg, reduceToNat, ops, vals, dots, rws]
  refine ⟨fun hb => ?_, fun hb => ?_⟩
  · rw [seenT, if_pos (by simpa using hb)]; rfl
  have hs : seenT cols l = (l.filter fun r => decide (0 < r.dots.length)).map seeT := by rw [seenT, if_neg (by simpa using hb)]
  refine wpC_lp (fun env ob n => env 12 = rws fl l ∧ env 13 = vi l.length ∧ ∃ i : Nat, env 14 = vi i ∧ i ≤ l.length ∧ Own n ob (env 5) 1 ((((l.take i).filter fun r => decide (0 < r.dots.length)).map seeT).map fun x => [vals .b x])) (fun env ob n => (l.length - iv (env 14)).toNat) ?_ ?_
  · simp +contextual (maxSteps := 1000000) only [go_sem, ints, intRows, reduceAdd, Nat.reduceBEq, reduceEqDiff, reduceLeDiff, Nat.reduceLT, reduceIte, reduceLE, Int.reduceLT, reduceEq, reduceNeg, reduceToNat, ops, vals, dots, rws]
    exact ⟨0, rfl, Nat.zero_le _, Own.nil⟩
  rintro env ob n ⟨h12, h13, i, h14, hi, ho⟩
  simp +contextual (maxSteps := 1000000) only [go_sem, ints, intRows, reduceAdd, Nat.reduceBEq, reduceEqDiff, reduceLeDiff, Nat.reduceLT, reduceIte, reduceLE, Int.reduceLT, reduceEq, reduceNeg, reduceToNat, ops, vals, dots, h12, h13, h14, rws, Nat.add_assoc]
  have w1 : IntKind.i64.wrap ((i : Int) + 1) = ((i + 1 : Nat) : Int) := by rw [w64 (by omega)]; omega
  refine ⟨fun hlt => ?_, fun hge => ?_⟩
  · simp at hlt
    repeat (refine And.intro (by omega) ?_)
    have ht : ((l.take (i + 1)).filter fun r => decide (0 < r.dots.length)) = ((l.take i).filter fun r => decide (0 < r.dots.length)) ++ if 0 < (gN l i).dots.length then [gN l i] else [] := by
      rw [take_gN hlt, List.filter_append, List.filter_cons]
      by_cases h0 : 0 < (gN l i).dots.length <;> simp [h0]
    refine ⟨fun h0 => ?_, fun h0 => ?_⟩
    · simp at h0
      first | refine caS_i (see_ok ⟨gN l i, false, false⟩ (hc _ (gN_mem hlt))) trivial ?_ | refine caD_i (see_ok ⟨gN l i, false, false⟩ (hc _ (gN_mem hlt))) trivial ?_ | refine gC_i (fun _ => see_ok ⟨gN l i, false, false⟩ (hc _ (gN_mem hlt))) trivial ?_ | refine gCD_i (fun _ => see_ok ⟨gN l i, false, false⟩ (hc _ (gN_mem hlt))) trivial ?_ | refine caE_i (see_ok ⟨gN l i, false, false⟩ (hc _ (gN_mem hlt))) trivial ?_
      simp +contextual (maxSteps := 1000000) only [go_sem, ints, intRows, reduceAdd, Nat.reduceBEq, reduceEqDiff, reduceLeDiff, Nat.reduceLT, reduceIte, reduceLE, Int.reduceLT, reduceEq, reduceNeg, reduceToNat, ops, vals, dots, rws]
      have hfl := List.length_filter_le (fun r : Rwx => decide (0 < r.dots.length)) (l.take i)
      rw [List.length_take] at hfl
      refine nxS_app (n := n + 12) (((ho.upd (by omega)).upd (by omega)).mono (by omega)) (by omega) rfl (allValRows [seeT (gN l i)]) (by simp [maxLen]; omega) fun v' ob' ho2 _ => ?_
      simp +contextual (maxSteps := 1000000) only [go_sem, ints, intRows, reduceAdd, Nat.reduceBEq, reduceEqDiff, reduceLeDiff, Nat.reduceLT, reduceIte, reduceLE, Int.reduceLT, reduceEq, reduceNeg, reduceToNat, ops, vals, dots, h12, h13, h14, w1, rws]
      refine ⟨⟨i + 1, rfl, by omega, ?_⟩, by omega⟩
      rw [ht, if_pos h0]
      have := ho2.mono (n' := n + 11 + 1 + 1 + 1 + 1 + 1 + 1) (by omega)
      simpa [Function.comp_def, vals] using this
    · simp at h0
      simp +contextual (maxSteps := 1000000) only [go_sem, ints, intRows, reduceAdd, Nat.reduceBEq, reduceEqDiff, reduceLeDiff, Nat.reduceLT, reduceIte, reduceLE, Int.reduceLT, reduceEq, reduceNeg, reduceToNat, ops, vals, dots, h12, h13, h14, w1, rws]
      refine ⟨⟨i + 1, rfl, by omega, ?_⟩, by omega⟩
      rw [ht, if_neg (by simp [h0]), List.append_nil]
      have h2 : ∀ (N : Nat) (a b : Option Ob), n ≤ N → Own N (updO (updO ob (n + 3) a) (n + 3) b) (env 5) 1 _ := fun N a b hN => ((ho.upd (by omega)).upd (by omega)).mono hN
      have h3 := fun N a b hN => h2 N a b hN
      simp only [List.map_map, Function.comp_def, vals] at h3 ⊢
      exact h3 _ _ _ (by omega)
  · simp at hge
    have hil : i = l.length := by omega
    rw [hil, List.take_length, ← hs] at ho
    rw [out_own ho (fun ob' => gValRows ob' _) [] (fun _ => rfl)]; rfl
end Go.Proofs.YtbojpedklnmidaaGreat.D
end
section
set_option linter.unusedVariables false
set_option linter.unusedSimpArgs false
set_option maxRecDepth 100000
set_option linter.constructorNameAsVariable false

/- Whether an operation may be. No condition. -/
namespace Go.Proofs.YtbojpedklnmidaaGreat.D
open Go Go.Proofs
open Nat (reduceAdd reduceEqDiff reduceLeDiff)
open Int (reduceLE reduceEq reduceNeg reduceToNat)
theorem sm1_ok (v : Vl) : FnB Tryz.prog 145 [.ag (vlV v)] (vb (!smallV v)) := by
  refine fnB_intro cf145 (by simp) ?_
  simp +contextual (maxSteps := 1000000) only [go_sem, ints, intRows, reduceAdd, Nat.reduceBEq, reduceEqDiff, reduceLeDiff, Nat.reduceLT, reduceIte, reduceLE, Int.reduceLT, reduceEq, reduceNeg, reduceToNat, ops, vals, dots, c145]
  first | refine caS_i (vSmall_ok v) trivial ?_ | refine caD_i (vSmall_ok v) trivial ?_ | refine gC_i (fun _ => vSmall_ok v) trivial ?_ | refine gCD_i (fun _ => vSmall_ok v) trivial ?_ | refine caE_i (vSmall_ok v) trivial ?_
  simp +contextual (maxSteps := 1000000) only [go_sem, ints, intRows, reduceAdd, Nat.reduceBEq, reduceEqDiff, reduceLeDiff, Nat.reduceLT, reduceIte, reduceLE, Int.reduceLT, reduceEq, reduceNeg, reduceToNat, ops, vals, dots]
theorem rFits_ok {fl fm : Fl} (r : List Vl) (cols : List Int) (hr : r.length ≤ maxLen) : FnB Tryz.prog 143 [vals fl r, ints fm cols] (vb (allG fitsV r cols)) := by
  refine fnB_intro cf143 (by simp) ?_
  simp +contextual (maxSteps := 1000000) only [go_sem, ints, intRows, reduceAdd, Nat.reduceBEq, reduceEqDiff, reduceLeDiff, Nat.reduceLT, reduceIte, reduceLE, Int.reduceLT, reduceEq, reduceNeg, reduceToNat, ops, vals, dots, c143]
  first | refine caS_i (EqualVals_ok r cols 140 [] fitsV hr (fun _ => rfl) fun x y => vFits_ok x y) trivial ?_ | refine caD_i (EqualVals_ok r cols 140 [] fitsV hr (fun _ => rfl) fun x y => vFits_ok x y) trivial ?_ | refine gC_i (fun _ => EqualVals_ok r cols 140 [] fitsV hr (fun _ => rfl) fun x y => vFits_ok x y) trivial ?_ | refine gCD_i (fun _ => EqualVals_ok r cols 140 [] fitsV hr (fun _ => rfl) fun x y => vFits_ok x y) trivial ?_ | refine caE_i (EqualVals_ok r cols 140 [] fitsV hr (fun _ => rfl) fun x y => vFits_ok x y) trivial ?_
  simp +contextual (maxSteps := 1000000) only [go_sem, ints, intRows, reduceAdd, Nat.reduceBEq, reduceEqDiff, reduceLeDiff, Nat.reduceLT, reduceIte, reduceLE, Int.reduceLT, reduceEq, reduceNeg, reduceToNat, ops, vals, dots]
def smallBs (v : List Vl) (cols : List Int) : Bool := allG fitsV v cols && !v.any (fun v => !smallV v)
theorem small_ok {fl fm : Fl} (r : List Vl) (cols : List Int) (hr : r.length ≤ maxLen) : FnB Tryz.prog 114 [vals fl r, ints fm cols] (vb (smallBs r cols)) := by
  refine fnB_intro cf114 (by simp) ?_
  simp +contextual (maxSteps := 1000000) only [go_sem, ints, intRows, reduceAdd, Nat.reduceBEq, reduceEqDiff, reduceLeDiff, Nat.reduceLT, reduceIte, reduceLE, Int.reduceLT, reduceEq, reduceNeg, reduceToNat, ops, vals, dots, c114]
  first | refine caS_i (rFits_ok r cols hr) trivial ?_ | refine caD_i (rFits_ok r cols hr) trivial ?_ | refine gC_i (fun _ => rFits_ok r cols hr) trivial ?_ | refine gCD_i (fun _ => rFits_ok r cols hr) trivial ?_ | refine caE_i (rFits_ok r cols hr) trivial ?_
  simp +contextual (maxSteps := 1000000) only [go_sem, ints, intRows, reduceAdd, Nat.reduceBEq, reduceEqDiff, reduceLeDiff, Nat.reduceLT, reduceIte, reduceLE, Int.reduceLT, reduceEq, reduceNeg, reduceToNat, ops, vals, dots]
  first | refine caS_i (ContainsVals_ok r 145 [] (fun v => !smallV v) hr (fun _ => rfl) (fun _ => rfl) fun x _ => sm1_ok x) trivial ?_ | refine caD_i (ContainsVals_ok r 145 [] (fun v => !smallV v) hr (fun _ => rfl) (fun _ => rfl) fun x _ => sm1_ok x) trivial ?_ | refine gC_i (fun _ => ContainsVals_ok r 145 [] (fun v => !smallV v) hr (fun _ => rfl) (fun _ => rfl) fun x _ => sm1_ok x) trivial ?_ | refine gCD_i (fun _ => ContainsVals_ok r 145 [] (fun v => !smallV v) hr (fun _ => rfl) (fun _ => rfl) fun x _ => sm1_ok x) trivial ?_ | refine caE_i (ContainsVals_ok r 145 [] (fun v => !smallV v) hr (fun _ => rfl) (fun _ => rfl) fun x _ => sm1_ok x) trivial ?_
  simp +contextual (maxSteps := 1000000) only [go_sem, ints, intRows, reduceAdd, Nat.reduceBEq, reduceEqDiff, reduceLeDiff, Nat.reduceLT, reduceIte, reduceLE, Int.reduceLT, reduceEq, reduceNeg, reduceToNat, ops, vals, dots]
  rfl
def wholeB (n : Int) (x : Opz) : Bool := decide (0 ≤ x.dot.p) && decide (x.dot.p < n) && decide (1 ≤ x.dot.n) && decide (x.dot.n ≤ 1073741824) && decide ((x.deps.length : Int) = n) && decide (vecE x.deps = 0) && decide (gN x.deps x.dot.p.toNat = x.dot.n - 1) && okS x.st && decide (x.st.q = x.dot.p)
theorem hlcE_0 (s : St3) : decide (hlcE s = 0) = okS s := by unfold hlcE; cases okS s <;> rfl
theorem whole_ok (n : Int) (x : Opz) : FnB Tryz.prog 113 [vi n, .ag (opZ x)] (vb (wholeB n x)) := by
  refine fnB_intro cf113 (by simp) ?_
  simp +contextual (maxSteps := 1000000) only [go_sem, ints, intRows, reduceAdd, Nat.reduceBEq, reduceEqDiff, reduceLeDiff, Nat.reduceLT, reduceIte, reduceLE, Int.reduceLT, reduceEq, reduceNeg, reduceToNat, ops, vals, dots, c113]
  first | refine caS_i (Check_ok x.deps) trivial ?_ | refine caD_i (Check_ok x.deps) trivial ?_ | refine gC_i (fun _ => Check_ok x.deps) trivial ?_ | refine gCD_i (fun _ => Check_ok x.deps) trivial ?_ | refine caE_i (Check_ok x.deps) trivial ?_
  simp +contextual (maxSteps := 1000000) only [go_sem, ints, intRows, reduceAdd, Nat.reduceBEq, reduceEqDiff, reduceLeDiff, Nat.reduceLT, reduceIte, reduceLE, Int.reduceLT, reduceEq, reduceNeg, reduceToNat, ops, vals, dots]
  refine ⟨fun h => ?_, ?_⟩
  · simp only [Bool.and_eq_true, decide_eq_true_eq] at h; omega
  first | refine caS_i (hCheck_ok x.st) trivial ?_ | refine caD_i (hCheck_ok x.st) trivial ?_ | refine gC_i (fun _ => hCheck_ok x.st) trivial ?_ | refine gCD_i (fun _ => hCheck_ok x.st) trivial ?_ | refine caE_i (hCheck_ok x.st) trivial ?_
  simp +contextual (maxSteps := 1000000) only [go_sem, ints, intRows, reduceAdd, Nat.reduceBEq, reduceEqDiff, reduceLeDiff, Nat.reduceLT, reduceIte, reduceLE, Int.reduceLT, reduceEq, reduceNeg, reduceToNat, ops, vals, dots, hlcE_0]
  unfold wholeB
  by_cases hn : 1 ≤ x.dot.n ∧ x.dot.n ≤ 1073741824
  · have hw : IntKind.i64.wrap (x.dot.n - 1) = x.dot.n - 1 := w64 (by omega)
    rw [hw]
  · have : decide (1 ≤ x.dot.n) = false ∨ decide (x.dot.n ≤ 1073741824) = false := by simp; omega
    rcases this with h | h <;> rw [h] <;> simp
def hadB (v : List Int) (l : List Dt) : Bool := decide (∀ i, i < l.length → hasB v (gN l i) = true ∧ (0 < i → lessD (gN l (i - 1)) (gN l i) = true))
theorem had_ok {fl fm : Fl} (v : List Int) (l : List Dt) (hl : l.length ≤ maxLen) : FnB Tryz.prog 115 [ints fm v, dots fl l] (vb (hadB v l)) := by
  refine fnB_intro cf115 (by simp) ?_
  unfold maxLen at hl
  simp +contextual (maxSteps := 1000000) only [go_sem, ints, intRows, reduceAdd, Nat.reduceBEq, reduceEqDiff, reduceLeDiff, Nat.reduceLT, reduceIte, reduceLE, Int.reduceLT, reduceEq, reduceNeg, reduceToNat, ops, vals, dots, c115]
  refine wpC_lp (fun env ob n => env 0 = ints fm v ∧ env 1 = dots fl l ∧ env 7 = dots fl l ∧ env 8 = vi l.length ∧ ∃ i : Nat, env 9 = vi i ∧ i ≤ l.length ∧ ∀ j, j < i → hasB v (gN l j) = true ∧ (0 < j → lessD (gN l (j - 1)) (gN l j) = true)) (fun env ob n => (l.length - iv (env 9)).toNat) ?_ ?_
  · simp +contextual (maxSteps := 1000000) only [go_sem, ints, intRows, reduceAdd, Nat.reduceBEq, reduceEqDiff, reduceLeDiff, Nat.reduceLT, reduceIte, reduceLE, Int.reduceLT, reduceEq, reduceNeg, reduceToNat, ops, vals, dots]
    exact ⟨0, rfl, Nat.zero_le _, fun j hj => by omega⟩
  rintro env ob n ⟨h0, h1, h5, h6, i, h7, hi, he⟩
  simp +contextual (maxSteps := 1000000) only [go_sem, ints, intRows, reduceAdd, Nat.reduceBEq, reduceEqDiff, reduceLeDiff, Nat.reduceLT, reduceIte, reduceLE, Int.reduceLT, reduceEq, reduceNeg, reduceToNat, ops, vals, dots, h0, h1, h5, h6, h7, Nat.add_assoc]
  have w1 : IntKind.i64.wrap ((i : Int) + 1) = ((i + 1 : Nat) : Int) := by rw [w64 (by omega)]; omega
  refine ⟨fun hlt => ?_, fun hge => ?_⟩
  · simp at hlt
    repeat (refine And.intro (by omega) ?_)
    first | refine caS_i (Has_ok v (gN l i)) trivial ?_ | refine caD_i (Has_ok v (gN l i)) trivial ?_ | refine gC_i (fun _ => Has_ok v (gN l i)) trivial ?_ | refine gCD_i (fun _ => Has_ok v (gN l i)) trivial ?_ | refine caE_i (Has_ok v (gN l i)) trivial ?_
    by_cases h0i : i = 0
    · subst h0i
      simp +contextual (maxSteps := 1000000) only [go_sem, ints, intRows, reduceAdd, Nat.reduceBEq, reduceEqDiff, reduceLeDiff, Nat.reduceLT, reduceIte, reduceLE, Int.reduceLT, reduceEq, reduceNeg, reduceToNat, ops, vals, dots, h0, h1, h5, h6, h7, Bool.not_true, Bool.not_false, Bool.or_false, Bool.false_or, Bool.and_false, Bool.true_and, Bool.and_true, Bool.true_or, Bool.or_true]
      have w1' : IntKind.i64.wrap (0 + 1) = ((1 : Nat) : Int) := by decide
      rw [w1']
      refine ⟨fun hb => ?_, fun hg => ⟨⟨1, rfl, hlt, fun j hj => ?_⟩, by omega⟩⟩
      · rw [hadB, decide_eq_false]; intro h; simp [(h 0 hlt).1] at hb
      · have : j = 0 := by omega
        subst this
        refine ⟨by simpa using hg, fun h => by omega⟩
    · have w0 : IntKind.i64.wrap ((i : Int) - 1) = ((i - 1 : Nat) : Int) := by rw [w64 (by omega)]; omega
      have p0 : decide (0 < (i : Int)) = true := by simp; omega
      simp +contextual (maxSteps := 1000000) only [go_sem, ints, intRows, reduceAdd, Nat.reduceBEq, reduceEqDiff, reduceLeDiff, Nat.reduceLT, reduceIte, reduceLE, Int.reduceLT, reduceEq, reduceNeg, reduceToNat, ops, vals, dots, h0, h1, h5, h6, h7, w0, p0, Bool.not_true, Bool.not_false, Bool.or_false, Bool.false_or, Bool.and_false, Bool.true_and, Bool.and_true, Bool.true_or, Bool.or_true]
      refine ⟨fun _ => by omega, ?_⟩
      first | refine caS_i (Less_ok (gN l (i - 1)) (gN l i)) trivial ?_ | refine caD_i (Less_ok (gN l (i - 1)) (gN l i)) trivial ?_ | refine gC_i (fun _ => Less_ok (gN l (i - 1)) (gN l i)) trivial ?_ | refine gCD_i (fun _ => Less_ok (gN l (i - 1)) (gN l i)) trivial ?_ | refine caE_i (Less_ok (gN l (i - 1)) (gN l i)) trivial ?_
      simp +contextual (maxSteps := 1000000) only [go_sem, ints, intRows, reduceAdd, Nat.reduceBEq, reduceEqDiff, reduceLeDiff, Nat.reduceLT, reduceIte, reduceLE, Int.reduceLT, reduceEq, reduceNeg, reduceToNat, ops, vals, dots, h0, h1, h5, h6, h7, w1]
      refine ⟨fun hb => ?_, fun hg => ⟨⟨i + 1, rfl, by omega, fun j hj => ?_⟩, by omega⟩⟩
      · rw [hadB, decide_eq_false]; intro h; simp [(h i hlt).1, (h i hlt).2 (by omega)] at hb
      · by_cases hji : j = i
        · subst hji
          cases hn : hasB v (gN l j) with
          | false => rw [hn] at hg; simp at hg
          | true => rw [hn] at hg; exact ⟨rfl, fun _ => by simpa using hg⟩
        · exact he j (by omega)
  · simp at hge
    have : i = l.length := by omega
    subst this
    rw [hadB, decide_eq_true he]
def rightO (n : Int) (cols : List Int) (x : Opz) : Bool := wholeB n x && decide (x.table = 0) && keyB x.key &&
  (if x.kind = 1 then smallBs x.vals cols && decide (x.col = 0) && decide (x.dots.length = 0)
   else if x.kind = 2 then decide (0 ≤ x.col ∧ x.col < cols.length) && smallBs x.vals [gN cols x.col.toNat] && decide (x.dots.length = 0)
   else if x.kind = 3 then decide (1 ≤ x.dots.length ∧ x.dots.length ≤ 64) && hadB x.deps x.dots && decide (x.col = 0) && decide (x.vals.length = 0) else false)
theorem oright_ok (n : Int) (cols : List Int) (x : Opz) (hv : x.vals.length ≤ maxLen) (hd : x.dots.length ≤ maxLen) (hc : cols.length ≤ 4) : FnB Tryz.prog 72 [vi n, tbs .b [cols], .ag (opZ x)] (vb (rightO n cols x)) := by
  refine fnB_intro cf72 (by simp) ?_
  simp +contextual (maxSteps := 1000000) only [go_sem, ints, intRows, reduceAdd, Nat.reduceBEq, reduceEqDiff, reduceLeDiff, Nat.reduceLT, reduceIte, reduceLE, Int.reduceLT, reduceEq, reduceNeg, reduceToNat, ops, vals, dots, c72, tbs]
  first | refine caS_i (whole_ok n x) trivial ?_ | refine caD_i (whole_ok n x) trivial ?_ | refine gC_i (fun _ => whole_ok n x) trivial ?_ | refine gCD_i (fun _ => whole_ok n x) trivial ?_ | refine caE_i (whole_ok n x) trivial ?_
  simp +contextual (maxSteps := 1000000) only [go_sem, ints, intRows, reduceAdd, Nat.reduceBEq, reduceEqDiff, reduceLeDiff, Nat.reduceLT, reduceIte, reduceLE, Int.reduceLT, reduceEq, reduceNeg, reduceToNat, ops, vals, dots]
  first | refine caS_i (Key_ok x.key) trivial ?_ | refine caD_i (Key_ok x.key) trivial ?_ | refine gC_i (fun _ => Key_ok x.key) trivial ?_ | refine gCD_i (fun _ => Key_ok x.key) trivial ?_ | refine caE_i (Key_ok x.key) trivial ?_
  simp +contextual (maxSteps := 1000000) only [go_sem, ints, intRows, reduceAdd, Nat.reduceBEq, reduceEqDiff, reduceLeDiff, Nat.reduceLT, reduceIte, reduceLE, Int.reduceLT, reduceEq, reduceNeg, reduceToNat, ops, vals, dots]
  refine ⟨fun hb => ?_, fun hb => ?_⟩
  · unfold rightO
    have : (wholeB n x && decide (x.table = 0) && keyB x.key) = false := by
      cases h1 : wholeB n x <;> cases h2 : keyB x.key <;> simp_all
      omega
    rw [this, Bool.false_and]
  have hw : wholeB n x = true ∧ x.table = 0 ∧ keyB x.key = true := by
    cases h1 : wholeB n x <;> cases h2 : keyB x.key <;> simp_all
    omega
  obtain ⟨hw1, hw2, hw3⟩ := hw
  have hr : rightO n cols x = (if x.kind = 1 then smallBs x.vals cols && decide (x.col = 0) && decide (x.dots.length = 0)
   else if x.kind = 2 then decide (0 ≤ x.col ∧ x.col < cols.length) && smallBs x.vals [gN cols x.col.toNat] && decide (x.dots.length = 0)
   else if x.kind = 3 then decide (1 ≤ x.dots.length ∧ x.dots.length ≤ 64) && hadB x.deps x.dots && decide (x.col = 0) && decide (x.vals.length = 0) else false) := by
    unfold rightO; rw [hw1, hw2, hw3]; rfl
  simp +contextual (maxSteps := 1000000) only [go_sem, ints, intRows, reduceAdd, Nat.reduceBEq, reduceEqDiff, reduceLeDiff, Nat.reduceLT, reduceIte, reduceLE, Int.reduceLT, reduceEq, reduceNeg, reduceToNat, ops, vals, dots, hw2, ia_h, tbV]
  refine ⟨fun h1 => ?_, fun h1 => ⟨fun h2 => ?_, fun h2 => ⟨fun h3 => ?_, fun h3 => ?_⟩⟩⟩
  · first | refine caS_i (small_ok (fl := .b) (fm := .b) x.vals cols hv) trivial ?_ | refine caD_i (small_ok (fl := .b) (fm := .b) x.vals cols hv) trivial ?_ | refine gC_i (fun _ => small_ok (fl := .b) (fm := .b) x.vals cols hv) trivial ?_ | refine gCD_i (fun _ => small_ok (fl := .b) (fm := .b) x.vals cols hv) trivial ?_ | refine caE_i (small_ok (fl := .b) (fm := .b) x.vals cols hv) trivial ?_
    simp +contextual (maxSteps := 1000000) only [go_sem, ints, intRows, reduceAdd, Nat.reduceBEq, reduceEqDiff, reduceLeDiff, Nat.reduceLT, reduceIte, reduceLE, Int.reduceLT, reduceEq, reduceNeg, reduceToNat, ops, vals, dots]
    rw [hr, if_pos (by simpa using h1)]
    simp
  · have hR := hr
    rw [if_neg (by simpa using h1), if_pos (by simpa using h2)] at hR
    by_cases hcol : 0 ≤ x.col ∧ x.col < cols.length
    · obtain ⟨c, hc1⟩ : ∃ c : Nat, x.col = c := ⟨x.col.toNat, by omega⟩
      have hw : IntKind.i64.wrap (x.col + 1) = ((c + 1 : Nat) : Int) := by rw [w64 (by omega)]; omega
      refine ⟨fun _ => ⟨by decide, fun ch hch => by obtain ⟨_, _, rfl⟩ := List.mem_map.1 hch; rfl, hcol.1, by rw [hw]; omega, by rw [hw]; omega⟩, ?_⟩
      have harg : ∀ ob : OB, List.map (fun r => List.map (resV ob 5) r) (List.drop x.col.toNat (List.take (IntKind.i64.wrap (x.col + 1)).toNat (List.map (fun n => [vi n]) cols))) = [gN cols x.col.toNat].map fun n => [vi n] := fun ob => by
        rw [hw, hc1, Int.toNat_natCast, Int.toNat_natCast, ← List.map_take, ← List.map_drop, take_gN (by omega), List.drop_append_of_le_length (by simp; omega), List.drop_eq_nil_of_le (by simp; omega)]
        rfl
      rw [harg]
      first | refine caS_i (small_ok (fl := .b) (fm := .b) x.vals [gN cols x.col.toNat] hv) trivial ?_ | refine caD_i (small_ok (fl := .b) (fm := .b) x.vals [gN cols x.col.toNat] hv) trivial ?_ | refine gC_i (fun _ => small_ok (fl := .b) (fm := .b) x.vals [gN cols x.col.toNat] hv) trivial ?_ | refine gCD_i (fun _ => small_ok (fl := .b) (fm := .b) x.vals [gN cols x.col.toNat] hv) trivial ?_ | refine caE_i (small_ok (fl := .b) (fm := .b) x.vals [gN cols x.col.toNat] hv) trivial ?_
      simp +contextual (maxSteps := 1000000) only [go_sem, ints, intRows, reduceAdd, Nat.reduceBEq, reduceEqDiff, reduceLeDiff, Nat.reduceLT, reduceIte, reduceLE, Int.reduceLT, reduceEq, reduceNeg, reduceToNat, ops, vals, dots]
      rw [hR]; simp
    · have hf : (decide (0 ≤ x.col) && decide (x.col < (cols.length : Int))) = false := by simp; omega
      refine ⟨fun h => absurd h (by rw [hf]; simp), ?_⟩
      refine gCD_i (q := vb true) (fun h => absurd h (by rw [hf]; simp)) trivial ?_
      simp +contextual (maxSteps := 1000000) only [go_sem, ints, intRows, reduceAdd, Nat.reduceBEq, reduceEqDiff, reduceLeDiff, Nat.reduceLT, reduceIte, reduceLE, Int.reduceLT, reduceEq, reduceNeg, reduceToNat, ops, vals, dots]
      have hf2 : decide (0 ≤ x.col ∧ x.col < (cols.length : Int)) = false := by simp; omega
      rw [hR, hf, hf2]; simp
  · rw [if_neg (by simpa using h1), if_neg (by simpa using h2), if_pos (by simpa using h3)] at hr
    first | refine caS_i (had_ok (fl := flg x.fd) (fm := .b) x.deps x.dots hd) trivial ?_ | refine caD_i (had_ok (fl := flg x.fd) (fm := .b) x.deps x.dots hd) trivial ?_ | refine gC_i (fun _ => had_ok (fl := flg x.fd) (fm := .b) x.deps x.dots hd) trivial ?_ | refine gCD_i (fun _ => had_ok (fl := flg x.fd) (fm := .b) x.deps x.dots hd) trivial ?_ | refine caE_i (had_ok (fl := flg x.fd) (fm := .b) x.deps x.dots hd) trivial ?_
    simp +contextual (maxSteps := 1000000) only [go_sem, ints, intRows, reduceAdd, Nat.reduceBEq, reduceEqDiff, reduceLeDiff, Nat.reduceLT, reduceIte, reduceLE, Int.reduceLT, reduceEq, reduceNeg, reduceToNat, ops, vals, dots]
    have c1 : decide (1 ≤ (x.dots.length : Int)) = decide (1 ≤ x.dots.length) := by rw [decide_eq_decide]; omega
    have c2 : decide ((x.dots.length : Int) ≤ 64) = decide (x.dots.length ≤ 64) := by rw [decide_eq_decide]; omega
    rw [hr, c1, c2]; simp
  · rw [hr, if_neg (by simpa using h1), if_neg (by simpa using h2), if_neg (by simpa using h3)]
def opE (cols : List Int) (x : Opz) : Int := if formE cols ≠ 0 then formE cols else if (x.deps.length : Int) < 1 ∨ 5 < (x.deps.length : Int) ∨ rightO x.deps.length cols x = false then 1 else 0
theorem opCheck_ok (cols : List Int) (x : Opz) (hv : x.vals.length ≤ maxLen) (hd : x.dots.length ≤ maxLen) : FnB Tryz.prog 36 [vi x.deps.length, tbs .b [cols], .ag (opZ x)] (vi (opE cols x)) := by
  refine fnB_intro cf36 (by simp) ?_
  simp +contextual (maxSteps := 1000000) only [go_sem, ints, intRows, reduceAdd, Nat.reduceBEq, reduceEqDiff, reduceLeDiff, Nat.reduceLT, reduceIte, reduceLE, Int.reduceLT, reduceEq, reduceNeg, reduceToNat, ops, vals, dots, c36, tbs]
  first | refine caS_i (Forms_ok cols) trivial ?_ | refine caD_i (Forms_ok cols) trivial ?_ | refine gC_i (fun _ => Forms_ok cols) trivial ?_ | refine gCD_i (fun _ => Forms_ok cols) trivial ?_ | refine caE_i (Forms_ok cols) trivial ?_
  simp +contextual (maxSteps := 1000000) only [go_sem, ints, intRows, reduceAdd, Nat.reduceBEq, reduceEqDiff, reduceLeDiff, Nat.reduceLT, reduceIte, reduceLE, Int.reduceLT, reduceEq, reduceNeg, reduceToNat, ops, vals, dots, tbs]
  refine ⟨fun h => ?_, fun h => ?_⟩
  · rw [opE, if_pos (by simpa using h)]
  have hf : formE cols = 0 := by simpa using h
  have hc : cols.length ≤ 4 := by
    unfold formE at hf
    split at hf
    · cases hf
    · omega
  first | refine caS_i (oright_ok x.deps.length cols x hv hd hc) trivial ?_ | refine caD_i (oright_ok x.deps.length cols x hv hd hc) trivial ?_ | refine gC_i (fun _ => oright_ok x.deps.length cols x hv hd hc) trivial ?_ | refine gCD_i (fun _ => oright_ok x.deps.length cols x hv hd hc) trivial ?_ | refine caE_i (oright_ok x.deps.length cols x hv hd hc) trivial ?_
  simp +contextual (maxSteps := 1000000) only [go_sem, ints, intRows, reduceAdd, Nat.reduceBEq, reduceEqDiff, reduceLeDiff, Nat.reduceLT, reduceIte, reduceLE, Int.reduceLT, reduceEq, reduceNeg, reduceToNat, ops, vals, dots]
  refine ⟨fun hb => ?_, fun hb => ?_⟩
  · rw [opE, if_neg (by simpa using hf), if_pos (by simpa [or_assoc] using hb)]
  · rw [opE, if_neg (by simpa using hf), if_neg]
    simp at hb
    rintro (h1 | h1 | h1)
    · omega
    · omega
    · rw [hb.2] at h1; cases h1
end Go.Proofs.YtbojpedklnmidaaGreat.D
end
section
set_option linter.unusedVariables false
set_option linter.unusedSimpArgs false
set_option maxRecDepth 100000
set_option linter.constructorNameAsVariable false

/- Looking for a place; comparing texts. No condition. -/
namespace Go.Proofs.YtbojpedklnmidaaGreat.D
open Go Go.Proofs
open Nat (reduceAdd reduceEqDiff reduceLeDiff)
open Int (reduceLE reduceEq reduceNeg reduceToNat)
def cmpB (a b : ByteArray) : Int := Lib.compareBytes a.data.toList b.data.toList
theorem cmpX_ok {a b : ByteArray} {ob : OB} {nid : Nat} {C : V → OB → Nat → Prop} (hC : C (vi (cmpB a b)) ob nid) : FnX Tryz.prog 116 [.c (.string a), .c (.string b)] ob nid C := by
  intro B n0 w own loc xs hwf hle hfr hxs
  match xs, hxs with
  | [x, y], hxs =>
    have ha := hxs.2 0 _ x rfl rfl
    have hb := hxs.2 1 _ y rfl rfl
    cases ha
    cases hb
    refine ⟨.int .i64 (cmpB a b), w, vi (cmpB a b), ob, nid, own, loc, ?_, .c _, hwf, .refl _ _ _, hfr, hC⟩
    rw [run_callFunc_extern (fn := Tryz.f116) Tryz.func116 (by kernel_rfl) (by kernel_rfl) (by kernel_rfl) (e := Extern.BytealgCompare.compare) (by kernel_rfl)]
    rw [Lib.run_compareString]
    rfl
theorem CompareString_ok (a b : ByteArray) : FnB Tryz.prog 76 [.c (.string a), .c (.string b)] (vi (cmpB a b)) := by
  refine fnB_intro cf76 (by simp) ?_
  simp +contextual (maxSteps := 1000000) only [go_sem, ints, intRows, reduceAdd, Nat.reduceBEq, reduceEqDiff, reduceLeDiff, Nat.reduceLT, reduceIte, reduceLE, Int.reduceLT, reduceEq, reduceNeg, reduceToNat, ops, vals, dots, c76]
  refine rcS_x (cmpX_ok ?_)
  simp +contextual (maxSteps := 1000000) only [go_sem, ints, intRows, reduceAdd, Nat.reduceBEq, reduceEqDiff, reduceLeDiff, Nat.reduceLT, reduceIte, reduceLE, Int.reduceLT, reduceEq, reduceNeg, reduceToNat, ops, vals, dots]
theorem sCompare_ok (a b : ByteArray) : FnB Tryz.prog 40 [.c (.string a), .c (.string b)] (vi (cmpB a b)) := by
  refine fnB_intro cf40 (by simp) ?_
  simp +contextual (maxSteps := 1000000) only [go_sem, ints, intRows, reduceAdd, Nat.reduceBEq, reduceEqDiff, reduceLeDiff, Nat.reduceLT, reduceIte, reduceLE, Int.reduceLT, reduceEq, reduceNeg, reduceToNat, ops, vals, dots, c40]
  first | refine caS_i (CompareString_ok a b) trivial ?_ | refine caD_i (CompareString_ok a b) trivial ?_ | refine gC_i (fun _ => CompareString_ok a b) trivial ?_ | refine gCD_i (fun _ => CompareString_ok a b) trivial ?_ | refine caE_i (CompareString_ok a b) trivial ?_
  simp +contextual (maxSteps := 1000000) only [go_sem, ints, intRows, reduceAdd, Nat.reduceBEq, reduceEqDiff, reduceLeDiff, Nat.reduceLT, reduceIte, reduceLE, Int.reduceLT, reduceEq, reduceNeg, reduceToNat, ops, vals, dots]
theorem cmpL_r (a b : List UInt8) : (Lib.compareBytes a b = -1 ∧ a < b) ∨ (Lib.compareBytes a b = 0 ∧ a = b) ∨ (Lib.compareBytes a b = 1 ∧ b < a) := by
  induction a generalizing b with
  | nil => cases b with
    | nil => exact .inr (.inl ⟨rfl, rfl⟩)
    | cons y b => exact .inl ⟨rfl, by simp⟩
  | cons x a ih => cases b with
    | nil => exact .inr (.inr ⟨rfl, by simp⟩)
    | cons y b =>
      unfold Lib.compareBytes
      by_cases h1 : x < y
      · rw [if_pos h1]; exact .inl ⟨rfl, List.cons_lt_cons_iff.2 (.inl h1)⟩
      · rw [if_neg h1]
        by_cases h2 : y < x
        · rw [if_pos h2]; exact .inr (.inr ⟨rfl, List.cons_lt_cons_iff.2 (.inl h2)⟩)
        · rw [if_neg h2]
          have : x = y := UInt8.le_antisymm (UInt8.not_lt.1 h2) (UInt8.not_lt.1 h1)
          subst this
          rcases ih b with ⟨e, h⟩ | ⟨e, h⟩ | ⟨e, h⟩
          · exact .inl ⟨e, List.cons_lt_cons_iff.2 (.inr ⟨rfl, h⟩)⟩
          · exact .inr (.inl ⟨e, by rw [h]⟩)
          · exact .inr (.inr ⟨e, List.cons_lt_cons_iff.2 (.inr ⟨rfl, h⟩)⟩)
theorem keyLt_iff (a b : ByteArray) : keyLt a b = true ↔ a.data.toList < b.data.toList := by
  unfold keyLt
  rw [Proofs.bytesLess_eq, ByteArray.toList_eq, ByteArray.toList_eq]; simp
theorem cmpB_r (a b : ByteArray) : (cmpB a b = -1 ∧ keyLt a b = true) ∨ (cmpB a b = 0 ∧ a = b) ∨ (cmpB a b = 1 ∧ keyLt b a = true) := by
  rcases cmpL_r a.data.toList b.data.toList with ⟨e, h⟩ | ⟨e, h⟩ | ⟨e, h⟩
  · exact .inl ⟨e, (keyLt_iff a b).2 h⟩
  · refine .inr (.inl ⟨e, ?_⟩)
    cases a; cases b; simp at h; simp [h]
  · exact .inr (.inr ⟨e, (keyLt_iff b a).2 h⟩)
theorem keyLt_trans {a b c : ByteArray} (h1 : keyLt a b = true) (h2 : keyLt b c = true) : keyLt a c = true :=
  (keyLt_iff a c).2 (List.lt_trans ((keyLt_iff a b).1 h1) ((keyLt_iff b c).1 h2))
theorem keyLt_irr (a : ByteArray) : keyLt a a = false := by
  cases h : keyLt a a with
  | false => rfl
  | true => exact absurd ((keyLt_iff a a).1 h) (List.lt_irrefl _)
structure Rw (k : Nat) where
  r : List V
  ok : okRow k r = true
theorem Rw.len {k : Nat} (x : Rw k) : x.r.length = k := by have := x.ok; simp [okRow] at this; exact this.1
theorem Rw.leaf {k : Nat} (x : Rw k) : x.r.all leaf = true := by have := x.ok; unfold okRow at this; rw [Bool.and_eq_true] at this; exact this.2
instance : Inhabited (Rw 3) := ⟨⟨rwV default, rfl⟩⟩
instance : Inhabited (Rw 2) := ⟨⟨dotV default, rfl⟩⟩
instance : Inhabited (Rw 8) := ⟨⟨celV default, rfl⟩⟩
@[go_sem] theorem rw3_len (x : Rw 3) : x.r.length = 3 := x.len
@[go_sem] theorem rw3_leaf (x : Rw 3) : x.r.all leaf = true := x.leaf
@[go_sem] theorem rw3_row (x : Rw 3) : okRow 3 x.r = true := x.ok
@[go_sem] theorem rw3_t (x : Rw 3) : x.r.take 3 = x.r := List.take_of_length_le (by rw [x.len]; exact Nat.le_refl _)
@[go_sem] theorem rw3_d (x : Rw 3) : x.r.drop 3 = [] := List.drop_eq_nil_of_le (by rw [x.len]; exact Nat.le_refl _)
@[go_sem] theorem rw2_len (x : Rw 2) : x.r.length = 2 := x.len
@[go_sem] theorem rw2_leaf (x : Rw 2) : x.r.all leaf = true := x.leaf
@[go_sem] theorem rw2_row (x : Rw 2) : okRow 2 x.r = true := x.ok
@[go_sem] theorem rw2_t (x : Rw 2) : x.r.take 2 = x.r := List.take_of_length_le (by rw [x.len]; exact Nat.le_refl _)
@[go_sem] theorem rw2_d (x : Rw 2) : x.r.drop 2 = [] := List.drop_eq_nil_of_le (by rw [x.len]; exact Nat.le_refl _)
@[go_sem] theorem rw8_len (x : Rw 8) : x.r.length = 8 := x.len
@[go_sem] theorem rw8_leaf (x : Rw 8) : x.r.all leaf = true := x.leaf
@[go_sem] theorem rw8_row (x : Rw 8) : okRow 8 x.r = true := x.ok
@[go_sem] theorem rw8_t (x : Rw 8) : x.r.take 8 = x.r := List.take_of_length_le (by rw [x.len]; exact Nat.le_refl _)
@[go_sem] theorem rw8_d (x : Rw 8) : x.r.drop 8 = [] := List.drop_eq_nil_of_le (by rw [x.len]; exact Nat.le_refl _)
end Go.Proofs.YtbojpedklnmidaaGreat.D
end
section
set_option linter.unusedVariables false
set_option linter.unusedSimpArgs false
set_option maxRecDepth 100000
set_option linter.constructorNameAsVariable false

/- Looking for a place. No condition. -/
namespace Go.Proofs.YtbojpedklnmidaaGreat.D
open Go Go.Proofs
open Nat (reduceAdd reduceEqDiff reduceLeDiff)
open Int (reduceLE reduceEq reduceNeg reduceToNat)
theorem BinDots_ok {fl : Fl} (l : List Dt) (x : Dt) (f : Nat) (c : Nat → Int) (k : Nat) (hl : l.length ≤ maxLen) (hp : ∀ i, i < l.length → FnB Tryz.prog f [.ag (dotV (gN l i)), (.ag (dotV x))] (vi (c i))) (hk : k ≤ l.length) (h1 : ∀ i, i < k → c i < 0) (h2 : ∀ i, k ≤ i → i < l.length → 0 ≤ c i) :
    FnB Tryz.prog 79 [dots fl l, (.ag (dotV x)), .fn f []] (.tp [vi k, vb (decide (k < l.length) && decide (c k = 0))]) := by
  refine fnB_intro cf79 (by simp) ?_
  unfold maxLen at hl
  simp +contextual (maxSteps := 1000000) only [go_sem, ints, intRows, reduceAdd, Nat.reduceBEq, reduceEqDiff, reduceLeDiff, Nat.reduceLT, reduceIte, reduceLE, Int.reduceLT, reduceEq, reduceNeg, reduceToNat, ops, vals, dots, c79, dots]
  refine wpC_lp (fun env ob n => env 0 = dots fl l ∧ env 2 = .fn f [] ∧ (ob 0 = some ⟨2, [dotV x], none⟩ ∧ env 4 = .pt 0 0 0) ∧ env 8 = vi l.length ∧ ∃ i j : Nat, env 9 = vi i ∧ env 10 = vi j ∧ i ≤ k ∧ k ≤ j ∧ j ≤ l.length) (fun env ob n => (iv (env 10) - iv (env 9)).toNat) ?_ ?_
  · simp +contextual (maxSteps := 1000000) only [go_sem, ints, intRows, reduceAdd, Nat.reduceBEq, reduceEqDiff, reduceLeDiff, Nat.reduceLT, reduceIte, reduceLE, Int.reduceLT, reduceEq, reduceNeg, reduceToNat, ops, vals, dots, dots]
    refine ⟨0, l.length, rfl, rfl, Nat.zero_le _, hk, Nat.le_refl _⟩
  rintro env ob n ⟨e0, e2, ⟨eo, e4⟩, e8, i, j, e9, e10, hi, hj, hjl⟩
  have hw : IntKind.i64.wrap (IntKind.u64.wrap (IntKind.i64.wrap ((i : Int) + j)) / 2) = ((i + j) / 2 : Nat) := by
    rw [w64 (n := (i : Int) + j) (by omega)]
    have hu : IntKind.u64.wrap ((i : Int) + j) = (i : Int) + j := u64 (by omega)
    rw [hu, w64 (by omega)]; omega
  simp +contextual (maxSteps := 1000000) only [go_sem, ints, intRows, reduceAdd, Nat.reduceBEq, reduceEqDiff, reduceLeDiff, Nat.reduceLT, reduceIte, reduceLE, Int.reduceLT, reduceEq, reduceNeg, reduceToNat, ops, vals, dots, e0, e2, e4, e8, e9, e10, eo, dots, hw]
  refine ⟨fun hlt => ?_, fun hge => ?_⟩
  · simp at hlt
    have hm : (i + j) / 2 < l.length := by omega
    repeat (refine And.intro (by omega) ?_)
    first | refine caS_i (hp _ hm) trivial ?_ | refine caD_i (hp _ hm) trivial ?_ | refine gC_i (fun _ => hp _ hm) trivial ?_ | refine gCD_i (fun _ => hp _ hm) trivial ?_ | refine caE_i (hp _ hm) trivial ?_
    simp +contextual (maxSteps := 1000000) only [go_sem, ints, intRows, reduceAdd, Nat.reduceBEq, reduceEqDiff, reduceLeDiff, Nat.reduceLT, reduceIte, reduceLE, Int.reduceLT, reduceEq, reduceNeg, reduceToNat, ops, vals, dots, e0, e2, e4, e8, e9, e10, eo, dots, hw]
    have w1 : IntKind.i64.wrap ((((i + j) / 2 : Nat) : Int) + 1) = (((i + j) / 2 + 1 : Nat) : Int) := by rw [w64 (by omega)]; omega
    rw [w1]
    refine ⟨fun hc => ?_, fun hc => ?_⟩
    · have hc : c ((i + j) / 2) < 0 := by simpa using hc
      have : (i + j) / 2 < k := Nat.lt_of_not_le fun hge => by have := h2 _ hge hm; omega
      exact ⟨⟨(i + j) / 2 + 1, j, rfl, rfl, by omega, hj, hjl⟩, by omega⟩
    · have hc : ¬ c ((i + j) / 2) < 0 := by simpa using hc
      have : k ≤ (i + j) / 2 := Nat.le_of_not_lt fun hlt2 => hc (h1 _ hlt2)
      exact ⟨⟨i, (i + j) / 2, rfl, rfl, hi, this, by omega⟩, by omega⟩
  · simp at hge
    have hik : i = k := by omega
    subst hik
    by_cases hl2 : i < l.length
    · have hd : decide ((i : Int) < l.length) = true := by simpa using hl2
      have hd2 : decide (i < l.length) = true := by simpa using hl2
      refine ⟨fun _ => by omega, ?_⟩
      first | refine caS_i (hp _ hl2) trivial ?_ | refine caD_i (hp _ hl2) trivial ?_ | refine gC_i (fun _ => hp _ hl2) trivial ?_ | refine gCD_i (fun _ => hp _ hl2) trivial ?_ | refine caE_i (hp _ hl2) trivial ?_
      simp +contextual (maxSteps := 1000000) only [go_sem, ints, intRows, reduceAdd, Nat.reduceBEq, reduceEqDiff, reduceLeDiff, Nat.reduceLT, reduceIte, reduceLE, Int.reduceLT, reduceEq, reduceNeg, reduceToNat, ops, vals, dots, e0, e2, e4, e8, e9, e10, eo, dots, hd]
      rw [hd2, Bool.true_and]
    · have hd : decide ((i : Int) < l.length) = false := by simp; omega
      have hd2 : decide (i < l.length) = false := by simp; omega
      refine ⟨fun h => absurd h (by rw [hd]; simp), ?_⟩
      first
        | refine gCD_i (q := vi 0) (fun h => absurd h (by rw [hd]; simp)) trivial ?_
        | refine gC_i (q := vi 0) (fun h => absurd h (by rw [hd]; simp)) trivial ?_
      simp +contextual (maxSteps := 1000000) only [go_sem, ints, intRows, reduceAdd, Nat.reduceBEq, reduceEqDiff, reduceLeDiff, Nat.reduceLT, reduceIte, reduceLE, Int.reduceLT, reduceEq, reduceNeg, reduceToNat, ops, vals, dots, e0, e2, e4, e8, e9, e10, eo, dots, hd]
      rw [hd2, Bool.false_and]
theorem BinRwfs_ok {fl : Fl} (l : List Rwf) (x : ByteArray) (f : Nat) (c : Nat → Int) (k : Nat) (hl : l.length ≤ maxLen) (hp : ∀ i, i < l.length → FnB Tryz.prog f [.ag (rwF (gN l i)), (.c (.string x))] (vi (c i))) (hk : k ≤ l.length) (h1 : ∀ i, i < k → c i < 0) (h2 : ∀ i, k ≤ i → i < l.length → 0 ≤ c i) :
    FnB Tryz.prog 38 [rwfs fl l, (.c (.string x)), .fn f []] (.tp [vi k, vb (decide (k < l.length) && decide (c k = 0))]) := by
  refine fnB_intro cf38 (by simp) ?_
  unfold maxLen at hl
  simp +contextual (maxSteps := 1000000) only [go_sem, ints, intRows, reduceAdd, Nat.reduceBEq, reduceEqDiff, reduceLeDiff, Nat.reduceLT, reduceIte, reduceLE, Int.reduceLT, reduceEq, reduceNeg, reduceToNat, ops, vals, dots, c38, rwfs]
  refine wpC_lp (fun env ob n => env 0 = rwfs fl l ∧ env 2 = .fn f [] ∧ (env 1 = .c (.string x) ∧ True) ∧ env 8 = vi l.length ∧ ∃ i j : Nat, env 9 = vi i ∧ env 10 = vi j ∧ i ≤ k ∧ k ≤ j ∧ j ≤ l.length) (fun env ob n => (iv (env 10) - iv (env 9)).toNat) ?_ ?_
  · simp +contextual (maxSteps := 1000000) only [go_sem, ints, intRows, reduceAdd, Nat.reduceBEq, reduceEqDiff, reduceLeDiff, Nat.reduceLT, reduceIte, reduceLE, Int.reduceLT, reduceEq, reduceNeg, reduceToNat, ops, vals, dots, rwfs]
    refine ⟨0, l.length, rfl, rfl, Nat.zero_le _, hk, Nat.le_refl _⟩
  rintro env ob n ⟨e0, e2, ⟨eo, e4⟩, e8, i, j, e9, e10, hi, hj, hjl⟩
  have hw : IntKind.i64.wrap (IntKind.u64.wrap (IntKind.i64.wrap ((i : Int) + j)) / 2) = ((i + j) / 2 : Nat) := by
    rw [w64 (n := (i : Int) + j) (by omega)]
    have hu : IntKind.u64.wrap ((i : Int) + j) = (i : Int) + j := u64 (by omega)
    rw [hu, w64 (by omega)]; omega
  simp +contextual (maxSteps := 1000000) only [go_sem, ints, intRows, reduceAdd, Nat.reduceBEq, reduceEqDiff, reduceLeDiff, Nat.reduceLT, reduceIte, reduceLE, Int.reduceLT, reduceEq, reduceNeg, reduceToNat, ops, vals, dots, e0, e2, e4, e8, e9, e10, eo, rwfs, hw]
  refine ⟨fun hlt => ?_, fun hge => ?_⟩
  · simp at hlt
    have hm : (i + j) / 2 < l.length := by omega
    repeat (refine And.intro (by omega) ?_)
    first | refine caS_i (hp _ hm) trivial ?_ | refine caD_i (hp _ hm) trivial ?_ | refine gC_i (fun _ => hp _ hm) trivial ?_ | refine gCD_i (fun _ => hp _ hm) trivial ?_ | refine caE_i (hp _ hm) trivial ?_
    simp +contextual (maxSteps := 1000000) only [go_sem, ints, intRows, reduceAdd, Nat.reduceBEq, reduceEqDiff, reduceLeDiff, Nat.reduceLT, reduceIte, reduceLE, Int.reduceLT, reduceEq, reduceNeg, reduceToNat, ops, vals, dots, e0, e2, e4, e8, e9, e10, eo, rwfs, hw]
    have w1 : IntKind.i64.wrap ((((i + j) / 2 : Nat) : Int) + 1) = (((i + j) / 2 + 1 : Nat) : Int) := by rw [w64 (by omega)]; omega
    rw [w1]
    refine ⟨fun hc => ?_, fun hc => ?_⟩
    · have hc : c ((i + j) / 2) < 0 := by simpa using hc
      have : (i + j) / 2 < k := Nat.lt_of_not_le fun hge => by have := h2 _ hge hm; omega
      exact ⟨⟨(i + j) / 2 + 1, j, rfl, rfl, by omega, hj, hjl⟩, by omega⟩
    · have hc : ¬ c ((i + j) / 2) < 0 := by simpa using hc
      have : k ≤ (i + j) / 2 := Nat.le_of_not_lt fun hlt2 => hc (h1 _ hlt2)
      exact ⟨⟨i, (i + j) / 2, rfl, rfl, hi, this, by omega⟩, by omega⟩
  · simp at hge
    have hik : i = k := by omega
    subst hik
    by_cases hl2 : i < l.length
    · have hd : decide ((i : Int) < l.length) = true := by simpa using hl2
      have hd2 : decide (i < l.length) = true := by simpa using hl2
      refine ⟨fun _ => by omega, ?_⟩
      first | refine caS_i (hp _ hl2) trivial ?_ | refine caD_i (hp _ hl2) trivial ?_ | refine gC_i (fun _ => hp _ hl2) trivial ?_ | refine gCD_i (fun _ => hp _ hl2) trivial ?_ | refine caE_i (hp _ hl2) trivial ?_
      simp +contextual (maxSteps := 1000000) only [go_sem, ints, intRows, reduceAdd, Nat.reduceBEq, reduceEqDiff, reduceLeDiff, Nat.reduceLT, reduceIte, reduceLE, Int.reduceLT, reduceEq, reduceNeg, reduceToNat, ops, vals, dots, e0, e2, e4, e8, e9, e10, eo, rwfs, hd]
      rw [hd2, Bool.true_and]
    · have hd : decide ((i : Int) < l.length) = false := by simp; omega
      have hd2 : decide (i < l.length) = false := by simp; omega
      refine ⟨fun h => absurd h (by rw [hd]; simp), ?_⟩
      first
        | refine gCD_i (q := vi 0) (fun h => absurd h (by rw [hd]; simp)) trivial ?_
        | refine gC_i (q := vi 0) (fun h => absurd h (by rw [hd]; simp)) trivial ?_
      simp +contextual (maxSteps := 1000000) only [go_sem, ints, intRows, reduceAdd, Nat.reduceBEq, reduceEqDiff, reduceLeDiff, Nat.reduceLT, reduceIte, reduceLE, Int.reduceLT, reduceEq, reduceNeg, reduceToNat, ops, vals, dots, e0, e2, e4, e8, e9, e10, eo, rwfs, hd]
      rw [hd2, Bool.false_and]
end Go.Proofs.YtbojpedklnmidaaGreat.D
end
section
set_option linter.unusedVariables false
set_option linter.unusedSimpArgs false
set_option maxRecDepth 100000
set_option linter.constructorNameAsVariable false

/- Inserting and deleting at dots and rows, as they lie in memory. No condition. -/
namespace Go.Proofs.YtbojpedklnmidaaGreat.D
open Go Go.Proofs
open Nat (reduceAdd reduceEqDiff reduceLeDiff)
open Int (reduceLE reduceEq reduceNeg reduceToNat)
def OwnE (n : Nat) (ob : OB) (v : V) (k : Nat) (rows : List (List V)) : Prop :=
  (rows = [] ∧ v = .z) ∨ ∃ id cap, id < n ∧ v = .sl id 0 rows.length ∧ ob id = some ⟨k, rows, cap⟩
theorem Own.e {n : Nat} {ob : OB} {v : V} {k : Nat} {rows : List (List V)} (h : Own n ob v k rows) : OwnE n ob v k rows := h.imp id fun ⟨_, i, c, h⟩ => ⟨i, c, h⟩
@[go_sem] theorem op_slc3 (x a b c : V) (ob : OB) (i : Nat) : opF .slc3 [x, a, b, c] ob i = (toInt a).bind fun a => (toInt b).bind fun b => (toInt c).bind fun c => (lenS ob x).bind fun n => if 0 ≤ a ∧ a ≤ b ∧ b ≤ c ∧ c ≤ n then some (.u, []) else none := (rfl)
@[go_sem] theorem lenS_sl (ob : OB) (id off len : Nat) : lenS ob (.sl id off len) = (ob id).map fun _ => len := (rfl)
@[go_sem] theorem lenS_z (ob : OB) : lenS ob .z = some 0 := (rfl)
@[go_sem] theorem slice_sl (ob : OB) (k id off len : Nat) (lo hi : Option Int) : sliceV ob k (.sl id off len) lo hi = (ob id).bind fun o => if o.k = k ∧ 0 ≤ lo.getD 0 ∧ lo.getD 0 ≤ hi.getD len ∧ off + hi.getD len ≤ o.l.length then some (if lo.getD 0 = 0 then .sl id off (hi.getD len).toNat else if lo.getD 0 = hi.getD len then .im .b [] else .sl id (off + (lo.getD 0).toNat) (hi.getD len - lo.getD 0).toNat) else none := by
  simp only [sliceV]
  congr 1
  funext o
  split
  · split
    · rfl
    · split <;> rfl
  · rfl
theorem idxI_spec {α : Type} [Inhabited α] (p : α → Bool) (l : List α) : (idxI p l = -1 ∧ ∀ x ∈ l, p x = false) ∨ ∃ i : Nat, idxI p l = i ∧ i < l.length ∧ p (gN l i) = true ∧ ∀ x ∈ l.take i, p x = false := by
  by_cases h : l.any p = true
  · right
    have hlt : l.findIdx p < l.length := List.findIdx_lt_length_of_exists (by simpa using h)
    refine ⟨l.findIdx p, by rw [idxI, if_pos h], hlt, ?_, fun x hx => ?_⟩
    · rw [gN_eq hlt]; exact List.findIdx_getElem
    · obtain ⟨j, hj, rfl⟩ := List.mem_take_iff_getElem.1 hx
      have := List.not_of_lt_findIdx (p := p) (xs := l) (i := j) (by omega)
      simpa using this
  · left
    refine ⟨by rw [idxI, if_neg h], fun x hx => ?_⟩
    cases hp : p x with
    | false => rfl
    | true => exact absurd (List.any_eq_true.2 ⟨x, hx, hp⟩) h
theorem less_upd {ob' : OB} {id k : Nat} {rows rows2 : List (List V)} {cap : Option Nat} (h : ∃ m, rows2 = rows.take m) (hk : 0 < k := by decide) : Less (updO ob' id (some ⟨k, rows2, none⟩)) (updO ob' id (some ⟨k, rows, cap⟩)) := fun j o ho => by
  by_cases hj : j = id
  · subst hj
    rw [updO_s] at ho; injection ho with ho; subst ho
    exact ⟨_, updO_s _ _ _, rfl, h, fun c hc => (by cases hc), fun e => by simp at e; omega⟩
  · simp only [updO, hj, if_false] at ho
    exact ⟨o, by simp [updO, hj, ho], rfl, ⟨o.l.length, by simp⟩, fun c hc => hc, fun _ => rfl⟩
theorem slv2 {id i m M : Nat} (h : i < m) (hM : i = 0 → M = m) : (if (i : Int) = 0 then V.sl id 0 M else if (i : Int) = m then V.im .b [] else V.sl id i ((m : Int) - i).toNat) = V.sl id i (m - i) := by
  split
  · rename_i h0
    have : i = 0 := by omega
    rw [hM this, this]; rfl
  · rw [if_neg (by omega)]
    congr 1; omega
theorem Less.refl (ob : OB) : Less ob ob := fun _ o ho => ⟨o, ho, rfl, ⟨o.l.length, by simp⟩, fun _ hc => hc, fun _ => rfl⟩
theorem over_mid {A B X : List (List V)} {a : Nat} (h : A.length = a) : over (A ++ B) a X = A ++ X ++ B.drop X.length := by
  subst h
  unfold over
  rw [List.take_left, List.drop_append]
  simp
@[go_sem] theorem slice_z (ob : OB) (k : Nat) (lo hi : Option Int) : sliceV ob k .z lo hi = if lo.getD 0 = 0 ∧ hi.getD 0 = 0 then some V.z else none := (rfl)
@[go_sem] theorem dotV_d2 (x : Dt) : (dotV x).drop 2 = [] := (rfl)
def rw3V (x : Rw 3) : List V := x.r
@[go_sem] theorem rw3V_len (x : Rw 3) : (rw3V x).length = 3 := x.len
@[go_sem] theorem rw3V_leaf (x : Rw 3) : (rw3V x).all leaf = true := x.leaf
@[go_sem] theorem rw3V_row (x : Rw 3) : okRow 3 (rw3V x) = true := x.ok
@[go_sem] theorem rw3V_t (x : Rw 3) : (rw3V x).take 3 = rw3V x := rw3_t x
@[go_sem] theorem rw3V_d (x : Rw 3) : (rw3V x).drop 3 = [] := rw3_d x
theorem allRw3 (l : List (Rw 3)) : (l.map rw3V).all (okRow 3) = true := all_map _ _ (fun x => x.ok) l
set_option maxHeartbeats 1000000 in
theorem DeleteFuncDots_ok {l : List Dt} {id nid f : Nat} {cap : Option Nat} {ob : OB} {C : V → OB → Nat → Prop} {caps rc : List V} {p : Dt → Bool} (hl : l.length ≤ maxLen) (hob : ob id = some ⟨2, l.map dotV, cap⟩) (hid : id < nid)
    (hrc : ∀ ob', (∀ j, j ≠ id → j < nid → ob' j = ob j) → caps.map (resV ob' 6) = rc ∧ caps.map (resV ob' 5) = rc) (hrr : ∀ ob', rc.map (resV ob' 6) = rc) (hp : ∀ x ∈ l, FnB Tryz.prog f (.ag (dotV x) :: rc) (vb (p x)))
    (hC : ∀ ob' n', nid ≤ n' → (∀ j, j ≠ id → j < nid → ob' j = ob j) → ob' id = some ⟨2, (l.filter fun x => !p x).map dotV, none⟩ → C (.sl id 0 (l.filter fun x => !p x).length) ob' n') :
    FnS Tryz.prog 83 [.sl id 0 l.length, .fn f caps] ob nid C := by
  have hl' := hl
  unfold maxLen at hl
  refine FnS_less (fnS_intro cf83 (by simp) ?_)
  have hc0 := hrc ob fun _ _ _ => rfl
  have hlen : (l.map dotV).length = l.length := by simp
  simp +contextual (maxSteps := 1000000) only [go_sem, ints, intRows, reduceAdd, Nat.reduceBEq, reduceEqDiff, reduceLeDiff, Nat.reduceLT, reduceIte, reduceLE, Int.reduceLT, reduceEq, reduceNeg, reduceToNat, ops, vals, dots, c83, hob, hc0.1, hc0.2, hlen, Nat.le_refl, Nat.zero_add]
  first | refine caS_i (IndexDots_ok (fl := .n) l f rc p hl' hrr hp) trivial ?_ | refine caD_i (IndexDots_ok (fl := .n) l f rc p hl' hrr hp) trivial ?_ | refine gC_i (fun _ => IndexDots_ok (fl := .n) l f rc p hl' hrr hp) trivial ?_ | refine gCD_i (fun _ => IndexDots_ok (fl := .n) l f rc p hl' hrr hp) trivial ?_ | refine caE_i (IndexDots_ok (fl := .n) l f rc p hl' hrr hp) trivial ?_
  rcases idxI_spec p l with ⟨e, hno⟩ | ⟨i, e, hi, hpi, hbe⟩
  · simp +contextual (maxSteps := 1000000) only [go_sem, ints, intRows, reduceAdd, Nat.reduceBEq, reduceEqDiff, reduceLeDiff, Nat.reduceLT, reduceIte, reduceLE, Int.reduceLT, reduceEq, reduceNeg, reduceToNat, ops, vals, dots, e]
    have hf : (l.filter fun x => !p x) = l := List.filter_eq_self.2 fun x hx => by simp [hno x hx]
    refine ⟨updO ob id (some ⟨2, l.map dotV, none⟩), fun j o ho => ?_, ?_⟩
    · by_cases hj : j = id
      · subst hj; rw [updO_s] at ho; injection ho with ho; subst ho
        exact ⟨_, hob, rfl, ⟨l.length, by rw [List.take_of_length_le (by simp)]⟩, fun c hc => (by cases hc), fun h => (by cases h)⟩
      · simp only [updO, hj, if_false] at ho; exact ⟨o, ho, rfl, ⟨o.l.length, by simp⟩, fun c hc => hc, fun _ => rfl⟩
    · have := hC (updO ob id (some ⟨2, l.map dotV, none⟩)) (nid + 1 + 1 + 1 + 1 + 1 + 1 + 1 + 1 + 1) (by omega) (fun j hj _ => by simp [updO, hj])
      rw [hf] at this
      exact this (updO_s _ _ _)
  have w1 : IntKind.i64.wrap ((i : Int) + 1) = ((i + 1 : Nat) : Int) := by rw [w64 (by omega)]; omega
  have hne : decide ((i : Int) = -1) = false := by simp
  simp +contextual (maxSteps := 1000000) only [go_sem, ints, intRows, reduceAdd, Nat.reduceBEq, reduceEqDiff, reduceLeDiff, Nat.reduceLT, reduceIte, reduceLE, Int.reduceLT, reduceEq, reduceNeg, reduceToNat, ops, vals, dots, e, w1, hne]
  have hpi' : (!p (gN l i)) = false := by rw [hpi]; rfl
  refine wpC_lp (fun env ob' n' => env 0 = .sl id 0 l.length ∧ env 1 = .fn f caps ∧ (∀ j, j ≠ id → j < nid → ob' j = ob j) ∧ nid ≤ n' ∧ ∃ (i j : Nat) (cur : List Dt), env 5 = vi i ∧ env 6 = vi j ∧ i + 1 ≤ j ∧ j ≤ l.length ∧ ob' id = some ⟨2, cur.map dotV, cap⟩ ∧ cur.length = l.length ∧ cur.take i = (l.take j).filter (fun x => !p x) ∧ cur.drop j = l.drop j) (fun env ob _ => (l.length - iv (env 6)).toNat) ?_ ?_
  · simp +contextual (maxSteps := 1000000) only [go_sem, ints, intRows, reduceAdd, Nat.reduceBEq, reduceEqDiff, reduceLeDiff, Nat.reduceLT, reduceIte, reduceLE, Int.reduceLT, reduceEq, reduceNeg, reduceToNat, ops, vals, dots]
    refine ⟨by omega, i, i + 1, l, rfl, rfl, by omega, by omega, hob, rfl, ?_, rfl⟩
    rw [take_gN hi, List.filter_append, List.filter_eq_self.2 fun x hx => by simp [hbe x hx]]
    simp [hpi]
  rintro env ob' n' ⟨h0, h1, hfr, hn', i, j, cur, h5, h6, hij, hj, hob', hcl, ht, hd⟩
  simp +contextual (maxSteps := 1000000) only [go_sem, ints, intRows, reduceAdd, Nat.reduceBEq, reduceEqDiff, reduceLeDiff, Nat.reduceLT, reduceIte, reduceLE, Int.reduceLT, reduceEq, reduceNeg, reduceToNat, ops, vals, dots, h0, h1, h5, h6, hob']
  refine ⟨fun hlt => ?_, fun hge => ?_⟩
  · simp at hlt
    have hcj : gN cur j = gN l j := by
      have := congrArg (fun l => l[0]?) hd
      simp at this
      simp [gN, List.getD, this]
    repeat (refine And.intro (by omega) ?_)
    simp +contextual (maxSteps := 1000000) only [go_sem, ints, intRows, reduceAdd, Nat.reduceBEq, reduceEqDiff, reduceLeDiff, Nat.reduceLT, reduceIte, reduceLE, Int.reduceLT, reduceEq, reduceNeg, reduceToNat, ops, vals, dots, hcj, List.map_append]
    have hm : (id == n' + 1 + 1 + 1 + 1 + 1 + 1 + 1 + 1) = false := by simp; omega
    rw [(hrc _ fun j hj hlt => by simp only [updO]; rw [if_neg (by omega), if_neg (by omega)]; exact hfr j hj hlt).1]
    first | refine caS_i (hp _ (gN_mem hlt)) trivial ?_ | refine caD_i (hp _ (gN_mem hlt)) trivial ?_ | refine gC_i (fun _ => hp _ (gN_mem hlt)) trivial ?_ | refine gCD_i (fun _ => hp _ (gN_mem hlt)) trivial ?_ | refine caE_i (hp _ (gN_mem hlt)) trivial ?_
    have w2 : IntKind.i64.wrap ((i : Int) + 1) = ((i + 1 : Nat) : Int) := by rw [w64 (by omega)]; omega
    have w3 : IntKind.i64.wrap ((j : Int) + 1) = ((j + 1 : Nat) : Int) := by rw [w64 (by omega)]; omega
    simp +contextual (maxSteps := 1000000) only [go_sem, ints, intRows, reduceAdd, Nat.reduceBEq, reduceEqDiff, reduceLeDiff, Nat.reduceLT, reduceIte, reduceLE, Int.reduceLT, reduceEq, reduceNeg, reduceToNat, ops, vals, dots, h0, h1, h5, h6, hob', hcj, hm, w2, w3]
    have hfr' : ∀ (m : Nat) (a b c : Option Ob), nid ≤ m → ∀ j, j ≠ id → j < nid → updO (updO (updO ob' m a) m b) id c j = ob j := fun m a b c hm j hj hlt => by
      simp only [updO]; rw [if_neg hj, if_neg (by omega), if_neg (by omega)]; exact hfr j hj hlt
    have hfr2 : ∀ (m : Nat) (a b : Option Ob), nid ≤ m → ∀ j, j ≠ id → j < nid → updO (updO ob' m a) m b j = ob j := fun m a b hm j hj hlt => by
      simp only [updO]; rw [if_neg (by omega), if_neg (by omega)]; exact hfr j hj hlt
    have hd1 : cur.drop (j + 1) = l.drop (j + 1) := by
      have := congrArg (List.drop 1) hd
      simpa [List.drop_drop] using this
    refine ⟨fun hp1 => ⟨by omega, by omega, ⟨hfr' _ _ _ _ (by omega), by omega, i + 1, j + 1, cur.set i (gN l j), rfl, rfl, by omega, by omega, rfl, by simpa using hcl, ?_, ?_⟩, by omega⟩, fun hp2 => ⟨⟨hfr2 _ _ _ (by omega), by omega, i, j + 1, cur, rfl, rfl, by omega, by omega, rfl, hcl, ?_, hd1⟩, by omega⟩⟩
    · rw [take_gN (l := cur.set i (gN l j)) (by simp; omega), take_gN hlt, List.filter_append, ← ht, List.take_set_of_le (Nat.le_refl _), gN_set (by omega)]
      simp [hp1]
    · rw [List.drop_set_of_lt (by omega)]; exact hd1
    · rw [take_gN hlt, List.filter_append, ← ht]
      simp at hp2; simp [hp2]
  · simp at hge
    have hj' : j = l.length := by omega
    subst hj'
    rw [List.take_of_length_le (Nat.le_refl _)] at ht
    have hs : (if (i : Int) = 0 then V.sl id 0 l.length else if (i : Int) = l.length then V.im .b [] else V.sl id i ((l.length : Int) - i).toNat) = V.sl id i (l.length - i) := by
      split
      · rename_i h
        have : i = 0 := by omega
        subst this; rfl
      · rw [if_neg (by omega)]
        congr 1; omega
    have hil : (l.filter fun x => !p x).length = i := by rw [← ht, List.length_take]; omega
    repeat (refine And.intro (by omega) ?_)
    rw [hs]
    simp +contextual (maxSteps := 1000000) only [go_sem, ints, intRows, reduceAdd, Nat.reduceBEq, reduceEqDiff, reduceLeDiff, Nat.reduceLT, reduceIte, reduceLE, Int.reduceLT, reduceEq, reduceNeg, reduceToNat, ops, vals, dots, h0, h5, hob']
    repeat (refine And.intro (by omega) ?_)
    refine ⟨by unfold over; simp; omega, updO ob' id (some ⟨2, (cur.take i).map dotV, none⟩), less_upd ⟨i, ?_⟩, ?_⟩
    · unfold over
      rw [List.append_assoc, List.take_append_of_le_length (by simp; omega), List.map_take, List.take_take, Nat.min_self]
    · have := hC (updO ob' id (some ⟨2, (cur.take i).map dotV, none⟩)) (n' + 1 + 1 + 1 + 1 + 1 + 1 + 1 + 1 + 1 + 1 + 1 + 1) (by omega) (fun j hj hlt => by simp only [updO, hj, if_false]; exact hfr j hj hlt) (by rw [updO_s, ht])
      rw [hil] at this
      exact this
theorem OverlapsDots_ok {i j oi oj li lj nid : Nat} {x y : Ob} {ob : OB} {C : V → OB → Nat → Prop} (hi : ob i = some x) (hj : ob j = some y) (hij : i ≠ j) (hy : y.l ≠ []) (hk : y.k ≠ 0) (hC : C (vb false) ob nid) :
    FnX Tryz.prog 120 [.sl i oi li, .sl j oj lj] ob nid C := by
  intro B n0 w own loc xs hwf hle hfr hxs
  match xs, hxs with
  | [a, b], hxs =>
    have ha := hxs.2 0 _ a rfl rfl
    have hb := hxs.2 1 _ b rfl rfl
    obtain ⟨p, hp, hor, hcap, rfl⟩ := sl_at hwf hi ha
    obtain ⟨q, hq, hoq, hcaq, rfl⟩ := sl_at hwf hj hb
    have hne : p.b ≠ q.b := fun e => by
      have h1 := (hwf.owns i p hp).1
      have h2 := (hwf.owns j q hq).1
      rw [e, h2] at h1; injection h1 with h1; exact hij h1.symm
    obtain ⟨cs, t, hm1, hm2⟩ := hor.mem
    obtain ⟨ds, u, hn1, hn2⟩ := hoq.mem
    have hds : ds.size ≠ 0 := by
      have h1 : 0 < y.l.length := List.length_pos_iff.2 hy
      have h2 := hoq.len
      have h3 : 1 * q.k ≤ q.cap * q.k := Nat.mul_le_mul_right _ (by omega)
      have := hoq.k; omega
    refine ⟨.bool false, w, vb false, ob, nid, own, loc, ?_, .c _, hwf, .refl _ _ _, hfr, hC⟩
    rw [run_callFunc_extern (fn := Tryz.f120) Tryz.func120 (by kernel_rfl) (by kernel_rfl) (by kernel_rfl) (e := Extern.SlicesOverlaps.overlaps #[36, 36] #[4]) (by kernel_rfl)]
    rw [Lib.run_overlaps_apart w 36 4 32 Tryz.underlying36 2 (fun w => ?_) _ _ _ _ _ _ hne t u cs.size ds.size (by simp [World.shape?, hm1]) (by simp [World.shape?, hn1]) hds (by simp [World.frozen?, hm1]) (by simp [World.frozen?, hm1])]
    · rfl
    · rfl
set_option maxHeartbeats 1000000 in
theorem InsertDots_ok {l : List Dt} {i idv n nid : Nat} {x : Dt} {s : V} {capv : Option Nat} {ob : OB} {C : V → OB → Nat → Prop} (hi : i ≤ l.length) (hl : l.length + 1 ≤ maxLen) (h : Own n ob s 2 (l.map dotV)) (hn : n ≤ nid) (hv : ob idv = some ⟨2, [dotV x], capv⟩) (hiv : idv < nid) (hsv : ∀ len, s ≠ .sl idv 0 len)
    (hC : ∀ v' ob' n', nid ≤ n' → Own n' ob' v' 2 ((l.take i ++ x :: l.drop i).map dotV) → (∀ j, j < nid → (∀ len, s ≠ .sl j 0 len) → ob' j = ob j) → C v' ob' n') :
    FnS Tryz.prog 81 [s, vi i, .sl idv 0 1] ob nid C := by
  have hl' := hl
  unfold maxLen at hl'
  have hxr : rowsOf ob (.sl idv 0 1) = some [dotV x] := by simp [rowsOf, hv]
  have hxo : [dotV x].all (okRow 2) = true := by simpa using allDots [x]
  by_cases hin : i = l.length
  · -- at the end
    subst hin
    have hin' : decide ((l.length : Int) = l.length) = true := by simp
    refine fnS_intro cf81 (by simp) ?_
    have fin : ∀ v' ob' n', nid ≤ n' → Own n' ob' v' 2 (l.map dotV ++ [dotV x]) → (∀ j, j < nid → (∀ len, s ≠ .sl j 0 len) → ob' j = ob j) → C v' ob' n' := fun v' ob' n' h1 h2 h3 => hC v' ob' n' h1 (by rw [List.take_of_length_le (Nat.le_refl _), List.drop_eq_nil_of_le (Nat.le_refl _), List.map_append]; exact h2) h3
    rcases h with ⟨h1, rfl⟩ | ⟨h1, id, cap, hid, rfl, hob⟩
    · have hl0 : l.length = 0 := by simpa using congrArg List.length h1
      have hl0' : l = [] := List.eq_nil_of_length_eq_zero hl0
      subst hl0'
      simp +contextual (maxSteps := 1000000) only [go_sem, ints, intRows, reduceAdd, Nat.reduceBEq, reduceEqDiff, reduceLeDiff, Nat.reduceLT, reduceIte, reduceLE, Int.reduceLT, reduceEq, reduceNeg, reduceToNat, ops, vals, dots, c81, List.length_nil, hv]
      refine nxS_app (n := nid) (rows := []) (xs := [dotV x]) Own.nil (by omega) hxr hxo (by simp [maxLen]) fun v' ob' ho hfr => ?_
      simp +contextual (maxSteps := 1000000) only [go_sem, ints, intRows, reduceAdd, Nat.reduceBEq, reduceEqDiff, reduceLeDiff, Nat.reduceLT, reduceIte, reduceLE, Int.reduceLT, reduceEq, reduceNeg, reduceToNat, ops, vals, dots]
      exact fin v' ob' _ (by omega) (ho.mono (by omega)) fun j hj hs => hfr j hj fun e => by cases e
    · have hlm : (l.map dotV).length = l.length := by simp
      simp +contextual (maxSteps := 1000000) only [go_sem, ints, intRows, reduceAdd, Nat.reduceBEq, reduceEqDiff, reduceLeDiff, Nat.reduceLT, reduceIte, reduceLE, Int.reduceLT, reduceEq, reduceNeg, reduceToNat, ops, vals, dots, c81, hob, hlm, hv, hin']
      repeat (refine And.intro (by omega) ?_)
      have ho0 : Own nid ob (.sl id 0 l.length) 2 (l.map dotV) := .inr ⟨h1, id, cap, by omega, by rw [hlm], hob⟩
      refine nxS_app (n := nid) (rows := l.map dotV) (xs := [dotV x]) ho0 (by omega) hxr hxo (by simpa [maxLen] using hl') fun v' ob' ho hfr => ?_
      simp +contextual (maxSteps := 1000000) only [go_sem, ints, intRows, reduceAdd, Nat.reduceBEq, reduceEqDiff, reduceLeDiff, Nat.reduceLT, reduceIte, reduceLE, Int.reduceLT, reduceEq, reduceNeg, reduceToNat, ops, vals, dots]
      exact fin v' ob' _ (by omega) (ho.mono (by omega)) fun j hj hs => hfr j hj (by simpa using hs)
  have hlt : i < l.length := by omega
  have hne : l ≠ [] := fun e => by rw [e] at hlt; simp at hlt
  rcases h with ⟨h1, rfl⟩ | ⟨h1, id, cap, hid, rfl, hob⟩
  · simp at h1; exact absurd h1 hne
  have hivd : idv ≠ id := fun e => hsv l.length (by rw [e, List.length_map])
  refine FnS_grow hob (fun c h1 h2 => FnS_less (fnS_intro cf81 (by simp) ?_)) (by kernel_rfl)
  have hlm : (l.map dotV).length = l.length := by simp
  rw [hlm] at h1
  have hin' : decide ((i : Int) = l.length) = false := by simp; omega
  have w1 : IntKind.i64.wrap ((l.length : Int) + 1) = ((l.length + 1 : Nat) : Int) := by rw [w64 (by omega)]; omega
  have hv' : ∀ o, updO ob id o idv = some ⟨2, [dotV x], capv⟩ := fun o => by rw [updO, if_neg hivd, hv]
  have hvn : ∀ (m : Nat) (a b : Option Ob), nid ≤ m → updO (updO ob id a) m b idv = some ⟨2, [dotV x], capv⟩ := fun m a b hm => by rw [updO, if_neg (by omega), hv']
  have hid2 : ∀ (m : Nat) (a b c : Option Ob), nid ≤ m → updO (updO (updO ob id a) m b) m c id = a := fun m a b c hm => by rw [updO, if_neg (by omega), updO, if_neg (by omega), updO, if_pos rfl]
  have hov : ∀ z : List V, over (List.map dotV (l.take i) ++ List.replicate (l.length + 1 - i) z) i [dotV x] = List.map dotV (l.take i) ++ [dotV x] ++ List.replicate (l.length - i) z := fun z => by
    rw [over_mid (by simp; omega)]
    simp; omega
  have hll : (l.map dotV ++ List.replicate (c - l.length) (List.replicate 2 V.u)).length = c := by simp; omega
  simp only [hlm]
  simp +contextual (maxSteps := 1000000) only [go_sem, ints, intRows, reduceAdd, Nat.reduceBEq, reduceEqDiff, reduceLeDiff, Nat.reduceLT, reduceIte, reduceLE, Int.reduceLT, reduceEq, reduceNeg, reduceToNat, ops, vals, dots, c81, hlm, hv', hin', w1, hll]
  have w2 : IntKind.i64.wrap (((l.length + 1 : Nat) : Int) - (i : Int)) = ((l.length + 1 - i : Nat) : Int) := by rw [w64 (by omega)]; omega
  have w3 : IntKind.i64.wrap ((i : Int) + 1) = ((i + 1 : Nat) : Int) := by rw [w64 (by omega)]; omega
  refine ⟨⟨by omega, by omega⟩, fun hcl => ?_, fun hcl => ?_⟩
  · have hc : c = l.length := by simp at hcl; omega
    subst hc
    have e1 : (0 : Int) < ((l.length + 1 - i : Nat) : Int) := by omega
    have e2 : i + (l.length + 1 - i) = l.length + 1 := by omega
    have e3 : l.length < l.length + 1 := by omega
    have e4 : List.take i (l.map dotV ++ List.replicate (l.length - l.length) (List.replicate 2 V.u)) = (l.take i).map dotV := by simp
    rw [w2, Int.toNat_natCast, e2, e4]
    repeat (refine And.intro (by omega) ?_)
    have hz : ∀ z : List V, z.length = 2 → (List.map dotV (l.take i) ++ List.replicate (l.length + 1 - i) z).length = l.length + 1 := fun z _ => by simp; omega
    rw [hz _ rfl]
    repeat (refine And.intro (by omega) ?_)
    rw [slv2 (i := i) (m := l.length + 1) (by omega)]
    · simp +contextual (maxSteps := 1000000) only [go_sem, ints, intRows, reduceAdd, Nat.reduceBEq, reduceEqDiff, reduceLeDiff, Nat.reduceLT, reduceIte, reduceLE, Int.reduceLT, reduceEq, reduceNeg, reduceToNat, ops, vals, dots, hv', hlm]
      rw [hvn _ _ _ (by omega)]
      have hta : List.take (l.length + 1 - i) [dotV x] = [dotV x] := List.take_of_length_le (by simp; omega)
      simp +contextual (maxSteps := 1000000) only [go_sem, ints, intRows, reduceAdd, Nat.reduceBEq, reduceEqDiff, reduceLeDiff, Nat.reduceLT, reduceIte, reduceLE, Int.reduceLT, reduceEq, reduceNeg, reduceToNat, ops, vals, dots, hta]
      rw [hz _ rfl, hov, w3, hid2 _ _ _ _ (by omega)]
      repeat (refine And.intro (by omega) ?_)
      have hz2 : ∀ z : List V, z.length = 2 → (List.map dotV (l.take i) ++ [dotV x] ++ List.replicate (l.length - i) z).length = l.length + 1 := fun z _ => by simp; omega
      have hlr : (l.map dotV ++ List.replicate (l.length - l.length) (List.replicate 2 V.u)).length = l.length := by simp
      simp +contextual (maxSteps := 1000000) only [go_sem, ints, intRows, reduceAdd, Nat.reduceBEq, reduceEqDiff, reduceLeDiff, Nat.reduceLT, reduceIte, reduceLE, Int.reduceLT, reduceEq, reduceNeg, reduceToNat, ops, vals, dots, hz2, hlr]
      repeat (refine And.intro (by omega) ?_)
      rw [slv2 (i := i + 1) (m := l.length + 1) (by omega) (by omega), slv2 (i := i) (m := l.length) (by omega) (fun _ => rfl)]
      simp +contextual (maxSteps := 1000000) only [go_sem, ints, intRows, reduceAdd, Nat.reduceBEq, reduceEqDiff, reduceLeDiff, Nat.reduceLT, reduceIte, reduceLE, Int.reduceLT, reduceEq, reduceNeg, reduceToNat, ops, vals, dots]
      rw [hid2 _ _ _ _ (by omega)]
      simp +contextual (maxSteps := 1000000) only [go_sem, ints, intRows, reduceAdd, Nat.reduceBEq, reduceEqDiff, reduceLeDiff, Nat.reduceLT, reduceIte, reduceLE, Int.reduceLT, reduceEq, reduceNeg, reduceToNat, ops, vals, dots, hlr, hz2]
      have e5 : List.take (l.length + 1 - (i + 1)) (List.take (l.length - i) (List.drop i (l.map dotV ++ List.replicate (l.length - l.length) (List.replicate 2 V.u)))) = (l.drop i).map dotV := by
        rw [Nat.sub_self, List.replicate_zero, List.append_nil, List.take_of_length_le (by simp), List.take_of_length_le (by simp), List.map_drop]
      have e6 : ∀ z : List V, over (List.map dotV (l.take i) ++ [dotV x] ++ List.replicate (l.length - i) z) (i + 1) ((l.drop i).map dotV) = (l.take i ++ x :: l.drop i).map dotV := fun z => by
        rw [over_mid (by simp; omega)]
        simp
      rw [e5, e6]
      refine ⟨by omega, ⟨allDots _, by omega⟩, _, .refl _, hC _ _ _ (by omega) (.inr ⟨by simp, _, none, ?_, ?_, updO_s _ _ _⟩) fun j hj hs => ?_⟩
      · omega
      · congr 1; simp; omega
      · have hji : j ≠ id := fun e => hs _ (by rw [e])
        rw [updO, if_neg (by omega), updO, if_neg (by omega), updO, if_neg (by omega), updO, if_neg hji]
    · intro h0; subst h0
      rw [Int.sub_zero, w64 (by omega)]; simp
  have hcl' : l.length + 1 ≤ c := by simp at hcl; omega
  have hrl : (l.map dotV ++ List.replicate (c - l.length) (List.replicate 2 V.u)).length = c := by simp; omega
  repeat (refine And.intro (by omega) ?_)
  rw [w3, Int.toNat_natCast, slv2 (i := i + 1) (m := l.length + 1) (by omega) (by omega)]
  refine rcS_x (OverlapsDots_ok (hv' _) (updO_s _ _ _) hivd ?_ (by simp) ?_)
  · intro e
    have e : l.map dotV ++ List.replicate (c - l.length) (List.replicate 2 V.u) = [] := e
    rw [e] at hrl; simp at hrl; omega
  simp +contextual (maxSteps := 1000000) only [go_sem, ints, intRows, reduceAdd, Nat.reduceBEq, reduceEqDiff, reduceLeDiff, Nat.reduceLT, reduceIte, reduceLE, Int.reduceLT, reduceEq, reduceNeg, reduceToNat, ops, vals, dots, hrl]
  rw [w3, Int.toNat_natCast]
  repeat (refine And.intro (by omega) ?_)
  rw [slv2 (i := i + 1) (m := l.length + 1) (by omega) (by omega), slv2 (i := i) (m := l.length + 1) (by omega) (by omega)]
  simp +contextual (maxSteps := 1000000) only [go_sem, ints, intRows, reduceAdd, Nat.reduceBEq, reduceEqDiff, reduceLeDiff, Nat.reduceLT, reduceIte, reduceLE, Int.reduceLT, reduceEq, reduceNeg, reduceToNat, ops, vals, dots, hrl]
  have e5 : List.take (l.length + 1 - (i + 1)) (List.take (l.length + 1 - i) (List.drop i (l.map dotV ++ List.replicate (c - l.length) (List.replicate 2 V.u)))) = (l.drop i).map dotV := by
    rw [List.take_take, Nat.min_eq_left (by omega), List.drop_append_of_le_length (by simp <;> omega), List.take_append_of_le_length (by simp <;> omega), List.take_of_length_le (by simp), List.map_drop]
  have hz6 : (l.take (i + 1)).map dotV = (l.take i).map dotV ++ [dotV (gN l i)] := by rw [take_gN hlt]; simp
  have e6 : over (l.map dotV ++ List.replicate (c - l.length) (List.replicate 2 V.u)) (i + 1) ((l.drop i).map dotV) = (l.take (i + 1)).map dotV ++ ((l.drop i).map dotV ++ List.replicate (c - l.length - 1) (List.replicate 2 V.u)) := by
    have hnil : (l.map dotV).drop (i + 1 + ((l.drop i).map dotV).length) = [] := List.drop_eq_nil_of_le (by simp <;> omega)
    unfold over
    rw [List.take_append_of_le_length (by simp <;> omega), List.append_assoc, List.map_take, List.drop_append, hnil, List.drop_replicate, List.nil_append]
    congr 3
    simp <;> omega
  have e7 : over ((l.take (i + 1)).map dotV ++ ((l.drop i).map dotV ++ List.replicate (c - l.length - 1) (List.replicate 2 V.u))) i [dotV x] = (l.take i ++ x :: l.drop i).map dotV ++ List.replicate (c - l.length - 1) (List.replicate 2 V.u) := by
    rw [hz6, List.append_assoc, over_mid (by simp <;> omega)]
    simp
  have hl6 : ((l.take (i + 1)).map dotV ++ ((l.drop i).map dotV ++ List.replicate (c - l.length - 1) (List.replicate 2 V.u))).length = c := by simp; omega
  rw [e5, allDots, e6, hl6]
  refine ⟨by omega, ⟨rfl, by omega⟩, ⟨by omega, by omega⟩, ?_⟩
  rw [slv2 (i := i) (m := l.length + 1) (by omega) (fun _ => rfl)]
  have hta : List.take (l.length + 1 - i) [dotV x] = [dotV x] := List.take_of_length_le (by simp <;> omega)
  have hv3 : ∀ a b : Option Ob, updO (updO ob id a) id b idv = some ⟨2, [dotV x], capv⟩ := fun a b => by rw [updO, if_neg hivd, hv']
  simp +contextual (maxSteps := 1000000) only [go_sem, ints, intRows, reduceAdd, Nat.reduceBEq, reduceEqDiff, reduceLeDiff, Nat.reduceLT, reduceIte, reduceLE, Int.reduceLT, reduceEq, reduceNeg, reduceToNat, ops, vals, dots, hv3, hta, hxo, hl6, e7]
  refine ⟨by omega, _, less_upd ⟨l.length + 1, ?_⟩, hC _ _ _ (by omega) (.inr ⟨by simp, id, none, by omega, ?_, updO_s _ _ _⟩) fun j hj hs => ?_⟩
  · rw [List.take_append_of_le_length (by simp <;> omega), List.take_of_length_le (l := (l.take i ++ x :: l.drop i).map dotV) (by simp <;> omega)]
  · congr 1; simp; omega
  · have hji : j ≠ id := fun e => hs _ (by rw [e])
    rw [updO, if_neg hji, updO, if_neg hji, updO, if_neg hji]
theorem OverlapsRows_ok {i j oi oj li lj nid : Nat} {x y : Ob} {ob : OB} {C : V → OB → Nat → Prop} (hi : ob i = some x) (hj : ob j = some y) (hij : i ≠ j) (hy : y.l ≠ []) (hk : y.k ≠ 0) (hC : C (vb false) ob nid) :
    FnX Tryz.prog 77 [.sl i oi li, .sl j oj lj] ob nid C := by
  intro B n0 w own loc xs hwf hle hfr hxs
  match xs, hxs with
  | [a, b], hxs =>
    have ha := hxs.2 0 _ a rfl rfl
    have hb := hxs.2 1 _ b rfl rfl
    obtain ⟨p, hp, hor, hcap, rfl⟩ := sl_at hwf hi ha
    obtain ⟨q, hq, hoq, hcaq, rfl⟩ := sl_at hwf hj hb
    have hne : p.b ≠ q.b := fun e => by
      have h1 := (hwf.owns i p hp).1
      have h2 := (hwf.owns j q hq).1
      rw [e, h2] at h1; injection h1 with h1; exact hij h1.symm
    obtain ⟨cs, t, hm1, hm2⟩ := hor.mem
    obtain ⟨ds, u, hn1, hn2⟩ := hoq.mem
    have hds : ds.size ≠ 0 := by
      have h1 : 0 < y.l.length := List.length_pos_iff.2 hy
      have h2 := hoq.len
      have h3 : 1 * q.k ≤ q.cap * q.k := Nat.mul_le_mul_right _ (by omega)
      have := hoq.k; omega
    refine ⟨.bool false, w, vb false, ob, nid, own, loc, ?_, .c _, hwf, .refl _ _ _, hfr, hC⟩
    rw [run_callFunc_extern (fn := Tryz.f77) Tryz.func77 (by kernel_rfl) (by kernel_rfl) (by kernel_rfl) (e := Extern.SlicesOverlaps.overlaps #[42, 42] #[4]) (by kernel_rfl)]
    rw [Lib.run_overlaps_apart w 42 4 78 Tryz.underlying42 3 (fun w => ?_) _ _ _ _ _ _ hne t u cs.size ds.size (by simp [World.shape?, hm1]) (by simp [World.shape?, hn1]) hds (by simp [World.frozen?, hm1]) (by simp [World.frozen?, hm1])]
    · rfl
    · rfl
set_option maxHeartbeats 1000000 in
theorem InsertRows_ok {l : List (Rw 3)} {i idv n nid : Nat} {x : (Rw 3)} {s : V} {capv : Option Nat} {ob : OB} {C : V → OB → Nat → Prop} (hi : i ≤ l.length) (hl : l.length + 1 ≤ maxLen) (h : Own n ob s 3 (l.map rw3V)) (hn : n ≤ nid) (hv : ob idv = some ⟨3, [rw3V x], capv⟩) (hiv : idv < nid) (hsv : ∀ len, s ≠ .sl idv 0 len)
    (hC : ∀ v' ob' n', nid ≤ n' → Own n' ob' v' 3 ((l.take i ++ x :: l.drop i).map rw3V) → (∀ j, j < nid → (∀ len, s ≠ .sl j 0 len) → ob' j = ob j) → C v' ob' n') :
    FnS Tryz.prog 41 [s, vi i, .sl idv 0 1] ob nid C := by
  have hl' := hl
  unfold maxLen at hl'
  have hxr : rowsOf ob (.sl idv 0 1) = some [rw3V x] := by simp [rowsOf, hv]
  have hxo : [rw3V x].all (okRow 3) = true := by simpa using allRw3 [x]
  by_cases hin : i = l.length
  · -- at the end
    subst hin
    have hin' : decide ((l.length : Int) = l.length) = true := by simp
    refine fnS_intro cf41 (by simp) ?_
    have fin : ∀ v' ob' n', nid ≤ n' → Own n' ob' v' 3 (l.map rw3V ++ [rw3V x]) → (∀ j, j < nid → (∀ len, s ≠ .sl j 0 len) → ob' j = ob j) → C v' ob' n' := fun v' ob' n' h1 h2 h3 => hC v' ob' n' h1 (by rw [List.take_of_length_le (Nat.le_refl _), List.drop_eq_nil_of_le (Nat.le_refl _), List.map_append]; exact h2) h3
    rcases h with ⟨h1, rfl⟩ | ⟨h1, id, cap, hid, rfl, hob⟩
    · have hl0 : l.length = 0 := by simpa using congrArg List.length h1
      have hl0' : l = [] := List.eq_nil_of_length_eq_zero hl0
      subst hl0'
      simp +contextual (maxSteps := 1000000) only [go_sem, ints, intRows, reduceAdd, Nat.reduceBEq, reduceEqDiff, reduceLeDiff, Nat.reduceLT, reduceIte, reduceLE, Int.reduceLT, reduceEq, reduceNeg, reduceToNat, ops, vals, dots, c41, List.length_nil, hv]
      refine nxS_app (n := nid) (rows := []) (xs := [rw3V x]) Own.nil (by omega) hxr hxo (by simp [maxLen]) fun v' ob' ho hfr => ?_
      simp +contextual (maxSteps := 1000000) only [go_sem, ints, intRows, reduceAdd, Nat.reduceBEq, reduceEqDiff, reduceLeDiff, Nat.reduceLT, reduceIte, reduceLE, Int.reduceLT, reduceEq, reduceNeg, reduceToNat, ops, vals, dots]
      exact fin v' ob' _ (by omega) (ho.mono (by omega)) fun j hj hs => hfr j hj fun e => by cases e
    · have hlm : (l.map rw3V).length = l.length := by simp
      simp +contextual (maxSteps := 1000000) only [go_sem, ints, intRows, reduceAdd, Nat.reduceBEq, reduceEqDiff, reduceLeDiff, Nat.reduceLT, reduceIte, reduceLE, Int.reduceLT, reduceEq, reduceNeg, reduceToNat, ops, vals, dots, c41, hob, hlm, hv, hin']
      repeat (refine And.intro (by omega) ?_)
      have ho0 : Own nid ob (.sl id 0 l.length) 3 (l.map rw3V) := .inr ⟨h1, id, cap, by omega, by rw [hlm], hob⟩
      refine nxS_app (n := nid) (rows := l.map rw3V) (xs := [rw3V x]) ho0 (by omega) hxr hxo (by simpa [maxLen] using hl') fun v' ob' ho hfr => ?_
      simp +contextual (maxSteps := 1000000) only [go_sem, ints, intRows, reduceAdd, Nat.reduceBEq, reduceEqDiff, reduceLeDiff, Nat.reduceLT, reduceIte, reduceLE, Int.reduceLT, reduceEq, reduceNeg, reduceToNat, ops, vals, dots]
      exact fin v' ob' _ (by omega) (ho.mono (by omega)) fun j hj hs => hfr j hj (by simpa using hs)
  have hlt : i < l.length := by omega
  have hne : l ≠ [] := fun e => by rw [e] at hlt; simp at hlt
  rcases h with ⟨h1, rfl⟩ | ⟨h1, id, cap, hid, rfl, hob⟩
  · simp at h1; exact absurd h1 hne
  have hivd : idv ≠ id := fun e => hsv l.length (by rw [e, List.length_map])
  refine FnS_grow hob (fun c h1 h2 => FnS_less (fnS_intro cf41 (by simp) ?_)) (by kernel_rfl)
  have hlm : (l.map rw3V).length = l.length := by simp
  rw [hlm] at h1
  have hin' : decide ((i : Int) = l.length) = false := by simp; omega
  have w1 : IntKind.i64.wrap ((l.length : Int) + 1) = ((l.length + 1 : Nat) : Int) := by rw [w64 (by omega)]; omega
  have hv' : ∀ o, updO ob id o idv = some ⟨3, [rw3V x], capv⟩ := fun o => by rw [updO, if_neg hivd, hv]
  have hvn : ∀ (m : Nat) (a b : Option Ob), nid ≤ m → updO (updO ob id a) m b idv = some ⟨3, [rw3V x], capv⟩ := fun m a b hm => by rw [updO, if_neg (by omega), hv']
  have hid2 : ∀ (m : Nat) (a b c : Option Ob), nid ≤ m → updO (updO (updO ob id a) m b) m c id = a := fun m a b c hm => by rw [updO, if_neg (by omega), updO, if_neg (by omega), updO, if_pos rfl]
  have hov : ∀ z : List V, over (List.map rw3V (l.take i) ++ List.replicate (l.length + 1 - i) z) i [rw3V x] = List.map rw3V (l.take i) ++ [rw3V x] ++ List.replicate (l.length - i) z := fun z => by
    rw [over_mid (by simp; omega)]
    simp; omega
  have hll : (l.map rw3V ++ List.replicate (c - l.length) (List.replicate 3 V.u)).length = c := by simp; omega
  simp only [hlm]
  simp +contextual (maxSteps := 1000000) only [go_sem, ints, intRows, reduceAdd, Nat.reduceBEq, reduceEqDiff, reduceLeDiff, Nat.reduceLT, reduceIte, reduceLE, Int.reduceLT, reduceEq, reduceNeg, reduceToNat, ops, vals, dots, c41, hlm, hv', hin', w1, hll]
  have w2 : IntKind.i64.wrap (((l.length + 1 : Nat) : Int) - (i : Int)) = ((l.length + 1 - i : Nat) : Int) := by rw [w64 (by omega)]; omega
  have w3 : IntKind.i64.wrap ((i : Int) + 1) = ((i + 1 : Nat) : Int) := by rw [w64 (by omega)]; omega
  refine ⟨⟨by omega, by omega⟩, fun hcl => ?_, fun hcl => ?_⟩
  · have hc : c = l.length := by simp at hcl; omega
    subst hc
    have e1 : (0 : Int) < ((l.length + 1 - i : Nat) : Int) := by omega
    have e2 : i + (l.length + 1 - i) = l.length + 1 := by omega
    have e3 : l.length < l.length + 1 := by omega
    have e4 : List.take i (l.map rw3V ++ List.replicate (l.length - l.length) (List.replicate 3 V.u)) = (l.take i).map rw3V := by simp
    rw [w2, Int.toNat_natCast, e2, e4]
    repeat (refine And.intro (by omega) ?_)
    have hz : ∀ z : List V, z.length = 3 → (List.map rw3V (l.take i) ++ List.replicate (l.length + 1 - i) z).length = l.length + 1 := fun z _ => by simp; omega
    rw [hz _ rfl]
    repeat (refine And.intro (by omega) ?_)
    rw [slv2 (i := i) (m := l.length + 1) (by omega)]
    · simp +contextual (maxSteps := 1000000) only [go_sem, ints, intRows, reduceAdd, Nat.reduceBEq, reduceEqDiff, reduceLeDiff, Nat.reduceLT, reduceIte, reduceLE, Int.reduceLT, reduceEq, reduceNeg, reduceToNat, ops, vals, dots, hv', hlm]
      rw [hvn _ _ _ (by omega)]
      have hta : List.take (l.length + 1 - i) [rw3V x] = [rw3V x] := List.take_of_length_le (by simp; omega)
      simp +contextual (maxSteps := 1000000) only [go_sem, ints, intRows, reduceAdd, Nat.reduceBEq, reduceEqDiff, reduceLeDiff, Nat.reduceLT, reduceIte, reduceLE, Int.reduceLT, reduceEq, reduceNeg, reduceToNat, ops, vals, dots, hta]
      rw [hz _ rfl, hov, w3, hid2 _ _ _ _ (by omega)]
      repeat (refine And.intro (by omega) ?_)
      have hz2 : ∀ z : List V, z.length = 3 → (List.map rw3V (l.take i) ++ [rw3V x] ++ List.replicate (l.length - i) z).length = l.length + 1 := fun z _ => by simp; omega
      have hlr : (l.map rw3V ++ List.replicate (l.length - l.length) (List.replicate 3 V.u)).length = l.length := by simp
      simp +contextual (maxSteps := 1000000) only [go_sem, ints, intRows, reduceAdd, Nat.reduceBEq, reduceEqDiff, reduceLeDiff, Nat.reduceLT, reduceIte, reduceLE, Int.reduceLT, reduceEq, reduceNeg, reduceToNat, ops, vals, dots, hz2, hlr]
      repeat (refine And.intro (by omega) ?_)
      rw [slv2 (i := i + 1) (m := l.length + 1) (by omega) (by omega), slv2 (i := i) (m := l.length) (by omega) (fun _ => rfl)]
      simp +contextual (maxSteps := 1000000) only [go_sem, ints, intRows, reduceAdd, Nat.reduceBEq, reduceEqDiff, reduceLeDiff, Nat.reduceLT, reduceIte, reduceLE, Int.reduceLT, reduceEq, reduceNeg, reduceToNat, ops, vals, dots]
      rw [hid2 _ _ _ _ (by omega)]
      simp +contextual (maxSteps := 1000000) only [go_sem, ints, intRows, reduceAdd, Nat.reduceBEq, reduceEqDiff, reduceLeDiff, Nat.reduceLT, reduceIte, reduceLE, Int.reduceLT, reduceEq, reduceNeg, reduceToNat, ops, vals, dots, hlr, hz2]
      have e5 : List.take (l.length + 1 - (i + 1)) (List.take (l.length - i) (List.drop i (l.map rw3V ++ List.replicate (l.length - l.length) (List.replicate 3 V.u)))) = (l.drop i).map rw3V := by
        rw [Nat.sub_self, List.replicate_zero, List.append_nil, List.take_of_length_le (by simp), List.take_of_length_le (by simp), List.map_drop]
      have e6 : ∀ z : List V, over (List.map rw3V (l.take i) ++ [rw3V x] ++ List.replicate (l.length - i) z) (i + 1) ((l.drop i).map rw3V) = (l.take i ++ x :: l.drop i).map rw3V := fun z => by
        rw [over_mid (by simp; omega)]
        simp
      rw [e5, e6]
      refine ⟨by omega, ⟨allRw3 _, by omega⟩, _, .refl _, hC _ _ _ (by omega) (.inr ⟨by simp, _, none, ?_, ?_, updO_s _ _ _⟩) fun j hj hs => ?_⟩
      · omega
      · congr 1; simp; omega
      · have hji : j ≠ id := fun e => hs _ (by rw [e])
        rw [updO, if_neg (by omega), updO, if_neg (by omega), updO, if_neg (by omega), updO, if_neg hji]
    · intro h0; subst h0
      rw [Int.sub_zero, w64 (by omega)]; simp
  have hcl' : l.length + 1 ≤ c := by simp at hcl; omega
  have hrl : (l.map rw3V ++ List.replicate (c - l.length) (List.replicate 3 V.u)).length = c := by simp; omega
  repeat (refine And.intro (by omega) ?_)
  rw [w3, Int.toNat_natCast, slv2 (i := i + 1) (m := l.length + 1) (by omega) (by omega)]
  refine rcS_x (OverlapsRows_ok (hv' _) (updO_s _ _ _) hivd ?_ (by simp) ?_)
  · intro e
    have e : l.map rw3V ++ List.replicate (c - l.length) (List.replicate 3 V.u) = [] := e
    rw [e] at hrl; simp at hrl; omega
  simp +contextual (maxSteps := 1000000) only [go_sem, ints, intRows, reduceAdd, Nat.reduceBEq, reduceEqDiff, reduceLeDiff, Nat.reduceLT, reduceIte, reduceLE, Int.reduceLT, reduceEq, reduceNeg, reduceToNat, ops, vals, dots, hrl]
  rw [w3, Int.toNat_natCast]
  repeat (refine And.intro (by omega) ?_)
  rw [slv2 (i := i + 1) (m := l.length + 1) (by omega) (by omega), slv2 (i := i) (m := l.length + 1) (by omega) (by omega)]
  simp +contextual (maxSteps := 1000000) only [go_sem, ints, intRows, reduceAdd, Nat.reduceBEq, reduceEqDiff, reduceLeDiff, Nat.reduceLT, reduceIte, reduceLE, Int.reduceLT, reduceEq, reduceNeg, reduceToNat, ops, vals, dots, hrl]
  have e5 : List.take (l.length + 1 - (i + 1)) (List.take (l.length + 1 - i) (List.drop i (l.map rw3V ++ List.replicate (c - l.length) (List.replicate 3 V.u)))) = (l.drop i).map rw3V := by
    rw [List.take_take, Nat.min_eq_left (by omega), List.drop_append_of_le_length (by simp <;> omega), List.take_append_of_le_length (by simp <;> omega), List.take_of_length_le (by simp), List.map_drop]
  have hz6 : (l.take (i + 1)).map rw3V = (l.take i).map rw3V ++ [rw3V (gN l i)] := by rw [take_gN hlt]; simp
  have e6 : over (l.map rw3V ++ List.replicate (c - l.length) (List.replicate 3 V.u)) (i + 1) ((l.drop i).map rw3V) = (l.take (i + 1)).map rw3V ++ ((l.drop i).map rw3V ++ List.replicate (c - l.length - 1) (List.replicate 3 V.u)) := by
    have hnil : (l.map rw3V).drop (i + 1 + ((l.drop i).map rw3V).length) = [] := List.drop_eq_nil_of_le (by simp <;> omega)
    unfold over
    rw [List.take_append_of_le_length (by simp <;> omega), List.append_assoc, List.map_take, List.drop_append, hnil, List.drop_replicate, List.nil_append]
    congr 3
    simp <;> omega
  have e7 : over ((l.take (i + 1)).map rw3V ++ ((l.drop i).map rw3V ++ List.replicate (c - l.length - 1) (List.replicate 3 V.u))) i [rw3V x] = (l.take i ++ x :: l.drop i).map rw3V ++ List.replicate (c - l.length - 1) (List.replicate 3 V.u) := by
    rw [hz6, List.append_assoc, over_mid (by simp <;> omega)]
    simp
  have hl6 : ((l.take (i + 1)).map rw3V ++ ((l.drop i).map rw3V ++ List.replicate (c - l.length - 1) (List.replicate 3 V.u))).length = c := by simp; omega
  rw [e5, allRw3, e6, hl6]
  refine ⟨by omega, ⟨rfl, by omega⟩, ⟨by omega, by omega⟩, ?_⟩
  rw [slv2 (i := i) (m := l.length + 1) (by omega) (fun _ => rfl)]
  have hta : List.take (l.length + 1 - i) [rw3V x] = [rw3V x] := List.take_of_length_le (by simp <;> omega)
  have hv3 : ∀ a b : Option Ob, updO (updO ob id a) id b idv = some ⟨3, [rw3V x], capv⟩ := fun a b => by rw [updO, if_neg hivd, hv']
  simp +contextual (maxSteps := 1000000) only [go_sem, ints, intRows, reduceAdd, Nat.reduceBEq, reduceEqDiff, reduceLeDiff, Nat.reduceLT, reduceIte, reduceLE, Int.reduceLT, reduceEq, reduceNeg, reduceToNat, ops, vals, dots, hv3, hta, hxo, hl6, e7]
  refine ⟨by omega, _, less_upd ⟨l.length + 1, ?_⟩, hC _ _ _ (by omega) (.inr ⟨by simp, id, none, by omega, ?_, updO_s _ _ _⟩) fun j hj hs => ?_⟩
  · rw [List.take_append_of_le_length (by simp <;> omega), List.take_of_length_le (l := (l.take i ++ x :: l.drop i).map rw3V) (by simp <;> omega)]
  · congr 1; simp; omega
  · have hji : j ≠ id := fun e => hs _ (by rw [e])
    rw [updO, if_neg hji, updO, if_neg hji, updO, if_neg hji]
end Go.Proofs.YtbojpedklnmidaaGreat.D
end
section
set_option linter.unusedVariables false
set_option linter.unusedSimpArgs false
set_option maxRecDepth 100000
set_option linter.constructorNameAsVariable false

/- Writing cells; a row behind an operation. No condition. -/
namespace Go.Proofs.YtbojpedklnmidaaGreat.D
open Go Go.Proofs
open Nat (reduceAdd reduceEqDiff reduceLeDiff)
open Int (reduceLE reduceEq reduceNeg reduceToNat)
def wrB (c : Cel) (x : Opz) : Bool := !writ c || decide (cmpT c.st x.st < 0)
def wrCel (c : Cel) (v : Vl) (x : Opz) : Cel := if wrB c x then ⟨v, x.st, x.dot⟩ else c
theorem set_same {α : Type} [Inhabited α] {l : List α} {i : Nat} (h : i < l.length) : l.set i (gN l i) = l := by
  refine List.ext_getElem (by simp) fun j h1 h2 => ?_
  rw [List.getElem_set]
  split
  · rename_i e; subst e; rw [gN_eq h]
  · rfl
theorem write_ok {cells : List Cel} {idc i nid : Nat} {cap : Option Nat} {v : Vl} {x : Opz} {ob : OB} {C : V → OB → Nat → Prop} (hi : i < cells.length) (hob : ob idc = some ⟨8, cells.map celV, cap⟩) (hid : idc < nid)
    (hC : ∀ ob' n', nid ≤ n' → (∀ j, j ≠ idc → j < nid → ob' j = ob j) → ob' idc = some ⟨8, (cells.set i (wrCel (gN cells i) v x)).map celV, cap⟩ → C (.tp []) ob' n') :
    FnS Tryz.prog 82 [.pt idc i 0, .ag (vlV v), .ag (opZ x)] ob nid C := by
  refine fnS_intro cf82 (by simp) ?_
  have ha : ∀ k, (idc == nid + k) = false := fun k => by simp; omega
  have ha0 : (idc == nid) = false := by simp; omega
  have hz1 : (nid == nid + 1) = false := beq_0s nid 0
  have hz2 : (nid + 1 == nid) = false := beq_s0 nid 0
  simp +contextual (maxSteps := 1000000) only [go_sem, ints, intRows, reduceAdd, Nat.reduceBEq, reduceEqDiff, reduceLeDiff, Nat.reduceLT, reduceIte, reduceLE, Int.reduceLT, reduceEq, reduceNeg, reduceToNat, ops, vals, dots, c82, hob, ha, ha0, hz1, hz2, Nat.add_assoc, beq_add, Nat.zero_add, Nat.add_zero]
  repeat (refine And.intro (by omega) ?_)
  first | refine caS_i (written_ok (gN cells i)) trivial ?_ | refine caD_i (written_ok (gN cells i)) trivial ?_ | refine gC_i (fun _ => written_ok (gN cells i)) trivial ?_ | refine gCD_i (fun _ => written_ok (gN cells i)) trivial ?_ | refine caE_i (written_ok (gN cells i)) trivial ?_
  simp +contextual (maxSteps := 1000000) only [go_sem, ints, intRows, reduceAdd, Nat.reduceBEq, reduceEqDiff, reduceLeDiff, Nat.reduceLT, reduceIte, reduceLE, Int.reduceLT, reduceEq, reduceNeg, reduceToNat, ops, vals, dots, hob, ha, ha0, hz1, hz2, Nat.add_assoc, beq_add, Nat.zero_add, Nat.add_zero]
  refine ⟨fun _ => hi, ?_⟩
  first | refine caS_i (cmpT_ok (gN cells i).st x.st) trivial ?_ | refine caD_i (cmpT_ok (gN cells i).st x.st) trivial ?_ | refine gC_i (fun _ => cmpT_ok (gN cells i).st x.st) trivial ?_ | refine gCD_i (fun _ => cmpT_ok (gN cells i).st x.st) trivial ?_ | refine caE_i (cmpT_ok (gN cells i).st x.st) trivial ?_
  simp +contextual (maxSteps := 1000000) only [go_sem, ints, intRows, reduceAdd, Nat.reduceBEq, reduceEqDiff, reduceLeDiff, Nat.reduceLT, reduceIte, reduceLE, Int.reduceLT, reduceEq, reduceNeg, reduceToNat, ops, vals, dots, vlV, hob, ha, ha0, hz1, hz2, Nat.add_assoc, beq_add, Nat.zero_add, Nat.add_zero]
  have hb : (if writ (gN cells i) = true then decide (cmpT (gN cells i).st x.st < 0) else true) = wrB (gN cells i) x := by unfold wrB; cases writ (gN cells i) <;> rfl
  rw [hb]
  have hfr : ∀ o : Option Ob, ∀ j, j ≠ idc → j < nid → updO (updO (updO ob nid (some { k := 3, l := [[vi v.k, vi v.i, .c (.string v.s)]], cap := none })) (nid + 1) (some { k := 12, l := [opZ x], cap := none })) idc o j = ob j := fun o j h1 h2 => by
    rw [updO, if_neg h1, updO, if_neg (by omega), updO, if_neg (by omega)]
  have hfr2 : ∀ j, j < nid → updO (updO ob nid (some { k := 3, l := [[vi v.k, vi v.i, .c (.string v.s)]], cap := none })) (nid + 1) (some { k := 12, l := [opZ x], cap := none }) j = ob j := fun j h2 => by
    rw [updO, if_neg (by omega), updO, if_neg (by omega)]
  refine ⟨fun h => ?_, fun h => ?_⟩
  · refine ⟨hi, hC _ _ (by omega) (hfr _) ?_⟩
    rw [updO_s, wrCel, if_pos h, List.map_set]; rfl
  · refine hC _ _ (by omega) (fun j h1 h2 => hfr2 j h2) ?_
    rw [hfr2 _ hid, hob, wrCel, if_neg (by rw [h]; simp), set_same hi]
end Go.Proofs.YtbojpedklnmidaaGreat.D
end
section
set_option linter.unusedVariables false
set_option linter.unusedSimpArgs false
set_option linter.constructorNameAsVariable false
set_option maxRecDepth 100000

/- A row behind an operation. No condition. -/
namespace Go.Proofs.YtbojpedklnmidaaGreat.D
open Go Go.Proofs
open Nat (reduceAdd reduceEqDiff reduceLeDiff)
open Int (reduceLE reduceEq reduceNeg reduceToNat)
def eqD (d e : Dt) : Bool := decide (d.p = e.p) && decide (d.n = e.n)
def inD (l : List Dt) (d : Dt) : Bool := l.any fun e => eqD d e
theorem IndexD_ok {fl : Fl} (l : List Dt) (d : Dt) (hl : l.length ≤ maxLen) : FnB Tryz.prog 123 [dots fl l, .ag (dotV d)] (vi (idxI (eqD d) l)) := by
  refine fnB_intro cf123 (by simp) ?_
  unfold maxLen at hl
  simp +contextual (maxSteps := 1000000) only [go_sem, ints, intRows, reduceAdd, Nat.reduceBEq, reduceEqDiff, reduceLeDiff, Nat.reduceLT, reduceIte, reduceLE, Int.reduceLT, reduceEq, reduceNeg, reduceToNat, ops, vals, dots, c123]
  refine wpC_lp (fun env ob n => env 0 = dots fl l ∧ ob 0 = some ⟨2, [dotV d], none⟩ ∧ env 3 = .pt 0 0 0 ∧ env 7 = vi l.length ∧ ∃ i : Nat, env 8 = vi i ∧ i ≤ l.length ∧ ∀ n ∈ l.take i, eqD d n = false) (fun env ob n => (l.length - iv (env 8)).toNat) ?_ ?_
  · simp +contextual (maxSteps := 1000000) only [go_sem, ints, intRows, reduceAdd, Nat.reduceBEq, reduceEqDiff, reduceLeDiff, Nat.reduceLT, reduceIte, reduceLE, Int.reduceLT, reduceEq, reduceNeg, reduceToNat, ops, vals, dots]
    exact ⟨0, rfl, Nat.zero_le _, by simp⟩
  rintro env ob n ⟨h0, ho, h3, h7, i, h8, hi, he⟩
  simp +contextual (maxSteps := 1000000) only [go_sem, ints, intRows, reduceAdd, Nat.reduceBEq, reduceEqDiff, reduceLeDiff, Nat.reduceLT, reduceIte, reduceLE, Int.reduceLT, reduceEq, reduceNeg, reduceToNat, ops, vals, dots, h0, ho, h3, h7, h8]
  have w1 : IntKind.i64.wrap ((i : Int) + 1) = ((i + 1 : Nat) : Int) := by rw [w64 (by omega)]; omega
  refine ⟨fun hlt => ?_, fun hge => ?_⟩
  · simp at hlt
    repeat (refine And.intro (by omega) ?_)
    simp +contextual (maxSteps := 1000000) only [go_sem, ints, intRows, reduceAdd, Nat.reduceBEq, reduceEqDiff, reduceLeDiff, Nat.reduceLT, reduceIte, reduceLE, Int.reduceLT, reduceEq, reduceNeg, reduceToNat, ops, vals, dots, h0, ho, h3, h7, h8, w1, dotV]
    refine ⟨fun hb => ?_, fun hg => ⟨⟨i + 1, rfl, by omega, (take_succ_iff hlt).2 ⟨he, hg⟩⟩, by omega⟩⟩
    rw [idxI_at hlt he hb]
  · simp at hge
    rw [List.take_of_length_le (by omega)] at he
    rw [idxI_no he]
theorem ContainsD_ok {fl : Fl} (l : List Dt) (d : Dt) (hl : l.length ≤ maxLen) : FnB Tryz.prog 85 [dots fl l, .ag (dotV d)] (vb (inD l d)) := by
  refine fnB_intro cf85 (by simp) ?_
  simp +contextual (maxSteps := 1000000) only [go_sem, ints, intRows, reduceAdd, Nat.reduceBEq, reduceEqDiff, reduceLeDiff, Nat.reduceLT, reduceIte, reduceLE, Int.reduceLT, reduceEq, reduceNeg, reduceToNat, ops, vals, dots, c85]
  first | refine caS_i (IndexD_ok l d hl) trivial ?_ | refine caD_i (IndexD_ok l d hl) trivial ?_ | refine gC_i (fun _ => IndexD_ok l d hl) trivial ?_ | refine gCD_i (fun _ => IndexD_ok l d hl) trivial ?_ | refine caE_i (IndexD_ok l d hl) trivial ?_
  simp +contextual (maxSteps := 1000000) only [go_sem, ints, intRows, reduceAdd, Nat.reduceBEq, reduceEqDiff, reduceLeDiff, Nat.reduceLT, reduceIte, reduceLE, Int.reduceLT, reduceEq, reduceNeg, reduceToNat, ops, vals, dots, idxI_ge]
  rfl
theorem chg1_ok (d : Dt) (x : Opz) (hl : x.dots.length ≤ maxLen) : FnB Tryz.prog 84 [.ag (dotV d), .bp (opZ x)] (vb (inD x.dots d)) := by
  refine fnB_intro cf84 (by simp) ?_
  simp +contextual (maxSteps := 1000000) only [go_sem, ints, intRows, reduceAdd, Nat.reduceBEq, reduceEqDiff, reduceLeDiff, Nat.reduceLT, reduceIte, reduceLE, Int.reduceLT, reduceEq, reduceNeg, reduceToNat, ops, vals, dots, c84]
  first | refine caS_i (ContainsD_ok x.dots d hl) trivial ?_ | refine caD_i (ContainsD_ok x.dots d hl) trivial ?_ | refine gC_i (fun _ => ContainsD_ok x.dots d hl) trivial ?_ | refine gCD_i (fun _ => ContainsD_ok x.dots d hl) trivial ?_ | refine caE_i (ContainsD_ok x.dots d hl) trivial ?_
  simp +contextual (maxSteps := 1000000) only [go_sem, ints, intRows, reduceAdd, Nat.reduceBEq, reduceEqDiff, reduceLeDiff, Nat.reduceLT, reduceIte, reduceLE, Int.reduceLT, reduceEq, reduceNeg, reduceToNat, ops, vals, dots]
theorem DeleteFuncDots_z {nid f : Nat} {ob : OB} {C : V → OB → Nat → Prop} {caps : List V} {p : Dt → Bool} {rc : List V} (hrc : caps.map (resV ob 6) = rc ∧ caps.map (resV ob 5) = rc) (hrr : ∀ ob', rc.map (resV ob' 6) = rc) (hp : ∀ x ∈ ([] : List Dt), FnB Tryz.prog f (.ag (dotV x) :: rc) (vb (p x)))
    (hC : ∀ n', nid ≤ n' → C .z ob n') : FnS Tryz.prog 83 [.z, .fn f caps] ob nid C := by
  refine fnS_intro cf83 (by simp) ?_
  simp +contextual (maxSteps := 1000000) only [go_sem, ints, intRows, reduceAdd, Nat.reduceBEq, reduceEqDiff, reduceLeDiff, Nat.reduceLT, reduceIte, reduceLE, Int.reduceLT, reduceEq, reduceNeg, reduceToNat, ops, vals, dots, c83, hrc.1, hrc.2]
  first | refine caS_i (IndexDots_ok (fl := .b) [] f rc p (by simp) hrr hp) trivial ?_ | refine caD_i (IndexDots_ok (fl := .b) [] f rc p (by simp) hrr hp) trivial ?_ | refine gC_i (fun _ => IndexDots_ok (fl := .b) [] f rc p (by simp) hrr hp) trivial ?_ | refine gCD_i (fun _ => IndexDots_ok (fl := .b) [] f rc p (by simp) hrr hp) trivial ?_ | refine caE_i (IndexDots_ok (fl := .b) [] f rc p (by simp) hrr hp) trivial ?_
  have e : idxI p [] = -1 := rfl
  simp +contextual (maxSteps := 1000000) only [go_sem, ints, intRows, reduceAdd, Nat.reduceBEq, reduceEqDiff, reduceLeDiff, Nat.reduceLT, reduceIte, reduceLE, Int.reduceLT, reduceEq, reduceNeg, reduceToNat, ops, vals, dots, e]
  exact hC _ (by omega)
theorem chgDel_ok {N k nid n : Nat} {capN : Option Nat} {rows : List (List V)} {key : ByteArray} {dv cv : V} {ds : List Dt} {x : Opz} {ob : OB} {C : V → OB → Nat → Prop} (hk : x.kind = 3) (hN : ob N = some ⟨3, rows, capN⟩) (hr : rows[k]? = some [.c (.string key), dv, cv])
    (hd : OwnE n ob dv 2 (ds.map dotV)) (hn : n ≤ nid) (hNn : N < nid) (hxd : x.dots.length ≤ maxLen) (hds : ds.length ≤ maxLen)
    (hC : ∀ dv' ob' n', nid ≤ n' → leaf dv' = true → OwnE n' ob' dv' 2 ((ds.filter fun d => !inD x.dots d).map dotV) → ob' N = some ⟨3, rows.set k [.c (.string key), dv', cv], capN⟩ → (∀ j, j < nid → j ≠ N → (∀ len, dv ≠ .sl j 0 len) → ob' j = ob j) → C (.tp []) ob' n') :
    FnS Tryz.prog 43 [.pt N k 0, .ag (opZ x)] ob nid C := by
  refine fnS_intro cf43 (by simp) ?_
  have ha : ∀ k, (N == nid + k) = false := fun k => by simp; omega
  have ha0 : (N == nid) = false := by simp; omega
  simp +contextual (maxSteps := 1000000) only [go_sem, ints, intRows, reduceAdd, Nat.reduceBEq, reduceEqDiff, reduceLeDiff, Nat.reduceLT, reduceIte, reduceLE, Int.reduceLT, reduceEq, reduceNeg, reduceToNat, ops, vals, dots, c43, hk, hN, hr, ha, ha0, Nat.add_assoc, beq_add, Nat.zero_add, Nat.add_zero]
  have hpt : ∀ ob' : OB, ob' nid = some ⟨12, [opZ x], none⟩ → [V.pt nid 0 0].map (resV ob' 6) = [.bp (opZ x)] ∧ [V.pt nid 0 0].map (resV ob' 5) = [.bp (opZ x)] := fun ob' h => by
    have e5 : (opZ x).map (resV ob' 5) = opZ x := res_opZ ob' 2 x
    have e4 : (opZ x).map (resV ob' 4) = opZ x := res_opZ ob' 1 x
    simp [resV, h, e5, e4]
  have hb1 := updO_s ob nid (some ⟨12, [opZ x], none⟩)
  have hfr1 : ∀ j, j < nid → updO ob nid (some ⟨12, [opZ x], none⟩) j = ob j := fun j hj => by rw [updO, if_neg (by omega)]
  generalize updO ob nid (some ⟨12, [opZ x], none⟩) = ob1 at *
  have hrr : ∀ ob' : OB, [V.bp (opZ x)].map (resV ob' 6) = [.bp (opZ x)] := fun ob' => by
    have e5 : (opZ x).map (resV ob' 5) = opZ x := res_opZ ob' 2 x
    simp [resV, e5]
  have hp : ∀ d : Dt, FnB Tryz.prog 84 (.ag (dotV d) :: [.bp (opZ x)]) (vb (inD x.dots d)) := fun d => chg1_ok d x hxd
  rcases hd with ⟨h0, rfl⟩ | ⟨id, cap, hid, rfl, hdob⟩
  · have hds0 : ds = [] := by simpa using h0
    subst hds0
    refine rcS_i (DeleteFuncDots_z (p := inD x.dots) (rc := [.bp (opZ x)]) (hpt ob1 hb1) hrr (fun d _ => hp d) fun n' hn' => ?_)
    simp +contextual (maxSteps := 1000000) only [go_sem, ints, intRows, reduceAdd, Nat.reduceBEq, reduceEqDiff, reduceLeDiff, Nat.reduceLT, reduceIte, reduceLE, Int.reduceLT, reduceEq, reduceNeg, reduceToNat, ops, vals, dots, hfr1 N hNn, hN, hr]
    exact hC .z _ _ (by omega) rfl (.inl ⟨rfl, rfl⟩) (updO_s _ _ _) fun j hj hjN _ => by rw [updO, if_neg hjN, hfr1 j hj]
  · have hidN : id ≠ N := fun e => by rw [e, hN] at hdob; cases hdob
    rw [List.length_map]
    refine rcS_i (DeleteFuncDots_ok (p := inD x.dots) (rc := [.bp (opZ x)]) hds (by rw [hfr1 id (by omega)]; exact hdob) (by omega) (fun ob' h => hpt ob' (by rw [h nid (by omega) (by omega)]; exact hb1)) hrr (fun d _ => hp d) fun ob' n' hn' hfr hob' => ?_)
    have hN2 : ob' N = some ⟨3, rows, capN⟩ := by rw [hfr N (Ne.symm hidN) (by omega), hfr1 N hNn, hN]
    simp +contextual (maxSteps := 1000000) only [go_sem, ints, intRows, reduceAdd, Nat.reduceBEq, reduceEqDiff, reduceLeDiff, Nat.reduceLT, reduceIte, reduceLE, Int.reduceLT, reduceEq, reduceNeg, reduceToNat, ops, vals, dots, hN2, hr]
    refine hC _ _ _ (by omega) rfl (.inr ⟨id, none, by omega, ?_, ?_⟩) (updO_s _ _ _) fun j hj hjN hjd => ?_
    · rw [List.length_map]
    · rw [updO, if_neg hidN]; exact hob'
    · have hji : j ≠ id := fun e => hjd _ (by rw [e])
      rw [updO, if_neg hjN, hfr j hji (by omega), hfr1 j hj]
theorem chgUpd_ok {N k nid n c : Nat} {capN : Option Nat} {rows : List (List V)} {key : ByteArray} {dv cv : V} {cs : List Cel} {x : Opz} {ob : OB} {C : V → OB → Nat → Prop} (hk : x.kind = 2) (hN : ob N = some ⟨3, rows, capN⟩) (hr : rows[k]? = some [.c (.string key), dv, cv])
    (hd : OwnE n ob cv 8 (cs.map celV)) (hn : n ≤ nid) (hNn : N < nid) (hc : x.col = c) (hcl : c < cs.length) (hv : 0 < x.vals.length)
    (hC : ∀ ob' n', nid ≤ n' → OwnE n' ob' cv 8 ((cs.set c (wrCel (gN cs c) (gN x.vals 0) x)).map celV) → ob' N = ob N → (∀ j, j < nid → (∀ len, cv ≠ .sl j 0 len) → ob' j = ob j) → C (.tp []) ob' n') :
    FnS Tryz.prog 43 [.pt N k 0, .ag (opZ x)] ob nid C := by
  refine fnS_intro cf43 (by simp) ?_
  have ha : ∀ k, (N == nid + k) = false := fun k => by simp; omega
  have ha0 : (N == nid) = false := by simp; omega
  rcases hd with ⟨h0, rfl⟩ | ⟨id, cap, hid, rfl, hdob⟩
  · have : cs = [] := by simpa using h0
    subst this; simp at hcl
  have hb0 : (id == nid) = false := by simp; omega
  simp +contextual (maxSteps := 1000000) only [go_sem, ints, intRows, reduceAdd, Nat.reduceBEq, reduceEqDiff, reduceLeDiff, Nat.reduceLT, reduceIte, reduceLE, Int.reduceLT, reduceEq, reduceNeg, reduceToNat, ops, vals, dots, c43, hk, hN, hr, ha, ha0, hc, hb0, hdob, Nat.add_assoc, beq_add, Nat.zero_add, Nat.add_zero]
  repeat (refine And.intro (by omega) ?_)
  have hfr1 : ∀ j, j < nid → updO ob nid (some ⟨12, [opZ x], none⟩) j = ob j := fun j hj => by rw [updO, if_neg (by omega)]
  generalize updO ob nid (some ⟨12, [opZ x], none⟩) = ob1 at *
  refine rcS_i (write_ok (cells := cs) (cap := cap) (v := gN x.vals 0) (x := x) hcl (by rw [hfr1 id (by omega)]; exact hdob) (by omega) fun ob' n' hn' hfr hob' => ?_)
  have hidN : N ≠ id := fun e => by rw [← e, hN] at hdob; cases hdob
  simp +contextual (maxSteps := 1000000) only [go_sem, ints, intRows, reduceAdd, Nat.reduceBEq, reduceEqDiff, reduceLeDiff, Nat.reduceLT, reduceIte, reduceLE, Int.reduceLT, reduceEq, reduceNeg, reduceToNat, ops, vals, dots]
  refine hC _ _ (by omega) (.inr ⟨id, cap, by omega, by simp, hob'⟩) (by rw [hfr N hidN (by omega), hfr1 N hNn]) fun j hj hjd => ?_
  have hji : j ≠ id := fun e => hjd _ (by rw [e])
  rw [hfr j hji (by omega), hfr1 j hj]
theorem cut_caD {P : Program} {A B : IC} {Q R : Post} {l : List RO} {f : Nat} {vs : List V} {m : Md} {d : Option Nat} {env : Env} {ob : OB} {n k : Nat} {dl : Ups} (I : Env → OB → Nat → Prop) (h1 : caD P f vs m d l n env ob dl (kN (thenQ (wpC P A (thenQ I Q)) R) k)) (h2 : ∀ env ob n, I env ob n → wpC P B Q env ob n) : caD P f vs m d l n env ob dl (kN (thenQ (wpC P (.sq A B) Q) R) k) := by
  obtain ⟨q, a1, a2, a3⟩ := h1
  refine ⟨q, a1, a2, ?_⟩
  unfold nxD at a3 ⊢
  split at a3
  · exact wpD_mono (fun env ob h => cut_C I h h2) a3
  · exact a3.elim
theorem own_res2 {n : Nat} {ob : OB} {v : V} {ds : List Dt} (h : OwnE n ob v 2 (ds.map dotV)) : ∃ b : Bool, ∀ m, resV ob (m + 3) v = dots (flg b) ds := by
  rcases h with ⟨h0, rfl⟩ | ⟨id, cap, hid, rfl, hob⟩
  · have : ds = [] := by simpa using h0
    subst this; exact ⟨false, fun m => rfl⟩
  · refine ⟨true, fun m => ?_⟩
    simp only [resV, rowsOf, hob, Option.bind_some]
    rw [if_pos (by simp)]
    simp only [List.drop_zero, List.take_length, List.map_map, dots, flg]
    congr 1
theorem own_res8 {n : Nat} {ob : OB} {v : V} {cs : List Cel} (h : OwnE n ob v 8 (cs.map celV)) : ∃ b : Bool, ∀ m, resV ob (m + 3) v = cels (flg b) cs := by
  rcases h with ⟨h0, rfl⟩ | ⟨id, cap, hid, rfl, hob⟩
  · have : cs = [] := by simpa using h0
    subst this; exact ⟨false, fun m => rfl⟩
  · refine ⟨true, fun m => ?_⟩
    simp only [resV, rowsOf, hob, Option.bind_some]
    rw [if_pos (by simp)]
    simp only [List.drop_zero, List.take_length, List.map_map, cels, flg]
    congr 1
theorem OwnE.upd {n m k : Nat} {ob : OB} {v : V} {rows : List (List V)} {x : Option Ob} (h : OwnE n ob v k rows) (hm : n ≤ m) : OwnE n (updO ob m x) v k rows := by
  rcases h with h | ⟨id, cap, hid, h2, h3⟩
  · exact .inl h
  · exact .inr ⟨id, cap, hid, h2, by rw [updO, if_neg (by omega), h3]⟩
theorem OwnE.mono {n n' k : Nat} {ob : OB} {v : V} {rows : List (List V)} (h : OwnE n ob v k rows) (hn : n ≤ n') : OwnE n' ob v k rows := by
  rcases h with h | ⟨id, cap, hid, h2, h3⟩
  · exact .inl h
  · exact .inr ⟨id, cap, by omega, h2, h3⟩
theorem OwnE.fr {n n' k : Nat} {ob ob' : OB} {v : V} {rows : List (List V)} (h : OwnE n ob v k rows) (hn : n ≤ n') (hf : ∀ id len, v = .sl id 0 len → id < n → ob' id = ob id) : OwnE n' ob' v k rows := by
  rcases h with h | ⟨id, cap, hid, h2, h3⟩
  · exact .inl h
  · exact .inr ⟨id, cap, by omega, h2, by rw [hf id _ h2 hid, h3]⟩
theorem OwnE.cell {n k : Nat} {ob : OB} {v : V} {rows : List (List V)} (h : OwnE n ob v k rows) : cellsV v = [v] ∧ leaf v = true := by
  rcases h with ⟨_, rfl⟩ | ⟨id, cap, hid, rfl, h3⟩ <;> exact ⟨rfl, rfl⟩
theorem OwnE.ne {n k k' A len : Nat} {ob : OB} {v : V} {rows r : List (List V)} {c : Option Nat} (h : OwnE n ob v k rows) (hA : ob A = some ⟨k', r, c⟩) (hk : k ≠ k') : v ≠ .sl A 0 len := by
  rcases h with ⟨_, rfl⟩ | ⟨id, cap, hid, h2, h3⟩
  · intro e; cases e
  · intro e; rw [h2] at e; cases e; rw [h3] at hA; cases hA; exact hk rfl
theorem OwnE.lt {n k A len : Nat} {ob : OB} {v : V} {rows : List (List V)} (h : OwnE n ob v k rows) (hA : n ≤ A) : v ≠ .sl A 0 len := by
  rcases h with ⟨_, rfl⟩ | ⟨id, cap, hid, h2, h3⟩
  · intro e; cases e
  · intro e; rw [h2] at e; cases e; omega
def posD (l : List Dt) (d : Dt) : Nat := (l.takeWhile fun a => decide (cmpD a d < 0)).length
def insD (l : List Dt) (d : Dt) : List Dt := if posD l d < l.length ∧ cmpD (gN l (posD l d)) d = 0 then l else l.take (posD l d) ++ d :: l.drop (posD l d)
theorem posD_le (l : List Dt) (d : Dt) : posD l d ≤ l.length := by unfold posD; exact (List.takeWhile_sublist _).length_le
theorem tw_all {α : Type} {p : α → Bool} : ∀ {l : List α}, ∀ x ∈ l.takeWhile p, p x = true
  | [], x, h => by cases h
  | a :: l, x, h => by
    rw [List.takeWhile_cons] at h
    split at h
    · rename_i ha
      rcases List.mem_cons.1 h with rfl | h
      · exact ha
      · exact tw_all x h
    · cases h
theorem posD_lt {l : List Dt} {d : Dt} {i : Nat} (h : i < posD l d) : cmpD (gN l i) d < 0 := by
  have h1 := posD_le l d
  have h2 : (l.takeWhile fun a => decide (cmpD a d < 0))[i]'h ∈ l.takeWhile fun a => decide (cmpD a d < 0) := List.getElem_mem _
  have h3 := tw_all _ h2
  have h4 : (l.takeWhile fun a => decide (cmpD a d < 0))[i]'h = gN l i := by
    rw [gN_eq (by omega)]
    exact (List.takeWhile_prefix _).getElem h
  rw [h4] at h3; simpa using h3
def wrs (cs : List Cel) (vs : List Vl) (x : Opz) : List Cel := (List.range cs.length).map fun i => if i < vs.length then wrCel (gN cs i) (gN vs i) x else gN cs i
theorem wrs_len (cs : List Cel) (vs : List Vl) (x : Opz) : (wrs cs vs x).length = cs.length := by simp [wrs]
theorem wrs_at {cs : List Cel} {vs : List Vl} {x : Opz} {i : Nat} (h : i < cs.length) : gN (wrs cs vs x) i = if i < vs.length then wrCel (gN cs i) (gN vs i) x else gN cs i := by
  rw [gN_eq (by rw [wrs_len]; exact h)]; simp [wrs]
theorem wrs_0 (cs : List Cel) (x : Opz) : wrs cs [] x = cs := by
  refine List.ext_getElem (by simp [wrs]) fun i h1 h2 => ?_
  simp [wrs, gN_eq h2]
theorem wrs_s {cs : List Cel} {vs : List Vl} {x : Opz} {i : Nat} (h : i < vs.length) (hc : i < cs.length) : (wrs cs (vs.take i) x).set i (wrCel (gN (wrs cs (vs.take i) x) i) (gN vs i) x) = wrs cs (vs.take (i + 1)) x := by
  have e1 : gN (wrs cs (vs.take i) x) i = gN cs i := by rw [wrs_at hc, if_neg (by simp; omega)]
  rw [e1]
  refine List.ext_getElem (by simp [wrs]) fun j h1 h2 => ?_
  have hj : j < cs.length := by simpa [wrs] using h2
  have e2 : ∀ m, (hm : j < (wrs cs (vs.take m) x).length) → (wrs cs (vs.take m) x)[j] = if j < (vs.take m).length then wrCel (gN cs j) (gN (vs.take m) j) x else gN cs j := fun m hm => by
    have := wrs_at (vs := vs.take m) (x := x) hj
    rw [gN_eq hm] at this; exact this
  rw [List.getElem_set, e2 (i + 1) h2]
  by_cases hji : i = j
  · subst hji
    rw [if_pos rfl, if_pos (by simp; omega)]
    congr 1
    rw [gN_eq h, gN_eq (by simp; omega)]; simp
  · rw [if_neg hji, e2 i (by rw [wrs_len]; exact hj)]
    by_cases hlt : j < i
    · rw [if_pos (by simp; omega), if_pos (by simp; omega)]
      congr 1
      rw [gN_eq (by simp; omega), gN_eq (by simp; omega)]; simp
    · rw [if_neg (by simp; omega), if_neg (by simp; omega)]
theorem chgIns_ok {N k nid n : Nat} {capN : Option Nat} {rows : List (List V)} {key : ByteArray} {dv cv : V} {ds : List Dt} {cs : List Cel} {x : Opz} {ob : OB} {C : V → OB → Nat → Prop} (hk : x.kind = 1) (hN : ob N = some ⟨3, rows, capN⟩) (hr : rows[k]? = some [.c (.string key), dv, cv])
    (hd : Own n ob dv 2 (ds.map dotV)) (hc : OwnE n ob cv 8 (cs.map celV)) (hn : n ≤ nid) (hNn : N < nid) (hvl : x.vals.length ≤ cs.length) (hvm : x.vals.length ≤ maxLen) (hdm : ds.length + 1 ≤ maxLen)
    (h2 : ∀ i, posD ds x.dot ≤ i → i < ds.length → 0 ≤ cmpD (gN ds i) x.dot)
    (hC : ∀ dv' ob' n', nid ≤ n' → leaf dv' = true → OwnE n' ob' dv' 2 ((insD ds x.dot).map dotV) → OwnE n' ob' cv 8 ((wrs cs x.vals x).map celV) → ob' N = some ⟨3, rows.set k [.c (.string key), dv', cv], capN⟩ → (∀ j, j < nid → j ≠ N → (∀ len, dv ≠ .sl j 0 len) → (∀ len, cv ≠ .sl j 0 len) → ob' j = ob j) → C (.tp []) ob' n') :
    FnS Tryz.prog 43 [.pt N k 0, .ag (opZ x)] ob nid C := by
  refine fnS_intro cf43 (by simp) ?_
  have ha : ∀ k, (N == nid + k) = false := fun k => by simp; omega
  have ha0 : (N == nid) = false := by simp; omega
  simp +contextual (maxSteps := 1000000) only [go_sem, ints, intRows, reduceAdd, Nat.reduceBEq, reduceEqDiff, reduceLeDiff, Nat.reduceLT, reduceIte, reduceLE, Int.reduceLT, reduceEq, reduceNeg, reduceToNat, ops, vals, dots, c43, hk, hN, hr, ha, ha0, Nat.add_assoc, beq_add, Nat.zero_add, Nat.add_zero]
  have hb1 := updO_s ob nid (some ⟨12, [opZ x], none⟩)
  have hfr1 : ∀ j, j < nid → updO ob nid (some ⟨12, [opZ x], none⟩) j = ob j := fun j hj => by rw [updO, if_neg (by omega)]
  have hd1 : OwnE n (updO ob nid (some ⟨12, [opZ x], none⟩)) dv 2 (ds.map dotV) := hd.e.upd hn
  have hdo1 : Own n (updO ob nid (some ⟨12, [opZ x], none⟩)) dv 2 (ds.map dotV) := hd.upd hn
  have hc1 : OwnE n (updO ob nid (some ⟨12, [opZ x], none⟩)) cv 8 (cs.map celV) := hc.upd hn
  generalize updO ob nid (some ⟨12, [opZ x], none⟩) = ob1 at *
  obtain ⟨b2, hb2⟩ := own_res2 hd1
  rw [hb2 3]
  refine cut_caD (fun env ob' n' => nid + 1 ≤ n' ∧ env 0 = .pt N k 0 ∧ env 3 = .pt nid 0 0 ∧ ob' nid = some ⟨12, [opZ x], none⟩ ∧ ∃ dv', leaf dv' = true ∧ OwnE n' ob' dv' 2 ((insD ds x.dot).map dotV) ∧ OwnE n' ob' cv 8 (cs.map celV) ∧ ob' N = some ⟨3, rows.set k [.c (.string key), dv', cv], capN⟩ ∧ (∀ j, j < nid → j ≠ N → (∀ len, dv ≠ .sl j 0 len) → ob' j = ob j)) ?_ ?_
  · first | refine caS_i (BinDots_ok ds x.dot 80 (fun i => cmpD (gN ds i) x.dot) (posD ds x.dot) (by omega) (fun i _ => cmpD_ok (gN ds i) x.dot) (posD_le _ _) (fun i h => posD_lt h) h2) trivial ?_ | refine caD_i (BinDots_ok ds x.dot 80 (fun i => cmpD (gN ds i) x.dot) (posD ds x.dot) (by omega) (fun i _ => cmpD_ok (gN ds i) x.dot) (posD_le _ _) (fun i h => posD_lt h) h2) trivial ?_ | refine gC_i (fun _ => BinDots_ok ds x.dot 80 (fun i => cmpD (gN ds i) x.dot) (posD ds x.dot) (by omega) (fun i _ => cmpD_ok (gN ds i) x.dot) (posD_le _ _) (fun i h => posD_lt h) h2) trivial ?_ | refine gCD_i (fun _ => BinDots_ok ds x.dot 80 (fun i => cmpD (gN ds i) x.dot) (posD ds x.dot) (by omega) (fun i _ => cmpD_ok (gN ds i) x.dot) (posD_le _ _) (fun i h => posD_lt h) h2) trivial ?_ | refine caE_i (BinDots_ok ds x.dot 80 (fun i => cmpD (gN ds i) x.dot) (posD ds x.dot) (by omega) (fun i _ => cmpD_ok (gN ds i) x.dot) (posD_le _ _) (fun i h => posD_lt h) h2) trivial ?_
    simp +contextual (maxSteps := 1000000) only [go_sem, ints, intRows, reduceAdd, Nat.reduceBEq, reduceEqDiff, reduceLeDiff, Nat.reduceLT, reduceIte, reduceLE, Int.reduceLT, reduceEq, reduceNeg, reduceToNat, ops, vals, dots, hb1, hfr1 N hNn, hN, hr, ha, ha0, Nat.add_assoc, beq_add, Nat.zero_add, Nat.add_zero]
    refine ⟨fun his => ?_, fun his => ?_⟩
    · have hins : insD ds x.dot = ds.take (posD ds x.dot) ++ x.dot :: ds.drop (posD ds x.dot) := by
        rw [insD, if_neg]; simpa using his
      generalize hI : nid + 27 = I
      have hfr2 : ∀ (o : Option Ob) j, j < I → updO ob1 I o j = ob1 j := fun o j hj => by rw [updO, if_neg (by omega)]
      have hv2 := updO_s ob1 I (some ⟨2, [[V.c (.int .i64 x.dot.p), V.c (.int .i64 x.dot.n)]], none⟩)
      refine rcS_i (InsertDots_ok (l := ds) (i := posD ds x.dot) (x := x.dot) (n := n) (capv := none) (posD_le _ _) hdm (hdo1.upd (by omega)) (by omega) hv2 (by omega) (fun len => hd1.lt (by omega)) fun v' ob' n' hn' ho' hfr => ?_)
      have hNd : ∀ len, dv ≠ .sl N 0 len := fun len => hd1.ne (by rw [hfr1 N hNn]; exact hN) (by omega)
      have hN3 : ob' N = some ⟨3, rows, capN⟩ := by rw [hfr N (by omega) hNd, hfr2 _ N (by omega), hfr1 N hNn, hN]
      have hb3 : ob' nid = some ⟨12, [opZ x], none⟩ := by rw [hfr nid (by omega) (fun len => hd1.lt hn), hfr2 _ nid (by omega), hb1]
      have hNI : (N == I) = false := by simp; omega
      have hvc := ho'.e.cell
      simp +contextual (maxSteps := 1000000) only [go_sem, ints, intRows, reduceAdd, Nat.reduceBEq, reduceEqDiff, reduceLeDiff, Nat.reduceLT, reduceIte, reduceLE, Int.reduceLT, reduceEq, reduceNeg, reduceToNat, ops, vals, dots, hN3, hr, hvc.1]
      have ho2 := ho'.e
      have hvN : ∀ len, v' ≠ .sl N 0 len := fun len => ho2.ne hN3 (by omega)
      have hcN : ∀ len, cv ≠ .sl N 0 len := fun len => hc1.ne (by rw [hfr1 N hNn]; exact hN) (by omega)
      refine ⟨by simp [hvc.2], by omega, by rw [updO, if_neg (by omega), hb3], v', hvc.2, ?_, ?_, rfl, fun j hj hjN hjd => ?_⟩
      · rw [hins]
        exact ho2.fr (by omega) fun id len e hid => by rw [updO, if_neg (fun e2 => hvN len (by rw [e, e2]))]
      · refine hc1.fr (by omega) fun id len e hid => ?_
        have hidN : id ≠ N := fun e2 => hcN len (by rw [e, e2])
        rw [updO, if_neg hidN, hfr id (by omega) (fun len2 e2 => ?_), hfr2 _ id (by omega)]
        rcases hc1 with ⟨_, h⟩ | ⟨id', cap', h1, h2', h3⟩
        · rw [h] at e; cases e
        · rw [h2'] at e; cases e
          exact hd1.ne h3 (by omega) e2
      · rw [updO, if_neg hjN, hfr j (by omega) hjd, hfr2 _ j (by omega), hfr1 j hj]
    · have hins : insD ds x.dot = ds := by
        rw [insD, if_pos]; simpa using his
      have hset : rows.set k [V.c (.string key), dv, cv] = rows := by
        obtain ⟨h1, h2'⟩ := List.getElem?_eq_some_iff.1 hr
        rw [← h2', List.set_getElem_self]
      refine ⟨by omega, dv, hd1.cell.2, ?_, hc1.mono (by omega), by rw [hset], fun j hj _ _ => hfr1 j hj⟩
      rw [hins]; exact hd1.mono (by omega)
  · rintro env ob2 n2 ⟨hn2, e0, e3, hb2', dv', hl', hd2, hc2, hN2, hfr2⟩
    have hrk : (rows.set k [.c (.string key), dv', cv])[k]? = some [.c (.string key), dv', cv] := by
      obtain ⟨h1, _⟩ := List.getElem?_eq_some_iff.1 hr
      rw [List.getElem?_set, if_pos rfl, if_pos h1]
    have hml : x.vals.length ≤ 4294967296 := hvm
    simp +contextual (maxSteps := 1000000) only [go_sem, ints, intRows, reduceAdd, Nat.reduceBEq, reduceEqDiff, reduceLeDiff, Nat.reduceLT, reduceIte, reduceLE, Int.reduceLT, reduceEq, reduceNeg, reduceToNat, ops, vals, dots, e0, e3, hb2']
    refine wpC_lp (fun env ob' n' => n2 ≤ n' ∧ env 0 = .pt N k 0 ∧ env 3 = .pt nid 0 0 ∧ ob' nid = some ⟨12, [opZ x], none⟩ ∧ env 37 = vals .b x.vals ∧ env 38 = vi x.vals.length ∧ ob' N = ob2 N ∧ (∀ j, j < n2 → (∀ len, cv ≠ .sl j 0 len) → ob' j = ob2 j) ∧ ∃ i : Nat, env 39 = vi i ∧ i ≤ x.vals.length ∧ OwnE n' ob' cv 8 ((wrs cs (x.vals.take i) x).map celV)) (fun env ob' n' => (x.vals.length - iv (env 39)).toNat) ?_ ?_
    · simp +contextual (maxSteps := 1000000) only [go_sem, ints, intRows, reduceAdd, Nat.reduceBEq, reduceEqDiff, reduceLeDiff, Nat.reduceLT, reduceIte, reduceLE, Int.reduceLT, reduceEq, reduceNeg, reduceToNat, ops, vals, dots, e0, e3, hb2']
      refine ⟨by omega, 0, rfl, Nat.zero_le _, ?_⟩
      rw [List.take_zero, wrs_0]; exact hc2.mono (by omega)
    rintro env3 ob3 n3 ⟨hn3, e0, e3, hb3, e37, e38, hN3, hfr3, i, e39, hi, hc3⟩
    rw [hN2] at hN3
    have haN : ∀ k, (N == n3 + k) = false := fun k => by simp; omega
    have haB : ∀ k, (nid == n3 + k) = false := fun k => by simp; omega
    by_cases hlt : i < x.vals.length
    · have hics : i < cs.length := by omega
      have hwl : (wrs cs (x.vals.take i) x).length = cs.length := wrs_len _ _ _
      rcases hc3 with ⟨h0, _⟩ | ⟨id, cap, hid, hcv, hob⟩
      · have := congrArg List.length h0
        rw [List.length_map, hwl, List.length_nil] at this; omega
      have haI : ∀ k, (id == n3 + k) = false := fun k => by simp; omega
      have hdlt : decide ((i : Int) < x.vals.length) = true := by simpa using hlt
      subst hcv
      rw [List.length_map, hwl] at hrk
      simp +contextual (maxSteps := 1000000) only [go_sem, ints, intRows, reduceAdd, Nat.reduceBEq, reduceEqDiff, reduceLeDiff, Nat.reduceLT, reduceIte, reduceLE, Int.reduceLT, reduceEq, reduceNeg, reduceToNat, ops, vals, dots, e0, e3, hb3, e37, e38, e39, hN3, hrk, hdlt, haN, haB, haI, hob, hwl, Nat.add_assoc, beq_add, Nat.zero_add, Nat.add_zero]
      repeat (refine And.intro (by omega) ?_)
      generalize hM : n3 + 4 = M
      have hfr4 : ∀ (a b : Option Ob) j, j < n3 → updO (updO ob3 M a) M b j = ob3 j := fun a b j hj => by rw [updO, if_neg (by omega), updO, if_neg (by omega)]
      have hidN : N ≠ id := fun e => by rw [← e, hN3] at hob; cases hob
      have hidB : nid ≠ id := fun e => by rw [← e, hb3] at hob; cases hob
      refine rcS_i (write_ok (cells := wrs cs (x.vals.take i) x) (cap := cap) (v := gN x.vals i) (x := x) (by omega) (by rw [hfr4 _ _ id hid]; exact hob) (by omega) fun ob4 n4 hn4 hfr5 hob4 => ?_)
      rw [wrs_s hlt hics] at hob4
      have w1 : IntKind.i64.wrap ((i : Int) + 1) = ((i + 1 : Nat) : Int) := by rw [w64 (by omega)]; omega
      have hN4 : ob4 N = some ⟨3, rows.set k [.c (.string key), dv', .sl id 0 cs.length], capN⟩ := by rw [hfr5 N hidN (by omega), hfr4 _ _ N (by omega), hN3, List.length_map, hwl]
      have hb4 : ob4 nid = some ⟨12, [opZ x], none⟩ := by rw [hfr5 nid hidB (by omega), hfr4 _ _ nid (by omega), hb3]
      simp +contextual (maxSteps := 1000000) only [go_sem, ints, intRows, reduceAdd, Nat.reduceBEq, reduceEqDiff, reduceLeDiff, Nat.reduceLT, reduceIte, reduceLE, Int.reduceLT, reduceEq, reduceNeg, reduceToNat, ops, vals, dots, e0, e3, e37, e38, e39, w1]
      refine ⟨⟨by omega, hb4, ?_, fun j hj hjc => ?_, i + 1, rfl, by omega, .inr ⟨id, cap, by omega, by rw [List.length_map, wrs_len], hob4⟩⟩, by omega⟩
      · rw [hN4, hN2, List.length_map, hwl]
      · have hji : j ≠ id := fun e => hjc _ (by rw [e])
        rw [hfr5 j hji (by omega), hfr4 _ _ j (by omega)]
        exact hfr3 j hj fun len e => by cases e; exact hji rfl
    · have hdlt : decide ((i : Int) < x.vals.length) = false := by simpa using hlt
      simp +contextual (maxSteps := 1000000) only [go_sem, ints, intRows, reduceAdd, Nat.reduceBEq, reduceEqDiff, reduceLeDiff, Nat.reduceLT, reduceIte, reduceLE, Int.reduceLT, reduceEq, reduceNeg, reduceToNat, ops, vals, dots, e0, e3, hb3, e37, e38, e39, hN3, hrk, hdlt, haN, haB, Nat.add_assoc, beq_add, Nat.zero_add, Nat.add_zero]
      have hil : i = x.vals.length := by omega
      rw [hil, List.take_length] at hc3
      refine hC dv' ob3 _ (by omega) hl' (hd2.fr (by omega) fun id len e hid => hfr3 id hid fun len2 e2 => ?_) (hc3.mono (by omega)) hN3 fun j hj hjN hjd hjc => ?_
      · rcases hc2 with ⟨_, h⟩ | ⟨id', cap', h1, h2', h3⟩
        · rw [h] at e2; cases e2
        · rw [h2'] at e2; cases e2
          exact hd2.ne h3 (by omega) e
      · rw [hfr3 j (by omega) hjc, hfr2 j hj hjN hjd]
end Go.Proofs.YtbojpedklnmidaaGreat.D
end
section
set_option linter.unusedVariables false
set_option linter.unusedSimpArgs false
set_option linter.constructorNameAsVariable false
set_option maxRecDepth 100000

/- Tables anew, as one's own. No condition. -/
namespace Go.Proofs.YtbojpedklnmidaaGreat.D
open Go Go.Proofs
open Nat (reduceAdd reduceEqDiff reduceLeDiff)
open Int (reduceLE reduceEq reduceNeg reduceToNat)
theorem CloneCels_ok (v : List Cel) (hv : v.length ≤ maxLen) (f : Fl) : FnB Tryz.prog 75 [cels f v] (cels .o v) := by
  refine fnB_intro cf75 (by simp) ?_
  by_cases h : v = []
  · subst h
    simp +contextual (maxSteps := 1000000) only [go_sem, ints, intRows, reduceAdd, Nat.reduceBEq, reduceEqDiff, reduceLeDiff, Nat.reduceLT, reduceIte, reduceLE, Int.reduceLT, reduceEq, reduceNeg, reduceToNat, ops, vals, dots, c75, cels, List.map_nil]
    refine nxS_app Own.nil (Nat.zero_le _) rfl rfl (by simp [maxLen]) fun v' ob' ho _ => ?_
    simp +contextual (maxSteps := 1000000) only [go_sem, ints, intRows, reduceAdd, Nat.reduceBEq, reduceEqDiff, reduceLeDiff, Nat.reduceLT, reduceIte, reduceLE, Int.reduceLT, reduceEq, reduceNeg, reduceToNat, ops, vals, dots]
    rw [out_own ho (fun ob' => by simp) [] (fun _ => rfl)]; rfl
  · simp +contextual (maxSteps := 1000000) only [go_sem, ints, intRows, reduceAdd, Nat.reduceBEq, reduceEqDiff, reduceLeDiff, Nat.reduceLT, reduceIte, reduceLE, Int.reduceLT, reduceEq, reduceNeg, reduceToNat, ops, vals, dots, c75, cels, h]
    refine nxS_app Own.nil (Nat.zero_le _) rfl (allCels v) (by simpa using hv) fun v' ob' ho _ => ?_
    simp +contextual (maxSteps := 1000000) only [go_sem, ints, intRows, reduceAdd, Nat.reduceBEq, reduceEqDiff, reduceLeDiff, Nat.reduceLT, reduceIte, reduceLE, Int.reduceLT, reduceEq, reduceNeg, reduceToNat, ops, vals, dots]
    rw [List.nil_append] at ho
    rw [out_own ho (fun ob' => gCels ob' v) [] (fun _ => rfl)]; rfl
theorem CloneRws_ok (v : List Rwx) (hv : v.length ≤ maxLen) (f : Fl) : FnB Tryz.prog 73 [rws f v] (rws .o v) := by
  refine fnB_intro cf73 (by simp) ?_
  by_cases h : v = []
  · subst h
    simp +contextual (maxSteps := 1000000) only [go_sem, ints, intRows, reduceAdd, Nat.reduceBEq, reduceEqDiff, reduceLeDiff, Nat.reduceLT, reduceIte, reduceLE, Int.reduceLT, reduceEq, reduceNeg, reduceToNat, ops, vals, dots, c73, rws, List.map_nil]
    refine nxS_app Own.nil (Nat.zero_le _) rfl rfl (by simp [maxLen]) fun v' ob' ho _ => ?_
    simp +contextual (maxSteps := 1000000) only [go_sem, ints, intRows, reduceAdd, Nat.reduceBEq, reduceEqDiff, reduceLeDiff, Nat.reduceLT, reduceIte, reduceLE, Int.reduceLT, reduceEq, reduceNeg, reduceToNat, ops, vals, dots]
    rw [out_own ho (fun ob' => by simp) [] (fun _ => rfl)]; rfl
  · simp +contextual (maxSteps := 1000000) only [go_sem, ints, intRows, reduceAdd, Nat.reduceBEq, reduceEqDiff, reduceLeDiff, Nat.reduceLT, reduceIte, reduceLE, Int.reduceLT, reduceEq, reduceNeg, reduceToNat, ops, vals, dots, c73, rws, h]
    refine nxS_app Own.nil (Nat.zero_le _) rfl (allRws v) (by simpa using hv) fun v' ob' ho _ => ?_
    simp +contextual (maxSteps := 1000000) only [go_sem, ints, intRows, reduceAdd, Nat.reduceBEq, reduceEqDiff, reduceLeDiff, Nat.reduceLT, reduceIte, reduceLE, Int.reduceLT, reduceEq, reduceNeg, reduceToNat, ops, vals, dots]
    rw [List.nil_append] at ho
    rw [out_own ho (fun ob' => gRws ob' v) [] (fun _ => rfl)]; rfl
def RowO (ob : OB) (hi : Nat) (r : List V) (R : Rwx) : Prop := ∃ dv cv, r = [.c (.string R.key), dv, cv] ∧ OwnE hi ob dv 2 (R.dots.map dotV) ∧ OwnE hi ob cv 8 (R.cells.map celV)
def ids (r : List V) : List Nat := r.flatMap vid
def RowsO (ob : OB) (hi : Nat) : List (List V) → List Rwx → Prop
  | [], [] => True
  | r :: rs, R :: Rs => RowO ob hi r R ∧ RowsO ob hi rs Rs
  | _, _ => False
theorem vid_own {n k : Nat} {ob : OB} {v : V} {rows : List (List V)} (h : OwnE n ob v k rows) {id : Nat} (hid : id ∈ vid v) : id < n ∧ v = .sl id 0 rows.length ∧ ∃ cap, ob id = some ⟨k, rows, cap⟩ := by
  rcases h with ⟨_, rfl⟩ | ⟨i, cap, hi, rfl, h3⟩
  · simp [vid] at hid
  · simp [vid] at hid; subst hid; exact ⟨hi, rfl, cap, h3⟩
theorem RowO.fr {ob ob' : OB} {hi hi' : Nat} {r : List V} {R : Rwx} (h : RowO ob hi r R) (hh : hi ≤ hi') (hf : ∀ id ∈ ids r, ob' id = ob id) : RowO ob' hi' r R := by
  obtain ⟨dv, cv, rfl, h1, h2⟩ := h
  refine ⟨dv, cv, rfl, h1.fr hh fun id len e _ => hf id ?_, h2.fr hh fun id len e _ => hf id ?_⟩ <;> simp [ids, vid, e]
theorem RowsO.len {ob : OB} {hi : Nat} : ∀ {rows : List (List V)} {L : List Rwx}, RowsO ob hi rows L → rows.length = L.length
  | [], [], _ => rfl
  | r :: rs, R :: Rs, h => by simp [RowsO.len h.2]
  | [], _ :: _, h => h.elim
  | _ :: _, [], h => h.elim
theorem RowsO.fr {ob ob' : OB} {hi hi' : Nat} : ∀ {rows : List (List V)} {L : List Rwx}, RowsO ob hi rows L → hi ≤ hi' → (∀ id ∈ rows.flatMap ids, ob' id = ob id) → RowsO ob' hi' rows L
  | [], [], _, _, _ => trivial
  | r :: rs, R :: Rs, h, hh, hf => ⟨h.1.fr hh fun id hid => hf id (by simp [hid]), RowsO.fr h.2 hh fun id hid => hf id (by
      rw [List.flatMap_cons]; exact List.mem_append_right _ hid)⟩
  | [], _ :: _, h, _, _ => h.elim
  | _ :: _, [], h, _, _ => h.elim
theorem RowsO.app {ob : OB} {hi : Nat} : ∀ {A B : List (List V)} {L M : List Rwx}, RowsO ob hi A L → RowsO ob hi B M → RowsO ob hi (A ++ B) (L ++ M)
  | [], B, [], M, _, h => h
  | r :: rs, B, R :: Rs, M, h, h2 => ⟨h.1, RowsO.app h.2 h2⟩
  | [], _, _ :: _, _, h, _ => h.elim
  | _ :: _, _, [], _, h, _ => h.elim
theorem RowsO.split {ob : OB} {hi : Nat} : ∀ {rows : List (List V)} {L : List Rwx} (k : Nat), RowsO ob hi rows L → RowsO ob hi (rows.take k) (L.take k) ∧ RowsO ob hi (rows.drop k) (L.drop k)
  | rows, L, 0, h => ⟨by simp [RowsO], by simpa using h⟩
  | [], [], k + 1, h => ⟨trivial, trivial⟩
  | r :: rs, R :: Rs, k + 1, h => by
    obtain ⟨h1, h2⟩ := RowsO.split k h.2
    exact ⟨⟨h.1, h1⟩, h2⟩
  | [], _ :: _, _, h => h.elim
  | _ :: _, [], _, h => h.elim
theorem RowsO.lt {ob : OB} {hi : Nat} : ∀ {rows : List (List V)} {L : List Rwx}, RowsO ob hi rows L → ∀ id ∈ rows.flatMap ids, id < hi ∧ ∃ k r c, ob id = some ⟨k, r, c⟩ ∧ (k = 2 ∨ k = 8)
  | [], [], _, id, h => by simp at h
  | r :: rs, R :: Rs, h, id, hid => by
    rw [List.flatMap_cons] at hid
    rcases List.mem_append.1 hid with h1 | h1
    · obtain ⟨dv, cv, rfl, h2, h3⟩ := h.1
      simp only [ids, List.flatMap_cons, List.flatMap_nil, List.append_nil, vid, List.nil_append, List.mem_append] at h1
      rcases h1 with h1 | h1
      · obtain ⟨a1, _, cap, a3⟩ := vid_own h2 h1
        exact ⟨a1, _, _, _, a3, .inl rfl⟩
      · obtain ⟨a1, _, cap, a3⟩ := vid_own h3 h1
        exact ⟨a1, _, _, _, a3, .inr rfl⟩
    · exact RowsO.lt h.2 id h1
  | [], _ :: _, h, _, _ => h.elim
  | _ :: _, [], h, _, _ => h.elim
end Go.Proofs.YtbojpedklnmidaaGreat.D
end
section
set_option linter.unusedVariables false
set_option linter.unusedSimpArgs false
set_option linter.constructorNameAsVariable false
set_option maxRecDepth 100000

/- Tables anew, as one's own: the walk. No condition. -/
namespace Go.Proofs.YtbojpedklnmidaaGreat.D
open Go Go.Proofs
open Nat (reduceAdd reduceEqDiff reduceLeDiff)
open Int (reduceLE reduceEq reduceNeg reduceToNat)
def OwnU (m : Nat) (v : V) (k : Nat) (rows : List (List V)) (us : Ups) : Prop := (rows = [] ∧ v = .z ∧ us = []) ∨ (rows ≠ [] ∧ v = .sl m 0 rows.length ∧ us = [(m, some ⟨k, rows, none⟩)])
theorem OwnU.cell {m k : Nat} {v : V} {rows : List (List V)} {us : Ups} (h : OwnU m v k rows us) : cellsV v = [v] ∧ leaf v = true := by
  rcases h with ⟨_, rfl, _⟩ | ⟨_, rfl, _⟩ <;> exact ⟨rfl, rfl⟩
theorem OwnU.out {m k : Nat} {v : V} {rows : List (List V)} {us : Ups} (h : OwnU m v k rows us) (ob : OB) : ∀ j, j ≠ m → apps ob us j = ob j := by
  rcases h with ⟨_, _, rfl⟩ | ⟨_, _, rfl⟩
  · exact fun _ _ => rfl
  · intro j hj; simp [apps, hj]
theorem OwnU.own {m k : Nat} {v : V} {rows : List (List V)} {us : Ups} (h : OwnU m v k rows us) (ob : OB) : OwnE (m + 1) (apps ob us) v k rows := by
  rcases h with ⟨h1, h2, rfl⟩ | ⟨h1, h2, rfl⟩
  · exact .inl ⟨h1, h2⟩
  · exact .inr ⟨m, none, by omega, h2, by simp [apps]⟩
theorem OwnU.vid {m k : Nat} {v : V} {rows : List (List V)} {us : Ups} (h : OwnU m v k rows us) : ∀ id ∈ vid v, id = m := by
  rcases h with ⟨_, rfl, _⟩ | ⟨_, rfl, _⟩ <;> simp [D.vid]
set_option maxHeartbeats 1000000 in
theorem tTwin_ok {fl : Fl} {l : List Rwx} {nid : Nat} {ob : OB} {C : V → OB → Nat → Prop} (hl : l.length ≤ maxLen) (hs : ∀ r ∈ l, ShortR r)
    (hC : ∀ v' ob' n' rows, nid ≤ n' → RowsO ob' n' rows l → (∀ r ∈ rows, ∀ id, V.sl id 0 0 ∉ r) → (rows.flatMap ids).Nodup → (∀ id ∈ rows.flatMap ids, nid ≤ id) → Own n' ob' v' 3 rows → (∀ id len, v' = .sl id 0 len → nid ≤ id) → (∀ j, j < nid → ob' j = ob j) → C v' ob' n') :
    FnS Tryz.prog 37 [rws fl l] ob nid C := by
  have hl' := hl
  unfold maxLen at hl
  refine fnS_intro cf37 (by simp) ?_
  simp +contextual (maxSteps := 1000000) only [go_sem, ints, intRows, reduceAdd, Nat.reduceBEq, reduceEqDiff, reduceLeDiff, Nat.reduceLT, reduceIte, reduceLE, Int.reduceLT, reduceEq, reduceNeg, reduceToNat, ops, vals, dots, c37, rws]
  first | refine caS_i (CloneRws_ok (f := resFl fl) l hl') (fun ch hch => by obtain ⟨_, _, rfl⟩ := List.mem_map.1 hch; rfl) ?_ | refine caD_i (CloneRws_ok (f := resFl fl) l hl') (fun ch hch => by obtain ⟨_, _, rfl⟩ := List.mem_map.1 hch; rfl) ?_ | refine gC_i (fun _ => CloneRws_ok (f := resFl fl) l hl') (fun ch hch => by obtain ⟨_, _, rfl⟩ := List.mem_map.1 hch; rfl) ?_ | refine gCD_i (fun _ => CloneRws_ok (f := resFl fl) l hl') (fun ch hch => by obtain ⟨_, _, rfl⟩ := List.mem_map.1 hch; rfl) ?_ | refine caE_i (CloneRws_ok (f := resFl fl) l hl') (fun ch hch => by obtain ⟨_, _, rfl⟩ := List.mem_map.1 hch; rfl) ?_
  refine nxS_own fun v' ob1 hv hfr1 => ?_
  rcases hv with ⟨h0, rfl⟩ | ⟨hne, rfl, hN⟩
  · have hl0 : l = [] := by simpa using h0
    subst hl0
    simp +contextual (maxSteps := 1000000) only [go_sem, ints, intRows, reduceAdd, Nat.reduceBEq, reduceEqDiff, reduceLeDiff, Nat.reduceLT, reduceIte, reduceLE, Int.reduceLT, reduceEq, reduceNeg, reduceToNat, ops, vals, dots]
    refine wpC_lp (fun env ob n => ob = ob1 ∧ nid + 3 ≤ n ∧ env 3 = .z ∧ env 8 = vi 0 ∧ env 9 = vi 0) (fun _ _ _ => 0) ?_ ?_
    · simp +contextual (maxSteps := 1000000) only [go_sem, ints, intRows, reduceAdd, Nat.reduceBEq, reduceEqDiff, reduceLeDiff, Nat.reduceLT, reduceIte, reduceLE, Int.reduceLT, reduceEq, reduceNeg, reduceToNat, ops, vals, dots]
      omega
    rintro env ob n ⟨rfl, hn, e3, e8, e9⟩
    simp +contextual (maxSteps := 1000000) only [go_sem, ints, intRows, reduceAdd, Nat.reduceBEq, reduceEqDiff, reduceLeDiff, Nat.reduceLT, reduceIte, reduceLE, Int.reduceLT, reduceEq, reduceNeg, reduceToNat, ops, vals, dots, e3, e8, e9]
    exact hC .z ob _ [] (by omega) trivial (by simp) (by simp) (by simp) (.inl ⟨rfl, rfl⟩) (fun _ _ e => by cases e) fun j hj => hfr1 j (by omega)
  · have hlen : (l.map rwV).length = l.length := by simp
    simp +contextual (maxSteps := 1000000) only [go_sem, ints, intRows, reduceAdd, Nat.reduceBEq, reduceEqDiff, reduceLeDiff, Nat.reduceLT, reduceIte, reduceLE, Int.reduceLT, reduceEq, reduceNeg, reduceToNat, ops, vals, dots, hlen]
    generalize hNd : nid + 1 + 1 = N at *
    refine wpC_lp (fun env ob' n' => N < n' ∧ env 3 = .sl N 0 l.length ∧ env 8 = vi l.length ∧ (∀ j, j < nid → ob' j = ob j) ∧ ∃ (i : Nat) (rows done : List (List V)), env 9 = vi i ∧ i ≤ l.length ∧ done.length = i ∧ rows = done ++ (l.drop i).map rwV ∧ ob' N = some ⟨3, rows, none⟩ ∧ RowsO ob' n' done (l.take i) ∧ (done.flatMap ids).Nodup ∧ (∀ r ∈ done, ∀ id, V.sl id 0 0 ∉ r) ∧ ∀ id ∈ done.flatMap ids, N < id) (fun env ob' n' => (l.length - iv (env 9)).toNat) ?_ ?_
    · simp +contextual (maxSteps := 1000000) only [go_sem, ints, intRows, reduceAdd, Nat.reduceBEq, reduceEqDiff, reduceLeDiff, Nat.reduceLT, reduceIte, reduceLE, Int.reduceLT, reduceEq, reduceNeg, reduceToNat, ops, vals, dots]
      exact ⟨by omega, fun j hj => hfr1 j (by omega), 0, l.map rwV, [], rfl, Nat.zero_le _, rfl, rfl, hN, trivial, by simp, by simp, by simp⟩
    rintro env ob2 n2 ⟨hn2, e3, e8, hfr, i, rows, done, e9, hi, hdl, hrows, hoN, hO, hnd, hst, hlo⟩
    simp +contextual (maxSteps := 1000000) only [go_sem, ints, intRows, reduceAdd, Nat.reduceBEq, reduceEqDiff, reduceLeDiff, Nat.reduceLT, reduceIte, reduceLE, Int.reduceLT, reduceEq, reduceNeg, reduceToNat, ops, vals, dots, e3, e8, e9]
    refine ⟨fun hlt => ?_, fun hge => ?_⟩
    · simp at hlt
      have hrl : rows.length = l.length := by rw [hrows]; simp; omega
      have hget : rows[i]? = some (rwV (gN l i)) := by
        rw [hrows, List.getElem?_append_right (by omega), hdl, Nat.sub_self, List.getElem?_map, gN_eq hlt]
        simp [hlt]
      have hset : ∀ r : List V, (rows.set i r)[i]? = some r := fun r => by rw [List.getElem?_set, if_pos rfl, if_pos (by omega)]
      have hsr := hs _ (gN_mem hlt)
      simp +contextual (maxSteps := 1000000) only [go_sem, ints, intRows, reduceAdd, Nat.reduceBEq, reduceEqDiff, reduceLeDiff, Nat.reduceLT, reduceIte, reduceLE, Int.reduceLT, reduceEq, reduceNeg, reduceToNat, ops, vals, dots, e3, e8, e9, hoN, hget, rwV]
      repeat (refine And.intro (by omega) ?_)
      generalize hM1 : n2 + 1 + 1 + 1 + 1 + 1 + 1 + 1 + 1 + 1 + 1 + 1 + 1 = M1
      first | refine caS_i (CloneDots_ok (gN l i).dots hsr.d .b) (fun ch hch => by obtain ⟨_, _, rfl⟩ := List.mem_map.1 hch; rfl) ?_ | refine caD_i (CloneDots_ok (gN l i).dots hsr.d .b) (fun ch hch => by obtain ⟨_, _, rfl⟩ := List.mem_map.1 hch; rfl) ?_ | refine gC_i (fun _ => CloneDots_ok (gN l i).dots hsr.d .b) (fun ch hch => by obtain ⟨_, _, rfl⟩ := List.mem_map.1 hch; rfl) ?_ | refine gCD_i (fun _ => CloneDots_ok (gN l i).dots hsr.d .b) (fun ch hch => by obtain ⟨_, _, rfl⟩ := List.mem_map.1 hch; rfl) ?_ | refine caE_i (CloneDots_ok (gN l i).dots hsr.d .b) (fun ch hch => by obtain ⟨_, _, rfl⟩ := List.mem_map.1 hch; rfl) ?_
      refine nxD_own fun v1 us1 h1 => ?_
      have h1 : OwnU M1 v1 2 ((gN l i).dots.map dotV) us1 := h1
      have hc1 := h1.cell
      simp +contextual (maxSteps := 1000000) only [go_sem, ints, intRows, reduceAdd, Nat.reduceBEq, reduceEqDiff, reduceLeDiff, Nat.reduceLT, reduceIte, reduceLE, Int.reduceLT, reduceEq, reduceNeg, reduceToNat, ops, vals, dots, e3, e8, e9, hoN, hget, rwV, cels]
      repeat (refine And.intro (by omega) ?_)
      generalize hM2 : M1 + 1 + 1 + 1 + 1 + 1 + 1 = M2
      first | refine caS_i (CloneCels_ok (gN l i).cells hsr.c .b) (fun ch hch => by obtain ⟨_, _, rfl⟩ := List.mem_map.1 hch; rfl) ?_ | refine caD_i (CloneCels_ok (gN l i).cells hsr.c .b) (fun ch hch => by obtain ⟨_, _, rfl⟩ := List.mem_map.1 hch; rfl) ?_ | refine gC_i (fun _ => CloneCels_ok (gN l i).cells hsr.c .b) (fun ch hch => by obtain ⟨_, _, rfl⟩ := List.mem_map.1 hch; rfl) ?_ | refine gCD_i (fun _ => CloneCels_ok (gN l i).cells hsr.c .b) (fun ch hch => by obtain ⟨_, _, rfl⟩ := List.mem_map.1 hch; rfl) ?_ | refine caE_i (CloneCels_ok (gN l i).cells hsr.c .b) (fun ch hch => by obtain ⟨_, _, rfl⟩ := List.mem_map.1 hch; rfl) ?_
      refine nxD_own fun v2 us2 h2 => ?_
      have h2 : OwnU M2 v2 8 ((gN l i).cells.map celV) us2 := h2
      have hc2 := h2.cell
      simp +contextual (maxSteps := 1000000) only [go_sem, ints, intRows, reduceAdd, Nat.reduceBEq, reduceEqDiff, reduceLeDiff, Nat.reduceLT, reduceIte, reduceLE, Int.reduceLT, reduceEq, reduceNeg, reduceToNat, ops, vals, dots, e3, e8, e9, hoN, hget, hset, hrl, rwV, cels, hc1.1, hc2.1, List.set_set]
      have w1 : IntKind.i64.wrap ((i : Int) + 1) = ((i + 1 : Nat) : Int) := by rw [w64 (by omega)]; omega
      rw [w1, apps_append]
      have key : ∀ X : OB, (∀ j, j ≠ N → X j = ob2 j) → X N = some ⟨3, rows.set i [.c (.string (gN l i).key), v1, v2], none⟩ → ∀ n5, M2 < n5 →
          (∀ j, j < nid → apps (apps X us1) us2 j = ob j) ∧ ∃ (i_1 : Nat) (rows_1 done : List (List V)), vi ((i + 1 : Nat) : Int) = vi i_1 ∧ i_1 ≤ l.length ∧ done.length = i_1 ∧ rows_1 = done ++ (l.drop i_1).map rwV ∧ apps (apps X us1) us2 N = some ⟨3, rows_1, none⟩ ∧ RowsO (apps (apps X us1) us2) n5 done (l.take i_1) ∧ (done.flatMap ids).Nodup ∧ (∀ r ∈ done, ∀ id, V.sl id 0 0 ∉ r) ∧ ∀ id ∈ done.flatMap ids, N < id := by
        intro X hX hXN n5 hn5
        have hout : ∀ j, j ≠ N → j ≠ M1 → j ≠ M2 → apps (apps X us1) us2 j = ob2 j := fun j a b c => by rw [h2.out _ j c, h1.out _ j b, hX j a]
        have hlt2 : ∀ id ∈ done.flatMap ids, id < n2 := fun id hid => (hO.lt id hid).1
        refine ⟨fun j hj => by rw [hout j (by omega) (by omega) (by omega)]; exact hfr j hj, i + 1, done ++ [[.c (.string (gN l i).key), v1, v2]] ++ (l.drop (i + 1)).map rwV, done ++ [[.c (.string (gN l i).key), v1, v2]], rfl, by omega, by simp [hdl], rfl, ?_, ?_, ?_, ?_, ?_⟩
        · rw [h2.out _ N (by omega), h1.out _ N (by omega), hXN]
          congr 2
          rw [hrows, List.set_append_right _ _ (by omega), hdl, Nat.sub_self]
          have : l.drop i = gN l i :: l.drop (i + 1) := by rw [gN_eq hlt]; exact List.drop_eq_getElem_cons hlt
          rw [this]; simp
        · rw [take_gN hlt]
          refine (hO.fr (by omega) fun id hid => hout id (by have := hlo id hid; omega) (by have := hlt2 id hid; omega) (by have := hlt2 id hid; omega)).app ⟨⟨v1, v2, rfl, ?_, ?_⟩, trivial⟩
          · refine (h1.own X).fr (by omega) fun id len e _ => ?_
            have hid := h1.vid id (by simp [vid, e])
            exact h2.out _ id (by omega)
          · exact (h2.own _).mono (by omega)
        · rw [List.flatMap_append, List.nodup_append]
          refine ⟨hnd, ?_, fun a ha b hb => ?_⟩
          · simp only [ids, List.flatMap_cons, List.flatMap_nil, List.append_nil, vid, List.nil_append]
            rcases h1 with ⟨_, rfl, _⟩ | ⟨_, rfl, _⟩ <;> rcases h2 with ⟨_, rfl, _⟩ | ⟨_, rfl, _⟩ <;> simp [vid] <;> omega
          · have ha := hlt2 a ha
            simp only [ids, List.flatMap_cons, List.flatMap_nil, List.append_nil, vid, List.nil_append, List.mem_append] at hb
            rcases hb with hb | hb
            · have := h1.vid b hb; omega
            · have := h2.vid b hb; omega
        · intro r hr id hid
          rcases List.mem_append.1 hr with h | h
          · exact hst r h id hid
          · simp only [List.mem_singleton] at h
            subst h
            simp only [List.mem_cons, List.not_mem_nil, or_false] at hid
            have z1 : ∀ {m k : Nat} {v : V} {rows : List (List V)} {us : Ups}, OwnU m v k rows us → V.sl id 0 0 ≠ v := fun h e => by
              rcases h with ⟨_, h, _⟩ | ⟨hn, h, _⟩
              · rw [h] at e; cases e
              · rw [h] at e
                injection e with _ _ e3
                exact hn (List.eq_nil_of_length_eq_zero e3.symm)
            rcases hid with e | e | e
            · cases e
            · exact z1 h1 e
            · exact z1 h2 e
        · intro id hid
          rw [List.flatMap_append] at hid
          rcases List.mem_append.1 hid with h | h
          · exact hlo id h
          · simp only [ids, List.flatMap_cons, List.flatMap_nil, List.append_nil, vid, List.nil_append, List.mem_append] at h
            rcases h with h | h
            · have := h1.vid id h; omega
            · have := h2.vid id h; omega
      refine ⟨by omega, hc1.2, by omega, hc2.2, ⟨by omega, ?_⟩, by omega⟩
      refine key _ ?_ ?_ _ ?_
      · intro j hj; rw [updO, if_neg hj, updO, if_neg hj]
      · exact updO_s _ _ _
      · omega
    · simp at hge
      have hil : i = l.length := by omega
      rw [hil, List.take_length] at hO
      rw [hil, List.drop_eq_nil_of_le (Nat.le_refl _), List.map_nil, List.append_nil] at hrows
      subst hrows
      exact hC _ ob2 _ rows (by omega) (hO.fr (by omega) fun _ _ => rfl) hst hnd (fun id hid => by have := hlo id hid; omega) (.inr ⟨fun e => hne (by rw [e] at hdl; simp at hdl; have : l = [] := List.eq_nil_of_length_eq_zero (by omega); rw [this]; rfl), N, none, by omega, by rw [hdl, hil], hoN⟩) (fun id len e => by cases e; omega) hfr
end Go.Proofs.YtbojpedklnmidaaGreat.D
end
section
set_option linter.unusedVariables false
set_option linter.unusedSimpArgs false
set_option linter.constructorNameAsVariable false
set_option maxRecDepth 100000

/- Tables behind an operation. No condition. -/
namespace Go.Proofs.YtbojpedklnmidaaGreat.D
open Go Go.Proofs
open Nat (reduceAdd reduceEqDiff reduceLeDiff)
open Int (reduceLE reduceEq reduceNeg reduceToNat)
@[reducible] def zCel : Cel := ⟨⟨0, 0, noS⟩, ⟨0, 0, 0⟩, ⟨0, 0⟩⟩
def posK (l : List Rwx) (key : ByteArray) : Nat := (l.takeWhile fun r => decide (cmpB r.key key < 0)).length
def isK (l : List Rwx) (key : ByteArray) : Bool := decide (posK l key < l.length) && decide (cmpB (gN l (posK l key)).key key = 0)
def withK (cols : List Int) (l : List Rwx) (key : ByteArray) : List Rwx := if isK l key then l else l.take (posK l key) ++ ⟨key, [], List.replicate cols.length zCel⟩ :: l.drop (posK l key)
def chgT (r : Rwx) (x : Opz) : Rwx := if x.kind = 1 then ⟨r.key, insD r.dots x.dot, wrs r.cells x.vals x⟩
  else if x.kind = 2 then ⟨r.key, r.dots, r.cells.set x.col.toNat (wrCel (gN r.cells x.col.toNat) (gN x.vals 0) x)⟩
  else if x.kind = 3 then ⟨r.key, r.dots.filter fun d => !inD x.dots d, r.cells⟩ else r
def tab0 (x : Opz) : Opz := { x with table := 0 }
def applyT (cols : List Int) (l : List Rwx) (x : Opz) : List Rwx × List Vl × List Vl × Int :=
  if checkT cols l ≠ 0 then ([], [], [], checkT cols l)
  else if opE cols (tab0 x) ≠ 0 then ([], [], [], 1)
  else ((withK cols l x.key).set (posK l x.key) (chgT (gN (withK cols l x.key) (posK l x.key)) x), seeT (gN (withK cols l x.key) (posK l x.key)), seeT (chgT (gN (withK cols l x.key) (posK l x.key)) x), 0)
theorem app1_ok (r : Rwf) (key : ByteArray) : FnB Tryz.prog 39 [.ag (rwF r), .c (.string key)] (vi (cmpB r.r.key key)) := by
  refine fnB_intro cf39 (by simp) ?_
  simp +contextual (maxSteps := 1000000) only [go_sem, ints, intRows, reduceAdd, Nat.reduceBEq, reduceEqDiff, reduceLeDiff, Nat.reduceLT, reduceIte, reduceLE, Int.reduceLT, reduceEq, reduceNeg, reduceToNat, ops, vals, dots, c39]
  first | refine caS_i (sCompare_ok r.r.key key) trivial ?_ | refine caD_i (sCompare_ok r.r.key key) trivial ?_ | refine gC_i (fun _ => sCompare_ok r.r.key key) trivial ?_ | refine gCD_i (fun _ => sCompare_ok r.r.key key) trivial ?_ | refine caE_i (sCompare_ok r.r.key key) trivial ?_
  simp +contextual (maxSteps := 1000000) only [go_sem, ints, intRows, reduceAdd, Nat.reduceBEq, reduceEqDiff, reduceLeDiff, Nat.reduceLT, reduceIte, reduceLE, Int.reduceLT, reduceEq, reduceNeg, reduceToNat, ops, vals, dots]
theorem OwnE.strict {n k : Nat} {ob : OB} {v : V} {rows : List (List V)} (h : OwnE n ob v k rows) (hs : ∀ id, v ≠ .sl id 0 0) : Own n ob v k rows := by
  rcases h with h | ⟨id, cap, hid, h2, h3⟩
  · exact .inl h
  · exact .inr ⟨fun e => hs id (by rw [h2, e]; rfl), id, cap, hid, h2, h3⟩
def GoodC (R : Rwx) (x : Opz) : Prop := x.vals.length ≤ maxLen ∧ x.dots.length ≤ maxLen ∧ R.dots.length + 1 ≤ maxLen ∧ ((x.kind = 1 ∧ x.vals.length ≤ R.cells.length ∧ ∀ i, posD R.dots x.dot ≤ i → i < R.dots.length → 0 ≤ cmpD (gN R.dots i) x.dot) ∨ (x.kind = 2 ∧ 0 ≤ x.col ∧ x.col < R.cells.length ∧ 0 < x.vals.length) ∨ x.kind = 3)
theorem change_ok {N k nid n : Nat} {capN : Option Nat} {rows : List (List V)} {r : List V} {R : Rwx} {x : Opz} {ob : OB} {C : V → OB → Nat → Prop} (hN : ob N = some ⟨3, rows, capN⟩) (hr : rows[k]? = some r) (hR : RowO ob n r R) (hst : ∀ id, V.sl id 0 0 ∉ r) (hn : n ≤ nid) (hNn : N < nid) (hg : GoodC R x)
    (hC : ∀ r' ob' n', nid ≤ n' → RowO ob' n' r' (chgT R x) → ob' N = some ⟨3, rows.set k r', capN⟩ → (∀ j, j < nid → j ≠ N → j ∉ ids r → ob' j = ob j) → C (.tp []) ob' n') :
    FnS Tryz.prog 43 [.pt N k 0, .ag (opZ x)] ob nid C := by
  obtain ⟨dv, cv, rfl, hd, hc⟩ := hR
  obtain ⟨g1, g2, g3, hk⟩ := hg
  have nin : ∀ {j : Nat}, j ∉ ids [V.c (.string R.key), dv, cv] → (∀ len, dv ≠ .sl j 0 len) ∧ (∀ len, cv ≠ .sl j 0 len) := fun {j} hj => by
    refine ⟨fun len e => hj ?_, fun len e => hj ?_⟩ <;> simp [ids, vid, e]
  rcases hk with ⟨hk, k1, k2⟩ | ⟨hk, k1, k2, k3⟩ | hk
  · have hc' : chgT R x = ⟨R.key, insD R.dots x.dot, wrs R.cells x.vals x⟩ := by rw [chgT, if_pos hk]
    rw [hc'] at hC
    exact chgIns_ok hk hN hr (hd.strict fun id e => hst id (by simp [e])) hc hn hNn k1 g1 g3 k2 fun dv' ob' n' h1 h2 h3 h4 h5 h6 => hC _ ob' n' h1 ⟨dv', cv, rfl, h3, h4⟩ h5 fun j a b c => h6 j a b (nin c).1 (nin c).2
  · have hc' : chgT R x = ⟨R.key, R.dots, R.cells.set x.col.toNat (wrCel (gN R.cells x.col.toNat) (gN x.vals 0) x)⟩ := by rw [chgT, if_neg (by omega), if_pos hk]
    rw [hc'] at hC
    have hset : rows.set k [V.c (.string R.key), dv, cv] = rows := by
      obtain ⟨h1, h2'⟩ := List.getElem?_eq_some_iff.1 hr
      rw [← h2', List.set_getElem_self]
    refine chgUpd_ok (c := x.col.toNat) hk hN hr hc hn hNn (by omega) (by omega) k3 fun ob' n' h1 h3 h5 h6 => hC _ ob' n' h1 ⟨dv, cv, rfl, hd.fr (by omega) fun id len e hid => h6 id (by omega) fun len2 e2 => ?_, h3⟩ (by rw [h5, hN, hset]) fun j a b c => h6 j a (nin c).2
    rcases hc with ⟨_, h⟩ | ⟨id', cap', a1, a2, a3⟩
    · rw [h] at e2; cases e2
    · rw [a2] at e2; cases e2
      exact hd.ne a3 (by omega) e
  · have hc' : chgT R x = ⟨R.key, R.dots.filter fun d => !inD x.dots d, R.cells⟩ := by rw [chgT, if_neg (by omega), if_neg (by omega), if_pos hk]
    rw [hc'] at hC
    refine chgDel_ok hk hN hr hd hn hNn g2 (by omega) fun dv' ob' n' h1 h2 h3 h5 h6 => hC _ ob' n' h1 ⟨dv', cv, rfl, h3, hc.fr (by omega) fun id len e hid => h6 id (by omega) (fun e2 => ?_) fun len2 e2 => ?_⟩ h5 fun j a b c => h6 j a b (nin c).1
    · exact hc.ne hN (by omega) (by rw [e, e2])
    · rcases hc with ⟨_, h⟩ | ⟨id', cap', a1, a2, a3⟩
      · rw [h] at e; cases e
      · rw [a2] at e; cases e
        exact hd.ne a3 (by omega) e2
theorem row_res {ob : OB} {n : Nat} {r : List V} {R : Rwx} (h : RowO ob n r R) : ∃ F : Rwf, F.r = R ∧ ∀ m, r.map (resV ob (m + 3)) = rwF F := by
  obtain ⟨dv, cv, rfl, hd, hc⟩ := h
  obtain ⟨b1, e1⟩ := own_res2 hd
  obtain ⟨b2, e2⟩ := own_res8 hc
  refine ⟨⟨R, b1, b2⟩, rfl, fun m => ?_⟩
  simp only [List.map_cons, List.map_nil, e1, e2, rwF]
  rfl
theorem rows_res {ob : OB} {n : Nat} : ∀ {rows : List (List V)} {L : List Rwx}, RowsO ob n rows L → ∃ F : List Rwf, F.map (·.r) = L ∧ ∀ m, rows.map (fun r => r.map (resV ob (m + 3))) = F.map rwF
  | [], [], _ => ⟨[], rfl, fun _ => rfl⟩
  | r :: rs, R :: Rs, h => by
    obtain ⟨F, h1, h2⟩ := row_res h.1
    obtain ⟨Fs, h3, h4⟩ := rows_res h.2
    exact ⟨F :: Fs, by simp [h1, h3], fun m => by simp [h2, h4]⟩
  | [], _ :: _, h => h.elim
  | _ :: _, [], h => h.elim
theorem row_g {ob : OB} {n N : Nat} {r : List V} {R : Rwx} (h : RowO ob n r R) {k : Nat} {rw_ : List (List V)} {c : Option Nat} (hN : ob N = some ⟨3, rw_, c⟩) (m : Nat) : r.map (gV (kill ob N) (m + 3)) = rwV R := by
  obtain ⟨dv, cv, rfl, hd, hc⟩ := h
  have g2 : ∀ {k : Nat} {v : V} {l : List (List V)}, OwnE n ob v k l → k ≠ 3 → (∀ x ∈ l, x.map (gV (kill ob N) (m + 2)) = x) → gV (kill ob N) (m + 3) v = .im .b l := fun {k v l} ho hk hl => by
    rcases ho with ⟨rfl, rfl⟩ | ⟨id, cap, hid, rfl, hob⟩
    · rfl
    · have hne : id ≠ N := fun e => by rw [e, hN] at hob; injection hob with hob; injection hob with hob; exact hk hob.symm
      have hk2 : kill ob N id = some ⟨k, l, cap⟩ := by simp [kill, hne, hob]
      simp only [gV, rowsOf, hk2, Option.bind_some]
      rw [if_pos (by simp)]
      simp only [List.drop_zero, List.take_length]
      congr 1
      rw [List.map_congr_left hl]; simp
  simp only [List.map_cons, List.map_nil]
  rw [g2 hd (by omega) (fun x hx => by obtain ⟨d, _, rfl⟩ := List.mem_map.1 hx; rfl), g2 hc (by omega) (fun x hx => by obtain ⟨d, _, rfl⟩ := List.mem_map.1 hx; rfl)]
  rfl
theorem rows_g {ob : OB} {n N : Nat} {rw_ : List (List V)} {c : Option Nat} (hN : ob N = some ⟨3, rw_, c⟩) (m : Nat) : ∀ {rows : List (List V)} {L : List Rwx}, RowsO ob n rows L → rows.map (fun r => r.map (gV (kill ob N) (m + 3))) = L.map rwV
  | [], [], _ => rfl
  | r :: rs, R :: Rs, h => by
    simp only [List.map_cons]
    rw [row_g (k := 0) h.1 hN m, rows_g hN m h.2]
  | [], _ :: _, h => h.elim
  | _ :: _, [], h => h.elim
end Go.Proofs.YtbojpedklnmidaaGreat.D
end
section
set_option linter.unusedVariables false
set_option linter.unusedSimpArgs false
set_option linter.constructorNameAsVariable false
set_option maxRecDepth 100000

/- Tables behind an operation: plain facts. No condition. -/
namespace Go.Proofs.YtbojpedklnmidaaGreat.D
open Go Go.Proofs
open Nat (reduceAdd reduceEqDiff reduceLeDiff)
open Int (reduceLE reduceEq reduceNeg reduceToNat)
theorem tw_le {α : Type} {p : α → Bool} (l : List α) : (l.takeWhile p).length ≤ l.length := (List.takeWhile_sublist _).length_le
theorem tw_stop {α : Type} [Inhabited α] {p : α → Bool} : ∀ {l : List α}, (l.takeWhile p).length < l.length → p (gN l (l.takeWhile p).length) = false
  | [], h => by simp at h
  | a :: l, h => by
    rw [List.takeWhile_cons] at h ⊢
    split at h
    · rename_i ha
      rw [if_pos ha]
      simp only [List.length_cons] at h ⊢
      have := tw_stop (p := p) (l := l) (by omega)
      exact this
    · rename_i ha
      rw [if_neg ha]
      show p a = false
      simpa using ha
theorem tw_at {α : Type} [Inhabited α] {p : α → Bool} {l : List α} {i : Nat} (h : i < (l.takeWhile p).length) : p (gN l i) = true := by
  have h1 := tw_le (p := p) l
  have h3 := tw_all _ (List.getElem_mem h)
  have h4 : (l.takeWhile p)[i]'h = gN l i := by
    rw [gN_eq (by omega)]
    exact (List.takeWhile_prefix _).getElem h
  rw [h4] at h3; exact h3
theorem tw_up {α : Type} [Inhabited α] {p : α → Bool} {l : List α} (hd : ∀ i, 0 < i → i < l.length → p (gN l i) = true → p (gN l (i - 1)) = true) {i : Nat} (h1 : (l.takeWhile p).length ≤ i) (h2 : i < l.length) : p (gN l i) = false := by
  cases hp : p (gN l i) with
  | false => rfl
  | true =>
    exfalso
    have down : ∀ k, k ≤ i → p (gN l (i - k)) = true := by
      intro k
      induction k with
      | zero => intro _; exact hp
      | succ k ih =>
        intro hk
        have := hd (i - k) (by omega) (by omega) (ih (by omega))
        have e : i - (k + 1) = i - k - 1 := by omega
        rw [e]; exact this
    have := down (i - (l.takeWhile p).length) (by omega)
    have e : i - (i - (l.takeWhile p).length) = (l.takeWhile p).length := by omega
    rw [e] at this
    have h5 := tw_stop (p := p) (l := l) (by omega)
    rw [h5] at this
    cases this
theorem chk_0 {cols : List Int} {l : List Rwx} (h : checkT cols l = 0) : formE cols = 0 ∧ rowsB cols l = true := by
  unfold checkT at h
  split at h
  · cases h
  · rename_i hf
    split at h
    · rename_i hr; exact ⟨by simpa using hf, hr⟩
    · cases h
theorem form_0 {cols : List Int} (h : formE cols = 0) : 1 ≤ cols.length ∧ cols.length ≤ 4 ∧ ∀ c ∈ cols, 2 ≤ c ∧ c ≤ 4 := by
  unfold formE at h
  split at h
  · cases h
  · split at h
    · cases h
    · rename_i h1 h2
      refine ⟨by omega, by omega, fun c hc => ?_⟩
      simp at h2
      have := h2 c hc
      omega
theorem rows_at {cols : List Int} {l : List Rwx} (h : rowsB cols l = true) {i : Nat} (hi : i < l.length) : rightB cols (gN l i) = true ∧ (0 < i → keyLt (gN l (i - 1)).key (gN l i).key = true) := by
  unfold rowsB at h; exact (of_decide_eq_true h) i hi
structure Right (cols : List Int) (r : Rwx) : Prop where
  key : keyB r.key = true
  dots : dotsB r.dots = true
  cells : allG cellB r.cells cols = true
  there : r.dots.length = 0 ∨ ∀ c ∈ r.cells, writ c = true
theorem right_iff {cols : List Int} {r : Rwx} : rightB cols r = true ↔ Right cols r := by
  unfold rightB
  rw [Bool.and_eq_true, Bool.and_eq_true, Bool.and_eq_true, Bool.or_eq_true]
  constructor
  · rintro ⟨⟨⟨h1, h2⟩, h3⟩, h4⟩
    refine ⟨h1, h2, h3, ?_⟩
    rcases h4 with h4 | h4
    · exact .inl (of_decide_eq_true h4)
    · right; intro c hc; simpa using (by simpa using h4 : ∀ x ∈ r.cells, writ x = true) c hc
  · rintro ⟨h1, h2, h3, h4⟩
    refine ⟨⟨⟨h1, h2⟩, h3⟩, ?_⟩
    rcases h4 with h4 | h4
    · exact .inl (decide_eq_true h4)
    · right; simpa using h4
theorem Right.len {cols : List Int} {r : Rwx} (h : Right cols r) : r.cells.length = cols.length := by
  have := h.cells; unfold allG at this; exact (of_decide_eq_true this).1
theorem dots_up {ds : List Dt} {d : Dt} (h : dotsB ds = true) {i : Nat} (h1 : posD ds d ≤ i) (h2 : i < ds.length) : 0 ≤ cmpD (gN ds i) d := by
  have := tw_up (p := fun a => decide (cmpD a d < 0)) (l := ds) (fun i hi hlt hp => ?_) h1 h2
  · simpa using this
  · have hl := ((of_decide_eq_true h) i hlt).2 hi
    rw [cmpD_less] at hp ⊢
    unfold lessD at hl hp ⊢
    simp at hl hp ⊢
    omega
theorem keys_up {cols : List Int} {l : List Rwx} {key : ByteArray} (h : rowsB cols l = true) {i : Nat} (h1 : posK l key ≤ i) (h2 : i < l.length) : 0 ≤ cmpB (gN l i).key key := by
  have := tw_up (p := fun r => decide (cmpB r.key key < 0)) (l := l) (fun i hi hlt hp => ?_) h1 h2
  · simpa using this
  · have hl := (rows_at h hlt).2 hi
    have hp : cmpB (gN l i).key key < 0 := by simpa using hp
    have : keyLt (gN l i).key key = true := by rcases cmpB_r (gN l i).key key with ⟨e, h⟩ | ⟨e, h⟩ | ⟨e, h⟩ <;> first | exact h | omega
    have h3 := keyLt_trans hl this
    have : cmpB (gN l (i - 1)).key key < 0 := by
      rcases cmpB_r (gN l (i - 1)).key key with ⟨e, h⟩ | ⟨e, h⟩ | ⟨e, h⟩
      · omega
      · rw [h] at h3; rw [keyLt_irr] at h3; cases h3
      · have := keyLt_trans h3 h; rw [keyLt_irr] at this; cases this
    simpa using this
theorem posK_le (l : List Rwx) (key : ByteArray) : posK l key ≤ l.length := tw_le l
theorem posK_lt {l : List Rwx} {key : ByteArray} {i : Nat} (h : i < posK l key) : cmpB (gN l i).key key < 0 := by simpa using tw_at h
theorem withK_lt (cols : List Int) (l : List Rwx) (key : ByteArray) : posK l key < (withK cols l key).length := by
  unfold withK
  have := posK_le l key
  split
  · rename_i h; unfold isK at h; simp at h; exact h.1
  · simp; omega
theorem withK_at (cols : List Int) (l : List Rwx) (key : ByteArray) : (isK l key = true ∧ withK cols l key = l) ∨ (isK l key = false ∧ withK cols l key = l.take (posK l key) ++ ⟨key, [], List.replicate cols.length zCel⟩ :: l.drop (posK l key) ∧ gN (withK cols l key) (posK l key) = ⟨key, [], List.replicate cols.length zCel⟩) := by
  have := posK_le l key
  cases h : isK l key with
  | true => left; exact ⟨rfl, by rw [withK, if_pos h]⟩
  | false =>
    right
    have e : withK cols l key = l.take (posK l key) ++ ⟨key, [], List.replicate cols.length zCel⟩ :: l.drop (posK l key) := by rw [withK, if_neg (by rw [h]; simp)]
    refine ⟨rfl, e, ?_⟩
    rw [gN_eq (withK_lt _ _ _)]
    simp only [e]
    rw [List.getElem_append_right (by simp; omega)]
    simp [Nat.min_eq_left this]
theorem opE_0 {cols : List Int} {x : Opz} (h : opE cols x = 0) : formE cols = 0 ∧ 1 ≤ x.deps.length ∧ x.deps.length ≤ 5 ∧ rightO x.deps.length cols x = true := by
  unfold opE at h
  split at h
  · rename_i hf; exact absurd h hf
  · rename_i hf
    split at h
    · cases h
    · rename_i h1
      have h1 := h1
      refine ⟨by simpa using hf, by omega, by omega, ?_⟩
      cases hr : rightO x.deps.length cols x with
      | true => rfl
      | false => exact absurd (.inr (.inr hr)) h1
structure OpR_ (n : Nat) (cols : List Int) (x : Opz) : Prop where
  whole : wholeB n x = true
  key : keyB x.key = true
  kind : (x.kind = 1 ∧ smallBs x.vals cols = true ∧ x.col = 0 ∧ x.dots.length = 0) ∨ (x.kind = 2 ∧ 0 ≤ x.col ∧ x.col < cols.length ∧ smallBs x.vals [gN cols x.col.toNat] = true ∧ x.dots.length = 0) ∨ (x.kind = 3 ∧ 1 ≤ x.dots.length ∧ x.dots.length ≤ 64 ∧ hadB x.deps x.dots = true ∧ x.col = 0 ∧ x.vals.length = 0)
theorem rightO_1 {n : Nat} {cols : List Int} {x : Opz} (h : rightO n cols x = true) : OpR_ n cols x := by
  unfold rightO at h
  rw [Bool.and_eq_true, Bool.and_eq_true, Bool.and_eq_true] at h
  obtain ⟨⟨⟨h1, h2⟩, h3⟩, h4⟩ := h
  refine ⟨h1, h3, ?_⟩
  split at h4
  · rename_i hk
    simp only [Bool.and_eq_true, decide_eq_true_eq] at h4
    exact .inl ⟨hk, h4.1.1, h4.1.2, h4.2⟩
  · split at h4
    · rename_i hk
      simp only [Bool.and_eq_true, decide_eq_true_eq] at h4
      exact .inr (.inl ⟨hk, h4.1.1.1, h4.1.1.2, h4.1.2, h4.2⟩)
    · split at h4
      · rename_i hk
        simp only [Bool.and_eq_true, decide_eq_true_eq] at h4
        exact .inr (.inr ⟨hk, h4.1.1.1.1, h4.1.1.1.2, h4.1.1.2, h4.1.2, h4.2⟩)
      · cases h4
theorem small_len {v : List Vl} {cols : List Int} (h : smallBs v cols = true) : v.length = cols.length := by
  unfold smallBs allG at h
  simp only [Bool.and_eq_true, decide_eq_true_eq] at h
  exact h.1.1
theorem goodC {cols : List Int} {l : List Rwx} {x : Opz} (h : checkT cols l = 0) (ho : opE cols (tab0 x) = 0) (hd : ∀ r ∈ l, r.dots.length + 1 ≤ maxLen) : GoodC (gN (withK cols l x.key) (posK l x.key)) x ∧ (gN (withK cols l x.key) (posK l x.key)).cells.length = cols.length := by
  obtain ⟨hf, hr⟩ := chk_0 h
  obtain ⟨f1, f2, f3⟩ := form_0 hf
  obtain ⟨_, o1, o2, o3⟩ := opE_0 ho
  have o := rightO_1 o3
  have hR : (gN (withK cols l x.key) (posK l x.key)).cells.length = cols.length ∧ (gN (withK cols l x.key) (posK l x.key)).dots.length + 1 ≤ maxLen ∧ dotsB (gN (withK cols l x.key) (posK l x.key)).dots = true := by
    rcases withK_at cols l x.key with ⟨h1, h2⟩ | ⟨h1, h2, h3⟩
    · have hlt : posK l x.key < l.length := by have := withK_lt cols l x.key; rw [h2] at this; exact this
      have hri := right_iff.1 (rows_at hr hlt).1
      rw [h2]
      exact ⟨hri.len, hd _ (gN_mem hlt), hri.dots⟩
    · rw [h3]
      refine ⟨by simp, by simp [maxLen], rfl⟩
  refine ⟨⟨?_, ?_, hR.2.1, ?_⟩, hR.1⟩
  · have : x.vals.length ≤ 4 := by
      rcases o.kind with ⟨_, k, _⟩ | ⟨_, _, _, k, _⟩ | ⟨_, _, _, _, _, k⟩
      · have := small_len k; simp [tab0] at this; omega
      · have := small_len k; simp [tab0] at this; omega
      · simp [tab0] at k; simp [k]
    simp [maxLen]; omega
  · have : x.dots.length ≤ 64 := by
      rcases o.kind with ⟨_, _, _, k⟩ | ⟨_, _, _, _, k⟩ | ⟨_, _, k, _⟩ <;> simp [tab0] at k <;> first | omega | simp [k]
    simp [maxLen]; omega
  · rcases o.kind with ⟨k1, k2, _⟩ | ⟨k1, k2, k3, k4, _⟩ | ⟨k1, _⟩
    · refine .inl ⟨k1, ?_, fun i a b => dots_up hR.2.2 a b⟩
      have := small_len k2; simp [tab0] at this; omega
    · refine .inr (.inl ⟨k1, k2, ?_, ?_⟩)
      · rw [hR.1]; exact k3
      · have := small_len k4; simp [tab0] at this; omega
    · exact .inr (.inr k1)
end Go.Proofs.YtbojpedklnmidaaGreat.D
end
