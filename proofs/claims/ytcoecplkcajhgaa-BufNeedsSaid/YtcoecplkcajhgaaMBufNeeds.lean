/- BufNeeds, packed. No condition beyond the statement's own. -/
import Derived.Test.YtcoecplkcajhgaaMBufNeedsc
import Derived.Test.YtcoecplkcajhgaaRows
import Derived.WalkKit
import Derived.ProofKit
import Derived.OpenShut
import Derived.ShutString
import Derived.ChangeOld
import Derived.Below
import Derived.SizedLaws
section
set_option linter.unusedVariables false
set_option linter.unusedSimpArgs false
set_option maxRecDepth 100000
set_option linter.constructorNameAsVariable false

/- Comparing operations; which are not played. No condition. -/
namespace Go.Proofs.Ytcoecplkcajhgaa.D
open Go Go.Proofs

@[go_sem] theorem so_eql (a b : ByteArray) : strsOp .eql a b = some (.bool (decide (a.toList = b.toList))) := (rfl)
@[go_sem] theorem so_neq (a b : ByteArray) : strsOp .neq a b = some (.bool (!decide (a.toList = b.toList))) := (rfl)

@[go_sem] theorem vlV_len (x : Vl) : (vlV x).length = 3 := (rfl)
@[go_sem] theorem vlV_d1 (x : Vl) : (vlV x).drop 1 = [vi x.i, .c (.string x.s)] := (rfl)
@[go_sem] theorem vlV_d2 (x : Vl) : (vlV x).drop 2 = [.c (.string x.s)] := (rfl)
@[go_sem] theorem vlV_t3 (x : Vl) : (vlV x).take 3 = vlV x := (rfl)
@[go_sem] theorem dotV_len (x : Dt) : (dotV x).length = 2 := (rfl)
@[go_sem] theorem dotV_t2 (x : Dt) : (dotV x).take 2 = dotV x := (rfl)
def eqV (a b : Vl) : Bool := decide (a.k = b.k) && decide (a.i = b.i) && decide (a.s.toList = b.s.toList)
def eqS3 (a b : St3) : Bool := decide (a.p = b.p) && decide (a.l = b.l) && decide (a.q = b.q)
def sameL {α : Type} (e : α → α → Bool) : List α → List α → Bool
  | [], [] => true
  | x :: a, y :: b => e x y && sameL e a b
  | _, _ => false
def eqO (a b : Opx) : Bool := sameD a.dot b.dot && decide (a.deps = b.deps) && eqS3 a.st b.st && decide (a.kind = b.kind) && decide (a.table = b.table) && decide (a.key.toList = b.key.toList) && decide (a.col = b.col) && sameL eqV a.vals b.vals && sameL sameD a.dots b.dots

theorem sameL_iff {α : Type} [Inhabited α] {e : α → α → Bool} : ∀ {a b : List α}, sameL e a b = true ↔ a.length = b.length ∧ ∀ i, i < a.length → e (gN a i) (gN b i) = true
  | [], [] => by simp [sameL]
  | [], y :: b => by simp [sameL]
  | x :: a, [] => by simp [sameL]
  | x :: a, y :: b => by
    simp only [sameL, Bool.and_eq_true, sameL_iff (a := a) (b := b), List.length_cons]
    constructor
    · rintro ⟨h1, h2, h3⟩
      refine ⟨by omega, fun i hi => ?_⟩
      cases i with
      | zero => simpa [gN] using h1
      | succ i => have := h3 i (by omega); simpa [gN] using this
    · rintro ⟨h1, h2⟩
      refine ⟨by have := h2 0 (by omega); simpa [gN] using this, by omega, fun i hi => ?_⟩
      have := h2 (i + 1) (by omega); simpa [gN] using this
theorem toList_inj {a b : ByteArray} (h : a.toList = b.toList) : a = b := by
  have h2 : a.data.toList = b.data.toList := by
    rw [ByteArray.toList_eq, ByteArray.toList_eq] at h
    exact h
  cases a; cases b; simp at h2; simp [h2]
theorem sameL_eq {α : Type} {e : α → α → Bool} (he : ∀ x y, e x y = true → x = y) : ∀ {a b : List α}, sameL e a b = true → a = b
  | [], [], _ => rfl
  | x :: a, y :: b, h => by
    simp only [sameL, Bool.and_eq_true] at h
    rw [he x y h.1, sameL_eq he h.2]
theorem sameL_rfl {α : Type} {e : α → α → Bool} (he : ∀ x, e x x = true) : ∀ a : List α, sameL e a a = true
  | [] => rfl
  | x :: a => by simp [sameL, he, sameL_rfl he a]
theorem eqV_eq (x y : Vl) (h : eqV x y = true) : x = y := by
  simp [eqV] at h
  obtain ⟨⟨h1, h2⟩, h3⟩ := h
  cases x; cases y; simp at h1 h2 h3 ⊢; exact ⟨h1, h2, toList_inj h3⟩
theorem sameD_eq (x y : Dt) (h : sameD x y = true) : x = y := by
  simp [sameD] at h
  cases x; cases y; simp at h ⊢; exact h
theorem sameD_iff (x y : Dt) : sameD x y = true ↔ x = y := ⟨sameD_eq x y, fun h => by subst h; simp [sameD]⟩
theorem eqO_eq (x y : Opx) (h : eqO x y = true) : x = y := by
  simp only [eqO, Bool.and_eq_true, decide_eq_true_eq] at h
  obtain ⟨⟨⟨⟨⟨⟨⟨⟨h1, h2⟩, h3⟩, h4⟩, h5⟩, h6⟩, h7⟩, h8⟩, h9⟩ := h
  have e3 : x.st = y.st := by
    simp [eqS3] at h3
    rcases x with ⟨_, _, ⟨_, _, _⟩, _, _, _, _, _, _⟩; rcases y with ⟨_, _, ⟨_, _, _⟩, _, _, _, _, _, _⟩; simp at h3 ⊢; exact ⟨h3.1.1, h3.1.2, h3.2⟩
  have e1 := sameD_eq _ _ h1
  have e6 := toList_inj h6
  have e8 := sameL_eq eqV_eq h8
  have e9 := sameL_eq sameD_eq h9
  cases x; cases y; simp at *; exact ⟨e1, h2, e3, h4, h5, e6, h7, e8, e9⟩
theorem eqO_rfl (x : Opx) : eqO x x = true := by
  simp only [eqO, Bool.and_eq_true, decide_eq_true_eq]
  refine ⟨⟨⟨⟨⟨⟨⟨⟨?_, trivial⟩, ?_⟩, trivial⟩, trivial⟩, trivial⟩, trivial⟩, sameL_rfl (fun x => by simp [eqV]) _⟩, sameL_rfl (fun x => by simp [sameD]) _⟩
  · simp [sameD]
  · simp [eqS3]

theorem KValue_ok (a b : Vl) : FnB Try.prog 53 [.ag (vlV a), .ag (vlV b)] (vb (eqV a b)) := by
  refine fnB_intro cf53 (by simp) ?_
  simp (config := {contextual := true, maxSteps := 1000000}) only [go_sem, ints, intRows, iv_c, Nat.reduceAdd, Nat.reduceBEq, Nat.reduceEqDiff, Nat.reduceLeDiff, Nat.reduceLT, reduceIte, Nat.le_refl, true_or, or_true, and_self, Int.reduceLE, Int.reduceLT, Int.reduceEq, Int.reduceNeg, Int.natCast_nonneg, Int.reduceToNat, ops, vals, dots, c53, vlV]
  rfl
theorem KDot_ok (a b : Dt) : FnB Try.prog 44 [.ag (dotV a), .ag (dotV b)] (vb (sameD a b)) := by
  refine fnB_intro cf44 (by simp) ?_
  simp (config := {contextual := true, maxSteps := 1000000}) only [go_sem, ints, intRows, iv_c, Nat.reduceAdd, Nat.reduceBEq, Nat.reduceEqDiff, Nat.reduceLeDiff, Nat.reduceLT, reduceIte, Nat.le_refl, true_or, or_true, and_self, Int.reduceLE, Int.reduceLT, Int.reduceEq, Int.reduceNeg, Int.natCast_nonneg, Int.reduceToNat, ops, vals, dots, c44, dotV]
  simp [sameD]
def stV (s : St3) : List V := [vi s.p, vi s.l, vi s.q]
theorem KStamp_ok (a b : St3) : FnB Try.prog 45 [.ag (stV a), .ag (stV b)] (vb (eqS3 a b)) := by
  refine fnB_intro cf45 (by simp) ?_
  simp (config := {contextual := true, maxSteps := 1000000}) only [go_sem, ints, intRows, iv_c, Nat.reduceAdd, Nat.reduceBEq, Nat.reduceEqDiff, Nat.reduceLeDiff, Nat.reduceLT, reduceIte, Nat.le_refl, true_or, or_true, and_self, Int.reduceLE, Int.reduceLT, Int.reduceEq, Int.reduceNeg, Int.natCast_nonneg, Int.reduceToNat, ops, vals, dots, c45, stV]
  rfl
theorem sameL_no {α : Type} [Inhabited α] {e : α → α → Bool} {a b : List α} (h : a.length ≠ b.length) : sameL e a b = false := by
  cases hs : sameL e a b with
  | false => rfl
  | true => exact absurd (sameL_iff.1 hs).1 h
theorem sameL_bad {α : Type} [Inhabited α] {e : α → α → Bool} {a b : List α} {i : Nat} (hi : i < a.length) (h : e (gN a i) (gN b i) = false) : sameL e a b = false := by
  cases hs : sameL e a b with
  | false => rfl
  | true => have := (sameL_iff.1 hs).2 i hi; rw [h] at this; cases this
theorem KRow_ok {fl fm : Fl} (a b : List Vl) (ha : a.length ≤ maxLen) : FnB Try.prog 46 [vals fl a, vals fm b] (vb (sameL eqV a b)) := by
  unfold maxLen at ha
  refine fnB_intro cf46 (by simp) ?_
  simp (config := {contextual := true, maxSteps := 1000000}) only [go_sem, ints, intRows, iv_c, Nat.reduceAdd, Nat.reduceBEq, Nat.reduceEqDiff, Nat.reduceLeDiff, Nat.reduceLT, reduceIte, Nat.le_refl, true_or, or_true, and_self, Int.reduceLE, Int.reduceLT, Int.reduceEq, Int.reduceNeg, Int.natCast_nonneg, Int.reduceToNat, ops, vals, dots, c46]
  refine ⟨fun h => ?_, fun h => ?_⟩
  · simp at h; rw [sameL_no (by omega)]
  simp at h
  have hab : a.length = b.length := by omega
  refine wpC_lp (fun env ob n => env 0 = vals fl a ∧ env 1 = vals fm b ∧ ∃ i : Nat, env 5 = vi i ∧ i ≤ a.length ∧ ∀ j, j < i → eqV (gN a j) (gN b j) = true) (fun env ob n => (a.length - iv (env 5)).toNat) ?_ ?_
  · simp (config := {contextual := true, maxSteps := 1000000}) only [go_sem, ints, intRows, iv_c, Nat.reduceAdd, Nat.reduceBEq, Nat.reduceEqDiff, Nat.reduceLeDiff, Nat.reduceLT, reduceIte, Nat.le_refl, true_or, or_true, and_self, Int.reduceLE, Int.reduceLT, Int.reduceEq, Int.reduceNeg, Int.natCast_nonneg, Int.reduceToNat, ops, vals, dots]
    exact ⟨0, rfl, by omega, fun j hj => by omega⟩
  rintro env ob n ⟨h0, h1, i, h5, hi, he⟩
  simp (config := {contextual := true, maxSteps := 1000000}) only [go_sem, ints, intRows, iv_c, Nat.reduceAdd, Nat.reduceBEq, Nat.reduceEqDiff, Nat.reduceLeDiff, Nat.reduceLT, reduceIte, Nat.le_refl, true_or, or_true, and_self, Int.reduceLE, Int.reduceLT, Int.reduceEq, Int.reduceNeg, Int.natCast_nonneg, Int.reduceToNat, ops, vals, dots, h0, h1, h5]
  refine ⟨fun hlt => ?_, fun hge => ?_⟩
  · simp at hlt
    repeat (refine And.intro (by omega) ?_)
    first | refine caS_i (KValue_ok (gN a i) (gN b i)) trivial ?_ | refine caD_i (KValue_ok (gN a i) (gN b i)) trivial ?_ | refine gC_i (fun _ => KValue_ok (gN a i) (gN b i)) trivial ?_ | refine gCD_i (fun _ => KValue_ok (gN a i) (gN b i)) trivial ?_
    simp (config := {contextual := true, maxSteps := 1000000}) only [go_sem, ints, intRows, iv_c, Nat.reduceAdd, Nat.reduceBEq, Nat.reduceEqDiff, Nat.reduceLeDiff, Nat.reduceLT, reduceIte, Nat.le_refl, true_or, or_true, and_self, Int.reduceLE, Int.reduceLT, Int.reduceEq, Int.reduceNeg, Int.natCast_nonneg, Int.reduceToNat, ops, vals, dots, h0, h1, h5]
    refine ⟨fun hn => ?_, fun hy => ⟨⟨i + 1, ?_, by omega, fun j hj => ?_⟩, ?_⟩⟩
    · rw [sameL_bad hlt (by simpa using hn)]
    · rw [w64 (by omega)]; simp
    · by_cases hji : j = i
      · subst hji; simpa using hy
      · exact he j (by omega)
    · rw [w64 (by omega)]; omega
  · simp at hge
    have : sameL eqV a b = true := sameL_iff.2 ⟨hab, fun j hj => he j (by omega)⟩
    rw [this]
theorem KDots_ok {fl fm : Fl} (a b : List Dt) (ha : a.length ≤ maxLen) : FnB Try.prog 47 [dots fl a, dots fm b] (vb (sameL sameD a b)) := by
  unfold maxLen at ha
  refine fnB_intro cf47 (by simp) ?_
  simp (config := {contextual := true, maxSteps := 1000000}) only [go_sem, ints, intRows, iv_c, Nat.reduceAdd, Nat.reduceBEq, Nat.reduceEqDiff, Nat.reduceLeDiff, Nat.reduceLT, reduceIte, Nat.le_refl, true_or, or_true, and_self, Int.reduceLE, Int.reduceLT, Int.reduceEq, Int.reduceNeg, Int.natCast_nonneg, Int.reduceToNat, ops, vals, dots, c47]
  refine ⟨fun h => ?_, fun h => ?_⟩
  · simp at h; rw [sameL_no (by omega)]
  simp at h
  have hab : a.length = b.length := by omega
  refine wpC_lp (fun env ob n => env 0 = dots fl a ∧ env 1 = dots fm b ∧ ∃ i : Nat, env 5 = vi i ∧ i ≤ a.length ∧ ∀ j, j < i → sameD (gN a j) (gN b j) = true) (fun env ob n => (a.length - iv (env 5)).toNat) ?_ ?_
  · simp (config := {contextual := true, maxSteps := 1000000}) only [go_sem, ints, intRows, iv_c, Nat.reduceAdd, Nat.reduceBEq, Nat.reduceEqDiff, Nat.reduceLeDiff, Nat.reduceLT, reduceIte, Nat.le_refl, true_or, or_true, and_self, Int.reduceLE, Int.reduceLT, Int.reduceEq, Int.reduceNeg, Int.natCast_nonneg, Int.reduceToNat, ops, vals, dots]
    exact ⟨0, rfl, by omega, fun j hj => by omega⟩
  rintro env ob n ⟨h0, h1, i, h5, hi, he⟩
  simp (config := {contextual := true, maxSteps := 1000000}) only [go_sem, ints, intRows, iv_c, Nat.reduceAdd, Nat.reduceBEq, Nat.reduceEqDiff, Nat.reduceLeDiff, Nat.reduceLT, reduceIte, Nat.le_refl, true_or, or_true, and_self, Int.reduceLE, Int.reduceLT, Int.reduceEq, Int.reduceNeg, Int.natCast_nonneg, Int.reduceToNat, ops, vals, dots, h0, h1, h5]
  refine ⟨fun hlt => ?_, fun hge => ?_⟩
  · simp at hlt
    repeat (refine And.intro (by omega) ?_)
    first | refine caS_i (KDot_ok (gN a i) (gN b i)) trivial ?_ | refine caD_i (KDot_ok (gN a i) (gN b i)) trivial ?_ | refine gC_i (fun _ => KDot_ok (gN a i) (gN b i)) trivial ?_ | refine gCD_i (fun _ => KDot_ok (gN a i) (gN b i)) trivial ?_
    simp (config := {contextual := true, maxSteps := 1000000}) only [go_sem, ints, intRows, iv_c, Nat.reduceAdd, Nat.reduceBEq, Nat.reduceEqDiff, Nat.reduceLeDiff, Nat.reduceLT, reduceIte, Nat.le_refl, true_or, or_true, and_self, Int.reduceLE, Int.reduceLT, Int.reduceEq, Int.reduceNeg, Int.natCast_nonneg, Int.reduceToNat, ops, vals, dots, h0, h1, h5]
    refine ⟨fun hn => ?_, fun hy => ⟨⟨i + 1, ?_, by omega, fun j hj => ?_⟩, ?_⟩⟩
    · rw [sameL_bad hlt (by simpa using hn)]
    · rw [w64 (by omega)]; simp
    · by_cases hji : j = i
      · subst hji; simpa using hy
      · exact he j (by omega)
    · rw [w64 (by omega)]; omega
  · simp at hge
    have : sameL sameD a b = true := sameL_iff.2 ⟨hab, fun j hj => he j (by omega)⟩
    rw [this]
theorem KOp_ok (a b : Opx) (ha : OkO a) : FnB Try.prog 27 [.ag (opV a), .ag (opV b)] (vb (eqO a b)) := by
  refine fnB_intro cf27 (by simp) ?_
  simp (config := {contextual := true, maxSteps := 1000000}) only [go_sem, ints, intRows, iv_c, Nat.reduceAdd, Nat.reduceBEq, Nat.reduceEqDiff, Nat.reduceLeDiff, Nat.reduceLT, reduceIte, Nat.le_refl, true_or, or_true, and_self, Int.reduceLE, Int.reduceLT, Int.reduceEq, Int.reduceNeg, Int.natCast_nonneg, Int.reduceToNat, ops, vals, dots, c27]
  first | refine caS_i (KDot_ok a.dot b.dot) trivial ?_ | refine caD_i (KDot_ok a.dot b.dot) trivial ?_ | refine gC_i (fun _ => KDot_ok a.dot b.dot) trivial ?_ | refine gCD_i (fun _ => KDot_ok a.dot b.dot) trivial ?_
  simp (config := {contextual := true, maxSteps := 1000000}) only [go_sem, ints, intRows, iv_c, Nat.reduceAdd, Nat.reduceBEq, Nat.reduceEqDiff, Nat.reduceLeDiff, Nat.reduceLT, reduceIte, Nat.le_refl, true_or, or_true, and_self, Int.reduceLE, Int.reduceLT, Int.reduceEq, Int.reduceNeg, Int.natCast_nonneg, Int.reduceToNat, ops, vals, dots]
  first | refine caS_i (Ints_ok a.deps b.deps ha.d) trivial ?_ | refine caD_i (Ints_ok a.deps b.deps ha.d) trivial ?_ | refine gC_i (fun _ => Ints_ok a.deps b.deps ha.d) trivial ?_ | refine gCD_i (fun _ => Ints_ok a.deps b.deps ha.d) trivial ?_
  simp (config := {contextual := true, maxSteps := 1000000}) only [go_sem, ints, intRows, iv_c, Nat.reduceAdd, Nat.reduceBEq, Nat.reduceEqDiff, Nat.reduceLeDiff, Nat.reduceLT, reduceIte, Nat.le_refl, true_or, or_true, and_self, Int.reduceLE, Int.reduceLT, Int.reduceEq, Int.reduceNeg, Int.natCast_nonneg, Int.reduceToNat, ops, vals, dots]
  first | refine caS_i (KStamp_ok a.st b.st) trivial ?_ | refine caD_i (KStamp_ok a.st b.st) trivial ?_ | refine gC_i (fun _ => KStamp_ok a.st b.st) trivial ?_ | refine gCD_i (fun _ => KStamp_ok a.st b.st) trivial ?_
  simp (config := {contextual := true, maxSteps := 1000000}) only [go_sem, ints, intRows, iv_c, Nat.reduceAdd, Nat.reduceBEq, Nat.reduceEqDiff, Nat.reduceLeDiff, Nat.reduceLT, reduceIte, Nat.le_refl, true_or, or_true, and_self, Int.reduceLE, Int.reduceLT, Int.reduceEq, Int.reduceNeg, Int.natCast_nonneg, Int.reduceToNat, ops, vals, dots]
  first | refine caS_i (KRow_ok a.vals b.vals ha.v) trivial ?_ | refine caD_i (KRow_ok a.vals b.vals ha.v) trivial ?_ | refine gC_i (fun _ => KRow_ok a.vals b.vals ha.v) trivial ?_ | refine gCD_i (fun _ => KRow_ok a.vals b.vals ha.v) trivial ?_
  simp (config := {contextual := true, maxSteps := 1000000}) only [go_sem, ints, intRows, iv_c, Nat.reduceAdd, Nat.reduceBEq, Nat.reduceEqDiff, Nat.reduceLeDiff, Nat.reduceLT, reduceIte, Nat.le_refl, true_or, or_true, and_self, Int.reduceLE, Int.reduceLT, Int.reduceEq, Int.reduceNeg, Int.natCast_nonneg, Int.reduceToNat, ops, vals, dots]
  first | refine caS_i (KDots_ok a.dots b.dots ha.s) trivial ?_ | refine caD_i (KDots_ok a.dots b.dots ha.s) trivial ?_ | refine gC_i (fun _ => KDots_ok a.dots b.dots ha.s) trivial ?_ | refine gCD_i (fun _ => KDots_ok a.dots b.dots ha.s) trivial ?_
  simp (config := {contextual := true, maxSteps := 1000000}) only [go_sem, ints, intRows, iv_c, Nat.reduceAdd, Nat.reduceBEq, Nat.reduceEqDiff, Nat.reduceLeDiff, Nat.reduceLT, reduceIte, Nat.le_refl, true_or, or_true, and_self, Int.reduceLE, Int.reduceLT, Int.reduceEq, Int.reduceNeg, Int.natCast_nonneg, Int.reduceToNat, ops, vals, dots]
  rfl
theorem KOps_ok {fl fm : Fl} (a b : List Opx) (ha : a.length ≤ maxLen) (hok : ∀ x ∈ a, OkO x) : FnB Try.prog 13 [ops fl a, ops fm b] (vb (sameL eqO a b)) := by
  unfold maxLen at ha
  refine fnB_intro cf13 (by simp) ?_
  simp (config := {contextual := true, maxSteps := 1000000}) only [go_sem, ints, intRows, iv_c, Nat.reduceAdd, Nat.reduceBEq, Nat.reduceEqDiff, Nat.reduceLeDiff, Nat.reduceLT, reduceIte, Nat.le_refl, true_or, or_true, and_self, Int.reduceLE, Int.reduceLT, Int.reduceEq, Int.reduceNeg, Int.natCast_nonneg, Int.reduceToNat, ops, vals, dots, c13]
  refine ⟨fun h => ?_, fun h => ?_⟩
  · simp at h; rw [sameL_no (by omega)]
  simp at h
  have hab : a.length = b.length := by omega
  refine wpC_lp (fun env ob n => env 0 = ops fl a ∧ env 1 = ops fm b ∧ ∃ i : Nat, env 5 = vi i ∧ i ≤ a.length ∧ ∀ j, j < i → eqO (gN a j) (gN b j) = true) (fun env ob n => (a.length - iv (env 5)).toNat) ?_ ?_
  · simp (config := {contextual := true, maxSteps := 1000000}) only [go_sem, ints, intRows, iv_c, Nat.reduceAdd, Nat.reduceBEq, Nat.reduceEqDiff, Nat.reduceLeDiff, Nat.reduceLT, reduceIte, Nat.le_refl, true_or, or_true, and_self, Int.reduceLE, Int.reduceLT, Int.reduceEq, Int.reduceNeg, Int.natCast_nonneg, Int.reduceToNat, ops, vals, dots]
    exact ⟨0, rfl, by omega, fun j hj => by omega⟩
  rintro env ob n ⟨h0, h1, i, h5, hi, he⟩
  simp (config := {contextual := true, maxSteps := 1000000}) only [go_sem, ints, intRows, iv_c, Nat.reduceAdd, Nat.reduceBEq, Nat.reduceEqDiff, Nat.reduceLeDiff, Nat.reduceLT, reduceIte, Nat.le_refl, true_or, or_true, and_self, Int.reduceLE, Int.reduceLT, Int.reduceEq, Int.reduceNeg, Int.natCast_nonneg, Int.reduceToNat, ops, vals, dots, h0, h1, h5]
  refine ⟨fun hlt => ?_, fun hge => ?_⟩
  · simp at hlt
    repeat (refine And.intro (by omega) ?_)
    first | refine caS_i (KOp_ok (gN a i) (gN b i) (hok _ (gN_mem hlt))) trivial ?_ | refine caD_i (KOp_ok (gN a i) (gN b i) (hok _ (gN_mem hlt))) trivial ?_ | refine gC_i (fun _ => KOp_ok (gN a i) (gN b i) (hok _ (gN_mem hlt))) trivial ?_ | refine gCD_i (fun _ => KOp_ok (gN a i) (gN b i) (hok _ (gN_mem hlt))) trivial ?_
    simp (config := {contextual := true, maxSteps := 1000000}) only [go_sem, ints, intRows, iv_c, Nat.reduceAdd, Nat.reduceBEq, Nat.reduceEqDiff, Nat.reduceLeDiff, Nat.reduceLT, reduceIte, Nat.le_refl, true_or, or_true, and_self, Int.reduceLE, Int.reduceLT, Int.reduceEq, Int.reduceNeg, Int.natCast_nonneg, Int.reduceToNat, ops, vals, dots, h0, h1, h5]
    refine ⟨fun hn => ?_, fun hy => ⟨⟨i + 1, ?_, by omega, fun j hj => ?_⟩, ?_⟩⟩
    · rw [sameL_bad hlt (by simpa using hn)]
    · rw [w64 (by omega)]; simp
    · by_cases hji : j = i
      · subst hji; simpa using hy
      · exact he j (by omega)
    · rw [w64 (by omega)]; omega
  · simp at hge
    have : sameL eqO a b = true := sameL_iff.2 ⟨hab, fun j hj => he j (by omega)⟩
    rw [this]

/-- More than is played? -/
def longV (l : List Vl) : Bool := l.any fun v => decide (300 < v.s.size)
theorem any_no {α : Type} [Inhabited α] {p : α → Bool} {l : List α} (h : ∀ j, j < l.length → p (gN l j) = false) : l.any p = false := by
  cases ha : l.any p with
  | false => rfl
  | true =>
    obtain ⟨x, hx, hp⟩ := List.any_eq_true.1 ha
    obtain ⟨j, hj, rfl⟩ := List.mem_iff_getElem.1 hx
    have := h j hj
    rw [gN_eq hj, hp] at this; cases this
theorem Long_ok {fl : Fl} (l : List Vl) (hl : l.length ≤ maxLen) : FnB Try.prog 34 [vals fl l] (vb (longV l)) := by
  unfold maxLen at hl
  refine fnB_intro cf34 (by simp) ?_
  simp (config := {contextual := true, maxSteps := 1000000}) only [go_sem, ints, intRows, iv_c, Nat.reduceAdd, Nat.reduceBEq, Nat.reduceEqDiff, Nat.reduceLeDiff, Nat.reduceLT, reduceIte, Nat.le_refl, true_or, or_true, and_self, Int.reduceLE, Int.reduceLT, Int.reduceEq, Int.reduceNeg, Int.natCast_nonneg, Int.reduceToNat, ops, vals, dots, c34]
  refine wpC_lp (fun env ob n => env 0 = vals fl l ∧ ∃ i : Nat, env 3 = vi i ∧ i ≤ l.length ∧ ∀ j, j < i → decide (300 < (gN l j).s.size) = false) (fun env ob n => (l.length - iv (env 3)).toNat) ?_ ?_
  · simp (config := {contextual := true, maxSteps := 1000000}) only [go_sem, ints, intRows, iv_c, Nat.reduceAdd, Nat.reduceBEq, Nat.reduceEqDiff, Nat.reduceLeDiff, Nat.reduceLT, reduceIte, Nat.le_refl, true_or, or_true, and_self, Int.reduceLE, Int.reduceLT, Int.reduceEq, Int.reduceNeg, Int.natCast_nonneg, Int.reduceToNat, ops, vals, dots]
    exact ⟨0, rfl, by omega, fun j hj => by omega⟩
  rintro env ob n ⟨h0, i, h3, hi, he⟩
  simp (config := {contextual := true, maxSteps := 1000000}) only [go_sem, ints, intRows, iv_c, Nat.reduceAdd, Nat.reduceBEq, Nat.reduceEqDiff, Nat.reduceLeDiff, Nat.reduceLT, reduceIte, Nat.le_refl, true_or, or_true, and_self, Int.reduceLE, Int.reduceLT, Int.reduceEq, Int.reduceNeg, Int.natCast_nonneg, Int.reduceToNat, ops, vals, dots, h0, h3]
  refine ⟨fun hlt => ?_, fun hge => ?_⟩
  · simp at hlt
    repeat (refine And.intro (by omega) ?_)
    refine ⟨fun hb => ?_, fun hg => ⟨⟨i + 1, ?_, by omega, fun j hj => ?_⟩, ?_⟩⟩
    · have : longV l = true := List.any_eq_true.2 ⟨_, gN_mem hlt, by simp at hb ⊢; omega⟩
      rw [this]
    · rw [w64 (by omega)]; simp
    · by_cases hji : j = i
      · subst hji; simp at hg ⊢; omega
      · exact he j (by omega)
    · rw [w64 (by omega)]; omega
  · simp at hge
    have : longV l = false := any_no fun j hj => he j (by omega)
    rw [this]
def heavyR (l : List Vl) : Bool := decide (40 < l.length) || longV l
theorem HeavyR_ok {fl : Fl} (l : List Vl) (hl : l.length ≤ maxLen) : FnB Try.prog 15 [vals fl l] (vb (heavyR l)) := by
  refine fnB_intro cf15 (by simp) ?_
  simp (config := {contextual := true, maxSteps := 1000000}) only [go_sem, ints, intRows, iv_c, Nat.reduceAdd, Nat.reduceBEq, Nat.reduceEqDiff, Nat.reduceLeDiff, Nat.reduceLT, reduceIte, Nat.le_refl, true_or, or_true, and_self, Int.reduceLE, Int.reduceLT, Int.reduceEq, Int.reduceNeg, Int.natCast_nonneg, Int.reduceToNat, ops, vals, dots, c15]
  first | refine caS_i (Long_ok l hl) trivial ?_ | refine caD_i (Long_ok l hl) trivial ?_ | refine gC_i (fun _ => Long_ok l hl) trivial ?_ | refine gCD_i (fun _ => Long_ok l hl) trivial ?_
  simp (config := {contextual := true, maxSteps := 1000000}) only [go_sem, ints, intRows, iv_c, Nat.reduceAdd, Nat.reduceBEq, Nat.reduceEqDiff, Nat.reduceLeDiff, Nat.reduceLT, reduceIte, Nat.le_refl, true_or, or_true, and_self, Int.reduceLE, Int.reduceLT, Int.reduceEq, Int.reduceNeg, Int.natCast_nonneg, Int.reduceToNat, ops, vals, dots]
  have : (40 < (l.length : Int)) ↔ (40 < l.length) := by omega
  simp [heavyR, this]
def heavyO (x : Opx) : Bool := decide (30 < x.deps.length) || decide (100 < x.key.size) || heavyR x.vals || decide (100 < x.dots.length)
def heavyOs (l : List Opx) : Bool := decide (300 < l.length) || l.any heavyO
theorem HeavyOs_ok {fl : Fl} (l : List Opx) (h : ∀ x ∈ l, OkO x) : FnB Try.prog 7 [ops fl l] (vb (heavyOs l)) := by
  refine fnB_intro cf7 (by simp) ?_
  simp (config := {contextual := true, maxSteps := 1000000}) only [go_sem, ints, intRows, iv_c, Nat.reduceAdd, Nat.reduceBEq, Nat.reduceEqDiff, Nat.reduceLeDiff, Nat.reduceLT, reduceIte, Nat.le_refl, true_or, or_true, and_self, Int.reduceLE, Int.reduceLT, Int.reduceEq, Int.reduceNeg, Int.natCast_nonneg, Int.reduceToNat, ops, vals, dots, c7]
  refine ⟨fun hb => ?_, fun hl => ?_⟩
  · simp at hb
    have : heavyOs l = true := by simp [heavyOs]; left; omega
    rw [this]
  simp at hl
  refine wpC_lp (fun env ob n => env 0 = ops fl l ∧ ∃ i : Nat, env 3 = vi i ∧ i ≤ l.length ∧ ∀ j, j < i → heavyO (gN l j) = false) (fun env ob n => (l.length - iv (env 3)).toNat) ?_ ?_
  · simp (config := {contextual := true, maxSteps := 1000000}) only [go_sem, ints, intRows, iv_c, Nat.reduceAdd, Nat.reduceBEq, Nat.reduceEqDiff, Nat.reduceLeDiff, Nat.reduceLT, reduceIte, Nat.le_refl, true_or, or_true, and_self, Int.reduceLE, Int.reduceLT, Int.reduceEq, Int.reduceNeg, Int.natCast_nonneg, Int.reduceToNat, ops, vals, dots]
    exact ⟨0, rfl, by omega, fun j hj => by omega⟩
  rintro env ob n ⟨h0, i, h3, hi, he⟩
  simp (config := {contextual := true, maxSteps := 1000000}) only [go_sem, ints, intRows, iv_c, Nat.reduceAdd, Nat.reduceBEq, Nat.reduceEqDiff, Nat.reduceLeDiff, Nat.reduceLT, reduceIte, Nat.le_refl, true_or, or_true, and_self, Int.reduceLE, Int.reduceLT, Int.reduceEq, Int.reduceNeg, Int.natCast_nonneg, Int.reduceToNat, ops, vals, dots, h0, h3]
  refine ⟨fun hlt => ?_, fun hge => ?_⟩
  · simp at hlt
    refine ⟨by omega, fun _ => by omega, fun _ => by omega, ?_⟩
    first | refine caS_i (HeavyR_ok (gN l i).vals (h _ (gN_mem hlt)).v) trivial ?_ | refine caD_i (HeavyR_ok (gN l i).vals (h _ (gN_mem hlt)).v) trivial ?_ | refine gC_i (fun _ => HeavyR_ok (gN l i).vals (h _ (gN_mem hlt)).v) trivial ?_ | refine gCD_i (fun _ => HeavyR_ok (gN l i).vals (h _ (gN_mem hlt)).v) trivial ?_
    simp (config := {contextual := true, maxSteps := 1000000}) only [go_sem, ints, intRows, iv_c, Nat.reduceAdd, Nat.reduceBEq, Nat.reduceEqDiff, Nat.reduceLeDiff, Nat.reduceLT, reduceIte, Nat.le_refl, true_or, or_true, and_self, Int.reduceLE, Int.reduceLT, Int.reduceEq, Int.reduceNeg, Int.natCast_nonneg, Int.reduceToNat, ops, vals, dots, h0, h3]
    have e : (decide (30 < ((gN l i).deps.length : Int)) || decide (100 < ((gN l i).key.size : Int)) || heavyR (gN l i).vals || decide (100 < ((gN l i).dots.length : Int))) = heavyO (gN l i) := by
      have a1 : (30 < ((gN l i).deps.length : Int)) ↔ 30 < (gN l i).deps.length := by omega
      have a2 : (100 < ((gN l i).key.size : Int)) ↔ 100 < (gN l i).key.size := by omega
      have a3 : (100 < ((gN l i).dots.length : Int)) ↔ 100 < (gN l i).dots.length := by omega
      simp [heavyO, a1, a2, a3]
    rw [e]
    refine ⟨fun _ => by omega, fun hb => ?_, fun hg => ⟨⟨i + 1, ?_, by omega, fun j hj => ?_⟩, ?_⟩⟩
    · have : heavyOs l = true := by
        rw [heavyOs, List.any_eq_true.2 ⟨_, gN_mem hlt, hb⟩]; simp
      rw [this]
    · rw [w64 (by omega)]; simp
    · by_cases hji : j = i
      · subst hji; exact hg
      · exact he j (by omega)
    · rw [w64 (by omega)]; omega
  · simp at hge
    have : heavyOs l = false := by
      rw [heavyOs, any_no fun j hj => he j (by omega)]
      simp; omega
    rw [this]
end Go.Proofs.Ytcoecplkcajhgaa.D
end
section
set_option linter.unusedVariables false
set_option linter.unusedSimpArgs false
set_option maxRecDepth 100000
set_option linter.constructorNameAsVariable false

/- What the laws of the buffer call. No condition. -/
namespace Go.Proofs.Ytcoecplkcajhgaa.D
open Go Go.Proofs

theorem RCan_ok {fl : Fl} (v : List Int) (x : Opx) (hl : v.length ≤ maxLen) (hv : ∀ n ∈ v, inI n) (hx : OkO x) : FnB Try.prog 8 [ints fl v, .ag (opV x)] (vb (canB v x)) := by
  refine fnB_intro cf8 (by simp) ?_
  simp (config := {contextual := true, maxSteps := 1000000}) only [go_sem, ints, intRows, iv_c, Nat.reduceAdd, Nat.reduceBEq, Nat.reduceEqDiff, Nat.reduceLeDiff, Nat.reduceLT, reduceIte, Nat.le_refl, true_or, or_true, and_self, Int.reduceLE, Int.reduceLT, Int.reduceEq, Int.reduceNeg, Int.natCast_nonneg, Int.reduceToNat, ops, vals, dots, c8]
  first | refine caS_i (RNext_ok v x.dot hl hx.n hv) trivial ?_ | refine caD_i (RNext_ok v x.dot hl hx.n hv) trivial ?_ | refine gC_i (fun _ => RNext_ok v x.dot hl hx.n hv) trivial ?_ | refine gCD_i (fun _ => RNext_ok v x.dot hl hx.n hv) trivial ?_
  simp (config := {contextual := true, maxSteps := 1000000}) only [go_sem, ints, intRows, iv_c, Nat.reduceAdd, Nat.reduceBEq, Nat.reduceEqDiff, Nat.reduceLeDiff, Nat.reduceLT, reduceIte, Nat.le_refl, true_or, or_true, and_self, Int.reduceLE, Int.reduceLT, Int.reduceEq, Int.reduceNeg, Int.natCast_nonneg, Int.reduceToNat, ops, vals, dots]
  first | refine caS_i (RLe_ok x.deps v hx.d) trivial ?_ | refine caD_i (RLe_ok x.deps v hx.d) trivial ?_ | refine gC_i (fun _ => RLe_ok x.deps v hx.d) trivial ?_ | refine gCD_i (fun _ => RLe_ok x.deps v hx.d) trivial ?_
  simp (config := {contextual := true, maxSteps := 1000000}) only [go_sem, ints, intRows, iv_c, Nat.reduceAdd, Nat.reduceBEq, Nat.reduceEqDiff, Nat.reduceLeDiff, Nat.reduceLT, reduceIte, Nat.le_refl, true_or, or_true, and_self, Int.reduceLE, Int.reduceLT, Int.reduceEq, Int.reduceNeg, Int.natCast_nonneg, Int.reduceToNat, ops, vals, dots]
  unfold canB
  cases nextB v x.dot <;> rfl

theorem ia_c0 (ob : OB) (k : Nat) (f : Fl) (r : List V) (l : List (List V)) : iaV ob k (.im f (r :: l)) 0 = if r.length = k then some (.bp r) else none := by
  simp [iaV]
theorem ia_c1 (ob : OB) (k : Nat) (f : Fl) (r s : List V) (l : List (List V)) : iaV ob k (.im f (r :: s :: l)) 1 = if s.length = k then some (.bp s) else none := by
  simp only [iaV]
  rw [if_pos ⟨by omega, by simp; omega⟩]
  rfl
def mkO (p n : Int) (deps : List Int) : Opx := ⟨⟨p, n⟩, deps, ⟨0, 0, 0⟩, 0, 0, ⟨#[]⟩, 0, [], []⟩
theorem mkO_ok {p n : Int} {deps : List Int} (h : deps.length ≤ maxLen) (hn : inI n) : OkO (mkO p n deps) := ⟨h, by simp [mkO], by simp [mkO], hn⟩
theorem wk1 : offerV [0] [] (mkO 0 2 [1]) = ([], [mkO 0 2 [1]], 9) := by rfl
theorem wk2 : offerV [0] [mkO 0 2 [1]] (mkO 0 1 [0]) = ([mkO 0 1 [0], mkO 0 2 [1]], [], 0) := by rfl
theorem wakes12_ok : FnB Try.prog 11 [] (vb true) := by
  refine fnB_intro cf11 (by simp) ?_
  simp (config := {contextual := true, maxSteps := 1000000}) only [go_sem, ints, intRows, iv_c, Nat.reduceAdd, Nat.reduceBEq, Nat.reduceEqDiff, Nat.reduceLeDiff, Nat.reduceLT, reduceIte, Nat.le_refl, true_or, or_true, and_self, Int.reduceLE, Int.reduceLT, Int.reduceEq, Int.reduceNeg, Int.natCast_nonneg, Int.reduceToNat, ops, vals, dots, c11]
  refine caS_i (Offer_ok [0] [] (mkO 0 2 [1]) (by simp [maxLen]) (by simp [maxLen]) (fun x hx => by cases hx) (mkO_ok (by simp [maxLen]) (by simp [inI]))) trivial ?_
  simp (config := {contextual := true, maxSteps := 1000000}) only [go_sem, ints, intRows, iv_c, Nat.reduceAdd, Nat.reduceBEq, Nat.reduceEqDiff, Nat.reduceLeDiff, Nat.reduceLT, reduceIte, Nat.le_refl, true_or, or_true, and_self, Int.reduceLE, Int.reduceLT, Int.reduceEq, Int.reduceNeg, Int.natCast_nonneg, Int.reduceToNat, ops, vals, dots, wk1]
  refine caS_i (Offer_ok [0] [mkO 0 2 [1]] (mkO 0 1 [0]) (by simp [maxLen]) (by simp [maxLen]) (fun x hx => by simp at hx; subst hx; exact mkO_ok (by simp [maxLen]) (by simp [inI])) (mkO_ok (by simp [maxLen]) (by simp [inI]))) trivial ?_
  simp (config := {contextual := true, maxSteps := 1000000}) only [go_sem, ints, intRows, iv_c, Nat.reduceAdd, Nat.reduceBEq, Nat.reduceEqDiff, Nat.reduceLeDiff, Nat.reduceLT, reduceIte, Nat.le_refl, true_or, or_true, and_self, Int.reduceLE, Int.reduceLT, Int.reduceEq, Int.reduceNeg, Int.natCast_nonneg, Int.reduceToNat, ops, vals, dots, wk2, ia_c1]
  rfl

/-- Operations of one peer, one behind the other. -/
def chOp (n p j : Nat) : Opx := ⟨⟨p, (j + 1 : Nat)⟩, (List.replicate n (0 : Int)).set p j, ⟨0, 0, 0⟩, 1, 0, ⟨#[107]⟩, 0, [], []⟩
def chainV (n p c : Nat) : List Opx := (List.range c).map (chOp n p)
def chR (n p id j : Nat) : List V := [vi (p : Nat), vi ((j + 1 : Nat)), .sl id 0 n, vi 0, vi 0, vi 0, vi 1, vi 0, .c (.string ⟨#[107]⟩), vi 0, .z, .z]
def rowsC (n p : Nat) (ids : List Nat) : List (List V) := (List.range ids.length).map fun j => chR n p (gN ids j) j
theorem rowsC_app (n p : Nat) (ids : List Nat) (x : Nat) : rowsC n p (ids ++ [x]) = rowsC n p ids ++ [chR n p x ids.length] := by
  unfold rowsC
  rw [List.length_append, List.length_singleton, List.range_succ, List.map_append]
  congr 1
  · refine List.map_congr_left fun j hj => ?_
    rw [List.mem_range] at hj
    rw [gN, gN, List.getD_eq_getElem?_getD, List.getElem?_append_left hj, ← List.getD_eq_getElem?_getD]
  · simp [gN]
theorem chain_ok (n p c : Nat) (hn : n ≤ 5) (hp : p < n) (hc : c ≤ 60) : FnB Try.prog 12 [vi n, vi p, vi c] (ops .o (chainV n p c)) := by
  refine fnB_intro cf12 (by simp) ?_
  simp (config := {contextual := true, maxSteps := 1000000}) only [go_sem, ints, intRows, iv_c, Nat.reduceAdd, Nat.reduceBEq, Nat.reduceEqDiff, Nat.reduceLeDiff, Nat.reduceLT, reduceIte, Nat.le_refl, true_or, or_true, and_self, Int.reduceLE, Int.reduceLT, Int.reduceEq, Int.reduceNeg, Int.natCast_nonneg, Int.reduceToNat, ops, vals, dots, c12]
  refine wpC_lp (fun env ob n' => env 0 = vi n ∧ env 1 = vi p ∧ env 2 = vi c ∧ ∃ (i : Nat) (ids : List Nat), env 8 = vi i ∧ i ≤ c ∧ ids.length = i ∧ ((i = 0 ∧ env 7 = .z) ∨ (i ≠ 0 ∧ ∃ oid cap, env 7 = .sl oid 0 i ∧ oid < n' ∧ ob oid = some ⟨12, rowsC n p ids, cap⟩ ∧ ∀ j, j < i → gN ids j ≠ oid)) ∧ ∀ j, j < i → gN ids j < n' ∧ ob (gN ids j) = some ⟨1, ((List.replicate n (0 : Int)).set p j).map fun n => [vi n], none⟩) (fun env ob _ => (c - iv (env 8)).toNat) ?_ ?_
  · simp (config := {contextual := true, maxSteps := 1000000}) only [go_sem, ints, intRows, iv_c, Nat.reduceAdd, Nat.reduceBEq, Nat.reduceEqDiff, Nat.reduceLeDiff, Nat.reduceLT, reduceIte, Nat.le_refl, true_or, or_true, and_self, Int.reduceLE, Int.reduceLT, Int.reduceEq, Int.reduceNeg, Int.natCast_nonneg, Int.reduceToNat, ops, vals, dots]
    exact ⟨0, [], rfl, by omega, rfl, by simp, fun j hj => by omega⟩
  rintro env ob n' ⟨h0, h1, h2, i, ids, h8, hi, hil, h7, hids⟩
  simp (config := {contextual := true, maxSteps := 1000000}) only [go_sem, ints, intRows, iv_c, Nat.reduceAdd, Nat.reduceBEq, Nat.reduceEqDiff, Nat.reduceLeDiff, Nat.reduceLT, reduceIte, Nat.le_refl, true_or, or_true, and_self, Int.reduceLE, Int.reduceLT, Int.reduceEq, Int.reduceNeg, Int.natCast_nonneg, Int.reduceToNat, ops, vals, dots, h0, h1, h2, h8]
  refine ⟨fun hlt => ?_, fun hge => ?_⟩
  · simp at hlt
    have w1 : IntKind.i64.wrap ((i : Int) + 1) = ((i + 1 : Nat) : Int) := by rw [w64 (by omega)]; omega
    refine ⟨by unfold maxLen; omega, by omega, by simpa using hp, ?_⟩
    rw [op_bsl_r]
    · simp (config := {contextual := true, maxSteps := 1000000}) only [go_sem, ints, intRows, iv_c, Nat.reduceAdd, Nat.reduceBEq, Nat.reduceEqDiff, Nat.reduceLeDiff, Nat.reduceLT, reduceIte, Nat.le_refl, true_or, or_true, and_self, Int.reduceLE, Int.reduceLT, Int.reduceEq, Int.reduceNeg, Int.natCast_nonneg, Int.reduceToNat, ops, vals, dots, w1]
      refine nxS_new (k := 12) (rows := rowsC n p ids) (xs := [chR n p (n' + 1 + 1 + 1 + 1) i]) ?_ (by simp) rfl rfl (by simp [rowsC, maxLen]; omega) fun ob' hob' hfr => ?_
      · rcases h7 with ⟨h7, h7'⟩ | ⟨h7, oid, cap, h7', ho1, ho2, ho3⟩
        · have : ids = [] := List.eq_nil_of_length_eq_zero (by omega)
          subst this
          exact .inl ⟨rfl, h7'⟩
        · refine .inr ⟨oid, cap, by rw [h7']; simp [rowsC, hil], ?_⟩
          rw [updO, if_neg (by omega), updO, if_neg (by omega), ho2]
      simp (config := {contextual := true, maxSteps := 1000000}) only [go_sem, ints, intRows, iv_c, Nat.reduceAdd, Nat.reduceBEq, Nat.reduceEqDiff, Nat.reduceLeDiff, Nat.reduceLT, reduceIte, Nat.le_refl, true_or, or_true, and_self, Int.reduceLE, Int.reduceLT, Int.reduceEq, Int.reduceNeg, Int.natCast_nonneg, Int.reduceToNat, ops, vals, dots, h0, h1, h2, h8, w1]
      have hne4 : ∀ j, j < i → ∀ len, env 7 ≠ .sl (gN ids j) 0 len := fun j hj len e => by
        rcases h7 with ⟨h7, h7'⟩ | ⟨h7, oid, cap, h7', ho1, ho2, ho3⟩
        · omega
        · rw [h7'] at e; injection e with e; exact ho3 j hj e.symm
      have hne5 : ∀ len, env 7 ≠ .sl (n' + 4) 0 len := fun len e => by
        rcases h7 with ⟨h7, h7'⟩ | ⟨h7, oid, cap, h7', ho1, ho2, ho3⟩
        · rw [h7'] at e; cases e
        · rw [h7'] at e; injection e; omega
      have hgl : ∀ j, j < i → gN (ids ++ [n' + 4]) j = gN ids j := fun j hj => by
        rw [gN, gN, List.getD_eq_getElem?_getD, List.getElem?_append_left (by omega), ← List.getD_eq_getElem?_getD]
      have hgr : gN (ids ++ [n' + 4]) i = n' + 4 := by
        rw [gN, List.getD_eq_getElem?_getD, List.getElem?_append_right (by omega)]; simp [hil]
      refine ⟨⟨i + 1, ids ++ [n' + 4], rfl, by omega, by simp [hil], .inr ⟨by omega, n' + 19, none, ?_, by omega, ?_, ?_⟩, ?_⟩, by omega⟩
      · simp [rowsC, hil]
      · rw [rowsC_app, hil]; exact hob'
      · intro j hj
        by_cases hji : j < i
        · rw [hgl j hji]; have := (hids j hji).1; omega
        · have : j = i := by omega
          subst this; rw [hgr]; omega
      · intro j hj
        by_cases hji : j < i
        · rw [hgl j hji]
          obtain ⟨q1, q2⟩ := hids j hji
          refine ⟨by omega, ?_⟩
          rw [hfr _ (by omega) (hne4 j hji), updO, if_neg (by omega), updO, if_neg (by omega), q2]
        · have : j = i := by omega
          subst this
          rw [hgr]
          refine ⟨by omega, ?_⟩
          rw [hfr _ (by omega) hne5]
          exact updO_s _ _ _
    · rfl
    · rfl
  · simp at hge
    have hic : i = c := by omega
    subst hic
    rcases h7 with ⟨h7, h7'⟩ | ⟨h7, oid, cap, h7', ho1, ho2, ho3⟩
    · subst h7
      rw [h7']; rfl
    · have hr : rowsOf ob (.sl oid 0 i) = some (rowsC n p ids) := by
        simp only [rowsOf, ho2, Option.bind_some]
        rw [if_pos (by simp [rowsC, hil]), List.drop_zero, List.take_of_length_le (by simp [rowsC, hil])]
      have hne : (rowsC n p ids).length ≠ 0 := by simp [rowsC, hil]; omega
      rw [h7']
      simp only [outL, hr, hne, if_false]
      show V.im Fl.o _ = _
      congr 1
      unfold rowsC chainV
      rw [List.map_map, List.map_map, hil]
      refine List.map_congr_left fun j hj => ?_
      rw [List.mem_range] at hj
      obtain ⟨hj1, hj2⟩ := hids j hj
      have hk : kill ob oid (gN ids j) = some ⟨1, ((List.replicate n (0 : Int)).set p j).map fun n => [vi n], none⟩ := by rw [kill, if_neg (ho3 j hj), hj2]
      have hs : gV (kill ob oid) 6 (.sl (gN ids j) 0 n) = ints .b ((List.replicate n (0 : Int)).set p j) := by
        simp [gV, rowsOf, hk, ints, Function.comp_def]
        rw [List.take_of_length_le (by simp)]
      simp only [Function.comp_apply, chR, List.map_cons, List.map_nil, hs]
      rfl
end Go.Proofs.Ytcoecplkcajhgaa.D
end
section
set_option linter.unusedVariables false
set_option linter.unusedSimpArgs false
set_option maxRecDepth 100000
set_option linter.constructorNameAsVariable false

/- Plain facts of chains. No condition. -/
namespace Go.Proofs.Ytcoecplkcajhgaa.D
open Go Go.Proofs

def zs (n p k : Nat) : List Int := (List.replicate n (0 : Int)).set p k
theorem zs_len (n p k : Nat) : (zs n p k).length = n := by simp [zs]
theorem zs_at {n p : Nat} (hp : p < n) (k : Nat) : gN (zs n p k) p = k := gN_set (by simpa using hp) _
theorem zs_ne {n p i : Nat} (hi : i < n) (h : i ≠ p) (k : Nat) : gN (zs n p k) i = 0 := by
  unfold zs
  rw [gN_set2 h, gN_rep hi]
theorem zs_0 (n p : Nat) : zs n p 0 = List.replicate n 0 := by
  unfold zs
  refine List.ext_getElem (by simp) fun i h1 h2 => ?_
  rw [List.getElem_set]
  split <;> simp
theorem zs_set (n p k j : Nat) : (zs n p k).set p (j : Int) = zs n p j := by simp [zs]
theorem zs_E {n p : Nat} (hn : 1 ≤ n ∧ n ≤ 5) {k : Nat} (hk : k ≤ 1073741824) : vecE (zs n p k) = 0 := vecE_set (vecE_rep hn) p ⟨by omega, by omega⟩
theorem zs_mem {n p k : Nat} (hk : k ≤ 1073741824) : ∀ x ∈ zs n p k, inI x := fun x hx => by
  unfold zs at hx
  rcases List.mem_or_eq_of_mem_set hx with hx | rfl
  · rw [List.eq_of_mem_replicate hx]; simp [inI]
  · unfold inI; omega
theorem zs_le {n p : Nat} (hp : p < n) {j k : Nat} : leB (zs n p j) (zs n p k) = decide (j ≤ k) := by
  by_cases h : j ≤ k
  · rw [decide_eq_true h, leB_iff]
    refine ⟨by simp [zs_len], fun i hi => ?_⟩
    rw [zs_len] at hi
    by_cases e : i = p
    · subst e; rw [zs_at hi, zs_at hi]; omega
    · rw [zs_ne hi e, zs_ne hi e]; omega
  · rw [decide_eq_false h]
    cases hc : leB (zs n p j) (zs n p k) with
    | false => rfl
    | true =>
      have := (leB_iff.1 hc).2 p (by rw [zs_len]; exact hp)
      rw [zs_at hp, zs_at hp] at this; omega
theorem chOp_dot (n p j : Nat) : (chOp n p j).dot = ⟨p, (j + 1 : Nat)⟩ := rfl
theorem chOp_deps (n p j : Nat) : (chOp n p j).deps = zs n p j := rfl
theorem chOp_ok {n p j : Nat} (hn : n ≤ 5) (hj : j ≤ 100) : OkO (chOp n p j) := ⟨by rw [chOp_deps, zs_len]; unfold maxLen; omega, by simp [chOp], by simp [chOp], by rw [chOp_dot]; unfold inI; simp; omega⟩
theorem can_ch {n p : Nat} (hp : p < n) (j k : Nat) : canB (zs n p k) (chOp n p j) = decide (j = k) := by
  unfold canB nextB
  rw [chOp_dot, chOp_deps, zs_le hp]
  simp only [Int.toNat_natCast, zs_at hp, zs_len]
  by_cases h : j = k
  · subst h; simp [hp]
  · rw [decide_eq_false h]
    rw [decide_eq_false (by omega)]; rfl
theorem has_ch {n p : Nat} (hp : p < n) (j k : Nat) : hasB (zs n p k) (chOp n p j).dot = decide (j < k) := by
  unfold hasB
  rw [chOp_dot]
  simp only [Int.toNat_natCast, zs_at hp, zs_len]
  by_cases h : j < k
  · rw [decide_eq_true h, decide_eq_true (by omega)]
  · rw [decide_eq_false h, decide_eq_false (by omega)]
theorem same_ch (n p j k : Nat) : sameD (chOp n p j).dot (chOp n p k).dot = decide (j = k) := by
  unfold sameD
  rw [chOp_dot, chOp_dot]
  by_cases h : j = k
  · subst h; simp
  · rw [decide_eq_false h, decide_eq_false (by simp; omega)]
theorem any_map_eq (js : List Nat) (k : Nat) (n p : Nat) (f : Opx → Bool) (hf : ∀ j, f (chOp n p j) = decide (j = k)) : (js.map (chOp n p)).any f = decide (k ∈ js) := by
  induction js with
  | nil => simp
  | cons a l ih =>
    rw [List.map_cons, List.any_cons, ih, hf]
    by_cases h : a = k
    · subst h; simp
    · simp [h, Ne.symm h]
theorem gN_mapf {α β : Type} [Inhabited α] [Inhabited β] {f : α → β} {l : List α} {i : Nat} (h : i < l.length) : gN (l.map f) i = f (gN l i) := by
  rw [gN_eq (by simpa using h), gN_eq h]; simp

theorem idx_ch {n p : Nat} (js : List Nat) (k : Nat) (f : Opx → Bool) (hf : ∀ j, f (chOp n p j) = decide (j = k)) : (js.map (chOp n p)).findIdx f = js.idxOf k := by
  induction js with
  | nil => rfl
  | cons a l ih =>
    rw [List.map_cons, List.findIdx_cons, hf, List.idxOf_cons, ih]
    by_cases h : a = k
    · subst h; simp
    · have : (a == k) = false := by simpa using h
      simp [h, this]
theorem erase_idx {js : List Nat} {k : Nat} (f : Nat → Opx) : (js.map f).eraseIdx (js.idxOf k) = (js.erase k).map f := by
  induction js with
  | nil => rfl
  | cons a l ih =>
    rw [List.idxOf_cons, List.erase_cons]
    by_cases h : a = k
    · subst h; simp
    · have : (a == k) = false := by simpa using h
      simp [this, ih]
/-- What waits and is there in a row becomes ready in its order. -/
theorem again_ch {n p : Nat} (hp : p < n) : ∀ (m k : Nat) (js : List Nat), js.Perm (List.range' k m) → againL m (zs n p k) (js.map (chOp n p)) = ((List.range' k m).map (chOp n p), zs n p (k + m), [])
  | 0, k, js, h => by
    have : js = [] := by simpa using h
    subst this
    simp [againL]
  | m + 1, k, js, h => by
    have hk : k ∈ js := h.mem_iff.2 (by rw [List.mem_range'_1]; omega)
    have hf := fun j => can_ch hp j k
    unfold againL
    rw [any_map_eq js k n p _ hf, if_pos (by simpa using hk), idx_ch js k _ hf]
    have hlt : js.idxOf k < js.length := List.idxOf_lt_length_of_mem hk
    have hg : gN (js.map (chOp n p)) (js.idxOf k) = chOp n p k := by
      rw [gN_mapf hlt, gN_eq hlt, List.getElem_idxOf hlt]
    have he : (js.map (chOp n p)).eraseIdx (js.idxOf k) = (js.erase k).map (chOp n p) := erase_idx _
    have hper : (js.erase k).Perm (List.range' (k + 1) m) := by
      have := h.erase k
      rw [List.range'_succ, List.erase_cons_head] at this
      exact this
    have ih := again_ch hp m (k + 1) (js.erase k) hper
    simp only [hg, he]
    have hs : (zs n p k).set (chOp n p k).dot.p.toNat (chOp n p k).dot.n = zs n p (k + 1) := by
      rw [chOp_dot]; exact zs_set n p k (k + 1)
    rw [hs, ih]
    refine Prod.ext ?_ (Prod.ext ?_ rfl)
    · simp [List.range'_succ]
    · simp; congr 1; omega
theorem wrong_0 {v : List Int} {l : List Opx} (h : vecE v = 0) (hl : l.length ≤ 40) : wrongE v l = 0 := by
  unfold wrongE; rw [if_neg (by simpa using h), if_neg (by omega)]
theorem offer_wait {n p k i : Nat} {js : List Nat} (hn : 1 ≤ n ∧ n ≤ 5) (hp : p < n) (hk : k ≤ 100) (hki : k < i) (hi : i ∉ js) (hl : js.length < 40) : offerV (zs n p k) (js.map (chOp n p)) (chOp n p i) = ([], (js ++ [i]).map (chOp n p), 9) := by
  have h1 : wrongE (zs n p k) (js.map (chOp n p)) = 0 := wrong_0 (zs_E hn (by omega)) (by simp; omega)
  have h2 : hasB (zs n p k) (chOp n p i).dot = false := by rw [has_ch hp, decide_eq_false (by omega)]
  have h3 : ((js.map (chOp n p)).any fun y => sameD y.dot (chOp n p i).dot) = false := by rw [any_map_eq js i n p _ (fun j => same_ch n p j i)]; simpa using hi
  have h4 : canB (zs n p k) (chOp n p i) = false := by rw [can_ch hp, decide_eq_false (by omega)]
  have h5 : ¬ 40 ≤ (js.map (chOp n p)).length := by simp; omega
  unfold offerV
  rw [if_neg (by simpa using h1), h2, h3, h4, if_neg (by simp), if_neg (by simp), if_neg h5]
  simp
theorem offer_full {n p k i : Nat} {js : List Nat} (hn : 1 ≤ n ∧ n ≤ 5) (hp : p < n) (hk : k ≤ 100) (hki : k < i) (hi : i ∉ js) (hl : js.length = 40) : offerV (zs n p k) (js.map (chOp n p)) (chOp n p i) = ([], [], 6) := by
  have h1 : wrongE (zs n p k) (js.map (chOp n p)) = 0 := wrong_0 (zs_E hn (by omega)) (by simp; omega)
  have h2 : hasB (zs n p k) (chOp n p i).dot = false := by rw [has_ch hp, decide_eq_false (by omega)]
  have h3 : ((js.map (chOp n p)).any fun y => sameD y.dot (chOp n p i).dot) = false := by rw [any_map_eq js i n p _ (fun j => same_ch n p j i)]; simpa using hi
  have h4 : canB (zs n p k) (chOp n p i) = false := by rw [can_ch hp, decide_eq_false (by omega)]
  have h5 : 40 ≤ (js.map (chOp n p)).length := by simp; omega
  unfold offerV
  rw [if_neg (by simpa using h1), h2, h3, h4, if_neg (by simp), if_neg (by simp), if_pos h5]
theorem offer_twice {n p k i : Nat} {js : List Nat} (hn : 1 ≤ n ∧ n ≤ 5) (hp : p < n) (hk : k ≤ 100) (hi : i ∈ js) (hl : js.length ≤ 40) : offerV (zs n p k) (js.map (chOp n p)) (chOp n p i) = ([], [], 8) := by
  have h1 : wrongE (zs n p k) (js.map (chOp n p)) = 0 := wrong_0 (zs_E hn (by omega)) (by simp; omega)
  have h3 : ((js.map (chOp n p)).any fun y => sameD y.dot (chOp n p i).dot) = true := by rw [any_map_eq js i n p _ (fun j => same_ch n p j i)]; simpa using hi
  unfold offerV
  rw [if_neg (by simpa using h1), h3, if_pos (by simp)]
theorem offer_can {n p k : Nat} {js : List Nat} (hn : 1 ≤ n ∧ n ≤ 5) (hp : p < n) (hk : k ≤ 100) (hi : k ∉ js) (hl : js.length ≤ 40) : offerV (zs n p k) (js.map (chOp n p)) (chOp n p k) =
    (chOp n p k :: (againL js.length (zs n p (k + 1)) (js.map (chOp n p))).1, (againL js.length (zs n p (k + 1)) (js.map (chOp n p))).2.2.filter (fun x => !hasB (againL js.length (zs n p (k + 1)) (js.map (chOp n p))).2.1 x.dot), 0) := by
  have h1 : wrongE (zs n p k) (js.map (chOp n p)) = 0 := wrong_0 (zs_E hn (by omega)) (by simp; omega)
  have h0 : wrongE (zs n p (k + 1)) (js.map (chOp n p)) = 0 := wrong_0 (zs_E hn (by omega)) (by simp; omega)
  have h2 : hasB (zs n p k) (chOp n p k).dot = false := by rw [has_ch hp, decide_eq_false (by omega)]
  have h3 : ((js.map (chOp n p)).any fun y => sameD y.dot (chOp n p k).dot) = false := by rw [any_map_eq js k n p _ (fun j => same_ch n p j k)]; simpa using hi
  have h4 : canB (zs n p k) (chOp n p k) = true := by rw [can_ch hp]; simp
  have hs : (zs n p k).set (chOp n p k).dot.p.toNat (chOp n p k).dot.n = zs n p (k + 1) := by
    rw [chOp_dot]; exact zs_set n p k (k + 1)
  unfold offerV
  rw [if_neg (by simpa using h1), h2, h3, h4, if_neg (by simp), if_pos rfl, hs]
  have ha : againV (zs n p (k + 1)) (js.map (chOp n p)) = ((againL js.length (zs n p (k + 1)) (js.map (chOp n p))).1, (againL js.length (zs n p (k + 1)) (js.map (chOp n p))).2.2.filter (fun x => !hasB (againL js.length (zs n p (k + 1)) (js.map (chOp n p))).2.1 x.dot), 0) := by
    unfold againV
    rw [if_neg (by simpa using h0), List.length_map]
  rw [ha]; simp
theorem offer_all {n p k m : Nat} {js : List Nat} (hn : 1 ≤ n ∧ n ≤ 5) (hp : p < n) (hk : k ≤ 100) (hj : js.Perm (List.range' (k + 1) m)) (hm : m ≤ 40) : offerV (zs n p k) (js.map (chOp n p)) (chOp n p k) = ((List.range' k (m + 1)).map (chOp n p), [], 0) := by
  have hl : js.length = m := by rw [hj.length_eq]; simp
  rw [offer_can hn hp hk (fun h => by have := hj.mem_iff.1 h; rw [List.mem_range'_1] at this; omega) (by omega), hl, again_ch hp m (k + 1) js hj]
  simp [List.range'_succ]
theorem offer_one {n p k : Nat} {js : List Nat} (hn : 1 ≤ n ∧ n ≤ 5) (hp : p < n) (hk : k ≤ 100) (hi : ∀ j ∈ js, k + 1 < j) (hl : js.length ≤ 40) : offerV (zs n p k) (js.map (chOp n p)) (chOp n p k) = ([chOp n p k], js.map (chOp n p), 0) := by
  rw [offer_can hn hp hk (fun h => by have := hi _ h; omega) hl, againL_no fun x hx => by
    obtain ⟨j, hj, rfl⟩ := List.mem_map.1 hx
    have := hi j hj
    rw [can_ch hp, decide_eq_false (by omega)]]
  refine Prod.ext rfl (Prod.ext (List.filter_eq_self.2 fun x hx => ?_) rfl)
  obtain ⟨j, hj, rfl⟩ := List.mem_map.1 hx
  have := hi j hj
  rw [has_ch hp, decide_eq_false (by omega)]; rfl
theorem chain_at {n p c i : Nat} (hi : i < c) : gN (chainV n p c) i = chOp n p i := by
  unfold chainV
  rw [gN_mapf (by simpa using hi), gN_eq (by simpa using hi)]; simp
/-- What is handed over as these operations. -/
def wE (v : V) (l : List Opx) : Prop := ∀ (ob : OB) (m : Nat), resV ob (m + 4) v = .im .b (l.map opV)
theorem wE_z : wE .z [] := fun ob m => rfl
theorem wE_b (l : List Opx) : wE (.im .b (l.map opV)) l := fun ob m => by
  rw [res_im, List.map_map]
  show V.im .b _ = _
  congr 1
  exact List.map_congr_left fun x _ => res_op _ _ x
end Go.Proofs.Ytcoecplkcajhgaa.D
end
section
set_option linter.unusedVariables false
set_option linter.unusedSimpArgs false
set_option maxRecDepth 100000
set_option linter.constructorNameAsVariable false

/- One that needs another peer's operation. No condition. -/
namespace Go.Proofs.Ytcoecplkcajhgaa.D
open Go Go.Proofs

def nX (K : Nat) : Opx := mkO 0 2 [1, (K : Int)]
theorem nX_ok (K : Nat) : OkO (nX K) := mkO_ok (by simp [maxLen]) (by simp [inI])
theorem vec2 {a b : Nat} (ha : a ≤ 100) (hb : b ≤ 100) : vecE [(a : Int), b] = 0 := by
  refine vecE_mk (by simp) (by simp) fun i hi => ?_
  rcases i with _ | _ | i
  · simp [gN]; omega
  · simp [gN]; omega
  · simp at hi; omega
theorem le2 (a b c d : Int) : leB [a, b] [c, d] = decide (a ≤ c ∧ b ≤ d) := by
  have : leB [a, b] [c, d] = true ↔ a ≤ c ∧ b ≤ d := by
    rw [leB_iff]
    constructor
    · rintro ⟨_, h⟩
      have h0 := h 0 (by simp); have h1 := h 1 (by simp)
      simp [gN] at h0 h1; exact ⟨h0, h1⟩
    · rintro ⟨h0, h1⟩
      refine ⟨rfl, fun i hi => ?_⟩
      rcases i with _ | _ | i
      · simpa [gN] using h0
      · simpa [gN] using h1
      · simp at hi; omega
  by_cases h : a ≤ c ∧ b ≤ d
  · rw [decide_eq_true h]; exact this.2 h
  · rw [decide_eq_false h]
    cases hc : leB [a, b] [c, d] with
    | false => rfl
    | true => exact absurd (this.1 hc) h
theorem canX (K a b : Nat) : canB [(a : Int), b] (nX K) = decide (a = 1 ∧ K ≤ b) := by
  have h1 : nextB [(a : Int), b] (nX K).dot = decide (a = 1) := by
    simp [nextB, nX, mkO, gN]; omega
  have h2 : leB (nX K).deps [(a : Int), b] = decide (1 ≤ a ∧ K ≤ b) := by
    show leB [1, (K : Int)] [(a : Int), b] = _
    rw [le2]; congr 1; apply propext; omega
  unfold canB
  rw [h1, h2, ← Bool.decide_and]
  congr 1; apply propext; omega
theorem hasX (K a b : Nat) : hasB [(a : Int), b] (nX K).dot = decide (2 ≤ a) := by
  simp [hasB, nX, mkO, gN]; omega
theorem ch2 (i : Nat) : chOp 2 1 i = ⟨⟨1, (i + 1 : Nat)⟩, [0, (i : Int)], ⟨0, 0, 0⟩, 1, 0, ⟨#[107]⟩, 0, [], []⟩ := rfl
theorem canC (i a b : Nat) : canB [(a : Int), b] (chOp 2 1 i) = decide (i = b) := by
  have h1 : nextB [(a : Int), b] (chOp 2 1 i).dot = decide (i = b) := by
    rw [ch2]; simp [nextB, gN]; omega
  have h2 : leB (chOp 2 1 i).deps [(a : Int), b] = decide (i ≤ b) := by
    rw [ch2]; show leB [0, (i : Int)] [(a : Int), b] = _
    rw [le2]; congr 1; apply propext; omega
  unfold canB
  rw [h1, h2, ← Bool.decide_and]
  congr 1; apply propext; omega
theorem hasC (i a b : Nat) : hasB [(a : Int), b] (chOp 2 1 i).dot = decide (i < b) := by
  rw [ch2]
  show decide (0 ≤ (1 : Int) ∧ (1 : Int) < ((2 : Nat) : Int) ∧ 1 ≤ ((i + 1 : Nat) : Int) ∧ ((i + 1 : Nat) : Int) ≤ (b : Int)) = decide (i < b)
  congr 1; apply propext; omega
theorem op_bslo_2 (z' a b : V) (ob : OB) (i : Nat) (h : okRow 1 (cellsV a) = true) (k : okRow 1 (cellsV b) = true) : opF (.bsl 1 [z'] [0, 1] 2 false) [a, b] ob i = some (.sl i 0 2, [(i, some ⟨1, [cellsV a, cellsV b], none⟩)]) := by
  simp [okRow] at h k
  obtain ⟨x, hx⟩ := List.length_eq_one_iff.1 h.1
  obtain ⟨y, hy⟩ := List.length_eq_one_iff.1 k.1
  simp [hx] at h; simp [hy] at k
  simp [opF, fill, hx, hy, okRow, h, k, List.range_succ]
theorem nd1 {K : Nat} (hK : 1 ≤ K ∧ K ≤ 20) : offerV [0, 0] [] (nX K) = ([], [nX K], 9) := by
  have h1 : wrongE [0, 0] [] = 0 := by decide
  have h2 := hasX K 0 0
  have h3 := canX K 0 0
  unfold offerV
  rw [if_neg (by simpa using h1)]
  simp at h2 h3
  rw [h2, h3]; simp
theorem again1 {a b K : Nat} (ha : a ≤ 100) (hb : b ≤ 100) (h : ¬ (a = 1 ∧ K ≤ b)) (h2 : a < 2) : againV [(a : Int), b] [nX K] = ([], [nX K], 0) := by
  have h1 : wrongE [(a : Int), b] [nX K] = 0 := wrong_0 (vec2 ha hb) (by simp)
  have h3 : againL 1 [(a : Int), b] [nX K] = ([], [(a : Int), b], [nX K]) := againL_no fun x hx => by
    simp at hx; subst hx; rw [canX, decide_eq_false h]
  unfold againV
  rw [if_neg (by simpa using h1)]
  show ((againL 1 [(a : Int), b] [nX K]).1, _, _) = _
  have hh : hasB [(a : Int), b] (nX K).dot = false := by rw [hasX]; simp; omega
  simp only [List.length_singleton, h3]
  simp [hh]
theorem again2 {b K : Nat} (hb : b ≤ 100) (h : K ≤ b) : againV [1, (b : Int)] [nX K] = ([nX K], [], 0) := by
  have h1 : wrongE [((1 : Nat) : Int), b] [nX K] = 0 := wrong_0 (vec2 (by omega) hb) (by simp)
  have h3 : againL 1 [((1 : Nat) : Int), b] [nX K] = ([nX K], [2, (b : Int)], []) := by
    have hc : canB [((1 : Nat) : Int), b] (nX K) = true := by rw [canX, decide_eq_true ⟨rfl, h⟩]
    unfold againL
    simp only [List.any_cons, List.any_nil, hc, Bool.or_false, if_true]
    have : List.findIdx (canB [((1 : Nat) : Int), (b : Int)]) [nX K] = 0 := by rw [List.findIdx_cons, hc]; rfl
    rw [this]
    rfl
  unfold againV
  rw [if_neg (by simpa using h1)]
  show ((againL 1 [((1 : Nat) : Int), b] [nX K]).1, _, _) = _
  simp only [List.length_singleton]
  have h3' : againL 1 [1, (b : Int)] [nX K] = ([nX K], [2, (b : Int)], []) := h3
  simp [h3']
theorem again3 {K : Nat} (hK : K ≤ 100) : againV [2, (K : Int)] [nX K] = ([], [], 0) := by
  have h1 : wrongE [((2 : Nat) : Int), K] [nX K] = 0 := wrong_0 (vec2 (by omega) hK) (by simp)
  have h3 : againL 1 [((2 : Nat) : Int), K] [nX K] = ([], [((2 : Nat) : Int), (K : Int)], [nX K]) := againL_no fun x hx => by
    simp at hx; subst hx; rw [canX, decide_eq_false (by omega)]
  have hh : hasB [2, (K : Int)] (nX K).dot = true := by have := hasX K 2 K; simpa using this
  unfold againV
  rw [if_neg (by simpa using h1)]
  have h3' : againL 1 [2, (K : Int)] [nX K] = ([], [2, (K : Int)], [nX K]) := h3
  simp [h3', hh]
theorem nd2 {K : Nat} (hK : 1 ≤ K ∧ K ≤ 20) : offerV [0, 0] [nX K] (chOp 2 0 0) = ([chOp 2 0 0], [nX K], 0) := by
  have h1 : wrongE [0, 0] [nX K] = 0 := wrong_0 (by decide) (by simp)
  have h2 : hasB [0, 0] (chOp 2 0 0).dot = false := by decide
  have h3 : canB [0, 0] (chOp 2 0 0) = true := by decide
  have h4 : ([nX K].any fun y => sameD y.dot (chOp 2 0 0).dot) = false := by simp [sameD, nX, mkO, chOp]
  have ha := again1 (a := 1) (b := 0) (K := K) (by omega) (by omega) (by omega) (by omega)
  unfold offerV
  rw [if_neg (by simpa using h1), h2, h3, h4, if_neg (by simp), if_pos rfl]
  have hs : ([0, 0] : List Int).set (chOp 2 0 0).dot.p.toNat (chOp 2 0 0).dot.n = [((1 : Nat) : Int), ((0 : Nat) : Int)] := rfl
  rw [hs, ha]; simp
theorem nd3 {K i : Nat} (hK : 1 ≤ K ∧ K ≤ 20) (hi : i < K) : offerV [1, (i : Int)] [nX K] (chOp 2 1 i) = if i + 1 = K then ([chOp 2 1 i, nX K], [], 0) else ([chOp 2 1 i], [nX K], 0) := by
  have h1 : wrongE [((1 : Nat) : Int), i] [nX K] = 0 := wrong_0 (vec2 (by omega) (by omega)) (by simp)
  have h2 : hasB [((1 : Nat) : Int), i] (chOp 2 1 i).dot = false := by rw [hasC]; simp
  have h3 : canB [((1 : Nat) : Int), i] (chOp 2 1 i) = true := by rw [canC]; simp
  have h4 : ([nX K].any fun y => sameD y.dot (chOp 2 1 i).dot) = false := by simp [sameD, nX, mkO, chOp]
  have hs : ([1, (i : Int)] : List Int).set (chOp 2 1 i).dot.p.toNat (chOp 2 1 i).dot.n = [1, ((i + 1 : Nat) : Int)] := rfl
  have h2' : hasB [1, (i : Int)] (chOp 2 1 i).dot = false := h2
  have h3' : canB [1, (i : Int)] (chOp 2 1 i) = true := h3
  have h1' : wrongE [1, (i : Int)] [nX K] = 0 := h1
  unfold offerV
  rw [if_neg (by simpa using h1'), h2', h3', h4, if_neg (by simp), if_pos rfl, hs]
  split
  · rename_i e
    rw [again2 (by omega) (by omega)]; simp
  · have := again1 (a := 1) (b := i + 1) (K := K) (by omega) (by omega) (by omega) (by omega)
    have this' : againV [1, ((i + 1 : Nat) : Int)] [nX K] = ([], [nX K], 0) := this
    rw [this']; simp
set_option maxHeartbeats 4000000 in
theorem BufNeeds_ok (k : Int) : FnB Try.prog 6 [vi k] (vb true) := by
  refine fnB_intro cf6 (by simp) ?_
  obtain ⟨K, qa1, qa2⟩ := modU k (k := 20) (by omega)
  have qa3 : IntKind.i64.wrap (1 + (K : Int)) = ((K + 1 : Nat) : Int) := by rw [w64 (by omega)]; omega
  have hK : 1 ≤ K + 1 ∧ K + 1 ≤ 20 := by omega
  generalize K + 1 = K at *
  simp (config := {contextual := true, maxSteps := 1000000}) only [go_sem, ints, intRows, iv_c, Nat.reduceAdd, Nat.reduceBEq, Nat.reduceEqDiff, Nat.reduceLeDiff, Nat.reduceLT, reduceIte, Nat.le_refl, true_or, or_true, and_self, Int.reduceLE, Int.reduceLT, Int.reduceEq, Int.reduceNeg, Int.natCast_nonneg, Int.reduceToNat, ops, vals, dots, c6, qa1, qa3]
  first | refine caS_i (chain_ok 2 0 1 (by omega) (by omega) (by omega)) trivial ?_ | refine caD_i (chain_ok 2 0 1 (by omega) (by omega) (by omega)) trivial ?_ | refine gC_i (fun _ => chain_ok 2 0 1 (by omega) (by omega) (by omega)) trivial ?_ | refine gCD_i (fun _ => chain_ok 2 0 1 (by omega) (by omega) (by omega)) trivial ?_
  simp (config := {contextual := true, maxSteps := 1000000}) only [go_sem, ints, intRows, iv_c, Nat.reduceAdd, Nat.reduceBEq, Nat.reduceEqDiff, Nat.reduceLeDiff, Nat.reduceLT, reduceIte, Nat.le_refl, true_or, or_true, and_self, Int.reduceLE, Int.reduceLT, Int.reduceEq, Int.reduceNeg, Int.natCast_nonneg, Int.reduceToNat, ops, vals, dots]
  first | refine caS_i (chain_ok 2 1 K (by omega) (by omega) (by omega)) trivial ?_ | refine caD_i (chain_ok 2 1 K (by omega) (by omega) (by omega)) trivial ?_ | refine gC_i (fun _ => chain_ok 2 1 K (by omega) (by omega) (by omega)) trivial ?_ | refine gCD_i (fun _ => chain_ok 2 1 K (by omega) (by omega) (by omega)) trivial ?_
  simp (config := {contextual := true, maxSteps := 1000000}) only [go_sem, ints, intRows, iv_c, Nat.reduceAdd, Nat.reduceBEq, Nat.reduceEqDiff, Nat.reduceLeDiff, Nat.reduceLT, reduceIte, Nat.le_refl, true_or, or_true, and_self, Int.reduceLE, Int.reduceLT, Int.reduceEq, Int.reduceNeg, Int.natCast_nonneg, Int.reduceToNat, ops, vals, dots]
  rw [op_bslo_2 _ _ _ _ _ rfl rfl]
  simp (config := {contextual := true, maxSteps := 1000000}) only [go_sem, ints, intRows, iv_c, Nat.reduceAdd, Nat.reduceBEq, Nat.reduceEqDiff, Nat.reduceLeDiff, Nat.reduceLT, reduceIte, Nat.le_refl, true_or, or_true, and_self, Int.reduceLE, Int.reduceLT, Int.reduceEq, Int.reduceNeg, Int.natCast_nonneg, Int.reduceToNat, ops, vals, dots]
  first | refine caS_i (Offer_ok (fl := .n) (fm := .b) [0, 0] [] (nX K) (by simp [maxLen]) (by simp [maxLen]) (fun x hx => by cases hx) (nX_ok K)) trivial ?_ | refine caD_i (Offer_ok (fl := .n) (fm := .b) [0, 0] [] (nX K) (by simp [maxLen]) (by simp [maxLen]) (fun x hx => by cases hx) (nX_ok K)) trivial ?_ | refine gC_i (fun _ => Offer_ok (fl := .n) (fm := .b) [0, 0] [] (nX K) (by simp [maxLen]) (by simp [maxLen]) (fun x hx => by cases hx) (nX_ok K)) trivial ?_ | refine gCD_i (fun _ => Offer_ok (fl := .n) (fm := .b) [0, 0] [] (nX K) (by simp [maxLen]) (by simp [maxLen]) (fun x hx => by cases hx) (nX_ok K)) trivial ?_
  rw [nd1 hK]
  simp (config := {contextual := true, maxSteps := 1000000}) only [go_sem, ints, intRows, iv_c, Nat.reduceAdd, Nat.reduceBEq, Nat.reduceEqDiff, Nat.reduceLeDiff, Nat.reduceLT, reduceIte, Nat.le_refl, true_or, or_true, and_self, Int.reduceLE, Int.reduceLT, Int.reduceEq, Int.reduceNeg, Int.natCast_nonneg, Int.reduceToNat, ops, vals, dots]
  have hcl0 : (chainV 2 0 1).length = 1 := by simp [chainV]
  have hg0 : gN (chainV 2 0 1) 0 = chOp 2 0 0 := chain_at (by omega)
  have hokx : ∀ x ∈ [nX K], OkO x := fun x hx => by simp at hx; subst hx; exact nX_ok K
  rw [hcl0, hg0]
  repeat (refine And.intro (by omega) ?_)
  first | refine caS_i (Offer_ok (fl := .n) (fm := .b) [0, 0] [nX K] (chOp 2 0 0) (by simp [maxLen]) (by simp [maxLen]) hokx (chOp_ok (by omega) (by omega))) trivial ?_ | refine caD_i (Offer_ok (fl := .n) (fm := .b) [0, 0] [nX K] (chOp 2 0 0) (by simp [maxLen]) (by simp [maxLen]) hokx (chOp_ok (by omega) (by omega))) trivial ?_ | refine gC_i (fun _ => Offer_ok (fl := .n) (fm := .b) [0, 0] [nX K] (chOp 2 0 0) (by simp [maxLen]) (by simp [maxLen]) hokx (chOp_ok (by omega) (by omega))) trivial ?_ | refine gCD_i (fun _ => Offer_ok (fl := .n) (fm := .b) [0, 0] [nX K] (chOp 2 0 0) (by simp [maxLen]) (by simp [maxLen]) hokx (chOp_ok (by omega) (by omega))) trivial ?_
  rw [nd2 hK]
  simp (config := {contextual := true, maxSteps := 1000000}) only [go_sem, ints, intRows, iv_c, Nat.reduceAdd, Nat.reduceBEq, Nat.reduceEqDiff, Nat.reduceLeDiff, Nat.reduceLT, reduceIte, Nat.le_refl, true_or, or_true, and_self, Int.reduceLE, Int.reduceLT, Int.reduceEq, Int.reduceNeg, Int.natCast_nonneg, Int.reduceToNat, ops, vals, dots]
  have hcl1 : (chainV 2 1 K).length = K := by simp [chainV]
  refine wpC_lp (fun env ob n' => env 0 = vi K ∧ env 4 = ops .b (chainV 2 1 K) ∧ env 5 = .pt 16 0 0 ∧ env 6 = .sl 18 0 2 ∧ ob 16 = some ⟨12, [[vi 0, vi 2, ints .b [1, (K : Int)], vi 0, vi 0, vi 0, vi 0, vi 0, .c (.string ⟨#[]⟩), vi 0, .z, .z]], none⟩ ∧ 66 ≤ n' ∧ ∃ i : Nat, ob 18 = some ⟨1, [[vi 1], [vi i]], none⟩ ∧ env 10 = vi i ∧ i ≤ K ∧ (i < K → env 8 = .im .b [opV (nX K)])) (fun env ob _ => (K - iv (env 10)).toNat) ?_ ?_
  · simp (config := {contextual := true, maxSteps := 1000000}) only [go_sem, ints, intRows, iv_c, Nat.reduceAdd, Nat.reduceBEq, Nat.reduceEqDiff, Nat.reduceLeDiff, Nat.reduceLT, reduceIte, Nat.le_refl, true_or, or_true, and_self, Int.reduceLE, Int.reduceLT, Int.reduceEq, Int.reduceNeg, Int.natCast_nonneg, Int.reduceToNat, ops, vals, dots]
    exact ⟨0, rfl, rfl, by omega⟩
  rintro env ob n' ⟨h0, h4, h5, h6, h16, hn', i, h18, h10, hi, h8⟩
  simp (config := {contextual := true, maxSteps := 1000000}) only [go_sem, ints, intRows, iv_c, Nat.reduceAdd, Nat.reduceBEq, Nat.reduceEqDiff, Nat.reduceLeDiff, Nat.reduceLT, reduceIte, Nat.le_refl, true_or, or_true, and_self, Int.reduceLE, Int.reduceLT, Int.reduceEq, Int.reduceNeg, Int.natCast_nonneg, Int.reduceToNat, ops, vals, dots, h0, h4, h5, h6, h10, hcl1, h16, h18]
  refine ⟨fun hlt => ?_, fun hge => ?_⟩
  · simp at hlt
    have hgc : gN (chainV 2 1 K) i = chOp 2 1 i := chain_at hlt
    repeat (refine And.intro (by omega) ?_)
    rw [h8 hlt, hgc]
    simp (config := {contextual := true, maxSteps := 1000000}) only [go_sem, ints, intRows, iv_c, Nat.reduceAdd, Nat.reduceBEq, Nat.reduceEqDiff, Nat.reduceLeDiff, Nat.reduceLT, reduceIte, Nat.le_refl, true_or, or_true, and_self, Int.reduceLE, Int.reduceLT, Int.reduceEq, Int.reduceNeg, Int.natCast_nonneg, Int.reduceToNat, ops, vals, dots]
    first | refine caS_i (Offer_ok (fl := .n) (fm := .b) [1, (i : Int)] [nX K] (chOp 2 1 i) (by simp [maxLen]) (by simp [maxLen]) hokx (chOp_ok (by omega) (by omega))) trivial ?_ | refine caD_i (Offer_ok (fl := .n) (fm := .b) [1, (i : Int)] [nX K] (chOp 2 1 i) (by simp [maxLen]) (by simp [maxLen]) hokx (chOp_ok (by omega) (by omega))) trivial ?_ | refine gC_i (fun _ => Offer_ok (fl := .n) (fm := .b) [1, (i : Int)] [nX K] (chOp 2 1 i) (by simp [maxLen]) (by simp [maxLen]) hokx (chOp_ok (by omega) (by omega))) trivial ?_ | refine gCD_i (fun _ => Offer_ok (fl := .n) (fm := .b) [1, (i : Int)] [nX K] (chOp 2 1 i) (by simp [maxLen]) (by simp [maxLen]) hokx (chOp_ok (by omega) (by omega))) trivial ?_
    rw [nd3 hK hlt]
    have w1 : IntKind.i64.wrap ((K : Int) - 1) = ((K - 1 : Nat) : Int) := by rw [w64 (by omega)]; omega
    have w2 : IntKind.i64.wrap ((i : Int) + 1) = ((i + 1 : Nat) : Int) := by rw [w64 (by omega)]; omega
    by_cases hik : i + 1 = K
    · rw [if_pos hik]
      have hd : decide ((i : Int) = ((K - 1 : Nat) : Int)) = true := by simp; omega
      simp (config := {contextual := true, maxSteps := 1000000}) only [go_sem, ints, intRows, iv_c, Nat.reduceAdd, Nat.reduceBEq, Nat.reduceEqDiff, Nat.reduceLeDiff, Nat.reduceLT, reduceIte, Nat.le_refl, true_or, or_true, and_self, Int.reduceLE, Int.reduceLT, Int.reduceEq, Int.reduceNeg, Int.natCast_nonneg, Int.reduceToNat, ops, vals, dots, h0, h4, h5, h6, h10, hcl1, h16, h18, w1, w2, hd]
      have ww : IntKind.i64.wrap (2 - 2) = 0 := by decide
      rw [ww]
      exact ⟨fun h => by simp at h, fun _ => ⟨⟨by omega, i + 1, rfl, rfl, by omega, fun h => by omega⟩, by omega⟩⟩
    · rw [if_neg hik]
      have hd : decide ((i : Int) = ((K - 1 : Nat) : Int)) = false := by simp; omega
      simp (config := {contextual := true, maxSteps := 1000000}) only [go_sem, ints, intRows, iv_c, Nat.reduceAdd, Nat.reduceBEq, Nat.reduceEqDiff, Nat.reduceLeDiff, Nat.reduceLT, reduceIte, Nat.le_refl, true_or, or_true, and_self, Int.reduceLE, Int.reduceLT, Int.reduceEq, Int.reduceNeg, Int.natCast_nonneg, Int.reduceToNat, ops, vals, dots, h0, h4, h5, h6, h10, hcl1, h16, h18, w1, w2, hd]
      have ww : IntKind.i64.wrap (2 - 1) = 1 := by decide
      rw [ww]
      exact ⟨fun h => by simp at h, fun _ => ⟨⟨by omega, i + 1, rfl, rfl, by omega⟩, by omega⟩⟩
  · simp at hge
    have hiK : i = K := by omega
    subst hiK
    rw [op_bsl_r]
    rotate_left
    · rfl
    · rfl
    simp (config := {contextual := true, maxSteps := 1000000}) only [go_sem, ints, intRows, iv_c, Nat.reduceAdd, Nat.reduceBEq, Nat.reduceEqDiff, Nat.reduceLeDiff, Nat.reduceLT, reduceIte, Nat.le_refl, true_or, or_true, and_self, Int.reduceLE, Int.reduceLT, Int.reduceEq, Int.reduceNeg, Int.natCast_nonneg, Int.reduceToNat, ops, vals, dots]
    have hokx : ∀ x ∈ [nX i], OkO x := fun x hx => by simp at hx; subst hx; exact nX_ok i
    first | refine caS_i (Again_ok (fl := .b) (fm := .b) [2, (i : Int)] [nX i] (by simp [maxLen]) (by simp [maxLen]) hokx) trivial ?_ | refine caD_i (Again_ok (fl := .b) (fm := .b) [2, (i : Int)] [nX i] (by simp [maxLen]) (by simp [maxLen]) hokx) trivial ?_ | refine gC_i (fun _ => Again_ok (fl := .b) (fm := .b) [2, (i : Int)] [nX i] (by simp [maxLen]) (by simp [maxLen]) hokx) trivial ?_ | refine gCD_i (fun _ => Again_ok (fl := .b) (fm := .b) [2, (i : Int)] [nX i] (by simp [maxLen]) (by simp [maxLen]) hokx) trivial ?_
    rw [again3 (by omega)]
    simp (config := {contextual := true, maxSteps := 1000000}) only [go_sem, ints, intRows, iv_c, Nat.reduceAdd, Nat.reduceBEq, Nat.reduceEqDiff, Nat.reduceLeDiff, Nat.reduceLT, reduceIte, Nat.le_refl, true_or, or_true, and_self, Int.reduceLE, Int.reduceLT, Int.reduceEq, Int.reduceNeg, Int.natCast_nonneg, Int.reduceToNat, ops, vals, dots]
    have ww : IntKind.i64.wrap (0 + 0) = 0 := by decide
    rw [ww]
    first | refine caS_i (wakes12_ok) trivial ?_ | refine caD_i (wakes12_ok) trivial ?_ | refine gC_i (fun _ => wakes12_ok) trivial ?_ | refine gCD_i (fun _ => wakes12_ok) trivial ?_
    simp (config := {contextual := true, maxSteps := 1000000}) only [go_sem, ints, intRows, iv_c, Nat.reduceAdd, Nat.reduceBEq, Nat.reduceEqDiff, Nat.reduceLeDiff, Nat.reduceLT, reduceIte, Nat.le_refl, true_or, or_true, and_self, Int.reduceLE, Int.reduceLT, Int.reduceEq, Int.reduceNeg, Int.natCast_nonneg, Int.reduceToNat, ops, vals, dots]
theorem BufNeeds_law (k : Int) (_ : gInt .i64 k) : FnB Try.prog 6 [vi k] (vb true) := BufNeeds_ok k
end Go.Proofs.Ytcoecplkcajhgaa.D
end
section
set_option linter.unusedVariables false
set_option linter.unusedSimpArgs false
set_option linter.constructorNameAsVariable false
/- The row of BufNeeds, out of what the law answers to plain values. No condition beyond the statement's own. -/
namespace Go.Proofs.Ytcoecplkcajhgaa.bufNeeds
open Go.ChangeShapes Go.WideShapes Go.ChangeAt Go.RowKit Go.Proofs.Ytcoecplkcajhgaa.D
open Go.ChangeMaps (open_string shut_string)
theorem own : ownKnob Try.prog.godebug = none := by kernel_rfl
theorem laidOut : laidOutB Try.prog = true := by kernel_rfl
set_option maxRecDepth 100000 in
set_option maxHeartbeats 2000000 in
theorem lifted (os : Os) (started : os.Started) (H : Type) (enc : TypeId × Value → H) :
    ReturnsInHanded {} Try.checked os 6 .any (Rows.bufNeedsSpec.pre6 enc Try.prog Try.f6 Rows.bufNeedsRow.domain false) (Rows.bufNeedsSpec.post enc Try.prog Try.f6 false true false false) := by
  refine returnsInHanded_of_change_sized (C := Try.checked) own started (by kernel_rfl) Try.func6
    (ChangeSpec.witness6 (enc := enc) (C := Try.checked) false ⟨#[], #[.int .i64 0], []⟩ 8 (by kernel_rfl) (by kernel_rfl) (by kernel_rfl) (by kernel_rfl)) ?_
  intro W base args ds gs before hval0 hW hcnd hsz0 _
  have hval : ∀ (j : Nat) t v, Try.f6.params[j]? = some t → args[j]? = some v → Value.okWide Try.prog W .any base t v := hval0
  have hW' := hW
  obtain ⟨p, q, hA0, hV, rfl, hfz, hnd⟩ := hW
  have hA : DataW.TrodAll enc Try.prog W 0 (fun _ => true) true Try.f6.params.toList args.toList ds p := hA0
  rw [Try.params6] at hA hval
  obtain ⟨v0, vs0, d0, ds0, p0, q0, hargs, rfl, rfl, h0, r0⟩ := trodAll_cons hA
  obtain ⟨rfl, rfl, rfl⟩ := trodAll_nil r0
  obtain rfl : args = #[v0] := by cases args; simp_all
  obtain ⟨rfl, rfl⟩ := trodVars_none hV
  have k0 := h0
  have lt0 : ∀ x ∈ p0, x.block < W.heap.size := by obtain ⟨m, hm⟩ := k0; exact DataW.trod_lt m _ _ _ hm
  obtain ⟨_, e0⟩ := okWide_int Try.underlying3 (hval 0 3 v0 rfl rfl)
  obtain ⟨a0, R0, G0⟩ := arg_one (opn_int Try.underlying3) (by rw [e0]; rfl) h0
  clear hA0 hval0 hsz0
  have hfn := BufNeeds_law a0 G0
  refine (hfn.2 bkA W [v0] (RVs_cons R0 RVs_nil)).mono fun e W' ⟨x, he, hr, bel⟩ => ?_
  subst he
  obtain rfl := res_true hr
  exact ⟨_, rfl, _, _, _, [], _, [], hW', trodAll_mk1 (shut_bool Try.underlying4 _), (trodAll_cons_mk (Below.trod laidOut (by kernel_rfl) (of_decide_eq_true (by kernel_rfl)) k0 bel lt0) trodAll_mk0), rfl, bel.frame _, fun h => by cases h⟩
theorem over : Rows.bufNeedsRow.holds Try.pinned (OpenSpec.ofChange Rows.bufNeedsSpec) :=
  OpenClaim.holds_of_wide 6 Try.f6 rfl rfl rfl rfl rfl rfl rfl ⟨rfl, rfl, rfl, rfl, rfl⟩ rfl rfl rfl rfl rfl (by kernel_rfl) Try.func6 (by kernel_rfl)
    (of_decide_eq_true (by kernel_rfl)) (by unfold Func.isWrapper; first | (rw [if_pos (by decide +kernel)]; kernel_rfl) | (rw [if_neg (by decide +kernel)]; exact ⟨rfl, rfl⟩))
    (fun os started H enc _ => lifted os started H enc)
theorem proved : Rows.BufNeedsSaid := over
#print axioms proved
end Go.Proofs.Ytcoecplkcajhgaa.bufNeeds
namespace Go.Proofs.Ytcoecplkcajhgaa
/-- The row, under a short name, for the claim. -/
theorem bufNeeds_holds : Rows.BufNeedsSaid := bufNeeds.proved
end Go.Proofs.Ytcoecplkcajhgaa
end
