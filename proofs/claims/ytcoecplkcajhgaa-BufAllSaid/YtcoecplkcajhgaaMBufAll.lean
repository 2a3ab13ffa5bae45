/- BufAll, packed. No condition beyond the statement's own. -/
import Derived.Test.YtcoecplkcajhgaaMBufAllc
import Derived.Test.YtcoecplkcajhgaaRows
import Derived.WalkKit
import Derived.ProofKit
import Derived.OpenShut
import Derived.ShutString
import Derived.ChangeOld
import Derived.Below
import Derived.SizedLaws
section
set_option linter.unusedVariables false
set_option linter.unusedSimpArgs false
set_option maxRecDepth 100000
set_option linter.constructorNameAsVariable false

/- Comparing operations; which are not played. No condition. -/
namespace Go.Proofs.Ytcoecplkcajhgaa.D
open Go Go.Proofs

@[go_sem] theorem so_eql (a b : ByteArray) : strsOp .eql a b = some (.bool (decide (a.toList = b.toList))) := (rfl)
@[go_sem] theorem so_neq (a b : ByteArray) : strsOp .neq a b = some (.bool (!decide (a.toList = b.toList))) := (rfl)

@[go_sem] theorem vlV_len (x : Vl) : (vlV x).length = 3 := (rfl)
@[go_sem] theorem vlV_d1 (x : Vl) : (vlV x).drop 1 = [vi x.i, .c (.string x.s)] := (rfl)
@[go_sem] theorem vlV_d2 (x : Vl) : (vlV x).drop 2 = [.c (.string x.s)] := (rfl)
@[go_sem] theorem vlV_t3 (x : Vl) : (vlV x).take 3 = vlV x := (rfl)
@[go_sem] theorem dotV_len (x : Dt) : (dotV x).length = 2 := (rfl)
@[go_sem] theorem dotV_t2 (x : Dt) : (dotV x).take 2 = dotV x := (rfl)
def eqV (a b : Vl) : Bool := decide (a.k = b.k) && decide (a.i = b.i) && decide (a.s.toList = b.s.toList)
def eqS3 (a b : St3) : Bool := decide (a.p = b.p) && decide (a.l = b.l) && decide (a.q = b.q)
def sameL {α : Type} (e : α → α → Bool) : List α → List α → Bool
  | [], [] => true
  | x :: a, y :: b => e x y && sameL e a b
  | _, _ => false
def eqO (a b : Opx) : Bool := sameD a.dot b.dot && decide (a.deps = b.deps) && eqS3 a.st b.st && decide (a.kind = b.kind) && decide (a.table = b.table) && decide (a.key.toList = b.key.toList) && decide (a.col = b.col) && sameL eqV a.vals b.vals && sameL sameD a.dots b.dots

theorem sameL_iff {α : Type} [Inhabited α] {e : α → α → Bool} : ∀ {a b : List α}, sameL e a b = true ↔ a.length = b.length ∧ ∀ i, i < a.length → e (gN a i) (gN b i) = true
  | [], [] => by simp [sameL]
  | [], y :: b => by simp [sameL]
  | x :: a, [] => by simp [sameL]
  | x :: a, y :: b => by
    simp only [sameL, Bool.and_eq_true, sameL_iff (a := a) (b := b), List.length_cons]
    constructor
    · rintro ⟨h1, h2, h3⟩
      refine ⟨by omega, fun i hi => ?_⟩
      cases i with
      | zero => simpa [gN] using h1
      | succ i => have := h3 i (by omega); simpa [gN] using this
    · rintro ⟨h1, h2⟩
      refine ⟨by have := h2 0 (by omega); simpa [gN] using this, by omega, fun i hi => ?_⟩
      have := h2 (i + 1) (by omega); simpa [gN] using this
theorem toList_inj {a b : ByteArray} (h : a.toList = b.toList) : a = b := by
  have h2 : a.data.toList = b.data.toList := by
    rw [ByteArray.toList_eq, ByteArray.toList_eq] at h
    exact h
  cases a; cases b; simp at h2; simp [h2]
theorem sameL_eq {α : Type} {e : α → α → Bool} (he : ∀ x y, e x y = true → x = y) : ∀ {a b : List α}, sameL e a b = true → a = b
  | [], [], _ => rfl
  | x :: a, y :: b, h => by
    simp only [sameL, Bool.and_eq_true] at h
    rw [he x y h.1, sameL_eq he h.2]
theorem sameL_rfl {α : Type} {e : α → α → Bool} (he : ∀ x, e x x = true) : ∀ a : List α, sameL e a a = true
  | [] => rfl
  | x :: a => by simp [sameL, he, sameL_rfl he a]
theorem eqV_eq (x y : Vl) (h : eqV x y = true) : x = y := by
  simp [eqV] at h
  obtain ⟨⟨h1, h2⟩, h3⟩ := h
  cases x; cases y; simp at h1 h2 h3 ⊢; exact ⟨h1, h2, toList_inj h3⟩
theorem sameD_eq (x y : Dt) (h : sameD x y = true) : x = y := by
  simp [sameD] at h
  cases x; cases y; simp at h ⊢; exact h
theorem sameD_iff (x y : Dt) : sameD x y = true ↔ x = y := ⟨sameD_eq x y, fun h => by subst h; simp [sameD]⟩
theorem eqO_eq (x y : Opx) (h : eqO x y = true) : x = y := by
  simp only [eqO, Bool.and_eq_true, decide_eq_true_eq] at h
  obtain ⟨⟨⟨⟨⟨⟨⟨⟨h1, h2⟩, h3⟩, h4⟩, h5⟩, h6⟩, h7⟩, h8⟩, h9⟩ := h
  have e3 : x.st = y.st := by
    simp [eqS3] at h3
    rcases x with ⟨_, _, ⟨_, _, _⟩, _, _, _, _, _, _⟩; rcases y with ⟨_, _, ⟨_, _, _⟩, _, _, _, _, _, _⟩; simp at h3 ⊢; exact ⟨h3.1.1, h3.1.2, h3.2⟩
  have e1 := sameD_eq _ _ h1
  have e6 := toList_inj h6
  have e8 := sameL_eq eqV_eq h8
  have e9 := sameL_eq sameD_eq h9
  cases x; cases y; simp at *; exact ⟨e1, h2, e3, h4, h5, e6, h7, e8, e9⟩
theorem eqO_rfl (x : Opx) : eqO x x = true := by
  simp only [eqO, Bool.and_eq_true, decide_eq_true_eq]
  refine ⟨⟨⟨⟨⟨⟨⟨⟨?_, trivial⟩, ?_⟩, trivial⟩, trivial⟩, trivial⟩, trivial⟩, sameL_rfl (fun x => by simp [eqV]) _⟩, sameL_rfl (fun x => by simp [sameD]) _⟩
  · simp [sameD]
  · simp [eqS3]

theorem KValue_ok (a b : Vl) : FnB Try.prog 53 [.ag (vlV a), .ag (vlV b)] (vb (eqV a b)) := by
  refine fnB_intro cf53 (by simp) ?_
  simp (config := {contextual := true, maxSteps := 1000000}) only [go_sem, ints, intRows, iv_c, Nat.reduceAdd, Nat.reduceBEq, Nat.reduceEqDiff, Nat.reduceLeDiff, Nat.reduceLT, reduceIte, Nat.le_refl, true_or, or_true, and_self, Int.reduceLE, Int.reduceLT, Int.reduceEq, Int.reduceNeg, Int.natCast_nonneg, Int.reduceToNat, ops, vals, dots, c53, vlV]
  rfl
theorem KDot_ok (a b : Dt) : FnB Try.prog 44 [.ag (dotV a), .ag (dotV b)] (vb (sameD a b)) := by
  refine fnB_intro cf44 (by simp) ?_
  simp (config := {contextual := true, maxSteps := 1000000}) only [go_sem, ints, intRows, iv_c, Nat.reduceAdd, Nat.reduceBEq, Nat.reduceEqDiff, Nat.reduceLeDiff, Nat.reduceLT, reduceIte, Nat.le_refl, true_or, or_true, and_self, Int.reduceLE, Int.reduceLT, Int.reduceEq, Int.reduceNeg, Int.natCast_nonneg, Int.reduceToNat, ops, vals, dots, c44, dotV]
  simp [sameD]
def stV (s : St3) : List V := [vi s.p, vi s.l, vi s.q]
theorem KStamp_ok (a b : St3) : FnB Try.prog 45 [.ag (stV a), .ag (stV b)] (vb (eqS3 a b)) := by
  refine fnB_intro cf45 (by simp) ?_
  simp (config := {contextual := true, maxSteps := 1000000}) only [go_sem, ints, intRows, iv_c, Nat.reduceAdd, Nat.reduceBEq, Nat.reduceEqDiff, Nat.reduceLeDiff, Nat.reduceLT, reduceIte, Nat.le_refl, true_or, or_true, and_self, Int.reduceLE, Int.reduceLT, Int.reduceEq, Int.reduceNeg, Int.natCast_nonneg, Int.reduceToNat, ops, vals, dots, c45, stV]
  rfl
theorem sameL_no {α : Type} [Inhabited α] {e : α → α → Bool} {a b : List α} (h : a.length ≠ b.length) : sameL e a b = false := by
  cases hs : sameL e a b with
  | false => rfl
  | true => exact absurd (sameL_iff.1 hs).1 h
theorem sameL_bad {α : Type} [Inhabited α] {e : α → α → Bool} {a b : List α} {i : Nat} (hi : i < a.length) (h : e (gN a i) (gN b i) = false) : sameL e a b = false := by
  cases hs : sameL e a b with
  | false => rfl
  | true => have := (sameL_iff.1 hs).2 i hi; rw [h] at this; cases this
theorem KRow_ok {fl fm : Fl} (a b : List Vl) (ha : a.length ≤ maxLen) : FnB Try.prog 46 [vals fl a, vals fm b] (vb (sameL eqV a b)) := by
  unfold maxLen at ha
  refine fnB_intro cf46 (by simp) ?_
  simp (config := {contextual := true, maxSteps := 1000000}) only [go_sem, ints, intRows, iv_c, Nat.reduceAdd, Nat.reduceBEq, Nat.reduceEqDiff, Nat.reduceLeDiff, Nat.reduceLT, reduceIte, Nat.le_refl, true_or, or_true, and_self, Int.reduceLE, Int.reduceLT, Int.reduceEq, Int.reduceNeg, Int.natCast_nonneg, Int.reduceToNat, ops, vals, dots, c46]
  refine ⟨fun h => ?_, fun h => ?_⟩
  · simp at h; rw [sameL_no (by omega)]
  simp at h
  have hab : a.length = b.length := by omega
  refine wpC_lp (fun env ob n => env 0 = vals fl a ∧ env 1 = vals fm b ∧ ∃ i : Nat, env 5 = vi i ∧ i ≤ a.length ∧ ∀ j, j < i → eqV (gN a j) (gN b j) = true) (fun env ob n => (a.length - iv (env 5)).toNat) ?_ ?_
  · simp (config := {contextual := true, maxSteps := 1000000}) only [go_sem, ints, intRows, iv_c, Nat.reduceAdd, Nat.reduceBEq, Nat.reduceEqDiff, Nat.reduceLeDiff, Nat.reduceLT, reduceIte, Nat.le_refl, true_or, or_true, and_self, Int.reduceLE, Int.reduceLT, Int.reduceEq, Int.reduceNeg, Int.natCast_nonneg, Int.reduceToNat, ops, vals, dots]
    exact ⟨0, rfl, by omega, fun j hj => by omega⟩
  rintro env ob n ⟨h0, h1, i, h5, hi, he⟩
  simp (config := {contextual := true, maxSteps := 1000000}) only [go_sem, ints, intRows, iv_c, Nat.reduceAdd, Nat.reduceBEq, Nat.reduceEqDiff, Nat.reduceLeDiff, Nat.reduceLT, reduceIte, Nat.le_refl, true_or, or_true, and_self, Int.reduceLE, Int.reduceLT, Int.reduceEq, Int.reduceNeg, Int.natCast_nonneg, Int.reduceToNat, ops, vals, dots, h0, h1, h5]
  refine ⟨fun hlt => ?_, fun hge => ?_⟩
  · simp at hlt
    repeat (refine And.intro (by omega) ?_)
    first | refine caS_i (KValue_ok (gN a i) (gN b i)) trivial ?_ | refine caD_i (KValue_ok (gN a i) (gN b i)) trivial ?_ | refine gC_i (fun _ => KValue_ok (gN a i) (gN b i)) trivial ?_ | refine gCD_i (fun _ => KValue_ok (gN a i) (gN b i)) trivial ?_
    simp (config := {contextual := true, maxSteps := 1000000}) only [go_sem, ints, intRows, iv_c, Nat.reduceAdd, Nat.reduceBEq, Nat.reduceEqDiff, Nat.reduceLeDiff, Nat.reduceLT, reduceIte, Nat.le_refl, true_or, or_true, and_self, Int.reduceLE, Int.reduceLT, Int.reduceEq, Int.reduceNeg, Int.natCast_nonneg, Int.reduceToNat, ops, vals, dots, h0, h1, h5]
    refine ⟨fun hn => ?_, fun hy => ⟨⟨i + 1, ?_, by omega, fun j hj => ?_⟩, ?_⟩⟩
    · rw [sameL_bad hlt (by simpa using hn)]
    · rw [w64 (by omega)]; simp
    · by_cases hji : j = i
      · subst hji; simpa using hy
      · exact he j (by omega)
    · rw [w64 (by omega)]; omega
  · simp at hge
    have : sameL eqV a b = true := sameL_iff.2 ⟨hab, fun j hj => he j (by omega)⟩
    rw [this]
theorem KDots_ok {fl fm : Fl} (a b : List Dt) (ha : a.length ≤ maxLen) : FnB Try.prog 47 [dots fl a, dots fm b] (vb (sameL sameD a b)) := by
  unfold maxLen at ha
  refine fnB_intro cf47 (by simp) ?_
  simp (config := {contextual := true, maxSteps := 1000000}) only [go_sem, ints, intRows, iv_c, Nat.reduceAdd, Nat.reduceBEq, Nat.reduceEqDiff, Nat.reduceLeDiff, Nat.reduceLT, reduceIte, Nat.le_refl, true_or, or_true, and_self, Int.reduceLE, Int.reduceLT, Int.reduceEq, Int.reduceNeg, Int.natCast_nonneg, Int.reduceToNat, ops, vals, dots, c47]
  refine ⟨fun h => ?_, fun h => ?_⟩
  · simp at h; rw [sameL_no (by omega)]
  simp at h
  have hab : a.length = b.length := by omega
  refine wpC_lp (fun env ob n => env 0 = dots fl a ∧ env 1 = dots fm b ∧ ∃ i : Nat, env 5 = vi i ∧ i ≤ a.length ∧ ∀ j, j < i → sameD (gN a j) (gN b j) = true) (fun env ob n => (a.length - iv (env 5)).toNat) ?_ ?_
  · simp (config := {contextual := true, maxSteps := 1000000}) only [go_sem, ints, intRows, iv_c, Nat.reduceAdd, Nat.reduceBEq, Nat.reduceEqDiff, Nat.reduceLeDiff, Nat.reduceLT, reduceIte, Nat.le_refl, true_or, or_true, and_self, Int.reduceLE, Int.reduceLT, Int.reduceEq, Int.reduceNeg, Int.natCast_nonneg, Int.reduceToNat, ops, vals, dots]
    exact ⟨0, rfl, by omega, fun j hj => by omega⟩
  rintro env ob n ⟨h0, h1, i, h5, hi, he⟩
  simp (config := {contextual := true, maxSteps := 1000000}) only [go_sem, ints, intRows, iv_c, Nat.reduceAdd, Nat.reduceBEq, Nat.reduceEqDiff, Nat.reduceLeDiff, Nat.reduceLT, reduceIte, Nat.le_refl, true_or, or_true, and_self, Int.reduceLE, Int.reduceLT, Int.reduceEq, Int.reduceNeg, Int.natCast_nonneg, Int.reduceToNat, ops, vals, dots, h0, h1, h5]
  refine ⟨fun hlt => ?_, fun hge => ?_⟩
  · simp at hlt
    repeat (refine And.intro (by omega) ?_)
    first | refine caS_i (KDot_ok (gN a i) (gN b i)) trivial ?_ | refine caD_i (KDot_ok (gN a i) (gN b i)) trivial ?_ | refine gC_i (fun _ => KDot_ok (gN a i) (gN b i)) trivial ?_ | refine gCD_i (fun _ => KDot_ok (gN a i) (gN b i)) trivial ?_
    simp (config := {contextual := true, maxSteps := 1000000}) only [go_sem, ints, intRows, iv_c, Nat.reduceAdd, Nat.reduceBEq, Nat.reduceEqDiff, Nat.reduceLeDiff, Nat.reduceLT, reduceIte, Nat.le_refl, true_or, or_true, and_self, Int.reduceLE, Int.reduceLT, Int.reduceEq, Int.reduceNeg, Int.natCast_nonneg, Int.reduceToNat, ops, vals, dots, h0, h1, h5]
    refine ⟨fun hn => ?_, fun hy => ⟨⟨i + 1, ?_, by omega, fun j hj => ?_⟩, ?_⟩⟩
    · rw [sameL_bad hlt (by simpa using hn)]
    · rw [w64 (by omega)]; simp
    · by_cases hji : j = i
      · subst hji; simpa using hy
      · exact he j (by omega)
    · rw [w64 (by omega)]; omega
  · simp at hge
    have : sameL sameD a b = true := sameL_iff.2 ⟨hab, fun j hj => he j (by omega)⟩
    rw [this]
theorem KOp_ok (a b : Opx) (ha : OkO a) : FnB Try.prog 27 [.ag (opV a), .ag (opV b)] (vb (eqO a b)) := by
  refine fnB_intro cf27 (by simp) ?_
  simp (config := {contextual := true, maxSteps := 1000000}) only [go_sem, ints, intRows, iv_c, Nat.reduceAdd, Nat.reduceBEq, Nat.reduceEqDiff, Nat.reduceLeDiff, Nat.reduceLT, reduceIte, Nat.le_refl, true_or, or_true, and_self, Int.reduceLE, Int.reduceLT, Int.reduceEq, Int.reduceNeg, Int.natCast_nonneg, Int.reduceToNat, ops, vals, dots, c27]
  first | refine caS_i (KDot_ok a.dot b.dot) trivial ?_ | refine caD_i (KDot_ok a.dot b.dot) trivial ?_ | refine gC_i (fun _ => KDot_ok a.dot b.dot) trivial ?_ | refine gCD_i (fun _ => KDot_ok a.dot b.dot) trivial ?_
  simp (config := {contextual := true, maxSteps := 1000000}) only [go_sem, ints, intRows, iv_c, Nat.reduceAdd, Nat.reduceBEq, Nat.reduceEqDiff, Nat.reduceLeDiff, Nat.reduceLT, reduceIte, Nat.le_refl, true_or, or_true, and_self, Int.reduceLE, Int.reduceLT, Int.reduceEq, Int.reduceNeg, Int.natCast_nonneg, Int.reduceToNat, ops, vals, dots]
  first | refine caS_i (Ints_ok a.deps b.deps ha.d) trivial ?_ | refine caD_i (Ints_ok a.deps b.deps ha.d) trivial ?_ | refine gC_i (fun _ => Ints_ok a.deps b.deps ha.d) trivial ?_ | refine gCD_i (fun _ => Ints_ok a.deps b.deps ha.d) trivial ?_
  simp (config := {contextual := true, maxSteps := 1000000}) only [go_sem, ints, intRows, iv_c, Nat.reduceAdd, Nat.reduceBEq, Nat.reduceEqDiff, Nat.reduceLeDiff, Nat.reduceLT, reduceIte, Nat.le_refl, true_or, or_true, and_self, Int.reduceLE, Int.reduceLT, Int.reduceEq, Int.reduceNeg, Int.natCast_nonneg, Int.reduceToNat, ops, vals, dots]
  first | refine caS_i (KStamp_ok a.st b.st) trivial ?_ | refine caD_i (KStamp_ok a.st b.st) trivial ?_ | refine gC_i (fun _ => KStamp_ok a.st b.st) trivial ?_ | refine gCD_i (fun _ => KStamp_ok a.st b.st) trivial ?_
  simp (config := {contextual := true, maxSteps := 1000000}) only [go_sem, ints, intRows, iv_c, Nat.reduceAdd, Nat.reduceBEq, Nat.reduceEqDiff, Nat.reduceLeDiff, Nat.reduceLT, reduceIte, Nat.le_refl, true_or, or_true, and_self, Int.reduceLE, Int.reduceLT, Int.reduceEq, Int.reduceNeg, Int.natCast_nonneg, Int.reduceToNat, ops, vals, dots]
  first | refine caS_i (KRow_ok a.vals b.vals ha.v) trivial ?_ | refine caD_i (KRow_ok a.vals b.vals ha.v) trivial ?_ | refine gC_i (fun _ => KRow_ok a.vals b.vals ha.v) trivial ?_ | refine gCD_i (fun _ => KRow_ok a.vals b.vals ha.v) trivial ?_
  simp (config := {contextual := true, maxSteps := 1000000}) only [go_sem, ints, intRows, iv_c, Nat.reduceAdd, Nat.reduceBEq, Nat.reduceEqDiff, Nat.reduceLeDiff, Nat.reduceLT, reduceIte, Nat.le_refl, true_or, or_true, and_self, Int.reduceLE, Int.reduceLT, Int.reduceEq, Int.reduceNeg, Int.natCast_nonneg, Int.reduceToNat, ops, vals, dots]
  first | refine caS_i (KDots_ok a.dots b.dots ha.s) trivial ?_ | refine caD_i (KDots_ok a.dots b.dots ha.s) trivial ?_ | refine gC_i (fun _ => KDots_ok a.dots b.dots ha.s) trivial ?_ | refine gCD_i (fun _ => KDots_ok a.dots b.dots ha.s) trivial ?_
  simp (config := {contextual := true, maxSteps := 1000000}) only [go_sem, ints, intRows, iv_c, Nat.reduceAdd, Nat.reduceBEq, Nat.reduceEqDiff, Nat.reduceLeDiff, Nat.reduceLT, reduceIte, Nat.le_refl, true_or, or_true, and_self, Int.reduceLE, Int.reduceLT, Int.reduceEq, Int.reduceNeg, Int.natCast_nonneg, Int.reduceToNat, ops, vals, dots]
  rfl
theorem KOps_ok {fl fm : Fl} (a b : List Opx) (ha : a.length ≤ maxLen) (hok : ∀ x ∈ a, OkO x) : FnB Try.prog 13 [ops fl a, ops fm b] (vb (sameL eqO a b)) := by
  unfold maxLen at ha
  refine fnB_intro cf13 (by simp) ?_
  simp (config := {contextual := true, maxSteps := 1000000}) only [go_sem, ints, intRows, iv_c, Nat.reduceAdd, Nat.reduceBEq, Nat.reduceEqDiff, Nat.reduceLeDiff, Nat.reduceLT, reduceIte, Nat.le_refl, true_or, or_true, and_self, Int.reduceLE, Int.reduceLT, Int.reduceEq, Int.reduceNeg, Int.natCast_nonneg, Int.reduceToNat, ops, vals, dots, c13]
  refine ⟨fun h => ?_, fun h => ?_⟩
  · simp at h; rw [sameL_no (by omega)]
  simp at h
  have hab : a.length = b.length := by omega
  refine wpC_lp (fun env ob n => env 0 = ops fl a ∧ env 1 = ops fm b ∧ ∃ i : Nat, env 5 = vi i ∧ i ≤ a.length ∧ ∀ j, j < i → eqO (gN a j) (gN b j) = true) (fun env ob n => (a.length - iv (env 5)).toNat) ?_ ?_
  · simp (config := {contextual := true, maxSteps := 1000000}) only [go_sem, ints, intRows, iv_c, Nat.reduceAdd, Nat.reduceBEq, Nat.reduceEqDiff, Nat.reduceLeDiff, Nat.reduceLT, reduceIte, Nat.le_refl, true_or, or_true, and_self, Int.reduceLE, Int.reduceLT, Int.reduceEq, Int.reduceNeg, Int.natCast_nonneg, Int.reduceToNat, ops, vals, dots]
    exact ⟨0, rfl, by omega, fun j hj => by omega⟩
  rintro env ob n ⟨h0, h1, i, h5, hi, he⟩
  simp (config := {contextual := true, maxSteps := 1000000}) only [go_sem, ints, intRows, iv_c, Nat.reduceAdd, Nat.reduceBEq, Nat.reduceEqDiff, Nat.reduceLeDiff, Nat.reduceLT, reduceIte, Nat.le_refl, true_or, or_true, and_self, Int.reduceLE, Int.reduceLT, Int.reduceEq, Int.reduceNeg, Int.natCast_nonneg, Int.reduceToNat, ops, vals, dots, h0, h1, h5]
  refine ⟨fun hlt => ?_, fun hge => ?_⟩
  · simp at hlt
    repeat (refine And.intro (by omega) ?_)
    first | refine caS_i (KOp_ok (gN a i) (gN b i) (hok _ (gN_mem hlt))) trivial ?_ | refine caD_i (KOp_ok (gN a i) (gN b i) (hok _ (gN_mem hlt))) trivial ?_ | refine gC_i (fun _ => KOp_ok (gN a i) (gN b i) (hok _ (gN_mem hlt))) trivial ?_ | refine gCD_i (fun _ => KOp_ok (gN a i) (gN b i) (hok _ (gN_mem hlt))) trivial ?_
    simp (config := {contextual := true, maxSteps := 1000000}) only [go_sem, ints, intRows, iv_c, Nat.reduceAdd, Nat.reduceBEq, Nat.reduceEqDiff, Nat.reduceLeDiff, Nat.reduceLT, reduceIte, Nat.le_refl, true_or, or_true, and_self, Int.reduceLE, Int.reduceLT, Int.reduceEq, Int.reduceNeg, Int.natCast_nonneg, Int.reduceToNat, ops, vals, dots, h0, h1, h5]
    refine ⟨fun hn => ?_, fun hy => ⟨⟨i + 1, ?_, by omega, fun j hj => ?_⟩, ?_⟩⟩
    · rw [sameL_bad hlt (by simpa using hn)]
    · rw [w64 (by omega)]; simp
    · by_cases hji : j = i
      · subst hji; simpa using hy
      · exact he j (by omega)
    · rw [w64 (by omega)]; omega
  · simp at hge
    have : sameL eqO a b = true := sameL_iff.2 ⟨hab, fun j hj => he j (by omega)⟩
    rw [this]

/-- More than is played? -/
def longV (l : List Vl) : Bool := l.any fun v => decide (300 < v.s.size)
theorem any_no {α : Type} [Inhabited α] {p : α → Bool} {l : List α} (h : ∀ j, j < l.length → p (gN l j) = false) : l.any p = false := by
  cases ha : l.any p with
  | false => rfl
  | true =>
    obtain ⟨x, hx, hp⟩ := List.any_eq_true.1 ha
    obtain ⟨j, hj, rfl⟩ := List.mem_iff_getElem.1 hx
    have := h j hj
    rw [gN_eq hj, hp] at this; cases this
theorem Long_ok {fl : Fl} (l : List Vl) (hl : l.length ≤ maxLen) : FnB Try.prog 34 [vals fl l] (vb (longV l)) := by
  unfold maxLen at hl
  refine fnB_intro cf34 (by simp) ?_
  simp (config := {contextual := true, maxSteps := 1000000}) only [go_sem, ints, intRows, iv_c, Nat.reduceAdd, Nat.reduceBEq, Nat.reduceEqDiff, Nat.reduceLeDiff, Nat.reduceLT, reduceIte, Nat.le_refl, true_or, or_true, and_self, Int.reduceLE, Int.reduceLT, Int.reduceEq, Int.reduceNeg, Int.natCast_nonneg, Int.reduceToNat, ops, vals, dots, c34]
  refine wpC_lp (fun env ob n => env 0 = vals fl l ∧ ∃ i : Nat, env 3 = vi i ∧ i ≤ l.length ∧ ∀ j, j < i → decide (300 < (gN l j).s.size) = false) (fun env ob n => (l.length - iv (env 3)).toNat) ?_ ?_
  · simp (config := {contextual := true, maxSteps := 1000000}) only [go_sem, ints, intRows, iv_c, Nat.reduceAdd, Nat.reduceBEq, Nat.reduceEqDiff, Nat.reduceLeDiff, Nat.reduceLT, reduceIte, Nat.le_refl, true_or, or_true, and_self, Int.reduceLE, Int.reduceLT, Int.reduceEq, Int.reduceNeg, Int.natCast_nonneg, Int.reduceToNat, ops, vals, dots]
    exact ⟨0, rfl, by omega, fun j hj => by omega⟩
  rintro env ob n ⟨h0, i, h3, hi, he⟩
  simp (config := {contextual := true, maxSteps := 1000000}) only [go_sem, ints, intRows, iv_c, Nat.reduceAdd, Nat.reduceBEq, Nat.reduceEqDiff, Nat.reduceLeDiff, Nat.reduceLT, reduceIte, Nat.le_refl, true_or, or_true, and_self, Int.reduceLE, Int.reduceLT, Int.reduceEq, Int.reduceNeg, Int.natCast_nonneg, Int.reduceToNat, ops, vals, dots, h0, h3]
  refine ⟨fun hlt => ?_, fun hge => ?_⟩
  · simp at hlt
    repeat (refine And.intro (by omega) ?_)
    refine ⟨fun hb => ?_, fun hg => ⟨⟨i + 1, ?_, by omega, fun j hj => ?_⟩, ?_⟩⟩
    · have : longV l = true := List.any_eq_true.2 ⟨_, gN_mem hlt, by simp at hb ⊢; omega⟩
      rw [this]
    · rw [w64 (by omega)]; simp
    · by_cases hji : j = i
      · subst hji; simp at hg ⊢; omega
      · exact he j (by omega)
    · rw [w64 (by omega)]; omega
  · simp at hge
    have : longV l = false := any_no fun j hj => he j (by omega)
    rw [this]
def heavyR (l : List Vl) : Bool := decide (40 < l.length) || longV l
theorem HeavyR_ok {fl : Fl} (l : List Vl) : FnB Try.prog 15 [vals fl l] (vb (heavyR l)) := by
  refine fnB_intro cf15 (by simp) ?_
  simp (config := {contextual := true, maxSteps := 1000000}) only [go_sem, ints, intRows, iv_c, Nat.reduceAdd, Nat.reduceBEq, Nat.reduceEqDiff, Nat.reduceLeDiff, Nat.reduceLT, reduceIte, Nat.le_refl, true_or, or_true, and_self, Int.reduceLE, Int.reduceLT, Int.reduceEq, Int.reduceNeg, Int.natCast_nonneg, Int.reduceToNat, ops, vals, dots, c15]
  refine gC_i (fun hb => Long_ok l (by simp at hb; unfold maxLen; omega)) trivial ?_
  simp (config := {contextual := true, maxSteps := 1000000}) only [go_sem, ints, intRows, iv_c, Nat.reduceAdd, Nat.reduceBEq, Nat.reduceEqDiff, Nat.reduceLeDiff, Nat.reduceLT, reduceIte, Nat.le_refl, true_or, or_true, and_self, Int.reduceLE, Int.reduceLT, Int.reduceEq, Int.reduceNeg, Int.natCast_nonneg, Int.reduceToNat, ops, vals, dots]
  have : (40 < (l.length : Int)) ↔ (40 < l.length) := by omega
  simp [heavyR, this]
def heavyO (x : Opx) : Bool := decide (30 < x.deps.length) || decide (100 < x.key.size) || heavyR x.vals || decide (100 < x.dots.length)
def heavyOs (l : List Opx) : Bool := decide (300 < l.length) || l.any heavyO
theorem HeavyOs_ok {fl : Fl} (l : List Opx) : FnB Try.prog 7 [ops fl l] (vb (heavyOs l)) := by
  refine fnB_intro cf7 (by simp) ?_
  simp (config := {contextual := true, maxSteps := 1000000}) only [go_sem, ints, intRows, iv_c, Nat.reduceAdd, Nat.reduceBEq, Nat.reduceEqDiff, Nat.reduceLeDiff, Nat.reduceLT, reduceIte, Nat.le_refl, true_or, or_true, and_self, Int.reduceLE, Int.reduceLT, Int.reduceEq, Int.reduceNeg, Int.natCast_nonneg, Int.reduceToNat, ops, vals, dots, c7]
  refine ⟨fun hb => ?_, fun hl => ?_⟩
  · simp at hb
    have : heavyOs l = true := by simp [heavyOs]; left; omega
    rw [this]
  simp at hl
  refine wpC_lp (fun env ob n => env 0 = ops fl l ∧ ∃ i : Nat, env 3 = vi i ∧ i ≤ l.length ∧ ∀ j, j < i → heavyO (gN l j) = false) (fun env ob n => (l.length - iv (env 3)).toNat) ?_ ?_
  · simp (config := {contextual := true, maxSteps := 1000000}) only [go_sem, ints, intRows, iv_c, Nat.reduceAdd, Nat.reduceBEq, Nat.reduceEqDiff, Nat.reduceLeDiff, Nat.reduceLT, reduceIte, Nat.le_refl, true_or, or_true, and_self, Int.reduceLE, Int.reduceLT, Int.reduceEq, Int.reduceNeg, Int.natCast_nonneg, Int.reduceToNat, ops, vals, dots]
    exact ⟨0, rfl, by omega, fun j hj => by omega⟩
  rintro env ob n ⟨h0, i, h3, hi, he⟩
  simp (config := {contextual := true, maxSteps := 1000000}) only [go_sem, ints, intRows, iv_c, Nat.reduceAdd, Nat.reduceBEq, Nat.reduceEqDiff, Nat.reduceLeDiff, Nat.reduceLT, reduceIte, Nat.le_refl, true_or, or_true, and_self, Int.reduceLE, Int.reduceLT, Int.reduceEq, Int.reduceNeg, Int.natCast_nonneg, Int.reduceToNat, ops, vals, dots, h0, h3]
  refine ⟨fun hlt => ?_, fun hge => ?_⟩
  · simp at hlt
    refine ⟨by omega, fun _ => by omega, fun _ => by omega, ?_⟩
    first | refine caS_i (HeavyR_ok (gN l i).vals) trivial ?_ | refine caD_i (HeavyR_ok (gN l i).vals) trivial ?_ | refine gC_i (fun _ => HeavyR_ok (gN l i).vals) trivial ?_ | refine gCD_i (fun _ => HeavyR_ok (gN l i).vals) trivial ?_
    simp (config := {contextual := true, maxSteps := 1000000}) only [go_sem, ints, intRows, iv_c, Nat.reduceAdd, Nat.reduceBEq, Nat.reduceEqDiff, Nat.reduceLeDiff, Nat.reduceLT, reduceIte, Nat.le_refl, true_or, or_true, and_self, Int.reduceLE, Int.reduceLT, Int.reduceEq, Int.reduceNeg, Int.natCast_nonneg, Int.reduceToNat, ops, vals, dots, h0, h3]
    have e : (decide (30 < ((gN l i).deps.length : Int)) || decide (100 < ((gN l i).key.size : Int)) || heavyR (gN l i).vals || decide (100 < ((gN l i).dots.length : Int))) = heavyO (gN l i) := by
      have a1 : (30 < ((gN l i).deps.length : Int)) ↔ 30 < (gN l i).deps.length := by omega
      have a2 : (100 < ((gN l i).key.size : Int)) ↔ 100 < (gN l i).key.size := by omega
      have a3 : (100 < ((gN l i).dots.length : Int)) ↔ 100 < (gN l i).dots.length := by omega
      simp [heavyO, a1, a2, a3]
    rw [e]
    refine ⟨fun _ => by omega, fun hb => ?_, fun hg => ⟨⟨i + 1, ?_, by omega, fun j hj => ?_⟩, ?_⟩⟩
    · have : heavyOs l = true := by
        rw [heavyOs, List.any_eq_true.2 ⟨_, gN_mem hlt, hb⟩]; simp
      rw [this]
    · rw [w64 (by omega)]; simp
    · by_cases hji : j = i
      · subst hji; exact hg
      · exact he j (by omega)
    · rw [w64 (by omega)]; omega
  · simp at hge
    have : heavyOs l = false := by
      rw [heavyOs, any_no fun j hj => he j (by omega)]
      simp; omega
    rw [this]
theorem heavyO_ok {x : Opx} (h : heavyO x = false) (hn : inI x.dot.n) : OkO x := by
  simp [heavyO, heavyR] at h
  exact ⟨by unfold maxLen; omega, by unfold maxLen; omega, by unfold maxLen; omega, hn⟩
theorem heavyOs_ok {l : List Opx} (h : heavyOs l = false) (hn : ∀ x ∈ l, inI x.dot.n) : ∀ x ∈ l, OkO x := fun x hx => by
  simp only [heavyOs, Bool.or_eq_false_iff] at h
  have := List.any_eq_false.1 h.2 x hx
  exact heavyO_ok (by simpa using this) (hn x hx)
end Go.Proofs.Ytcoecplkcajhgaa.D
end
section
set_option linter.unusedVariables false
set_option linter.unusedSimpArgs false
set_option maxRecDepth 100000
set_option linter.constructorNameAsVariable false

/- What the laws of the buffer call. No condition. -/
namespace Go.Proofs.Ytcoecplkcajhgaa.D
open Go Go.Proofs

theorem RCan_ok {fl : Fl} (v : List Int) (x : Opx) (hl : v.length ≤ maxLen) (hv : ∀ n ∈ v, inI n) (hx : OkO x) : FnB Try.prog 8 [ints fl v, .ag (opV x)] (vb (canB v x)) := by
  refine fnB_intro cf8 (by simp) ?_
  simp (config := {contextual := true, maxSteps := 1000000}) only [go_sem, ints, intRows, iv_c, Nat.reduceAdd, Nat.reduceBEq, Nat.reduceEqDiff, Nat.reduceLeDiff, Nat.reduceLT, reduceIte, Nat.le_refl, true_or, or_true, and_self, Int.reduceLE, Int.reduceLT, Int.reduceEq, Int.reduceNeg, Int.natCast_nonneg, Int.reduceToNat, ops, vals, dots, c8]
  first | refine caS_i (RNext_ok v x.dot hl hx.n hv) trivial ?_ | refine caD_i (RNext_ok v x.dot hl hx.n hv) trivial ?_ | refine gC_i (fun _ => RNext_ok v x.dot hl hx.n hv) trivial ?_ | refine gCD_i (fun _ => RNext_ok v x.dot hl hx.n hv) trivial ?_
  simp (config := {contextual := true, maxSteps := 1000000}) only [go_sem, ints, intRows, iv_c, Nat.reduceAdd, Nat.reduceBEq, Nat.reduceEqDiff, Nat.reduceLeDiff, Nat.reduceLT, reduceIte, Nat.le_refl, true_or, or_true, and_self, Int.reduceLE, Int.reduceLT, Int.reduceEq, Int.reduceNeg, Int.natCast_nonneg, Int.reduceToNat, ops, vals, dots]
  first | refine caS_i (RLe_ok x.deps v hx.d) trivial ?_ | refine caD_i (RLe_ok x.deps v hx.d) trivial ?_ | refine gC_i (fun _ => RLe_ok x.deps v hx.d) trivial ?_ | refine gCD_i (fun _ => RLe_ok x.deps v hx.d) trivial ?_
  simp (config := {contextual := true, maxSteps := 1000000}) only [go_sem, ints, intRows, iv_c, Nat.reduceAdd, Nat.reduceBEq, Nat.reduceEqDiff, Nat.reduceLeDiff, Nat.reduceLT, reduceIte, Nat.le_refl, true_or, or_true, and_self, Int.reduceLE, Int.reduceLT, Int.reduceEq, Int.reduceNeg, Int.natCast_nonneg, Int.reduceToNat, ops, vals, dots]
  unfold canB
  cases nextB v x.dot <;> rfl

theorem ia_c0 (ob : OB) (k : Nat) (f : Fl) (r : List V) (l : List (List V)) : iaV ob k (.im f (r :: l)) 0 = if r.length = k then some (.bp r) else none := by
  simp [iaV]
theorem ia_c1 (ob : OB) (k : Nat) (f : Fl) (r s : List V) (l : List (List V)) : iaV ob k (.im f (r :: s :: l)) 1 = if s.length = k then some (.bp s) else none := by
  simp only [iaV]
  rw [if_pos ⟨by omega, by simp; omega⟩]
  rfl
def mkO (p n : Int) (deps : List Int) : Opx := ⟨⟨p, n⟩, deps, ⟨0, 0, 0⟩, 0, 0, ⟨#[]⟩, 0, [], []⟩
theorem mkO_ok {p n : Int} {deps : List Int} (h : deps.length ≤ maxLen) (hn : inI n) : OkO (mkO p n deps) := ⟨h, by simp [mkO], by simp [mkO], hn⟩
theorem wk1 : offerV [0] [] (mkO 0 2 [1]) = ([], [mkO 0 2 [1]], 9) := by rfl
theorem wk2 : offerV [0] [mkO 0 2 [1]] (mkO 0 1 [0]) = ([mkO 0 1 [0], mkO 0 2 [1]], [], 0) := by rfl
theorem wakes12_ok : FnB Try.prog 11 [] (vb true) := by
  refine fnB_intro cf11 (by simp) ?_
  simp (config := {contextual := true, maxSteps := 1000000}) only [go_sem, ints, intRows, iv_c, Nat.reduceAdd, Nat.reduceBEq, Nat.reduceEqDiff, Nat.reduceLeDiff, Nat.reduceLT, reduceIte, Nat.le_refl, true_or, or_true, and_self, Int.reduceLE, Int.reduceLT, Int.reduceEq, Int.reduceNeg, Int.natCast_nonneg, Int.reduceToNat, ops, vals, dots, c11]
  refine caS_i (Offer_ok [0] [] (mkO 0 2 [1]) (by simp [maxLen]) (by simp [maxLen]) (fun x hx => by cases hx) (mkO_ok (by simp [maxLen]) (by simp [inI]))) trivial ?_
  simp (config := {contextual := true, maxSteps := 1000000}) only [go_sem, ints, intRows, iv_c, Nat.reduceAdd, Nat.reduceBEq, Nat.reduceEqDiff, Nat.reduceLeDiff, Nat.reduceLT, reduceIte, Nat.le_refl, true_or, or_true, and_self, Int.reduceLE, Int.reduceLT, Int.reduceEq, Int.reduceNeg, Int.natCast_nonneg, Int.reduceToNat, ops, vals, dots, wk1]
  refine caS_i (Offer_ok [0] [mkO 0 2 [1]] (mkO 0 1 [0]) (by simp [maxLen]) (by simp [maxLen]) (fun x hx => by simp at hx; subst hx; exact mkO_ok (by simp [maxLen]) (by simp [inI])) (mkO_ok (by simp [maxLen]) (by simp [inI]))) trivial ?_
  simp (config := {contextual := true, maxSteps := 1000000}) only [go_sem, ints, intRows, iv_c, Nat.reduceAdd, Nat.reduceBEq, Nat.reduceEqDiff, Nat.reduceLeDiff, Nat.reduceLT, reduceIte, Nat.le_refl, true_or, or_true, and_self, Int.reduceLE, Int.reduceLT, Int.reduceEq, Int.reduceNeg, Int.natCast_nonneg, Int.reduceToNat, ops, vals, dots, wk2, ia_c1]
  rfl

/-- Operations of one peer, one behind the other. -/
def chOp (n p j : Nat) : Opx := ⟨⟨p, (j + 1 : Nat)⟩, (List.replicate n (0 : Int)).set p j, ⟨0, 0, 0⟩, 1, 0, ⟨#[107]⟩, 0, [], []⟩
def chainV (n p c : Nat) : List Opx := (List.range c).map (chOp n p)
def chR (n p id j : Nat) : List V := [vi (p : Nat), vi ((j + 1 : Nat)), .sl id 0 n, vi 0, vi 0, vi 0, vi 1, vi 0, .c (.string ⟨#[107]⟩), vi 0, .z, .z]
def rowsC (n p : Nat) (ids : List Nat) : List (List V) := (List.range ids.length).map fun j => chR n p (gN ids j) j
theorem rowsC_app (n p : Nat) (ids : List Nat) (x : Nat) : rowsC n p (ids ++ [x]) = rowsC n p ids ++ [chR n p x ids.length] := by
  unfold rowsC
  rw [List.length_append, List.length_singleton, List.range_succ, List.map_append]
  congr 1
  · refine List.map_congr_left fun j hj => ?_
    rw [List.mem_range] at hj
    rw [gN, gN, List.getD_eq_getElem?_getD, List.getElem?_append_left hj, ← List.getD_eq_getElem?_getD]
  · simp [gN]
theorem chain_ok (n p c : Nat) (hn : n ≤ 5) (hp : p < n) (hc : c ≤ 60) : FnB Try.prog 12 [vi n, vi p, vi c] (ops .o (chainV n p c)) := by
  refine fnB_intro cf12 (by simp) ?_
  simp (config := {contextual := true, maxSteps := 1000000}) only [go_sem, ints, intRows, iv_c, Nat.reduceAdd, Nat.reduceBEq, Nat.reduceEqDiff, Nat.reduceLeDiff, Nat.reduceLT, reduceIte, Nat.le_refl, true_or, or_true, and_self, Int.reduceLE, Int.reduceLT, Int.reduceEq, Int.reduceNeg, Int.natCast_nonneg, Int.reduceToNat, ops, vals, dots, c12]
  refine wpC_lp (fun env ob n' => env 0 = vi n ∧ env 1 = vi p ∧ env 2 = vi c ∧ ∃ (i : Nat) (ids : List Nat), env 8 = vi i ∧ i ≤ c ∧ ids.length = i ∧ ((i = 0 ∧ env 7 = .z) ∨ (i ≠ 0 ∧ ∃ oid cap, env 7 = .sl oid 0 i ∧ oid < n' ∧ ob oid = some ⟨12, rowsC n p ids, cap⟩ ∧ ∀ j, j < i → gN ids j ≠ oid)) ∧ ∀ j, j < i → gN ids j < n' ∧ ob (gN ids j) = some ⟨1, ((List.replicate n (0 : Int)).set p j).map fun n => [vi n], none⟩) (fun env ob _ => (c - iv (env 8)).toNat) ?_ ?_
  · simp (config := {contextual := true, maxSteps := 1000000}) only [go_sem, ints, intRows, iv_c, Nat.reduceAdd, Nat.reduceBEq, Nat.reduceEqDiff, Nat.reduceLeDiff, Nat.reduceLT, reduceIte, Nat.le_refl, true_or, or_true, and_self, Int.reduceLE, Int.reduceLT, Int.reduceEq, Int.reduceNeg, Int.natCast_nonneg, Int.reduceToNat, ops, vals, dots]
    exact ⟨0, [], rfl, by omega, rfl, by simp, fun j hj => by omega⟩
  rintro env ob n' ⟨h0, h1, h2, i, ids, h8, hi, hil, h7, hids⟩
  simp (config := {contextual := true, maxSteps := 1000000}) only [go_sem, ints, intRows, iv_c, Nat.reduceAdd, Nat.reduceBEq, Nat.reduceEqDiff, Nat.reduceLeDiff, Nat.reduceLT, reduceIte, Nat.le_refl, true_or, or_true, and_self, Int.reduceLE, Int.reduceLT, Int.reduceEq, Int.reduceNeg, Int.natCast_nonneg, Int.reduceToNat, ops, vals, dots, h0, h1, h2, h8]
  refine ⟨fun hlt => ?_, fun hge => ?_⟩
  · simp at hlt
    have w1 : IntKind.i64.wrap ((i : Int) + 1) = ((i + 1 : Nat) : Int) := by rw [w64 (by omega)]; omega
    refine ⟨by unfold maxLen; omega, by omega, by simpa using hp, ?_⟩
    rw [op_bsl_r]
    · simp (config := {contextual := true, maxSteps := 1000000}) only [go_sem, ints, intRows, iv_c, Nat.reduceAdd, Nat.reduceBEq, Nat.reduceEqDiff, Nat.reduceLeDiff, Nat.reduceLT, reduceIte, Nat.le_refl, true_or, or_true, and_self, Int.reduceLE, Int.reduceLT, Int.reduceEq, Int.reduceNeg, Int.natCast_nonneg, Int.reduceToNat, ops, vals, dots, w1]
      refine nxS_new (k := 12) (rows := rowsC n p ids) (xs := [chR n p (n' + 1 + 1 + 1 + 1) i]) ?_ (by simp) rfl rfl (by simp [rowsC, maxLen]; omega) fun ob' hob' hfr => ?_
      · rcases h7 with ⟨h7, h7'⟩ | ⟨h7, oid, cap, h7', ho1, ho2, ho3⟩
        · have : ids = [] := List.eq_nil_of_length_eq_zero (by omega)
          subst this
          exact .inl ⟨rfl, h7'⟩
        · refine .inr ⟨oid, cap, by rw [h7']; simp [rowsC, hil], ?_⟩
          rw [updO, if_neg (by omega), updO, if_neg (by omega), ho2]
      simp (config := {contextual := true, maxSteps := 1000000}) only [go_sem, ints, intRows, iv_c, Nat.reduceAdd, Nat.reduceBEq, Nat.reduceEqDiff, Nat.reduceLeDiff, Nat.reduceLT, reduceIte, Nat.le_refl, true_or, or_true, and_self, Int.reduceLE, Int.reduceLT, Int.reduceEq, Int.reduceNeg, Int.natCast_nonneg, Int.reduceToNat, ops, vals, dots, h0, h1, h2, h8, w1]
      have hne4 : ∀ j, j < i → ∀ len, env 7 ≠ .sl (gN ids j) 0 len := fun j hj len e => by
        rcases h7 with ⟨h7, h7'⟩ | ⟨h7, oid, cap, h7', ho1, ho2, ho3⟩
        · omega
        · rw [h7'] at e; injection e with e; exact ho3 j hj e.symm
      have hne5 : ∀ len, env 7 ≠ .sl (n' + 4) 0 len := fun len e => by
        rcases h7 with ⟨h7, h7'⟩ | ⟨h7, oid, cap, h7', ho1, ho2, ho3⟩
        · rw [h7'] at e; cases e
        · rw [h7'] at e; injection e; omega
      have hgl : ∀ j, j < i → gN (ids ++ [n' + 4]) j = gN ids j := fun j hj => by
        rw [gN, gN, List.getD_eq_getElem?_getD, List.getElem?_append_left (by omega), ← List.getD_eq_getElem?_getD]
      have hgr : gN (ids ++ [n' + 4]) i = n' + 4 := by
        rw [gN, List.getD_eq_getElem?_getD, List.getElem?_append_right (by omega)]; simp [hil]
      refine ⟨⟨i + 1, ids ++ [n' + 4], rfl, by omega, by simp [hil], .inr ⟨by omega, n' + 19, none, ?_, by omega, ?_, ?_⟩, ?_⟩, by omega⟩
      · simp [rowsC, hil]
      · rw [rowsC_app, hil]; exact hob'
      · intro j hj
        by_cases hji : j < i
        · rw [hgl j hji]; have := (hids j hji).1; omega
        · have : j = i := by omega
          subst this; rw [hgr]; omega
      · intro j hj
        by_cases hji : j < i
        · rw [hgl j hji]
          obtain ⟨q1, q2⟩ := hids j hji
          refine ⟨by omega, ?_⟩
          rw [hfr _ (by omega) (hne4 j hji), updO, if_neg (by omega), updO, if_neg (by omega), q2]
        · have : j = i := by omega
          subst this
          rw [hgr]
          refine ⟨by omega, ?_⟩
          rw [hfr _ (by omega) hne5]
          exact updO_s _ _ _
    · rfl
    · rfl
  · simp at hge
    have hic : i = c := by omega
    subst hic
    rcases h7 with ⟨h7, h7'⟩ | ⟨h7, oid, cap, h7', ho1, ho2, ho3⟩
    · subst h7
      rw [h7']; rfl
    · have hr : rowsOf ob (.sl oid 0 i) = some (rowsC n p ids) := by
        simp only [rowsOf, ho2, Option.bind_some]
        rw [if_pos (by simp [rowsC, hil]), List.drop_zero, List.take_of_length_le (by simp [rowsC, hil])]
      have hne : (rowsC n p ids).length ≠ 0 := by simp [rowsC, hil]; omega
      rw [h7']
      simp only [outL, hr, hne, if_false]
      show V.im Fl.o _ = _
      congr 1
      unfold rowsC chainV
      rw [List.map_map, List.map_map, hil]
      refine List.map_congr_left fun j hj => ?_
      rw [List.mem_range] at hj
      obtain ⟨hj1, hj2⟩ := hids j hj
      have hk : kill ob oid (gN ids j) = some ⟨1, ((List.replicate n (0 : Int)).set p j).map fun n => [vi n], none⟩ := by rw [kill, if_neg (ho3 j hj), hj2]
      have hs : gV (kill ob oid) 6 (.sl (gN ids j) 0 n) = ints .b ((List.replicate n (0 : Int)).set p j) := by
        simp [gV, rowsOf, hk, ints, Function.comp_def]
        rw [List.take_of_length_le (by simp)]
      simp only [Function.comp_apply, chR, List.map_cons, List.map_nil, hs]
      rfl
end Go.Proofs.Ytcoecplkcajhgaa.D
end
section
set_option linter.unusedVariables false
set_option linter.unusedSimpArgs false
set_option maxRecDepth 100000
set_option linter.constructorNameAsVariable false

/- Plain facts of chains. No condition. -/
namespace Go.Proofs.Ytcoecplkcajhgaa.D
open Go Go.Proofs

def zs (n p k : Nat) : List Int := (List.replicate n (0 : Int)).set p k
theorem zs_len (n p k : Nat) : (zs n p k).length = n := by simp [zs]
theorem zs_at {n p : Nat} (hp : p < n) (k : Nat) : gN (zs n p k) p = k := gN_set (by simpa using hp) _
theorem zs_ne {n p i : Nat} (hi : i < n) (h : i ≠ p) (k : Nat) : gN (zs n p k) i = 0 := by
  unfold zs
  rw [gN_set2 h, gN_rep hi]
theorem zs_0 (n p : Nat) : zs n p 0 = List.replicate n 0 := by
  unfold zs
  refine List.ext_getElem (by simp) fun i h1 h2 => ?_
  rw [List.getElem_set]
  split <;> simp
theorem zs_set (n p k j : Nat) : (zs n p k).set p (j : Int) = zs n p j := by simp [zs]
theorem zs_E {n p : Nat} (hn : 1 ≤ n ∧ n ≤ 5) {k : Nat} (hk : k ≤ 1073741824) : vecE (zs n p k) = 0 := vecE_set (vecE_rep hn) p ⟨by omega, by omega⟩
theorem zs_mem {n p k : Nat} (hk : k ≤ 1073741824) : ∀ x ∈ zs n p k, inI x := fun x hx => by
  unfold zs at hx
  rcases List.mem_or_eq_of_mem_set hx with hx | rfl
  · rw [List.eq_of_mem_replicate hx]; simp [inI]
  · unfold inI; omega
theorem zs_le {n p : Nat} (hp : p < n) {j k : Nat} : leB (zs n p j) (zs n p k) = decide (j ≤ k) := by
  by_cases h : j ≤ k
  · rw [decide_eq_true h, leB_iff]
    refine ⟨by simp [zs_len], fun i hi => ?_⟩
    rw [zs_len] at hi
    by_cases e : i = p
    · subst e; rw [zs_at hi, zs_at hi]; omega
    · rw [zs_ne hi e, zs_ne hi e]; omega
  · rw [decide_eq_false h]
    cases hc : leB (zs n p j) (zs n p k) with
    | false => rfl
    | true =>
      have := (leB_iff.1 hc).2 p (by rw [zs_len]; exact hp)
      rw [zs_at hp, zs_at hp] at this; omega
theorem chOp_dot (n p j : Nat) : (chOp n p j).dot = ⟨p, (j + 1 : Nat)⟩ := rfl
theorem chOp_deps (n p j : Nat) : (chOp n p j).deps = zs n p j := rfl
theorem chOp_ok {n p j : Nat} (hn : n ≤ 5) (hj : j ≤ 100) : OkO (chOp n p j) := ⟨by rw [chOp_deps, zs_len]; unfold maxLen; omega, by simp [chOp], by simp [chOp], by rw [chOp_dot]; unfold inI; simp; omega⟩
theorem can_ch {n p : Nat} (hp : p < n) (j k : Nat) : canB (zs n p k) (chOp n p j) = decide (j = k) := by
  unfold canB nextB
  rw [chOp_dot, chOp_deps, zs_le hp]
  simp only [Int.toNat_natCast, zs_at hp, zs_len]
  by_cases h : j = k
  · subst h; simp [hp]
  · rw [decide_eq_false h]
    rw [decide_eq_false (by omega)]; rfl
theorem has_ch {n p : Nat} (hp : p < n) (j k : Nat) : hasB (zs n p k) (chOp n p j).dot = decide (j < k) := by
  unfold hasB
  rw [chOp_dot]
  simp only [Int.toNat_natCast, zs_at hp, zs_len]
  by_cases h : j < k
  · rw [decide_eq_true h, decide_eq_true (by omega)]
  · rw [decide_eq_false h, decide_eq_false (by omega)]
theorem same_ch (n p j k : Nat) : sameD (chOp n p j).dot (chOp n p k).dot = decide (j = k) := by
  unfold sameD
  rw [chOp_dot, chOp_dot]
  by_cases h : j = k
  · subst h; simp
  · rw [decide_eq_false h, decide_eq_false (by simp; omega)]
theorem any_map_eq (js : List Nat) (k : Nat) (n p : Nat) (f : Opx → Bool) (hf : ∀ j, f (chOp n p j) = decide (j = k)) : (js.map (chOp n p)).any f = decide (k ∈ js) := by
  induction js with
  | nil => simp
  | cons a l ih =>
    rw [List.map_cons, List.any_cons, ih, hf]
    by_cases h : a = k
    · subst h; simp
    · simp [h, Ne.symm h]
theorem gN_mapf {α β : Type} [Inhabited α] [Inhabited β] {f : α → β} {l : List α} {i : Nat} (h : i < l.length) : gN (l.map f) i = f (gN l i) := by
  rw [gN_eq (by simpa using h), gN_eq h]; simp

theorem idx_ch {n p : Nat} (js : List Nat) (k : Nat) (f : Opx → Bool) (hf : ∀ j, f (chOp n p j) = decide (j = k)) : (js.map (chOp n p)).findIdx f = js.idxOf k := by
  induction js with
  | nil => rfl
  | cons a l ih =>
    rw [List.map_cons, List.findIdx_cons, hf, List.idxOf_cons, ih]
    by_cases h : a = k
    · subst h; simp
    · have : (a == k) = false := by simpa using h
      simp [h, this]
theorem erase_idx {js : List Nat} {k : Nat} (f : Nat → Opx) : (js.map f).eraseIdx (js.idxOf k) = (js.erase k).map f := by
  induction js with
  | nil => rfl
  | cons a l ih =>
    rw [List.idxOf_cons, List.erase_cons]
    by_cases h : a = k
    · subst h; simp
    · have : (a == k) = false := by simpa using h
      simp [this, ih]
/-- What waits and is there in a row becomes ready in its order. -/
theorem again_ch {n p : Nat} (hp : p < n) : ∀ (m k : Nat) (js : List Nat), js.Perm (List.range' k m) → againL m (zs n p k) (js.map (chOp n p)) = ((List.range' k m).map (chOp n p), zs n p (k + m), [])
  | 0, k, js, h => by
    have : js = [] := by simpa using h
    subst this
    simp [againL]
  | m + 1, k, js, h => by
    have hk : k ∈ js := h.mem_iff.2 (by rw [List.mem_range'_1]; omega)
    have hf := fun j => can_ch hp j k
    unfold againL
    rw [any_map_eq js k n p _ hf, if_pos (by simpa using hk), idx_ch js k _ hf]
    have hlt : js.idxOf k < js.length := List.idxOf_lt_length_of_mem hk
    have hg : gN (js.map (chOp n p)) (js.idxOf k) = chOp n p k := by
      rw [gN_mapf hlt, gN_eq hlt, List.getElem_idxOf hlt]
    have he : (js.map (chOp n p)).eraseIdx (js.idxOf k) = (js.erase k).map (chOp n p) := erase_idx _
    have hper : (js.erase k).Perm (List.range' (k + 1) m) := by
      have := h.erase k
      rw [List.range'_succ, List.erase_cons_head] at this
      exact this
    have ih := again_ch hp m (k + 1) (js.erase k) hper
    simp only [hg, he]
    have hs : (zs n p k).set (chOp n p k).dot.p.toNat (chOp n p k).dot.n = zs n p (k + 1) := by
      rw [chOp_dot]; exact zs_set n p k (k + 1)
    rw [hs, ih]
    refine Prod.ext ?_ (Prod.ext ?_ rfl)
    · simp [List.range'_succ]
    · simp; congr 1; omega
theorem wrong_0 {v : List Int} {l : List Opx} (h : vecE v = 0) (hl : l.length ≤ 40) : wrongE v l = 0 := by
  unfold wrongE; rw [if_neg (by simpa using h), if_neg (by omega)]
theorem offer_wait {n p k i : Nat} {js : List Nat} (hn : 1 ≤ n ∧ n ≤ 5) (hp : p < n) (hk : k ≤ 100) (hki : k < i) (hi : i ∉ js) (hl : js.length < 40) : offerV (zs n p k) (js.map (chOp n p)) (chOp n p i) = ([], (js ++ [i]).map (chOp n p), 9) := by
  have h1 : wrongE (zs n p k) (js.map (chOp n p)) = 0 := wrong_0 (zs_E hn (by omega)) (by simp; omega)
  have h2 : hasB (zs n p k) (chOp n p i).dot = false := by rw [has_ch hp, decide_eq_false (by omega)]
  have h3 : ((js.map (chOp n p)).any fun y => sameD y.dot (chOp n p i).dot) = false := by rw [any_map_eq js i n p _ (fun j => same_ch n p j i)]; simpa using hi
  have h4 : canB (zs n p k) (chOp n p i) = false := by rw [can_ch hp, decide_eq_false (by omega)]
  have h5 : ¬ 40 ≤ (js.map (chOp n p)).length := by simp; omega
  unfold offerV
  rw [if_neg (by simpa using h1), h2, h3, h4, if_neg (by simp), if_neg (by simp), if_neg h5]
  simp
theorem offer_full {n p k i : Nat} {js : List Nat} (hn : 1 ≤ n ∧ n ≤ 5) (hp : p < n) (hk : k ≤ 100) (hki : k < i) (hi : i ∉ js) (hl : js.length = 40) : offerV (zs n p k) (js.map (chOp n p)) (chOp n p i) = ([], [], 6) := by
  have h1 : wrongE (zs n p k) (js.map (chOp n p)) = 0 := wrong_0 (zs_E hn (by omega)) (by simp; omega)
  have h2 : hasB (zs n p k) (chOp n p i).dot = false := by rw [has_ch hp, decide_eq_false (by omega)]
  have h3 : ((js.map (chOp n p)).any fun y => sameD y.dot (chOp n p i).dot) = false := by rw [any_map_eq js i n p _ (fun j => same_ch n p j i)]; simpa using hi
  have h4 : canB (zs n p k) (chOp n p i) = false := by rw [can_ch hp, decide_eq_false (by omega)]
  have h5 : 40 ≤ (js.map (chOp n p)).length := by simp; omega
  unfold offerV
  rw [if_neg (by simpa using h1), h2, h3, h4, if_neg (by simp), if_neg (by simp), if_pos h5]
theorem offer_twice {n p k i : Nat} {js : List Nat} (hn : 1 ≤ n ∧ n ≤ 5) (hp : p < n) (hk : k ≤ 100) (hi : i ∈ js) (hl : js.length ≤ 40) : offerV (zs n p k) (js.map (chOp n p)) (chOp n p i) = ([], [], 8) := by
  have h1 : wrongE (zs n p k) (js.map (chOp n p)) = 0 := wrong_0 (zs_E hn (by omega)) (by simp; omega)
  have h3 : ((js.map (chOp n p)).any fun y => sameD y.dot (chOp n p i).dot) = true := by rw [any_map_eq js i n p _ (fun j => same_ch n p j i)]; simpa using hi
  unfold offerV
  rw [if_neg (by simpa using h1), h3, if_pos (by simp)]
theorem offer_can {n p k : Nat} {js : List Nat} (hn : 1 ≤ n ∧ n ≤ 5) (hp : p < n) (hk : k ≤ 100) (hi : k ∉ js) (hl : js.length ≤ 40) : offerV (zs n p k) (js.map (chOp n p)) (chOp n p k) =
    (chOp n p k :: (againL js.length (zs n p (k + 1)) (js.map (chOp n p))).1, (againL js.length (zs n p (k + 1)) (js.map (chOp n p))).2.2.filter (fun x => !hasB (againL js.length (zs n p (k + 1)) (js.map (chOp n p))).2.1 x.dot), 0) := by
  have h1 : wrongE (zs n p k) (js.map (chOp n p)) = 0 := wrong_0 (zs_E hn (by omega)) (by simp; omega)
  have h0 : wrongE (zs n p (k + 1)) (js.map (chOp n p)) = 0 := wrong_0 (zs_E hn (by omega)) (by simp; omega)
  have h2 : hasB (zs n p k) (chOp n p k).dot = false := by rw [has_ch hp, decide_eq_false (by omega)]
  have h3 : ((js.map (chOp n p)).any fun y => sameD y.dot (chOp n p k).dot) = false := by rw [any_map_eq js k n p _ (fun j => same_ch n p j k)]; simpa using hi
  have h4 : canB (zs n p k) (chOp n p k) = true := by rw [can_ch hp]; simp
  have hs : (zs n p k).set (chOp n p k).dot.p.toNat (chOp n p k).dot.n = zs n p (k + 1) := by
    rw [chOp_dot]; exact zs_set n p k (k + 1)
  unfold offerV
  rw [if_neg (by simpa using h1), h2, h3, h4, if_neg (by simp), if_pos rfl, hs]
  have ha : againV (zs n p (k + 1)) (js.map (chOp n p)) = ((againL js.length (zs n p (k + 1)) (js.map (chOp n p))).1, (againL js.length (zs n p (k + 1)) (js.map (chOp n p))).2.2.filter (fun x => !hasB (againL js.length (zs n p (k + 1)) (js.map (chOp n p))).2.1 x.dot), 0) := by
    unfold againV
    rw [if_neg (by simpa using h0), List.length_map]
  rw [ha]; simp
theorem offer_all {n p k m : Nat} {js : List Nat} (hn : 1 ≤ n ∧ n ≤ 5) (hp : p < n) (hk : k ≤ 100) (hj : js.Perm (List.range' (k + 1) m)) (hm : m ≤ 40) : offerV (zs n p k) (js.map (chOp n p)) (chOp n p k) = ((List.range' k (m + 1)).map (chOp n p), [], 0) := by
  have hl : js.length = m := by rw [hj.length_eq]; simp
  rw [offer_can hn hp hk (fun h => by have := hj.mem_iff.1 h; rw [List.mem_range'_1] at this; omega) (by omega), hl, again_ch hp m (k + 1) js hj]
  simp [List.range'_succ]
theorem offer_one {n p k : Nat} {js : List Nat} (hn : 1 ≤ n ∧ n ≤ 5) (hp : p < n) (hk : k ≤ 100) (hi : ∀ j ∈ js, k + 1 < j) (hl : js.length ≤ 40) : offerV (zs n p k) (js.map (chOp n p)) (chOp n p k) = ([chOp n p k], js.map (chOp n p), 0) := by
  rw [offer_can hn hp hk (fun h => by have := hi _ h; omega) hl, againL_no fun x hx => by
    obtain ⟨j, hj, rfl⟩ := List.mem_map.1 hx
    have := hi j hj
    rw [can_ch hp, decide_eq_false (by omega)]]
  refine Prod.ext rfl (Prod.ext (List.filter_eq_self.2 fun x hx => ?_) rfl)
  obtain ⟨j, hj, rfl⟩ := List.mem_map.1 hx
  have := hi j hj
  rw [has_ch hp, decide_eq_false (by omega)]; rfl
theorem chain_at {n p c i : Nat} (hi : i < c) : gN (chainV n p c) i = chOp n p i := by
  unfold chainV
  rw [gN_mapf (by simpa using hi), gN_eq (by simpa using hi)]; simp
/-- What is handed over as these operations. -/
def wE (v : V) (l : List Opx) : Prop := ∀ (ob : OB) (m : Nat), resV ob (m + 4) v = .im .b (l.map opV)
theorem wE_z : wE .z [] := fun ob m => rfl
theorem wE_b (l : List Opx) : wE (.im .b (l.map opV)) l := fun ob m => by
  rw [res_im, List.map_map]
  show V.im .b _ = _
  congr 1
  exact List.map_congr_left fun x _ => res_op _ _ x
end Go.Proofs.Ytcoecplkcajhgaa.D
end
section
set_option linter.unusedVariables false
set_option linter.unusedSimpArgs false
set_option maxRecDepth 100000
set_option linter.constructorNameAsVariable false

/- Operations that are closed: what is offered is ready in the end. No condition. -/
namespace Go.Proofs.Ytcoecplkcajhgaa.D
open Go Go.Proofs

def setD (v : List Int) (x : Opx) : List Int := v.set x.dot.p.toNat x.dot.n
def hv (l : List Opx) (n i : Nat) : List Int := (l.take i).foldl setD (List.replicate n 0)
structure Cl (l : List Opx) (n : Nat) : Prop where
  le : l.length ≤ 40
  n1 : 1 ≤ n ∧ n ≤ 5
  can : ∀ i, i < l.length → canB (hv l n i) (gN l i) = true

theorem nd_len : ∀ {m : Nat} {W : List Nat}, W.Nodup → (∀ w ∈ W, w < m) → W.length ≤ m
  | 0, W, _, h => by
    cases W with
    | nil => simp
    | cons a W => exact absurd (h a (by simp)) (by omega)
  | m + 1, W, hn, h => by
    by_cases hm : m ∈ W
    · have := nd_len (m := m) (hn.erase m) fun w hw => by
        have h1 := h w (List.mem_of_mem_erase hw)
        have h2 := (hn.mem_erase_iff.1 hw).1
        omega
      rw [List.length_erase_of_mem hm] at this
      omega
    · have := nd_len (m := m) hn fun w hw => by
        have h1 := h w hw
        have h2 : w ≠ m := fun e => hm (by rw [← e]; exact hw)
        omega
      omega
theorem erase_nd : ∀ {W : List Nat} {k : Nat} (_ : W.Nodup) (hk : k < W.length), W.erase (W[k]) = W.eraseIdx k
  | [], k, _, hk => by simp at hk
  | a :: W, 0, _, hk => by simp
  | a :: W, k + 1, hn, hk => by
    have hk' : k < W.length := by simpa using hk
    have hne : a ≠ W[k] := fun e => (List.nodup_cons.1 hn).1 (by rw [e]; exact List.getElem_mem _)
    have : (a :: W)[k + 1] = W[k] := rfl
    rw [this, List.eraseIdx_cons_succ, List.erase_cons_tail (by simpa using hne), erase_nd (List.nodup_cons.1 hn).2 hk']
theorem setD_len (v : List Int) (x : Opx) : (setD v x).length = v.length := by simp [setD]
theorem fold_len (xs : List Opx) : ∀ v : List Int, (xs.foldl setD v).length = v.length := by
  induction xs with
  | nil => intro v; rfl
  | cons x xs ih => intro v; rw [List.foldl_cons, ih, setD_len]
theorem hv_len (l : List Opx) (n i : Nat) : (hv l n i).length = n := by rw [hv, fold_len]; simp
theorem hv_0 (l : List Opx) (n : Nat) : hv l n 0 = List.replicate n 0 := rfl
theorem hv_s {l : List Opx} {n i : Nat} (hi : i < l.length) : hv l n (i + 1) = setD (hv l n i) (gN l i) := by
  unfold hv
  rw [take_gN hi, List.foldl_append]; rfl

section
variable {l : List Opx} {n : Nat}
/-- An operation's peer, its number. -/
def pN (l : List Opx) (i : Nat) : Nat := (gN l i).dot.p.toNat
theorem Cl.at (h : Cl l n) {i : Nat} (hi : i < l.length) : (gN l i).dot.p = (pN l i : Int) ∧ pN l i < n ∧ (gN l i).dot.n = gN (hv l n i) (pN l i) + 1 ∧ leB (gN l i).deps (hv l n i) = true := by
  obtain ⟨⟨h1, h2, h3⟩, h4⟩ := canB_t (h.can i hi)
  rw [hv_len] at h2
  refine ⟨by unfold pN; omega, by unfold pN; omega, h3, h4⟩
theorem gN_setD {v : List Int} {x : Opx} {p : Nat} (hp : p < v.length) : gN (setD v x) p = if x.dot.p.toNat = p then x.dot.n else gN v p := by
  unfold setD
  split
  · rename_i h; subst h; exact gN_set hp _
  · rename_i h; exact gN_set2 (fun e => h e.symm) _
theorem Cl.mono1 (h : Cl l n) {i : Nat} (hi : i < l.length) {p : Nat} (hp : p < n) : gN (hv l n i) p ≤ gN (hv l n (i + 1)) p ∧ gN (hv l n (i + 1)) p ≤ gN (hv l n i) p + 1 := by
  obtain ⟨h1, h2, h3, h4⟩ := h.at hi
  rw [hv_s hi, gN_setD (by rw [hv_len]; exact hp)]
  split
  · rename_i e
    have : pN l i = p := e
    rw [h3, this]; omega
  · omega
theorem Cl.mono (h : Cl l n) {p : Nat} (hp : p < n) {i j : Nat} (hij : i ≤ j) (hj : j ≤ l.length) : gN (hv l n i) p ≤ gN (hv l n j) p := by
  induction j with
  | zero => have : i = 0 := by omega
            subst this; omega
  | succ j ih =>
    by_cases e : i = j + 1
    · subst e; omega
    · have := ih (by omega) (by omega)
      have := (h.mono1 (i := j) (by omega) hp).1
      omega
theorem Cl.bound (h : Cl l n) {p : Nat} (hp : p < n) {i : Nat} (hi : i ≤ l.length) : 0 ≤ gN (hv l n i) p ∧ gN (hv l n i) p ≤ i := by
  induction i with
  | zero => rw [hv_0, gN_rep hp]; omega
  | succ i ih =>
    have h1 := ih (by omega)
    have h2 := h.mono1 (i := i) (by omega) hp
    omega
theorem Cl.behind (h : Cl l n) {i j : Nat} (hij : i < j) (hj : j ≤ l.length) : (gN l i).dot.n ≤ gN (hv l n j) (pN l i) := by
  obtain ⟨h1, h2, h3, h4⟩ := h.at (i := i) (by omega)
  have h5 := h.mono h2 (i := i + 1) (j := j) (by omega) hj
  rw [hv_s (by omega), gN_setD (by rw [hv_len]; exact h2), if_pos (show (gN l i).dot.p.toNat = pN l i from rfl)] at h5
  exact h5
theorem Cl.one (h : Cl l n) {i : Nat} (hi : i < l.length) : 1 ≤ (gN l i).dot.n := by
  obtain ⟨h1, h2, h3, h4⟩ := h.at hi
  have := (h.bound h2 (i := i) (by omega)).1
  omega
theorem Cl.inj (h : Cl l n) {i j : Nat} (hi : i < l.length) (hj : j < l.length) (hp : pN l i = pN l j) (hn : (gN l i).dot.n = (gN l j).dot.n) : i = j := by
  have key : ∀ i j, i < j → j < l.length → pN l i = pN l j → (gN l i).dot.n ≠ (gN l j).dot.n := fun i j hij hj hp e => by
    have h1 := h.behind hij (by omega)
    obtain ⟨_, _, h3, _⟩ := h.at hj
    rw [hp] at h1; omega
  rcases Nat.lt_trichotomy i j with h1 | h1 | h1
  · exact absurd hn (key i j h1 hj hp)
  · exact h1
  · exact absurd hn.symm (key j i h1 hi hp.symm)
theorem Cl.same (h : Cl l n) {i j : Nat} (hi : i < l.length) (hj : j < l.length) : sameD (gN l i).dot (gN l j).dot = decide (i = j) := by
  by_cases e : i = j
  · subst e; simp [sameD]
  · rw [decide_eq_false e]
    cases hs : sameD (gN l i).dot (gN l j).dot with
    | false => rfl
    | true =>
      have := sameD_eq _ _ hs
      exact absurd (h.inj hi hj (by unfold pN; rw [this]) (by rw [this])) e
theorem Cl.has (h : Cl l n) {v : List Int} (hv : v.length = n) {i : Nat} (hi : i < l.length) : hasB v (gN l i).dot = true ↔ (gN l i).dot.n ≤ gN v (pN l i) := by
  obtain ⟨h1, h2, h3, h4⟩ := h.at hi
  have h5 := h.one hi
  unfold hasB
  rw [decide_eq_true_eq, hv]
  constructor
  · rintro ⟨_, _, _, h⟩; exact h
  · intro h; exact ⟨by omega, by omega, h5, h⟩

/-- How it stands: what was offered (O), what waits (W). -/
structure Inv (l : List Opx) (n : Nat) (now : List Int) (O : Nat → Prop) (W : List Nat) : Prop where
  len : now.length = n
  pos : ∀ p, p < n → 0 ≤ gN now p ∧ gN now p ≤ gN (hv l n l.length) p
  has : ∀ i, i < l.length → (hasB now (gN l i).dot = true ↔ (O i ∧ i ∉ W))
  sub : ∀ w, w ∈ W → w < l.length ∧ O w
  nd : W.Nodup
theorem Inv.vec (hc : Cl l n) {now : List Int} {O : Nat → Prop} {W : List Nat} (h : Inv l n now O W) : vecE now = 0 := by
  refine vecE_mk (by rw [h.len]; exact hc.n1.1) (by rw [h.len]; exact hc.n1.2) fun i hi => ?_
  rw [h.len] at hi
  have h1 := h.pos i hi
  have h2 := (hc.bound hi (i := l.length) (by omega)).2
  have := hc.le
  omega
/-- One is taken. -/
theorem Inv.take (hc : Cl l n) {now : List Int} {O : Nat → Prop} {W : List Nat} (h : Inv l n now O W) {w : Nat} (hw : w ∈ W) (hcan : canB now (gN l w) = true) : Inv l n (setD now (gN l w)) O (W.erase w) := by
  have hwl := (h.sub w hw).1
  obtain ⟨q1, q2, q3, q4⟩ := hc.at hwl
  obtain ⟨⟨r1, r2, r3⟩, r4⟩ := canB_t hcan
  have r3' : (gN l w).dot.n = gN now (pN l w) + 1 := r3
  refine ⟨by rw [setD_len, h.len], fun p hp => ?_, fun i hi => ?_, fun v hv => h.sub v (List.mem_of_mem_erase hv), h.nd.erase w⟩
  · rw [gN_setD (by rw [h.len]; exact hp)]
    split
    · rename_i e
      have e' : pN l w = p := e
      subst e'
      have := hc.behind (j := l.length) hwl (by omega)
      have := hc.one hwl
      omega
    · exact h.pos p hp
  · rw [hc.has (by rw [setD_len, h.len]) hi]
    have hpi := (hc.at hi).2.1
    rw [gN_setD (by rw [h.len]; exact hpi)]
    have hh := h.has i hi
    rw [hc.has h.len hi] at hh
    rw [h.nd.mem_erase_iff]
    by_cases hiw : i = w
    · subst hiw
      have : (gN l i).dot.p.toNat = pN l i := rfl
      rw [if_pos this]
      exact ⟨fun _ => ⟨(h.sub i hw).2, fun h => h.1 rfl⟩, fun _ => Int.le_refl _⟩
    · have : (O i ∧ ¬ (i ≠ w ∧ i ∈ W)) ↔ (O i ∧ i ∉ W) := by
        constructor
        · rintro ⟨a, b⟩; exact ⟨a, fun c => b ⟨hiw, c⟩⟩
        · rintro ⟨a, b⟩; exact ⟨a, fun c => b c.2⟩
      rw [this, ← hh]
      split
      · rename_i e
        have e' : pN l w = pN l i := e
        rw [r3', e']
        have hne : (gN l i).dot.n ≠ gN now (pN l i) + 1 := fun e2 => hiw (hc.inj hi hwl e'.symm (by rw [e2, r3', e']))
        omega
      · exact Iff.rfl
theorem any_idx {f : Opx → Bool} (W : List Nat) : (W.map (gN l)).any f = W.any fun w => f (gN l w) := by
  rw [List.any_map]; rfl
/-- What of the waiting ones becomes ready. -/
theorem Inv.again (hc : Cl l n) {O : Nat → Prop} : ∀ (m : Nat) (now : List Int) (W : List Nat), W.length = m → Inv l n now O W →
    ∃ (R W' : List Nat), (againL m now (W.map (gN l))).1 = R.map (gN l) ∧ (againL m now (W.map (gN l))).2.2 = W'.map (gN l) ∧ (againL m now (W.map (gN l))).2.1 = (R.map (gN l)).foldl setD now ∧ Inv l n ((R.map (gN l)).foldl setD now) O W' ∧ W.length = R.length + W'.length ∧ (∀ w ∈ W', canB ((R.map (gN l)).foldl setD now) (gN l w) = false) ∧ ∀ r ∈ R, r ∈ W
  | 0, now, W, hm, h => by
    have : W = [] := List.eq_nil_of_length_eq_zero hm
    subst this
    exact ⟨[], [], by simp [againL], by simp [againL], by simp [againL], h, rfl, fun w hw => (by cases hw), fun r hr => hr⟩
  | m + 1, now, W, hm, h => by
    unfold againL
    by_cases ha : (W.map (gN l)).any (canB now) = true
    · rw [if_pos ha]
      have hlt : (W.map (gN l)).findIdx (canB now) < W.length := by
        have := List.findIdx_lt_length_of_exists (p := canB now) (xs := W.map (gN l)) (List.any_eq_true.1 ha)
        simpa using this
      have hcan : canB now (gN (W.map (gN l)) ((W.map (gN l)).findIdx (canB now))) = true := by
        rw [gN_eq (by simpa using hlt)]
        exact List.findIdx_getElem (w := by simpa using hlt)
      generalize hk : (W.map (gN l)).findIdx (canB now) = k at *
      have hgk : gN (W.map (gN l)) k = gN l (gN W k) := gN_mapf hlt
      have hmem : gN W k ∈ W := gN_mem hlt
      rw [hgk] at hcan
      have herase : W.eraseIdx k = W.erase (gN W k) := by
        rw [gN_eq hlt]
        exact (erase_nd h.nd hlt).symm
      have hmap : (W.map (gN l)).eraseIdx k = (W.erase (gN W k)).map (gN l) := by
        rw [← herase]
        simp [List.eraseIdx_eq_take_drop_succ, List.map_take, List.map_drop]
      have hinv := h.take hc hmem hcan
      have hlen : (W.erase (gN W k)).length = m := by rw [List.length_erase_of_mem hmem]; omega
      obtain ⟨R, W', a1, a2, a3, a4, a5, a6, a7⟩ := Inv.again hc m _ _ hlen hinv
      refine ⟨gN W k :: R, W', ?_, ?_, ?_, ?_, ?_, ?_, ?_⟩
      · simp only [hgk, hmap]
        have : now.set (gN l (gN W k)).dot.p.toNat (gN l (gN W k)).dot.n = setD now (gN l (gN W k)) := rfl
        rw [this, a1]; rfl
      · simp only [hgk, hmap]
        have : now.set (gN l (gN W k)).dot.p.toNat (gN l (gN W k)).dot.n = setD now (gN l (gN W k)) := rfl
        rw [this, a2]
      · simp only [hgk, hmap]
        have : now.set (gN l (gN W k)).dot.p.toNat (gN l (gN W k)).dot.n = setD now (gN l (gN W k)) := rfl
        rw [this, a3]; rfl
      · exact a4
      · simp; omega
      · exact a6
      · intro r hr
        rcases List.mem_cons.1 hr with rfl | hr
        · exact hmem
        · exact List.mem_of_mem_erase (a7 r hr)
    · rw [if_neg ha]
      refine ⟨[], W, rfl, rfl, rfl, h, by simp, fun w hw => ?_, fun r hr => by cases hr⟩
      cases hcw : canB now (gN l w) with
      | false => exact hcw
      | true => exact absurd (List.any_eq_true.2 ⟨_, List.mem_map_of_mem hw, hcw⟩) ha
/-- In the end nothing waits. -/
theorem Inv.last (hc : Cl l n) {now : List Int} {O : Nat → Prop} {W : List Nat} (h : Inv l n now O W) (hO : ∀ i, i < l.length → O i) (hno : ∀ w ∈ W, canB now (gN l w) = false) : W = [] ∧ now = hv l n l.length := by
  have hW : ∀ w, w ∉ W := by
    intro w
    induction w using Nat.strongRecOn with
    | _ w ih =>
      intro hw
      obtain ⟨hwl, hwo⟩ := h.sub w hw
      obtain ⟨q1, q2, q3, q4⟩ := hc.at hwl
      have hge : ∀ p, p < n → gN (hv l n w) p ≤ gN now p := by
        have key : ∀ j, j ≤ w → ∀ p, p < n → gN (hv l n j) p ≤ gN now p := by
          intro j
          induction j with
          | zero => intro _ p hp; rw [hv_0, gN_rep hp]; exact (h.pos p hp).1
          | succ j ihj =>
            intro hj p hp
            rw [hv_s (by omega), gN_setD (by rw [hv_len]; exact hp)]
            split
            · rename_i e
              have e' : pN l j = p := e
              have hj' : hasB now (gN l j).dot = true := (h.has j (by omega)).2 ⟨hO j (by omega), ih j (by omega)⟩
              rw [hc.has h.len (by omega), e'] at hj'
              exact hj'
            · exact ihj (by omega) p hp
        exact key w (Nat.le_refl _)
      have hnot : ¬ hasB now (gN l w).dot = true := fun hh => ((h.has w hwl).1 hh).2 hw
      rw [hc.has h.len hwl] at hnot
      have h1 := hge (pN l w) q2
      have hcw : canB now (gN l w) = true := by
        unfold canB
        rw [Bool.and_eq_true]
        refine ⟨?_, ?_⟩
        · unfold nextB
          rw [decide_eq_true_eq, h.len]
          have : (gN l w).dot.p.toNat = pN l w := rfl
          rw [this]
          exact ⟨by omega, by omega, by omega⟩
        · rw [leB_iff] at q4 ⊢
          obtain ⟨q4, q5⟩ := q4
          rw [hv_len] at q4
          refine ⟨by rw [h.len]; exact q4, fun i hi => ?_⟩
          have := q5 i hi
          have := hge i (by omega)
          omega
      rw [hno w hw] at hcw; cases hcw
  have hW0 : W = [] := List.eq_nil_iff_forall_not_mem.2 hW
  refine ⟨hW0, list_iff.2 ⟨by rw [h.len, hv_len], fun p hp => ?_⟩⟩
  rw [h.len] at hp
  refine Int.le_antisymm (h.pos p hp).2 ?_
  have key : ∀ j, j ≤ l.length → gN (hv l n j) p ≤ gN now p := by
    intro j
    induction j with
    | zero => intro _; rw [hv_0, gN_rep hp]; exact (h.pos p hp).1
    | succ j ihj =>
      intro hj
      rw [hv_s (by omega), gN_setD (by rw [hv_len]; exact hp)]
      split
      · rename_i e
        have e' : pN l j = p := e
        have hj' : hasB now (gN l j).dot = true := (h.has j (by omega)).2 ⟨hO j (by omega), hW j⟩
        rw [hc.has h.len (by omega), e'] at hj'
        exact hj'
      · exact ihj (by omega)
  exact key l.length (Nat.le_refl _)
/-- One more is offered. -/
theorem Inv.offer (hc : Cl l n) {now : List Int} {O : Nat → Prop} {W : List Nat} (h : Inv l n now O W) (hno : ∀ w ∈ W, canB now (gN l w) = false) {j : Nat} (hj : j < l.length) (hjO : ¬ O j) :
    ∃ (R W' : List Nat) (e : Int), offerV now (W.map (gN l)) (gN l j) = (R.map (gN l), W'.map (gN l), e) ∧ (e = 0 ∨ e = 9) ∧ Inv l n ((R.map (gN l)).foldl setD now) (fun i => O i ∨ i = j) W' ∧ W.length + 1 = R.length + W'.length ∧ (∀ w ∈ W', canB ((R.map (gN l)).foldl setD now) (gN l w) = false) ∧ ∀ r ∈ R, r < l.length := by
  have hjW : j ∉ W := fun hw => hjO (h.sub j hw).2
  have hWl : W.length ≤ 39 := by
    have h1 : (j :: W).Nodup := List.nodup_cons.2 ⟨hjW, h.nd⟩
    have h2 := nd_len (m := l.length) h1 fun i hi => by
      rcases List.mem_cons.1 hi with rfl | hi
      · exact hj
      · exact (h.sub i hi).1
    have := hc.le
    rw [List.length_cons] at h2; omega
  have h1 : wrongE now (W.map (gN l)) = 0 := wrong_0 (h.vec hc) (by simp; omega)
  have h2 : hasB now (gN l j).dot = false := by
    cases hh : hasB now (gN l j).dot with
    | false => rfl
    | true => exact absurd ((h.has j hj).1 hh).1 hjO
  have h3 : ((W.map (gN l)).any fun y => sameD y.dot (gN l j).dot) = false := by
    cases hs : (W.map (gN l)).any fun y => sameD y.dot (gN l j).dot with
    | false => rfl
    | true =>
      obtain ⟨y, hy, hys⟩ := List.any_eq_true.1 hs
      obtain ⟨w, hw, rfl⟩ := List.mem_map.1 hy
      rw [hc.same (h.sub w hw).1 hj] at hys
      have : w = j := by simpa using hys
      subst this; exact absurd hw hjW
  -- with the new one waiting
  have hinv : Inv l n now (fun i => O i ∨ i = j) (j :: W) := by
    refine ⟨h.len, h.pos, fun i hi => ?_, fun w hw => ?_, List.nodup_cons.2 ⟨hjW, h.nd⟩⟩
    · rw [h.has i hi, List.mem_cons]
      constructor
      · rintro ⟨a, b⟩
        exact ⟨.inl a, fun e => e.elim (fun e => hjO (by rw [← e]; exact a)) b⟩
      · rintro ⟨a | a, b⟩
        · exact ⟨a, fun c => b (.inr c)⟩
        · exact absurd (.inl a) b
    · rcases List.mem_cons.1 hw with rfl | hw
      · exact ⟨hj, .inr rfl⟩
      · exact ⟨(h.sub w hw).1, .inl (h.sub w hw).2⟩
  by_cases hcan : canB now (gN l j) = true
  · have hinv2 := hinv.take hc (List.mem_cons_self) hcan
    rw [List.erase_cons_head] at hinv2
    obtain ⟨R, W', a1, a2, a3, a4, a5, a6, a7⟩ := Inv.again hc W.length _ W rfl hinv2
    have hw0 : wrongE (setD now (gN l j)) (W.map (gN l)) = 0 := wrong_0 (hinv2.vec hc) (by simp; omega)
    have hfil : ((W'.map (gN l)).filter fun x => !hasB ((R.map (gN l)).foldl setD (setD now (gN l j))) x.dot) = W'.map (gN l) := by
      refine List.filter_eq_self.2 fun x hx => ?_
      obtain ⟨w, hw, rfl⟩ := List.mem_map.1 hx
      have hwl := (a4.sub w hw).1
      cases hh : hasB ((R.map (gN l)).foldl setD (setD now (gN l j))) (gN l w).dot with
      | false => rfl
      | true => exact absurd hw ((a4.has w hwl).1 hh).2
    have hag : againV (setD now (gN l j)) (W.map (gN l)) = (R.map (gN l), W'.map (gN l), 0) := by
      unfold againV
      rw [if_neg (by simpa using hw0), List.length_map, a1, a2, a3, hfil]
    refine ⟨j :: R, W', 0, ?_, .inl rfl, a4, by simp; omega, a6, fun r hr => ?_⟩
    · unfold offerV
      rw [if_neg (by simpa using h1), h2, h3, hcan, if_neg (by simp), if_pos rfl]
      have : now.set (gN l j).dot.p.toNat (gN l j).dot.n = setD now (gN l j) := rfl
      rw [this, hag]; simp
    · rcases List.mem_cons.1 hr with rfl | hr
      · exact hj
      · exact (h.sub r (a7 r hr)).1
  · have hcf : canB now (gN l j) = false := by cases hx : canB now (gN l j) with
      | false => rfl
      | true => exact absurd hx hcan
    refine ⟨[], W ++ [j], 9, ?_, .inr rfl, ?_, by simp, fun w hw => ?_, fun r hr => by cases hr⟩
    · unfold offerV
      rw [if_neg (by simpa using h1), h2, h3, hcf, if_neg (by simp), if_neg (by simp), if_neg (by simp; omega)]
      simp
    · have hper : (j :: W).Perm (W ++ [j]) := (List.perm_append_singleton j W).symm
      simp only [List.map_nil, List.foldl_nil]
      exact ⟨hinv.len, hinv.pos, fun i hi => by rw [hinv.has i hi, hper.mem_iff], fun w hw => hinv.sub w (hper.mem_iff.2 hw), hper.nodup_iff.1 hinv.nd⟩
    · rcases List.mem_append.1 hw with hw | hw
      · exact hno w hw
      · have : w = j := by simpa using hw
        subst this; exact hcf
theorem Inv.start (hc : Cl l n) : Inv l n (List.replicate n 0) (fun _ => False) [] := by
  refine ⟨by simp, fun p hp => ?_, fun i hi => ?_, fun w hw => (by cases hw), List.nodup_nil⟩
  · rw [gN_rep hp]; exact ⟨by omega, (hc.bound hp (Nat.le_refl _)).1⟩
  · rw [hc.has (by simp) hi, gN_rep (hc.at hi).2.1]
    have := hc.one hi
    constructor
    · intro h; omega
    · rintro ⟨h, _⟩; exact h.elim
end
end Go.Proofs.Ytcoecplkcajhgaa.D
end
section
set_option linter.unusedVariables false
set_option linter.unusedSimpArgs false
set_option maxRecDepth 100000
set_option linter.constructorNameAsVariable false

/- Operations that are closed: all are ready in the end. No condition. -/
namespace Go.Proofs.Ytcoecplkcajhgaa.D
open Go Go.Proofs

theorem hv_bd {l : List Opx} {n : Nat} : ∀ (i : Nat), i ≤ l.length → (∀ j, j < i → canB (hv l n j) (gN l j) = true) → ∀ x ∈ hv l n i, 0 ≤ x ∧ x ≤ i
  | 0, _, _, x, hx => by rw [hv_0] at hx; rw [List.eq_of_mem_replicate hx]; omega
  | i + 1, hi, hc, x, hx => by
    rw [hv_s (by omega)] at hx
    have ih := hv_bd i (by omega) fun j hj => hc j (by omega)
    rcases List.mem_or_eq_of_mem_set hx with hx | hx
    · have := ih x hx; omega
    · obtain ⟨⟨h1, h2, h3⟩, h4⟩ := canB_t (hc i (by omega))
      have hm : gN (hv l n i) (gN l i).dot.p.toNat ∈ hv l n i := gN_mem (by omega)
      have := ih _ hm
      rw [hx, h3]; omega
theorem idx_inj {m T i j : Nat} (hj : j < i) (hi : i < m) : (T + m - j) % m ≠ (T + m - i) % m := fun e => by
  have h := Nat.sub_mod_eq_zero_of_mod_eq e
  have h2 : T + m - j - (T + m - i) = i - j := by omega
  rw [h2, Nat.mod_eq_of_lt (by omega)] at h
  omega
theorem idx_all {m T k : Nat} (hT : T < m) (hk : k < m) : ∃ j, j < m ∧ k = (T + m - j) % m := by
  by_cases h : k ≤ T
  · refine ⟨T - k, by omega, ?_⟩
    have : T + m - (T - k) = k + m := by omega
    rw [this, Nat.add_mod_right, Nat.mod_eq_of_lt hk]
  · refine ⟨T + m - k, by omega, ?_⟩
    have : T + m - (T + m - k) = k := by omega
    rw [this, Nat.mod_eq_of_lt hk]
set_option maxHeartbeats 4000000 in
theorem BufAll_ok (l : List Opx) (t : Int) (hin : ∀ x ∈ l, inI x.dot.n) : FnB Try.prog 3 [ops .b l, vi t] (vb true) := by
  refine fnB_intro cf3 (by simp) ?_
  simp (config := {contextual := true, maxSteps := 1000000}) only [go_sem, ints, intRows, iv_c, Nat.reduceAdd, Nat.reduceBEq, Nat.reduceEqDiff, Nat.reduceLeDiff, Nat.reduceLT, reduceIte, Nat.le_refl, true_or, or_true, and_self, Int.reduceLE, Int.reduceLT, Int.reduceEq, Int.reduceNeg, Int.natCast_nonneg, Int.reduceToNat, ops, vals, dots, c3]
  first | refine caS_i (HeavyOs_ok l) trivial ?_ | refine caD_i (HeavyOs_ok l) trivial ?_ | refine gC_i (fun _ => HeavyOs_ok l) trivial ?_ | refine gCD_i (fun _ => HeavyOs_ok l) trivial ?_
  simp (config := {contextual := true, maxSteps := 1000000}) only [go_sem, ints, intRows, iv_c, Nat.reduceAdd, Nat.reduceBEq, Nat.reduceEqDiff, Nat.reduceLeDiff, Nat.reduceLT, reduceIte, Nat.le_refl, true_or, or_true, and_self, Int.reduceLE, Int.reduceLT, Int.reduceEq, Int.reduceNeg, Int.natCast_nonneg, Int.reduceToNat, ops, vals, dots]
  refine fun hg => ?_
  simp at hg
  obtain ⟨⟨hg1, hg2⟩, hg3⟩ := hg
  have hl40 : l.length ≤ 40 := by omega
  have hok := heavyOs_ok hg1 hin
  have hl0 : 0 < l.length := by have : l.length ≠ 0 := fun e => hg3 (by simpa using e); omega
  refine ⟨by omega, fun hn => ?_⟩
  simp at hn
  generalize hn0 : (gN l 0).deps.length = n at *
  have hn15 : 1 ≤ n ∧ n ≤ 5 := by omega
  refine ⟨by unfold maxLen; omega, ?_⟩
  have htk : ∀ v : List Int, v.length = n → List.take n (List.map (fun n => [vi n]) v) = List.map (fun n => [vi n]) v := fun v hv => List.take_of_length_le (by simp [hv])
  have hnn : (n ≤ n) = True := eq_true (Nat.le_refl _)
  refine wpC_lp (fun env ob n' => env 0 = ops .b l ∧ env 1 = vi t ∧ env 5 = vi n ∧ env 6 = .sl 26 0 n ∧ 29 ≤ n' ∧ ∃ i : Nat, env 7 = vi i ∧ i ≤ l.length ∧ ob 26 = some ⟨1, (hv l n i).map fun n => [vi n], none⟩ ∧ ∀ j, j < i → canB (hv l n j) (gN l j) = true) (fun env ob _ => (l.length - iv (env 7)).toNat) ?_ ?_
  · simp (config := {contextual := true, maxSteps := 1000000}) only [go_sem, ints, intRows, iv_c, Nat.reduceAdd, Nat.reduceBEq, Nat.reduceEqDiff, Nat.reduceLeDiff, Nat.reduceLT, reduceIte, Nat.le_refl, true_or, or_true, and_self, Int.reduceLE, Int.reduceLT, Int.reduceEq, Int.reduceNeg, Int.natCast_nonneg, Int.reduceToNat, ops, vals, dots]
    exact ⟨0, rfl, by omega, rfl, fun j hj => by omega⟩
  rintro env ob n' ⟨h0, h1, h5, h6, hn', i, h7, hi, h26, hcan⟩
  have hhl := hv_len l n i
  simp (config := {contextual := true, maxSteps := 1000000}) only [go_sem, ints, intRows, iv_c, Nat.reduceAdd, Nat.reduceBEq, Nat.reduceEqDiff, Nat.reduceLeDiff, Nat.reduceLT, reduceIte, Nat.le_refl, true_or, or_true, and_self, Int.reduceLE, Int.reduceLT, Int.reduceEq, Int.reduceNeg, Int.natCast_nonneg, Int.reduceToNat, ops, vals, dots, h0, h1, h5, h6, h7, h26, hhl, hnn, htk _ hhl]
  refine ⟨fun hlt => ?_, fun hge => ?_⟩
  · simp at hlt
    have hbd := hv_bd i (by omega) hcan
    repeat (refine And.intro (by omega) ?_)
    first | refine caS_i (RCan_ok (fl := .n) (hv l n i) (gN l i) (by rw [hhl]; unfold maxLen; omega) (fun x hx => by have := hbd x hx; unfold inI; omega) (hok _ (gN_mem hlt))) trivial ?_ | refine caD_i (RCan_ok (fl := .n) (hv l n i) (gN l i) (by rw [hhl]; unfold maxLen; omega) (fun x hx => by have := hbd x hx; unfold inI; omega) (hok _ (gN_mem hlt))) trivial ?_ | refine gC_i (fun _ => RCan_ok (fl := .n) (hv l n i) (gN l i) (by rw [hhl]; unfold maxLen; omega) (fun x hx => by have := hbd x hx; unfold inI; omega) (hok _ (gN_mem hlt))) trivial ?_ | refine gCD_i (fun _ => RCan_ok (fl := .n) (hv l n i) (gN l i) (by rw [hhl]; unfold maxLen; omega) (fun x hx => by have := hbd x hx; unfold inI; omega) (hok _ (gN_mem hlt))) trivial ?_
    simp (config := {contextual := true, maxSteps := 1000000}) only [go_sem, ints, intRows, iv_c, Nat.reduceAdd, Nat.reduceBEq, Nat.reduceEqDiff, Nat.reduceLeDiff, Nat.reduceLT, reduceIte, Nat.le_refl, true_or, or_true, and_self, Int.reduceLE, Int.reduceLT, Int.reduceEq, Int.reduceNeg, Int.natCast_nonneg, Int.reduceToNat, ops, vals, dots, h0, h1, h5, h6, h7, h26, hhl]
    have w1 : IntKind.i64.wrap ((i : Int) + 1) = ((i + 1 : Nat) : Int) := by rw [w64 (by omega)]; omega
    intro hcf
    have hct : canB (hv l n i) (gN l i) = true := by simpa using hcf
    obtain ⟨⟨q1, q2, q3⟩, q4⟩ := canB_t hct
    rw [hhl] at q2
    rw [w1]
    refine ⟨by omega, by omega, ⟨q1, q2⟩, by omega, ⟨i + 1, rfl, by omega, by rw [hv_s hlt]; rfl, fun j hj => ?_⟩, by omega⟩
    by_cases e : j = i
    · subst e; exact hct
    · exact hcan j (by omega)
  simp at hge
  have hiL : i = l.length := by omega
  subst hiL
  have hc : Cl l n := ⟨hl40, hn15, hcan⟩
  obtain ⟨T, qT1, qT2⟩ := modU t (k := (l.length : Int)) (by omega)
  have hTl : T < l.length := by omega
  have hul : IntKind.u64.wrap (l.length : Int) = (l.length : Int) := u64 (by omega)
  have hm0 : ((l.length : Int) = 0) = False := eq_false (by omega)
  refine ⟨by unfold maxLen; omega, ?_⟩
  obtain ⟨D, hD⟩ : ∃ D, D = n' + 1 + 1 + 1 + 1 + 1 := ⟨_, rfl⟩
  rw [← hD]
  have hD26 : 26 ≠ D := by omega
  have hD26' : 26 < D := by omega
  refine wpC_lp (fun env ob n2 => env 0 = ops .b l ∧ env 1 = vi t ∧ env 5 = vi n ∧ env 6 = .sl 26 0 n ∧ env 8 = .sl D 0 n ∧ D < n2 ∧ ob 26 = some ⟨1, (hv l n l.length).map fun n => [vi n], none⟩ ∧ ∃ (i cnt : Nat) (now : List Int) (W : List Nat), env 11 = vi i ∧ i ≤ l.length ∧ env 10 = vi cnt ∧ cnt + W.length = i ∧ ob D = some ⟨1, now.map fun n => [vi n], none⟩ ∧ wE (env 9) (W.map (gN l)) ∧ lenOf (env 9) = some W.length ∧ Inv l n now (fun k => ∃ j, j < i ∧ k = (T + l.length - j) % l.length) W ∧ ∀ w ∈ W, canB now (gN l w) = false) (fun env ob _ => (l.length - iv (env 11)).toNat) ?_ ?_
  · simp (config := {contextual := true, maxSteps := 1000000}) only [go_sem, ints, intRows, iv_c, Nat.reduceAdd, Nat.reduceBEq, Nat.reduceEqDiff, Nat.reduceLeDiff, Nat.reduceLT, reduceIte, Nat.le_refl, true_or, or_true, and_self, Int.reduceLE, Int.reduceLT, Int.reduceEq, Int.reduceNeg, Int.natCast_nonneg, Int.reduceToNat, ops, vals, dots, h0, h1, h5, h6]
    refine ⟨by omega, by simp [updO, hD26, h26], 0, 0, List.replicate n 0, [], rfl, by omega, rfl, rfl, rfl, wE_z, rfl, ?_, fun w hw => (by cases hw)⟩
    have := Inv.start hc
    refine ⟨this.len, this.pos, fun i hi => ?_, fun w hw => (by cases hw), this.nd⟩
    rw [this.has i hi]
    exact ⟨fun h => h.1.elim, fun ⟨⟨j, hj, _⟩, _⟩ => by omega⟩
  clear h0 h1 h5 h6 h7 h26 hn' hD env ob n'
  rintro env ob n2 ⟨h0, h1, h5, h6, h8, hn2, h26, i, cnt, now, W, h11, hi, h10, hcnt, hobD, h9, h9l, hinv, hno⟩
  have hnl := hinv.len
  simp (config := {contextual := true, maxSteps := 1000000}) only [go_sem, ints, intRows, iv_c, Nat.reduceAdd, Nat.reduceBEq, Nat.reduceEqDiff, Nat.reduceLeDiff, Nat.reduceLT, reduceIte, Nat.le_refl, true_or, or_true, and_self, Int.reduceLE, Int.reduceLT, Int.reduceEq, Int.reduceNeg, Int.natCast_nonneg, Int.reduceToNat, ops, vals, dots, h0, h1, h5, h6, h8, h10, h11, hobD, hnn, hnl, htk _ hnl, h9l]
  refine ⟨fun hlt => ?_, fun hge => ?_⟩
  · simp at hlt
    have w1 : IntKind.i64.wrap ((T : Int) + l.length) = ((T + l.length : Nat) : Int) := by rw [w64 (by omega)]; omega
    have w2 : IntKind.i64.wrap (((T + l.length : Nat) : Int) - (i : Int)) = ((T + l.length - i : Nat) : Int) := by rw [w64 (by omega)]; omega
    have w3 : (((T + l.length - i : Nat) : Int)).tmod (l.length : Int) = (((T + l.length - i) % l.length : Nat) : Int) := (Int.ofNat_tmod _ _).symm
    have w4 : IntKind.i64.wrap ((i : Int) + 1) = ((i + 1 : Nat) : Int) := by rw [w64 (by omega)]; omega
    obtain ⟨j, hj⟩ : ∃ j, j = (T + l.length - i) % l.length := ⟨_, rfl⟩
    have hjl : j < l.length := by rw [hj]; exact Nat.mod_lt _ hl0
    have hjO : ¬ ∃ j', j' < i ∧ j = (T + l.length - j') % l.length := fun ⟨j', h1, h2⟩ => idx_inj h1 hlt (by rw [← h2, hj])
    obtain ⟨R, W', e, ho, he, hinv2, hlen, hno2, hRl⟩ := hinv.offer hc hno hjl hjO
    simp (config := {contextual := true, maxSteps := 1000000}) only [go_sem, ints, intRows, iv_c, Nat.reduceAdd, Nat.reduceBEq, Nat.reduceEqDiff, Nat.reduceLeDiff, Nat.reduceLT, reduceIte, Nat.le_refl, true_or, or_true, and_self, Int.reduceLE, Int.reduceLT, Int.reduceEq, Int.reduceNeg, Int.natCast_nonneg, Int.reduceToNat, ops, vals, dots, hul, hm0, qT1, w1, w2, w3, hj.symm, h0, h1, h5, h6, h8, h10, h11, hobD, hnn, hnl, htk _ hnl, h9l]
    have hokW : ∀ x ∈ W.map (gN l), OkO x := fun x hx => by
      obtain ⟨w, hw, rfl⟩ := List.mem_map.1 hx
      exact hok _ (gN_mem (hinv.sub w hw).1)
    have hWlen : (W.map (gN l)).length ≤ maxLen := by simp [maxLen]; omega
    repeat (refine And.intro (by omega) ?_)
    have hoD : ∀ (m : Nat) (a b : Option Ob), D < m → updO (updO ob m a) m b D = some ⟨1, now.map fun n => [vi n], none⟩ := fun m a b hm => by rw [updO, if_neg (by omega), updO, if_neg (by omega), hobD]
    rw [hoD _ _ _ (by omega)]
    simp (config := {contextual := true, maxSteps := 1000000}) only [go_sem, ints, intRows, iv_c, Nat.reduceAdd, Nat.reduceBEq, Nat.reduceEqDiff, Nat.reduceLeDiff, Nat.reduceLT, reduceIte, Nat.le_refl, true_or, or_true, and_self, Int.reduceLE, Int.reduceLT, Int.reduceEq, Int.reduceNeg, Int.natCast_nonneg, Int.reduceToNat, ops, vals, dots, hnn, hnl, htk _ hnl]
    rw [h9 _ 2]
    first | refine caS_i (Offer_ok (fl := .n) (fm := .b) now (W.map (gN l)) (gN l j) (by rw [hnl]; unfold maxLen; omega) hWlen hokW (hok _ (gN_mem hjl))) trivial ?_ | refine caD_i (Offer_ok (fl := .n) (fm := .b) now (W.map (gN l)) (gN l j) (by rw [hnl]; unfold maxLen; omega) hWlen hokW (hok _ (gN_mem hjl))) trivial ?_ | refine gC_i (fun _ => Offer_ok (fl := .n) (fm := .b) now (W.map (gN l)) (gN l j) (by rw [hnl]; unfold maxLen; omega) hWlen hokW (hok _ (gN_mem hjl))) trivial ?_ | refine gCD_i (fun _ => Offer_ok (fl := .n) (fm := .b) now (W.map (gN l)) (gN l j) (by rw [hnl]; unfold maxLen; omega) hWlen hokW (hok _ (gN_mem hjl))) trivial ?_
    rw [ho]
    simp (config := {contextual := true, maxSteps := 1000000}) only [go_sem, ints, intRows, iv_c, Nat.reduceAdd, Nat.reduceBEq, Nat.reduceEqDiff, Nat.reduceLeDiff, Nat.reduceLT, reduceIte, Nat.le_refl, true_or, or_true, and_self, Int.reduceLE, Int.reduceLT, Int.reduceEq, Int.reduceNeg, Int.natCast_nonneg, Int.reduceToNat, ops, vals, dots, h0, h1, h5, h6, h8, h10, h11, hobD, hnn, hnl, htk _ hnl, h9l]
    refine ⟨fun h => by rcases he with rfl | rfl <;> simp at h, fun _ => ?_⟩
    refine wpC_lp (fun env ob n3 => env 0 = ops .b l ∧ env 1 = vi t ∧ env 5 = vi n ∧ env 6 = .sl 26 0 n ∧ env 8 = .sl D 0 n ∧ env 10 = vi cnt ∧ env 11 = vi i ∧ env 13 = .im .b (R.map fun x => opV (gN l x)) ∧ env 14 = .im .b (W'.map fun x => opV (gN l x)) ∧ D < n3 ∧ ob 26 = some ⟨1, (hv l n l.length).map fun n => [vi n], none⟩ ∧ ∃ k : Nat, env 16 = vi k ∧ k ≤ R.length ∧ ob D = some ⟨1, (((R.take k).map (gN l)).foldl setD now).map fun n => [vi n], none⟩) (fun env ob _ => (R.length - iv (env 16)).toNat) ?_ ?_
    · simp (config := {contextual := true, maxSteps := 1000000}) only [go_sem, ints, intRows, iv_c, Nat.reduceAdd, Nat.reduceBEq, Nat.reduceEqDiff, Nat.reduceLeDiff, Nat.reduceLT, reduceIte, Nat.le_refl, true_or, or_true, and_self, Int.reduceLE, Int.reduceLT, Int.reduceEq, Int.reduceNeg, Int.natCast_nonneg, Int.reduceToNat, ops, vals, dots, h0, h1, h5, h6, h8, h10, h11]
      refine ⟨by omega, ?_, 0, rfl, by omega, ?_⟩
      · rw [updO, if_neg (by omega), updO, if_neg (by omega), h26]
      · rw [updO, if_neg (by omega), updO, if_neg (by omega), hobD]; rfl
    clear hoD h0 h1 h5 h6 h8 h10 h11 h26 hobD h9 h9l hn2 env ob n2
    rintro env ob n3 ⟨h0, h1, h5, h6, h8, h10, h11, h13, h14, hn3, h26, k, h16, hk, hobD⟩
    have hfl : (((R.take k).map (gN l)).foldl setD now).length = n := by rw [fold_len, hnl]
    simp (config := {contextual := true, maxSteps := 1000000}) only [go_sem, ints, intRows, iv_c, Nat.reduceAdd, Nat.reduceBEq, Nat.reduceEqDiff, Nat.reduceLeDiff, Nat.reduceLT, reduceIte, Nat.le_refl, true_or, or_true, and_self, Int.reduceLE, Int.reduceLT, Int.reduceEq, Int.reduceNeg, Int.natCast_nonneg, Int.reduceToNat, ops, vals, dots, h0, h1, h5, h6, h8, h10, h11, h13, h14, h16, hobD, hnn, hfl]
    refine ⟨fun hkl => ?_, fun hkg => ?_⟩
    · simp at hkl
      have hrm : gN R k ∈ R := gN_mem hkl
      obtain ⟨q1, q2, q3, q4⟩ := hc.at (hRl _ hrm)
      have hRlen : R.length ≤ 40 := by omega
      have w5 : IntKind.i64.wrap ((k : Int) + 1) = ((k + 1 : Nat) : Int) := by rw [w64 (by omega)]; omega
      have hb1 : decide ((gN l (gN R k)).dot.p < 0) = false := by simp; omega
      have hb2 : decide ((n : Int) ≤ (gN l (gN R k)).dot.p) = false := by simp; omega
      have hpp : (gN l (gN R k)).dot.p.toNat = pN l (gN R k) := rfl
      rw [hb1, hb2, w5]
      refine ⟨by omega, fun _ => by omega, fun h => by simp at h, fun _ => ⟨by omega, by omega, ⟨by omega, by omega⟩, by omega, ⟨by omega, ?_, k + 1, rfl, by omega, ?_⟩, by omega⟩⟩
      · rw [updO, if_neg hD26, h26]
      · rw [take_gN hkl, List.map_append, List.foldl_append]; rfl
    · simp at hkg
      have hRlen : R.length ≤ 40 := by omega
      have hkR : k = R.length := by omega
      subst hkR
      have w6 : IntKind.i64.wrap ((cnt : Int) + (R.length : Int)) = ((cnt + R.length : Nat) : Int) := by rw [w64 (by omega)]; omega
      rw [w4, w6]
      refine ⟨⟨by omega, h26, i + 1, cnt + R.length, _, W', rfl, by omega, rfl, by omega, rfl, ?_, rfl, ?_, ?_⟩, by omega⟩
      · have := wE_b (W'.map (gN l))
        rw [List.map_map] at this
        exact this
      · rw [List.take_of_length_le (Nat.le_refl _)]
        refine ⟨hinv2.len, hinv2.pos, fun q hq => ?_, fun w hw => ⟨(hinv2.sub w hw).1, ?_⟩, hinv2.nd⟩
        · rw [hinv2.has q hq]
          refine and_congr_left fun _ => ⟨fun h => ?_, fun ⟨j', h1, h2⟩ => ?_⟩
          · rcases h with ⟨j', h1, h2⟩ | h
            · exact ⟨j', by omega, h2⟩
            · exact ⟨i, by omega, by rw [h, hj]⟩
          · by_cases e : j' = i
            · subst e; exact .inr (by rw [h2, hj])
            · exact .inl ⟨j', by omega, h2⟩
        · rcases (hinv2.sub w hw).2 with ⟨j', h1, h2⟩ | h
          · exact ⟨j', by omega, h2⟩
          · exact ⟨i, by omega, by rw [h, hj]⟩
      · rw [List.take_of_length_le (Nat.le_refl _)]; exact hno2
  · simp at hge
    have hil : i = l.length := by omega
    obtain ⟨hW, hnow⟩ := hinv.last hc (fun k hk => by
      obtain ⟨j, hj, hkj⟩ := idx_all hTl hk
      exact ⟨j, by omega, hkj⟩) hno
    subst hW
    have hcl : cnt = l.length := by simp at hcnt; omega
    subst hcl
    have hvl := hv_len l n l.length
    simp (config := {contextual := true, maxSteps := 1000000}) only [go_sem, ints, intRows, iv_c, Nat.reduceAdd, Nat.reduceBEq, Nat.reduceEqDiff, Nat.reduceLeDiff, Nat.reduceLT, reduceIte, Nat.le_refl, true_or, or_true, and_self, Int.reduceLE, Int.reduceLT, Int.reduceEq, Int.reduceNeg, Int.natCast_nonneg, Int.reduceToNat, ops, vals, dots, h26, hvl, hnn, htk _ hvl, decide_true]
    first | refine caS_i (Ints_ok (fl := .n) (fm := .n) now (hv l n l.length) (by rw [hnl]; unfold maxLen; omega)) trivial ?_ | refine caD_i (Ints_ok (fl := .n) (fm := .n) now (hv l n l.length) (by rw [hnl]; unfold maxLen; omega)) trivial ?_ | refine gC_i (fun _ => Ints_ok (fl := .n) (fm := .n) now (hv l n l.length) (by rw [hnl]; unfold maxLen; omega)) trivial ?_ | refine gCD_i (fun _ => Ints_ok (fl := .n) (fm := .n) now (hv l n l.length) (by rw [hnl]; unfold maxLen; omega)) trivial ?_
    simp (config := {contextual := true, maxSteps := 1000000}) only [go_sem, ints, intRows, iv_c, Nat.reduceAdd, Nat.reduceBEq, Nat.reduceEqDiff, Nat.reduceLeDiff, Nat.reduceLT, reduceIte, Nat.le_refl, true_or, or_true, and_self, Int.reduceLE, Int.reduceLT, Int.reduceEq, Int.reduceNeg, Int.natCast_nonneg, Int.reduceToNat, ops, vals, dots, hnow, decide_true]
    first | refine caS_i (wakes12_ok) trivial ?_ | refine caD_i (wakes12_ok) trivial ?_ | refine gC_i (fun _ => wakes12_ok) trivial ?_ | refine gCD_i (fun _ => wakes12_ok) trivial ?_
    simp (config := {contextual := true, maxSteps := 1000000}) only [go_sem, ints, intRows, iv_c, Nat.reduceAdd, Nat.reduceBEq, Nat.reduceEqDiff, Nat.reduceLeDiff, Nat.reduceLT, reduceIte, Nat.le_refl, true_or, or_true, and_self, Int.reduceLE, Int.reduceLT, Int.reduceEq, Int.reduceNeg, Int.natCast_nonneg, Int.reduceToNat, ops, vals, dots]
def gVl (v : Vl) : Prop := gInt .i64 v.k ∧ gInt .i64 v.i ∧ gStr v.s
def gSt3 (s : St3) : Prop := gInt .i64 s.p ∧ gInt .i64 s.l ∧ gInt .i64 s.q
def gOpx (x : Opx) : Prop := gDt x.dot ∧ gList (gInt .i64) x.deps ∧ gSt3 x.st ∧ gInt .i64 x.kind ∧ gInt .i64 x.table ∧ gStr x.key ∧ gInt .i64 x.col ∧ gList gVl x.vals ∧ gList gDt x.dots
@[go_sem] theorem vlV_0 (x : Vl) : (0 < (vlV x).length) = True := by simp [vlV]
theorem BufAll_law (l : List Opx) (t : Int) (hl : gList gOpx l) (_ : gInt .i64 t) : FnB Try.prog 3 [ops .b l, vi t] (vb true) := BufAll_ok l t fun x hx => gi (hl.2 x hx).1.2
end Go.Proofs.Ytcoecplkcajhgaa.D
end
section
set_option linter.unusedVariables false
set_option linter.unusedSimpArgs false
set_option linter.constructorNameAsVariable false
/- The row of BufAll, out of what the law answers to plain values. No condition beyond the statement's own. -/
namespace Go.Proofs.Ytcoecplkcajhgaa.bufAll
open Go.ChangeShapes Go.WideShapes Go.ChangeAt Go.RowKit Go.Proofs.Ytcoecplkcajhgaa.D
open Go.ChangeMaps (open_string shut_string)
theorem own : ownKnob Try.prog.godebug = none := by kernel_rfl
theorem laidOut : laidOutB Try.prog = true := by kernel_rfl
theorem opn25 {H : Type} {enc : TypeId × Value → H} : Opn enc Try.prog 25 dotV gDt := by
  intro W base sp held fuel cs x h
  obtain ⟨xs, n, rfl, rfl, hl, hxl, hf⟩ := DataW.trod_struct Try.underlying25 h
  obtain ⟨a0, K0, G0⟩ := opn_field (sz := 1) hxl hf 0 _ rfl (opn_int Try.underlying3) (by kernel_rfl)
  obtain ⟨a1, K1, G1⟩ := opn_field (sz := 1) hxl hf 1 _ rfl (opn_int Try.underlying3) (by kernel_rfl)
  have hc : Try.prog.cellsOf 25 = 2 := by kernel_rfl
  rw [hc] at hl
  exact ⟨⟨a0, a1⟩, (rv_fields K0 (rv_last K1 hl)), ⟨G0, G1⟩⟩
theorem opn28 {H : Type} {enc : TypeId × Value → H} : Opn enc Try.prog 28 stV gSt3 := by
  intro W base sp held fuel cs x h
  obtain ⟨xs, n, rfl, rfl, hl, hxl, hf⟩ := DataW.trod_struct Try.underlying28 h
  obtain ⟨a0, K0, G0⟩ := opn_field (sz := 1) hxl hf 0 _ rfl (opn_int Try.underlying3) (by kernel_rfl)
  obtain ⟨a1, K1, G1⟩ := opn_field (sz := 1) hxl hf 1 _ rfl (opn_int Try.underlying3) (by kernel_rfl)
  obtain ⟨a2, K2, G2⟩ := opn_field (sz := 1) hxl hf 2 _ rfl (opn_int Try.underlying3) (by kernel_rfl)
  have hc : Try.prog.cellsOf 28 = 3 := by kernel_rfl
  rw [hc] at hl
  exact ⟨⟨a0, a1, a2⟩, (rv_fields K0 (rv_fields K1 (rv_last K2 hl))), ⟨G0, G1, G2⟩⟩
theorem opn65 {H : Type} {enc : TypeId × Value → H} : Opn enc Try.prog 65 vlV gVl := by
  intro W base sp held fuel cs x h
  obtain ⟨xs, n, rfl, rfl, hl, hxl, hf⟩ := DataW.trod_struct Try.underlying65 h
  obtain ⟨a0, K0, G0⟩ := opn_field (sz := 1) hxl hf 0 _ rfl (opn_int Try.underlying3) (by kernel_rfl)
  obtain ⟨a1, K1, G1⟩ := opn_field (sz := 1) hxl hf 1 _ rfl (opn_int Try.underlying3) (by kernel_rfl)
  obtain ⟨a2, K2, G2⟩ := opn_field (sz := 1) hxl hf 2 _ rfl (opn_string Try.underlying9) (by kernel_rfl)
  have hc : Try.prog.cellsOf 65 = 3 := by kernel_rfl
  rw [hc] at hl
  exact ⟨⟨a0, a1, a2⟩, (rv_fields K0 (rv_fields K1 (rv_last K2 hl))), ⟨G0, G1, G2⟩⟩
theorem opn32 {H : Type} {enc : TypeId × Value → H} : Opn enc Try.prog 32 opV gOpx := by
  intro W base sp held fuel cs x h
  obtain ⟨xs, n, rfl, rfl, hl, hxl, hf⟩ := DataW.trod_struct Try.underlying32 h
  obtain ⟨a0, K0, G0⟩ := opn_field (sz := 2) hxl hf 0 _ rfl opn25 (by kernel_rfl)
  obtain ⟨a1, K1, G1⟩ := opn_field (sz := 1) hxl hf 1 _ rfl (opn_slice (sz := 1) Try.underlying26 (opn_int Try.underlying3) (by kernel_rfl) (by decide) (fun _ => rfl)) (by kernel_rfl)
  obtain ⟨a2, K2, G2⟩ := opn_field (sz := 3) hxl hf 2 _ rfl opn28 (by kernel_rfl)
  obtain ⟨a3, K3, G3⟩ := opn_field (sz := 1) hxl hf 3 _ rfl (opn_int Try.underlying3) (by kernel_rfl)
  obtain ⟨a4, K4, G4⟩ := opn_field (sz := 1) hxl hf 4 _ rfl (opn_int Try.underlying3) (by kernel_rfl)
  obtain ⟨a5, K5, G5⟩ := opn_field (sz := 1) hxl hf 5 _ rfl (opn_string Try.underlying9) (by kernel_rfl)
  obtain ⟨a6, K6, G6⟩ := opn_field (sz := 1) hxl hf 6 _ rfl (opn_int Try.underlying3) (by kernel_rfl)
  obtain ⟨a7, K7, G7⟩ := opn_field (sz := 1) hxl hf 7 _ rfl (opn_slice (sz := 3) Try.underlying29 opn65 (by kernel_rfl) (by decide) (fun _ => rfl)) (by kernel_rfl)
  obtain ⟨a8, K8, G8⟩ := opn_field (sz := 1) hxl hf 8 _ rfl (opn_slice (sz := 2) Try.underlying30 opn25 (by kernel_rfl) (by decide) (fun _ => rfl)) (by kernel_rfl)
  have hc : Try.prog.cellsOf 32 = 12 := by kernel_rfl
  rw [hc] at hl
  exact ⟨⟨a0, a1, a2, a3, a4, a5, a6, a7, a8⟩, (rv_fields K0 (rv_fields K1 (rv_fields K2 (rv_fields K3 (rv_fields K4 (rv_fields K5 (rv_fields K6 (rv_fields K7 (rv_last K8 hl))))))))), ⟨G0, G1, G2, G3, G4, G5, G6, G7, G8⟩⟩
set_option maxRecDepth 100000 in
set_option maxHeartbeats 2000000 in
theorem lifted (os : Os) (started : os.Started) (H : Type) (enc : TypeId × Value → H) :
    ReturnsInHanded {} Try.checked os 3 .any (Rows.bufAllSpec.pre6 enc Try.prog Try.f3 Rows.bufAllRow.domain false) (Rows.bufAllSpec.post enc Try.prog Try.f3 false true false false) := by
  refine returnsInHanded_of_change_sized (C := Try.checked) own started (by kernel_rfl) Try.func3
    (ChangeSpec.witness6 (enc := enc) (C := Try.checked) false ⟨#[], #[.slice none 0 0, .int .i64 0], []⟩ 8 (by kernel_rfl) (by kernel_rfl) (by kernel_rfl) (by kernel_rfl)) ?_
  intro W base args ds gs before hval0 hW hcnd hsz0 _
  have hval : ∀ (j : Nat) t v, Try.f3.params[j]? = some t → args[j]? = some v → Value.okWide Try.prog W .any base t v := hval0
  have hW' := hW
  obtain ⟨p, q, hA0, hV, rfl, hfz, hnd⟩ := hW
  have hA : DataW.TrodAll enc Try.prog W 0 (fun _ => true) true Try.f3.params.toList args.toList ds p := hA0
  rw [Try.params3] at hA hval
  obtain ⟨v0, vs0, d0, ds0, p0, q0, hargs, rfl, rfl, h0, r0⟩ := trodAll_cons hA
  obtain ⟨v1, vs1, d1, ds1, p1, q1, rfl, rfl, rfl, h1, r1⟩ := trodAll_cons r0
  obtain ⟨rfl, rfl, rfl⟩ := trodAll_nil r1
  obtain rfl : args = #[v0, v1] := by cases args; simp_all
  obtain ⟨rfl, rfl⟩ := trodVars_none hV
  have k0 := h0
  have lt0 : ∀ x ∈ p0, x.block < W.heap.size := by obtain ⟨m, hm⟩ := k0; exact DataW.trod_lt m _ _ _ hm
  obtain ⟨_, _, _, e0⟩ := okWide_slice Try.underlying22 (hval 0 22 v0 rfl rfl)
  obtain ⟨a0, R0, G0⟩ := arg_one (opn_slice (sz := 12) Try.underlying22 opn32 (by kernel_rfl) (by decide) (fun _ => rfl)) (by rw [e0]; rfl) h0
  have k1 := h1
  have lt1 : ∀ x ∈ p1, x.block < W.heap.size := by obtain ⟨m, hm⟩ := k1; exact DataW.trod_lt m _ _ _ hm
  obtain ⟨_, e1⟩ := okWide_int Try.underlying3 (hval 1 3 v1 rfl rfl)
  obtain ⟨a1, R1, G1⟩ := arg_one (opn_int Try.underlying3) (by rw [e1]; rfl) h1
  clear hA0 hval0 hsz0
  have hfn := BufAll_law a0 a1 G0 G1
  refine (hfn.2 bkA W [v0, v1] (RVs_cons R0 (RVs_cons R1 RVs_nil))).mono fun e W' ⟨x, he, hr, bel⟩ => ?_
  subst he
  obtain rfl := res_true hr
  exact ⟨_, rfl, _, _, _, [], _, [], hW', trodAll_mk1 (shut_bool Try.underlying4 _), (trodAll_cons_mk (Below.trod laidOut (by kernel_rfl) (of_decide_eq_true (by kernel_rfl)) k0 bel lt0) (trodAll_cons_mk (Below.trod laidOut (by kernel_rfl) (of_decide_eq_true (by kernel_rfl)) k1 bel lt1) trodAll_mk0)), rfl, bel.frame _, fun h => by cases h⟩
theorem over : Rows.bufAllRow.holds Try.pinned (OpenSpec.ofChange Rows.bufAllSpec) :=
  OpenClaim.holds_of_wide 3 Try.f3 rfl rfl rfl rfl rfl rfl rfl ⟨rfl, rfl, rfl, rfl, rfl⟩ rfl rfl rfl rfl rfl (by kernel_rfl) Try.func3 (by kernel_rfl)
    (of_decide_eq_true (by kernel_rfl)) (by unfold Func.isWrapper; first | (rw [if_pos (by decide +kernel)]; kernel_rfl) | (rw [if_neg (by decide +kernel)]; exact ⟨rfl, rfl⟩))
    (fun os started H enc _ => lifted os started H enc)
theorem proved : Rows.BufAllSaid := over
#print axioms proved
end Go.Proofs.Ytcoecplkcajhgaa.bufAll
namespace Go.Proofs.Ytcoecplkcajhgaa
/-- The row, under a short name, for the claim. -/
theorem bufAll_holds : Rows.BufAllSaid := bufAll.proved
end Go.Proofs.Ytcoecplkcajhgaa
end
