/- AuditOf, packed. No condition beyond the statement's own. -/
import Derived.Test.YtbojpedklnmidaaMAuditOfd
import Derived.Test.YtbojpedklnmidaaRows
import Derived.WalkKit
import Derived.ProofKit
import Derived.OpenShut
import Derived.ShutString
import Derived.ChangeOld
import Derived.Below
import Derived.SizedLaws
section
set_option linter.unusedVariables false
set_option linter.unusedSimpArgs false
set_option linter.constructorNameAsVariable false
set_option maxRecDepth 100000

/- What a vector has of operations: the statement. No condition. -/
namespace Go.Proofs.Ytbojpedklnmidaa.D
open Go Go.Proofs

theorem wk_row : okRow 12 [.c (.int .i64 0), .c (.int .i64 1), .im .b [[.c (.int .i64 0)]], .c (.int .i64 0), .c (.int .i64 0), .c (.int .i64 0), .c (.int .i64 1), .c (.int .i64 0), .c (.string ⟨#[107]⟩), .c (.int .i64 0), .im .b [[.c (.int .i64 3), .c (.int .i64 3), .c (.string ⟨#[]⟩)]], .z] = true := rfl
set_option maxHeartbeats 2000000 in
theorem wakes26_ok : FnB Try.prog 15 [] (vb true) := by
  refine fnB_intro cf15 (by simp) ?_
  have hw : ∀ ob i, opF (.bsl 12 [.c (.int .i64 0), .c (.int .i64 0), .z, .c (.int .i64 0), .c (.int .i64 0), .c (.int .i64 0), .c (.int .i64 0), .c (.int .i64 0), .c (.string ⟨#[]⟩), .c (.int .i64 0), .z, .z] [0] 1 true) [.ag [.c (.int .i64 0), .c (.int .i64 1), .im .b [[.c (.int .i64 0)]], .c (.int .i64 0), .c (.int .i64 0), .c (.int .i64 0), .c (.int .i64 1), .c (.int .i64 0), .c (.string ⟨#[107]⟩), .c (.int .i64 0), .im .b [[.c (.int .i64 3), .c (.int .i64 3), .c (.string ⟨#[]⟩)]], .z]] ob i = some (.im .b [[.c (.int .i64 0), .c (.int .i64 1), .im .b [[.c (.int .i64 0)]], .c (.int .i64 0), .c (.int .i64 0), .c (.int .i64 0), .c (.int .i64 1), .c (.int .i64 0), .c (.string ⟨#[107]⟩), .c (.int .i64 0), .im .b [[.c (.int .i64 3), .c (.int .i64 3), .c (.string ⟨#[]⟩)]], .z]], []) := fun ob i => op_bsl_r ob i rfl wk_row
  simp (config := {contextual := true, maxSteps := 1000000}) only [go_sem, ints, intRows, iv_c, Nat.reduceAdd, Nat.reduceBEq, Nat.reduceEqDiff, Nat.reduceLeDiff, Nat.reduceLT, reduceIte, Nat.le_refl, true_or, or_true, and_self, Int.reduceLE, Int.reduceLT, Int.reduceEq, Int.reduceNeg, Int.natCast_nonneg, Int.reduceToNat, ops, vals, dots, c15, hw]
  have v1 := AVector_ok (fl := .b) 1 [wk1.toOpx] (by simp [maxLen])
  have hv : vectorT 1 [wk1.toOpx] = ([1], 0) := by rfl
  rw [hv] at v1
  have c1 := Closed_ok (fl := .b) 1 [wk1.toOpx] (by simp [maxLen]) (by intro x hx; simp at hx; subst hx; simp [inI])
  have hc : closedB 1 [wk1.toOpx] = true := by rfl
  rw [hc] at c1
  have o1 := AOf_ok (fl := .b) (fm := .b) [wk1.toOpx] [0] (by simp [maxLen]) (by intro x hx; simp at hx; subst hx; exact ⟨by simp [maxLen], by simp [maxLen], by simp [maxLen], by simp [inI]⟩)
  have ho : ofT [wk1.toOpx] [0] = [] := by rfl
  rw [ho] at o1
  first | refine caS_i (MadeW_ok) trivial ?_ | refine caD_i (MadeW_ok) trivial ?_ | refine gC_i (fun _ => MadeW_ok) trivial ?_ | refine gCD_i (fun _ => MadeW_ok) trivial ?_ | refine caE_i (MadeW_ok) trivial ?_
  simp (config := {contextual := true, maxSteps := 1000000}) only [go_sem, ints, intRows, iv_c, Nat.reduceAdd, Nat.reduceBEq, Nat.reduceEqDiff, Nat.reduceLeDiff, Nat.reduceLT, reduceIte, Nat.le_refl, true_or, or_true, and_self, Int.reduceLE, Int.reduceLT, Int.reduceEq, Int.reduceNeg, Int.natCast_nonneg, Int.reduceToNat, ops, vals, dots, hw]
  first | refine caS_i (v1) trivial ?_ | refine caD_i (v1) trivial ?_ | refine gC_i (fun _ => v1) trivial ?_ | refine gCD_i (fun _ => v1) trivial ?_ | refine caE_i (v1) trivial ?_
  simp (config := {contextual := true, maxSteps := 1000000}) only [go_sem, ints, intRows, iv_c, Nat.reduceAdd, Nat.reduceBEq, Nat.reduceEqDiff, Nat.reduceLeDiff, Nat.reduceLT, reduceIte, Nat.le_refl, true_or, or_true, and_self, Int.reduceLE, Int.reduceLT, Int.reduceEq, Int.reduceNeg, Int.natCast_nonneg, Int.reduceToNat, ops, vals, dots, hw, ia_h]
  first | refine caS_i (c1) trivial ?_ | refine caD_i (c1) trivial ?_ | refine gC_i (fun _ => c1) trivial ?_ | refine gCD_i (fun _ => c1) trivial ?_ | refine caE_i (c1) trivial ?_
  simp (config := {contextual := true, maxSteps := 1000000}) only [go_sem, ints, intRows, iv_c, Nat.reduceAdd, Nat.reduceBEq, Nat.reduceEqDiff, Nat.reduceLeDiff, Nat.reduceLT, reduceIte, Nat.le_refl, true_or, or_true, and_self, Int.reduceLE, Int.reduceLT, Int.reduceEq, Int.reduceNeg, Int.natCast_nonneg, Int.reduceToNat, ops, vals, dots, hw, ia_h]
  first | refine caS_i (o1) trivial ?_ | refine caD_i (o1) trivial ?_ | refine gC_i (fun _ => o1) trivial ?_ | refine gCD_i (fun _ => o1) trivial ?_ | refine caE_i (o1) trivial ?_
  simp (config := {contextual := true, maxSteps := 1000000}) only [go_sem, ints, intRows, iv_c, Nat.reduceAdd, Nat.reduceBEq, Nat.reduceEqDiff, Nat.reduceLeDiff, Nat.reduceLT, reduceIte, Nat.le_refl, true_or, or_true, and_self, Int.reduceLE, Int.reduceLT, Int.reduceEq, Int.reduceNeg, Int.natCast_nonneg, Int.reduceToNat, ops, vals, dots, ia_h]
theorem filter_at {p : Opx → Bool} {l : List Opx} {i : Nat} (h : i < l.length) (hp : p (gN l i) = true) : ((l.take i).filter p).length < (l.filter p).length ∧ gN (l.filter p) ((l.take i).filter p).length = gN l i := by
  have e : l.filter p = (l.take i).filter p ++ gN l i :: (l.drop (i + 1)).filter p := by
    have e1 : l = l.take i ++ (gN l i :: l.drop (i + 1)) := by
      rw [gN_eq h, List.getElem_cons_drop, List.take_append_drop]
    conv => lhs; rw [e1]
    rw [List.filter_append, List.filter_cons, if_pos hp]
  rw [e]
  refine ⟨by simp, ?_⟩
  rw [gN_eq (by simp)]
  simp
theorem gN_setI (o : List Int) (k : Nat) (v : Int) (j : Nat) : gN (o.set k v) j = if k = j ∧ j < o.length then v else gN o j := by
  simp only [gN, List.getD_eq_getElem?_getD, List.getElem?_set]
  by_cases h1 : k = j
  · subst h1
    by_cases h2 : k < o.length
    · simp [h2]
    · simp [h2]
  · simp [h1]
theorem fold_ge : ∀ (l : List Opx) (o : List Int), (∀ j, gN o j ≤ gN (l.foldl (fun o x => o.set x.dot.p.toNat (max (gN o x.dot.p.toNat) x.dot.n)) o) j) ∧ ∀ x ∈ l, x.dot.p.toNat < o.length → x.dot.n ≤ gN (l.foldl (fun o x => o.set x.dot.p.toNat (max (gN o x.dot.p.toNat) x.dot.n)) o) x.dot.p.toNat
  | [], o => ⟨fun _ => Int.le_refl _, fun x hx => by cases hx⟩
  | y :: l, o => by
    obtain ⟨h1, h2⟩ := fold_ge l (o.set y.dot.p.toNat (max (gN o y.dot.p.toNat) y.dot.n))
    refine ⟨fun j => ?_, fun x hx hp => ?_⟩
    · refine Int.le_trans ?_ (h1 j)
      rw [gN_setI]; split
      · rename_i h; rw [h.1]; omega
      · omega
    · rcases List.mem_cons.1 hx with rfl | hx
      · refine Int.le_trans ?_ (h1 _)
        rw [gN_setI, if_pos ⟨rfl, hp⟩]; omega
      · exact h2 x hx (by simpa using hp)
theorem ofT_vec {n : Int} {l : List Opx} (h : (vectorT n l).2 = 0) : ofT l (vectorT n l).1 = l := by
  unfold vectorT at *
  split at h
  case isFalse => cases h
  rename_i hc
  rw [if_pos hc]
  obtain ⟨_, _, h3⟩ := hc
  unfold ofT
  rw [List.filter_eq_self]
  intro x hx
  have hv := List.all_eq_true.1 h3 x hx
  unfold vecOk at hv
  have hv := of_decide_eq_true hv
  unfold hasB
  refine decide_eq_true ⟨hv.1, ?_, hv.2.2.1, ?_⟩
  · rw [vecF_len]; omega
  · exact (fold_ge l (List.replicate n.toNat 0)).2 x hx (by rw [List.length_replicate]; omega)
theorem or_len (p q r : Opx → Bool) (h : ∀ x, r x = (p x || q x)) : ∀ l : List Opx, (l.filter r).length ≤ (l.filter p).length + (l.filter q).length ∧ (l.filter p).length ≤ (l.filter r).length ∧ (l.filter q).length ≤ (l.filter r).length
  | [] => by simp
  | x :: l => by
    have := or_len p q r h l
    have hx := h x
    cases hp : p x <;> cases hq : q x <;> simp [hp, hq] at hx <;> simp [List.filter_cons, hp, hq, hx] <;> omega
theorem has_merge {a b : List Int} (h : (mergeV a b).2 = 0) (d : Dt) : hasB (mergeV a b).1 d = (hasB a d || hasB b d) := by
  unfold mergeV eachV at *
  split at h
  · rename_i h1; exact absurd h h1
  split at h
  · rename_i h1; exact absurd h h1
  split at h
  · cases h
  rename_i h1 h2 h3
  rw [if_neg h1, if_neg h2, if_neg h3]
  have h3 : a.length = b.length := by omega
  have e : ∀ k, k < a.length → gN (List.zipWith max a b) k = max (gN a k) (gN b k) := fun k hk => by
    rw [gN_eq (by simp; omega), gN_eq hk, gN_eq (by omega)]; simp
  unfold hasB
  rw [← Bool.decide_or]
  congr 1
  apply propext
  simp only [List.length_zipWith]
  by_cases hp : 0 ≤ d.p ∧ d.p < a.length
  · rw [e _ (by omega)]; omega
  · omega
set_option maxHeartbeats 2000000 in
theorem AuditOf_ok (n : Int) (l : List Opx) (a b : List Int) (hn : ∀ x ∈ l, inI x.dot.n) : FnB Try.prog 3 [vi n, ops .b l, ints .b a, ints .b b] (vb true) := by
  refine fnB_intro cf3 (by simp) ?_
  simp (config := {contextual := true, maxSteps := 1000000}) only [go_sem, ints, intRows, iv_c, Nat.reduceAdd, Nat.reduceBEq, Nat.reduceEqDiff, Nat.reduceLeDiff, Nat.reduceLT, reduceIte, Nat.le_refl, true_or, or_true, and_self, Int.reduceLE, Int.reduceLT, Int.reduceEq, Int.reduceNeg, Int.natCast_nonneg, Int.reduceToNat, ops, vals, dots, c3]
  first | refine caS_i (HeavyOs_ok l) trivial ?_ | refine caD_i (HeavyOs_ok l) trivial ?_ | refine gC_i (fun _ => HeavyOs_ok l) trivial ?_ | refine gCD_i (fun _ => HeavyOs_ok l) trivial ?_ | refine caE_i (HeavyOs_ok l) trivial ?_
  simp (config := {contextual := true, maxSteps := 1000000}) only [go_sem, ints, intRows, iv_c, Nat.reduceAdd, Nat.reduceBEq, Nat.reduceEqDiff, Nat.reduceLeDiff, Nat.reduceLT, reduceIte, Nat.le_refl, true_or, or_true, and_self, Int.reduceLE, Int.reduceLT, Int.reduceEq, Int.reduceNeg, Int.natCast_nonneg, Int.reduceToNat, ops, vals, dots]
  refine fun hb => ?_
  have hh : heavyOs l = false ∧ l.length ≤ 40 ∧ a.length ≤ 30 ∧ b.length ≤ 30 := by
    simp at hb; exact ⟨hb.1.1.1, by omega, by omega, by omega⟩
  obtain ⟨hh1, hl, hla, hlb⟩ := hh
  have hok := heavyOs_ok hh1 hn
  have hl2 : l.length ≤ maxLen := by unfold maxLen; omega
  first | refine caS_i (AOf_ok l a hl2 hok) trivial ?_ | refine caD_i (AOf_ok l a hl2 hok) trivial ?_ | refine gC_i (fun _ => AOf_ok l a hl2 hok) trivial ?_ | refine gCD_i (fun _ => AOf_ok l a hl2 hok) trivial ?_ | refine caE_i (AOf_ok l a hl2 hok) trivial ?_
  simp (config := {contextual := true, maxSteps := 1000000}) only [go_sem, ints, intRows, iv_c, Nat.reduceAdd, Nat.reduceBEq, Nat.reduceEqDiff, Nat.reduceLeDiff, Nat.reduceLT, reduceIte, Nat.le_refl, true_or, or_true, and_self, Int.reduceLE, Int.reduceLT, Int.reduceEq, Int.reduceNeg, Int.natCast_nonneg, Int.reduceToNat, ops, vals, dots]
  first | refine caS_i (AOf_ok l b hl2 hok) trivial ?_ | refine caD_i (AOf_ok l b hl2 hok) trivial ?_ | refine gC_i (fun _ => AOf_ok l b hl2 hok) trivial ?_ | refine gCD_i (fun _ => AOf_ok l b hl2 hok) trivial ?_ | refine caE_i (AOf_ok l b hl2 hok) trivial ?_
  simp (config := {contextual := true, maxSteps := 1000000}) only [go_sem, ints, intRows, iv_c, Nat.reduceAdd, Nat.reduceBEq, Nat.reduceEqDiff, Nat.reduceLeDiff, Nat.reduceLT, reduceIte, Nat.le_refl, true_or, or_true, and_self, Int.reduceLE, Int.reduceLT, Int.reduceEq, Int.reduceNeg, Int.natCast_nonneg, Int.reduceToNat, ops, vals, dots]
  refine wpC_lp (fun env ob n' => env 0 = vi n ∧ env 1 = ops .b l ∧ env 2 = ints .b a ∧ env 3 = ints .b b ∧ env 9 = ops .b (ofT l a) ∧ env 10 = ops .b (ofT l b) ∧ ∃ i : Nat, env 12 = vi i ∧ i ≤ l.length ∧ env 11 = vi (ofT (l.take i) a).length) (fun env ob _ => (l.length - iv (env 12)).toNat) ?_ ?_
  · simp (config := {contextual := true, maxSteps := 1000000}) only [go_sem, ints, intRows, iv_c, Nat.reduceAdd, Nat.reduceBEq, Nat.reduceEqDiff, Nat.reduceLeDiff, Nat.reduceLT, reduceIte, Nat.le_refl, true_or, or_true, and_self, Int.reduceLE, Int.reduceLT, Int.reduceEq, Int.reduceNeg, Int.natCast_nonneg, Int.reduceToNat, ops, vals, dots]
    exact ⟨0, rfl, by omega, rfl⟩
  clear hb
  rintro env ob n' ⟨h0, h1, h2, h3, h9, h10, i, h12, hi, h11⟩
  have w1 : IntKind.i64.wrap ((i : Int) + 1) = ((i + 1 : Nat) : Int) := by rw [w64 (by omega)]; omega
  have hfl : ∀ i v, (ofT (l.take i) v).length ≤ 40 := fun i v => by
    have := filter_len (p := fun x => hasB v x.dot) (l := l.take i)
    rw [List.length_take] at this
    unfold ofT; omega
  have w2 : IntKind.i64.wrap (((ofT (l.take i) a).length : Int) + 1) = (((ofT (l.take i) a).length + 1 : Nat) : Int) := by have := hfl i a; rw [w64 (by omega)]; omega
  simp (config := {contextual := true, maxSteps := 1000000}) only [go_sem, ints, intRows, iv_c, Nat.reduceAdd, Nat.reduceBEq, Nat.reduceEqDiff, Nat.reduceLeDiff, Nat.reduceLT, reduceIte, Nat.le_refl, true_or, or_true, and_self, Int.reduceLE, Int.reduceLT, Int.reduceEq, Int.reduceNeg, Int.natCast_nonneg, Int.reduceToNat, ops, vals, dots, h0, h1, h2, h3, h9, h10, h11, h12]
  refine ⟨fun hlt => ?_, fun hge => ?_⟩
  · simp at hlt
    repeat (refine And.intro (by omega) ?_)
    first | refine caS_i (Has_ok a (gN l i).dot) trivial ?_ | refine caD_i (Has_ok a (gN l i).dot) trivial ?_ | refine gC_i (fun _ => Has_ok a (gN l i).dot) trivial ?_ | refine gCD_i (fun _ => Has_ok a (gN l i).dot) trivial ?_ | refine caE_i (Has_ok a (gN l i).dot) trivial ?_
    simp (config := {contextual := true, maxSteps := 1000000}) only [go_sem, ints, intRows, iv_c, Nat.reduceAdd, Nat.reduceBEq, Nat.reduceEqDiff, Nat.reduceLeDiff, Nat.reduceLT, reduceIte, Nat.le_refl, true_or, or_true, and_self, Int.reduceLE, Int.reduceLT, Int.reduceEq, Int.reduceNeg, Int.natCast_nonneg, Int.reduceToNat, ops, vals, dots, h0, h1, h2, h3, h9, h10, h11, h12, w1, w2]
    refine ⟨fun hb => ?_, fun hb => ?_⟩
    · obtain ⟨f1, f2⟩ := filter_at (p := fun x => hasB a x.dot) hlt hb
      have f1' : (ofT (l.take i) a).length < (ofT l a).length := f1
      have f2' : gN (ofT l a) (ofT (l.take i) a).length = gN l i := f2
      have f4 := filter_take (p := fun x => hasB a x.dot) hlt
      rw [if_pos hb] at f4
      have f5 : (ofT (l.take (i + 1)) a).length = (ofT (l.take i) a).length + 1 := by unfold ofT; rw [f4]; simp
      have hd : decide (((ofT l a).length : Int) ≤ ((ofT (l.take i) a).length : Int)) = false := by simp; omega
      rw [f2']
      refine ⟨fun _ => by omega, fun _ => by omega, ?_⟩
      first | refine caS_i (KOp_ok (gN l i) (gN l i) (hok _ (gN_mem hlt))) trivial ?_ | refine caD_i (KOp_ok (gN l i) (gN l i) (hok _ (gN_mem hlt))) trivial ?_ | refine gC_i (fun _ => KOp_ok (gN l i) (gN l i) (hok _ (gN_mem hlt))) trivial ?_ | refine gCD_i (fun _ => KOp_ok (gN l i) (gN l i) (hok _ (gN_mem hlt))) trivial ?_ | refine caE_i (KOp_ok (gN l i) (gN l i) (hok _ (gN_mem hlt))) trivial ?_
      simp (config := {contextual := true, maxSteps := 1000000}) only [go_sem, ints, intRows, iv_c, Nat.reduceAdd, Nat.reduceBEq, Nat.reduceEqDiff, Nat.reduceLeDiff, Nat.reduceLT, reduceIte, Nat.le_refl, true_or, or_true, and_self, Int.reduceLE, Int.reduceLT, Int.reduceEq, Int.reduceNeg, Int.natCast_nonneg, Int.reduceToNat, ops, vals, dots, h0, h1, h2, h3, h9, h10, h11, h12, w1, w2, hd, eqO_rfl]
      exact ⟨⟨i + 1, rfl, by omega, by rw [f5]⟩, by omega⟩
    · have f4 := filter_take (p := fun x => hasB a x.dot) hlt
      rw [if_neg (by simpa using hb), List.append_nil] at f4
      have f5 : (ofT (l.take (i + 1)) a).length = (ofT (l.take i) a).length := by unfold ofT; rw [f4]
      exact ⟨⟨i + 1, rfl, by omega, by rw [f5]⟩, by omega⟩
  · simp at hge
    rw [List.take_of_length_le (by omega)] at h11
    obtain rfl : i = l.length := by omega
    rw [List.take_length] at *
    refine ⟨fun hb => ?_, fun _ => ?_⟩
    · simp at hb
    first | refine caS_i (AVector_ok n l hl2) trivial ?_ | refine caD_i (AVector_ok n l hl2) trivial ?_ | refine gC_i (fun _ => AVector_ok n l hl2) trivial ?_ | refine gCD_i (fun _ => AVector_ok n l hl2) trivial ?_ | refine caE_i (AVector_ok n l hl2) trivial ?_
    simp (config := {contextual := true, maxSteps := 1000000}) only [go_sem, ints, intRows, iv_c, Nat.reduceAdd, Nat.reduceBEq, Nat.reduceEqDiff, Nat.reduceLeDiff, Nat.reduceLT, reduceIte, Nat.le_refl, true_or, or_true, and_self, Int.reduceLE, Int.reduceLT, Int.reduceEq, Int.reduceNeg, Int.natCast_nonneg, Int.reduceToNat, ops, vals, dots, h0, h1, h2, h3, h9, h10, h11, h12]
    first | refine caS_i (AOf_ok l (vectorT n l).1 hl2 hok) trivial ?_ | refine caD_i (AOf_ok l (vectorT n l).1 hl2 hok) trivial ?_ | refine gC_i (fun _ => AOf_ok l (vectorT n l).1 hl2 hok) trivial ?_ | refine gCD_i (fun _ => AOf_ok l (vectorT n l).1 hl2 hok) trivial ?_ | refine caE_i (AOf_ok l (vectorT n l).1 hl2 hok) trivial ?_
    simp (config := {contextual := true, maxSteps := 1000000}) only [go_sem, ints, intRows, iv_c, Nat.reduceAdd, Nat.reduceBEq, Nat.reduceEqDiff, Nat.reduceLeDiff, Nat.reduceLT, reduceIte, Nat.le_refl, true_or, or_true, and_self, Int.reduceLE, Int.reduceLT, Int.reduceEq, Int.reduceNeg, Int.natCast_nonneg, Int.reduceToNat, ops, vals, dots, h0, h1, h2, h3, h9, h10, h11, h12]
    first | refine caS_i (KOps_ok (ofT l (vectorT n l).1) l (by have := hfl l.length (vectorT n l).1; rw [List.take_length] at this; unfold maxLen; omega) (fun x hx => hok x (List.mem_filter.1 hx).1)) trivial ?_ | refine caD_i (KOps_ok (ofT l (vectorT n l).1) l (by have := hfl l.length (vectorT n l).1; rw [List.take_length] at this; unfold maxLen; omega) (fun x hx => hok x (List.mem_filter.1 hx).1)) trivial ?_ | refine gC_i (fun _ => KOps_ok (ofT l (vectorT n l).1) l (by have := hfl l.length (vectorT n l).1; rw [List.take_length] at this; unfold maxLen; omega) (fun x hx => hok x (List.mem_filter.1 hx).1)) trivial ?_ | refine gCD_i (fun _ => KOps_ok (ofT l (vectorT n l).1) l (by have := hfl l.length (vectorT n l).1; rw [List.take_length] at this; unfold maxLen; omega) (fun x hx => hok x (List.mem_filter.1 hx).1)) trivial ?_ | refine caE_i (KOps_ok (ofT l (vectorT n l).1) l (by have := hfl l.length (vectorT n l).1; rw [List.take_length] at this; unfold maxLen; omega) (fun x hx => hok x (List.mem_filter.1 hx).1)) trivial ?_
    simp (config := {contextual := true, maxSteps := 1000000}) only [go_sem, ints, intRows, iv_c, Nat.reduceAdd, Nat.reduceBEq, Nat.reduceEqDiff, Nat.reduceLeDiff, Nat.reduceLT, reduceIte, Nat.le_refl, true_or, or_true, and_self, Int.reduceLE, Int.reduceLT, Int.reduceEq, Int.reduceNeg, Int.natCast_nonneg, Int.reduceToNat, ops, vals, dots, h0, h1, h2, h3, h9, h10, h11, h12]
    refine ⟨fun hb => ?_, fun hb => ?_⟩
    · simp at hb
      exfalso
      have := ofT_vec hb.1
      rw [this, sameL_rfl eqO_rfl] at hb
      simp at hb
    first | refine caS_i (Merge_ok a b) trivial ?_ | refine caD_i (Merge_ok a b) trivial ?_ | refine gC_i (fun _ => Merge_ok a b) trivial ?_ | refine gCD_i (fun _ => Merge_ok a b) trivial ?_ | refine caE_i (Merge_ok a b) trivial ?_
    simp (config := {contextual := true, maxSteps := 1000000}) only [go_sem, ints, intRows, iv_c, Nat.reduceAdd, Nat.reduceBEq, Nat.reduceEqDiff, Nat.reduceLeDiff, Nat.reduceLT, reduceIte, Nat.le_refl, true_or, or_true, and_self, Int.reduceLE, Int.reduceLT, Int.reduceEq, Int.reduceNeg, Int.natCast_nonneg, Int.reduceToNat, ops, vals, dots, h0, h1, h2, h3, h9, h10, h11, h12]
    refine ⟨fun hm => ?_, fun hm => ?_⟩
    · first | refine caS_i (wakes26_ok) trivial ?_ | refine caD_i (wakes26_ok) trivial ?_ | refine gC_i (fun _ => wakes26_ok) trivial ?_ | refine gCD_i (fun _ => wakes26_ok) trivial ?_ | refine caE_i (wakes26_ok) trivial ?_
      simp (config := {contextual := true, maxSteps := 1000000}) only [go_sem, ints, intRows, iv_c, Nat.reduceAdd, Nat.reduceBEq, Nat.reduceEqDiff, Nat.reduceLeDiff, Nat.reduceLT, reduceIte, Nat.le_refl, true_or, or_true, and_self, Int.reduceLE, Int.reduceLT, Int.reduceEq, Int.reduceNeg, Int.natCast_nonneg, Int.reduceToNat, ops, vals, dots]
    first | refine caS_i (AOf_ok l (mergeV a b).1 hl2 hok) trivial ?_ | refine caD_i (AOf_ok l (mergeV a b).1 hl2 hok) trivial ?_ | refine gC_i (fun _ => AOf_ok l (mergeV a b).1 hl2 hok) trivial ?_ | refine gCD_i (fun _ => AOf_ok l (mergeV a b).1 hl2 hok) trivial ?_ | refine caE_i (AOf_ok l (mergeV a b).1 hl2 hok) trivial ?_
    simp (config := {contextual := true, maxSteps := 1000000}) only [go_sem, ints, intRows, iv_c, Nat.reduceAdd, Nat.reduceBEq, Nat.reduceEqDiff, Nat.reduceLeDiff, Nat.reduceLT, reduceIte, Nat.le_refl, true_or, or_true, and_self, Int.reduceLE, Int.reduceLT, Int.reduceEq, Int.reduceNeg, Int.natCast_nonneg, Int.reduceToNat, ops, vals, dots, h0, h1, h2, h3, h9, h10, h11, h12]
    first | refine caS_i (wakes26_ok) trivial ?_ | refine caD_i (wakes26_ok) trivial ?_ | refine gC_i (fun _ => wakes26_ok) trivial ?_ | refine gCD_i (fun _ => wakes26_ok) trivial ?_ | refine caE_i (wakes26_ok) trivial ?_
    simp (config := {contextual := true, maxSteps := 1000000}) only [go_sem, ints, intRows, iv_c, Nat.reduceAdd, Nat.reduceBEq, Nat.reduceEqDiff, Nat.reduceLeDiff, Nat.reduceLT, reduceIte, Nat.le_refl, true_or, or_true, and_self, Int.reduceLE, Int.reduceLT, Int.reduceEq, Int.reduceNeg, Int.natCast_nonneg, Int.reduceToNat, ops, vals, dots]
    have hm0 : (mergeV a b).2 = 0 := by simpa using hm
    have ho := or_len (fun x => hasB a x.dot) (fun x => hasB b x.dot) (fun x => hasB (mergeV a b).1 x.dot) (fun x => has_merge hm0 _) l
    have ha40 := hfl l.length a
    have hb40 := hfl l.length b
    rw [List.take_length] at ha40 hb40
    unfold ofT at *
    rw [w64 (by omega)]
    congr 2
    simp only [Bool.and_eq_true, decide_eq_true_eq]
    omega
/-- A statement's arguments. -/
def gOpx (x : Opx) : Prop := gDt x.dot ∧ gList (gInt .i64) x.deps ∧ gSt3 x.st ∧ gInt .i64 x.kind ∧ gInt .i64 x.table ∧ gStr x.key ∧ gInt .i64 x.col ∧ gList gVl x.vals ∧ gList gDt x.dots
theorem AuditOf_law (n : Int) (l : List Opx) (a b : List Int) (_ : gInt .i64 n) (hl : gList gOpx l) (_ : gList (gInt .i64) a) (_ : gList (gInt .i64) b) : FnB Try.prog 3 [vi n, ops .b l, ints .b a, ints .b b] (vb true) := AuditOf_ok n l a b fun x hx => gi (hl.2 x hx).1.2
end Go.Proofs.Ytbojpedklnmidaa.D
end
section
set_option linter.unusedVariables false
set_option linter.unusedSimpArgs false
set_option linter.constructorNameAsVariable false
/- The row of AuditOf, out of what the law answers to plain values. No condition beyond the statement's own. -/
namespace Go.Proofs.Ytbojpedklnmidaa.auditOf
open Go.ChangeShapes Go.WideShapes Go.ChangeAt Go.RowKit Go.Proofs.Ytbojpedklnmidaa.D
open Go.ChangeMaps (open_string shut_string)
theorem own : ownKnob Try.prog.godebug = none := by kernel_rfl
theorem laidOut : laidOutB Try.prog = true := by kernel_rfl
theorem opn28 {H : Type} {enc : TypeId × Value → H} : Opn enc Try.prog 28 dotV gDt := by
  intro W base sp held fuel cs x h
  obtain ⟨xs, n, rfl, rfl, hl, hxl, hf⟩ := DataW.trod_struct Try.underlying28 h
  obtain ⟨a0, K0, G0⟩ := opn_field (sz := 1) hxl hf 0 _ rfl (opn_int Try.underlying3) (by kernel_rfl)
  obtain ⟨a1, K1, G1⟩ := opn_field (sz := 1) hxl hf 1 _ rfl (opn_int Try.underlying3) (by kernel_rfl)
  have hc : Try.prog.cellsOf 28 = 2 := by kernel_rfl
  rw [hc] at hl
  exact ⟨⟨a0, a1⟩, (rv_fields K0 (rv_last K1 hl)), ⟨G0, G1⟩⟩
theorem opn30 {H : Type} {enc : TypeId × Value → H} : Opn enc Try.prog 30 stV gSt3 := by
  intro W base sp held fuel cs x h
  obtain ⟨xs, n, rfl, rfl, hl, hxl, hf⟩ := DataW.trod_struct Try.underlying30 h
  obtain ⟨a0, K0, G0⟩ := opn_field (sz := 1) hxl hf 0 _ rfl (opn_int Try.underlying3) (by kernel_rfl)
  obtain ⟨a1, K1, G1⟩ := opn_field (sz := 1) hxl hf 1 _ rfl (opn_int Try.underlying3) (by kernel_rfl)
  obtain ⟨a2, K2, G2⟩ := opn_field (sz := 1) hxl hf 2 _ rfl (opn_int Try.underlying3) (by kernel_rfl)
  have hc : Try.prog.cellsOf 30 = 3 := by kernel_rfl
  rw [hc] at hl
  exact ⟨⟨a0, a1, a2⟩, (rv_fields K0 (rv_fields K1 (rv_last K2 hl))), ⟨G0, G1, G2⟩⟩
theorem opn60 {H : Type} {enc : TypeId × Value → H} : Opn enc Try.prog 60 vlV gVl := by
  intro W base sp held fuel cs x h
  obtain ⟨xs, n, rfl, rfl, hl, hxl, hf⟩ := DataW.trod_struct Try.underlying60 h
  obtain ⟨a0, K0, G0⟩ := opn_field (sz := 1) hxl hf 0 _ rfl (opn_int Try.underlying3) (by kernel_rfl)
  obtain ⟨a1, K1, G1⟩ := opn_field (sz := 1) hxl hf 1 _ rfl (opn_int Try.underlying3) (by kernel_rfl)
  obtain ⟨a2, K2, G2⟩ := opn_field (sz := 1) hxl hf 2 _ rfl (opn_string Try.underlying9) (by kernel_rfl)
  have hc : Try.prog.cellsOf 60 = 3 := by kernel_rfl
  rw [hc] at hl
  exact ⟨⟨a0, a1, a2⟩, (rv_fields K0 (rv_fields K1 (rv_last K2 hl))), ⟨G0, G1, G2⟩⟩
theorem opn34 {H : Type} {enc : TypeId × Value → H} : Opn enc Try.prog 34 opV gOpx := by
  intro W base sp held fuel cs x h
  obtain ⟨xs, n, rfl, rfl, hl, hxl, hf⟩ := DataW.trod_struct Try.underlying34 h
  obtain ⟨a0, K0, G0⟩ := opn_field (sz := 2) hxl hf 0 _ rfl opn28 (by kernel_rfl)
  obtain ⟨a1, K1, G1⟩ := opn_field (sz := 1) hxl hf 1 _ rfl (opn_slice (sz := 1) Try.underlying23 (opn_int Try.underlying3) (by kernel_rfl) (by decide) (fun _ => rfl)) (by kernel_rfl)
  obtain ⟨a2, K2, G2⟩ := opn_field (sz := 3) hxl hf 2 _ rfl opn30 (by kernel_rfl)
  obtain ⟨a3, K3, G3⟩ := opn_field (sz := 1) hxl hf 3 _ rfl (opn_int Try.underlying3) (by kernel_rfl)
  obtain ⟨a4, K4, G4⟩ := opn_field (sz := 1) hxl hf 4 _ rfl (opn_int Try.underlying3) (by kernel_rfl)
  obtain ⟨a5, K5, G5⟩ := opn_field (sz := 1) hxl hf 5 _ rfl (opn_string Try.underlying9) (by kernel_rfl)
  obtain ⟨a6, K6, G6⟩ := opn_field (sz := 1) hxl hf 6 _ rfl (opn_int Try.underlying3) (by kernel_rfl)
  obtain ⟨a7, K7, G7⟩ := opn_field (sz := 1) hxl hf 7 _ rfl (opn_slice (sz := 3) Try.underlying31 opn60 (by kernel_rfl) (by decide) (fun _ => rfl)) (by kernel_rfl)
  obtain ⟨a8, K8, G8⟩ := opn_field (sz := 1) hxl hf 8 _ rfl (opn_slice (sz := 2) Try.underlying32 opn28 (by kernel_rfl) (by decide) (fun _ => rfl)) (by kernel_rfl)
  have hc : Try.prog.cellsOf 34 = 12 := by kernel_rfl
  rw [hc] at hl
  exact ⟨⟨a0, a1, a2, a3, a4, a5, a6, a7, a8⟩, (rv_fields K0 (rv_fields K1 (rv_fields K2 (rv_fields K3 (rv_fields K4 (rv_fields K5 (rv_fields K6 (rv_fields K7 (rv_last K8 hl))))))))), ⟨G0, G1, G2, G3, G4, G5, G6, G7, G8⟩⟩
set_option maxRecDepth 100000 in
set_option maxHeartbeats 2000000 in
theorem lifted (os : Os) (started : os.Started) (H : Type) (enc : TypeId × Value → H) :
    ReturnsInHanded {} Try.checked os 3 .any (Rows.auditOfSpec.pre6 enc Try.prog Try.f3 Rows.auditOfRow.domain false) (Rows.auditOfSpec.post enc Try.prog Try.f3 false true false false) := by
  refine returnsInHanded_of_change_sized (C := Try.checked) own started (by kernel_rfl) Try.func3
    (ChangeSpec.witness6 (enc := enc) (C := Try.checked) false ⟨#[], #[.int .i64 0, .slice none 0 0, .slice none 0 0, .slice none 0 0], []⟩ 8 (by kernel_rfl) (by kernel_rfl) (by kernel_rfl) (by kernel_rfl)) ?_
  intro W base args ds gs before hval0 hW hcnd hsz0 _
  have hval : ∀ (j : Nat) t v, Try.f3.params[j]? = some t → args[j]? = some v → Value.okWide Try.prog W .any base t v := hval0
  have hW' := hW
  obtain ⟨p, q, hA0, hV, rfl, hfz, hnd⟩ := hW
  have hA : DataW.TrodAll enc Try.prog W 0 (fun _ => true) true Try.f3.params.toList args.toList ds p := hA0
  rw [Try.params3] at hA hval
  obtain ⟨v0, vs0, d0, ds0, p0, q0, hargs, rfl, rfl, h0, r0⟩ := trodAll_cons hA
  obtain ⟨v1, vs1, d1, ds1, p1, q1, rfl, rfl, rfl, h1, r1⟩ := trodAll_cons r0
  obtain ⟨v2, vs2, d2, ds2, p2, q2, rfl, rfl, rfl, h2, r2⟩ := trodAll_cons r1
  obtain ⟨v3, vs3, d3, ds3, p3, q3, rfl, rfl, rfl, h3, r3⟩ := trodAll_cons r2
  obtain ⟨rfl, rfl, rfl⟩ := trodAll_nil r3
  obtain rfl : args = #[v0, v1, v2, v3] := by cases args; simp_all
  obtain ⟨rfl, rfl⟩ := trodVars_none hV
  have k0 := h0
  have lt0 : ∀ x ∈ p0, x.block < W.heap.size := by obtain ⟨m, hm⟩ := k0; exact DataW.trod_lt m _ _ _ hm
  obtain ⟨_, e0⟩ := okWide_int Try.underlying3 (hval 0 3 v0 rfl rfl)
  obtain ⟨a0, R0, G0⟩ := arg_one (opn_int Try.underlying3) (by rw [e0]; rfl) h0
  have k1 := h1
  have lt1 : ∀ x ∈ p1, x.block < W.heap.size := by obtain ⟨m, hm⟩ := k1; exact DataW.trod_lt m _ _ _ hm
  obtain ⟨_, _, _, e1⟩ := okWide_slice Try.underlying22 (hval 1 22 v1 rfl rfl)
  obtain ⟨a1, R1, G1⟩ := arg_one (opn_slice (sz := 12) Try.underlying22 opn34 (by kernel_rfl) (by decide) (fun _ => rfl)) (by rw [e1]; rfl) h1
  have k2 := h2
  have lt2 : ∀ x ∈ p2, x.block < W.heap.size := by obtain ⟨m, hm⟩ := k2; exact DataW.trod_lt m _ _ _ hm
  obtain ⟨_, _, _, e2⟩ := okWide_slice Try.underlying23 (hval 2 23 v2 rfl rfl)
  obtain ⟨a2, R2, G2⟩ := arg_one (opn_slice (sz := 1) Try.underlying23 (opn_int Try.underlying3) (by kernel_rfl) (by decide) (fun _ => rfl)) (by rw [e2]; rfl) h2
  have k3 := h3
  have lt3 : ∀ x ∈ p3, x.block < W.heap.size := by obtain ⟨m, hm⟩ := k3; exact DataW.trod_lt m _ _ _ hm
  obtain ⟨_, _, _, e3⟩ := okWide_slice Try.underlying23 (hval 3 23 v3 rfl rfl)
  obtain ⟨a3, R3, G3⟩ := arg_one (opn_slice (sz := 1) Try.underlying23 (opn_int Try.underlying3) (by kernel_rfl) (by decide) (fun _ => rfl)) (by rw [e3]; rfl) h3
  clear hA0 hval0 hsz0
  have hfn := AuditOf_law a0 a1 a2 a3 G0 G1 G2 G3
  refine (hfn.2 bkA W [v0, v1, v2, v3] (RVs_cons R0 (RVs_cons R1 (RVs_cons R2 (RVs_cons R3 RVs_nil))))).mono fun e W' ⟨x, he, hr, bel⟩ => ?_
  subst he
  obtain rfl := res_true hr
  exact ⟨_, rfl, _, _, _, [], _, [], hW', trodAll_mk1 (shut_bool Try.underlying4 _), (trodAll_cons_mk (Below.trod laidOut (by kernel_rfl) (of_decide_eq_true (by kernel_rfl)) k0 bel lt0) (trodAll_cons_mk (Below.trod laidOut (by kernel_rfl) (of_decide_eq_true (by kernel_rfl)) k1 bel lt1) (trodAll_cons_mk (Below.trod laidOut (by kernel_rfl) (of_decide_eq_true (by kernel_rfl)) k2 bel lt2) (trodAll_cons_mk (Below.trod laidOut (by kernel_rfl) (of_decide_eq_true (by kernel_rfl)) k3 bel lt3) trodAll_mk0)))), rfl, bel.frame _, fun h => by cases h⟩
theorem over : Rows.auditOfRow.holds Try.pinned (OpenSpec.ofChange Rows.auditOfSpec) :=
  OpenClaim.holds_of_wide 3 Try.f3 rfl rfl rfl rfl rfl rfl rfl ⟨rfl, rfl, rfl, rfl, rfl⟩ rfl rfl rfl rfl rfl (by kernel_rfl) Try.func3 (by kernel_rfl)
    (of_decide_eq_true (by kernel_rfl)) (by unfold Func.isWrapper; first | (rw [if_pos (by decide +kernel)]; kernel_rfl) | (rw [if_neg (by decide +kernel)]; exact ⟨rfl, rfl⟩))
    (fun os started H enc _ => lifted os started H enc)
theorem proved : Rows.AuditOfSaid := over
#print axioms proved
end Go.Proofs.Ytbojpedklnmidaa.auditOf
namespace Go.Proofs.Ytbojpedklnmidaa
/-- The row, under a short name, for the claim. -/
theorem auditOf_holds : Rows.AuditOfSaid := auditOf.proved
end Go.Proofs.Ytbojpedklnmidaa
end
