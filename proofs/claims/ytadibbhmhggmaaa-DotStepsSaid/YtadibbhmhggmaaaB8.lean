/- Written by a program of this session, out of the translation: plain functions, and that the calls do what they say. Lean checks it. -/
import Derived.Test.YtadibbhmhggmaaaB0
import Derived.Test.YtadibbhmhggmaaaB1
import Derived.Test.YtadibbhmhggmaaaB2
import Derived.Test.YtadibbhmhggmaaaB4
import Derived.Test.YtadibbhmhggmaaaB5
import Derived.Test.YtadibbhmhggmaaaB7
namespace Go.Proofs.Ytadibbhmhggmaaa.B
open Go.RowKit Go.Proofs.YtadibbhmhggmaaaW.PrintWords Go.Proofs.YtadibbhmhggmaaaW.PrintLast Go.Proofs.YtadibbhmhggmaaaW.PrintMore
attribute [local go_sem] max2_int min2_int max_two min_two max_three min_three max_four min_four Go.Proofs.Ytadibbhmhggmaaa.Open.string_gtr2 Go.Proofs.Ytadibbhmhggmaaa.Open.string_leq2 Go.Proofs.Ytadibbhmhggmaaa.Open.string_geq2   -- for this text's walks alone
set_option linter.unusedVariables false
set_option linter.unusedSimpArgs false

/-! ### L05_DotSteps: function 3 -/
mutual
def L05_DotSteps.l0 : Nat → Int → List Int → List Int → Int → Int → Int → Option (Bool)
 | 0, _, _, _, _, _, _ => none
 | k + 1, x0, x1, x7, x8, x165000, x165001 => if x8 < (x1.length : Int) then (if 0 ≤ x8 then (if (IntKind.u64.wrap (x0)) = 0 then (none) else (if 0 ≤ (wrap64 (Int.tmod (IntKind.u64.wrap (rd x1 x8)) (IntKind.u64.wrap (x0)))) then (if (wrap64 (Int.tmod (IntKind.u64.wrap (rd x1 x8)) (IntKind.u64.wrap (x0)))) < (x7.length : Int) then ((dot_Has.f x7 (wrap64 (Int.tmod (IntKind.u64.wrap (rd x1 x8)) (IntKind.u64.wrap (x0)))) (wrap64 ((rd x7 (wrap64 (Int.tmod (IntKind.u64.wrap (rd x1 x8)) (IntKind.u64.wrap (x0))))) + 1))).bind fun t171 => (if t171 = true then (L05_DotSteps.j1 k x0 x1 x7 x8 true x165000 x165001 (wrap64 (Int.tmod (IntKind.u64.wrap (rd x1 x8)) (IntKind.u64.wrap (x0)))) (wrap64 ((rd x7 (wrap64 (Int.tmod (IntKind.u64.wrap (rd x1 x8)) (IntKind.u64.wrap (x0))))) + 1))) else ((dot_Next.f x7 (wrap64 (Int.tmod (IntKind.u64.wrap (rd x1 x8)) (IntKind.u64.wrap (x0)))) (wrap64 ((rd x7 (wrap64 (Int.tmod (IntKind.u64.wrap (rd x1 x8)) (IntKind.u64.wrap (x0))))) + 1))).bind fun t172 => (L05_DotSteps.j1 k x0 x1 x7 x8 (!t172) x165000 x165001 (wrap64 (Int.tmod (IntKind.u64.wrap (rd x1 x8)) (IntKind.u64.wrap (x0)))) (wrap64 ((rd x7 (wrap64 (Int.tmod (IntKind.u64.wrap (rd x1 x8)) (IntKind.u64.wrap (x0))))) + 1)))))) else (none)) else (none))) else (none)) else (L05_DotSteps.l1 k x0 x1 x7 0 0)
def L05_DotSteps.j1 : Nat → Int → List Int → List Int → Int → Bool → Int → Int → Int → Int → Option (Bool)
 | 0, _, _, _, _, _, _, _, _, _ => none
 | k + 1, x0, x1, x7, x8, x57, x165000, x165001, x171000, x171001 => if x57 = true then (some false) else ((dot_Add.f k x7 x171000 x171001).bind fun bt173 => (if bt173.2 = 0 then (if (bt173.1.length : Int) = x0 then ((dot_Has.f bt173.1 x171000 x171001).bind fun t177 => (if t177 = true then ((dot_Le.f k x7 bt173.1).bind fun t178 => (if t178 = true then ((dot_Le.f k bt173.1 x7).bind fun t179 => (if t179 = true then (L05_DotSteps.j2 k x0 x1 x7 x8 bt173.1 true x165000 x165001 x171000 x171001) else ((dot_Next.f bt173.1 x171000 x171001).bind fun t180 => (L05_DotSteps.j2 k x0 x1 x7 x8 bt173.1 t180 x165000 x165001 x171000 x171001)))) else (L05_DotSteps.j2 k x0 x1 x7 x8 bt173.1 true x165000 x165001 x171000 x171001))) else (L05_DotSteps.j2 k x0 x1 x7 x8 bt173.1 true x165000 x165001 x171000 x171001))) else (L05_DotSteps.j2 k x0 x1 x7 x8 bt173.1 true x165000 x165001 x171000 x171001)) else (L05_DotSteps.j2 k x0 x1 x7 x8 bt173.1 true x165000 x165001 x171000 x171001)))
def L05_DotSteps.j2 : Nat → Int → List Int → List Int → Int → List Int → Bool → Int → Int → Int → Int → Option (Bool)
 | 0, _, _, _, _, _, _, _, _, _, _ => none
 | k + 1, x0, x1, x7, x8, x11, x93, x165000, x165001, x171000, x171001 => if x93 = true then (some false) else ((dot_Add.f k x11 x171000 x171001).bind fun bt181 => (if bt181.2 = 1 then ((dot_Has.f x7 x165000 x165001).bind fun t185 => (if t185 = true then ((dot_Has.f x11 x165000 x165001).bind fun t186 => (if t186 = true then (L05_DotSteps.l0 k x0 x1 x11 (wrap64 (x8 + 1)) x165000 x165001) else (some false))) else (L05_DotSteps.l0 k x0 x1 x11 (wrap64 (x8 + 1)) x165000 x165001))) else (some false)))
def L05_DotSteps.l1 : Nat → Int → List Int → List Int → Int → Int → Option (Bool)
 | 0, _, _, _, _, _ => none
 | k + 1, x0, x1, x7, x15, x16 => if x16 < x0 then (if 0 ≤ x16 then (if x16 < (x7.length : Int) then (L05_DotSteps.l1 k x0 x1 x7 (wrap64 (x15 + (rd x7 x16))) (wrap64 (x16 + 1))) else (none)) else (none)) else (if x15 = (x1.length : Int) then ((L05_wakes.f k).bind fun t188 => (some t188)) else (some false))
end
def L05_DotSteps.f (k : Nat) (a0 : Int) (l1 : List Int) (a2_0 : Int) (a2_1 : Int) : Option (Bool) := if (l1.length : Int) > 100 then (some true) else (if 0 ≤ (wrap64 (1 + (wrap64 (Int.tmod (IntKind.u64.wrap (a0)) 5)))) then (if (wrap64 (1 + (wrap64 (Int.tmod (IntKind.u64.wrap (a0)) 5))) : Int).toNat ≤ 35184372088832 then (L05_DotSteps.l0 k (wrap64 (1 + (wrap64 (Int.tmod (IntKind.u64.wrap (a0)) 5)))) l1 (List.replicate (wrap64 (1 + (wrap64 (Int.tmod (IntKind.u64.wrap (a0)) 5))) : Int).toNat 0) 0 a2_0 a2_1) else (none)) else (none))
theorem L05_DotSteps.mono_l : ∀ k, (∀ y0 y1 y2 y3 y4 y5, LeO (L05_DotSteps.l0 k y0 y1 y2 y3 y4 y5) (L05_DotSteps.l0 (k + 1) y0 y1 y2 y3 y4 y5)) ∧ (∀ y0 y1 y2 y3 y4 y5 y6 y7 y8, LeO (L05_DotSteps.j1 k y0 y1 y2 y3 y4 y5 y6 y7 y8) (L05_DotSteps.j1 (k + 1) y0 y1 y2 y3 y4 y5 y6 y7 y8)) ∧ (∀ y0 y1 y2 y3 y4 y5 y6 y7 y8 y9, LeO (L05_DotSteps.j2 k y0 y1 y2 y3 y4 y5 y6 y7 y8 y9) (L05_DotSteps.j2 (k + 1) y0 y1 y2 y3 y4 y5 y6 y7 y8 y9)) ∧ (∀ y0 y1 y2 y3 y4, LeO (L05_DotSteps.l1 k y0 y1 y2 y3 y4) (L05_DotSteps.l1 (k + 1) y0 y1 y2 y3 y4))
 | 0 => ⟨fun _ _ _ _ _ _ r h => by simp [L05_DotSteps.l0] at h, fun _ _ _ _ _ _ _ _ _ r h => by simp [L05_DotSteps.j1] at h, fun _ _ _ _ _ _ _ _ _ _ r h => by simp [L05_DotSteps.j2] at h, fun _ _ _ _ _ r h => by simp [L05_DotSteps.l1] at h⟩
 | k + 1 => by
  obtain ⟨ih0, ih1, ih2, ih3⟩ := L05_DotSteps.mono_l k
  refine ⟨?_, ?_, ?_, ?_⟩
  ·
   intro y0 y1 y2 y3 y4 y5
   unfold L05_DotSteps.l0
   repeat' first
   | (with_reducible exact ih0 _ _ _ _ _ _)
   | (with_reducible exact ih1 _ _ _ _ _ _ _ _ _)
   | (with_reducible exact ih2 _ _ _ _ _ _ _ _ _ _)
   | (with_reducible exact ih3 _ _ _ _ _)
   | (with_reducible exact L05_wakes.mono _)
   | (with_reducible exact dot_Add.mono _ _ _ _)
   | (with_reducible exact dot_Le.mono _ _ _)
   | (with_reducible exact LeO.refl _)
   | (with_reducible exact LeO.none _)
   | (with_reducible refine LeO.ite ?_ ?_)
   | (with_reducible refine LeO.bind ?_ (fun _ => ?_))
   | exact ih0 _ _ _ _ _ _
   | exact ih1 _ _ _ _ _ _ _ _ _
   | exact ih2 _ _ _ _ _ _ _ _ _ _
   | exact ih3 _ _ _ _ _
   | exact L05_wakes.mono _
   | exact dot_Add.mono _ _ _ _
   | exact dot_Le.mono _ _ _
   | exact LeO.none _
   | refine LeO.ite ?_ ?_
   | refine LeO.bind ?_ (fun _ => ?_)
  ·
   intro y0 y1 y2 y3 y4 y5 y6 y7 y8
   unfold L05_DotSteps.j1
   repeat' first
   | (with_reducible exact ih0 _ _ _ _ _ _)
   | (with_reducible exact ih1 _ _ _ _ _ _ _ _ _)
   | (with_reducible exact ih2 _ _ _ _ _ _ _ _ _ _)
   | (with_reducible exact ih3 _ _ _ _ _)
   | (with_reducible exact L05_wakes.mono _)
   | (with_reducible exact dot_Add.mono _ _ _ _)
   | (with_reducible exact dot_Le.mono _ _ _)
   | (with_reducible exact LeO.refl _)
   | (with_reducible exact LeO.none _)
   | (with_reducible refine LeO.ite ?_ ?_)
   | (with_reducible refine LeO.bind ?_ (fun _ => ?_))
   | exact ih0 _ _ _ _ _ _
   | exact ih1 _ _ _ _ _ _ _ _ _
   | exact ih2 _ _ _ _ _ _ _ _ _ _
   | exact ih3 _ _ _ _ _
   | exact L05_wakes.mono _
   | exact dot_Add.mono _ _ _ _
   | exact dot_Le.mono _ _ _
   | exact LeO.none _
   | refine LeO.ite ?_ ?_
   | refine LeO.bind ?_ (fun _ => ?_)
  ·
   intro y0 y1 y2 y3 y4 y5 y6 y7 y8 y9
   unfold L05_DotSteps.j2
   repeat' first
   | (with_reducible exact ih0 _ _ _ _ _ _)
   | (with_reducible exact ih1 _ _ _ _ _ _ _ _ _)
   | (with_reducible exact ih2 _ _ _ _ _ _ _ _ _ _)
   | (with_reducible exact ih3 _ _ _ _ _)
   | (with_reducible exact L05_wakes.mono _)
   | (with_reducible exact dot_Add.mono _ _ _ _)
   | (with_reducible exact dot_Le.mono _ _ _)
   | (with_reducible exact LeO.refl _)
   | (with_reducible exact LeO.none _)
   | (with_reducible refine LeO.ite ?_ ?_)
   | (with_reducible refine LeO.bind ?_ (fun _ => ?_))
   | exact ih0 _ _ _ _ _ _
   | exact ih1 _ _ _ _ _ _ _ _ _
   | exact ih2 _ _ _ _ _ _ _ _ _ _
   | exact ih3 _ _ _ _ _
   | exact L05_wakes.mono _
   | exact dot_Add.mono _ _ _ _
   | exact dot_Le.mono _ _ _
   | exact LeO.none _
   | refine LeO.ite ?_ ?_
   | refine LeO.bind ?_ (fun _ => ?_)
  ·
   intro y0 y1 y2 y3 y4
   unfold L05_DotSteps.l1
   repeat' first
   | (with_reducible exact ih0 _ _ _ _ _ _)
   | (with_reducible exact ih1 _ _ _ _ _ _ _ _ _)
   | (with_reducible exact ih2 _ _ _ _ _ _ _ _ _ _)
   | (with_reducible exact ih3 _ _ _ _ _)
   | (with_reducible exact L05_wakes.mono _)
   | (with_reducible exact dot_Add.mono _ _ _ _)
   | (with_reducible exact dot_Le.mono _ _ _)
   | (with_reducible exact LeO.refl _)
   | (with_reducible exact LeO.none _)
   | (with_reducible refine LeO.ite ?_ ?_)
   | (with_reducible refine LeO.bind ?_ (fun _ => ?_))
   | exact ih0 _ _ _ _ _ _
   | exact ih1 _ _ _ _ _ _ _ _ _
   | exact ih2 _ _ _ _ _ _ _ _ _ _
   | exact ih3 _ _ _ _ _
   | exact L05_wakes.mono _
   | exact dot_Add.mono _ _ _ _
   | exact dot_Le.mono _ _ _
   | exact LeO.none _
   | refine LeO.ite ?_ ?_
   | refine LeO.bind ?_ (fun _ => ?_)
theorem L05_DotSteps.mono : ∀ a0 a1 a2 a3 k, LeO (L05_DotSteps.f k a0 a1 a2 a3) (L05_DotSteps.f (k + 1) a0 a1 a2 a3) := by
 intro a0 a1 a2 a3 k
 obtain ⟨ih0, ih1, ih2, ih3⟩ := L05_DotSteps.mono_l k
 unfold L05_DotSteps.f
 repeat' first
   | (with_reducible exact ih0 _ _ _ _ _ _)
   | (with_reducible exact ih1 _ _ _ _ _ _ _ _ _)
   | (with_reducible exact ih2 _ _ _ _ _ _ _ _ _ _)
   | (with_reducible exact ih3 _ _ _ _ _)
   | (with_reducible exact L05_wakes.mono _)
   | (with_reducible exact dot_Add.mono _ _ _ _)
   | (with_reducible exact dot_Le.mono _ _ _)
   | (with_reducible exact LeO.refl _)
   | (with_reducible exact LeO.none _)
   | (with_reducible refine LeO.ite ?_ ?_)
   | (with_reducible refine LeO.bind ?_ (fun _ => ?_))
   | exact ih0 _ _ _ _ _ _
   | exact ih1 _ _ _ _ _ _ _ _ _
   | exact ih2 _ _ _ _ _ _ _ _ _ _
   | exact ih3 _ _ _ _ _
   | exact L05_wakes.mono _
   | exact dot_Add.mono _ _ _ _
   | exact dot_Le.mono _ _ _
   | exact LeO.none _
   | refine LeO.ite ?_ ?_
   | refine LeO.bind ?_ (fun _ => ?_)
set_option maxHeartbeats 8000000 in
set_option maxRecDepth 100000 in
theorem L05_DotSteps.calls (k : Nat) (a0 : Int) (A1 : Option Addr) (c1 : Nat) (l1 : List Int) (a2_0 : Int) (a2_1 : Int) (r : Bool) (w : World) (hr1 : Kd.C (Kd.int .i64) w A1 l1.length l1) (hc1 : l1.length ≤ c1) (hlaw : r = true) (h : L05_DotSteps.f k a0 l1 a2_0 a2_1 = some r) :
  Calls Try.prog 3 #[.int .i64 a0, .slice A1 l1.length c1, .agg #[.int .i64 a2_0, .int .i64 a2_1]] w fun e w' => e = .returned (.bool r) ∧ Below w.heap.size w w' := by
 have hu24 := Try.underlying24
 have HLAW := am hlaw; clear hlaw; have HR1 := am hr1; have HC1 := am hc1; clear hr1 hc1; have HB := am (Below.refl w.heap.size w)
 have H : (if (l1.length : Int) > 100 then (some true) else (if 0 ≤ (wrap64 (1 + (wrap64 (Int.tmod (IntKind.u64.wrap (a0)) 5)))) then (if (wrap64 (1 + (wrap64 (Int.tmod (IntKind.u64.wrap (a0)) 5))) : Int).toNat ≤ 35184372088832 then (L05_DotSteps.l0 k (wrap64 (1 + (wrap64 (Int.tmod (IntKind.u64.wrap (a0)) 5)))) l1 (List.replicate (wrap64 (1 + (wrap64 (Int.tmod (IntKind.u64.wrap (a0)) 5))) : Int).toNat 0) 0 a2_0 a2_1) else (none)) else (none))) = some r := h
 clear h; by_cases c4 : (l1.length : Int) > 100
 ·
  rw [if_pos c4] at H; have c4b0 : decide (100 < (l1.length : Int)) = true := decide_eq_true c4
  have c4b1 : decide (100 < l1.length) = true := decide_eq_true (by omega)
  clear c4; obtain rfl := Option.some.inj H; go_enter Try.func3, Try.ntmps3
  go_wp2_with (first | ((with_reducible refine gate_dst (N := 5) rfl ?_); (try (refine gate_guard (by rfl) ?_; dsimp only)); refine box_event ?hg (N := 5) ?hd (cs := #[.int .i64 a2_0, .int .i64 a2_1]) (t := 24) ?hr ?_; (case hd => rfl); (case hg => rfl); (case hr => first | (go_simp; done) | (go_simp; rfl)); intro gb164 hg w5 hbox hb; have n0_ := am (bP (by repeat (first | (with_reducible first | exact HB.out | apply bA | apply bN | apply b1) | exact HB.out)) hb); have n1_ := am (hbox); have n2_ := am ((by rw [hg]; exact (below_size (by repeat (first | (with_reducible first | exact HB.out | apply bA | apply bN | apply b1) | exact HB.out))) : w.heap.size ≤ gb164)); have n3_ := am ((by rw [hg]; exact (below_size (by repeat (first | (with_reducible first | exact HB.out | apply bA | apply bN | apply b1) | exact HB.out))) : w.heap.size ≤ gb164)); clear HB; have HB := n0_; have BK164 := n1_; have GW164 := n2_; have GE164 := n3_; clear n0_ n1_ n2_ n3_; clear hb hbox hg))
  go_ret; exact ⟨by first | rfl | (simp [errW_none, errW_some] <;> rfl) | (simp [*, errW_none, errW_some] <;> rfl), by repeat (first | (with_reducible first | exact HB.out | apply bA | apply bN | apply b1 | refine bS ?_ GE164.out) | exact HB.out)⟩
 ·
  rw [if_neg c4] at H; have c4b0 : decide (100 < (l1.length : Int)) = false := decide_eq_false c4
  have c4b1 : decide (100 < l1.length) = false := decide_eq_false (by omega)
  clear c4; obtain ⟨ji6, hji6⟩ : ∃ j_ : Int, (wrap64 (1 + (wrap64 (Int.tmod (IntKind.u64.wrap (a0)) 5)))) = j_ := ⟨_, rfl⟩
  replace H : (if 0 ≤ (ji6) then (if (ji6 : Int).toNat ≤ 35184372088832 then (L05_DotSteps.l0 k ji6 l1 (List.replicate (ji6 : Int).toNat 0) 0 a2_0 a2_1) else (none)) else (none)) = some r := by first | (rw [hji6] at H; exact H) | (simp only [hji6] at H ⊢; exact H)
  have hji6w : (IntKind.i64.wrap (1 + (wrap64 (Int.tmod (IntKind.u64.wrap (a0)) 5)))) = ji6 := (i64_w _).trans hji6
  by_cases c7 : 0 ≤ (ji6)
  ·
   rw [if_pos c7] at H; have c7b0 := eq_true c7
   have c7b1 : decide (0 ≤ (ji6)) = true := decide_eq_true c7
   clear c7; by_cases c8 : (ji6 : Int).toNat ≤ 35184372088832
   ·
    rw [if_pos c8] at H; have c8b0 := eq_true c8
    have c8b1 : decide ((ji6 : Int).toNat ≤ 35184372088832) = true := decide_eq_true c8
    clear c8; obtain ⟨y165, hy165⟩ : ∃ y_ : List Int, y_ = (List.replicate (ji6 : Int).toNat 0) := ⟨_, rfl⟩
    replace H : (L05_DotSteps.l0 k ji6 l1 y165 0 a2_0 a2_1) = some r := by first | (rw [hy165]; with_reducible exact H) | (have H2_ := (Option.bind_some _ _).symm.trans H; rw [hy165]; with_reducible exact H2_) | (have H2_ := (Option.bind_some _ _).symm.trans H; with_reducible exact H2_) | with_reducible exact H | (rw [hy165]; exact H) | exact H
    have Ny165 := am hy165; clear hy165; have H' := am H
    clear H; go_enter Try.func3, Try.ntmps3
    go_wp2_with (first | ((with_reducible refine gate_dst (N := 5) rfl ?_); (try (refine gate_guard (by rfl) ?_; dsimp only)); refine box_event ?hg (N := 5) ?hd (cs := #[.int .i64 a2_0, .int .i64 a2_1]) (t := 24) ?hr ?_; (case hd => rfl); (case hg => rfl); (case hr => first | (go_simp; done) | (go_simp; rfl)); intro gb164 hg w9 hbox hb; have n0_ := am (bP (by repeat (first | (with_reducible first | exact HB.out | apply bA | apply bN | apply b1) | exact HB.out)) hb); have n1_ := am (hbox); have n2_ := am ((by rw [hg]; exact (below_size (by repeat (first | (with_reducible first | exact HB.out | apply bA | apply bN | apply b1) | exact HB.out))) : w.heap.size ≤ gb164)); have n3_ := am ((by rw [hg]; exact (below_size (by repeat (first | (with_reducible first | exact HB.out | apply bA | apply bN | apply b1) | exact HB.out))) : w.heap.size ≤ gb164)); clear HB; have HB := n0_; have BK164 := n1_; have GW164 := n2_; have GE164 := n3_; clear n0_ n1_ n2_ n3_; clear hb hbox hg) | ((with_reducible refine gate_dst (N := 26) rfl ?_); (try (refine gate_guard (by rfl) ?_; dsimp only)); refine Kd.R_make (Kd.int .i64) _ 3 rfl (N := 26) rfl 22 _ _ rfl ji6 rfl rfl Try.underlying22 (.int .i64 0) 8 info3 rfl (by decide) (by omega) 0 (ok := fun _ => True) (okp := fun _ => True) rfl (fun _ hk => hk) trivial (of_decide_eq_true (by first | (with_reducible assumption) | assumption)) (Nat.le_trans (Nat.mul_le_mul_right _ (of_decide_eq_true (by first | (with_reducible assumption) | assumption) : ji6.toNat ≤ 35184372088832)) (by omega)) (Below.refl _ _) (Nat.le_refl _) ?_; intro v166 w10 ho11 hb hg_ hnew_; clear hg_ hnew_; (first | rw [← Ny165.out] at ho11 | (simp only [Int.reduceToNat] at ho11; rw [← Ny165.out] at ho11)); have n0_ := am (Kd.R_lower ho11 (below_size (by repeat (first | (with_reducible first | exact HB.out | apply bA | apply bN | apply b1 | refine bS ?_ GE164.out) | exact HB.out)))); have n1_ := am (kB (g := gb164) (o := .cells #[.int .i64 a2_0, .int .i64 a2_1] 24 (0, 0)) (by (with_reducible repeat (first | refine kN ?_ _ | refine kD ?_ | refine kA ?_ _)); exact BK164.out) hb); have n2_ := am (bP (by repeat (first | (with_reducible first | exact HB.out | apply bA | apply bN | apply b1 | refine bS ?_ GE164.out) | exact HB.out)) hb); clear BK164; clear HB; have HO167 := n0_; have BK164 := n1_; have HB := n2_; clear n0_ n1_ n2_; clear hb ho11))
    go_loopg [7, 8] k (fun kq v7 v8 w' => ∃ (x7_1 : List Int) (x8_1 : Int), v8 = .int .i64 x8_1 ∧ Aside0 (L05_DotSteps.l0 kq ji6 l1 x7_1 x8_1 a2_0 a2_1 = some r) ∧ Aside0 (kq ≤ k) ∧ Aside0 (Kd.R (Kd.int .i64) 3 w' w.heap.size (fun _ => True) v7 x7_1) ∧ Aside0 (w'.heap[gb164]? = some (.cells #[.int .i64 a2_0, .int .i64 a2_1] 24 (0, 0))) ∧ Aside0 (Below w.heap.size w w'))
    case atStart => exact ⟨(y165), (0), (by first | rfl | (simp; done) | (simp [*]; done)), H', ⟨Nat.le_refl _⟩, ⟨by (with_reducible repeat (first | apply Kd.R_alloc | apply Kd.R_drewN | apply Kd.R_drew)); exact HO167.out⟩, ⟨by (with_reducible repeat (first | refine kN ?_ _ | refine kD ?_ | refine kA ?_ _)); exact BK164.out⟩, ⟨by repeat (first | (with_reducible first | exact HB.out | apply bA | apply bN | apply b1 | refine bS ?_ GE164.out) | exact HB.out)⟩⟩
    case round =>
     clear H'
     (try clear c1); (try clear p2); (try clear c3); (try clear c4); (try clear c4b0); (try clear c4b1); (try clear p6); (try clear c7); (try clear c7b0); (try clear c7b1); (try clear c8); (try clear c8b0); (try clear c8b1); obtain ⟨x7_1, x8_1, rfl, HA, HK1, HO_7, BK164, HB⟩ := hrel
     cases gk with
     | zero => exact absurd HA.out (by simp [L05_DotSteps.l0])
     | succ k1 =>
      have H := HA.out; clear HA; simp only [L05_DotSteps.l0] at H
      by_cases c12 : x8_1 < (l1.length : Int)
      ·
       rw [if_pos c12] at H; have c12b0 : decide (x8_1 < (l1.length : Int)) = true := decide_eq_true c12
       clear c12; by_cases c13 : 0 ≤ x8_1
       ·
        rw [if_pos c13] at H; have c13b0 : decide (0 ≤ x8_1) = true := decide_eq_true c13
        clear c13; by_cases c14 : (IntKind.u64.wrap (ji6)) = 0
        ·
         rw [if_pos c14] at H; exact absurd H (by simp)
        ·
         rw [if_neg c14] at H; have c14b0 : ((IntKind.u64.wrap (ji6)) == 0) = false := beq_eq_false_iff_ne.mpr c14
         have c14b1 : ((IntKind.u64.wrap (ji6)) != 0) = true := bne_iff_ne.mpr c14
         obtain ⟨ji15, hji15⟩ : ∃ j_ : Int, (wrap64 (Int.tmod (IntKind.u64.wrap (rd l1 x8_1)) (IntKind.u64.wrap (ji6)))) = j_ := ⟨_, rfl⟩
         replace H : (if 0 ≤ (ji15) then (if (ji15) < (x7_1.length : Int) then ((dot_Has.f x7_1 (ji15) (wrap64 ((rd x7_1 (ji15)) + 1))).bind fun t171 => (if t171 = true then (L05_DotSteps.j1 k1 ji6 l1 x7_1 x8_1 true a2_0 a2_1 ji15 (wrap64 ((rd x7_1 (ji15)) + 1))) else ((dot_Next.f x7_1 (ji15) (wrap64 ((rd x7_1 (ji15)) + 1))).bind fun t172 => (L05_DotSteps.j1 k1 ji6 l1 x7_1 x8_1 (!t172) a2_0 a2_1 ji15 (wrap64 ((rd x7_1 (ji15)) + 1)))))) else (none)) else (none)) = some r := by first | (rw [hji15] at H; exact H) | (simp only [hji15] at H ⊢; exact H)
         have hji15w : (IntKind.i64.wrap (Int.tmod (IntKind.u64.wrap (rd l1 x8_1)) (IntKind.u64.wrap (ji6)))) = ji15 := (i64_w _).trans hji15
         by_cases c16 : 0 ≤ (ji15)
         ·
          rw [if_pos c16] at H; have c16b0 : decide (0 ≤ (ji15)) = true := decide_eq_true c16
          clear c16; by_cases c17 : (ji15) < (x7_1.length : Int)
          ·
           rw [if_pos c17] at H; have c17b0 : decide ((ji15) < (x7_1.length : Int)) = true := decide_eq_true c17
           clear c17; have HC18 := am H; clear H; have p168 : 0 ≤ (x8_1 : Int) := of_decide_eq_true (by first | (with_reducible assumption) | assumption)
           have q168 : x8_1 < (l1.length : Int) := of_decide_eq_true (by first | (with_reducible assumption) | assumption)
           obtain ⟨ad168, e168, hx168_0⟩ := Kd.at_int HR1.out x8_1 p168 q168
           cases e168
           replace hx168_0 := (HB.out.cell (World.block_lt_of_cell? w _ hx168_0)).trans hx168_0
           replace p168 := eq_true p168
           replace q168 := eq_true q168
           obtain ⟨Ao19, co19, eo19⟩ := Kd.R_slice HO_7.out
           subst eo19; have p169 : 0 ≤ ((ji15) : Int) := of_decide_eq_true (by first | (with_reducible assumption) | assumption)
           have q169 : (ji15) < (x7_1.length : Int) := of_decide_eq_true (by first | (with_reducible assumption) | assumption)
           obtain ⟨ad169, e169, hx169_0⟩ := Kd.at_int (Kd.R_reads' HO_7.out).2.2 (ji15) p169 q169
           cases e169
           replace p169 := eq_true p169
           replace q169 := eq_true q169
           go_upto_region 10 with (first | ((with_reducible refine gate_dst (N := 10) rfl ?_); (try (refine gate_guard (by rfl) ?_; dsimp only)); refine box_event ?hg (N := 10) ?hd (cs := #[.int .i64 0, .int .i64 0]) (t := 24) ?hr ?_; (case hd => rfl); (case hg => rfl); (case hr => first | (go_simp; done) | (go_simp; rfl)); intro gb170 hg w20 hbox hb; have n0_ := am (Kd.R_below (by (with_reducible repeat (first | apply Kd.R_alloc | apply Kd.R_drewN | apply Kd.R_drew)); exact HO_7.out) hb); have n1_ := am (kB (g := gb164) (o := .cells #[.int .i64 a2_0, .int .i64 a2_1] 24 (0, 0)) (by (with_reducible repeat (first | refine kN ?_ _ | refine kD ?_ | refine kA ?_ _)); exact BK164.out) hb); have n2_ := am (bP (by repeat (first | (with_reducible first | exact HB.out | apply bA | apply bN | apply b1 | refine bS ?_ GE164.out) | exact HB.out)) hb); have n3_ := am (hbox); have n4_ := am ((by rw [hg]; exact (below_size (by repeat (first | (with_reducible first | exact HB.out | apply bA | apply bN | apply b1 | refine bS ?_ GE164.out) | exact HB.out))) : w.heap.size ≤ gb170)); have n5_ := am ((by rw [hg]; exact (below_size (by repeat (first | (with_reducible first | exact HB.out | apply bA | apply bN | apply b1 | refine bS ?_ GE164.out) | exact HB.out))) : w.heap.size ≤ gb170)); have n6_ := am ((by rw [hg]; exact Nat.ne_of_lt (blk_lt (g := gb164) (o := .cells #[.int .i64 a2_0, .int .i64 a2_1] 24 (0, 0)) (by (with_reducible repeat (first | refine kN ?_ _ | refine kD ?_ | refine kA ?_ _)); exact BK164.out)) : gb164 ≠ gb170)); have n7_ := am ((by rw [hg]; exact Nat.ne_of_gt (blk_lt (g := gb164) (o := .cells #[.int .i64 a2_0, .int .i64 a2_1] 24 (0, 0)) (by (with_reducible repeat (first | refine kN ?_ _ | refine kD ?_ | refine kA ?_ _)); exact BK164.out)) : gb170 ≠ gb164)); clear HO_7; clear BK164; clear HB; have HO_7 := n0_; have BK164 := n1_; have HB := n2_; have BK170 := n3_; have GW170 := n4_; have GE170 := n5_; have NB164_170 := n6_; have NB170_164 := n7_; clear n0_ n1_ n2_ n3_ n4_ n5_ n6_ n7_; clear hb hbox hg; have hnb21 := NB170_164.out; have hnc21 := NB164_170.out; have hcz22_0 : w20.cell? ⟨gb170, 0, none⟩ = some (.int .i64 0) := (kC BK170.out 0).trans rfl; have hcz22_1 : w20.cell? ⟨gb170, 1, none⟩ = some (.int .i64 0) := (kC BK170.out 1).trans rfl; have hfz22_0 := blk_frozen BK170.out 0; have hfz22_1 := blk_frozen BK170.out 1))
           (try simp only [Act.put, sA, sZ, sS])
           go_cut [57] (fun v57 wc => ∃ (kq : Nat) (x57_17 : Bool), v57 = .bool x57_17 ∧ Aside0 (L05_DotSteps.j1 kq ji6 l1 x7_1 x8_1 x57_17 a2_0 a2_1 ji15 (wrap64 ((rd x7_1 (ji15)) + 1)) = some r) ∧ Aside0 (kq ≤ k1) ∧ Aside0 (Kd.R (Kd.int .i64) 3 wc w.heap.size (fun _ => True) (.slice (some ad169) x7_1.length co19) x7_1) ∧ Aside0 (wc.heap[gb164]? = some (.cells #[.int .i64 a2_0, .int .i64 a2_1] 24 (0, 0))) ∧ Aside0 (wc.heap[gb170]? = some (.cells #[.int .i64 ji15, .int .i64 (wrap64 ((rd x7_1 (ji15)) + 1))] 24 (0, 0))) ∧ Aside0 (Below w.heap.size w wc))
           case first =>
            have H := HC18.out; clear HC18; replace H := Option.bind_eq_some_iff.mp H
            obtain ⟨t171, A230, H⟩ := H; replace H : (if t171 = true then (L05_DotSteps.j1 k1 ji6 l1 x7_1 x8_1 true a2_0 a2_1 ji15 (wrap64 ((rd x7_1 (ji15)) + 1))) else ((dot_Next.f x7_1 (ji15) (wrap64 ((rd x7_1 (ji15)) + 1))).bind fun t172 => (L05_DotSteps.j1 k1 ji6 l1 x7_1 x8_1 (!t172) a2_0 a2_1 ji15 (wrap64 ((rd x7_1 (ji15)) + 1))))) = some r := H
            have A23 := am A230; clear A230; by_cases c24 : t171 = true
            ·
             subst c24; have H1 : (L05_DotSteps.j1 k1 ji6 l1 x7_1 x8_1 true a2_0 a2_1 ji15 (wrap64 ((rd x7_1 (ji15)) + 1))) = some r := by rw [if_pos rfl] at H; exact H
             clear H; have H := H1; clear H1; have H' := am H
             clear H; have hnb25 := NB170_164.out; have hnc25 := NB164_170.out; have hcz26_0 : w20.cell? ⟨gb170, 0, none⟩ = some (.int .i64 0) := (kC BK170.out 0).trans rfl
             have hcz26_1 : w20.cell? ⟨gb170, 1, none⟩ = some (.int .i64 0) := (kC BK170.out 1).trans rfl
             have hfz26_0 := blk_frozen BK170.out 0
             have hfz26_1 := blk_frozen BK170.out 1
             go_wp2_with (first | ((with_reducible refine gate_callee (f := 12) rfl ?_); refine goesL_ (some 51) rfl rfl Try.func12 (by kernel_rfl) rfl #[.slice (some ad169) x7_1.length co19, .agg #[.int .i64 ji15, .int .i64 (wrap64 ((rd x7_1 (ji15)) + 1))]] rfl (by (try simp only [List.map_toArray, List.map_cons, List.map_nil]); first | done | (simp only [hji15]; rfl) | rfl | (simp only [List.length_drop, List.length_take]; rfl)) ?_; (with_reducible refine (dot_Has.calls _ _ x7_1 ji15 (wrap64 ((rd x7_1 (ji15)) + 1)) true _ ?side1 ?side2 A23.out).mono ?_); (case side1 => refine (Kd.R_reads' (e := 3) (base := w.heap.size) (ok := fun k_ => True) (n := x7_1.length) (c := co19) ?_).2.2; exact (by (with_reducible repeat (first | apply Kd.R_alloc | apply Kd.R_drewN | apply Kd.R_drew)); exact (Kd.R_mono (Kd.R_far (p := ⟨gb170, 1, none⟩) (Kd.R_far (p := ⟨gb170, 0, none⟩) (Kd.R_types HO_7.out BK170.out (by decide)) (fun _ hk => hk.2) (.int .i64 ji15)) (fun _ hk => hk.2) (.int .i64 (wrap64 ((rd x7_1 (ji15)) + 1)))) (fun _ h_ => h_.1)))); (case side2 => exact (Kd.R_reads' HO_7.out).2.1); rintro e w27 ⟨rfl, hb⟩; refine ⟨_, rfl, ?_⟩; have n0_ := am (Kd.R_below (by (with_reducible repeat (first | apply Kd.R_alloc | apply Kd.R_drewN | apply Kd.R_drew)); exact (Kd.R_mono (Kd.R_far (p := ⟨gb170, 1, none⟩) (Kd.R_far (p := ⟨gb170, 0, none⟩) (Kd.R_types HO_7.out BK170.out (by decide)) (fun _ hk => hk.2) (.int .i64 ji15)) (fun _ hk => hk.2) (.int .i64 (wrap64 ((rd x7_1 (ji15)) + 1)))) (fun _ h_ => h_.1))) hb); have n1_ := am (kB (g := gb164) (o := .cells #[.int .i64 a2_0, .int .i64 a2_1] 24 (0, 0)) (by (with_reducible repeat (first | refine kN ?_ _ | refine kD ?_ | refine kA ?_ _ | refine blk_far ?_ NB164_170.out _)); exact BK164.out) hb); have n2_ := am (kB (g := gb170) (o := .cells #[.int .i64 ji15, .int .i64 (wrap64 ((rd x7_1 (ji15)) + 1))] 24 (0, 0)) (by (with_reducible repeat (first | refine kN ?_ _ | refine kD ?_ | refine kA ?_ _)); refine blk_put (cs := #[.int .i64 ji15, .int .i64 0]) ?_ 1 _ rfl; (with_reducible repeat (first | refine kN ?_ _ | refine kD ?_ | refine kA ?_ _)); refine blk_put (cs := #[.int .i64 0, .int .i64 0]) ?_ 0 _ rfl; (with_reducible repeat (first | refine kN ?_ _ | refine kD ?_ | refine kA ?_ _)); exact BK170.out) hb); have n3_ := am (bP (by repeat (first | (with_reducible first | exact HB.out | apply bA | apply bN | apply b1 | refine bS ?_ GE164.out | refine bS ?_ GE170.out) | exact HB.out)) hb); clear HO_7; clear BK164; clear BK170; clear HB; have HO_7 := n0_; have BK164 := n1_; have BK170 := n2_; have HB := n3_; clear n0_ n1_ n2_ n3_; (try clear hb); (try clear hb2); (try clear hk); (try clear hi)))
             go_meet
             case rel => exact ⟨_, (true), (by first | rfl | (simp; done) | (simp [*]; done)), H', ⟨by have := HK1.out; first | omega | exact Nat.le_refl _⟩, ⟨by (with_reducible repeat (first | apply Kd.R_alloc | apply Kd.R_drewN | apply Kd.R_drew)); exact HO_7.out⟩, ⟨by (with_reducible repeat (first | refine kN ?_ _ | refine kD ?_ | refine kA ?_ _)); exact BK164.out⟩, ⟨by (with_reducible repeat (first | refine kN ?_ _ | refine kD ?_ | refine kA ?_ _)); exact BK170.out⟩, ⟨by repeat (first | (with_reducible first | exact HB.out | apply bA | apply bN | apply b1 | refine bS ?_ GE164.out | refine bS ?_ GE170.out) | exact HB.out)⟩⟩
            ·
             replace c24 := Bool.eq_false_iff.mpr c24
             subst c24; have H1 : ((dot_Next.f x7_1 (ji15) (wrap64 ((rd x7_1 (ji15)) + 1))).bind fun t172 => (L05_DotSteps.j1 k1 ji6 l1 x7_1 x8_1 (!t172) a2_0 a2_1 ji15 (wrap64 ((rd x7_1 (ji15)) + 1)))) = some r := by rw [if_neg (show ¬ (false = true) by decide)] at H; exact H
             clear H; have H := H1; clear H1; replace H := Option.bind_eq_some_iff.mp H
             obtain ⟨t172, A280, H⟩ := H; replace H : (L05_DotSteps.j1 k1 ji6 l1 x7_1 x8_1 (!t172) a2_0 a2_1 ji15 (wrap64 ((rd x7_1 (ji15)) + 1))) = some r := H
             have A28 := am A280; clear A280; have H' := am H
             clear H; have hnb29 := NB170_164.out; have hnc29 := NB164_170.out; have hcz30_0 : w20.cell? ⟨gb170, 0, none⟩ = some (.int .i64 0) := (kC BK170.out 0).trans rfl
             have hcz30_1 : w20.cell? ⟨gb170, 1, none⟩ = some (.int .i64 0) := (kC BK170.out 1).trans rfl
             have hfz30_0 := blk_frozen BK170.out 0
             have hfz30_1 := blk_frozen BK170.out 1
             go_wp2_with (first | ((with_reducible refine gate_callee (f := 12) rfl ?_); refine goesL_ (some 51) rfl rfl Try.func12 (by kernel_rfl) rfl #[.slice (some ad169) x7_1.length co19, .agg #[.int .i64 ji15, .int .i64 (wrap64 ((rd x7_1 (ji15)) + 1))]] rfl (by (try simp only [List.map_toArray, List.map_cons, List.map_nil]); first | done | (simp only [hji15]; rfl) | rfl | (simp only [List.length_drop, List.length_take]; rfl)) ?_; (with_reducible refine (dot_Has.calls _ _ x7_1 ji15 (wrap64 ((rd x7_1 (ji15)) + 1)) false _ ?side1 ?side2 A23.out).mono ?_); (case side1 => refine (Kd.R_reads' (e := 3) (base := w.heap.size) (ok := fun k_ => True) (n := x7_1.length) (c := co19) ?_).2.2; exact (by (with_reducible repeat (first | apply Kd.R_alloc | apply Kd.R_drewN | apply Kd.R_drew)); exact (Kd.R_mono (Kd.R_far (p := ⟨gb170, 1, none⟩) (Kd.R_far (p := ⟨gb170, 0, none⟩) (Kd.R_types HO_7.out BK170.out (by decide)) (fun _ hk => hk.2) (.int .i64 ji15)) (fun _ hk => hk.2) (.int .i64 (wrap64 ((rd x7_1 (ji15)) + 1)))) (fun _ h_ => h_.1)))); (case side2 => exact (Kd.R_reads' HO_7.out).2.1); rintro e w31 ⟨rfl, hb⟩; refine ⟨_, rfl, ?_⟩; have n0_ := am (Kd.R_below (by (with_reducible repeat (first | apply Kd.R_alloc | apply Kd.R_drewN | apply Kd.R_drew)); exact (Kd.R_mono (Kd.R_far (p := ⟨gb170, 1, none⟩) (Kd.R_far (p := ⟨gb170, 0, none⟩) (Kd.R_types HO_7.out BK170.out (by decide)) (fun _ hk => hk.2) (.int .i64 ji15)) (fun _ hk => hk.2) (.int .i64 (wrap64 ((rd x7_1 (ji15)) + 1)))) (fun _ h_ => h_.1))) hb); have n1_ := am (kB (g := gb164) (o := .cells #[.int .i64 a2_0, .int .i64 a2_1] 24 (0, 0)) (by (with_reducible repeat (first | refine kN ?_ _ | refine kD ?_ | refine kA ?_ _ | refine blk_far ?_ NB164_170.out _)); exact BK164.out) hb); have n2_ := am (kB (g := gb170) (o := .cells #[.int .i64 ji15, .int .i64 (wrap64 ((rd x7_1 (ji15)) + 1))] 24 (0, 0)) (by (with_reducible repeat (first | refine kN ?_ _ | refine kD ?_ | refine kA ?_ _)); refine blk_put (cs := #[.int .i64 ji15, .int .i64 0]) ?_ 1 _ rfl; (with_reducible repeat (first | refine kN ?_ _ | refine kD ?_ | refine kA ?_ _)); refine blk_put (cs := #[.int .i64 0, .int .i64 0]) ?_ 0 _ rfl; (with_reducible repeat (first | refine kN ?_ _ | refine kD ?_ | refine kA ?_ _)); exact BK170.out) hb); have n3_ := am (bP (by repeat (first | (with_reducible first | exact HB.out | apply bA | apply bN | apply b1 | refine bS ?_ GE164.out | refine bS ?_ GE170.out) | exact HB.out)) hb); clear HO_7; clear BK164; clear BK170; clear HB; have HO_7 := n0_; have BK164 := n1_; have BK170 := n2_; have HB := n3_; clear n0_ n1_ n2_ n3_; (try clear hb); (try clear hb2); (try clear hk); (try clear hi); have hcz32_0 : w31.cell? ⟨gb170, 0, none⟩ = some (.int .i64 ji15) := (kC BK170.out 0).trans rfl; have hcz32_1 : w31.cell? ⟨gb170, 1, none⟩ = some (.int .i64 (wrap64 ((rd x7_1 (ji15)) + 1))) := (kC BK170.out 1).trans rfl; have hfz32_0 := blk_frozen BK170.out 0; have hfz32_1 := blk_frozen BK170.out 1) | (go_at_call 13; (with_reducible refine (dot_Next.calls _ _ x7_1 ji15 (wrap64 ((rd x7_1 (ji15)) + 1)) t172 _ ?side1 ?side2 A28.out).mono ?_); (case side1 => repeat (first | exact (Kd.R_reads' HO_7.out).2.2 | (with_reducible refine Kd.C_alloc ?_ _) | (with_reducible refine Kd.C_drewN ?_ _) | (with_reducible refine Kd.C_drew ?_))); (case side2 => exact (Kd.R_reads' HO_7.out).2.1); rintro e w33 ⟨rfl, hb⟩; have n0_ := am (Kd.R_below (by (with_reducible repeat (first | apply Kd.R_alloc | apply Kd.R_drewN | apply Kd.R_drew)); exact HO_7.out) hb); have n1_ := am (kB (g := gb164) (o := .cells #[.int .i64 a2_0, .int .i64 a2_1] 24 (0, 0)) (by (with_reducible repeat (first | refine kN ?_ _ | refine kD ?_ | refine kA ?_ _)); exact BK164.out) hb); have n2_ := am (kB (g := gb170) (o := .cells #[.int .i64 ji15, .int .i64 (wrap64 ((rd x7_1 (ji15)) + 1))] 24 (0, 0)) (by (with_reducible repeat (first | refine kN ?_ _ | refine kD ?_ | refine kA ?_ _)); exact BK170.out) hb); have n3_ := am (bP (by repeat (first | (with_reducible first | exact HB.out | apply bA | apply bN | apply b1 | refine bS ?_ GE164.out | refine bS ?_ GE170.out) | exact HB.out)) hb); clear HO_7; clear BK164; clear BK170; clear HB; have HO_7 := n0_; have BK164 := n1_; have BK170 := n2_; have HB := n3_; clear n0_ n1_ n2_ n3_; (try clear hb); (try clear hb2); (try clear hk); (try clear hi)))
             go_meet
             case rel => exact ⟨_, (!t172), (by first | rfl | (simp; done) | (simp [*]; done)), H', ⟨by have := HK1.out; first | omega | exact Nat.le_refl _⟩, ⟨by (with_reducible repeat (first | apply Kd.R_alloc | apply Kd.R_drewN | apply Kd.R_drew)); exact HO_7.out⟩, ⟨by (with_reducible repeat (first | refine kN ?_ _ | refine kD ?_ | refine kA ?_ _)); exact BK164.out⟩, ⟨by (with_reducible repeat (first | refine kN ?_ _ | refine kD ?_ | refine kA ?_ _)); exact BK170.out⟩, ⟨by repeat (first | (with_reducible first | exact HB.out | apply bA | apply bN | apply b1 | refine bS ?_ GE164.out | refine bS ?_ GE170.out) | exact HB.out)⟩⟩
           case rest =>
            clear HC18; (try clear c1); (try clear p1); (try clear q1); (try clear hx1); (try clear c2); (try clear p2); (try clear c3); (try clear c4); (try clear c4b0); (try clear c4b1); (try clear p6); (try clear c7); (try clear c7b0); (try clear c7b1); (try clear c8); (try clear c8b0); (try clear c8b1); (try clear c12); (try clear c12b0); (try clear c13); (try clear c13b0); (try clear c14); (try clear c14b0); (try clear c14b1); (try clear c16); (try clear c16b0); (try clear p16); (try clear q16); (try clear hx16); (try clear c17); (try clear c17b0); (try clear c21); (try clear c24); (try clear c25); (try clear c29); (try clear hcz22_0); (try clear hcz22_1); (try clear hcz26_0); (try clear hcz26_1); (try clear hcz30_0); (try clear hcz30_1); (try clear hcz32_0); (try clear hcz32_1); (try clear hfz22_0); (try clear hfz22_1); (try clear hfz26_0); (try clear hfz26_1); (try clear hfz30_0); (try clear hfz30_1); (try clear hfz32_0); (try clear hfz32_1); (try clear hx168_0); (try clear hx169_0); (try clear p168); (try clear p169); (try clear p2); (try clear p6); (try clear q168); (try clear q169); obtain ⟨kq, x57_17, rfl, HA, HJ17, HO_7, BK164, BK170, HB⟩ := hcut
            cases kq with
            | zero => exact absurd HA.out (by simp [L05_DotSteps.j1])
            | succ kj17 =>
             have H := HA.out; clear HA; simp only [L05_DotSteps.j1] at H
             by_cases c34 : x57_17 = true
             ·
              subst c34; have H1 : (some false) = some r := by rw [if_pos rfl] at H; exact H
              clear H; have H := H1; clear H1; exact absurd (H.trans (congrArg some HLAW.out)) (by simp)
             ·
              replace c34 := Bool.eq_false_iff.mpr c34
              subst c34; have H1 : ((dot_Add.f kj17 x7_1 ji15 (wrap64 ((rd x7_1 (ji15)) + 1))).bind fun bt173 => (if bt173.2 = 0 then (if (bt173.1.length : Int) = ji6 then ((dot_Has.f bt173.1 ji15 (wrap64 ((rd x7_1 (ji15)) + 1))).bind fun t177 => (if t177 = true then ((dot_Le.f kj17 x7_1 bt173.1).bind fun t178 => (if t178 = true then ((dot_Le.f kj17 bt173.1 x7_1).bind fun t179 => (if t179 = true then (L05_DotSteps.j2 kj17 ji6 l1 x7_1 x8_1 bt173.1 true a2_0 a2_1 ji15 (wrap64 ((rd x7_1 (ji15)) + 1))) else ((dot_Next.f bt173.1 ji15 (wrap64 ((rd x7_1 (ji15)) + 1))).bind fun t180 => (L05_DotSteps.j2 kj17 ji6 l1 x7_1 x8_1 bt173.1 t180 a2_0 a2_1 ji15 (wrap64 ((rd x7_1 (ji15)) + 1)))))) else (L05_DotSteps.j2 kj17 ji6 l1 x7_1 x8_1 bt173.1 true a2_0 a2_1 ji15 (wrap64 ((rd x7_1 (ji15)) + 1))))) else (L05_DotSteps.j2 kj17 ji6 l1 x7_1 x8_1 bt173.1 true a2_0 a2_1 ji15 (wrap64 ((rd x7_1 (ji15)) + 1))))) else (L05_DotSteps.j2 kj17 ji6 l1 x7_1 x8_1 bt173.1 true a2_0 a2_1 ji15 (wrap64 ((rd x7_1 (ji15)) + 1)))) else (L05_DotSteps.j2 kj17 ji6 l1 x7_1 x8_1 bt173.1 true a2_0 a2_1 ji15 (wrap64 ((rd x7_1 (ji15)) + 1))))) = some r := by rw [if_neg (show ¬ (false = true) by decide)] at H; exact H
              clear H; have H := H1; clear H1; replace H := Option.bind_eq_some_iff.mp H
              obtain ⟨⟨t173, t176⟩, A350, H⟩ := H
              replace H : (if t176 = 0 then (if (t173.length : Int) = ji6 then ((dot_Has.f t173 ji15 (wrap64 ((rd x7_1 (ji15)) + 1))).bind fun t177 => (if t177 = true then ((dot_Le.f kj17 x7_1 t173).bind fun t178 => (if t178 = true then ((dot_Le.f kj17 t173 x7_1).bind fun t179 => (if t179 = true then (L05_DotSteps.j2 kj17 ji6 l1 x7_1 x8_1 t173 true a2_0 a2_1 ji15 (wrap64 ((rd x7_1 (ji15)) + 1))) else ((dot_Next.f t173 ji15 (wrap64 ((rd x7_1 (ji15)) + 1))).bind fun t180 => (L05_DotSteps.j2 kj17 ji6 l1 x7_1 x8_1 t173 t180 a2_0 a2_1 ji15 (wrap64 ((rd x7_1 (ji15)) + 1)))))) else (L05_DotSteps.j2 kj17 ji6 l1 x7_1 x8_1 t173 true a2_0 a2_1 ji15 (wrap64 ((rd x7_1 (ji15)) + 1))))) else (L05_DotSteps.j2 kj17 ji6 l1 x7_1 x8_1 t173 true a2_0 a2_1 ji15 (wrap64 ((rd x7_1 (ji15)) + 1))))) else (L05_DotSteps.j2 kj17 ji6 l1 x7_1 x8_1 t173 true a2_0 a2_1 ji15 (wrap64 ((rd x7_1 (ji15)) + 1)))) else (L05_DotSteps.j2 kj17 ji6 l1 x7_1 x8_1 t173 true a2_0 a2_1 ji15 (wrap64 ((rd x7_1 (ji15)) + 1)))) = some r := H
              have A35 := am A350; clear A350; have HC36 := am H; clear H; have hnb37 := NB170_164.out; have hnc37 := NB164_170.out; have hcz38_0 : wc.cell? ⟨gb170, 0, none⟩ = some (.int .i64 ji15) := (kC BK170.out 0).trans rfl
              have hcz38_1 : wc.cell? ⟨gb170, 1, none⟩ = some (.int .i64 (wrap64 ((rd x7_1 (ji15)) + 1))) := (kC BK170.out 1).trans rfl
              have hfz38_0 := blk_frozen BK170.out 0
              have hfz38_1 := blk_frozen BK170.out 1
              go_upto_region 13 with (first | ((with_reducible refine gate_callee (f := 14) rfl ?_); refine goesL_ (some 61) rfl rfl Try.func14 (by kernel_rfl) rfl #[.slice (some ad169) x7_1.length co19, .agg #[.int .i64 ji15, .int .i64 (wrap64 ((rd x7_1 (ji15)) + 1))]] rfl (by (try simp only [List.map_toArray, List.map_cons, List.map_nil]); first | done | (simp only [hji15]; rfl) | rfl | (simp only [List.length_drop, List.length_take]; rfl)) ?_; (with_reducible refine (dot_Add.calls kj17 _ _ x7_1 ji15 (wrap64 ((rd x7_1 (ji15)) + 1)) t173 t176 _ ?side1 ?side2 A35.out).mono ?_); (case side1 => repeat (first | exact (Kd.R_reads' HO_7.out).2.2 | (with_reducible refine Kd.C_alloc ?_ _) | (with_reducible refine Kd.C_drewN ?_ _) | (with_reducible refine Kd.C_drew ?_))); (case side2 => exact (Kd.R_reads' HO_7.out).2.1); rintro e w39 ⟨v174, rfl, ho0, hb⟩; refine ⟨_, rfl, ?_⟩; have n0_ := am (Kd.R_elder' (by (with_reducible repeat (first | apply Kd.R_alloc | apply Kd.R_drewN | apply Kd.R_drew)); exact HO_7.out) (Kd.R_base ho0) hb); have n1_ := am (Kd.R_lower (Kd.R_new' ho0 (Kd.R_lt (by (with_reducible repeat (first | apply Kd.R_alloc | apply Kd.R_drewN | apply Kd.R_drew)); exact HO_7.out))) (below_size (by repeat (first | (with_reducible first | exact HB.out | apply bA | apply bN | apply b1 | refine bS ?_ GE164.out | refine bS ?_ GE170.out) | exact HB.out)))); have n2_ := am (kB (g := gb164) (o := .cells #[.int .i64 a2_0, .int .i64 a2_1] 24 (0, 0)) (by (with_reducible repeat (first | refine kN ?_ _ | refine kD ?_ | refine kA ?_ _)); exact BK164.out) hb); have n3_ := am (kB (g := gb170) (o := .cells #[.int .i64 ji15, .int .i64 (wrap64 ((rd x7_1 (ji15)) + 1))] 24 (0, 0)) (by (with_reducible repeat (first | refine kN ?_ _ | refine kD ?_ | refine kA ?_ _)); exact BK170.out) hb); have n4_ := am (bP (by repeat (first | (with_reducible first | exact HB.out | apply bA | apply bN | apply b1 | refine bS ?_ GE164.out | refine bS ?_ GE170.out) | exact HB.out)) hb); clear HO_7; clear BK164; clear BK170; clear HB; have HO_7 := n0_; have HO175 := n1_; have BK164 := n2_; have BK170 := n3_; have HB := n4_; clear n0_ n1_ n2_ n3_ n4_; (try clear hb); (try clear hb2); (try clear hk); (try clear hi); (try clear ho0)))
              (try simp only [Act.put, sA, sZ, sS])
              go_cut [93] (fun v93 wc => ∃ (kq : Nat) (x93_35 : Bool), v93 = .bool x93_35 ∧ Aside0 (L05_DotSteps.j2 kq ji6 l1 x7_1 x8_1 t173 x93_35 a2_0 a2_1 ji15 (wrap64 ((rd x7_1 (ji15)) + 1)) = some r) ∧ Aside0 (kq ≤ kj17) ∧ Aside0 (Kd.R (Kd.int .i64) 3 wc w.heap.size (fun k_ => some k_ ≠ (v174 : Value).ownBlock) (.slice (some ad169) x7_1.length co19) x7_1) ∧ Aside0 (Kd.R (Kd.int .i64) 3 wc w.heap.size (fun k_ => some k_ ≠ ((.slice (some ad169) x7_1.length co19) : Value).ownBlock) v174 t173) ∧ Aside0 (wc.heap[gb164]? = some (.cells #[.int .i64 a2_0, .int .i64 a2_1] 24 (0, 0))) ∧ Aside0 (wc.heap[gb170]? = some (.cells #[.int .i64 ji15, .int .i64 (wrap64 ((rd x7_1 (ji15)) + 1))] 24 (0, 0))) ∧ Aside0 (Below w.heap.size w wc))
              case first =>
               have H := HC36.out; clear HC36; by_cases c40 : t176 = 0
               ·
                rw [if_pos c40] at H; have c40b0 : (t176 == 0) = true := beq_iff_eq.mpr c40
                have c40b1 : (t176 != 0) = false := bne_eq_false_iff_eq.mpr c40
                clear c40; (first | rw [c40b0] | (simp only [i64_w, i32_w]; rw [c40b0]) | skip)
                by_cases c41 : (t173.length : Int) = ji6
                ·
                 rw [if_pos c41] at H; have c41b0 : ((t173.length : Int) == ji6) = true := beq_iff_eq.mpr c41
                 have c41b1 : ((t173.length : Int) != ji6) = false := bne_eq_false_iff_eq.mpr c41
                 clear c41; replace H := Option.bind_eq_some_iff.mp H
                 obtain ⟨t177, A420, H⟩ := H; replace H : (if t177 = true then ((dot_Le.f kj17 x7_1 t173).bind fun t178 => (if t178 = true then ((dot_Le.f kj17 t173 x7_1).bind fun t179 => (if t179 = true then (L05_DotSteps.j2 kj17 ji6 l1 x7_1 x8_1 t173 true a2_0 a2_1 ji15 (wrap64 ((rd x7_1 (ji15)) + 1))) else ((dot_Next.f t173 ji15 (wrap64 ((rd x7_1 (ji15)) + 1))).bind fun t180 => (L05_DotSteps.j2 kj17 ji6 l1 x7_1 x8_1 t173 t180 a2_0 a2_1 ji15 (wrap64 ((rd x7_1 (ji15)) + 1)))))) else (L05_DotSteps.j2 kj17 ji6 l1 x7_1 x8_1 t173 true a2_0 a2_1 ji15 (wrap64 ((rd x7_1 (ji15)) + 1))))) else (L05_DotSteps.j2 kj17 ji6 l1 x7_1 x8_1 t173 true a2_0 a2_1 ji15 (wrap64 ((rd x7_1 (ji15)) + 1)))) = some r := H
                 have A42 := am A420; clear A420; by_cases c43 : t177 = true
                 ·
                  subst c43; have H1 : ((dot_Le.f kj17 x7_1 t173).bind fun t178 => (if t178 = true then ((dot_Le.f kj17 t173 x7_1).bind fun t179 => (if t179 = true then (L05_DotSteps.j2 kj17 ji6 l1 x7_1 x8_1 t173 true a2_0 a2_1 ji15 (wrap64 ((rd x7_1 (ji15)) + 1))) else ((dot_Next.f t173 ji15 (wrap64 ((rd x7_1 (ji15)) + 1))).bind fun t180 => (L05_DotSteps.j2 kj17 ji6 l1 x7_1 x8_1 t173 t180 a2_0 a2_1 ji15 (wrap64 ((rd x7_1 (ji15)) + 1)))))) else (L05_DotSteps.j2 kj17 ji6 l1 x7_1 x8_1 t173 true a2_0 a2_1 ji15 (wrap64 ((rd x7_1 (ji15)) + 1))))) = some r := by rw [if_pos rfl] at H; exact H
                  clear H; have H := H1; clear H1; replace H := Option.bind_eq_some_iff.mp H
                  obtain ⟨t178, A440, H⟩ := H; replace H : (if t178 = true then ((dot_Le.f kj17 t173 x7_1).bind fun t179 => (if t179 = true then (L05_DotSteps.j2 kj17 ji6 l1 x7_1 x8_1 t173 true a2_0 a2_1 ji15 (wrap64 ((rd x7_1 (ji15)) + 1))) else ((dot_Next.f t173 ji15 (wrap64 ((rd x7_1 (ji15)) + 1))).bind fun t180 => (L05_DotSteps.j2 kj17 ji6 l1 x7_1 x8_1 t173 t180 a2_0 a2_1 ji15 (wrap64 ((rd x7_1 (ji15)) + 1)))))) else (L05_DotSteps.j2 kj17 ji6 l1 x7_1 x8_1 t173 true a2_0 a2_1 ji15 (wrap64 ((rd x7_1 (ji15)) + 1)))) = some r := H
                  have A44 := am A440; clear A440; by_cases c45 : t178 = true
                  ·
                   subst c45; have H1 : ((dot_Le.f kj17 t173 x7_1).bind fun t179 => (if t179 = true then (L05_DotSteps.j2 kj17 ji6 l1 x7_1 x8_1 t173 true a2_0 a2_1 ji15 (wrap64 ((rd x7_1 (ji15)) + 1))) else ((dot_Next.f t173 ji15 (wrap64 ((rd x7_1 (ji15)) + 1))).bind fun t180 => (L05_DotSteps.j2 kj17 ji6 l1 x7_1 x8_1 t173 t180 a2_0 a2_1 ji15 (wrap64 ((rd x7_1 (ji15)) + 1)))))) = some r := by rw [if_pos rfl] at H; exact H
                   clear H; have H := H1; clear H1; replace H := Option.bind_eq_some_iff.mp H
                   obtain ⟨t179, A460, H⟩ := H; replace H : (if t179 = true then (L05_DotSteps.j2 kj17 ji6 l1 x7_1 x8_1 t173 true a2_0 a2_1 ji15 (wrap64 ((rd x7_1 (ji15)) + 1))) else ((dot_Next.f t173 ji15 (wrap64 ((rd x7_1 (ji15)) + 1))).bind fun t180 => (L05_DotSteps.j2 kj17 ji6 l1 x7_1 x8_1 t173 t180 a2_0 a2_1 ji15 (wrap64 ((rd x7_1 (ji15)) + 1))))) = some r := H
                   have A46 := am A460; clear A460; by_cases c47 : t179 = true
                   ·
                    subst c47; have H1 : (L05_DotSteps.j2 kj17 ji6 l1 x7_1 x8_1 t173 true a2_0 a2_1 ji15 (wrap64 ((rd x7_1 (ji15)) + 1))) = some r := by rw [if_pos rfl] at H; exact H
                    clear H; have H := H1; clear H1; have H' := am H
                    clear H; obtain ⟨Ao48, co48, eo48⟩ := Kd.R_slice HO175.out
                    subst eo48; have hnb49 := NB170_164.out; have hnc49 := NB164_170.out; have hcz50_0 : w39.cell? ⟨gb170, 0, none⟩ = some (.int .i64 ji15) := (kC BK170.out 0).trans rfl
                    have hcz50_1 : w39.cell? ⟨gb170, 1, none⟩ = some (.int .i64 (wrap64 ((rd x7_1 (ji15)) + 1))) := (kC BK170.out 1).trans rfl
                    have hfz50_0 := blk_frozen BK170.out 0
                    have hfz50_1 := blk_frozen BK170.out 1
                    go_wp2_with (first | (go_at_call 12; (with_reducible refine (dot_Has.calls _ _ t173 ji15 (wrap64 ((rd x7_1 (ji15)) + 1)) true _ ?side1 ?side2 A42.out).mono ?_); (case side1 => repeat (first | exact (Kd.R_reads' HO175.out).2.2 | (with_reducible refine Kd.C_alloc ?_ _) | (with_reducible refine Kd.C_drewN ?_ _) | (with_reducible refine Kd.C_drew ?_))); (case side2 => exact (Kd.R_reads' HO175.out).2.1); rintro e w51 ⟨rfl, hb⟩; have n0_ := am (Kd.R_below (by (with_reducible repeat (first | apply Kd.R_alloc | apply Kd.R_drewN | apply Kd.R_drew)); exact HO_7.out) hb); have n1_ := am (Kd.R_below (by (with_reducible repeat (first | apply Kd.R_alloc | apply Kd.R_drewN | apply Kd.R_drew)); exact HO175.out) hb); have n2_ := am (kB (g := gb164) (o := .cells #[.int .i64 a2_0, .int .i64 a2_1] 24 (0, 0)) (by (with_reducible repeat (first | refine kN ?_ _ | refine kD ?_ | refine kA ?_ _)); exact BK164.out) hb); have n3_ := am (kB (g := gb170) (o := .cells #[.int .i64 ji15, .int .i64 (wrap64 ((rd x7_1 (ji15)) + 1))] 24 (0, 0)) (by (with_reducible repeat (first | refine kN ?_ _ | refine kD ?_ | refine kA ?_ _)); exact BK170.out) hb); have n4_ := am (bP (by repeat (first | (with_reducible first | exact HB.out | apply bA | apply bN | apply b1 | refine bS ?_ GE164.out | refine bS ?_ GE170.out) | exact HB.out)) hb); clear HO_7; clear HO175; clear BK164; clear BK170; clear HB; have HO_7 := n0_; have HO175 := n1_; have BK164 := n2_; have BK170 := n3_; have HB := n4_; clear n0_ n1_ n2_ n3_ n4_; (try clear hb); (try clear hb2); (try clear hk); (try clear hi)) | (go_at_call 15; (with_reducible refine (dot_Le.calls kj17 _ _ x7_1 _ _ t173 true _ ?side1 ?side2 ?side3 ?side4 A44.out).mono ?_); (case side1 => repeat (first | exact (Kd.R_reads' HO_7.out).2.2 | (with_reducible refine Kd.C_alloc ?_ _) | (with_reducible refine Kd.C_drewN ?_ _) | (with_reducible refine Kd.C_drew ?_))); (case side2 => exact (Kd.R_reads' HO_7.out).2.1); (case side3 => repeat (first | exact (Kd.R_reads' HO175.out).2.2 | (with_reducible refine Kd.C_alloc ?_ _) | (with_reducible refine Kd.C_drewN ?_ _) | (with_reducible refine Kd.C_drew ?_))); (case side4 => exact (Kd.R_reads' HO175.out).2.1); rintro e w' ⟨rfl, ⟨nd, rfl⟩⟩) | (go_at_call 15; (with_reducible refine (dot_Le.calls kj17 _ _ t173 _ _ x7_1 true _ ?side1 ?side2 ?side3 ?side4 A46.out).mono ?_); (case side1 => repeat (first | exact (Kd.R_reads' HO175.out).2.2 | (with_reducible refine Kd.C_alloc ?_ _) | (with_reducible refine Kd.C_drewN ?_ _) | (with_reducible refine Kd.C_drew ?_))); (case side2 => exact (Kd.R_reads' HO175.out).2.1); (case side3 => repeat (first | exact (Kd.R_reads' HO_7.out).2.2 | (with_reducible refine Kd.C_alloc ?_ _) | (with_reducible refine Kd.C_drewN ?_ _) | (with_reducible refine Kd.C_drew ?_))); (case side4 => exact (Kd.R_reads' HO_7.out).2.1); rintro e w' ⟨rfl, ⟨nd, rfl⟩⟩))
                    go_meet
                    case rel => exact ⟨_, (true), (by first | rfl | (simp; done) | (simp [*]; done)), H', ⟨by have := HK1.out; have := HJ17.out; first | omega | exact Nat.le_refl _⟩, ⟨by (with_reducible repeat (first | apply Kd.R_alloc | apply Kd.R_drewN | apply Kd.R_drew)); exact Kd.R_mono HO_7.out (fun _ hk => hk.2)⟩, ⟨by (with_reducible repeat (first | apply Kd.R_alloc | apply Kd.R_drewN | apply Kd.R_drew)); exact Kd.R_mono HO175.out (fun _ hk => hk.2)⟩, ⟨by (with_reducible repeat (first | refine kN ?_ _ | refine kD ?_ | refine kA ?_ _)); exact BK164.out⟩, ⟨by (with_reducible repeat (first | refine kN ?_ _ | refine kD ?_ | refine kA ?_ _)); exact BK170.out⟩, ⟨by repeat (first | (with_reducible first | exact HB.out | apply bA | apply bN | apply b1 | refine bS ?_ GE164.out | refine bS ?_ GE170.out) | exact HB.out)⟩⟩
                   ·
                    replace c47 := Bool.eq_false_iff.mpr c47
                    subst c47; have H1 : ((dot_Next.f t173 ji15 (wrap64 ((rd x7_1 (ji15)) + 1))).bind fun t180 => (L05_DotSteps.j2 kj17 ji6 l1 x7_1 x8_1 t173 t180 a2_0 a2_1 ji15 (wrap64 ((rd x7_1 (ji15)) + 1)))) = some r := by rw [if_neg (show ¬ (false = true) by decide)] at H; exact H
                    clear H; have H := H1; clear H1; replace H := Option.bind_eq_some_iff.mp H
                    obtain ⟨t180, A520, H⟩ := H; replace H : (L05_DotSteps.j2 kj17 ji6 l1 x7_1 x8_1 t173 t180 a2_0 a2_1 ji15 (wrap64 ((rd x7_1 (ji15)) + 1))) = some r := H
                    have A52 := am A520; clear A520; have H' := am H
                    clear H; obtain ⟨Ao53, co53, eo53⟩ := Kd.R_slice HO175.out
                    subst eo53; have hnb54 := NB170_164.out; have hnc54 := NB164_170.out; have hcz55_0 : w39.cell? ⟨gb170, 0, none⟩ = some (.int .i64 ji15) := (kC BK170.out 0).trans rfl
                    have hcz55_1 : w39.cell? ⟨gb170, 1, none⟩ = some (.int .i64 (wrap64 ((rd x7_1 (ji15)) + 1))) := (kC BK170.out 1).trans rfl
                    have hfz55_0 := blk_frozen BK170.out 0
                    have hfz55_1 := blk_frozen BK170.out 1
                    go_wp2_with (first | (go_at_call 12; (with_reducible refine (dot_Has.calls _ _ t173 ji15 (wrap64 ((rd x7_1 (ji15)) + 1)) true _ ?side1 ?side2 A42.out).mono ?_); (case side1 => repeat (first | exact (Kd.R_reads' HO175.out).2.2 | (with_reducible refine Kd.C_alloc ?_ _) | (with_reducible refine Kd.C_drewN ?_ _) | (with_reducible refine Kd.C_drew ?_))); (case side2 => exact (Kd.R_reads' HO175.out).2.1); rintro e w56 ⟨rfl, hb⟩; have n0_ := am (Kd.R_below (by (with_reducible repeat (first | apply Kd.R_alloc | apply Kd.R_drewN | apply Kd.R_drew)); exact HO_7.out) hb); have n1_ := am (Kd.R_below (by (with_reducible repeat (first | apply Kd.R_alloc | apply Kd.R_drewN | apply Kd.R_drew)); exact HO175.out) hb); have n2_ := am (kB (g := gb164) (o := .cells #[.int .i64 a2_0, .int .i64 a2_1] 24 (0, 0)) (by (with_reducible repeat (first | refine kN ?_ _ | refine kD ?_ | refine kA ?_ _)); exact BK164.out) hb); have n3_ := am (kB (g := gb170) (o := .cells #[.int .i64 ji15, .int .i64 (wrap64 ((rd x7_1 (ji15)) + 1))] 24 (0, 0)) (by (with_reducible repeat (first | refine kN ?_ _ | refine kD ?_ | refine kA ?_ _)); exact BK170.out) hb); have n4_ := am (bP (by repeat (first | (with_reducible first | exact HB.out | apply bA | apply bN | apply b1 | refine bS ?_ GE164.out | refine bS ?_ GE170.out) | exact HB.out)) hb); clear HO_7; clear HO175; clear BK164; clear BK170; clear HB; have HO_7 := n0_; have HO175 := n1_; have BK164 := n2_; have BK170 := n3_; have HB := n4_; clear n0_ n1_ n2_ n3_ n4_; (try clear hb); (try clear hb2); (try clear hk); (try clear hi)) | (go_at_call 15; (with_reducible refine (dot_Le.calls kj17 _ _ x7_1 _ _ t173 true _ ?side1 ?side2 ?side3 ?side4 A44.out).mono ?_); (case side1 => repeat (first | exact (Kd.R_reads' HO_7.out).2.2 | (with_reducible refine Kd.C_alloc ?_ _) | (with_reducible refine Kd.C_drewN ?_ _) | (with_reducible refine Kd.C_drew ?_))); (case side2 => exact (Kd.R_reads' HO_7.out).2.1); (case side3 => repeat (first | exact (Kd.R_reads' HO175.out).2.2 | (with_reducible refine Kd.C_alloc ?_ _) | (with_reducible refine Kd.C_drewN ?_ _) | (with_reducible refine Kd.C_drew ?_))); (case side4 => exact (Kd.R_reads' HO175.out).2.1); rintro e w' ⟨rfl, ⟨nd, rfl⟩⟩) | (go_at_call 15; (with_reducible refine (dot_Le.calls kj17 _ _ t173 _ _ x7_1 false _ ?side1 ?side2 ?side3 ?side4 A46.out).mono ?_); (case side1 => repeat (first | exact (Kd.R_reads' HO175.out).2.2 | (with_reducible refine Kd.C_alloc ?_ _) | (with_reducible refine Kd.C_drewN ?_ _) | (with_reducible refine Kd.C_drew ?_))); (case side2 => exact (Kd.R_reads' HO175.out).2.1); (case side3 => repeat (first | exact (Kd.R_reads' HO_7.out).2.2 | (with_reducible refine Kd.C_alloc ?_ _) | (with_reducible refine Kd.C_drewN ?_ _) | (with_reducible refine Kd.C_drew ?_))); (case side4 => exact (Kd.R_reads' HO_7.out).2.1); rintro e w' ⟨rfl, ⟨nd, rfl⟩⟩; have hcz57_0 : w56.cell? ⟨gb170, 0, none⟩ = some (.int .i64 ji15) := (kC BK170.out 0).trans rfl; have hcz57_1 : w56.cell? ⟨gb170, 1, none⟩ = some (.int .i64 (wrap64 ((rd x7_1 (ji15)) + 1))) := (kC BK170.out 1).trans rfl; have hfz57_0 := blk_frozen BK170.out 0; have hfz57_1 := blk_frozen BK170.out 1) | (go_at_call 13; (with_reducible refine (dot_Next.calls _ _ t173 ji15 (wrap64 ((rd x7_1 (ji15)) + 1)) t180 _ ?side1 ?side2 A52.out).mono ?_); (case side1 => repeat (first | exact (Kd.R_reads' HO175.out).2.2 | (with_reducible refine Kd.C_alloc ?_ _) | (with_reducible refine Kd.C_drewN ?_ _) | (with_reducible refine Kd.C_drew ?_))); (case side2 => exact (Kd.R_reads' HO175.out).2.1); rintro e w58 ⟨rfl, hb⟩; have n0_ := am (Kd.R_below (by (with_reducible repeat (first | apply Kd.R_alloc | apply Kd.R_drewN | apply Kd.R_drew)); exact HO_7.out) hb); have n1_ := am (Kd.R_below (by (with_reducible repeat (first | apply Kd.R_alloc | apply Kd.R_drewN | apply Kd.R_drew)); exact HO175.out) hb); have n2_ := am (kB (g := gb164) (o := .cells #[.int .i64 a2_0, .int .i64 a2_1] 24 (0, 0)) (by (with_reducible repeat (first | refine kN ?_ _ | refine kD ?_ | refine kA ?_ _)); exact BK164.out) hb); have n3_ := am (kB (g := gb170) (o := .cells #[.int .i64 ji15, .int .i64 (wrap64 ((rd x7_1 (ji15)) + 1))] 24 (0, 0)) (by (with_reducible repeat (first | refine kN ?_ _ | refine kD ?_ | refine kA ?_ _)); exact BK170.out) hb); have n4_ := am (bP (by repeat (first | (with_reducible first | exact HB.out | apply bA | apply bN | apply b1 | refine bS ?_ GE164.out | refine bS ?_ GE170.out) | exact HB.out)) hb); clear HO_7; clear HO175; clear BK164; clear BK170; clear HB; have HO_7 := n0_; have HO175 := n1_; have BK164 := n2_; have BK170 := n3_; have HB := n4_; clear n0_ n1_ n2_ n3_ n4_; (try clear hb); (try clear hb2); (try clear hk); (try clear hi)))
                    go_meet
                    case rel => exact ⟨_, (t180), (by first | rfl | (simp; done) | (simp [*]; done)), H', ⟨by have := HK1.out; have := HJ17.out; first | omega | exact Nat.le_refl _⟩, ⟨by (with_reducible repeat (first | apply Kd.R_alloc | apply Kd.R_drewN | apply Kd.R_drew)); exact Kd.R_mono HO_7.out (fun _ hk => hk.2)⟩, ⟨by (with_reducible repeat (first | apply Kd.R_alloc | apply Kd.R_drewN | apply Kd.R_drew)); exact Kd.R_mono HO175.out (fun _ hk => hk.2)⟩, ⟨by (with_reducible repeat (first | refine kN ?_ _ | refine kD ?_ | refine kA ?_ _)); exact BK164.out⟩, ⟨by (with_reducible repeat (first | refine kN ?_ _ | refine kD ?_ | refine kA ?_ _)); exact BK170.out⟩, ⟨by repeat (first | (with_reducible first | exact HB.out | apply bA | apply bN | apply b1 | refine bS ?_ GE164.out | refine bS ?_ GE170.out) | exact HB.out)⟩⟩
                  ·
                   replace c45 := Bool.eq_false_iff.mpr c45
                   subst c45; have H1 : (L05_DotSteps.j2 kj17 ji6 l1 x7_1 x8_1 t173 true a2_0 a2_1 ji15 (wrap64 ((rd x7_1 (ji15)) + 1))) = some r := by rw [if_neg (show ¬ (false = true) by decide)] at H; exact H
                   clear H; have H := H1; clear H1; have H' := am H
                   clear H; obtain ⟨Ao59, co59, eo59⟩ := Kd.R_slice HO175.out
                   subst eo59; have hnb60 := NB170_164.out; have hnc60 := NB164_170.out; have hcz61_0 : w39.cell? ⟨gb170, 0, none⟩ = some (.int .i64 ji15) := (kC BK170.out 0).trans rfl
                   have hcz61_1 : w39.cell? ⟨gb170, 1, none⟩ = some (.int .i64 (wrap64 ((rd x7_1 (ji15)) + 1))) := (kC BK170.out 1).trans rfl
                   have hfz61_0 := blk_frozen BK170.out 0
                   have hfz61_1 := blk_frozen BK170.out 1
                   go_wp2_with (first | (go_at_call 12; (with_reducible refine (dot_Has.calls _ _ t173 ji15 (wrap64 ((rd x7_1 (ji15)) + 1)) true _ ?side1 ?side2 A42.out).mono ?_); (case side1 => repeat (first | exact (Kd.R_reads' HO175.out).2.2 | (with_reducible refine Kd.C_alloc ?_ _) | (with_reducible refine Kd.C_drewN ?_ _) | (with_reducible refine Kd.C_drew ?_))); (case side2 => exact (Kd.R_reads' HO175.out).2.1); rintro e w62 ⟨rfl, hb⟩; have n0_ := am (Kd.R_below (by (with_reducible repeat (first | apply Kd.R_alloc | apply Kd.R_drewN | apply Kd.R_drew)); exact HO_7.out) hb); have n1_ := am (Kd.R_below (by (with_reducible repeat (first | apply Kd.R_alloc | apply Kd.R_drewN | apply Kd.R_drew)); exact HO175.out) hb); have n2_ := am (kB (g := gb164) (o := .cells #[.int .i64 a2_0, .int .i64 a2_1] 24 (0, 0)) (by (with_reducible repeat (first | refine kN ?_ _ | refine kD ?_ | refine kA ?_ _)); exact BK164.out) hb); have n3_ := am (kB (g := gb170) (o := .cells #[.int .i64 ji15, .int .i64 (wrap64 ((rd x7_1 (ji15)) + 1))] 24 (0, 0)) (by (with_reducible repeat (first | refine kN ?_ _ | refine kD ?_ | refine kA ?_ _)); exact BK170.out) hb); have n4_ := am (bP (by repeat (first | (with_reducible first | exact HB.out | apply bA | apply bN | apply b1 | refine bS ?_ GE164.out | refine bS ?_ GE170.out) | exact HB.out)) hb); clear HO_7; clear HO175; clear BK164; clear BK170; clear HB; have HO_7 := n0_; have HO175 := n1_; have BK164 := n2_; have BK170 := n3_; have HB := n4_; clear n0_ n1_ n2_ n3_ n4_; (try clear hb); (try clear hb2); (try clear hk); (try clear hi)) | (go_at_call 15; (with_reducible refine (dot_Le.calls kj17 _ _ x7_1 _ _ t173 false _ ?side1 ?side2 ?side3 ?side4 A44.out).mono ?_); (case side1 => repeat (first | exact (Kd.R_reads' HO_7.out).2.2 | (with_reducible refine Kd.C_alloc ?_ _) | (with_reducible refine Kd.C_drewN ?_ _) | (with_reducible refine Kd.C_drew ?_))); (case side2 => exact (Kd.R_reads' HO_7.out).2.1); (case side3 => repeat (first | exact (Kd.R_reads' HO175.out).2.2 | (with_reducible refine Kd.C_alloc ?_ _) | (with_reducible refine Kd.C_drewN ?_ _) | (with_reducible refine Kd.C_drew ?_))); (case side4 => exact (Kd.R_reads' HO175.out).2.1); rintro e w' ⟨rfl, ⟨nd, rfl⟩⟩))
                   go_meet
                   case rel => exact ⟨_, (true), (by first | rfl | (simp; done) | (simp [*]; done)), H', ⟨by have := HK1.out; have := HJ17.out; first | omega | exact Nat.le_refl _⟩, ⟨by (with_reducible repeat (first | apply Kd.R_alloc | apply Kd.R_drewN | apply Kd.R_drew)); exact Kd.R_mono HO_7.out (fun _ hk => hk.2)⟩, ⟨by (with_reducible repeat (first | apply Kd.R_alloc | apply Kd.R_drewN | apply Kd.R_drew)); exact Kd.R_mono HO175.out (fun _ hk => hk.2)⟩, ⟨by (with_reducible repeat (first | refine kN ?_ _ | refine kD ?_ | refine kA ?_ _)); exact BK164.out⟩, ⟨by (with_reducible repeat (first | refine kN ?_ _ | refine kD ?_ | refine kA ?_ _)); exact BK170.out⟩, ⟨by repeat (first | (with_reducible first | exact HB.out | apply bA | apply bN | apply b1 | refine bS ?_ GE164.out | refine bS ?_ GE170.out) | exact HB.out)⟩⟩
                 ·
                  replace c43 := Bool.eq_false_iff.mpr c43
                  subst c43; have H1 : (L05_DotSteps.j2 kj17 ji6 l1 x7_1 x8_1 t173 true a2_0 a2_1 ji15 (wrap64 ((rd x7_1 (ji15)) + 1))) = some r := by rw [if_neg (show ¬ (false = true) by decide)] at H; exact H
                  clear H; have H := H1; clear H1; have H' := am H
                  clear H; obtain ⟨Ao63, co63, eo63⟩ := Kd.R_slice HO175.out
                  subst eo63; have hnb64 := NB170_164.out; have hnc64 := NB164_170.out; have hcz65_0 : w39.cell? ⟨gb170, 0, none⟩ = some (.int .i64 ji15) := (kC BK170.out 0).trans rfl
                  have hcz65_1 : w39.cell? ⟨gb170, 1, none⟩ = some (.int .i64 (wrap64 ((rd x7_1 (ji15)) + 1))) := (kC BK170.out 1).trans rfl
                  have hfz65_0 := blk_frozen BK170.out 0
                  have hfz65_1 := blk_frozen BK170.out 1
                  go_wp2_with (first | (go_at_call 12; (with_reducible refine (dot_Has.calls _ _ t173 ji15 (wrap64 ((rd x7_1 (ji15)) + 1)) false _ ?side1 ?side2 A42.out).mono ?_); (case side1 => repeat (first | exact (Kd.R_reads' HO175.out).2.2 | (with_reducible refine Kd.C_alloc ?_ _) | (with_reducible refine Kd.C_drewN ?_ _) | (with_reducible refine Kd.C_drew ?_))); (case side2 => exact (Kd.R_reads' HO175.out).2.1); rintro e w66 ⟨rfl, hb⟩; have n0_ := am (Kd.R_below (by (with_reducible repeat (first | apply Kd.R_alloc | apply Kd.R_drewN | apply Kd.R_drew)); exact HO_7.out) hb); have n1_ := am (Kd.R_below (by (with_reducible repeat (first | apply Kd.R_alloc | apply Kd.R_drewN | apply Kd.R_drew)); exact HO175.out) hb); have n2_ := am (kB (g := gb164) (o := .cells #[.int .i64 a2_0, .int .i64 a2_1] 24 (0, 0)) (by (with_reducible repeat (first | refine kN ?_ _ | refine kD ?_ | refine kA ?_ _)); exact BK164.out) hb); have n3_ := am (kB (g := gb170) (o := .cells #[.int .i64 ji15, .int .i64 (wrap64 ((rd x7_1 (ji15)) + 1))] 24 (0, 0)) (by (with_reducible repeat (first | refine kN ?_ _ | refine kD ?_ | refine kA ?_ _)); exact BK170.out) hb); have n4_ := am (bP (by repeat (first | (with_reducible first | exact HB.out | apply bA | apply bN | apply b1 | refine bS ?_ GE164.out | refine bS ?_ GE170.out) | exact HB.out)) hb); clear HO_7; clear HO175; clear BK164; clear BK170; clear HB; have HO_7 := n0_; have HO175 := n1_; have BK164 := n2_; have BK170 := n3_; have HB := n4_; clear n0_ n1_ n2_ n3_ n4_; (try clear hb); (try clear hb2); (try clear hk); (try clear hi)))
                  go_meet
                  case rel => exact ⟨_, (true), (by first | rfl | (simp; done) | (simp [*]; done)), H', ⟨by have := HK1.out; have := HJ17.out; first | omega | exact Nat.le_refl _⟩, ⟨by (with_reducible repeat (first | apply Kd.R_alloc | apply Kd.R_drewN | apply Kd.R_drew)); exact Kd.R_mono HO_7.out (fun _ hk => hk.2)⟩, ⟨by (with_reducible repeat (first | apply Kd.R_alloc | apply Kd.R_drewN | apply Kd.R_drew)); exact Kd.R_mono HO175.out (fun _ hk => hk.2)⟩, ⟨by (with_reducible repeat (first | refine kN ?_ _ | refine kD ?_ | refine kA ?_ _)); exact BK164.out⟩, ⟨by (with_reducible repeat (first | refine kN ?_ _ | refine kD ?_ | refine kA ?_ _)); exact BK170.out⟩, ⟨by repeat (first | (with_reducible first | exact HB.out | apply bA | apply bN | apply b1 | refine bS ?_ GE164.out | refine bS ?_ GE170.out) | exact HB.out)⟩⟩
                ·
                 rw [if_neg c41] at H; have c41b0 : ((t173.length : Int) == ji6) = false := beq_eq_false_iff_ne.mpr c41
                 have c41b1 : ((t173.length : Int) != ji6) = true := bne_iff_ne.mpr c41
                 have H' := am H
                 clear H; obtain ⟨Ao67, co67, eo67⟩ := Kd.R_slice HO175.out
                 subst eo67; go_wp2
                 go_meet
                 case rel => exact ⟨_, (true), (by first | rfl | (simp; done) | (simp [*]; done)), H', ⟨by have := HK1.out; have := HJ17.out; first | omega | exact Nat.le_refl _⟩, ⟨by (with_reducible repeat (first | apply Kd.R_alloc | apply Kd.R_drewN | apply Kd.R_drew)); exact Kd.R_mono HO_7.out (fun _ hk => hk.2)⟩, ⟨by (with_reducible repeat (first | apply Kd.R_alloc | apply Kd.R_drewN | apply Kd.R_drew)); exact Kd.R_mono HO175.out (fun _ hk => hk.2)⟩, ⟨by (with_reducible repeat (first | refine kN ?_ _ | refine kD ?_ | refine kA ?_ _)); exact BK164.out⟩, ⟨by (with_reducible repeat (first | refine kN ?_ _ | refine kD ?_ | refine kA ?_ _)); exact BK170.out⟩, ⟨by repeat (first | (with_reducible first | exact HB.out | apply bA | apply bN | apply b1 | refine bS ?_ GE164.out | refine bS ?_ GE170.out) | exact HB.out)⟩⟩
               ·
                rw [if_neg c40] at H; have c40b0 : (t176 == 0) = false := beq_eq_false_iff_ne.mpr c40
                have c40b1 : (t176 != 0) = true := bne_iff_ne.mpr c40
                (first | rw [c40b0] | (simp only [i64_w, i32_w]; rw [c40b0]) | skip)
                have H' := am H
                clear H; go_wp2
                go_meet
                case rel => exact ⟨_, (true), (by first | rfl | (simp; done) | (simp [*]; done)), H', ⟨by have := HK1.out; have := HJ17.out; first | omega | exact Nat.le_refl _⟩, ⟨by (with_reducible repeat (first | apply Kd.R_alloc | apply Kd.R_drewN | apply Kd.R_drew)); exact Kd.R_mono HO_7.out (fun _ hk => hk.2)⟩, ⟨by (with_reducible repeat (first | apply Kd.R_alloc | apply Kd.R_drewN | apply Kd.R_drew)); exact Kd.R_mono HO175.out (fun _ hk => hk.2)⟩, ⟨by (with_reducible repeat (first | refine kN ?_ _ | refine kD ?_ | refine kA ?_ _)); exact BK164.out⟩, ⟨by (with_reducible repeat (first | refine kN ?_ _ | refine kD ?_ | refine kA ?_ _)); exact BK170.out⟩, ⟨by repeat (first | (with_reducible first | exact HB.out | apply bA | apply bN | apply b1 | refine bS ?_ GE164.out | refine bS ?_ GE170.out) | exact HB.out)⟩⟩
              case rest =>
               clear HC36; (try clear c1); (try clear p1); (try clear q1); (try clear hx1); (try clear c2); (try clear p2); (try clear c3); (try clear c4); (try clear c4b0); (try clear c4b1); (try clear c5); (try clear c6); (try clear p6); (try clear c7); (try clear c7b0); (try clear c7b1); (try clear c8); (try clear c8b0); (try clear c8b1); (try clear c12); (try clear c12b0); (try clear c13); (try clear c13b0); (try clear c14); (try clear c14b0); (try clear c14b1); (try clear c16); (try clear c16b0); (try clear p16); (try clear q16); (try clear hx16); (try clear c17); (try clear c17b0); (try clear c21); (try clear c24); (try clear c25); (try clear c29); (try clear c34); (try clear c37); (try clear c40); (try clear c40b0); (try clear c40b1); (try clear c41); (try clear c41b0); (try clear c41b1); (try clear c43); (try clear c45); (try clear c47); (try clear c49); (try clear c54); (try clear c60); (try clear c64); (try clear p64); (try clear hcz22_0); (try clear hcz22_1); (try clear hcz26_0); (try clear hcz26_1); (try clear hcz30_0); (try clear hcz30_1); (try clear hcz32_0); (try clear hcz32_1); (try clear hcz38_0); (try clear hcz38_1); (try clear hcz50_0); (try clear hcz50_1); (try clear hcz55_0); (try clear hcz55_1); (try clear hcz57_0); (try clear hcz57_1); (try clear hcz61_0); (try clear hcz61_1); (try clear hcz65_0); (try clear hcz65_1); (try clear hfz22_0); (try clear hfz22_1); (try clear hfz26_0); (try clear hfz26_1); (try clear hfz30_0); (try clear hfz30_1); (try clear hfz32_0); (try clear hfz32_1); (try clear hfz38_0); (try clear hfz38_1); (try clear hfz50_0); (try clear hfz50_1); (try clear hfz55_0); (try clear hfz55_1); (try clear hfz57_0); (try clear hfz57_1); (try clear hfz61_0); (try clear hfz61_1); (try clear hfz65_0); (try clear hfz65_1); (try clear hx168_0); (try clear hx169_0); (try clear p1); (try clear p16); (try clear p168); (try clear p169); (try clear p2); (try clear p6); (try clear q1); (try clear q16); (try clear q168); (try clear q169); obtain ⟨kq, x93_35, rfl, HA, HJ35, HO_7, HO_11, BK164, BK170, HB⟩ := hcut
               cases kq with
               | zero => exact absurd HA.out (by simp [L05_DotSteps.j2])
               | succ kj35 =>
                have H := HA.out; clear HA; simp only [L05_DotSteps.j2] at H
                by_cases c68 : x93_35 = true
                ·
                 subst c68; have H1 : (some false) = some r := by rw [if_pos rfl] at H; exact H
                 clear H; have H := H1; clear H1; exact absurd (H.trans (congrArg some HLAW.out)) (by simp)
                ·
                 replace c68 := Bool.eq_false_iff.mpr c68
                 subst c68; have H1 : ((dot_Add.f kj35 t173 ji15 (wrap64 ((rd x7_1 (ji15)) + 1))).bind fun bt181 => (if bt181.2 = 1 then ((dot_Has.f x7_1 a2_0 a2_1).bind fun t185 => (if t185 = true then ((dot_Has.f t173 a2_0 a2_1).bind fun t186 => (if t186 = true then (L05_DotSteps.l0 kj35 ji6 l1 t173 (wrap64 (x8_1 + 1)) a2_0 a2_1) else (some false))) else (L05_DotSteps.l0 kj35 ji6 l1 t173 (wrap64 (x8_1 + 1)) a2_0 a2_1))) else (some false))) = some r := by rw [if_neg (show ¬ (false = true) by decide)] at H; exact H
                 clear H; have H := H1; clear H1; replace H := Option.bind_eq_some_iff.mp H
                 obtain ⟨⟨t181, t184⟩, A690, H⟩ := H
                 replace H : (if t184 = 1 then ((dot_Has.f x7_1 a2_0 a2_1).bind fun t185 => (if t185 = true then ((dot_Has.f t173 a2_0 a2_1).bind fun t186 => (if t186 = true then (L05_DotSteps.l0 kj35 ji6 l1 t173 (wrap64 (x8_1 + 1)) a2_0 a2_1) else (some false))) else (L05_DotSteps.l0 kj35 ji6 l1 t173 (wrap64 (x8_1 + 1)) a2_0 a2_1))) else (some false)) = some r := H
                 have A69 := am A690; clear A690; by_cases c70 : t184 = 1
                 ·
                  rw [if_pos c70] at H; have c70b0 : (t184 == 1) = true := beq_iff_eq.mpr c70
                  have c70b1 : (t184 != 1) = false := bne_eq_false_iff_eq.mpr c70
                  clear c70; replace H := Option.bind_eq_some_iff.mp H
                  obtain ⟨t185, A710, H⟩ := H; replace H : (if t185 = true then ((dot_Has.f t173 a2_0 a2_1).bind fun t186 => (if t186 = true then (L05_DotSteps.l0 kj35 ji6 l1 t173 (wrap64 (x8_1 + 1)) a2_0 a2_1) else (some false))) else (L05_DotSteps.l0 kj35 ji6 l1 t173 (wrap64 (x8_1 + 1)) a2_0 a2_1)) = some r := H
                  have A71 := am A710; clear A710; by_cases c72 : t185 = true
                  ·
                   subst c72; have H1 : ((dot_Has.f t173 a2_0 a2_1).bind fun t186 => (if t186 = true then (L05_DotSteps.l0 kj35 ji6 l1 t173 (wrap64 (x8_1 + 1)) a2_0 a2_1) else (some false))) = some r := by rw [if_pos rfl] at H; exact H
                   clear H; have H := H1; clear H1; replace H := Option.bind_eq_some_iff.mp H
                   obtain ⟨t186, A730, H⟩ := H; replace H : (if t186 = true then (L05_DotSteps.l0 kj35 ji6 l1 t173 (wrap64 (x8_1 + 1)) a2_0 a2_1) else (some false)) = some r := H
                   have A73 := am A730; clear A730; by_cases c74 : t186 = true
                   ·
                    subst c74; have H1 : (L05_DotSteps.l0 kj35 ji6 l1 t173 (wrap64 (x8_1 + 1)) a2_0 a2_1) = some r := by rw [if_pos rfl] at H; exact H
                    clear H; have H := H1; clear H1; have H' := am H
                    clear H; have hnb75 := NB170_164.out; have hnc75 := NB164_170.out; have hcz76_0 : wc.cell? ⟨gb170, 0, none⟩ = some (.int .i64 ji15) := (kC BK170.out 0).trans rfl
                    have hcz76_1 : wc.cell? ⟨gb170, 1, none⟩ = some (.int .i64 (wrap64 ((rd x7_1 (ji15)) + 1))) := (kC BK170.out 1).trans rfl
                    have hfz76_0 := blk_frozen BK170.out 0
                    have hfz76_1 := blk_frozen BK170.out 1
                    obtain ⟨Ao77, co77, eo77⟩ := Kd.R_slice HO_11.out
                    subst eo77; go_wp2_with (first | ((with_reducible refine gate_callee (f := 14) rfl ?_); refine goesL_ (some 97) rfl rfl Try.func14 (by kernel_rfl) rfl #[.slice Ao77 t173.length co77, .agg #[.int .i64 ji15, .int .i64 (wrap64 ((rd x7_1 (ji15)) + 1))]] rfl (by (try simp only [List.map_toArray, List.map_cons, List.map_nil]); first | done | (simp only [hji15]; rfl) | rfl | (simp only [List.length_drop, List.length_take]; rfl)) ?_; (with_reducible refine (dot_Add.calls kj35 _ _ t173 ji15 (wrap64 ((rd x7_1 (ji15)) + 1)) t181 t184 _ ?side1 ?side2 A69.out).mono ?_); (case side1 => repeat (first | exact (Kd.R_reads' HO_11.out).2.2 | (with_reducible refine Kd.C_alloc ?_ _) | (with_reducible refine Kd.C_drewN ?_ _) | (with_reducible refine Kd.C_drew ?_))); (case side2 => exact (Kd.R_reads' HO_11.out).2.1); rintro e w78 ⟨v182, rfl, ho0, hb⟩; refine ⟨_, rfl, ?_⟩; have n0_ := am (Kd.R_elder' (by (with_reducible repeat (first | apply Kd.R_alloc | apply Kd.R_drewN | apply Kd.R_drew)); exact HO_7.out) (Kd.R_base ho0) hb); have n1_ := am (Kd.R_elder' (by (with_reducible repeat (first | apply Kd.R_alloc | apply Kd.R_drewN | apply Kd.R_drew)); exact HO_11.out) (Kd.R_base ho0) hb); have n2_ := am (Kd.R_lower (Kd.R_new' (Kd.R_new' ho0 (Kd.R_lt (by (with_reducible repeat (first | apply Kd.R_alloc | apply Kd.R_drewN | apply Kd.R_drew)); exact HO_7.out))) (Kd.R_lt (by (with_reducible repeat (first | apply Kd.R_alloc | apply Kd.R_drewN | apply Kd.R_drew)); exact HO_11.out))) (below_size (by repeat (first | (with_reducible first | exact HB.out | apply bA | apply bN | apply b1 | refine bS ?_ GE164.out | refine bS ?_ GE170.out) | exact HB.out)))); have n3_ := am (kB (g := gb164) (o := .cells #[.int .i64 a2_0, .int .i64 a2_1] 24 (0, 0)) (by (with_reducible repeat (first | refine kN ?_ _ | refine kD ?_ | refine kA ?_ _)); exact BK164.out) hb); have n4_ := am (kB (g := gb170) (o := .cells #[.int .i64 ji15, .int .i64 (wrap64 ((rd x7_1 (ji15)) + 1))] 24 (0, 0)) (by (with_reducible repeat (first | refine kN ?_ _ | refine kD ?_ | refine kA ?_ _)); exact BK170.out) hb); have n5_ := am (bP (by repeat (first | (with_reducible first | exact HB.out | apply bA | apply bN | apply b1 | refine bS ?_ GE164.out | refine bS ?_ GE170.out) | exact HB.out)) hb); clear HO_7; clear HO_11; clear BK164; clear BK170; clear HB; have HO_7 := n0_; have HO_11 := n1_; have HO183 := n2_; have BK164 := n3_; have BK170 := n4_; have HB := n5_; clear n0_ n1_ n2_ n3_ n4_ n5_; (try clear hb); (try clear hb2); (try clear hk); (try clear hi); (try clear ho0); have hcz79_0 : w78.cell? ⟨gb164, 0, none⟩ = some (.int .i64 a2_0) := (kC BK164.out 0).trans rfl; have hcz79_1 : w78.cell? ⟨gb164, 1, none⟩ = some (.int .i64 a2_1) := (kC BK164.out 1).trans rfl; have hfz79_0 := blk_frozen BK164.out 0; have hfz79_1 := blk_frozen BK164.out 1) | ((with_reducible refine gate_callee (f := 12) rfl ?_); refine goesL_ (some 104) rfl rfl Try.func12 (by kernel_rfl) rfl #[.slice (some ad169) x7_1.length co19, .agg #[.int .i64 a2_0, .int .i64 a2_1]] rfl (by (try simp only [List.map_toArray, List.map_cons, List.map_nil]); first | done | rfl | (simp only [List.length_drop, List.length_take]; rfl)) ?_; (with_reducible refine (dot_Has.calls _ _ x7_1 a2_0 a2_1 true _ ?side1 ?side2 A71.out).mono ?_); (case side1 => repeat (first | exact (Kd.R_reads' HO_7.out).2.2 | (with_reducible refine Kd.C_alloc ?_ _) | (with_reducible refine Kd.C_drewN ?_ _) | (with_reducible refine Kd.C_drew ?_))); (case side2 => exact (Kd.R_reads' HO_7.out).2.1); rintro e w80 ⟨rfl, hb⟩; refine ⟨_, rfl, ?_⟩; have n0_ := am (Kd.R_below (by (with_reducible repeat (first | apply Kd.R_alloc | apply Kd.R_drewN | apply Kd.R_drew)); exact HO_7.out) hb); have n1_ := am (Kd.R_below (by (with_reducible repeat (first | apply Kd.R_alloc | apply Kd.R_drewN | apply Kd.R_drew)); exact HO_11.out) hb); have n2_ := am (Kd.R_below (by (with_reducible repeat (first | apply Kd.R_alloc | apply Kd.R_drewN | apply Kd.R_drew)); exact HO183.out) hb); have n3_ := am (kB (g := gb164) (o := .cells #[.int .i64 a2_0, .int .i64 a2_1] 24 (0, 0)) (by (with_reducible repeat (first | refine kN ?_ _ | refine kD ?_ | refine kA ?_ _)); exact BK164.out) hb); have n4_ := am (kB (g := gb170) (o := .cells #[.int .i64 ji15, .int .i64 (wrap64 ((rd x7_1 (ji15)) + 1))] 24 (0, 0)) (by (with_reducible repeat (first | refine kN ?_ _ | refine kD ?_ | refine kA ?_ _)); exact BK170.out) hb); have n5_ := am (bP (by repeat (first | (with_reducible first | exact HB.out | apply bA | apply bN | apply b1 | refine bS ?_ GE164.out | refine bS ?_ GE170.out) | exact HB.out)) hb); clear HO_7; clear HO_11; clear HO183; clear BK164; clear BK170; clear HB; have HO_7 := n0_; have HO_11 := n1_; have HO183 := n2_; have BK164 := n3_; have BK170 := n4_; have HB := n5_; clear n0_ n1_ n2_ n3_ n4_ n5_; (try clear hb); (try clear hb2); (try clear hk); (try clear hi); have hcz81_0 : w80.cell? ⟨gb164, 0, none⟩ = some (.int .i64 a2_0) := (kC BK164.out 0).trans rfl; have hcz81_1 : w80.cell? ⟨gb164, 1, none⟩ = some (.int .i64 a2_1) := (kC BK164.out 1).trans rfl; have hfz81_0 := blk_frozen BK164.out 0; have hfz81_1 := blk_frozen BK164.out 1) | (go_at_call 12; (with_reducible refine (dot_Has.calls _ _ t173 a2_0 a2_1 true _ ?side1 ?side2 A73.out).mono ?_); (case side1 => repeat (first | exact (Kd.R_reads' HO_11.out).2.2 | (with_reducible refine Kd.C_alloc ?_ _) | (with_reducible refine Kd.C_drewN ?_ _) | (with_reducible refine Kd.C_drew ?_))); (case side2 => exact (Kd.R_reads' HO_11.out).2.1); rintro e w82 ⟨rfl, hb⟩; have n0_ := am (Kd.R_below (by (with_reducible repeat (first | apply Kd.R_alloc | apply Kd.R_drewN | apply Kd.R_drew)); exact HO_7.out) hb); have n1_ := am (Kd.R_below (by (with_reducible repeat (first | apply Kd.R_alloc | apply Kd.R_drewN | apply Kd.R_drew)); exact HO_11.out) hb); have n2_ := am (Kd.R_below (by (with_reducible repeat (first | apply Kd.R_alloc | apply Kd.R_drewN | apply Kd.R_drew)); exact HO183.out) hb); have n3_ := am (kB (g := gb164) (o := .cells #[.int .i64 a2_0, .int .i64 a2_1] 24 (0, 0)) (by (with_reducible repeat (first | refine kN ?_ _ | refine kD ?_ | refine kA ?_ _)); exact BK164.out) hb); have n4_ := am (kB (g := gb170) (o := .cells #[.int .i64 ji15, .int .i64 (wrap64 ((rd x7_1 (ji15)) + 1))] 24 (0, 0)) (by (with_reducible repeat (first | refine kN ?_ _ | refine kD ?_ | refine kA ?_ _)); exact BK170.out) hb); have n5_ := am (bP (by repeat (first | (with_reducible first | exact HB.out | apply bA | apply bN | apply b1 | refine bS ?_ GE164.out | refine bS ?_ GE170.out) | exact HB.out)) hb); clear HO_7; clear HO_11; clear HO183; clear BK164; clear BK170; clear HB; have HO_7 := n0_; have HO_11 := n1_; have HO183 := n2_; have BK164 := n3_; have BK170 := n4_; have HB := n5_; clear n0_ n1_ n2_ n3_ n4_ n5_; (try clear hb); (try clear hb2); (try clear hk); (try clear hi)))
                    go_roundg kj35
                    case measure => have := HK1.out; have := HJ17.out; have := HJ35.out; omega
                    case rel => exact ⟨(t173), (wrap64 (x8_1 + 1)), (by first | rfl | (simp; done) | (simp [*]; done)), H', ⟨by have := HK1.out; have := HJ17.out; have := HJ35.out; omega⟩, ⟨by (with_reducible repeat (first | apply Kd.R_alloc | apply Kd.R_drewN | apply Kd.R_drew)); exact Kd.R_mono HO_11.out (fun _ hk => trivial)⟩, ⟨by (with_reducible repeat (first | refine kN ?_ _ | refine kD ?_ | refine kA ?_ _)); exact BK164.out⟩, ⟨by repeat (first | (with_reducible first | exact HB.out | apply bA | apply bN | apply b1 | refine bS ?_ GE164.out | refine bS ?_ GE170.out) | exact HB.out)⟩⟩
                   ·
                    replace c74 := Bool.eq_false_iff.mpr c74
                    subst c74; have H1 : (some false) = some r := by rw [if_neg (show ¬ (false = true) by decide)] at H; exact H
                    clear H; have H := H1; clear H1; exact absurd (H.trans (congrArg some HLAW.out)) (by simp)
                  ·
                   replace c72 := Bool.eq_false_iff.mpr c72
                   subst c72; have H1 : (L05_DotSteps.l0 kj35 ji6 l1 t173 (wrap64 (x8_1 + 1)) a2_0 a2_1) = some r := by rw [if_neg (show ¬ (false = true) by decide)] at H; exact H
                   clear H; have H := H1; clear H1; have H' := am H
                   clear H; have hnb83 := NB170_164.out; have hnc83 := NB164_170.out; have hcz84_0 : wc.cell? ⟨gb170, 0, none⟩ = some (.int .i64 ji15) := (kC BK170.out 0).trans rfl
                   have hcz84_1 : wc.cell? ⟨gb170, 1, none⟩ = some (.int .i64 (wrap64 ((rd x7_1 (ji15)) + 1))) := (kC BK170.out 1).trans rfl
                   have hfz84_0 := blk_frozen BK170.out 0
                   have hfz84_1 := blk_frozen BK170.out 1
                   obtain ⟨Ao85, co85, eo85⟩ := Kd.R_slice HO_11.out
                   subst eo85; go_wp2_with (first | ((with_reducible refine gate_callee (f := 14) rfl ?_); refine goesL_ (some 97) rfl rfl Try.func14 (by kernel_rfl) rfl #[.slice Ao85 t173.length co85, .agg #[.int .i64 ji15, .int .i64 (wrap64 ((rd x7_1 (ji15)) + 1))]] rfl (by (try simp only [List.map_toArray, List.map_cons, List.map_nil]); first | done | (simp only [hji15]; rfl) | rfl | (simp only [List.length_drop, List.length_take]; rfl)) ?_; (with_reducible refine (dot_Add.calls kj35 _ _ t173 ji15 (wrap64 ((rd x7_1 (ji15)) + 1)) t181 t184 _ ?side1 ?side2 A69.out).mono ?_); (case side1 => repeat (first | exact (Kd.R_reads' HO_11.out).2.2 | (with_reducible refine Kd.C_alloc ?_ _) | (with_reducible refine Kd.C_drewN ?_ _) | (with_reducible refine Kd.C_drew ?_))); (case side2 => exact (Kd.R_reads' HO_11.out).2.1); rintro e w86 ⟨v182, rfl, ho0, hb⟩; refine ⟨_, rfl, ?_⟩; have n0_ := am (Kd.R_elder' (by (with_reducible repeat (first | apply Kd.R_alloc | apply Kd.R_drewN | apply Kd.R_drew)); exact HO_7.out) (Kd.R_base ho0) hb); have n1_ := am (Kd.R_elder' (by (with_reducible repeat (first | apply Kd.R_alloc | apply Kd.R_drewN | apply Kd.R_drew)); exact HO_11.out) (Kd.R_base ho0) hb); have n2_ := am (Kd.R_lower (Kd.R_new' (Kd.R_new' ho0 (Kd.R_lt (by (with_reducible repeat (first | apply Kd.R_alloc | apply Kd.R_drewN | apply Kd.R_drew)); exact HO_7.out))) (Kd.R_lt (by (with_reducible repeat (first | apply Kd.R_alloc | apply Kd.R_drewN | apply Kd.R_drew)); exact HO_11.out))) (below_size (by repeat (first | (with_reducible first | exact HB.out | apply bA | apply bN | apply b1 | refine bS ?_ GE164.out | refine bS ?_ GE170.out) | exact HB.out)))); have n3_ := am (kB (g := gb164) (o := .cells #[.int .i64 a2_0, .int .i64 a2_1] 24 (0, 0)) (by (with_reducible repeat (first | refine kN ?_ _ | refine kD ?_ | refine kA ?_ _)); exact BK164.out) hb); have n4_ := am (kB (g := gb170) (o := .cells #[.int .i64 ji15, .int .i64 (wrap64 ((rd x7_1 (ji15)) + 1))] 24 (0, 0)) (by (with_reducible repeat (first | refine kN ?_ _ | refine kD ?_ | refine kA ?_ _)); exact BK170.out) hb); have n5_ := am (bP (by repeat (first | (with_reducible first | exact HB.out | apply bA | apply bN | apply b1 | refine bS ?_ GE164.out | refine bS ?_ GE170.out) | exact HB.out)) hb); clear HO_7; clear HO_11; clear BK164; clear BK170; clear HB; have HO_7 := n0_; have HO_11 := n1_; have HO183 := n2_; have BK164 := n3_; have BK170 := n4_; have HB := n5_; clear n0_ n1_ n2_ n3_ n4_ n5_; (try clear hb); (try clear hb2); (try clear hk); (try clear hi); (try clear ho0); have hcz87_0 : w86.cell? ⟨gb164, 0, none⟩ = some (.int .i64 a2_0) := (kC BK164.out 0).trans rfl; have hcz87_1 : w86.cell? ⟨gb164, 1, none⟩ = some (.int .i64 a2_1) := (kC BK164.out 1).trans rfl; have hfz87_0 := blk_frozen BK164.out 0; have hfz87_1 := blk_frozen BK164.out 1) | ((with_reducible refine gate_callee (f := 12) rfl ?_); refine goesL_ (some 104) rfl rfl Try.func12 (by kernel_rfl) rfl #[.slice (some ad169) x7_1.length co19, .agg #[.int .i64 a2_0, .int .i64 a2_1]] rfl (by (try simp only [List.map_toArray, List.map_cons, List.map_nil]); first | done | rfl | (simp only [List.length_drop, List.length_take]; rfl)) ?_; (with_reducible refine (dot_Has.calls _ _ x7_1 a2_0 a2_1 false _ ?side1 ?side2 A71.out).mono ?_); (case side1 => repeat (first | exact (Kd.R_reads' HO_7.out).2.2 | (with_reducible refine Kd.C_alloc ?_ _) | (with_reducible refine Kd.C_drewN ?_ _) | (with_reducible refine Kd.C_drew ?_))); (case side2 => exact (Kd.R_reads' HO_7.out).2.1); rintro e w88 ⟨rfl, hb⟩; refine ⟨_, rfl, ?_⟩; have n0_ := am (Kd.R_below (by (with_reducible repeat (first | apply Kd.R_alloc | apply Kd.R_drewN | apply Kd.R_drew)); exact HO_7.out) hb); have n1_ := am (Kd.R_below (by (with_reducible repeat (first | apply Kd.R_alloc | apply Kd.R_drewN | apply Kd.R_drew)); exact HO_11.out) hb); have n2_ := am (Kd.R_below (by (with_reducible repeat (first | apply Kd.R_alloc | apply Kd.R_drewN | apply Kd.R_drew)); exact HO183.out) hb); have n3_ := am (kB (g := gb164) (o := .cells #[.int .i64 a2_0, .int .i64 a2_1] 24 (0, 0)) (by (with_reducible repeat (first | refine kN ?_ _ | refine kD ?_ | refine kA ?_ _)); exact BK164.out) hb); have n4_ := am (kB (g := gb170) (o := .cells #[.int .i64 ji15, .int .i64 (wrap64 ((rd x7_1 (ji15)) + 1))] 24 (0, 0)) (by (with_reducible repeat (first | refine kN ?_ _ | refine kD ?_ | refine kA ?_ _)); exact BK170.out) hb); have n5_ := am (bP (by repeat (first | (with_reducible first | exact HB.out | apply bA | apply bN | apply b1 | refine bS ?_ GE164.out | refine bS ?_ GE170.out) | exact HB.out)) hb); clear HO_7; clear HO_11; clear HO183; clear BK164; clear BK170; clear HB; have HO_7 := n0_; have HO_11 := n1_; have HO183 := n2_; have BK164 := n3_; have BK170 := n4_; have HB := n5_; clear n0_ n1_ n2_ n3_ n4_ n5_; (try clear hb); (try clear hb2); (try clear hk); (try clear hi)))
                   go_roundg kj35
                   case measure => have := HK1.out; have := HJ17.out; have := HJ35.out; omega
                   case rel => exact ⟨(t173), (wrap64 (x8_1 + 1)), (by first | rfl | (simp; done) | (simp [*]; done)), H', ⟨by have := HK1.out; have := HJ17.out; have := HJ35.out; omega⟩, ⟨by (with_reducible repeat (first | apply Kd.R_alloc | apply Kd.R_drewN | apply Kd.R_drew)); exact Kd.R_mono HO_11.out (fun _ hk => trivial)⟩, ⟨by (with_reducible repeat (first | refine kN ?_ _ | refine kD ?_ | refine kA ?_ _)); exact BK164.out⟩, ⟨by repeat (first | (with_reducible first | exact HB.out | apply bA | apply bN | apply b1 | refine bS ?_ GE164.out | refine bS ?_ GE170.out) | exact HB.out)⟩⟩
                 ·
                  rw [if_neg c70] at H; have c70b0 : (t184 == 1) = false := beq_eq_false_iff_ne.mpr c70
                  have c70b1 : (t184 != 1) = true := bne_iff_ne.mpr c70
                  exact absurd (H.trans (congrArg some HLAW.out)) (by simp)
          ·
           rw [if_neg c17] at H; exact absurd H (by simp)
         ·
          rw [if_neg c16] at H; exact absurd H (by simp)
       ·
        rw [if_neg c13] at H; exact absurd H (by simp)
      ·
       rw [if_neg c12] at H; have c12b0 : decide (x8_1 < (l1.length : Int)) = false := decide_eq_false c12
       clear c12; have H' := am H
       clear H; go_wp2
       go_loopg [15, 16] k1 (fun kq v15 v16 w' => ∃ (x15_2 : Int) (x16_2 : Int), v15 = .int .i64 x15_2 ∧ v16 = .int .i64 x16_2 ∧ Aside0 (L05_DotSteps.l1 kq ji6 l1 x7_1 x15_2 x16_2 = some r) ∧ Aside0 (kq ≤ k1) ∧ Aside0 (Kd.R (Kd.int .i64) 3 w' w.heap.size (fun _ => True) u7 x7_1) ∧ Aside0 (w'.heap[gb164]? = some (.cells #[.int .i64 a2_0, .int .i64 a2_1] 24 (0, 0))) ∧ Aside0 (Below w.heap.size w w'))
       case atStart => exact ⟨(0), (0), (by first | rfl | (simp; done) | (simp [*]; done)), (by first | rfl | (simp; done) | (simp [*]; done)), H', ⟨Nat.le_refl _⟩, ⟨by (with_reducible repeat (first | apply Kd.R_alloc | apply Kd.R_drewN | apply Kd.R_drew)); exact HO_7.out⟩, ⟨by (with_reducible repeat (first | refine kN ?_ _ | refine kD ?_ | refine kA ?_ _)); exact BK164.out⟩, ⟨by repeat (first | (with_reducible first | exact HB.out | apply bA | apply bN | apply b1 | refine bS ?_ GE164.out) | exact HB.out)⟩⟩
       case round =>
        clear H'
        (try clear c1); (try clear p1); (try clear q1); (try clear hx1); (try clear c2); (try clear p2); (try clear c3); (try clear c4); (try clear c4b0); (try clear c4b1); (try clear c5); (try clear c6); (try clear p6); (try clear c7); (try clear c7b0); (try clear c7b1); (try clear c8); (try clear c8b0); (try clear c8b1); (try clear c12); (try clear c12b0); (try clear c13); (try clear c13b0); (try clear c14); (try clear c14b0); (try clear c14b1); (try clear c16); (try clear c16b0); (try clear p16); (try clear q16); (try clear hx16); (try clear c17); (try clear c17b0); (try clear c21); (try clear c24); (try clear c25); (try clear c29); (try clear c34); (try clear c37); (try clear c40); (try clear c40b0); (try clear c40b1); (try clear c41); (try clear c41b0); (try clear c41b1); (try clear c43); (try clear c45); (try clear c47); (try clear c49); (try clear c54); (try clear c60); (try clear c64); (try clear p64); (try clear c68); (try clear c70); (try clear c70b0); (try clear c70b1); (try clear c72); (try clear c74); (try clear c75); (try clear c83); (try clear hcz22_0); (try clear hcz22_1); (try clear hcz26_0); (try clear hcz26_1); (try clear hcz30_0); (try clear hcz30_1); (try clear hcz32_0); (try clear hcz32_1); (try clear hcz38_0); (try clear hcz38_1); (try clear hcz50_0); (try clear hcz50_1); (try clear hcz55_0); (try clear hcz55_1); (try clear hcz57_0); (try clear hcz57_1); (try clear hcz61_0); (try clear hcz61_1); (try clear hcz65_0); (try clear hcz65_1); (try clear hcz76_0); (try clear hcz76_1); (try clear hcz79_0); (try clear hcz79_1); (try clear hcz81_0); (try clear hcz81_1); (try clear hcz84_0); (try clear hcz84_1); (try clear hcz87_0); (try clear hcz87_1); (try clear hfz22_0); (try clear hfz22_1); (try clear hfz26_0); (try clear hfz26_1); (try clear hfz30_0); (try clear hfz30_1); (try clear hfz32_0); (try clear hfz32_1); (try clear hfz38_0); (try clear hfz38_1); (try clear hfz50_0); (try clear hfz50_1); (try clear hfz55_0); (try clear hfz55_1); (try clear hfz57_0); (try clear hfz57_1); (try clear hfz61_0); (try clear hfz61_1); (try clear hfz65_0); (try clear hfz65_1); (try clear hfz76_0); (try clear hfz76_1); (try clear hfz79_0); (try clear hfz79_1); (try clear hfz81_0); (try clear hfz81_1); (try clear hfz84_0); (try clear hfz84_1); (try clear hfz87_0); (try clear hfz87_1); (try clear hx168_0); (try clear hx169_0); (try clear p1); (try clear p16); (try clear p168); (try clear p169); (try clear p2); (try clear p6); (try clear p64); (try clear q1); (try clear q16); (try clear q168); (try clear q169); obtain ⟨x15_2, x16_2, rfl, rfl, HA, HK2, HO_7, BK164, HB⟩ := hrel
        cases gk with
        | zero => exact absurd HA.out (by simp [L05_DotSteps.l1])
        | succ k2 =>
         have H := HA.out; clear HA; simp only [L05_DotSteps.l1] at H
         by_cases c89 : x16_2 < ji6
         ·
          rw [if_pos c89] at H; have c89b0 : decide (x16_2 < ji6) = true := decide_eq_true c89
          clear c89; by_cases c90 : 0 ≤ x16_2
          ·
           rw [if_pos c90] at H; have c90b0 : decide (0 ≤ x16_2) = true := decide_eq_true c90
           clear c90; by_cases c91 : x16_2 < (x7_1.length : Int)
           ·
            rw [if_pos c91] at H; have c91b0 : decide (x16_2 < (x7_1.length : Int)) = true := decide_eq_true c91
            clear c91; have H' := am H
            clear H; obtain ⟨Ao92, co92, eo92⟩ := Kd.R_slice HO_7.out
            subst eo92; have p187 : 0 ≤ (x16_2 : Int) := of_decide_eq_true (by first | (with_reducible assumption) | assumption)
            have q187 : x16_2 < (x7_1.length : Int) := of_decide_eq_true (by first | (with_reducible assumption) | assumption)
            obtain ⟨ad187, e187, hx187_0⟩ := Kd.at_int (Kd.R_reads' HO_7.out).2.2 x16_2 p187 q187
            cases e187
            replace p187 := eq_true p187
            replace q187 := eq_true q187
            go_wp2
            go_roundg k2
            case measure => have := HK1.out; have := HK2.out; omega
            case rel => exact ⟨(wrap64 (x15_2 + (rd x7_1 x16_2))), (wrap64 (x16_2 + 1)), (by first | rfl | (simp; done) | (simp [*]; done)), (by first | rfl | (simp; done) | (simp [*]; done)), H', ⟨by have := HK1.out; have := HK2.out; omega⟩, ⟨by (with_reducible repeat (first | apply Kd.R_alloc | apply Kd.R_drewN | apply Kd.R_drew)); exact HO_7.out⟩, ⟨by (with_reducible repeat (first | refine kN ?_ _ | refine kD ?_ | refine kA ?_ _)); exact BK164.out⟩, ⟨by repeat (first | (with_reducible first | exact HB.out | apply bA | apply bN | apply b1 | refine bS ?_ GE164.out) | exact HB.out)⟩⟩
           ·
            rw [if_neg c91] at H; exact absurd H (by simp)
          ·
           rw [if_neg c90] at H; exact absurd H (by simp)
         ·
          rw [if_neg c89] at H; have c89b0 : decide (x16_2 < ji6) = false := decide_eq_false c89
          clear c89; by_cases c93 : x15_2 = (l1.length : Int)
          ·
           rw [if_pos c93] at H; have c93b0 : (x15_2 == (l1.length : Int)) = true := beq_iff_eq.mpr c93
           have c93b1 : (x15_2 != (l1.length : Int)) = false := bne_eq_false_iff_eq.mpr c93
           clear c93; replace H := Option.bind_eq_some_iff.mp H
           obtain ⟨t188, A940, H⟩ := H; replace H : (some t188) = some r := H
           have A94 := am A940; clear A940; obtain rfl := Option.some.inj H; go_wp2_with (first | (go_at_call 16; (with_reducible refine (L05_wakes.calls k2  t188 _ A94.out).mono ?_); rintro e w95 ⟨rfl, hb⟩; have n0_ := am (Kd.R_below (by (with_reducible repeat (first | apply Kd.R_alloc | apply Kd.R_drewN | apply Kd.R_drew)); exact HO_7.out) hb); have n1_ := am (kB (g := gb164) (o := .cells #[.int .i64 a2_0, .int .i64 a2_1] 24 (0, 0)) (by (with_reducible repeat (first | refine kN ?_ _ | refine kD ?_ | refine kA ?_ _)); exact BK164.out) hb); have n2_ := am (bP (by repeat (first | (with_reducible first | exact HB.out | apply bA | apply bN | apply b1 | refine bS ?_ GE164.out) | exact HB.out)) hb); clear HO_7; clear BK164; clear HB; have HO_7 := n0_; have BK164 := n1_; have HB := n2_; clear n0_ n1_ n2_; (try clear hb); (try clear hb2); (try clear hk); (try clear hi)))
           go_ret; exact ⟨by first | rfl | (simp [errW_none, errW_some] <;> rfl) | (simp only [← hji6]; first | rfl | (simp [errW_none, errW_some] <;> rfl)) | (simp [*, errW_none, errW_some] <;> rfl), by repeat (first | (with_reducible first | exact HB.out | apply bA | apply bN | apply b1 | refine bS ?_ GE164.out) | exact HB.out)⟩
          ·
           rw [if_neg c93] at H; have c93b0 : (x15_2 == (l1.length : Int)) = false := beq_eq_false_iff_ne.mpr c93
           have c93b1 : (x15_2 != (l1.length : Int)) = true := bne_iff_ne.mpr c93
           exact absurd (H.trans (congrArg some HLAW.out)) (by simp)
   ·
    rw [if_neg c8] at H; exact absurd H (by simp)
  ·
   rw [if_neg c7] at H; exact absurd H (by simp)

end Go.Proofs.Ytadibbhmhggmaaa.B
