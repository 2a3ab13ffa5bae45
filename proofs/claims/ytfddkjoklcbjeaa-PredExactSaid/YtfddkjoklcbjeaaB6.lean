/- Written by a program of this session, out of the translation: plain functions, and that the calls do what they say. Lean checks it. -/
import Derived.Test.YtfddkjoklcbjeaaB0
import Derived.Test.YtfddkjoklcbjeaaB1
import Derived.Test.YtfddkjoklcbjeaaB5
namespace Go.Proofs.Ytfddkjoklcbjeaa.B
open Go.RowKit Go.Proofs.YtfddkjoklcbjeaaW.PrintWords Go.Proofs.YtfddkjoklcbjeaaW.PrintLast Go.Proofs.YtfddkjoklcbjeaaW.PrintMore
attribute [local go_sem] max2_int min2_int max_two min_two max_three min_three max_four min_four Go.Proofs.Ytfddkjoklcbjeaa.Open.string_gtr2 Go.Proofs.Ytfddkjoklcbjeaa.Open.string_leq2 Go.Proofs.Ytfddkjoklcbjeaa.Open.string_geq2   -- for this text's walks alone
set_option linter.unusedVariables false
set_option linter.unusedSimpArgs false

/-! ### pred_Holds: function 13 -/
def pred_Holds.j0 : Nat → List (S23) → Bool → Int → Int → Int → Int → Int → ByteArray → Option (Bool)
 | 0, _, _, _, _, _, _, _, _ => none
 | k + 1, x1, x23, x168000, x168001, x168002, x168003, x168004, x168005 => if x23 = true then (some false) else (if 0 ≤ x168001 then (if x168001 < (x1.length : Int) then (if x168000 = 1 then ((value_Compare.f k ((rd_T23 x1 x168001).f0) ((rd_T23 x1 x168001).f1) ((rd_T23 x1 x168001).f2) x168003 x168004 x168005).bind fun t173 => (some (t173 == 0))) else (if x168000 = 2 then ((value_Compare.f k ((rd_T23 x1 x168001).f0) ((rd_T23 x1 x168001).f1) ((rd_T23 x1 x168001).f2) x168003 x168004 x168005).bind fun t174 => (some (decide (t174 < 0)))) else (if x168000 = 3 then (if 0 ≤ x168002 then (if x168002 < (x1.length : Int) then ((value_Compare.f k ((rd_T23 x1 x168001).f0) ((rd_T23 x1 x168001).f1) ((rd_T23 x1 x168001).f2) ((rd_T23 x1 x168002).f0) ((rd_T23 x1 x168002).f1) ((rd_T23 x1 x168002).f2)).bind fun t176 => (some (t176 == 0))) else (none)) else (none)) else (if x168000 = 4 then (if 0 ≤ x168002 then (if x168002 < (x1.length : Int) then ((value_Compare.f k ((rd_T23 x1 x168001).f0) ((rd_T23 x1 x168001).f1) ((rd_T23 x1 x168001).f2) ((rd_T23 x1 x168002).f0) ((rd_T23 x1 x168002).f1) ((rd_T23 x1 x168002).f2)).bind fun t178 => (some (decide (t178 < 0)))) else (none)) else (none)) else (if x168000 = 5 then (some (((rd_T23 x1 x168001).f0) == 1)) else (if x168000 = 6 then (some (((rd_T23 x1 x168001).f0) != 1)) else (some false))))))) else (none)) else (none))
def pred_Holds.f (k : Nat) (a0_0 : Int) (a0_1 : Int) (a0_2 : Int) (a0_3 : Int) (a0_4 : Int) (a0_5 : ByteArray) (l1 : List (S23)) : Option (Bool) := (pred_in.f a0_1 (l1.length : Int)).bind fun t168 => (if t168 = true then ((pred_other.f a0_0 a0_1 a0_2 a0_3 a0_4 a0_5).bind fun t169 => (if t169 = true then ((pred_in.f a0_2 (l1.length : Int)).bind fun t170 => (pred_Holds.j0 k l1 (!t170) a0_0 a0_1 a0_2 a0_3 a0_4 a0_5)) else (pred_Holds.j0 k l1 false a0_0 a0_1 a0_2 a0_3 a0_4 a0_5))) else (pred_Holds.j0 k l1 true a0_0 a0_1 a0_2 a0_3 a0_4 a0_5))
theorem pred_Holds.mono_l : ∀ k, (∀ y0 y1 y2 y3 y4 y5 y6 y7, LeO (pred_Holds.j0 k y0 y1 y2 y3 y4 y5 y6 y7) (pred_Holds.j0 (k + 1) y0 y1 y2 y3 y4 y5 y6 y7))
 | 0 => fun _ _ _ _ _ _ _ _ r h => by simp [pred_Holds.j0] at h
 | k + 1 => by
  have ih0 := pred_Holds.mono_l k
  ·
   intro y0 y1 y2 y3 y4 y5 y6 y7
   unfold pred_Holds.j0
   repeat' first
   | (with_reducible exact ih0 _ _ _ _ _ _ _ _)
   | (with_reducible exact value_Compare.mono _ _ _ _ _ _ _)
   | (with_reducible exact LeO.refl _)
   | (with_reducible exact LeO.none _)
   | (with_reducible refine LeO.ite ?_ ?_)
   | (with_reducible refine LeO.bind ?_ (fun _ => ?_))
   | exact ih0 _ _ _ _ _ _ _ _
   | exact value_Compare.mono _ _ _ _ _ _ _
   | exact LeO.none _
   | refine LeO.ite ?_ ?_
   | refine LeO.bind ?_ (fun _ => ?_)
theorem pred_Holds.mono : ∀ a0 a1 a2 a3 a4 a5 a6 k, LeO (pred_Holds.f k a0 a1 a2 a3 a4 a5 a6) (pred_Holds.f (k + 1) a0 a1 a2 a3 a4 a5 a6) := by
 intro a0 a1 a2 a3 a4 a5 a6 k
 have ih0 := pred_Holds.mono_l k
 unfold pred_Holds.f
 repeat' first
   | (with_reducible exact ih0 _ _ _ _ _ _ _ _)
   | (with_reducible exact value_Compare.mono _ _ _ _ _ _ _)
   | (with_reducible exact LeO.refl _)
   | (with_reducible exact LeO.none _)
   | (with_reducible refine LeO.ite ?_ ?_)
   | (with_reducible refine LeO.bind ?_ (fun _ => ?_))
   | exact ih0 _ _ _ _ _ _ _ _
   | exact value_Compare.mono _ _ _ _ _ _ _
   | exact LeO.none _
   | refine LeO.ite ?_ ?_
   | refine LeO.bind ?_ (fun _ => ?_)
def pred_Holds.T10 : Bool × List (List Nat × List Nat) := (true, [([], []), ([], []), ([], []), ([2], [2]), ([1, 3], [1, 3]), ([4], [4]), ([0, 5], [0, 5]), ([6], [6]), ([7, 6, 0, 1, 2, 3, 4, 5, 6, 7], [7])])
def pred_Holds.B10 : List Nat := [0, 0, 0, 4, 14, 30, 63, 127, 255]
theorem pred_Holds.tab10 : rtab .any (opsOf Try.f13 10) = pred_Holds.T10 := by kernel_rfl
theorem pred_Holds.bits10 : waitsOk pred_Holds.T10.2 pred_Holds.B10 = true := by kernel_rfl
def pred_Holds.T12 : Bool × List (List Nat × List Nat) := (true, [([], []), ([], []), ([], []), ([2], [2]), ([1, 3], [1, 3]), ([4], [4]), ([0, 5], [0, 5]), ([6], [6]), ([7, 6, 0, 1, 2, 3, 4, 5, 6, 7], [7])])
def pred_Holds.B12 : List Nat := [0, 0, 0, 4, 14, 30, 63, 127, 255]
theorem pred_Holds.tab12 : rtab .any (opsOf Try.f13 12) = pred_Holds.T12 := by kernel_rfl
theorem pred_Holds.bits12 : waitsOk pred_Holds.T12.2 pred_Holds.B12 = true := by kernel_rfl
set_option maxHeartbeats 8000000 in
set_option maxRecDepth 100000 in
theorem pred_Holds.calls (k : Nat) (a0_0 : Int) (a0_1 : Int) (a0_2 : Int) (a0_3 : Int) (a0_4 : Int) (a0_5 : ByteArray) (A1 : Option Addr) (c1 : Nat) (l1 : List (S23)) (r : Bool) (w : World) (hr1 : Kd.C k23 w A1 l1.length l1) (hc1 : l1.length ≤ c1) (h : pred_Holds.f k a0_0 a0_1 a0_2 a0_3 a0_4 a0_5 l1 = some r) :
  Calls Try.prog 13 #[.agg #[.int .i64 a0_0, .int .i64 a0_1, .int .i64 a0_2, .int .i64 a0_3, .int .i64 a0_4, .string a0_5], .slice A1 l1.length c1] w fun e w' => e = .returned (.bool r) ∧ Below w.heap.size w w' := by
 have hu25 := Try.underlying25
 have hu23 := Try.underlying23
 have HR1 := am hr1
 have HC1 := am hc1
 clear hr1 hc1
 have HB := am (Below.refl w.heap.size w)
 have H : ((pred_in.f a0_1 (l1.length : Int)).bind fun t168 => (if t168 = true then ((pred_other.f a0_0 a0_1 a0_2 a0_3 a0_4 a0_5).bind fun t169 => (if t169 = true then ((pred_in.f a0_2 (l1.length : Int)).bind fun t170 => (pred_Holds.j0 k l1 (!t170) a0_0 a0_1 a0_2 a0_3 a0_4 a0_5)) else (pred_Holds.j0 k l1 false a0_0 a0_1 a0_2 a0_3 a0_4 a0_5))) else (pred_Holds.j0 k l1 true a0_0 a0_1 a0_2 a0_3 a0_4 a0_5))) = some r := h
 clear h
 have HC3 := am H
 clear H
 go_enter Try.func13, Try.ntmps13
 go_upto_region 1 with (first | ((with_reducible refine gate_dst (N := 2) rfl ?_); (try (refine gate_guard (by rfl) ?_; dsimp only)); refine box_event ?hg (N := 2) ?hd (cs := #[.int .i64 a0_0, .int .i64 a0_1, .int .i64 a0_2, .int .i64 a0_3, .int .i64 a0_4, .string a0_5]) (t := 25) ?hr ?_; (case hd => rfl); (case hg => rfl); (case hr => first | (go_simp; done) | (go_simp; rfl)); intro gb167 hg w4 hbox hb; have n0_ := am (bP (by repeat (first | (with_reducible first | exact HB.out | apply bA | apply bN | apply b1) | exact HB.out)) hb); have n1_ := am (hbox); have n2_ := am ((by rw [hg]; exact (below_size (by repeat (first | (with_reducible first | exact HB.out | apply bA | apply bN | apply b1) | exact HB.out))) : w.heap.size ≤ gb167)); have n3_ := am ((by rw [hg]; exact (below_size (by repeat (first | (with_reducible first | exact HB.out | apply bA | apply bN | apply b1) | exact HB.out))) : w.heap.size ≤ gb167)); clear HB; have HB := n0_; have BK167 := n1_; have GW167 := n2_; have GE167 := n3_; clear n0_ n1_ n2_ n3_; clear hb hbox hg))
 (try simp only [Act.put, sA, sZ, sS])
 go_cut [23] (fun v23 wc => ∃ (kq : Nat) (x23_2 : Bool), v23 = .bool x23_2 ∧ Aside0 (pred_Holds.j0 kq l1 x23_2 a0_0 a0_1 a0_2 a0_3 a0_4 a0_5 = some r) ∧ Aside0 (kq ≤ k) ∧ Aside0 (wc.heap[gb167]? = some (.cells #[.int .i64 a0_0, .int .i64 a0_1, .int .i64 a0_2, .int .i64 a0_3, .int .i64 a0_4, .string a0_5] 25 (0, 0))) ∧ Aside0 (Below w.heap.size w wc))
 case first =>
  have H := HC3.out
  clear HC3
  replace H := Option.bind_eq_some_iff.mp H
  obtain ⟨t168, A50, H⟩ := H
  replace H : (if t168 = true then ((pred_other.f a0_0 a0_1 a0_2 a0_3 a0_4 a0_5).bind fun t169 => (if t169 = true then ((pred_in.f a0_2 (l1.length : Int)).bind fun t170 => (pred_Holds.j0 k l1 (!t170) a0_0 a0_1 a0_2 a0_3 a0_4 a0_5)) else (pred_Holds.j0 k l1 false a0_0 a0_1 a0_2 a0_3 a0_4 a0_5))) else (pred_Holds.j0 k l1 true a0_0 a0_1 a0_2 a0_3 a0_4 a0_5)) = some r := H
  have A5 := am A50
  clear A50
  by_cases c6 : t168 = true
  ·
   subst c6
   have H1 : ((pred_other.f a0_0 a0_1 a0_2 a0_3 a0_4 a0_5).bind fun t169 => (if t169 = true then ((pred_in.f a0_2 (l1.length : Int)).bind fun t170 => (pred_Holds.j0 k l1 (!t170) a0_0 a0_1 a0_2 a0_3 a0_4 a0_5)) else (pred_Holds.j0 k l1 false a0_0 a0_1 a0_2 a0_3 a0_4 a0_5))) = some r := by rw [if_pos rfl] at H; exact H
   clear H
   have H := H1
   clear H1
   replace H := Option.bind_eq_some_iff.mp H
   obtain ⟨t169, A70, H⟩ := H
   replace H : (if t169 = true then ((pred_in.f a0_2 (l1.length : Int)).bind fun t170 => (pred_Holds.j0 k l1 (!t170) a0_0 a0_1 a0_2 a0_3 a0_4 a0_5)) else (pred_Holds.j0 k l1 false a0_0 a0_1 a0_2 a0_3 a0_4 a0_5)) = some r := H
   have A7 := am A70
   clear A70
   by_cases c8 : t169 = true
   ·
    subst c8
    have H1 : ((pred_in.f a0_2 (l1.length : Int)).bind fun t170 => (pred_Holds.j0 k l1 (!t170) a0_0 a0_1 a0_2 a0_3 a0_4 a0_5)) = some r := by rw [if_pos rfl] at H; exact H
    clear H
    have H := H1
    clear H1
    replace H := Option.bind_eq_some_iff.mp H
    obtain ⟨t170, A90, H⟩ := H
    replace H : (pred_Holds.j0 k l1 (!t170) a0_0 a0_1 a0_2 a0_3 a0_4 a0_5) = some r := H
    have A9 := am A90
    clear A90
    have H' := am H
    clear H
    have hcz10_0 : w4.cell? ⟨gb167, 0, none⟩ = some (.int .i64 a0_0) := (kC BK167.out 0).trans rfl
    have hcz10_1 : w4.cell? ⟨gb167, 1, none⟩ = some (.int .i64 a0_1) := (kC BK167.out 1).trans rfl
    have hcz10_2 : w4.cell? ⟨gb167, 2, none⟩ = some (.int .i64 a0_2) := (kC BK167.out 2).trans rfl
    have hcz10_3 : w4.cell? ⟨gb167, 3, none⟩ = some (.int .i64 a0_3) := (kC BK167.out 3).trans rfl
    have hcz10_4 : w4.cell? ⟨gb167, 4, none⟩ = some (.int .i64 a0_4) := (kC BK167.out 4).trans rfl
    have hcz10_5 : w4.cell? ⟨gb167, 5, none⟩ = some (.string a0_5) := (kC BK167.out 5).trans rfl
    have hfz10_0 := blk_frozen BK167.out 0
    have hfz10_1 := blk_frozen BK167.out 1
    have hfz10_2 := blk_frozen BK167.out 2
    have hfz10_3 := blk_frozen BK167.out 3
    have hfz10_4 := blk_frozen BK167.out 4
    have hfz10_5 := blk_frozen BK167.out 5
    go_wp2_with (first | ((with_reducible refine gate_callee (f := 21) rfl ?_); refine goesL_ (some 10) rfl rfl Try.func21 (by kernel_rfl) rfl #[.int .i64 a0_1, .int .i64 (l1.length : Int)] rfl (by (try simp only [List.map_toArray, List.map_cons, List.map_nil]); first | done | rfl | (simp only [List.length_drop, List.length_take]; rfl)) ?_; (with_reducible refine (pred_in.calls a0_1 (l1.length : Int) true _ A5.out).mono ?_); rintro e w' ⟨rfl, ⟨nd, rfl⟩⟩; refine ⟨_, rfl, ?_⟩) | (go_at_call 22; (with_reducible refine (pred_other.calls a0_0 a0_1 a0_2 a0_3 a0_4 a0_5 true _ A7.out).mono ?_); rintro e w11 ⟨rfl, hb⟩; have n0_ := am (kB (g := gb167) (o := .cells #[.int .i64 a0_0, .int .i64 a0_1, .int .i64 a0_2, .int .i64 a0_3, .int .i64 a0_4, .string a0_5] 25 (0, 0)) (by (with_reducible repeat (first | refine kN ?_ _ | refine kD ?_ | refine kA ?_ _)); exact BK167.out) hb); have n1_ := am (bP (by repeat (first | (with_reducible first | exact HB.out | apply bA | apply bN | apply b1 | refine bS ?_ GE167.out) | exact HB.out)) hb); clear BK167; clear HB; have BK167 := n0_; have HB := n1_; clear n0_ n1_; (try clear hb); (try clear hb2); (try clear hk); (try clear hi); have hcz12_0 : w11.cell? ⟨gb167, 0, none⟩ = some (.int .i64 a0_0) := (kC BK167.out 0).trans rfl; have hcz12_1 : w11.cell? ⟨gb167, 1, none⟩ = some (.int .i64 a0_1) := (kC BK167.out 1).trans rfl; have hcz12_2 : w11.cell? ⟨gb167, 2, none⟩ = some (.int .i64 a0_2) := (kC BK167.out 2).trans rfl; have hcz12_3 : w11.cell? ⟨gb167, 3, none⟩ = some (.int .i64 a0_3) := (kC BK167.out 3).trans rfl; have hcz12_4 : w11.cell? ⟨gb167, 4, none⟩ = some (.int .i64 a0_4) := (kC BK167.out 4).trans rfl; have hcz12_5 : w11.cell? ⟨gb167, 5, none⟩ = some (.string a0_5) := (kC BK167.out 5).trans rfl; have hfz12_0 := blk_frozen BK167.out 0; have hfz12_1 := blk_frozen BK167.out 1; have hfz12_2 := blk_frozen BK167.out 2; have hfz12_3 := blk_frozen BK167.out 3; have hfz12_4 := blk_frozen BK167.out 4; have hfz12_5 := blk_frozen BK167.out 5) | (go_at_call 21; (with_reducible refine (pred_in.calls a0_2 (l1.length : Int) t170 _ A9.out).mono ?_); rintro e w' ⟨rfl, ⟨nd, rfl⟩⟩))
    go_meet
    case rel => exact ⟨_, (!t170), (by first | rfl | (simp; done) | (simp [*]; done)), H', ⟨by first | omega | exact Nat.le_refl _⟩, ⟨by (with_reducible repeat (first | refine kN ?_ _ | refine kD ?_ | refine kA ?_ _)); exact BK167.out⟩, ⟨by repeat (first | (with_reducible first | exact HB.out | apply bA | apply bN | apply b1 | refine bS ?_ GE167.out) | exact HB.out)⟩⟩
   ·
    replace c8 := Bool.eq_false_iff.mpr c8
    subst c8
    have H1 : (pred_Holds.j0 k l1 false a0_0 a0_1 a0_2 a0_3 a0_4 a0_5) = some r := by rw [if_neg (show ¬ (false = true) by decide)] at H; exact H
    clear H
    have H := H1
    clear H1
    have H' := am H
    clear H
    have hcz13_0 : w4.cell? ⟨gb167, 0, none⟩ = some (.int .i64 a0_0) := (kC BK167.out 0).trans rfl
    have hcz13_1 : w4.cell? ⟨gb167, 1, none⟩ = some (.int .i64 a0_1) := (kC BK167.out 1).trans rfl
    have hcz13_2 : w4.cell? ⟨gb167, 2, none⟩ = some (.int .i64 a0_2) := (kC BK167.out 2).trans rfl
    have hcz13_3 : w4.cell? ⟨gb167, 3, none⟩ = some (.int .i64 a0_3) := (kC BK167.out 3).trans rfl
    have hcz13_4 : w4.cell? ⟨gb167, 4, none⟩ = some (.int .i64 a0_4) := (kC BK167.out 4).trans rfl
    have hcz13_5 : w4.cell? ⟨gb167, 5, none⟩ = some (.string a0_5) := (kC BK167.out 5).trans rfl
    have hfz13_0 := blk_frozen BK167.out 0
    have hfz13_1 := blk_frozen BK167.out 1
    have hfz13_2 := blk_frozen BK167.out 2
    have hfz13_3 := blk_frozen BK167.out 3
    have hfz13_4 := blk_frozen BK167.out 4
    have hfz13_5 := blk_frozen BK167.out 5
    go_wp2_with (first | ((with_reducible refine gate_callee (f := 21) rfl ?_); refine goesL_ (some 10) rfl rfl Try.func21 (by kernel_rfl) rfl #[.int .i64 a0_1, .int .i64 (l1.length : Int)] rfl (by (try simp only [List.map_toArray, List.map_cons, List.map_nil]); first | done | rfl | (simp only [List.length_drop, List.length_take]; rfl)) ?_; (with_reducible refine (pred_in.calls a0_1 (l1.length : Int) true _ A5.out).mono ?_); rintro e w' ⟨rfl, ⟨nd, rfl⟩⟩; refine ⟨_, rfl, ?_⟩) | (go_at_call 22; (with_reducible refine (pred_other.calls a0_0 a0_1 a0_2 a0_3 a0_4 a0_5 false _ A7.out).mono ?_); rintro e w14 ⟨rfl, hb⟩; have n0_ := am (kB (g := gb167) (o := .cells #[.int .i64 a0_0, .int .i64 a0_1, .int .i64 a0_2, .int .i64 a0_3, .int .i64 a0_4, .string a0_5] 25 (0, 0)) (by (with_reducible repeat (first | refine kN ?_ _ | refine kD ?_ | refine kA ?_ _)); exact BK167.out) hb); have n1_ := am (bP (by repeat (first | (with_reducible first | exact HB.out | apply bA | apply bN | apply b1 | refine bS ?_ GE167.out) | exact HB.out)) hb); clear BK167; clear HB; have BK167 := n0_; have HB := n1_; clear n0_ n1_; (try clear hb); (try clear hb2); (try clear hk); (try clear hi)))
    go_meet
    case rel => exact ⟨_, (false), (by first | rfl | (simp; done) | (simp [*]; done)), H', ⟨by first | omega | exact Nat.le_refl _⟩, ⟨by (with_reducible repeat (first | refine kN ?_ _ | refine kD ?_ | refine kA ?_ _)); exact BK167.out⟩, ⟨by repeat (first | (with_reducible first | exact HB.out | apply bA | apply bN | apply b1 | refine bS ?_ GE167.out) | exact HB.out)⟩⟩
  ·
   replace c6 := Bool.eq_false_iff.mpr c6
   subst c6
   have H1 : (pred_Holds.j0 k l1 true a0_0 a0_1 a0_2 a0_3 a0_4 a0_5) = some r := by rw [if_neg (show ¬ (false = true) by decide)] at H; exact H
   clear H
   have H := H1
   clear H1
   have H' := am H
   clear H
   have hcz15_0 : w4.cell? ⟨gb167, 0, none⟩ = some (.int .i64 a0_0) := (kC BK167.out 0).trans rfl
   have hcz15_1 : w4.cell? ⟨gb167, 1, none⟩ = some (.int .i64 a0_1) := (kC BK167.out 1).trans rfl
   have hcz15_2 : w4.cell? ⟨gb167, 2, none⟩ = some (.int .i64 a0_2) := (kC BK167.out 2).trans rfl
   have hcz15_3 : w4.cell? ⟨gb167, 3, none⟩ = some (.int .i64 a0_3) := (kC BK167.out 3).trans rfl
   have hcz15_4 : w4.cell? ⟨gb167, 4, none⟩ = some (.int .i64 a0_4) := (kC BK167.out 4).trans rfl
   have hcz15_5 : w4.cell? ⟨gb167, 5, none⟩ = some (.string a0_5) := (kC BK167.out 5).trans rfl
   have hfz15_0 := blk_frozen BK167.out 0
   have hfz15_1 := blk_frozen BK167.out 1
   have hfz15_2 := blk_frozen BK167.out 2
   have hfz15_3 := blk_frozen BK167.out 3
   have hfz15_4 := blk_frozen BK167.out 4
   have hfz15_5 := blk_frozen BK167.out 5
   go_wp2_with (first | ((with_reducible refine gate_callee (f := 21) rfl ?_); refine goesL_ (some 10) rfl rfl Try.func21 (by kernel_rfl) rfl #[.int .i64 a0_1, .int .i64 (l1.length : Int)] rfl (by (try simp only [List.map_toArray, List.map_cons, List.map_nil]); first | done | rfl | (simp only [List.length_drop, List.length_take]; rfl)) ?_; (with_reducible refine (pred_in.calls a0_1 (l1.length : Int) false _ A5.out).mono ?_); rintro e w' ⟨rfl, ⟨nd, rfl⟩⟩; refine ⟨_, rfl, ?_⟩))
   go_meet
   case rel => exact ⟨_, (true), (by first | rfl | (simp; done) | (simp [*]; done)), H', ⟨by first | omega | exact Nat.le_refl _⟩, ⟨by (with_reducible repeat (first | refine kN ?_ _ | refine kD ?_ | refine kA ?_ _)); exact BK167.out⟩, ⟨by repeat (first | (with_reducible first | exact HB.out | apply bA | apply bN | apply b1 | refine bS ?_ GE167.out) | exact HB.out)⟩⟩
 case rest =>
  clear HC3
  try clear c1
  try clear c2
  try clear p2
  try clear c6
  try clear c8
  try clear c13
  try clear hcz10_0
  try clear hcz10_1
  try clear hcz10_2
  try clear hcz10_3
  try clear hcz10_4
  try clear hcz10_5
  try clear hcz12_0
  try clear hcz12_1
  try clear hcz12_2
  try clear hcz12_3
  try clear hcz12_4
  try clear hcz12_5
  try clear hcz13_0
  try clear hcz13_1
  try clear hcz13_2
  try clear hcz13_3
  try clear hcz13_4
  try clear hcz13_5
  try clear hcz15_0
  try clear hcz15_1
  try clear hcz15_2
  try clear hcz15_3
  try clear hcz15_4
  try clear hcz15_5
  try clear hfz10_0
  try clear hfz10_1
  try clear hfz10_2
  try clear hfz10_3
  try clear hfz10_4
  try clear hfz10_5
  try clear hfz12_0
  try clear hfz12_1
  try clear hfz12_2
  try clear hfz12_3
  try clear hfz12_4
  try clear hfz12_5
  try clear hfz13_0
  try clear hfz13_1
  try clear hfz13_2
  try clear hfz13_3
  try clear hfz13_4
  try clear hfz13_5
  try clear hfz15_0
  try clear hfz15_1
  try clear hfz15_2
  try clear hfz15_3
  try clear hfz15_4
  try clear hfz15_5
  obtain ⟨kq, x23_2, rfl, HA, HJ2, BK167, HB⟩ := hcut
  cases kq with
  | zero => exact absurd HA.out (by simp [pred_Holds.j0])
  | succ kj2 =>
   have H := HA.out
   clear HA
   simp only [pred_Holds.j0] at H
   by_cases c16 : x23_2 = true
   ·
    subst c16
    have H1 : (some false) = some r := by rw [if_pos rfl] at H; exact H
    clear H
    have H := H1
    clear H1
    obtain rfl := Option.some.inj H
    go_wp2
    go_ret
    exact ⟨by first | rfl | (simp [errW_none, errW_some] <;> rfl) | (simp [*, errW_none, errW_some] <;> rfl), by repeat (first | (with_reducible first | exact HB.out | apply bA | apply bN | apply b1 | refine bS ?_ GE167.out) | exact HB.out)⟩
   ·
    replace c16 := Bool.eq_false_iff.mpr c16
    subst c16
    have H1 : (if 0 ≤ a0_1 then (if a0_1 < (l1.length : Int) then (if a0_0 = 1 then ((value_Compare.f kj2 ((rd_T23 l1 a0_1).f0) ((rd_T23 l1 a0_1).f1) ((rd_T23 l1 a0_1).f2) a0_3 a0_4 a0_5).bind fun t173 => (some (t173 == 0))) else (if a0_0 = 2 then ((value_Compare.f kj2 ((rd_T23 l1 a0_1).f0) ((rd_T23 l1 a0_1).f1) ((rd_T23 l1 a0_1).f2) a0_3 a0_4 a0_5).bind fun t174 => (some (decide (t174 < 0)))) else (if a0_0 = 3 then (if 0 ≤ a0_2 then (if a0_2 < (l1.length : Int) then ((value_Compare.f kj2 ((rd_T23 l1 a0_1).f0) ((rd_T23 l1 a0_1).f1) ((rd_T23 l1 a0_1).f2) ((rd_T23 l1 a0_2).f0) ((rd_T23 l1 a0_2).f1) ((rd_T23 l1 a0_2).f2)).bind fun t176 => (some (t176 == 0))) else (none)) else (none)) else (if a0_0 = 4 then (if 0 ≤ a0_2 then (if a0_2 < (l1.length : Int) then ((value_Compare.f kj2 ((rd_T23 l1 a0_1).f0) ((rd_T23 l1 a0_1).f1) ((rd_T23 l1 a0_1).f2) ((rd_T23 l1 a0_2).f0) ((rd_T23 l1 a0_2).f1) ((rd_T23 l1 a0_2).f2)).bind fun t178 => (some (decide (t178 < 0)))) else (none)) else (none)) else (if a0_0 = 5 then (some (((rd_T23 l1 a0_1).f0) == 1)) else (if a0_0 = 6 then (some (((rd_T23 l1 a0_1).f0) != 1)) else (some false))))))) else (none)) else (none)) = some r := by rw [if_neg (show ¬ (false = true) by decide)] at H; exact H
    clear H
    have H := H1
    clear H1
    by_cases c17 : 0 ≤ a0_1
    ·
     rw [if_pos c17] at H
     have c17b0 : decide (0 ≤ a0_1) = true := decide_eq_true c17
     clear c17
     by_cases c18 : a0_1 < (l1.length : Int)
     ·
      rw [if_pos c18] at H
      have c18b0 : decide (a0_1 < (l1.length : Int)) = true := decide_eq_true c18
      clear c18
      by_cases c19 : a0_0 = 1
      ·
       rw [if_pos c19] at H
       have c19b0 : (a0_0 == 1) = true := beq_iff_eq.mpr c19
       have c19b1 : (a0_0 != 1) = false := bne_eq_false_iff_eq.mpr c19
       clear c19
       replace H := Option.bind_eq_some_iff.mp H
       obtain ⟨t173, A200, H⟩ := H
       replace H : (some (t173 == 0)) = some r := H
       have A20 := am A200
       clear A200
       obtain rfl := Option.some.inj H
       have hcz21_0 : wc.cell? ⟨gb167, 0, none⟩ = some (.int .i64 a0_0) := (kC BK167.out 0).trans rfl
       have hcz21_1 : wc.cell? ⟨gb167, 1, none⟩ = some (.int .i64 a0_1) := (kC BK167.out 1).trans rfl
       have hcz21_2 : wc.cell? ⟨gb167, 2, none⟩ = some (.int .i64 a0_2) := (kC BK167.out 2).trans rfl
       have hcz21_3 : wc.cell? ⟨gb167, 3, none⟩ = some (.int .i64 a0_3) := (kC BK167.out 3).trans rfl
       have hcz21_4 : wc.cell? ⟨gb167, 4, none⟩ = some (.int .i64 a0_4) := (kC BK167.out 4).trans rfl
       have hcz21_5 : wc.cell? ⟨gb167, 5, none⟩ = some (.string a0_5) := (kC BK167.out 5).trans rfl
       have hfz21_0 := blk_frozen BK167.out 0
       have hfz21_1 := blk_frozen BK167.out 1
       have hfz21_2 := blk_frozen BK167.out 2
       have hfz21_3 := blk_frozen BK167.out 3
       have hfz21_4 := blk_frozen BK167.out 4
       have hfz21_5 := blk_frozen BK167.out 5
       have p171 : 0 ≤ (a0_1 : Int) := of_decide_eq_true (by first | (with_reducible assumption) | assumption)
       have q171 : a0_1 < (l1.length : Int) := of_decide_eq_true (by first | (with_reducible assumption) | assumption)
       obtain ⟨ad171, e171, hx171_0, hx171_1, hx171_2⟩ := at_T23 HR1.out a0_1 p171 q171
       cases e171
       replace hx171_0 := (HB.out.cell (World.block_lt_of_cell? w _ hx171_0)).trans hx171_0
       replace hx171_1 := (HB.out.cell (World.block_lt_of_cell? w _ hx171_1)).trans hx171_1
       replace hx171_2 := (HB.out.cell (World.block_lt_of_cell? w _ hx171_2)).trans hx171_2
       replace p171 := eq_true p171
       replace q171 := eq_true q171
       go_wp2_with (first | ((with_reducible refine gate_dst (N := 5) rfl ?_); (try (refine gate_guard (by rfl) ?_; dsimp only)); refine box_event ?hg (N := 5) ?hd (cs := #[.int .i64 0, .int .i64 0, .string (⟨#[]⟩ : ByteArray)]) (t := 23) ?hr ?_; (case hd => rfl); (case hg => rfl); (case hr => first | (go_simp; done) | (go_simp; rfl)); intro gb172 hg w22 hbox hb; have n0_ := am (kB (g := gb167) (o := .cells #[.int .i64 a0_0, .int .i64 a0_1, .int .i64 a0_2, .int .i64 a0_3, .int .i64 a0_4, .string a0_5] 25 (0, 0)) (by (with_reducible repeat (first | refine kN ?_ _ | refine kD ?_ | refine kA ?_ _)); exact BK167.out) hb); have n1_ := am (bP (by repeat (first | (with_reducible first | exact HB.out | apply bA | apply bN | apply b1 | refine bS ?_ GE167.out) | exact HB.out)) hb); have n2_ := am (hbox); have n3_ := am ((by rw [hg]; exact (below_size (by repeat (first | (with_reducible first | exact HB.out | apply bA | apply bN | apply b1 | refine bS ?_ GE167.out) | exact HB.out))) : w.heap.size ≤ gb172)); have n4_ := am ((by rw [hg]; exact (below_size (by repeat (first | (with_reducible first | exact HB.out | apply bA | apply bN | apply b1 | refine bS ?_ GE167.out) | exact HB.out))) : w.heap.size ≤ gb172)); have n5_ := am ((by rw [hg]; exact Nat.ne_of_lt (blk_lt (g := gb167) (o := .cells #[.int .i64 a0_0, .int .i64 a0_1, .int .i64 a0_2, .int .i64 a0_3, .int .i64 a0_4, .string a0_5] 25 (0, 0)) (by (with_reducible repeat (first | refine kN ?_ _ | refine kD ?_ | refine kA ?_ _)); exact BK167.out)) : gb167 ≠ gb172)); have n6_ := am ((by rw [hg]; exact Nat.ne_of_gt (blk_lt (g := gb167) (o := .cells #[.int .i64 a0_0, .int .i64 a0_1, .int .i64 a0_2, .int .i64 a0_3, .int .i64 a0_4, .string a0_5] 25 (0, 0)) (by (with_reducible repeat (first | refine kN ?_ _ | refine kD ?_ | refine kA ?_ _)); exact BK167.out)) : gb172 ≠ gb167)); clear BK167; clear HB; have BK167 := n0_; have HB := n1_; have BK172 := n2_; have GW172 := n3_; have GE172 := n4_; have NB167_172 := n5_; have NB172_167 := n6_; clear n0_ n1_ n2_ n3_ n4_ n5_ n6_; clear hb hbox hg; have hnb23 := NB172_167.out; have hnc23 := NB167_172.out; have hcz24_0 : w22.cell? ⟨gb172, 0, none⟩ = some (.int .i64 0) := (kC BK172.out 0).trans rfl; have hcz24_1 : w22.cell? ⟨gb172, 1, none⟩ = some (.int .i64 0) := (kC BK172.out 1).trans rfl; have hcz24_2 : w22.cell? ⟨gb172, 2, none⟩ = some (.string (⟨#[]⟩ : ByteArray)) := (kC BK172.out 2).trans rfl; have hfz24_0 := blk_frozen BK172.out 0; have hfz24_1 := blk_frozen BK172.out 1; have hfz24_2 := blk_frozen BK172.out 2; have hcz25_0 : w22.cell? ⟨gb167, 0, none⟩ = some (.int .i64 a0_0) := (kC BK167.out 0).trans rfl; have hcz25_1 : w22.cell? ⟨gb167, 1, none⟩ = some (.int .i64 a0_1) := (kC BK167.out 1).trans rfl; have hcz25_2 : w22.cell? ⟨gb167, 2, none⟩ = some (.int .i64 a0_2) := (kC BK167.out 2).trans rfl; have hcz25_3 : w22.cell? ⟨gb167, 3, none⟩ = some (.int .i64 a0_3) := (kC BK167.out 3).trans rfl; have hcz25_4 : w22.cell? ⟨gb167, 4, none⟩ = some (.int .i64 a0_4) := (kC BK167.out 4).trans rfl; have hcz25_5 : w22.cell? ⟨gb167, 5, none⟩ = some (.string a0_5) := (kC BK167.out 5).trans rfl; have hfz25_0 := blk_frozen BK167.out 0; have hfz25_1 := blk_frozen BK167.out 1; have hfz25_2 := blk_frozen BK167.out 2; have hfz25_3 := blk_frozen BK167.out 3; have hfz25_4 := blk_frozen BK167.out 4; have hfz25_5 := blk_frozen BK167.out 5) | ((with_reducible refine gate_callee (f := 28) rfl ?_); refine goesL_ (some 36) rfl rfl Try.func28 (by kernel_rfl) rfl #[.agg #[.int .i64 ((rd_T23 l1 a0_1).f0), .int .i64 ((rd_T23 l1 a0_1).f1), .string ((rd_T23 l1 a0_1).f2)], .agg #[.int .i64 a0_3, .int .i64 a0_4, .string a0_5]] rfl (by (try simp only [List.map_toArray, List.map_cons, List.map_nil]); first | done | rfl | (simp only [List.length_drop, List.length_take]; rfl)) ?_; (with_reducible refine (value_Compare.calls kj2 ((rd_T23 l1 a0_1).f0) ((rd_T23 l1 a0_1).f1) ((rd_T23 l1 a0_1).f2) a0_3 a0_4 a0_5 t173 _ A20.out).mono ?_); rintro e w26 ⟨rfl, hb⟩; refine ⟨_, rfl, ?_⟩; have n0_ := am (kB (g := gb167) (o := .cells #[.int .i64 a0_0, .int .i64 a0_1, .int .i64 a0_2, .int .i64 a0_3, .int .i64 a0_4, .string a0_5] 25 (0, 0)) (by (with_reducible repeat (first | refine kN ?_ _ | refine kD ?_ | refine kA ?_ _ | refine blk_far ?_ NB167_172.out _)); exact BK167.out) hb); have n1_ := am (kB (g := gb172) (o := .cells #[.int .i64 ((rd_T23 l1 a0_1).f0), .int .i64 ((rd_T23 l1 a0_1).f1), .string ((rd_T23 l1 a0_1).f2)] 23 (0, 0)) (by (with_reducible repeat (first | refine kN ?_ _ | refine kD ?_ | refine kA ?_ _)); refine blk_put (cs := #[.int .i64 ((rd_T23 l1 a0_1).f0), .int .i64 ((rd_T23 l1 a0_1).f1), .string (⟨#[]⟩ : ByteArray)]) ?_ 2 _ rfl; (with_reducible repeat (first | refine kN ?_ _ | refine kD ?_ | refine kA ?_ _)); refine blk_put (cs := #[.int .i64 ((rd_T23 l1 a0_1).f0), .int .i64 0, .string (⟨#[]⟩ : ByteArray)]) ?_ 1 _ rfl; (with_reducible repeat (first | refine kN ?_ _ | refine kD ?_ | refine kA ?_ _)); refine blk_put (cs := #[.int .i64 0, .int .i64 0, .string (⟨#[]⟩ : ByteArray)]) ?_ 0 _ rfl; (with_reducible repeat (first | refine kN ?_ _ | refine kD ?_ | refine kA ?_ _)); exact BK172.out) hb); have n2_ := am (bP (by repeat (first | (with_reducible first | exact HB.out | apply bA | apply bN | apply b1 | refine bS ?_ GE167.out | refine bS ?_ GE172.out) | exact HB.out)) hb); clear BK167; clear BK172; clear HB; have BK167 := n0_; have BK172 := n1_; have HB := n2_; clear n0_ n1_ n2_; (try clear hb); (try clear hb2); (try clear hk); (try clear hi)))
       go_ret
       exact ⟨by first | rfl | (simp [errW_none, errW_some] <;> rfl) | (simp [*, errW_none, errW_some] <;> rfl), by repeat (first | (with_reducible first | exact HB.out | apply bA | apply bN | apply b1 | refine bS ?_ GE167.out | refine bS ?_ GE172.out) | exact HB.out)⟩
      ·
       rw [if_neg c19] at H
       have c19b0 : (a0_0 == 1) = false := beq_eq_false_iff_ne.mpr c19
       have c19b1 : (a0_0 != 1) = true := bne_iff_ne.mpr c19
       by_cases c27 : a0_0 = 2
       ·
        rw [if_pos c27] at H
        have c27b0 : (a0_0 == 2) = true := beq_iff_eq.mpr c27
        have c27b1 : (a0_0 != 2) = false := bne_eq_false_iff_eq.mpr c27
        clear c27
        replace H := Option.bind_eq_some_iff.mp H
        obtain ⟨t174, A280, H⟩ := H
        replace H : (some (decide (t174 < 0))) = some r := H
        have A28 := am A280
        clear A280
        obtain rfl := Option.some.inj H
        have hcz29_0 : wc.cell? ⟨gb167, 0, none⟩ = some (.int .i64 a0_0) := (kC BK167.out 0).trans rfl
        have hcz29_1 : wc.cell? ⟨gb167, 1, none⟩ = some (.int .i64 a0_1) := (kC BK167.out 1).trans rfl
        have hcz29_2 : wc.cell? ⟨gb167, 2, none⟩ = some (.int .i64 a0_2) := (kC BK167.out 2).trans rfl
        have hcz29_3 : wc.cell? ⟨gb167, 3, none⟩ = some (.int .i64 a0_3) := (kC BK167.out 3).trans rfl
        have hcz29_4 : wc.cell? ⟨gb167, 4, none⟩ = some (.int .i64 a0_4) := (kC BK167.out 4).trans rfl
        have hcz29_5 : wc.cell? ⟨gb167, 5, none⟩ = some (.string a0_5) := (kC BK167.out 5).trans rfl
        have hfz29_0 := blk_frozen BK167.out 0
        have hfz29_1 := blk_frozen BK167.out 1
        have hfz29_2 := blk_frozen BK167.out 2
        have hfz29_3 := blk_frozen BK167.out 3
        have hfz29_4 := blk_frozen BK167.out 4
        have hfz29_5 := blk_frozen BK167.out 5
        have p171 : 0 ≤ (a0_1 : Int) := of_decide_eq_true (by first | (with_reducible assumption) | assumption)
        have q171 : a0_1 < (l1.length : Int) := of_decide_eq_true (by first | (with_reducible assumption) | assumption)
        obtain ⟨ad171, e171, hx171_0, hx171_1, hx171_2⟩ := at_T23 HR1.out a0_1 p171 q171
        cases e171
        replace hx171_0 := (HB.out.cell (World.block_lt_of_cell? w _ hx171_0)).trans hx171_0
        replace hx171_1 := (HB.out.cell (World.block_lt_of_cell? w _ hx171_1)).trans hx171_1
        replace hx171_2 := (HB.out.cell (World.block_lt_of_cell? w _ hx171_2)).trans hx171_2
        replace p171 := eq_true p171
        replace q171 := eq_true q171
        go_wp2_with (first | ((with_reducible refine gate_dst (N := 5) rfl ?_); (try (refine gate_guard (by rfl) ?_; dsimp only)); refine box_event ?hg (N := 5) ?hd (cs := #[.int .i64 0, .int .i64 0, .string (⟨#[]⟩ : ByteArray)]) (t := 23) ?hr ?_; (case hd => rfl); (case hg => rfl); (case hr => first | (go_simp; done) | (go_simp; rfl)); intro gb172 hg w30 hbox hb; have n0_ := am (kB (g := gb167) (o := .cells #[.int .i64 a0_0, .int .i64 a0_1, .int .i64 a0_2, .int .i64 a0_3, .int .i64 a0_4, .string a0_5] 25 (0, 0)) (by (with_reducible repeat (first | refine kN ?_ _ | refine kD ?_ | refine kA ?_ _)); exact BK167.out) hb); have n1_ := am (bP (by repeat (first | (with_reducible first | exact HB.out | apply bA | apply bN | apply b1 | refine bS ?_ GE167.out) | exact HB.out)) hb); have n2_ := am (hbox); have n3_ := am ((by rw [hg]; exact (below_size (by repeat (first | (with_reducible first | exact HB.out | apply bA | apply bN | apply b1 | refine bS ?_ GE167.out) | exact HB.out))) : w.heap.size ≤ gb172)); have n4_ := am ((by rw [hg]; exact (below_size (by repeat (first | (with_reducible first | exact HB.out | apply bA | apply bN | apply b1 | refine bS ?_ GE167.out) | exact HB.out))) : w.heap.size ≤ gb172)); have n5_ := am ((by rw [hg]; exact Nat.ne_of_lt (blk_lt (g := gb167) (o := .cells #[.int .i64 a0_0, .int .i64 a0_1, .int .i64 a0_2, .int .i64 a0_3, .int .i64 a0_4, .string a0_5] 25 (0, 0)) (by (with_reducible repeat (first | refine kN ?_ _ | refine kD ?_ | refine kA ?_ _)); exact BK167.out)) : gb167 ≠ gb172)); have n6_ := am ((by rw [hg]; exact Nat.ne_of_gt (blk_lt (g := gb167) (o := .cells #[.int .i64 a0_0, .int .i64 a0_1, .int .i64 a0_2, .int .i64 a0_3, .int .i64 a0_4, .string a0_5] 25 (0, 0)) (by (with_reducible repeat (first | refine kN ?_ _ | refine kD ?_ | refine kA ?_ _)); exact BK167.out)) : gb172 ≠ gb167)); clear BK167; clear HB; have BK167 := n0_; have HB := n1_; have BK172 := n2_; have GW172 := n3_; have GE172 := n4_; have NB167_172 := n5_; have NB172_167 := n6_; clear n0_ n1_ n2_ n3_ n4_ n5_ n6_; clear hb hbox hg; have hnb31 := NB172_167.out; have hnc31 := NB167_172.out; have hcz32_0 : w30.cell? ⟨gb172, 0, none⟩ = some (.int .i64 0) := (kC BK172.out 0).trans rfl; have hcz32_1 : w30.cell? ⟨gb172, 1, none⟩ = some (.int .i64 0) := (kC BK172.out 1).trans rfl; have hcz32_2 : w30.cell? ⟨gb172, 2, none⟩ = some (.string (⟨#[]⟩ : ByteArray)) := (kC BK172.out 2).trans rfl; have hfz32_0 := blk_frozen BK172.out 0; have hfz32_1 := blk_frozen BK172.out 1; have hfz32_2 := blk_frozen BK172.out 2; have hcz33_0 : w30.cell? ⟨gb167, 0, none⟩ = some (.int .i64 a0_0) := (kC BK167.out 0).trans rfl; have hcz33_1 : w30.cell? ⟨gb167, 1, none⟩ = some (.int .i64 a0_1) := (kC BK167.out 1).trans rfl; have hcz33_2 : w30.cell? ⟨gb167, 2, none⟩ = some (.int .i64 a0_2) := (kC BK167.out 2).trans rfl; have hcz33_3 : w30.cell? ⟨gb167, 3, none⟩ = some (.int .i64 a0_3) := (kC BK167.out 3).trans rfl; have hcz33_4 : w30.cell? ⟨gb167, 4, none⟩ = some (.int .i64 a0_4) := (kC BK167.out 4).trans rfl; have hcz33_5 : w30.cell? ⟨gb167, 5, none⟩ = some (.string a0_5) := (kC BK167.out 5).trans rfl; have hfz33_0 := blk_frozen BK167.out 0; have hfz33_1 := blk_frozen BK167.out 1; have hfz33_2 := blk_frozen BK167.out 2; have hfz33_3 := blk_frozen BK167.out 3; have hfz33_4 := blk_frozen BK167.out 4; have hfz33_5 := blk_frozen BK167.out 5) | ((with_reducible refine gate_callee (f := 28) rfl ?_); refine goesL_ (some 43) rfl rfl Try.func28 (by kernel_rfl) rfl #[.agg #[.int .i64 ((rd_T23 l1 a0_1).f0), .int .i64 ((rd_T23 l1 a0_1).f1), .string ((rd_T23 l1 a0_1).f2)], .agg #[.int .i64 a0_3, .int .i64 a0_4, .string a0_5]] rfl (by (try simp only [List.map_toArray, List.map_cons, List.map_nil]); first | done | rfl | (simp only [List.length_drop, List.length_take]; rfl)) ?_; (with_reducible refine (value_Compare.calls kj2 ((rd_T23 l1 a0_1).f0) ((rd_T23 l1 a0_1).f1) ((rd_T23 l1 a0_1).f2) a0_3 a0_4 a0_5 t174 _ A28.out).mono ?_); rintro e w34 ⟨rfl, hb⟩; refine ⟨_, rfl, ?_⟩; have n0_ := am (kB (g := gb167) (o := .cells #[.int .i64 a0_0, .int .i64 a0_1, .int .i64 a0_2, .int .i64 a0_3, .int .i64 a0_4, .string a0_5] 25 (0, 0)) (by (with_reducible repeat (first | refine kN ?_ _ | refine kD ?_ | refine kA ?_ _ | refine blk_far ?_ NB167_172.out _)); exact BK167.out) hb); have n1_ := am (kB (g := gb172) (o := .cells #[.int .i64 ((rd_T23 l1 a0_1).f0), .int .i64 ((rd_T23 l1 a0_1).f1), .string ((rd_T23 l1 a0_1).f2)] 23 (0, 0)) (by (with_reducible repeat (first | refine kN ?_ _ | refine kD ?_ | refine kA ?_ _)); refine blk_put (cs := #[.int .i64 ((rd_T23 l1 a0_1).f0), .int .i64 ((rd_T23 l1 a0_1).f1), .string (⟨#[]⟩ : ByteArray)]) ?_ 2 _ rfl; (with_reducible repeat (first | refine kN ?_ _ | refine kD ?_ | refine kA ?_ _)); refine blk_put (cs := #[.int .i64 ((rd_T23 l1 a0_1).f0), .int .i64 0, .string (⟨#[]⟩ : ByteArray)]) ?_ 1 _ rfl; (with_reducible repeat (first | refine kN ?_ _ | refine kD ?_ | refine kA ?_ _)); refine blk_put (cs := #[.int .i64 0, .int .i64 0, .string (⟨#[]⟩ : ByteArray)]) ?_ 0 _ rfl; (with_reducible repeat (first | refine kN ?_ _ | refine kD ?_ | refine kA ?_ _)); exact BK172.out) hb); have n2_ := am (bP (by repeat (first | (with_reducible first | exact HB.out | apply bA | apply bN | apply b1 | refine bS ?_ GE167.out | refine bS ?_ GE172.out) | exact HB.out)) hb); clear BK167; clear BK172; clear HB; have BK167 := n0_; have BK172 := n1_; have HB := n2_; clear n0_ n1_ n2_; (try clear hb); (try clear hb2); (try clear hk); (try clear hi)))
        go_ret
        exact ⟨by first | rfl | (simp [errW_none, errW_some] <;> rfl) | (simp [*, errW_none, errW_some] <;> rfl), by repeat (first | (with_reducible first | exact HB.out | apply bA | apply bN | apply b1 | refine bS ?_ GE167.out | refine bS ?_ GE172.out) | exact HB.out)⟩
       ·
        rw [if_neg c27] at H
        have c27b0 : (a0_0 == 2) = false := beq_eq_false_iff_ne.mpr c27
        have c27b1 : (a0_0 != 2) = true := bne_iff_ne.mpr c27
        by_cases c35 : a0_0 = 3
        ·
         rw [if_pos c35] at H
         have c35b0 : (a0_0 == 3) = true := beq_iff_eq.mpr c35
         have c35b1 : (a0_0 != 3) = false := bne_eq_false_iff_eq.mpr c35
         clear c35
         by_cases c36 : 0 ≤ a0_2
         ·
          rw [if_pos c36] at H
          have c36b0 : decide (0 ≤ a0_2) = true := decide_eq_true c36
          clear c36
          by_cases c37 : a0_2 < (l1.length : Int)
          ·
           rw [if_pos c37] at H
           have c37b0 : decide (a0_2 < (l1.length : Int)) = true := decide_eq_true c37
           clear c37
           replace H := Option.bind_eq_some_iff.mp H
           obtain ⟨t176, A380, H⟩ := H
           replace H : (some (t176 == 0)) = some r := H
           have A38 := am A380
           clear A380
           obtain rfl := Option.some.inj H
           have hcz39_0 : wc.cell? ⟨gb167, 0, none⟩ = some (.int .i64 a0_0) := (kC BK167.out 0).trans rfl
           have hcz39_1 : wc.cell? ⟨gb167, 1, none⟩ = some (.int .i64 a0_1) := (kC BK167.out 1).trans rfl
           have hcz39_2 : wc.cell? ⟨gb167, 2, none⟩ = some (.int .i64 a0_2) := (kC BK167.out 2).trans rfl
           have hcz39_3 : wc.cell? ⟨gb167, 3, none⟩ = some (.int .i64 a0_3) := (kC BK167.out 3).trans rfl
           have hcz39_4 : wc.cell? ⟨gb167, 4, none⟩ = some (.int .i64 a0_4) := (kC BK167.out 4).trans rfl
           have hcz39_5 : wc.cell? ⟨gb167, 5, none⟩ = some (.string a0_5) := (kC BK167.out 5).trans rfl
           have hfz39_0 := blk_frozen BK167.out 0
           have hfz39_1 := blk_frozen BK167.out 1
           have hfz39_2 := blk_frozen BK167.out 2
           have hfz39_3 := blk_frozen BK167.out 3
           have hfz39_4 := blk_frozen BK167.out 4
           have hfz39_5 := blk_frozen BK167.out 5
           have p171 : 0 ≤ (a0_1 : Int) := of_decide_eq_true (by first | (with_reducible assumption) | assumption)
           have q171 : a0_1 < (l1.length : Int) := of_decide_eq_true (by first | (with_reducible assumption) | assumption)
           obtain ⟨ad171, e171, hx171_0, hx171_1, hx171_2⟩ := at_T23 HR1.out a0_1 p171 q171
           cases e171
           replace hx171_0 := (HB.out.cell (World.block_lt_of_cell? w _ hx171_0)).trans hx171_0
           replace hx171_1 := (HB.out.cell (World.block_lt_of_cell? w _ hx171_1)).trans hx171_1
           replace hx171_2 := (HB.out.cell (World.block_lt_of_cell? w _ hx171_2)).trans hx171_2
           replace p171 := eq_true p171
           replace q171 := eq_true q171
           try go_wp2_with (first | ((with_reducible refine gate_dst (N := 5) rfl ?_); (try (refine gate_guard (by rfl) ?_; dsimp only)); refine box_event ?hg (N := 5) ?hd (cs := #[.int .i64 0, .int .i64 0, .string (⟨#[]⟩ : ByteArray)]) (t := 23) ?hr ?_; (case hd => rfl); (case hg => rfl); (case hr => first | (go_simp; done) | (go_simp; rfl)); intro gb172 hg w40 hbox hb; have n0_ := am (kB (g := gb167) (o := .cells #[.int .i64 a0_0, .int .i64 a0_1, .int .i64 a0_2, .int .i64 a0_3, .int .i64 a0_4, .string a0_5] 25 (0, 0)) (by (with_reducible repeat (first | refine kN ?_ _ | refine kD ?_ | refine kA ?_ _)); exact BK167.out) hb); have n1_ := am (bP (by repeat (first | (with_reducible first | exact HB.out | apply bA | apply bN | apply b1 | refine bS ?_ GE167.out) | exact HB.out)) hb); have n2_ := am (hbox); have n3_ := am ((by rw [hg]; exact (below_size (by repeat (first | (with_reducible first | exact HB.out | apply bA | apply bN | apply b1 | refine bS ?_ GE167.out) | exact HB.out))) : w.heap.size ≤ gb172)); have n4_ := am ((by rw [hg]; exact (below_size (by repeat (first | (with_reducible first | exact HB.out | apply bA | apply bN | apply b1 | refine bS ?_ GE167.out) | exact HB.out))) : w.heap.size ≤ gb172)); have n5_ := am ((by rw [hg]; exact Nat.ne_of_lt (blk_lt (g := gb167) (o := .cells #[.int .i64 a0_0, .int .i64 a0_1, .int .i64 a0_2, .int .i64 a0_3, .int .i64 a0_4, .string a0_5] 25 (0, 0)) (by (with_reducible repeat (first | refine kN ?_ _ | refine kD ?_ | refine kA ?_ _)); exact BK167.out)) : gb167 ≠ gb172)); have n6_ := am ((by rw [hg]; exact Nat.ne_of_gt (blk_lt (g := gb167) (o := .cells #[.int .i64 a0_0, .int .i64 a0_1, .int .i64 a0_2, .int .i64 a0_3, .int .i64 a0_4, .string a0_5] 25 (0, 0)) (by (with_reducible repeat (first | refine kN ?_ _ | refine kD ?_ | refine kA ?_ _)); exact BK167.out)) : gb172 ≠ gb167)); clear BK167; clear HB; have BK167 := n0_; have HB := n1_; have BK172 := n2_; have GW172 := n3_; have GE172 := n4_; have NB167_172 := n5_; have NB172_167 := n6_; clear n0_ n1_ n2_ n3_ n4_ n5_ n6_; clear hb hbox hg; have hnb41 := NB172_167.out; have hnc41 := NB167_172.out; have hcz42_0 : w40.cell? ⟨gb172, 0, none⟩ = some (.int .i64 0) := (kC BK172.out 0).trans rfl; have hcz42_1 : w40.cell? ⟨gb172, 1, none⟩ = some (.int .i64 0) := (kC BK172.out 1).trans rfl; have hcz42_2 : w40.cell? ⟨gb172, 2, none⟩ = some (.string (⟨#[]⟩ : ByteArray)) := (kC BK172.out 2).trans rfl; have hfz42_0 := blk_frozen BK172.out 0; have hfz42_1 := blk_frozen BK172.out 1; have hfz42_2 := blk_frozen BK172.out 2; have hcz43_0 : w40.cell? ⟨gb167, 0, none⟩ = some (.int .i64 a0_0) := (kC BK167.out 0).trans rfl; have hcz43_1 : w40.cell? ⟨gb167, 1, none⟩ = some (.int .i64 a0_1) := (kC BK167.out 1).trans rfl; have hcz43_2 : w40.cell? ⟨gb167, 2, none⟩ = some (.int .i64 a0_2) := (kC BK167.out 2).trans rfl; have hcz43_3 : w40.cell? ⟨gb167, 3, none⟩ = some (.int .i64 a0_3) := (kC BK167.out 3).trans rfl; have hcz43_4 : w40.cell? ⟨gb167, 4, none⟩ = some (.int .i64 a0_4) := (kC BK167.out 4).trans rfl; have hcz43_5 : w40.cell? ⟨gb167, 5, none⟩ = some (.string a0_5) := (kC BK167.out 5).trans rfl; have hfz43_0 := blk_frozen BK167.out 0; have hfz43_1 := blk_frozen BK167.out 1; have hfz43_2 := blk_frozen BK167.out 2; have hfz43_3 := blk_frozen BK167.out 3; have hfz43_4 := blk_frozen BK167.out 4; have hfz43_5 := blk_frozen BK167.out 5))
           have n0_ : Aside0 ((((w40.setCell ⟨gb172, 0, none⟩ (.int .i64 ((rd_T23 l1 a0_1).f0))).setCell ⟨gb172, 1, none⟩ (.int .i64 ((rd_T23 l1 a0_1).f1))).setCell ⟨gb172, 2, none⟩ (.string ((rd_T23 l1 a0_1).f2))).heap[gb167]? = some (.cells #[.int .i64 a0_0, .int .i64 a0_1, .int .i64 a0_2, .int .i64 a0_3, .int .i64 a0_4, .string a0_5] 25 (0, 0))) := ⟨by (with_reducible repeat (first | refine kN ?_ _ | refine kD ?_ | refine kA ?_ _ | refine blk_far ?_ NB167_172.out _)); exact BK167.out⟩
           have n1_ : Aside0 ((((w40.setCell ⟨gb172, 0, none⟩ (.int .i64 ((rd_T23 l1 a0_1).f0))).setCell ⟨gb172, 1, none⟩ (.int .i64 ((rd_T23 l1 a0_1).f1))).setCell ⟨gb172, 2, none⟩ (.string ((rd_T23 l1 a0_1).f2))).heap[gb172]? = some (.cells #[.int .i64 ((rd_T23 l1 a0_1).f0), .int .i64 ((rd_T23 l1 a0_1).f1), .string ((rd_T23 l1 a0_1).f2)] 23 (0, 0))) := ⟨by (with_reducible repeat (first | refine kN ?_ _ | refine kD ?_ | refine kA ?_ _)); refine blk_put (cs := #[.int .i64 ((rd_T23 l1 a0_1).f0), .int .i64 ((rd_T23 l1 a0_1).f1), .string (⟨#[]⟩ : ByteArray)]) ?_ 2 _ rfl; (with_reducible repeat (first | refine kN ?_ _ | refine kD ?_ | refine kA ?_ _)); refine blk_put (cs := #[.int .i64 ((rd_T23 l1 a0_1).f0), .int .i64 0, .string (⟨#[]⟩ : ByteArray)]) ?_ 1 _ rfl; (with_reducible repeat (first | refine kN ?_ _ | refine kD ?_ | refine kA ?_ _)); refine blk_put (cs := #[.int .i64 0, .int .i64 0, .string (⟨#[]⟩ : ByteArray)]) ?_ 0 _ rfl; (with_reducible repeat (first | refine kN ?_ _ | refine kD ?_ | refine kA ?_ _)); exact BK172.out⟩
           have n2_ : Aside0 (Below w.heap.size w (((w40.setCell ⟨gb172, 0, none⟩ (.int .i64 ((rd_T23 l1 a0_1).f0))).setCell ⟨gb172, 1, none⟩ (.int .i64 ((rd_T23 l1 a0_1).f1))).setCell ⟨gb172, 2, none⟩ (.string ((rd_T23 l1 a0_1).f2)))) := ⟨by repeat (first | (with_reducible first | exact HB.out | apply bA | apply bN | apply b1 | refine bS ?_ GE167.out | refine bS ?_ GE172.out) | exact HB.out)⟩
           (try clear BK167)
           (try clear BK172)
           (try clear HB)
           generalize (((w40.setCell ⟨gb172, 0, none⟩ (.int .i64 ((rd_T23 l1 a0_1).f0))).setCell ⟨gb172, 1, none⟩ (.int .i64 ((rd_T23 l1 a0_1).f1))).setCell ⟨gb172, 2, none⟩ (.string ((rd_T23 l1 a0_1).f2))) = w44 at n0_ n1_ n2_ ⊢
           have BK167 := n0_
           have BK172 := n1_
           have HB := n2_
           clear n0_ n1_ n2_
           have n0_ := am (kD BK167.out)
           have n1_ := am (kD BK172.out)
           have n2_ := am (b1 HB.out)
           clear BK167
           clear BK172
           clear HB
           have BK167 := n0_
           have BK172 := n1_
           have HB := n2_
           clear n0_ n1_ n2_
           have p175 : 0 ≤ (a0_2 : Int) := of_decide_eq_true (by first | (with_reducible assumption) | assumption)
           have q175 : a0_2 < (l1.length : Int) := of_decide_eq_true (by first | (with_reducible assumption) | assumption)
           obtain ⟨ad175, e175, hx175_0, hx175_1, hx175_2⟩ := at_T23 HR1.out a0_2 p175 q175
           have hw175_2 := hx175_2
           have hw175_1 := hx175_1
           have hw175_0 := hx175_0
           obtain rfl : ad171 = ad175 := (by injection e175)
           replace hx175_0 := (HB.out.cell (World.block_lt_of_cell? w _ hx175_0)).trans hx175_0
           replace hx175_1 := (HB.out.cell (World.block_lt_of_cell? w _ hx175_1)).trans hx175_1
           replace hx175_2 := (HB.out.cell (World.block_lt_of_cell? w _ hx175_2)).trans hx175_2
           replace p175 := eq_true p175
           replace q175 := eq_true q175
           refine start_ (n := 9) (S := fun w' => w'.cell? ⟨gb172, 0, none⟩ = some (.int .i64 ((rd_T23 l1 a0_1).f0)) ∧ w'.cell? ⟨gb172, 1, none⟩ = some (.int .i64 ((rd_T23 l1 a0_1).f1)) ∧ w'.cell? ⟨gb172, 2, none⟩ = some (.string ((rd_T23 l1 a0_1).f2)) ∧ w'.cell? ⟨gb167, 0, none⟩ = some (.int .i64 a0_0) ∧ w'.cell? ⟨gb167, 1, none⟩ = some (.int .i64 a0_1) ∧ w'.cell? ⟨gb167, 2, none⟩ = some (.int .i64 a0_2) ∧ w'.cell? ⟨gb167, 3, none⟩ = some (.int .i64 a0_3) ∧ w'.cell? ⟨gb167, 4, none⟩ = some (.int .i64 a0_4) ∧ w'.cell? ⟨gb167, 5, none⟩ = some (.string a0_5) ∧ w'.cell? (ad171.add ((a0_2).toNat * 3)) = some (.int .i64 ((rd_T23 l1 a0_2).f0)) ∧ w'.cell? ⟨(ad171.add ((a0_2).toNat * 3)).block, (ad171.add ((a0_2).toNat * 3)).off + 1, none⟩ = some (.int .i64 ((rd_T23 l1 a0_2).f1)) ∧ w'.cell? ⟨(ad171.add ((a0_2).toNat * 3)).block, (ad171.add ((a0_2).toNat * 3)).off + 2, none⟩ = some (.string ((rd_T23 l1 a0_2).f2))) (ds := []) #[F,F,F,F,F,F,F,F,F] (by kernel_rfl) rfl rfl ⟨(kC BK172.out 0).trans rfl, (kC BK172.out 1).trans rfl, (kC BK172.out 2).trans rfl, (kC BK167.out 0).trans rfl, (kC BK167.out 1).trans rfl, (kC BK167.out 2).trans rfl, (kC BK167.out 3).trans rfl, (kC BK167.out 4).trans rfl, (kC BK167.out 5).trans rfl, ((HB.out.cell (World.block_lt_of_cell? w _ hw175_0)).trans hw175_0), ((HB.out.cell (World.block_lt_of_cell? w _ hw175_1)).trans hw175_1), ((HB.out.cell (World.block_lt_of_cell? w _ hw175_2)).trans hw175_2)⟩ (fun hHeld => ?_); refine with_tabW pred_Holds.tab10 pred_Holds.bits10 (fun HT_ HW_ => ?_)
           generalize w44.drew = w45 at BK167 BK172 HB hx175_0 hx175_1 hx175_2 hHeld ⊢
           refine pure_ (i := 1) (N := some 48) (v := ?_) (a' := ?_) #[F,T,F,F,F,F,F,F,F] rfl rfl (any_of HT_.out (by kernel_rfl)) (fun _ _ _ h => h) (Or.inl ⟨by rfl, ?_⟩) ?_ ?_
           rotate_left
           ·
            intro w'
            go_simp
            with_reducible rfl
           rotate_left
           ·
            simp only [Act.put, sA, sZ, sS, i64_w, i32_w]
            rfl
           refine pure_ (i := 2) (N := some 49) (v := ?_) (a' := ?_) #[F,T,T,F,F,F,F,F,F] rfl rfl (any_of HT_.out (by kernel_rfl)) (fun _ _ _ h => h) (Or.inl ⟨by rfl, ?_⟩) ?_ ?_
           rotate_left
           ·
            intro w'
            go_simp
            with_reducible rfl
           rotate_left
           ·
            simp only [Act.put, sA, sZ, sS, i64_w, i32_w]
            rfl
           refine take_ (i := 0) (N := some 47) (v := ?_) (a' := ?_) #[T,T,T,F,F,F,F,F,F] rfl rfl (take_ofW HT_.out HW_.out (by kernel_rfl)) (fun _ _ _ h => h) (Or.inl ⟨by rfl, ?_⟩) hHeld ?_ ?_
           rotate_left
           ·
            rintro w' ⟨s0, s1, s2, s3, s4, s5, s6, s7, s8, s9, s10, s11⟩
            go_simp
            with_reducible rfl
           rotate_left
           ·
            simp only [Act.put, sA, sZ, sS, i64_w, i32_w]
            rfl
           refine take_ (i := 3) (N := some 50) (v := ?_) (a' := ?_) #[T,T,T,T,F,F,F,F,F] rfl rfl (take_ofW HT_.out HW_.out (by kernel_rfl)) (fun _ _ _ h => h) (Or.inl ⟨by rfl, ?_⟩) hHeld ?_ ?_
           rotate_left
           ·
            rintro w' ⟨s0, s1, s2, s3, s4, s5, s6, s7, s8, s9, s10, s11⟩
            go_simp
            with_reducible rfl
           rotate_left
           ·
            simp only [Act.put, sA, sZ, sS, i64_w, i32_w]
            rfl
           refine pure_ (i := 4) (N := some 51) (v := ?_) (a' := ?_) #[T,T,T,T,T,F,F,F,F] rfl rfl (any_of HT_.out (by kernel_rfl)) (fun _ _ _ h => h) (Or.inl ⟨by rfl, ?_⟩) ?_ ?_
           rotate_left
           ·
            intro w'
            go_simp
            with_reducible rfl
           rotate_left
           ·
            simp only [Act.put, sA, sZ, sS, i64_w, i32_w]
            rfl
           refine take_ (i := 5) (N := some 52) (v := ?_) (a' := ?_) #[T,T,T,T,T,T,F,F,F] rfl rfl (take_ofW HT_.out HW_.out (by kernel_rfl)) (fun _ _ _ h => h) (Or.inl ⟨by rfl, ?_⟩) hHeld ?_ ?_
           rotate_left
           ·
            rintro w' ⟨s0, s1, s2, s3, s4, s5, s6, s7, s8, s9, s10, s11⟩
            go_simp
            with_reducible rfl
           rotate_left
           ·
            simp only [Act.put, sA, sZ, sS, i64_w, i32_w]
            rfl
           refine one_ (i := 6) (N := some 53) #[T,T,T,T,T,T,T,F,F] rfl rfl (one_of HT_.out (by kernel_rfl)) (by decide) (fun K hK => ?_)
           refine goes_ Try.func28 (by kernel_rfl) rfl #[.agg #[.int .i64 ((rd_T23 l1 a0_1).f0), .int .i64 ((rd_T23 l1 a0_1).f1), .string ((rd_T23 l1 a0_1).f2)], .agg #[.int .i64 ((rd_T23 l1 a0_2).f0), .int .i64 ((rd_T23 l1 a0_2).f1), .string ((rd_T23 l1 a0_2).f2)]] (by rfl) rfl rfl (by (try simp only [List.map_toArray, List.map_cons, List.map_nil]); first | done | rfl | (simp only [List.length_drop, List.length_take]; rfl)) ?_
           with_reducible refine (value_Compare.calls kj2 ((rd_T23 l1 a0_1).f0) ((rd_T23 l1 a0_1).f1) ((rd_T23 l1 a0_1).f2) ((rd_T23 l1 a0_2).f0) ((rd_T23 l1 a0_2).f1) ((rd_T23 l1 a0_2).f2) t176 _ A38.out).mono ?_
           rintro e w46 ⟨rfl, hb⟩
           refine ⟨_, rfl, ?_⟩
           have n0_ := am (kB (g := gb167) (o := .cells #[.int .i64 a0_0, .int .i64 a0_1, .int .i64 a0_2, .int .i64 a0_3, .int .i64 a0_4, .string a0_5] 25 (0, 0)) (by (with_reducible repeat (first | refine kN ?_ _ | refine kD ?_ | refine kA ?_ _)); exact BK167.out) hb)
           have n1_ := am (kB (g := gb172) (o := .cells #[.int .i64 ((rd_T23 l1 a0_1).f0), .int .i64 ((rd_T23 l1 a0_1).f1), .string ((rd_T23 l1 a0_1).f2)] 23 (0, 0)) (by (with_reducible repeat (first | refine kN ?_ _ | refine kD ?_ | refine kA ?_ _)); exact BK172.out) hb)
           have n2_ := am (bP (by repeat (first | (with_reducible first | exact HB.out | apply bA | apply bN | apply b1 | refine bS ?_ GE167.out | refine bS ?_ GE172.out) | exact HB.out)) hb)
           clear BK167
           clear BK172
           clear HB
           have BK167 := n0_
           have BK172 := n1_
           have HB := n2_
           clear n0_ n1_ n2_
           (try clear hb)
           (try clear hb2)
           (try clear hk)
           (try clear hi)
           refine hK.out _ _ ⟨(kC BK172.out 0).trans rfl, (kC BK172.out 1).trans rfl, (kC BK172.out 2).trans rfl, (kC BK167.out 0).trans rfl, (kC BK167.out 1).trans rfl, (kC BK167.out 2).trans rfl, (kC BK167.out 3).trans rfl, (kC BK167.out 4).trans rfl, (kC BK167.out 5).trans rfl, ((HB.out.cell (World.block_lt_of_cell? w _ hw175_0)).trans hw175_0), ((HB.out.cell (World.block_lt_of_cell? w _ hw175_1)).trans hw175_1), ((HB.out.cell (World.block_lt_of_cell? w _ hw175_2)).trans hw175_2)⟩ (fun hHeld => ?_)
           clear hK K
           refine norm_ (a' := ?_) ?_ ?_
           rotate_left
           ·
            show Act.put _ (some 53) _ = _
            simp only [Act.put, sA, sZ, sS, i64_w, i32_w]
            rfl
           refine pure_ (i := 7) (N := some 54) (v := ?_) (a' := ?_) #[T,T,T,T,T,T,T,T,F] rfl rfl (any_of HT_.out (by kernel_rfl)) (fun _ _ _ h => h) (Or.inl ⟨by rfl, ?_⟩) ?_ ?_
           rotate_left
           ·
            intro w'
            go_simp
            with_reducible rfl
           rotate_left
           ·
            simp only [Act.put, sA, sZ, sS, i64_w, i32_w]
            rfl
           refine pure_ (i := 8) (N := some 4) (v := ?_) (a' := ?_) #[T,T,T,T,T,T,T,T,T] rfl rfl (any_of HT_.out (by kernel_rfl)) (fun _ _ _ h => h) (Or.inl ⟨by rfl, ?_⟩) ?_ ?_
           rotate_left
           ·
            intro w'
            go_simp
            with_reducible rfl
           rotate_left
           ·
            simp only [Act.put, sA, sZ, sS, i64_w, i32_w]
            rfl
           refine done_ (done_of HT_.out (by kernel_rfl)) ?_
           try go_wp2
           go_ret
           exact ⟨by first | rfl | (simp [errW_none, errW_some] <;> rfl) | (simp [*, errW_none, errW_some] <;> rfl), by repeat (first | (with_reducible first | exact HB.out | apply bA | apply bN | apply b1 | refine bS ?_ GE167.out | refine bS ?_ GE172.out) | exact HB.out)⟩
          ·
           rw [if_neg c37] at H
           exact absurd H (by simp)
         ·
          rw [if_neg c36] at H
          exact absurd H (by simp)
        ·
         rw [if_neg c35] at H
         have c35b0 : (a0_0 == 3) = false := beq_eq_false_iff_ne.mpr c35
         have c35b1 : (a0_0 != 3) = true := bne_iff_ne.mpr c35
         by_cases c47 : a0_0 = 4
         ·
          rw [if_pos c47] at H
          have c47b0 : (a0_0 == 4) = true := beq_iff_eq.mpr c47
          have c47b1 : (a0_0 != 4) = false := bne_eq_false_iff_eq.mpr c47
          clear c47
          by_cases c48 : 0 ≤ a0_2
          ·
           rw [if_pos c48] at H
           have c48b0 : decide (0 ≤ a0_2) = true := decide_eq_true c48
           clear c48
           by_cases c49 : a0_2 < (l1.length : Int)
           ·
            rw [if_pos c49] at H
            have c49b0 : decide (a0_2 < (l1.length : Int)) = true := decide_eq_true c49
            clear c49
            replace H := Option.bind_eq_some_iff.mp H
            obtain ⟨t178, A500, H⟩ := H
            replace H : (some (decide (t178 < 0))) = some r := H
            have A50 := am A500
            clear A500
            obtain rfl := Option.some.inj H
            have hcz51_0 : wc.cell? ⟨gb167, 0, none⟩ = some (.int .i64 a0_0) := (kC BK167.out 0).trans rfl
            have hcz51_1 : wc.cell? ⟨gb167, 1, none⟩ = some (.int .i64 a0_1) := (kC BK167.out 1).trans rfl
            have hcz51_2 : wc.cell? ⟨gb167, 2, none⟩ = some (.int .i64 a0_2) := (kC BK167.out 2).trans rfl
            have hcz51_3 : wc.cell? ⟨gb167, 3, none⟩ = some (.int .i64 a0_3) := (kC BK167.out 3).trans rfl
            have hcz51_4 : wc.cell? ⟨gb167, 4, none⟩ = some (.int .i64 a0_4) := (kC BK167.out 4).trans rfl
            have hcz51_5 : wc.cell? ⟨gb167, 5, none⟩ = some (.string a0_5) := (kC BK167.out 5).trans rfl
            have hfz51_0 := blk_frozen BK167.out 0
            have hfz51_1 := blk_frozen BK167.out 1
            have hfz51_2 := blk_frozen BK167.out 2
            have hfz51_3 := blk_frozen BK167.out 3
            have hfz51_4 := blk_frozen BK167.out 4
            have hfz51_5 := blk_frozen BK167.out 5
            have p171 : 0 ≤ (a0_1 : Int) := of_decide_eq_true (by first | (with_reducible assumption) | assumption)
            have q171 : a0_1 < (l1.length : Int) := of_decide_eq_true (by first | (with_reducible assumption) | assumption)
            obtain ⟨ad171, e171, hx171_0, hx171_1, hx171_2⟩ := at_T23 HR1.out a0_1 p171 q171
            cases e171
            replace hx171_0 := (HB.out.cell (World.block_lt_of_cell? w _ hx171_0)).trans hx171_0
            replace hx171_1 := (HB.out.cell (World.block_lt_of_cell? w _ hx171_1)).trans hx171_1
            replace hx171_2 := (HB.out.cell (World.block_lt_of_cell? w _ hx171_2)).trans hx171_2
            replace p171 := eq_true p171
            replace q171 := eq_true q171
            try go_wp2_with (first | ((with_reducible refine gate_dst (N := 5) rfl ?_); (try (refine gate_guard (by rfl) ?_; dsimp only)); refine box_event ?hg (N := 5) ?hd (cs := #[.int .i64 0, .int .i64 0, .string (⟨#[]⟩ : ByteArray)]) (t := 23) ?hr ?_; (case hd => rfl); (case hg => rfl); (case hr => first | (go_simp; done) | (go_simp; rfl)); intro gb172 hg w52 hbox hb; have n0_ := am (kB (g := gb167) (o := .cells #[.int .i64 a0_0, .int .i64 a0_1, .int .i64 a0_2, .int .i64 a0_3, .int .i64 a0_4, .string a0_5] 25 (0, 0)) (by (with_reducible repeat (first | refine kN ?_ _ | refine kD ?_ | refine kA ?_ _)); exact BK167.out) hb); have n1_ := am (bP (by repeat (first | (with_reducible first | exact HB.out | apply bA | apply bN | apply b1 | refine bS ?_ GE167.out) | exact HB.out)) hb); have n2_ := am (hbox); have n3_ := am ((by rw [hg]; exact (below_size (by repeat (first | (with_reducible first | exact HB.out | apply bA | apply bN | apply b1 | refine bS ?_ GE167.out) | exact HB.out))) : w.heap.size ≤ gb172)); have n4_ := am ((by rw [hg]; exact (below_size (by repeat (first | (with_reducible first | exact HB.out | apply bA | apply bN | apply b1 | refine bS ?_ GE167.out) | exact HB.out))) : w.heap.size ≤ gb172)); have n5_ := am ((by rw [hg]; exact Nat.ne_of_lt (blk_lt (g := gb167) (o := .cells #[.int .i64 a0_0, .int .i64 a0_1, .int .i64 a0_2, .int .i64 a0_3, .int .i64 a0_4, .string a0_5] 25 (0, 0)) (by (with_reducible repeat (first | refine kN ?_ _ | refine kD ?_ | refine kA ?_ _)); exact BK167.out)) : gb167 ≠ gb172)); have n6_ := am ((by rw [hg]; exact Nat.ne_of_gt (blk_lt (g := gb167) (o := .cells #[.int .i64 a0_0, .int .i64 a0_1, .int .i64 a0_2, .int .i64 a0_3, .int .i64 a0_4, .string a0_5] 25 (0, 0)) (by (with_reducible repeat (first | refine kN ?_ _ | refine kD ?_ | refine kA ?_ _)); exact BK167.out)) : gb172 ≠ gb167)); clear BK167; clear HB; have BK167 := n0_; have HB := n1_; have BK172 := n2_; have GW172 := n3_; have GE172 := n4_; have NB167_172 := n5_; have NB172_167 := n6_; clear n0_ n1_ n2_ n3_ n4_ n5_ n6_; clear hb hbox hg; have hnb53 := NB172_167.out; have hnc53 := NB167_172.out; have hcz54_0 : w52.cell? ⟨gb172, 0, none⟩ = some (.int .i64 0) := (kC BK172.out 0).trans rfl; have hcz54_1 : w52.cell? ⟨gb172, 1, none⟩ = some (.int .i64 0) := (kC BK172.out 1).trans rfl; have hcz54_2 : w52.cell? ⟨gb172, 2, none⟩ = some (.string (⟨#[]⟩ : ByteArray)) := (kC BK172.out 2).trans rfl; have hfz54_0 := blk_frozen BK172.out 0; have hfz54_1 := blk_frozen BK172.out 1; have hfz54_2 := blk_frozen BK172.out 2; have hcz55_0 : w52.cell? ⟨gb167, 0, none⟩ = some (.int .i64 a0_0) := (kC BK167.out 0).trans rfl; have hcz55_1 : w52.cell? ⟨gb167, 1, none⟩ = some (.int .i64 a0_1) := (kC BK167.out 1).trans rfl; have hcz55_2 : w52.cell? ⟨gb167, 2, none⟩ = some (.int .i64 a0_2) := (kC BK167.out 2).trans rfl; have hcz55_3 : w52.cell? ⟨gb167, 3, none⟩ = some (.int .i64 a0_3) := (kC BK167.out 3).trans rfl; have hcz55_4 : w52.cell? ⟨gb167, 4, none⟩ = some (.int .i64 a0_4) := (kC BK167.out 4).trans rfl; have hcz55_5 : w52.cell? ⟨gb167, 5, none⟩ = some (.string a0_5) := (kC BK167.out 5).trans rfl; have hfz55_0 := blk_frozen BK167.out 0; have hfz55_1 := blk_frozen BK167.out 1; have hfz55_2 := blk_frozen BK167.out 2; have hfz55_3 := blk_frozen BK167.out 3; have hfz55_4 := blk_frozen BK167.out 4; have hfz55_5 := blk_frozen BK167.out 5))
            have n0_ : Aside0 ((((w52.setCell ⟨gb172, 0, none⟩ (.int .i64 ((rd_T23 l1 a0_1).f0))).setCell ⟨gb172, 1, none⟩ (.int .i64 ((rd_T23 l1 a0_1).f1))).setCell ⟨gb172, 2, none⟩ (.string ((rd_T23 l1 a0_1).f2))).heap[gb167]? = some (.cells #[.int .i64 a0_0, .int .i64 a0_1, .int .i64 a0_2, .int .i64 a0_3, .int .i64 a0_4, .string a0_5] 25 (0, 0))) := ⟨by (with_reducible repeat (first | refine kN ?_ _ | refine kD ?_ | refine kA ?_ _ | refine blk_far ?_ NB167_172.out _)); exact BK167.out⟩
            have n1_ : Aside0 ((((w52.setCell ⟨gb172, 0, none⟩ (.int .i64 ((rd_T23 l1 a0_1).f0))).setCell ⟨gb172, 1, none⟩ (.int .i64 ((rd_T23 l1 a0_1).f1))).setCell ⟨gb172, 2, none⟩ (.string ((rd_T23 l1 a0_1).f2))).heap[gb172]? = some (.cells #[.int .i64 ((rd_T23 l1 a0_1).f0), .int .i64 ((rd_T23 l1 a0_1).f1), .string ((rd_T23 l1 a0_1).f2)] 23 (0, 0))) := ⟨by (with_reducible repeat (first | refine kN ?_ _ | refine kD ?_ | refine kA ?_ _)); refine blk_put (cs := #[.int .i64 ((rd_T23 l1 a0_1).f0), .int .i64 ((rd_T23 l1 a0_1).f1), .string (⟨#[]⟩ : ByteArray)]) ?_ 2 _ rfl; (with_reducible repeat (first | refine kN ?_ _ | refine kD ?_ | refine kA ?_ _)); refine blk_put (cs := #[.int .i64 ((rd_T23 l1 a0_1).f0), .int .i64 0, .string (⟨#[]⟩ : ByteArray)]) ?_ 1 _ rfl; (with_reducible repeat (first | refine kN ?_ _ | refine kD ?_ | refine kA ?_ _)); refine blk_put (cs := #[.int .i64 0, .int .i64 0, .string (⟨#[]⟩ : ByteArray)]) ?_ 0 _ rfl; (with_reducible repeat (first | refine kN ?_ _ | refine kD ?_ | refine kA ?_ _)); exact BK172.out⟩
            have n2_ : Aside0 (Below w.heap.size w (((w52.setCell ⟨gb172, 0, none⟩ (.int .i64 ((rd_T23 l1 a0_1).f0))).setCell ⟨gb172, 1, none⟩ (.int .i64 ((rd_T23 l1 a0_1).f1))).setCell ⟨gb172, 2, none⟩ (.string ((rd_T23 l1 a0_1).f2)))) := ⟨by repeat (first | (with_reducible first | exact HB.out | apply bA | apply bN | apply b1 | refine bS ?_ GE167.out | refine bS ?_ GE172.out) | exact HB.out)⟩
            (try clear BK167)
            (try clear BK172)
            (try clear HB)
            generalize (((w52.setCell ⟨gb172, 0, none⟩ (.int .i64 ((rd_T23 l1 a0_1).f0))).setCell ⟨gb172, 1, none⟩ (.int .i64 ((rd_T23 l1 a0_1).f1))).setCell ⟨gb172, 2, none⟩ (.string ((rd_T23 l1 a0_1).f2))) = w56 at n0_ n1_ n2_ ⊢
            have BK167 := n0_
            have BK172 := n1_
            have HB := n2_
            clear n0_ n1_ n2_
            have n0_ := am (kD BK167.out)
            have n1_ := am (kD BK172.out)
            have n2_ := am (b1 HB.out)
            clear BK167
            clear BK172
            clear HB
            have BK167 := n0_
            have BK172 := n1_
            have HB := n2_
            clear n0_ n1_ n2_
            have p177 : 0 ≤ (a0_2 : Int) := of_decide_eq_true (by first | (with_reducible assumption) | assumption)
            have q177 : a0_2 < (l1.length : Int) := of_decide_eq_true (by first | (with_reducible assumption) | assumption)
            obtain ⟨ad177, e177, hx177_0, hx177_1, hx177_2⟩ := at_T23 HR1.out a0_2 p177 q177
            have hw177_2 := hx177_2
            have hw177_1 := hx177_1
            have hw177_0 := hx177_0
            obtain rfl : ad171 = ad177 := (by injection e177)
            replace hx177_0 := (HB.out.cell (World.block_lt_of_cell? w _ hx177_0)).trans hx177_0
            replace hx177_1 := (HB.out.cell (World.block_lt_of_cell? w _ hx177_1)).trans hx177_1
            replace hx177_2 := (HB.out.cell (World.block_lt_of_cell? w _ hx177_2)).trans hx177_2
            replace p177 := eq_true p177
            replace q177 := eq_true q177
            refine start_ (n := 9) (S := fun w' => w'.cell? ⟨gb172, 0, none⟩ = some (.int .i64 ((rd_T23 l1 a0_1).f0)) ∧ w'.cell? ⟨gb172, 1, none⟩ = some (.int .i64 ((rd_T23 l1 a0_1).f1)) ∧ w'.cell? ⟨gb172, 2, none⟩ = some (.string ((rd_T23 l1 a0_1).f2)) ∧ w'.cell? ⟨gb167, 0, none⟩ = some (.int .i64 a0_0) ∧ w'.cell? ⟨gb167, 1, none⟩ = some (.int .i64 a0_1) ∧ w'.cell? ⟨gb167, 2, none⟩ = some (.int .i64 a0_2) ∧ w'.cell? ⟨gb167, 3, none⟩ = some (.int .i64 a0_3) ∧ w'.cell? ⟨gb167, 4, none⟩ = some (.int .i64 a0_4) ∧ w'.cell? ⟨gb167, 5, none⟩ = some (.string a0_5) ∧ w'.cell? (ad171.add ((a0_2).toNat * 3)) = some (.int .i64 ((rd_T23 l1 a0_2).f0)) ∧ w'.cell? ⟨(ad171.add ((a0_2).toNat * 3)).block, (ad171.add ((a0_2).toNat * 3)).off + 1, none⟩ = some (.int .i64 ((rd_T23 l1 a0_2).f1)) ∧ w'.cell? ⟨(ad171.add ((a0_2).toNat * 3)).block, (ad171.add ((a0_2).toNat * 3)).off + 2, none⟩ = some (.string ((rd_T23 l1 a0_2).f2))) (ds := []) #[F,F,F,F,F,F,F,F,F] (by kernel_rfl) rfl rfl ⟨(kC BK172.out 0).trans rfl, (kC BK172.out 1).trans rfl, (kC BK172.out 2).trans rfl, (kC BK167.out 0).trans rfl, (kC BK167.out 1).trans rfl, (kC BK167.out 2).trans rfl, (kC BK167.out 3).trans rfl, (kC BK167.out 4).trans rfl, (kC BK167.out 5).trans rfl, ((HB.out.cell (World.block_lt_of_cell? w _ hw177_0)).trans hw177_0), ((HB.out.cell (World.block_lt_of_cell? w _ hw177_1)).trans hw177_1), ((HB.out.cell (World.block_lt_of_cell? w _ hw177_2)).trans hw177_2)⟩ (fun hHeld => ?_); refine with_tabW pred_Holds.tab12 pred_Holds.bits12 (fun HT_ HW_ => ?_)
            generalize w56.drew = w57 at BK167 BK172 HB hx177_0 hx177_1 hx177_2 hHeld ⊢
            refine pure_ (i := 1) (N := some 58) (v := ?_) (a' := ?_) #[F,T,F,F,F,F,F,F,F] rfl rfl (any_of HT_.out (by kernel_rfl)) (fun _ _ _ h => h) (Or.inl ⟨by rfl, ?_⟩) ?_ ?_
            rotate_left
            ·
             intro w'
             go_simp
             with_reducible rfl
            rotate_left
            ·
             simp only [Act.put, sA, sZ, sS, i64_w, i32_w]
             rfl
            refine pure_ (i := 2) (N := some 59) (v := ?_) (a' := ?_) #[F,T,T,F,F,F,F,F,F] rfl rfl (any_of HT_.out (by kernel_rfl)) (fun _ _ _ h => h) (Or.inl ⟨by rfl, ?_⟩) ?_ ?_
            rotate_left
            ·
             intro w'
             go_simp
             with_reducible rfl
            rotate_left
            ·
             simp only [Act.put, sA, sZ, sS, i64_w, i32_w]
             rfl
            refine take_ (i := 0) (N := some 57) (v := ?_) (a' := ?_) #[T,T,T,F,F,F,F,F,F] rfl rfl (take_ofW HT_.out HW_.out (by kernel_rfl)) (fun _ _ _ h => h) (Or.inl ⟨by rfl, ?_⟩) hHeld ?_ ?_
            rotate_left
            ·
             rintro w' ⟨s0, s1, s2, s3, s4, s5, s6, s7, s8, s9, s10, s11⟩
             go_simp
             with_reducible rfl
            rotate_left
            ·
             simp only [Act.put, sA, sZ, sS, i64_w, i32_w]
             rfl
            refine take_ (i := 3) (N := some 60) (v := ?_) (a' := ?_) #[T,T,T,T,F,F,F,F,F] rfl rfl (take_ofW HT_.out HW_.out (by kernel_rfl)) (fun _ _ _ h => h) (Or.inl ⟨by rfl, ?_⟩) hHeld ?_ ?_
            rotate_left
            ·
             rintro w' ⟨s0, s1, s2, s3, s4, s5, s6, s7, s8, s9, s10, s11⟩
             go_simp
             with_reducible rfl
            rotate_left
            ·
             simp only [Act.put, sA, sZ, sS, i64_w, i32_w]
             rfl
            refine pure_ (i := 4) (N := some 61) (v := ?_) (a' := ?_) #[T,T,T,T,T,F,F,F,F] rfl rfl (any_of HT_.out (by kernel_rfl)) (fun _ _ _ h => h) (Or.inl ⟨by rfl, ?_⟩) ?_ ?_
            rotate_left
            ·
             intro w'
             go_simp
             with_reducible rfl
            rotate_left
            ·
             simp only [Act.put, sA, sZ, sS, i64_w, i32_w]
             rfl
            refine take_ (i := 5) (N := some 62) (v := ?_) (a' := ?_) #[T,T,T,T,T,T,F,F,F] rfl rfl (take_ofW HT_.out HW_.out (by kernel_rfl)) (fun _ _ _ h => h) (Or.inl ⟨by rfl, ?_⟩) hHeld ?_ ?_
            rotate_left
            ·
             rintro w' ⟨s0, s1, s2, s3, s4, s5, s6, s7, s8, s9, s10, s11⟩
             go_simp
             with_reducible rfl
            rotate_left
            ·
             simp only [Act.put, sA, sZ, sS, i64_w, i32_w]
             rfl
            refine one_ (i := 6) (N := some 63) #[T,T,T,T,T,T,T,F,F] rfl rfl (one_of HT_.out (by kernel_rfl)) (by decide) (fun K hK => ?_)
            refine goes_ Try.func28 (by kernel_rfl) rfl #[.agg #[.int .i64 ((rd_T23 l1 a0_1).f0), .int .i64 ((rd_T23 l1 a0_1).f1), .string ((rd_T23 l1 a0_1).f2)], .agg #[.int .i64 ((rd_T23 l1 a0_2).f0), .int .i64 ((rd_T23 l1 a0_2).f1), .string ((rd_T23 l1 a0_2).f2)]] (by rfl) rfl rfl (by (try simp only [List.map_toArray, List.map_cons, List.map_nil]); first | done | rfl | (simp only [List.length_drop, List.length_take]; rfl)) ?_
            with_reducible refine (value_Compare.calls kj2 ((rd_T23 l1 a0_1).f0) ((rd_T23 l1 a0_1).f1) ((rd_T23 l1 a0_1).f2) ((rd_T23 l1 a0_2).f0) ((rd_T23 l1 a0_2).f1) ((rd_T23 l1 a0_2).f2) t178 _ A50.out).mono ?_
            rintro e w58 ⟨rfl, hb⟩
            refine ⟨_, rfl, ?_⟩
            have n0_ := am (kB (g := gb167) (o := .cells #[.int .i64 a0_0, .int .i64 a0_1, .int .i64 a0_2, .int .i64 a0_3, .int .i64 a0_4, .string a0_5] 25 (0, 0)) (by (with_reducible repeat (first | refine kN ?_ _ | refine kD ?_ | refine kA ?_ _)); exact BK167.out) hb)
            have n1_ := am (kB (g := gb172) (o := .cells #[.int .i64 ((rd_T23 l1 a0_1).f0), .int .i64 ((rd_T23 l1 a0_1).f1), .string ((rd_T23 l1 a0_1).f2)] 23 (0, 0)) (by (with_reducible repeat (first | refine kN ?_ _ | refine kD ?_ | refine kA ?_ _)); exact BK172.out) hb)
            have n2_ := am (bP (by repeat (first | (with_reducible first | exact HB.out | apply bA | apply bN | apply b1 | refine bS ?_ GE167.out | refine bS ?_ GE172.out) | exact HB.out)) hb)
            clear BK167
            clear BK172
            clear HB
            have BK167 := n0_
            have BK172 := n1_
            have HB := n2_
            clear n0_ n1_ n2_
            (try clear hb)
            (try clear hb2)
            (try clear hk)
            (try clear hi)
            refine hK.out _ _ ⟨(kC BK172.out 0).trans rfl, (kC BK172.out 1).trans rfl, (kC BK172.out 2).trans rfl, (kC BK167.out 0).trans rfl, (kC BK167.out 1).trans rfl, (kC BK167.out 2).trans rfl, (kC BK167.out 3).trans rfl, (kC BK167.out 4).trans rfl, (kC BK167.out 5).trans rfl, ((HB.out.cell (World.block_lt_of_cell? w _ hw177_0)).trans hw177_0), ((HB.out.cell (World.block_lt_of_cell? w _ hw177_1)).trans hw177_1), ((HB.out.cell (World.block_lt_of_cell? w _ hw177_2)).trans hw177_2)⟩ (fun hHeld => ?_)
            clear hK K
            refine norm_ (a' := ?_) ?_ ?_
            rotate_left
            ·
             show Act.put _ (some 63) _ = _
             simp only [Act.put, sA, sZ, sS, i64_w, i32_w]
             rfl
            refine pure_ (i := 7) (N := some 64) (v := ?_) (a' := ?_) #[T,T,T,T,T,T,T,T,F] rfl rfl (any_of HT_.out (by kernel_rfl)) (fun _ _ _ h => h) (Or.inl ⟨by rfl, ?_⟩) ?_ ?_
            rotate_left
            ·
             intro w'
             go_simp
             with_reducible rfl
            rotate_left
            ·
             simp only [Act.put, sA, sZ, sS, i64_w, i32_w]
             rfl
            refine pure_ (i := 8) (N := some 4) (v := ?_) (a' := ?_) #[T,T,T,T,T,T,T,T,T] rfl rfl (any_of HT_.out (by kernel_rfl)) (fun _ _ _ h => h) (Or.inl ⟨by rfl, ?_⟩) ?_ ?_
            rotate_left
            ·
             intro w'
             go_simp
             with_reducible rfl
            rotate_left
            ·
             simp only [Act.put, sA, sZ, sS, i64_w, i32_w]
             rfl
            refine done_ (done_of HT_.out (by kernel_rfl)) ?_
            try go_wp2
            go_ret
            exact ⟨by first | rfl | (simp [errW_none, errW_some] <;> rfl) | (simp [*, errW_none, errW_some] <;> rfl), by repeat (first | (with_reducible first | exact HB.out | apply bA | apply bN | apply b1 | refine bS ?_ GE167.out | refine bS ?_ GE172.out) | exact HB.out)⟩
           ·
            rw [if_neg c49] at H
            exact absurd H (by simp)
          ·
           rw [if_neg c48] at H
           exact absurd H (by simp)
         ·
          rw [if_neg c47] at H
          have c47b0 : (a0_0 == 4) = false := beq_eq_false_iff_ne.mpr c47
          have c47b1 : (a0_0 != 4) = true := bne_iff_ne.mpr c47
          by_cases c59 : a0_0 = 5
          ·
           rw [if_pos c59] at H
           have c59b0 : (a0_0 == 5) = true := beq_iff_eq.mpr c59
           have c59b1 : (a0_0 != 5) = false := bne_eq_false_iff_eq.mpr c59
           clear c59
           obtain rfl := Option.some.inj H
           have hcz60_0 : wc.cell? ⟨gb167, 0, none⟩ = some (.int .i64 a0_0) := (kC BK167.out 0).trans rfl
           have hcz60_1 : wc.cell? ⟨gb167, 1, none⟩ = some (.int .i64 a0_1) := (kC BK167.out 1).trans rfl
           have hcz60_2 : wc.cell? ⟨gb167, 2, none⟩ = some (.int .i64 a0_2) := (kC BK167.out 2).trans rfl
           have hcz60_3 : wc.cell? ⟨gb167, 3, none⟩ = some (.int .i64 a0_3) := (kC BK167.out 3).trans rfl
           have hcz60_4 : wc.cell? ⟨gb167, 4, none⟩ = some (.int .i64 a0_4) := (kC BK167.out 4).trans rfl
           have hcz60_5 : wc.cell? ⟨gb167, 5, none⟩ = some (.string a0_5) := (kC BK167.out 5).trans rfl
           have hfz60_0 := blk_frozen BK167.out 0
           have hfz60_1 := blk_frozen BK167.out 1
           have hfz60_2 := blk_frozen BK167.out 2
           have hfz60_3 := blk_frozen BK167.out 3
           have hfz60_4 := blk_frozen BK167.out 4
           have hfz60_5 := blk_frozen BK167.out 5
           have p171 : 0 ≤ (a0_1 : Int) := of_decide_eq_true (by first | (with_reducible assumption) | assumption)
           have q171 : a0_1 < (l1.length : Int) := of_decide_eq_true (by first | (with_reducible assumption) | assumption)
           obtain ⟨ad171, e171, hx171_0, hx171_1, hx171_2⟩ := at_T23 HR1.out a0_1 p171 q171
           cases e171
           replace hx171_0 := (HB.out.cell (World.block_lt_of_cell? w _ hx171_0)).trans hx171_0
           replace hx171_1 := (HB.out.cell (World.block_lt_of_cell? w _ hx171_1)).trans hx171_1
           replace hx171_2 := (HB.out.cell (World.block_lt_of_cell? w _ hx171_2)).trans hx171_2
           replace p171 := eq_true p171
           replace q171 := eq_true q171
           go_wp2_with (first | ((with_reducible refine gate_dst (N := 5) rfl ?_); (try (refine gate_guard (by rfl) ?_; dsimp only)); refine box_event ?hg (N := 5) ?hd (cs := #[.int .i64 0, .int .i64 0, .string (⟨#[]⟩ : ByteArray)]) (t := 23) ?hr ?_; (case hd => rfl); (case hg => rfl); (case hr => first | (go_simp; done) | (go_simp; rfl)); intro gb172 hg w61 hbox hb; have n0_ := am (kB (g := gb167) (o := .cells #[.int .i64 a0_0, .int .i64 a0_1, .int .i64 a0_2, .int .i64 a0_3, .int .i64 a0_4, .string a0_5] 25 (0, 0)) (by (with_reducible repeat (first | refine kN ?_ _ | refine kD ?_ | refine kA ?_ _)); exact BK167.out) hb); have n1_ := am (bP (by repeat (first | (with_reducible first | exact HB.out | apply bA | apply bN | apply b1 | refine bS ?_ GE167.out) | exact HB.out)) hb); have n2_ := am (hbox); have n3_ := am ((by rw [hg]; exact (below_size (by repeat (first | (with_reducible first | exact HB.out | apply bA | apply bN | apply b1 | refine bS ?_ GE167.out) | exact HB.out))) : w.heap.size ≤ gb172)); have n4_ := am ((by rw [hg]; exact (below_size (by repeat (first | (with_reducible first | exact HB.out | apply bA | apply bN | apply b1 | refine bS ?_ GE167.out) | exact HB.out))) : w.heap.size ≤ gb172)); have n5_ := am ((by rw [hg]; exact Nat.ne_of_lt (blk_lt (g := gb167) (o := .cells #[.int .i64 a0_0, .int .i64 a0_1, .int .i64 a0_2, .int .i64 a0_3, .int .i64 a0_4, .string a0_5] 25 (0, 0)) (by (with_reducible repeat (first | refine kN ?_ _ | refine kD ?_ | refine kA ?_ _)); exact BK167.out)) : gb167 ≠ gb172)); have n6_ := am ((by rw [hg]; exact Nat.ne_of_gt (blk_lt (g := gb167) (o := .cells #[.int .i64 a0_0, .int .i64 a0_1, .int .i64 a0_2, .int .i64 a0_3, .int .i64 a0_4, .string a0_5] 25 (0, 0)) (by (with_reducible repeat (first | refine kN ?_ _ | refine kD ?_ | refine kA ?_ _)); exact BK167.out)) : gb172 ≠ gb167)); clear BK167; clear HB; have BK167 := n0_; have HB := n1_; have BK172 := n2_; have GW172 := n3_; have GE172 := n4_; have NB167_172 := n5_; have NB172_167 := n6_; clear n0_ n1_ n2_ n3_ n4_ n5_ n6_; clear hb hbox hg; have hnb62 := NB172_167.out; have hnc62 := NB167_172.out; have hcz63_0 : w61.cell? ⟨gb172, 0, none⟩ = some (.int .i64 0) := (kC BK172.out 0).trans rfl; have hcz63_1 : w61.cell? ⟨gb172, 1, none⟩ = some (.int .i64 0) := (kC BK172.out 1).trans rfl; have hcz63_2 : w61.cell? ⟨gb172, 2, none⟩ = some (.string (⟨#[]⟩ : ByteArray)) := (kC BK172.out 2).trans rfl; have hfz63_0 := blk_frozen BK172.out 0; have hfz63_1 := blk_frozen BK172.out 1; have hfz63_2 := blk_frozen BK172.out 2; have hcz64_0 : w61.cell? ⟨gb167, 0, none⟩ = some (.int .i64 a0_0) := (kC BK167.out 0).trans rfl; have hcz64_1 : w61.cell? ⟨gb167, 1, none⟩ = some (.int .i64 a0_1) := (kC BK167.out 1).trans rfl; have hcz64_2 : w61.cell? ⟨gb167, 2, none⟩ = some (.int .i64 a0_2) := (kC BK167.out 2).trans rfl; have hcz64_3 : w61.cell? ⟨gb167, 3, none⟩ = some (.int .i64 a0_3) := (kC BK167.out 3).trans rfl; have hcz64_4 : w61.cell? ⟨gb167, 4, none⟩ = some (.int .i64 a0_4) := (kC BK167.out 4).trans rfl; have hcz64_5 : w61.cell? ⟨gb167, 5, none⟩ = some (.string a0_5) := (kC BK167.out 5).trans rfl; have hfz64_0 := blk_frozen BK167.out 0; have hfz64_1 := blk_frozen BK167.out 1; have hfz64_2 := blk_frozen BK167.out 2; have hfz64_3 := blk_frozen BK167.out 3; have hfz64_4 := blk_frozen BK167.out 4; have hfz64_5 := blk_frozen BK167.out 5))
           go_ret
           exact ⟨by first | rfl | (simp [errW_none, errW_some] <;> rfl) | (simp [*, errW_none, errW_some] <;> rfl), by repeat (first | (with_reducible first | exact HB.out | apply bA | apply bN | apply b1 | refine bS ?_ GE167.out | refine bS ?_ GE172.out) | exact HB.out)⟩
          ·
           rw [if_neg c59] at H
           have c59b0 : (a0_0 == 5) = false := beq_eq_false_iff_ne.mpr c59
           have c59b1 : (a0_0 != 5) = true := bne_iff_ne.mpr c59
           by_cases c65 : a0_0 = 6
           ·
            rw [if_pos c65] at H
            have c65b0 : (a0_0 == 6) = true := beq_iff_eq.mpr c65
            have c65b1 : (a0_0 != 6) = false := bne_eq_false_iff_eq.mpr c65
            clear c65
            obtain rfl := Option.some.inj H
            have hcz66_0 : wc.cell? ⟨gb167, 0, none⟩ = some (.int .i64 a0_0) := (kC BK167.out 0).trans rfl
            have hcz66_1 : wc.cell? ⟨gb167, 1, none⟩ = some (.int .i64 a0_1) := (kC BK167.out 1).trans rfl
            have hcz66_2 : wc.cell? ⟨gb167, 2, none⟩ = some (.int .i64 a0_2) := (kC BK167.out 2).trans rfl
            have hcz66_3 : wc.cell? ⟨gb167, 3, none⟩ = some (.int .i64 a0_3) := (kC BK167.out 3).trans rfl
            have hcz66_4 : wc.cell? ⟨gb167, 4, none⟩ = some (.int .i64 a0_4) := (kC BK167.out 4).trans rfl
            have hcz66_5 : wc.cell? ⟨gb167, 5, none⟩ = some (.string a0_5) := (kC BK167.out 5).trans rfl
            have hfz66_0 := blk_frozen BK167.out 0
            have hfz66_1 := blk_frozen BK167.out 1
            have hfz66_2 := blk_frozen BK167.out 2
            have hfz66_3 := blk_frozen BK167.out 3
            have hfz66_4 := blk_frozen BK167.out 4
            have hfz66_5 := blk_frozen BK167.out 5
            have p171 : 0 ≤ (a0_1 : Int) := of_decide_eq_true (by first | (with_reducible assumption) | assumption)
            have q171 : a0_1 < (l1.length : Int) := of_decide_eq_true (by first | (with_reducible assumption) | assumption)
            obtain ⟨ad171, e171, hx171_0, hx171_1, hx171_2⟩ := at_T23 HR1.out a0_1 p171 q171
            cases e171
            replace hx171_0 := (HB.out.cell (World.block_lt_of_cell? w _ hx171_0)).trans hx171_0
            replace hx171_1 := (HB.out.cell (World.block_lt_of_cell? w _ hx171_1)).trans hx171_1
            replace hx171_2 := (HB.out.cell (World.block_lt_of_cell? w _ hx171_2)).trans hx171_2
            replace p171 := eq_true p171
            replace q171 := eq_true q171
            go_wp2_with (first | ((with_reducible refine gate_dst (N := 5) rfl ?_); (try (refine gate_guard (by rfl) ?_; dsimp only)); refine box_event ?hg (N := 5) ?hd (cs := #[.int .i64 0, .int .i64 0, .string (⟨#[]⟩ : ByteArray)]) (t := 23) ?hr ?_; (case hd => rfl); (case hg => rfl); (case hr => first | (go_simp; done) | (go_simp; rfl)); intro gb172 hg w67 hbox hb; have n0_ := am (kB (g := gb167) (o := .cells #[.int .i64 a0_0, .int .i64 a0_1, .int .i64 a0_2, .int .i64 a0_3, .int .i64 a0_4, .string a0_5] 25 (0, 0)) (by (with_reducible repeat (first | refine kN ?_ _ | refine kD ?_ | refine kA ?_ _)); exact BK167.out) hb); have n1_ := am (bP (by repeat (first | (with_reducible first | exact HB.out | apply bA | apply bN | apply b1 | refine bS ?_ GE167.out) | exact HB.out)) hb); have n2_ := am (hbox); have n3_ := am ((by rw [hg]; exact (below_size (by repeat (first | (with_reducible first | exact HB.out | apply bA | apply bN | apply b1 | refine bS ?_ GE167.out) | exact HB.out))) : w.heap.size ≤ gb172)); have n4_ := am ((by rw [hg]; exact (below_size (by repeat (first | (with_reducible first | exact HB.out | apply bA | apply bN | apply b1 | refine bS ?_ GE167.out) | exact HB.out))) : w.heap.size ≤ gb172)); have n5_ := am ((by rw [hg]; exact Nat.ne_of_lt (blk_lt (g := gb167) (o := .cells #[.int .i64 a0_0, .int .i64 a0_1, .int .i64 a0_2, .int .i64 a0_3, .int .i64 a0_4, .string a0_5] 25 (0, 0)) (by (with_reducible repeat (first | refine kN ?_ _ | refine kD ?_ | refine kA ?_ _)); exact BK167.out)) : gb167 ≠ gb172)); have n6_ := am ((by rw [hg]; exact Nat.ne_of_gt (blk_lt (g := gb167) (o := .cells #[.int .i64 a0_0, .int .i64 a0_1, .int .i64 a0_2, .int .i64 a0_3, .int .i64 a0_4, .string a0_5] 25 (0, 0)) (by (with_reducible repeat (first | refine kN ?_ _ | refine kD ?_ | refine kA ?_ _)); exact BK167.out)) : gb172 ≠ gb167)); clear BK167; clear HB; have BK167 := n0_; have HB := n1_; have BK172 := n2_; have GW172 := n3_; have GE172 := n4_; have NB167_172 := n5_; have NB172_167 := n6_; clear n0_ n1_ n2_ n3_ n4_ n5_ n6_; clear hb hbox hg; have hnb68 := NB172_167.out; have hnc68 := NB167_172.out; have hcz69_0 : w67.cell? ⟨gb172, 0, none⟩ = some (.int .i64 0) := (kC BK172.out 0).trans rfl; have hcz69_1 : w67.cell? ⟨gb172, 1, none⟩ = some (.int .i64 0) := (kC BK172.out 1).trans rfl; have hcz69_2 : w67.cell? ⟨gb172, 2, none⟩ = some (.string (⟨#[]⟩ : ByteArray)) := (kC BK172.out 2).trans rfl; have hfz69_0 := blk_frozen BK172.out 0; have hfz69_1 := blk_frozen BK172.out 1; have hfz69_2 := blk_frozen BK172.out 2; have hcz70_0 : w67.cell? ⟨gb167, 0, none⟩ = some (.int .i64 a0_0) := (kC BK167.out 0).trans rfl; have hcz70_1 : w67.cell? ⟨gb167, 1, none⟩ = some (.int .i64 a0_1) := (kC BK167.out 1).trans rfl; have hcz70_2 : w67.cell? ⟨gb167, 2, none⟩ = some (.int .i64 a0_2) := (kC BK167.out 2).trans rfl; have hcz70_3 : w67.cell? ⟨gb167, 3, none⟩ = some (.int .i64 a0_3) := (kC BK167.out 3).trans rfl; have hcz70_4 : w67.cell? ⟨gb167, 4, none⟩ = some (.int .i64 a0_4) := (kC BK167.out 4).trans rfl; have hcz70_5 : w67.cell? ⟨gb167, 5, none⟩ = some (.string a0_5) := (kC BK167.out 5).trans rfl; have hfz70_0 := blk_frozen BK167.out 0; have hfz70_1 := blk_frozen BK167.out 1; have hfz70_2 := blk_frozen BK167.out 2; have hfz70_3 := blk_frozen BK167.out 3; have hfz70_4 := blk_frozen BK167.out 4; have hfz70_5 := blk_frozen BK167.out 5))
            go_ret
            exact ⟨by first | rfl | (simp [errW_none, errW_some] <;> rfl) | (simp [*, errW_none, errW_some] <;> rfl), by repeat (first | (with_reducible first | exact HB.out | apply bA | apply bN | apply b1 | refine bS ?_ GE167.out | refine bS ?_ GE172.out) | exact HB.out)⟩
           ·
            rw [if_neg c65] at H
            have c65b0 : (a0_0 == 6) = false := beq_eq_false_iff_ne.mpr c65
            have c65b1 : (a0_0 != 6) = true := bne_iff_ne.mpr c65
            obtain rfl := Option.some.inj H
            have hcz71_0 : wc.cell? ⟨gb167, 0, none⟩ = some (.int .i64 a0_0) := (kC BK167.out 0).trans rfl
            have hcz71_1 : wc.cell? ⟨gb167, 1, none⟩ = some (.int .i64 a0_1) := (kC BK167.out 1).trans rfl
            have hcz71_2 : wc.cell? ⟨gb167, 2, none⟩ = some (.int .i64 a0_2) := (kC BK167.out 2).trans rfl
            have hcz71_3 : wc.cell? ⟨gb167, 3, none⟩ = some (.int .i64 a0_3) := (kC BK167.out 3).trans rfl
            have hcz71_4 : wc.cell? ⟨gb167, 4, none⟩ = some (.int .i64 a0_4) := (kC BK167.out 4).trans rfl
            have hcz71_5 : wc.cell? ⟨gb167, 5, none⟩ = some (.string a0_5) := (kC BK167.out 5).trans rfl
            have hfz71_0 := blk_frozen BK167.out 0
            have hfz71_1 := blk_frozen BK167.out 1
            have hfz71_2 := blk_frozen BK167.out 2
            have hfz71_3 := blk_frozen BK167.out 3
            have hfz71_4 := blk_frozen BK167.out 4
            have hfz71_5 := blk_frozen BK167.out 5
            have p171 : 0 ≤ (a0_1 : Int) := of_decide_eq_true (by first | (with_reducible assumption) | assumption)
            have q171 : a0_1 < (l1.length : Int) := of_decide_eq_true (by first | (with_reducible assumption) | assumption)
            obtain ⟨ad171, e171, hx171_0, hx171_1, hx171_2⟩ := at_T23 HR1.out a0_1 p171 q171
            cases e171
            replace hx171_0 := (HB.out.cell (World.block_lt_of_cell? w _ hx171_0)).trans hx171_0
            replace hx171_1 := (HB.out.cell (World.block_lt_of_cell? w _ hx171_1)).trans hx171_1
            replace hx171_2 := (HB.out.cell (World.block_lt_of_cell? w _ hx171_2)).trans hx171_2
            replace p171 := eq_true p171
            replace q171 := eq_true q171
            go_wp2_with (first | ((with_reducible refine gate_dst (N := 5) rfl ?_); (try (refine gate_guard (by rfl) ?_; dsimp only)); refine box_event ?hg (N := 5) ?hd (cs := #[.int .i64 0, .int .i64 0, .string (⟨#[]⟩ : ByteArray)]) (t := 23) ?hr ?_; (case hd => rfl); (case hg => rfl); (case hr => first | (go_simp; done) | (go_simp; rfl)); intro gb172 hg w72 hbox hb; have n0_ := am (kB (g := gb167) (o := .cells #[.int .i64 a0_0, .int .i64 a0_1, .int .i64 a0_2, .int .i64 a0_3, .int .i64 a0_4, .string a0_5] 25 (0, 0)) (by (with_reducible repeat (first | refine kN ?_ _ | refine kD ?_ | refine kA ?_ _)); exact BK167.out) hb); have n1_ := am (bP (by repeat (first | (with_reducible first | exact HB.out | apply bA | apply bN | apply b1 | refine bS ?_ GE167.out) | exact HB.out)) hb); have n2_ := am (hbox); have n3_ := am ((by rw [hg]; exact (below_size (by repeat (first | (with_reducible first | exact HB.out | apply bA | apply bN | apply b1 | refine bS ?_ GE167.out) | exact HB.out))) : w.heap.size ≤ gb172)); have n4_ := am ((by rw [hg]; exact (below_size (by repeat (first | (with_reducible first | exact HB.out | apply bA | apply bN | apply b1 | refine bS ?_ GE167.out) | exact HB.out))) : w.heap.size ≤ gb172)); have n5_ := am ((by rw [hg]; exact Nat.ne_of_lt (blk_lt (g := gb167) (o := .cells #[.int .i64 a0_0, .int .i64 a0_1, .int .i64 a0_2, .int .i64 a0_3, .int .i64 a0_4, .string a0_5] 25 (0, 0)) (by (with_reducible repeat (first | refine kN ?_ _ | refine kD ?_ | refine kA ?_ _)); exact BK167.out)) : gb167 ≠ gb172)); have n6_ := am ((by rw [hg]; exact Nat.ne_of_gt (blk_lt (g := gb167) (o := .cells #[.int .i64 a0_0, .int .i64 a0_1, .int .i64 a0_2, .int .i64 a0_3, .int .i64 a0_4, .string a0_5] 25 (0, 0)) (by (with_reducible repeat (first | refine kN ?_ _ | refine kD ?_ | refine kA ?_ _)); exact BK167.out)) : gb172 ≠ gb167)); clear BK167; clear HB; have BK167 := n0_; have HB := n1_; have BK172 := n2_; have GW172 := n3_; have GE172 := n4_; have NB167_172 := n5_; have NB172_167 := n6_; clear n0_ n1_ n2_ n3_ n4_ n5_ n6_; clear hb hbox hg; have hnb73 := NB172_167.out; have hnc73 := NB167_172.out; have hcz74_0 : w72.cell? ⟨gb172, 0, none⟩ = some (.int .i64 0) := (kC BK172.out 0).trans rfl; have hcz74_1 : w72.cell? ⟨gb172, 1, none⟩ = some (.int .i64 0) := (kC BK172.out 1).trans rfl; have hcz74_2 : w72.cell? ⟨gb172, 2, none⟩ = some (.string (⟨#[]⟩ : ByteArray)) := (kC BK172.out 2).trans rfl; have hfz74_0 := blk_frozen BK172.out 0; have hfz74_1 := blk_frozen BK172.out 1; have hfz74_2 := blk_frozen BK172.out 2; have hcz75_0 : w72.cell? ⟨gb167, 0, none⟩ = some (.int .i64 a0_0) := (kC BK167.out 0).trans rfl; have hcz75_1 : w72.cell? ⟨gb167, 1, none⟩ = some (.int .i64 a0_1) := (kC BK167.out 1).trans rfl; have hcz75_2 : w72.cell? ⟨gb167, 2, none⟩ = some (.int .i64 a0_2) := (kC BK167.out 2).trans rfl; have hcz75_3 : w72.cell? ⟨gb167, 3, none⟩ = some (.int .i64 a0_3) := (kC BK167.out 3).trans rfl; have hcz75_4 : w72.cell? ⟨gb167, 4, none⟩ = some (.int .i64 a0_4) := (kC BK167.out 4).trans rfl; have hcz75_5 : w72.cell? ⟨gb167, 5, none⟩ = some (.string a0_5) := (kC BK167.out 5).trans rfl; have hfz75_0 := blk_frozen BK167.out 0; have hfz75_1 := blk_frozen BK167.out 1; have hfz75_2 := blk_frozen BK167.out 2; have hfz75_3 := blk_frozen BK167.out 3; have hfz75_4 := blk_frozen BK167.out 4; have hfz75_5 := blk_frozen BK167.out 5))
            go_ret
            exact ⟨by first | rfl | (simp [errW_none, errW_some] <;> rfl) | (simp [*, errW_none, errW_some] <;> rfl), by repeat (first | (with_reducible first | exact HB.out | apply bA | apply bN | apply b1 | refine bS ?_ GE167.out | refine bS ?_ GE172.out) | exact HB.out)⟩
     ·
      rw [if_neg c18] at H
      exact absurd H (by simp)
    ·
     rw [if_neg c17] at H
     exact absurd H (by simp)

/-! ### R01_sign: function 36 -/
def R01_sign.f (a0 : Bool) : Option (Int) := if a0 = true then (some (-1)) else (some 1)
set_option maxHeartbeats 8000000 in
set_option maxRecDepth 100000 in
theorem R01_sign.calls (a0 : Bool) (r : Int) (w : World) (h : R01_sign.f a0 = some r) :
  Calls Try.prog 36 #[.bool a0] w fun e w' => e = .returned (.int .i64 r) ∧ Drawn0 w w' := by
 have H : (if a0 = true then (some (-1)) else (some 1)) = some r := h
 clear h
 by_cases c2 : a0 = true
 ·
  subst c2
  have H1 : (some (-1)) = some r := by rw [if_pos rfl] at H; exact H
  clear H
  have H := H1
  clear H1
  obtain rfl := Option.some.inj H
  go_enter Try.func36, Try.ntmps36
  go_wp2
  go_ret
  exact ⟨by first | rfl | (simp; done) | (simp [*]; done), by repeat (first | exact Drawn0.refl _ | apply Drawn0.step)⟩
 ·
  replace c2 := Bool.eq_false_iff.mpr c2
  subst c2
  have H1 : (some 1) = some r := by rw [if_neg (show ¬ (false = true) by decide)] at H; exact H
  clear H
  have H := H1
  clear H1
  obtain rfl := Option.some.inj H
  go_enter Try.func36, Try.ntmps36
  go_wp2
  go_ret
  exact ⟨by first | rfl | (simp; done) | (simp [*]; done), by repeat (first | exact Drawn0.refl _ | apply Drawn0.step)⟩

end Go.Proofs.Ytfddkjoklcbjeaa.B
