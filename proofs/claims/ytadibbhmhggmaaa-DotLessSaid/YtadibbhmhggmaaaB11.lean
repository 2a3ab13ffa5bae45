/- Written by a program of this session, out of the translation: plain functions, and that the calls do what they say. Lean checks it. -/
import Derived.Test.YtadibbhmhggmaaaB0
import Derived.Test.YtadibbhmhggmaaaB7
import Derived.Test.YtadibbhmhggmaaaB10
namespace Go.Proofs.Ytadibbhmhggmaaa.B
open Go.RowKit Go.Proofs.YtadibbhmhggmaaaW.PrintWords Go.Proofs.YtadibbhmhggmaaaW.PrintLast Go.Proofs.YtadibbhmhggmaaaW.PrintMore
attribute [local go_sem] max2_int min2_int max_two min_two max_three min_three max_four min_four Go.Proofs.Ytadibbhmhggmaaa.Open.string_gtr2 Go.Proofs.Ytadibbhmhggmaaa.Open.string_leq2 Go.Proofs.Ytadibbhmhggmaaa.Open.string_geq2   -- for this text's walks alone
set_option linter.unusedVariables false
set_option linter.unusedSimpArgs false

/-! ### L05_DotLess: function 6 -/
def L05_DotLess.j0 : Nat → Bool → Bool → Int → Int → Int → Int → Int → Int → Option (Bool)
 | 0, _, _, _, _, _, _, _, _ => none
 | k + 1, x7, x35, x206000, x206001, x207000, x207001, x208000, x208001 => if x35 = true then (some false) else (if x7 = true then ((dot_Less.f k x207000 x207001 x208000 x208001).bind fun t215 => (if t215 = true then ((dot_Less.f k x206000 x206001 x208000 x208001).bind fun t216 => (if t216 = true then (if x206000 < x207000 then ((L05_wakes.f k).bind fun t217 => (some t217)) else (if x206000 = x207000 then (if x206001 < x207001 then ((L05_wakes.f k).bind fun t218 => (some t218)) else (some false)) else (some false))) else (some false))) else (if x206000 < x207000 then ((L05_wakes.f k).bind fun t219 => (some t219)) else (if x206000 = x207000 then (if x206001 < x207001 then ((L05_wakes.f k).bind fun t220 => (some t220)) else (some false)) else (some false))))) else (if x206000 < x207000 then (some false) else (if x206000 = x207000 then (if x206001 < x207001 then (some false) else ((L05_wakes.f k).bind fun t221 => (some t221))) else ((L05_wakes.f k).bind fun t222 => (some t222)))))
def L05_DotLess.f (k : Nat) (a0_0 : Int) (a0_1 : Int) (a1_0 : Int) (a1_1 : Int) (a2_0 : Int) (a2_1 : Int) : Option (Bool) := (dot_Less.f k a0_0 a0_1 a1_0 a1_1).bind fun t208 => ((dot_Less.f k a1_0 a1_1 a0_0 a0_1).bind fun t209 => (if t208 = true then (if t209 = true then (L05_DotLess.j0 k t208 true a0_0 a0_1 a1_0 a1_1 a2_0 a2_1) else ((keep_Dot.f a0_0 a0_1 a1_0 a1_1).bind fun t210 => (if t210 = true then (L05_DotLess.j0 k t208 true a0_0 a0_1 a1_0 a1_1 a2_0 a2_1) else ((dot_Less.f k a0_0 a0_1 a0_0 a0_1).bind fun t211 => (L05_DotLess.j0 k t208 t211 a0_0 a0_1 a1_0 a1_1 a2_0 a2_1))))) else ((keep_Dot.f a0_0 a0_1 a1_0 a1_1).bind fun t212 => (if t209 = true then (if t212 = true then (L05_DotLess.j0 k t208 true a0_0 a0_1 a1_0 a1_1 a2_0 a2_1) else ((dot_Less.f k a0_0 a0_1 a0_0 a0_1).bind fun t213 => (L05_DotLess.j0 k t208 t213 a0_0 a0_1 a1_0 a1_1 a2_0 a2_1))) else (if t212 = true then ((dot_Less.f k a0_0 a0_1 a0_0 a0_1).bind fun t214 => (L05_DotLess.j0 k t208 t214 a0_0 a0_1 a1_0 a1_1 a2_0 a2_1)) else (L05_DotLess.j0 k t208 true a0_0 a0_1 a1_0 a1_1 a2_0 a2_1))))))
theorem L05_DotLess.mono_l : ∀ k, (∀ y0 y1 y2 y3 y4 y5 y6 y7, LeO (L05_DotLess.j0 k y0 y1 y2 y3 y4 y5 y6 y7) (L05_DotLess.j0 (k + 1) y0 y1 y2 y3 y4 y5 y6 y7))
 | 0 => fun _ _ _ _ _ _ _ _ r h => by simp [L05_DotLess.j0] at h
 | k + 1 => by
  have ih0 := L05_DotLess.mono_l k
  ·
   intro y0 y1 y2 y3 y4 y5 y6 y7
   unfold L05_DotLess.j0
   repeat' first
   | (with_reducible exact ih0 _ _ _ _ _ _ _ _)
   | (with_reducible exact L05_wakes.mono _)
   | (with_reducible exact dot_Less.mono _ _ _ _ _)
   | (with_reducible exact LeO.refl _)
   | (with_reducible exact LeO.none _)
   | (with_reducible refine LeO.ite ?_ ?_)
   | (with_reducible refine LeO.bind ?_ (fun _ => ?_))
   | exact ih0 _ _ _ _ _ _ _ _
   | exact L05_wakes.mono _
   | exact dot_Less.mono _ _ _ _ _
   | exact LeO.none _
   | refine LeO.ite ?_ ?_
   | refine LeO.bind ?_ (fun _ => ?_)
theorem L05_DotLess.mono : ∀ a0 a1 a2 a3 a4 a5 k, LeO (L05_DotLess.f k a0 a1 a2 a3 a4 a5) (L05_DotLess.f (k + 1) a0 a1 a2 a3 a4 a5) := by
 intro a0 a1 a2 a3 a4 a5 k
 have ih0 := L05_DotLess.mono_l k
 unfold L05_DotLess.f
 repeat' first
   | (with_reducible exact ih0 _ _ _ _ _ _ _ _)
   | (with_reducible exact L05_wakes.mono _)
   | (with_reducible exact dot_Less.mono _ _ _ _ _)
   | (with_reducible exact LeO.refl _)
   | (with_reducible exact LeO.none _)
   | (with_reducible refine LeO.ite ?_ ?_)
   | (with_reducible refine LeO.bind ?_ (fun _ => ?_))
   | exact ih0 _ _ _ _ _ _ _ _
   | exact L05_wakes.mono _
   | exact dot_Less.mono _ _ _ _ _
   | exact LeO.none _
   | refine LeO.ite ?_ ?_
   | refine LeO.bind ?_ (fun _ => ?_)
def L05_DotLess.T1 : Bool × List (List Nat × List Nat) := (true, [([], []), ([], []), ([0, 1], [0, 1]), ([], []), ([], []), ([3, 4, 2], [3, 4]), ([2, 5, 0, 1, 2], [2]), ([5, 6, 0, 1, 2, 3, 4, 5, 6], [5])])
def L05_DotLess.B1 : List Nat := [0, 0, 3, 0, 0, 31, 63, 127]
theorem L05_DotLess.tab1 : rtab .any (opsOf Try.f6 1) = L05_DotLess.T1 := by kernel_rfl
theorem L05_DotLess.bits1 : waitsOk L05_DotLess.T1.2 L05_DotLess.B1 = true := by kernel_rfl
set_option maxHeartbeats 8000000 in
set_option maxRecDepth 100000 in
theorem L05_DotLess.calls (k : Nat) (a0_0 : Int) (a0_1 : Int) (a1_0 : Int) (a1_1 : Int) (a2_0 : Int) (a2_1 : Int) (r : Bool) (w : World) (hlaw : r = true) (h : L05_DotLess.f k a0_0 a0_1 a1_0 a1_1 a2_0 a2_1 = some r) :
  Calls Try.prog 6 #[.agg #[.int .i64 a0_0, .int .i64 a0_1], .agg #[.int .i64 a1_0, .int .i64 a1_1], .agg #[.int .i64 a2_0, .int .i64 a2_1]] w fun e w' => e = .returned (.bool r) ∧ Below w.heap.size w w' := by
 have hu24 := Try.underlying24
 have HLAW := am hlaw; clear hlaw; have HB := am (Below.refl w.heap.size w)
 have H : ((dot_Less.f k a0_0 a0_1 a1_0 a1_1).bind fun t208 => ((dot_Less.f k a1_0 a1_1 a0_0 a0_1).bind fun t209 => (if t208 = true then (if t209 = true then (L05_DotLess.j0 k t208 true a0_0 a0_1 a1_0 a1_1 a2_0 a2_1) else ((keep_Dot.f a0_0 a0_1 a1_0 a1_1).bind fun t210 => (if t210 = true then (L05_DotLess.j0 k t208 true a0_0 a0_1 a1_0 a1_1 a2_0 a2_1) else ((dot_Less.f k a0_0 a0_1 a0_0 a0_1).bind fun t211 => (L05_DotLess.j0 k t208 t211 a0_0 a0_1 a1_0 a1_1 a2_0 a2_1))))) else ((keep_Dot.f a0_0 a0_1 a1_0 a1_1).bind fun t212 => (if t209 = true then (if t212 = true then (L05_DotLess.j0 k t208 true a0_0 a0_1 a1_0 a1_1 a2_0 a2_1) else ((dot_Less.f k a0_0 a0_1 a0_0 a0_1).bind fun t213 => (L05_DotLess.j0 k t208 t213 a0_0 a0_1 a1_0 a1_1 a2_0 a2_1))) else (if t212 = true then ((dot_Less.f k a0_0 a0_1 a0_0 a0_1).bind fun t214 => (L05_DotLess.j0 k t208 t214 a0_0 a0_1 a1_0 a1_1 a2_0 a2_1)) else (L05_DotLess.j0 k t208 true a0_0 a0_1 a1_0 a1_1 a2_0 a2_1))))))) = some r := h
 clear h; replace H := Option.bind_eq_some_iff.mp H
 obtain ⟨t208, A40, H⟩ := H; replace H : ((dot_Less.f k a1_0 a1_1 a0_0 a0_1).bind fun t209 => (if t208 = true then (if t209 = true then (L05_DotLess.j0 k t208 true a0_0 a0_1 a1_0 a1_1 a2_0 a2_1) else ((keep_Dot.f a0_0 a0_1 a1_0 a1_1).bind fun t210 => (if t210 = true then (L05_DotLess.j0 k t208 true a0_0 a0_1 a1_0 a1_1 a2_0 a2_1) else ((dot_Less.f k a0_0 a0_1 a0_0 a0_1).bind fun t211 => (L05_DotLess.j0 k t208 t211 a0_0 a0_1 a1_0 a1_1 a2_0 a2_1))))) else ((keep_Dot.f a0_0 a0_1 a1_0 a1_1).bind fun t212 => (if t209 = true then (if t212 = true then (L05_DotLess.j0 k t208 true a0_0 a0_1 a1_0 a1_1 a2_0 a2_1) else ((dot_Less.f k a0_0 a0_1 a0_0 a0_1).bind fun t213 => (L05_DotLess.j0 k t208 t213 a0_0 a0_1 a1_0 a1_1 a2_0 a2_1))) else (if t212 = true then ((dot_Less.f k a0_0 a0_1 a0_0 a0_1).bind fun t214 => (L05_DotLess.j0 k t208 t214 a0_0 a0_1 a1_0 a1_1 a2_0 a2_1)) else (L05_DotLess.j0 k t208 true a0_0 a0_1 a1_0 a1_1 a2_0 a2_1)))))) = some r := H
 have A4 := am A40; clear A40; replace H := Option.bind_eq_some_iff.mp H
 obtain ⟨t209, A50, H⟩ := H; replace H : (if t208 = true then (if t209 = true then (L05_DotLess.j0 k t208 true a0_0 a0_1 a1_0 a1_1 a2_0 a2_1) else ((keep_Dot.f a0_0 a0_1 a1_0 a1_1).bind fun t210 => (if t210 = true then (L05_DotLess.j0 k t208 true a0_0 a0_1 a1_0 a1_1 a2_0 a2_1) else ((dot_Less.f k a0_0 a0_1 a0_0 a0_1).bind fun t211 => (L05_DotLess.j0 k t208 t211 a0_0 a0_1 a1_0 a1_1 a2_0 a2_1))))) else ((keep_Dot.f a0_0 a0_1 a1_0 a1_1).bind fun t212 => (if t209 = true then (if t212 = true then (L05_DotLess.j0 k t208 true a0_0 a0_1 a1_0 a1_1 a2_0 a2_1) else ((dot_Less.f k a0_0 a0_1 a0_0 a0_1).bind fun t213 => (L05_DotLess.j0 k t208 t213 a0_0 a0_1 a1_0 a1_1 a2_0 a2_1))) else (if t212 = true then ((dot_Less.f k a0_0 a0_1 a0_0 a0_1).bind fun t214 => (L05_DotLess.j0 k t208 t214 a0_0 a0_1 a1_0 a1_1 a2_0 a2_1)) else (L05_DotLess.j0 k t208 true a0_0 a0_1 a1_0 a1_1 a2_0 a2_1))))) = some r := H
 have A5 := am A50; clear A50; have HC6 := am H; clear H; go_enter Try.func6, Try.ntmps6
 try go_wp2_with (first | ((with_reducible refine gate_dst (N := 3) rfl ?_); refine box_event ?hg (N := 3) ?hd (cs := #[.int .i64 a0_0, .int .i64 a0_1]) (t := 24) ?hr ?_; (case hd => rfl); (case hg => rfl); (case hr => first | (go_simp; done) | (go_simp; rfl)); intro gb205 hg w7 hbox hb; have n0_ := am (bP (by repeat (first | (with_reducible first | exact HB.out | apply bA | apply bN | apply b1) | exact HB.out)) hb); have n1_ := am (hbox); have n2_ := am ((by rw [hg]; exact (below_size (by repeat (first | (with_reducible first | exact HB.out | apply bA | apply bN | apply b1) | exact HB.out))) : w.heap.size ≤ gb205)); have n3_ := am ((by rw [hg]; exact (below_size (by repeat (first | (with_reducible first | exact HB.out | apply bA | apply bN | apply b1) | exact HB.out))) : w.heap.size ≤ gb205)); clear HB; have HB := n0_; have BK205 := n1_; have GW205 := n2_; have GE205 := n3_; clear n0_ n1_ n2_ n3_; clear hb hbox hg) | ((with_reducible refine gate_dst (N := 4) rfl ?_); refine box_event ?hg (N := 4) ?hd (cs := #[.int .i64 a1_0, .int .i64 a1_1]) (t := 24) ?hr ?_; (case hd => rfl); (case hg => rfl); (case hr => first | (go_simp; done) | (go_simp; rfl)); intro gb206 hg w8 hbox hb; have n0_ := am (kB (g := gb205) (o := .cells #[.int .i64 a0_0, .int .i64 a0_1] 24 (0, 0)) (by (with_reducible repeat (first | refine kN ?_ _ | refine kD ?_ | refine kA ?_ _)); exact BK205.out) hb); have n1_ := am (bP (by repeat (first | (with_reducible first | exact HB.out | apply bA | apply bN | apply b1 | refine bS ?_ GE205.out) | exact HB.out)) hb); have n2_ := am (hbox); have n3_ := am ((by rw [hg]; exact (below_size (by repeat (first | (with_reducible first | exact HB.out | apply bA | apply bN | apply b1 | refine bS ?_ GE205.out) | exact HB.out))) : w.heap.size ≤ gb206)); have n4_ := am ((by rw [hg]; exact (below_size (by repeat (first | (with_reducible first | exact HB.out | apply bA | apply bN | apply b1 | refine bS ?_ GE205.out) | exact HB.out))) : w.heap.size ≤ gb206)); have n5_ := am ((by rw [hg]; exact Nat.ne_of_lt (blk_lt (g := gb205) (o := .cells #[.int .i64 a0_0, .int .i64 a0_1] 24 (0, 0)) (by (with_reducible repeat (first | refine kN ?_ _ | refine kD ?_ | refine kA ?_ _)); exact BK205.out)) : gb205 ≠ gb206)); have n6_ := am ((by rw [hg]; exact Nat.ne_of_gt (blk_lt (g := gb205) (o := .cells #[.int .i64 a0_0, .int .i64 a0_1] 24 (0, 0)) (by (with_reducible repeat (first | refine kN ?_ _ | refine kD ?_ | refine kA ?_ _)); exact BK205.out)) : gb206 ≠ gb205)); clear BK205; clear HB; have BK205 := n0_; have HB := n1_; have BK206 := n2_; have GW206 := n3_; have GE206 := n4_; have NB205_206 := n5_; have NB206_205 := n6_; clear n0_ n1_ n2_ n3_ n4_ n5_ n6_; clear hb hbox hg) | ((with_reducible refine gate_dst (N := 5) rfl ?_); refine box_event ?hg (N := 5) ?hd (cs := #[.int .i64 a2_0, .int .i64 a2_1]) (t := 24) ?hr ?_; (case hd => rfl); (case hg => rfl); (case hr => first | (go_simp; done) | (go_simp; rfl)); intro gb207 hg w9 hbox hb; have n0_ := am (kB (g := gb205) (o := .cells #[.int .i64 a0_0, .int .i64 a0_1] 24 (0, 0)) (by (with_reducible repeat (first | refine kN ?_ _ | refine kD ?_ | refine kA ?_ _)); exact BK205.out) hb); have n1_ := am (kB (g := gb206) (o := .cells #[.int .i64 a1_0, .int .i64 a1_1] 24 (0, 0)) (by (with_reducible repeat (first | refine kN ?_ _ | refine kD ?_ | refine kA ?_ _)); exact BK206.out) hb); have n2_ := am (bP (by repeat (first | (with_reducible first | exact HB.out | apply bA | apply bN | apply b1 | refine bS ?_ GE205.out | refine bS ?_ GE206.out) | exact HB.out)) hb); have n3_ := am (hbox); have n4_ := am ((by rw [hg]; exact (below_size (by repeat (first | (with_reducible first | exact HB.out | apply bA | apply bN | apply b1 | refine bS ?_ GE205.out | refine bS ?_ GE206.out) | exact HB.out))) : w.heap.size ≤ gb207)); have n5_ := am ((by rw [hg]; exact (below_size (by repeat (first | (with_reducible first | exact HB.out | apply bA | apply bN | apply b1 | refine bS ?_ GE205.out | refine bS ?_ GE206.out) | exact HB.out))) : w.heap.size ≤ gb207)); have n6_ := am ((by rw [hg]; exact Nat.ne_of_lt (blk_lt (g := gb205) (o := .cells #[.int .i64 a0_0, .int .i64 a0_1] 24 (0, 0)) (by (with_reducible repeat (first | refine kN ?_ _ | refine kD ?_ | refine kA ?_ _)); exact BK205.out)) : gb205 ≠ gb207)); have n7_ := am ((by rw [hg]; exact Nat.ne_of_gt (blk_lt (g := gb205) (o := .cells #[.int .i64 a0_0, .int .i64 a0_1] 24 (0, 0)) (by (with_reducible repeat (first | refine kN ?_ _ | refine kD ?_ | refine kA ?_ _)); exact BK205.out)) : gb207 ≠ gb205)); have n8_ := am ((by rw [hg]; exact Nat.ne_of_lt (blk_lt (g := gb206) (o := .cells #[.int .i64 a1_0, .int .i64 a1_1] 24 (0, 0)) (by (with_reducible repeat (first | refine kN ?_ _ | refine kD ?_ | refine kA ?_ _)); exact BK206.out)) : gb206 ≠ gb207)); have n9_ := am ((by rw [hg]; exact Nat.ne_of_gt (blk_lt (g := gb206) (o := .cells #[.int .i64 a1_0, .int .i64 a1_1] 24 (0, 0)) (by (with_reducible repeat (first | refine kN ?_ _ | refine kD ?_ | refine kA ?_ _)); exact BK206.out)) : gb207 ≠ gb206)); clear BK205; clear BK206; clear HB; have BK205 := n0_; have BK206 := n1_; have HB := n2_; have BK207 := n3_; have GW207 := n4_; have GE207 := n5_; have NB205_207 := n6_; have NB207_205 := n7_; have NB206_207 := n8_; have NB207_206 := n9_; clear n0_ n1_ n2_ n3_ n4_ n5_ n6_ n7_ n8_ n9_; clear hb hbox hg))
 have n0_ := am (kD BK205.out)
 have n1_ := am (kD BK206.out)
 have n2_ := am (kD BK207.out)
 have n3_ := am (b1 HB.out)
 clear BK205; clear BK206; clear BK207; clear HB; have BK205 := n0_; have BK206 := n1_; have BK207 := n2_; have HB := n3_; clear n0_ n1_ n2_ n3_; refine start_ (n := 8) (S := fun w' => w'.cell? ⟨gb205, 0, none⟩ = some (.int .i64 a0_0) ∧ w'.cell? ⟨gb205, 1, none⟩ = some (.int .i64 a0_1) ∧ w'.cell? ⟨gb206, 0, none⟩ = some (.int .i64 a1_0) ∧ w'.cell? ⟨gb206, 1, none⟩ = some (.int .i64 a1_1)) (ds := []) #[F,F,F,F,F,F,F,F] (by kernel_rfl) rfl rfl ⟨(kC BK205.out 0).trans rfl, (kC BK205.out 1).trans rfl, (kC BK206.out 0).trans rfl, (kC BK206.out 1).trans rfl⟩ (fun hHeld => ?_); refine with_tabW L05_DotLess.tab1 L05_DotLess.bits1 (fun HT_ HW_ => ?_)
 generalize w9.drew = w10 at BK205 BK206 BK207 HB hHeld ⊢
 refine take_ (i := 0) (N := some 9) (v := ?_) (a' := ?_) (Open.bT 1 7) rfl rfl (take_ofW HT_.out HW_.out (by kernel_rfl)) (fun _ _ _ h => h) (Or.inl ⟨by rfl, ?_⟩) hHeld ?_ ?_
 rotate_left
 ·
  rintro w' ⟨s0, s1, s2, s3⟩
  go_simp; with_reducible rfl
 rotate_left
 ·
  simp only [Act.put, sA, sZ, sS, i64_w, i32_w]; rfl
 refine take_ (i := 1) (N := some 10) (v := ?_) (a' := ?_) (Open.bT 2 6) rfl rfl (take_ofW HT_.out HW_.out (by kernel_rfl)) (fun _ _ _ h => h) (Or.inl ⟨by rfl, ?_⟩) hHeld ?_ ?_
 rotate_left
 ·
  rintro w' ⟨s0, s1, s2, s3⟩
  go_simp; with_reducible rfl
 rotate_left
 ·
  simp only [Act.put, sA, sZ, sS, i64_w, i32_w]; rfl
 refine take_ (i := 3) (N := some 12) (v := ?_) (a' := ?_) #[T,T,F,T,F,F,F,F] rfl rfl (take_ofW HT_.out HW_.out (by kernel_rfl)) (fun _ _ _ h => h) (Or.inl ⟨by rfl, ?_⟩) hHeld ?_ ?_
 rotate_left
 ·
  rintro w' ⟨s0, s1, s2, s3⟩
  go_simp; with_reducible rfl
 rotate_left
 ·
  simp only [Act.put, sA, sZ, sS, i64_w, i32_w]; rfl
 refine take_ (i := 4) (N := some 13) (v := ?_) (a' := ?_) #[T,T,F,T,T,F,F,F] rfl rfl (take_ofW HT_.out HW_.out (by kernel_rfl)) (fun _ _ _ h => h) (Or.inl ⟨by rfl, ?_⟩) hHeld ?_ ?_
 rotate_left
 ·
  rintro w' ⟨s0, s1, s2, s3⟩
  go_simp; with_reducible rfl
 rotate_left
 ·
  simp only [Act.put, sA, sZ, sS, i64_w, i32_w]; rfl
 refine one_ (i := 2) (N := some 11) (Open.bT 5 3) rfl rfl (one_of HT_.out (by kernel_rfl)) (by decide) (fun K hK => ?_)
 refine goes_ Try.func22 (by kernel_rfl) rfl #[.agg #[.int .i64 a0_0, .int .i64 a0_1], .agg #[.int .i64 a1_0, .int .i64 a1_1]] (by rfl) rfl rfl (by (try simp only [List.map_toArray, List.map_cons, List.map_nil]); first | done | rfl | (simp only [List.length_drop, List.length_take]; rfl)) ?_
 with_reducible refine (dot_Less.calls k a0_0 a0_1 a1_0 a1_1 t208 _ A4.out).mono ?_
 rintro e w11 ⟨rfl, hb⟩
 refine ⟨_, rfl, ?_⟩
 have n0_ := am (kB (g := gb205) (o := .cells #[.int .i64 a0_0, .int .i64 a0_1] 24 (0, 0)) (by (with_reducible repeat (first | refine kN ?_ _ | refine kD ?_ | refine kA ?_ _)); exact BK205.out) hb)
 have n1_ := am (kB (g := gb206) (o := .cells #[.int .i64 a1_0, .int .i64 a1_1] 24 (0, 0)) (by (with_reducible repeat (first | refine kN ?_ _ | refine kD ?_ | refine kA ?_ _)); exact BK206.out) hb)
 have n2_ := am (kB (g := gb207) (o := .cells #[.int .i64 a2_0, .int .i64 a2_1] 24 (0, 0)) (by (with_reducible repeat (first | refine kN ?_ _ | refine kD ?_ | refine kA ?_ _)); exact BK207.out) hb)
 have n3_ := am (bP (by repeat (first | (with_reducible first | exact HB.out | apply bA | apply bN | apply b1 | refine bS ?_ GE205.out | refine bS ?_ GE206.out | refine bS ?_ GE207.out) | exact HB.out)) hb)
 clear BK205; clear BK206; clear BK207; clear HB; have BK205 := n0_; have BK206 := n1_; have BK207 := n2_; have HB := n3_; clear n0_ n1_ n2_ n3_; (try clear hb); (try clear hb2); (try clear hk); (try clear hi); refine hK.out _ _ ⟨(kC BK205.out 0).trans rfl, (kC BK205.out 1).trans rfl, (kC BK206.out 0).trans rfl, (kC BK206.out 1).trans rfl⟩ (fun hHeld => ?_)
 clear hK K; refine norm_ (a' := ?_) ?_ ?_
 rotate_left
 ·
  show Act.put _ (some 11) _ = _
  simp only [Act.put, sA, sZ, sS, i64_w, i32_w]; rfl
 refine one_ (i := 5) (N := some 14) (Open.bT 6 2) rfl rfl (one_of HT_.out (by kernel_rfl)) (by decide) (fun K hK => ?_)
 refine goes_ Try.func22 (by kernel_rfl) rfl #[.agg #[.int .i64 a1_0, .int .i64 a1_1], .agg #[.int .i64 a0_0, .int .i64 a0_1]] (by rfl) rfl rfl (by (try simp only [List.map_toArray, List.map_cons, List.map_nil]); first | done | rfl | (simp only [List.length_drop, List.length_take]; rfl)) ?_
 with_reducible refine (dot_Less.calls k a1_0 a1_1 a0_0 a0_1 t209 _ A5.out).mono ?_
 rintro e w12 ⟨rfl, hb⟩
 refine ⟨_, rfl, ?_⟩
 have n0_ := am (kB (g := gb205) (o := .cells #[.int .i64 a0_0, .int .i64 a0_1] 24 (0, 0)) (by (with_reducible repeat (first | refine kN ?_ _ | refine kD ?_ | refine kA ?_ _)); exact BK205.out) hb)
 have n1_ := am (kB (g := gb206) (o := .cells #[.int .i64 a1_0, .int .i64 a1_1] 24 (0, 0)) (by (with_reducible repeat (first | refine kN ?_ _ | refine kD ?_ | refine kA ?_ _)); exact BK206.out) hb)
 have n2_ := am (kB (g := gb207) (o := .cells #[.int .i64 a2_0, .int .i64 a2_1] 24 (0, 0)) (by (with_reducible repeat (first | refine kN ?_ _ | refine kD ?_ | refine kA ?_ _)); exact BK207.out) hb)
 have n3_ := am (bP (by repeat (first | (with_reducible first | exact HB.out | apply bA | apply bN | apply b1 | refine bS ?_ GE205.out | refine bS ?_ GE206.out | refine bS ?_ GE207.out) | exact HB.out)) hb)
 clear BK205; clear BK206; clear BK207; clear HB; have BK205 := n0_; have BK206 := n1_; have BK207 := n2_; have HB := n3_; clear n0_ n1_ n2_ n3_; (try clear hb); (try clear hb2); (try clear hk); (try clear hi); refine hK.out _ _ ⟨(kC BK205.out 0).trans rfl, (kC BK205.out 1).trans rfl, (kC BK206.out 0).trans rfl, (kC BK206.out 1).trans rfl⟩ (fun hHeld => ?_)
 clear hK K; refine norm_ (a' := ?_) ?_ ?_
 rotate_left
 ·
  show Act.put _ (some 14) _ = _
  simp only [Act.put, sA, sZ, sS, i64_w, i32_w]; rfl
 refine Open.pV (i := 6) (N := some 7) (Open.bT 7 1) rfl rfl HT_.out (by kernel_rfl) (fun _ _ _ h => h) (by rfl) (by intro w'; go_simp; with_reducible rfl) (by simp only [Act.put, sA, sZ, sS, i64_w, i32_w]; rfl) ?_
 refine Open.pV (i := 7) (N := some 8) (Open.bT 8 0) rfl rfl HT_.out (by kernel_rfl) (fun _ _ _ h => h) (by rfl) (by intro w'; go_simp; with_reducible rfl) (by simp only [Act.put, sA, sZ, sS, i64_w, i32_w]; rfl) ?_
 refine done_ (done_of HT_.out (by kernel_rfl)) ?_
 go_upto_region 2 with (fail)
 go_cut [35] (fun v35 wc => ∃ (kq : Nat) (x35_5 : Bool), v35 = .bool x35_5 ∧ Aside0 (L05_DotLess.j0 kq t208 x35_5 a0_0 a0_1 a1_0 a1_1 a2_0 a2_1 = some r) ∧ Aside0 (kq ≤ k) ∧ Aside0 (wc.heap[gb205]? = some (.cells #[.int .i64 a0_0, .int .i64 a0_1] 24 (0, 0))) ∧ Aside0 (wc.heap[gb206]? = some (.cells #[.int .i64 a1_0, .int .i64 a1_1] 24 (0, 0))) ∧ Aside0 (wc.heap[gb207]? = some (.cells #[.int .i64 a2_0, .int .i64 a2_1] 24 (0, 0))) ∧ Aside0 (Below w.heap.size w wc))
 case first =>
  have H := HC6.out; clear HC6; by_cases c13 : t208 = true
  ·
   subst c13; have H1 : (if t209 = true then (L05_DotLess.j0 k true true a0_0 a0_1 a1_0 a1_1 a2_0 a2_1) else ((keep_Dot.f a0_0 a0_1 a1_0 a1_1).bind fun t210 => (if t210 = true then (L05_DotLess.j0 k true true a0_0 a0_1 a1_0 a1_1 a2_0 a2_1) else ((dot_Less.f k a0_0 a0_1 a0_0 a0_1).bind fun t211 => (L05_DotLess.j0 k true t211 a0_0 a0_1 a1_0 a1_1 a2_0 a2_1))))) = some r := by rw [if_pos rfl] at H; exact H
   clear H; have H := H1; clear H1; by_cases c14 : t209 = true
   ·
    subst c14; have H1 : (L05_DotLess.j0 k true true a0_0 a0_1 a1_0 a1_1 a2_0 a2_1) = some r := by rw [if_pos rfl] at H; exact H
    clear H; have H := H1; clear H1; have H' := am H
    clear H; go_wp2
    go_meet
    case rel => exact ⟨_, (true), (by first | rfl | (simp; done) | (simp [*]; done)), H', ⟨by first | omega | exact Nat.le_refl _⟩, ⟨by (with_reducible repeat (first | refine kN ?_ _ | refine kD ?_ | refine kA ?_ _)); exact BK205.out⟩, ⟨by (with_reducible repeat (first | refine kN ?_ _ | refine kD ?_ | refine kA ?_ _)); exact BK206.out⟩, ⟨by (with_reducible repeat (first | refine kN ?_ _ | refine kD ?_ | refine kA ?_ _)); exact BK207.out⟩, ⟨by repeat (first | (with_reducible first | exact HB.out | apply bA | apply bN | apply b1 | refine bS ?_ GE205.out | refine bS ?_ GE206.out | refine bS ?_ GE207.out) | exact HB.out)⟩⟩
   ·
    replace c14 := Bool.eq_false_iff.mpr c14
    subst c14; have H1 : ((keep_Dot.f a0_0 a0_1 a1_0 a1_1).bind fun t210 => (if t210 = true then (L05_DotLess.j0 k true true a0_0 a0_1 a1_0 a1_1 a2_0 a2_1) else ((dot_Less.f k a0_0 a0_1 a0_0 a0_1).bind fun t211 => (L05_DotLess.j0 k true t211 a0_0 a0_1 a1_0 a1_1 a2_0 a2_1)))) = some r := by rw [if_neg (show ¬ (false = true) by decide)] at H; exact H
    clear H; have H := H1; clear H1; replace H := Option.bind_eq_some_iff.mp H
    obtain ⟨t210, A150, H⟩ := H; replace H : (if t210 = true then (L05_DotLess.j0 k true true a0_0 a0_1 a1_0 a1_1 a2_0 a2_1) else ((dot_Less.f k a0_0 a0_1 a0_0 a0_1).bind fun t211 => (L05_DotLess.j0 k true t211 a0_0 a0_1 a1_0 a1_1 a2_0 a2_1))) = some r := H
    have A15 := am A150; clear A150; by_cases c16 : t210 = true
    ·
     subst c16; have H1 : (L05_DotLess.j0 k true true a0_0 a0_1 a1_0 a1_1 a2_0 a2_1) = some r := by rw [if_pos rfl] at H; exact H
     clear H; have H := H1; clear H1; have H' := am H
     clear H; have hnb17 := NB205_206.out; have hnc17 := NB206_205.out; have hnb18 := NB205_207.out; have hnc18 := NB207_205.out; have hcz19_0 : w12.cell? ⟨gb205, 0, none⟩ = some (.int .i64 a0_0) := (kC BK205.out 0).trans rfl
     have hcz19_1 : w12.cell? ⟨gb205, 1, none⟩ = some (.int .i64 a0_1) := (kC BK205.out 1).trans rfl
     have hfz19_0 := blk_frozen BK205.out 0
     have hfz19_1 := blk_frozen BK205.out 1
     have hnb20 := NB206_207.out; have hnc20 := NB207_206.out; have hcz21_0 : w12.cell? ⟨gb206, 0, none⟩ = some (.int .i64 a1_0) := (kC BK206.out 0).trans rfl
     have hcz21_1 : w12.cell? ⟨gb206, 1, none⟩ = some (.int .i64 a1_1) := (kC BK206.out 1).trans rfl
     have hfz21_0 := blk_frozen BK206.out 0
     have hfz21_1 := blk_frozen BK206.out 1
     go_wp2_with (first | (go_at_call 23; (with_reducible refine (keep_Dot.calls a0_0 a0_1 a1_0 a1_1 true _ A15.out).mono ?_); rintro e w22 ⟨rfl, hb⟩; have n0_ := am (kB (g := gb205) (o := .cells #[.int .i64 a0_0, .int .i64 a0_1] 24 (0, 0)) (by (with_reducible repeat (first | refine kN ?_ _ | refine kD ?_ | refine kA ?_ _)); exact BK205.out) hb); have n1_ := am (kB (g := gb206) (o := .cells #[.int .i64 a1_0, .int .i64 a1_1] 24 (0, 0)) (by (with_reducible repeat (first | refine kN ?_ _ | refine kD ?_ | refine kA ?_ _)); exact BK206.out) hb); have n2_ := am (kB (g := gb207) (o := .cells #[.int .i64 a2_0, .int .i64 a2_1] 24 (0, 0)) (by (with_reducible repeat (first | refine kN ?_ _ | refine kD ?_ | refine kA ?_ _)); exact BK207.out) hb); have n3_ := am (bP (by repeat (first | (with_reducible first | exact HB.out | apply bA | apply bN | apply b1 | refine bS ?_ GE205.out | refine bS ?_ GE206.out | refine bS ?_ GE207.out) | exact HB.out)) hb); clear BK205; clear BK206; clear BK207; clear HB; have BK205 := n0_; have BK206 := n1_; have BK207 := n2_; have HB := n3_; clear n0_ n1_ n2_ n3_; (try clear hb); (try clear hb2); (try clear hk); (try clear hi)))
     go_meet
     case rel => exact ⟨_, (true), (by first | rfl | (simp; done) | (simp [*]; done)), H', ⟨by first | omega | exact Nat.le_refl _⟩, ⟨by (with_reducible repeat (first | refine kN ?_ _ | refine kD ?_ | refine kA ?_ _)); exact BK205.out⟩, ⟨by (with_reducible repeat (first | refine kN ?_ _ | refine kD ?_ | refine kA ?_ _)); exact BK206.out⟩, ⟨by (with_reducible repeat (first | refine kN ?_ _ | refine kD ?_ | refine kA ?_ _)); exact BK207.out⟩, ⟨by repeat (first | (with_reducible first | exact HB.out | apply bA | apply bN | apply b1 | refine bS ?_ GE205.out | refine bS ?_ GE206.out | refine bS ?_ GE207.out) | exact HB.out)⟩⟩
    ·
     replace c16 := Bool.eq_false_iff.mpr c16
     subst c16; have H1 : ((dot_Less.f k a0_0 a0_1 a0_0 a0_1).bind fun t211 => (L05_DotLess.j0 k true t211 a0_0 a0_1 a1_0 a1_1 a2_0 a2_1)) = some r := by rw [if_neg (show ¬ (false = true) by decide)] at H; exact H
     clear H; have H := H1; clear H1; replace H := Option.bind_eq_some_iff.mp H
     obtain ⟨t211, A230, H⟩ := H; replace H : (L05_DotLess.j0 k true t211 a0_0 a0_1 a1_0 a1_1 a2_0 a2_1) = some r := H
     have A23 := am A230; clear A230; have H' := am H
     clear H; have hnb24 := NB205_206.out; have hnc24 := NB206_205.out; have hnb25 := NB205_207.out; have hnc25 := NB207_205.out; have hcz26_0 : w12.cell? ⟨gb205, 0, none⟩ = some (.int .i64 a0_0) := (kC BK205.out 0).trans rfl
     have hcz26_1 : w12.cell? ⟨gb205, 1, none⟩ = some (.int .i64 a0_1) := (kC BK205.out 1).trans rfl
     have hfz26_0 := blk_frozen BK205.out 0
     have hfz26_1 := blk_frozen BK205.out 1
     have hnb27 := NB206_207.out; have hnc27 := NB207_206.out; have hcz28_0 : w12.cell? ⟨gb206, 0, none⟩ = some (.int .i64 a1_0) := (kC BK206.out 0).trans rfl
     have hcz28_1 : w12.cell? ⟨gb206, 1, none⟩ = some (.int .i64 a1_1) := (kC BK206.out 1).trans rfl
     have hfz28_0 := blk_frozen BK206.out 0
     have hfz28_1 := blk_frozen BK206.out 1
     go_wp2_with (first | (go_at_call 23; (with_reducible refine (keep_Dot.calls a0_0 a0_1 a1_0 a1_1 false _ A15.out).mono ?_); rintro e w29 ⟨rfl, hb⟩; have n0_ := am (kB (g := gb205) (o := .cells #[.int .i64 a0_0, .int .i64 a0_1] 24 (0, 0)) (by (with_reducible repeat (first | refine kN ?_ _ | refine kD ?_ | refine kA ?_ _)); exact BK205.out) hb); have n1_ := am (kB (g := gb206) (o := .cells #[.int .i64 a1_0, .int .i64 a1_1] 24 (0, 0)) (by (with_reducible repeat (first | refine kN ?_ _ | refine kD ?_ | refine kA ?_ _)); exact BK206.out) hb); have n2_ := am (kB (g := gb207) (o := .cells #[.int .i64 a2_0, .int .i64 a2_1] 24 (0, 0)) (by (with_reducible repeat (first | refine kN ?_ _ | refine kD ?_ | refine kA ?_ _)); exact BK207.out) hb); have n3_ := am (bP (by repeat (first | (with_reducible first | exact HB.out | apply bA | apply bN | apply b1 | refine bS ?_ GE205.out | refine bS ?_ GE206.out | refine bS ?_ GE207.out) | exact HB.out)) hb); clear BK205; clear BK206; clear BK207; clear HB; have BK205 := n0_; have BK206 := n1_; have BK207 := n2_; have HB := n3_; clear n0_ n1_ n2_ n3_; (try clear hb); (try clear hb2); (try clear hk); (try clear hi); have hcz30_0 : w29.cell? ⟨gb205, 0, none⟩ = some (.int .i64 a0_0) := (kC BK205.out 0).trans rfl; have hcz30_1 : w29.cell? ⟨gb205, 1, none⟩ = some (.int .i64 a0_1) := (kC BK205.out 1).trans rfl; have hfz30_0 := blk_frozen BK205.out 0; have hfz30_1 := blk_frozen BK205.out 1) | (go_at_call 22; (with_reducible refine (dot_Less.calls k a0_0 a0_1 a0_0 a0_1 t211 _ A23.out).mono ?_); rintro e w31 ⟨rfl, hb⟩; have n0_ := am (kB (g := gb205) (o := .cells #[.int .i64 a0_0, .int .i64 a0_1] 24 (0, 0)) (by (with_reducible repeat (first | refine kN ?_ _ | refine kD ?_ | refine kA ?_ _)); exact BK205.out) hb); have n1_ := am (kB (g := gb206) (o := .cells #[.int .i64 a1_0, .int .i64 a1_1] 24 (0, 0)) (by (with_reducible repeat (first | refine kN ?_ _ | refine kD ?_ | refine kA ?_ _)); exact BK206.out) hb); have n2_ := am (kB (g := gb207) (o := .cells #[.int .i64 a2_0, .int .i64 a2_1] 24 (0, 0)) (by (with_reducible repeat (first | refine kN ?_ _ | refine kD ?_ | refine kA ?_ _)); exact BK207.out) hb); have n3_ := am (bP (by repeat (first | (with_reducible first | exact HB.out | apply bA | apply bN | apply b1 | refine bS ?_ GE205.out | refine bS ?_ GE206.out | refine bS ?_ GE207.out) | exact HB.out)) hb); clear BK205; clear BK206; clear BK207; clear HB; have BK205 := n0_; have BK206 := n1_; have BK207 := n2_; have HB := n3_; clear n0_ n1_ n2_ n3_; (try clear hb); (try clear hb2); (try clear hk); (try clear hi)))
     go_meet
     case rel => exact ⟨_, (t211), (by first | rfl | (simp; done) | (simp [*]; done)), H', ⟨by first | omega | exact Nat.le_refl _⟩, ⟨by (with_reducible repeat (first | refine kN ?_ _ | refine kD ?_ | refine kA ?_ _)); exact BK205.out⟩, ⟨by (with_reducible repeat (first | refine kN ?_ _ | refine kD ?_ | refine kA ?_ _)); exact BK206.out⟩, ⟨by (with_reducible repeat (first | refine kN ?_ _ | refine kD ?_ | refine kA ?_ _)); exact BK207.out⟩, ⟨by repeat (first | (with_reducible first | exact HB.out | apply bA | apply bN | apply b1 | refine bS ?_ GE205.out | refine bS ?_ GE206.out | refine bS ?_ GE207.out) | exact HB.out)⟩⟩
  ·
   replace c13 := Bool.eq_false_iff.mpr c13
   subst c13; have H1 : ((keep_Dot.f a0_0 a0_1 a1_0 a1_1).bind fun t212 => (if t209 = true then (if t212 = true then (L05_DotLess.j0 k false true a0_0 a0_1 a1_0 a1_1 a2_0 a2_1) else ((dot_Less.f k a0_0 a0_1 a0_0 a0_1).bind fun t213 => (L05_DotLess.j0 k false t213 a0_0 a0_1 a1_0 a1_1 a2_0 a2_1))) else (if t212 = true then ((dot_Less.f k a0_0 a0_1 a0_0 a0_1).bind fun t214 => (L05_DotLess.j0 k false t214 a0_0 a0_1 a1_0 a1_1 a2_0 a2_1)) else (L05_DotLess.j0 k false true a0_0 a0_1 a1_0 a1_1 a2_0 a2_1)))) = some r := by rw [if_neg (show ¬ (false = true) by decide)] at H; exact H
   clear H; have H := H1; clear H1; replace H := Option.bind_eq_some_iff.mp H
   obtain ⟨t212, A320, H⟩ := H; replace H : (if t209 = true then (if t212 = true then (L05_DotLess.j0 k false true a0_0 a0_1 a1_0 a1_1 a2_0 a2_1) else ((dot_Less.f k a0_0 a0_1 a0_0 a0_1).bind fun t213 => (L05_DotLess.j0 k false t213 a0_0 a0_1 a1_0 a1_1 a2_0 a2_1))) else (if t212 = true then ((dot_Less.f k a0_0 a0_1 a0_0 a0_1).bind fun t214 => (L05_DotLess.j0 k false t214 a0_0 a0_1 a1_0 a1_1 a2_0 a2_1)) else (L05_DotLess.j0 k false true a0_0 a0_1 a1_0 a1_1 a2_0 a2_1))) = some r := H
   have A32 := am A320; clear A320; by_cases c33 : t209 = true
   ·
    subst c33; have H1 : (if t212 = true then (L05_DotLess.j0 k false true a0_0 a0_1 a1_0 a1_1 a2_0 a2_1) else ((dot_Less.f k a0_0 a0_1 a0_0 a0_1).bind fun t213 => (L05_DotLess.j0 k false t213 a0_0 a0_1 a1_0 a1_1 a2_0 a2_1))) = some r := by rw [if_pos rfl] at H; exact H
    clear H; have H := H1; clear H1; by_cases c34 : t212 = true
    ·
     subst c34; have H1 : (L05_DotLess.j0 k false true a0_0 a0_1 a1_0 a1_1 a2_0 a2_1) = some r := by rw [if_pos rfl] at H; exact H
     clear H; have H := H1; clear H1; have H' := am H
     clear H; have hnb35 := NB205_206.out; have hnc35 := NB206_205.out; have hnb36 := NB205_207.out; have hnc36 := NB207_205.out; have hcz37_0 : w12.cell? ⟨gb205, 0, none⟩ = some (.int .i64 a0_0) := (kC BK205.out 0).trans rfl
     have hcz37_1 : w12.cell? ⟨gb205, 1, none⟩ = some (.int .i64 a0_1) := (kC BK205.out 1).trans rfl
     have hfz37_0 := blk_frozen BK205.out 0
     have hfz37_1 := blk_frozen BK205.out 1
     have hnb38 := NB206_207.out; have hnc38 := NB207_206.out; have hcz39_0 : w12.cell? ⟨gb206, 0, none⟩ = some (.int .i64 a1_0) := (kC BK206.out 0).trans rfl
     have hcz39_1 : w12.cell? ⟨gb206, 1, none⟩ = some (.int .i64 a1_1) := (kC BK206.out 1).trans rfl
     have hfz39_0 := blk_frozen BK206.out 0
     have hfz39_1 := blk_frozen BK206.out 1
     go_wp2_with (first | (go_at_call 23; (with_reducible refine (keep_Dot.calls a0_0 a0_1 a1_0 a1_1 true _ A32.out).mono ?_); rintro e w40 ⟨rfl, hb⟩; have n0_ := am (kB (g := gb205) (o := .cells #[.int .i64 a0_0, .int .i64 a0_1] 24 (0, 0)) (by (with_reducible repeat (first | refine kN ?_ _ | refine kD ?_ | refine kA ?_ _)); exact BK205.out) hb); have n1_ := am (kB (g := gb206) (o := .cells #[.int .i64 a1_0, .int .i64 a1_1] 24 (0, 0)) (by (with_reducible repeat (first | refine kN ?_ _ | refine kD ?_ | refine kA ?_ _)); exact BK206.out) hb); have n2_ := am (kB (g := gb207) (o := .cells #[.int .i64 a2_0, .int .i64 a2_1] 24 (0, 0)) (by (with_reducible repeat (first | refine kN ?_ _ | refine kD ?_ | refine kA ?_ _)); exact BK207.out) hb); have n3_ := am (bP (by repeat (first | (with_reducible first | exact HB.out | apply bA | apply bN | apply b1 | refine bS ?_ GE205.out | refine bS ?_ GE206.out | refine bS ?_ GE207.out) | exact HB.out)) hb); clear BK205; clear BK206; clear BK207; clear HB; have BK205 := n0_; have BK206 := n1_; have BK207 := n2_; have HB := n3_; clear n0_ n1_ n2_ n3_; (try clear hb); (try clear hb2); (try clear hk); (try clear hi)))
     go_meet
     case rel => exact ⟨_, (true), (by first | rfl | (simp; done) | (simp [*]; done)), H', ⟨by first | omega | exact Nat.le_refl _⟩, ⟨by (with_reducible repeat (first | refine kN ?_ _ | refine kD ?_ | refine kA ?_ _)); exact BK205.out⟩, ⟨by (with_reducible repeat (first | refine kN ?_ _ | refine kD ?_ | refine kA ?_ _)); exact BK206.out⟩, ⟨by (with_reducible repeat (first | refine kN ?_ _ | refine kD ?_ | refine kA ?_ _)); exact BK207.out⟩, ⟨by repeat (first | (with_reducible first | exact HB.out | apply bA | apply bN | apply b1 | refine bS ?_ GE205.out | refine bS ?_ GE206.out | refine bS ?_ GE207.out) | exact HB.out)⟩⟩
    ·
     replace c34 := Bool.eq_false_iff.mpr c34
     subst c34; have H1 : ((dot_Less.f k a0_0 a0_1 a0_0 a0_1).bind fun t213 => (L05_DotLess.j0 k false t213 a0_0 a0_1 a1_0 a1_1 a2_0 a2_1)) = some r := by rw [if_neg (show ¬ (false = true) by decide)] at H; exact H
     clear H; have H := H1; clear H1; replace H := Option.bind_eq_some_iff.mp H
     obtain ⟨t213, A410, H⟩ := H; replace H : (L05_DotLess.j0 k false t213 a0_0 a0_1 a1_0 a1_1 a2_0 a2_1) = some r := H
     have A41 := am A410; clear A410; have H' := am H
     clear H; have hnb42 := NB205_206.out; have hnc42 := NB206_205.out; have hnb43 := NB205_207.out; have hnc43 := NB207_205.out; have hcz44_0 : w12.cell? ⟨gb205, 0, none⟩ = some (.int .i64 a0_0) := (kC BK205.out 0).trans rfl
     have hcz44_1 : w12.cell? ⟨gb205, 1, none⟩ = some (.int .i64 a0_1) := (kC BK205.out 1).trans rfl
     have hfz44_0 := blk_frozen BK205.out 0
     have hfz44_1 := blk_frozen BK205.out 1
     have hnb45 := NB206_207.out; have hnc45 := NB207_206.out; have hcz46_0 : w12.cell? ⟨gb206, 0, none⟩ = some (.int .i64 a1_0) := (kC BK206.out 0).trans rfl
     have hcz46_1 : w12.cell? ⟨gb206, 1, none⟩ = some (.int .i64 a1_1) := (kC BK206.out 1).trans rfl
     have hfz46_0 := blk_frozen BK206.out 0
     have hfz46_1 := blk_frozen BK206.out 1
     go_wp2_with (first | (go_at_call 23; (with_reducible refine (keep_Dot.calls a0_0 a0_1 a1_0 a1_1 false _ A32.out).mono ?_); rintro e w47 ⟨rfl, hb⟩; have n0_ := am (kB (g := gb205) (o := .cells #[.int .i64 a0_0, .int .i64 a0_1] 24 (0, 0)) (by (with_reducible repeat (first | refine kN ?_ _ | refine kD ?_ | refine kA ?_ _)); exact BK205.out) hb); have n1_ := am (kB (g := gb206) (o := .cells #[.int .i64 a1_0, .int .i64 a1_1] 24 (0, 0)) (by (with_reducible repeat (first | refine kN ?_ _ | refine kD ?_ | refine kA ?_ _)); exact BK206.out) hb); have n2_ := am (kB (g := gb207) (o := .cells #[.int .i64 a2_0, .int .i64 a2_1] 24 (0, 0)) (by (with_reducible repeat (first | refine kN ?_ _ | refine kD ?_ | refine kA ?_ _)); exact BK207.out) hb); have n3_ := am (bP (by repeat (first | (with_reducible first | exact HB.out | apply bA | apply bN | apply b1 | refine bS ?_ GE205.out | refine bS ?_ GE206.out | refine bS ?_ GE207.out) | exact HB.out)) hb); clear BK205; clear BK206; clear BK207; clear HB; have BK205 := n0_; have BK206 := n1_; have BK207 := n2_; have HB := n3_; clear n0_ n1_ n2_ n3_; (try clear hb); (try clear hb2); (try clear hk); (try clear hi); have hcz48_0 : w47.cell? ⟨gb205, 0, none⟩ = some (.int .i64 a0_0) := (kC BK205.out 0).trans rfl; have hcz48_1 : w47.cell? ⟨gb205, 1, none⟩ = some (.int .i64 a0_1) := (kC BK205.out 1).trans rfl; have hfz48_0 := blk_frozen BK205.out 0; have hfz48_1 := blk_frozen BK205.out 1) | (go_at_call 22; (with_reducible refine (dot_Less.calls k a0_0 a0_1 a0_0 a0_1 t213 _ A41.out).mono ?_); rintro e w49 ⟨rfl, hb⟩; have n0_ := am (kB (g := gb205) (o := .cells #[.int .i64 a0_0, .int .i64 a0_1] 24 (0, 0)) (by (with_reducible repeat (first | refine kN ?_ _ | refine kD ?_ | refine kA ?_ _)); exact BK205.out) hb); have n1_ := am (kB (g := gb206) (o := .cells #[.int .i64 a1_0, .int .i64 a1_1] 24 (0, 0)) (by (with_reducible repeat (first | refine kN ?_ _ | refine kD ?_ | refine kA ?_ _)); exact BK206.out) hb); have n2_ := am (kB (g := gb207) (o := .cells #[.int .i64 a2_0, .int .i64 a2_1] 24 (0, 0)) (by (with_reducible repeat (first | refine kN ?_ _ | refine kD ?_ | refine kA ?_ _)); exact BK207.out) hb); have n3_ := am (bP (by repeat (first | (with_reducible first | exact HB.out | apply bA | apply bN | apply b1 | refine bS ?_ GE205.out | refine bS ?_ GE206.out | refine bS ?_ GE207.out) | exact HB.out)) hb); clear BK205; clear BK206; clear BK207; clear HB; have BK205 := n0_; have BK206 := n1_; have BK207 := n2_; have HB := n3_; clear n0_ n1_ n2_ n3_; (try clear hb); (try clear hb2); (try clear hk); (try clear hi)))
     go_meet
     case rel => exact ⟨_, (t213), (by first | rfl | (simp; done) | (simp [*]; done)), H', ⟨by first | omega | exact Nat.le_refl _⟩, ⟨by (with_reducible repeat (first | refine kN ?_ _ | refine kD ?_ | refine kA ?_ _)); exact BK205.out⟩, ⟨by (with_reducible repeat (first | refine kN ?_ _ | refine kD ?_ | refine kA ?_ _)); exact BK206.out⟩, ⟨by (with_reducible repeat (first | refine kN ?_ _ | refine kD ?_ | refine kA ?_ _)); exact BK207.out⟩, ⟨by repeat (first | (with_reducible first | exact HB.out | apply bA | apply bN | apply b1 | refine bS ?_ GE205.out | refine bS ?_ GE206.out | refine bS ?_ GE207.out) | exact HB.out)⟩⟩
   ·
    replace c33 := Bool.eq_false_iff.mpr c33
    subst c33; have H1 : (if t212 = true then ((dot_Less.f k a0_0 a0_1 a0_0 a0_1).bind fun t214 => (L05_DotLess.j0 k false t214 a0_0 a0_1 a1_0 a1_1 a2_0 a2_1)) else (L05_DotLess.j0 k false true a0_0 a0_1 a1_0 a1_1 a2_0 a2_1)) = some r := by rw [if_neg (show ¬ (false = true) by decide)] at H; exact H
    clear H; have H := H1; clear H1; by_cases c50 : t212 = true
    ·
     subst c50; have H1 : ((dot_Less.f k a0_0 a0_1 a0_0 a0_1).bind fun t214 => (L05_DotLess.j0 k false t214 a0_0 a0_1 a1_0 a1_1 a2_0 a2_1)) = some r := by rw [if_pos rfl] at H; exact H
     clear H; have H := H1; clear H1; replace H := Option.bind_eq_some_iff.mp H
     obtain ⟨t214, A510, H⟩ := H; replace H : (L05_DotLess.j0 k false t214 a0_0 a0_1 a1_0 a1_1 a2_0 a2_1) = some r := H
     have A51 := am A510; clear A510; have H' := am H
     clear H; have hnb52 := NB205_206.out; have hnc52 := NB206_205.out; have hnb53 := NB205_207.out; have hnc53 := NB207_205.out; have hcz54_0 : w12.cell? ⟨gb205, 0, none⟩ = some (.int .i64 a0_0) := (kC BK205.out 0).trans rfl
     have hcz54_1 : w12.cell? ⟨gb205, 1, none⟩ = some (.int .i64 a0_1) := (kC BK205.out 1).trans rfl
     have hfz54_0 := blk_frozen BK205.out 0
     have hfz54_1 := blk_frozen BK205.out 1
     have hnb55 := NB206_207.out; have hnc55 := NB207_206.out; have hcz56_0 : w12.cell? ⟨gb206, 0, none⟩ = some (.int .i64 a1_0) := (kC BK206.out 0).trans rfl
     have hcz56_1 : w12.cell? ⟨gb206, 1, none⟩ = some (.int .i64 a1_1) := (kC BK206.out 1).trans rfl
     have hfz56_0 := blk_frozen BK206.out 0
     have hfz56_1 := blk_frozen BK206.out 1
     go_wp2_with (first | (go_at_call 23; (with_reducible refine (keep_Dot.calls a0_0 a0_1 a1_0 a1_1 true _ A32.out).mono ?_); rintro e w57 ⟨rfl, hb⟩; have n0_ := am (kB (g := gb205) (o := .cells #[.int .i64 a0_0, .int .i64 a0_1] 24 (0, 0)) (by (with_reducible repeat (first | refine kN ?_ _ | refine kD ?_ | refine kA ?_ _)); exact BK205.out) hb); have n1_ := am (kB (g := gb206) (o := .cells #[.int .i64 a1_0, .int .i64 a1_1] 24 (0, 0)) (by (with_reducible repeat (first | refine kN ?_ _ | refine kD ?_ | refine kA ?_ _)); exact BK206.out) hb); have n2_ := am (kB (g := gb207) (o := .cells #[.int .i64 a2_0, .int .i64 a2_1] 24 (0, 0)) (by (with_reducible repeat (first | refine kN ?_ _ | refine kD ?_ | refine kA ?_ _)); exact BK207.out) hb); have n3_ := am (bP (by repeat (first | (with_reducible first | exact HB.out | apply bA | apply bN | apply b1 | refine bS ?_ GE205.out | refine bS ?_ GE206.out | refine bS ?_ GE207.out) | exact HB.out)) hb); clear BK205; clear BK206; clear BK207; clear HB; have BK205 := n0_; have BK206 := n1_; have BK207 := n2_; have HB := n3_; clear n0_ n1_ n2_ n3_; (try clear hb); (try clear hb2); (try clear hk); (try clear hi); have hcz58_0 : w57.cell? ⟨gb205, 0, none⟩ = some (.int .i64 a0_0) := (kC BK205.out 0).trans rfl; have hcz58_1 : w57.cell? ⟨gb205, 1, none⟩ = some (.int .i64 a0_1) := (kC BK205.out 1).trans rfl; have hfz58_0 := blk_frozen BK205.out 0; have hfz58_1 := blk_frozen BK205.out 1) | (go_at_call 22; (with_reducible refine (dot_Less.calls k a0_0 a0_1 a0_0 a0_1 t214 _ A51.out).mono ?_); rintro e w59 ⟨rfl, hb⟩; have n0_ := am (kB (g := gb205) (o := .cells #[.int .i64 a0_0, .int .i64 a0_1] 24 (0, 0)) (by (with_reducible repeat (first | refine kN ?_ _ | refine kD ?_ | refine kA ?_ _)); exact BK205.out) hb); have n1_ := am (kB (g := gb206) (o := .cells #[.int .i64 a1_0, .int .i64 a1_1] 24 (0, 0)) (by (with_reducible repeat (first | refine kN ?_ _ | refine kD ?_ | refine kA ?_ _)); exact BK206.out) hb); have n2_ := am (kB (g := gb207) (o := .cells #[.int .i64 a2_0, .int .i64 a2_1] 24 (0, 0)) (by (with_reducible repeat (first | refine kN ?_ _ | refine kD ?_ | refine kA ?_ _)); exact BK207.out) hb); have n3_ := am (bP (by repeat (first | (with_reducible first | exact HB.out | apply bA | apply bN | apply b1 | refine bS ?_ GE205.out | refine bS ?_ GE206.out | refine bS ?_ GE207.out) | exact HB.out)) hb); clear BK205; clear BK206; clear BK207; clear HB; have BK205 := n0_; have BK206 := n1_; have BK207 := n2_; have HB := n3_; clear n0_ n1_ n2_ n3_; (try clear hb); (try clear hb2); (try clear hk); (try clear hi)))
     go_meet
     case rel => exact ⟨_, (t214), (by first | rfl | (simp; done) | (simp [*]; done)), H', ⟨by first | omega | exact Nat.le_refl _⟩, ⟨by (with_reducible repeat (first | refine kN ?_ _ | refine kD ?_ | refine kA ?_ _)); exact BK205.out⟩, ⟨by (with_reducible repeat (first | refine kN ?_ _ | refine kD ?_ | refine kA ?_ _)); exact BK206.out⟩, ⟨by (with_reducible repeat (first | refine kN ?_ _ | refine kD ?_ | refine kA ?_ _)); exact BK207.out⟩, ⟨by repeat (first | (with_reducible first | exact HB.out | apply bA | apply bN | apply b1 | refine bS ?_ GE205.out | refine bS ?_ GE206.out | refine bS ?_ GE207.out) | exact HB.out)⟩⟩
    ·
     replace c50 := Bool.eq_false_iff.mpr c50
     subst c50; have H1 : (L05_DotLess.j0 k false true a0_0 a0_1 a1_0 a1_1 a2_0 a2_1) = some r := by rw [if_neg (show ¬ (false = true) by decide)] at H; exact H
     clear H; have H := H1; clear H1; have H' := am H
     clear H; have hnb60 := NB205_206.out; have hnc60 := NB206_205.out; have hnb61 := NB205_207.out; have hnc61 := NB207_205.out; have hcz62_0 : w12.cell? ⟨gb205, 0, none⟩ = some (.int .i64 a0_0) := (kC BK205.out 0).trans rfl
     have hcz62_1 : w12.cell? ⟨gb205, 1, none⟩ = some (.int .i64 a0_1) := (kC BK205.out 1).trans rfl
     have hfz62_0 := blk_frozen BK205.out 0
     have hfz62_1 := blk_frozen BK205.out 1
     have hnb63 := NB206_207.out; have hnc63 := NB207_206.out; have hcz64_0 : w12.cell? ⟨gb206, 0, none⟩ = some (.int .i64 a1_0) := (kC BK206.out 0).trans rfl
     have hcz64_1 : w12.cell? ⟨gb206, 1, none⟩ = some (.int .i64 a1_1) := (kC BK206.out 1).trans rfl
     have hfz64_0 := blk_frozen BK206.out 0
     have hfz64_1 := blk_frozen BK206.out 1
     go_wp2_with (first | (go_at_call 23; (with_reducible refine (keep_Dot.calls a0_0 a0_1 a1_0 a1_1 false _ A32.out).mono ?_); rintro e w65 ⟨rfl, hb⟩; have n0_ := am (kB (g := gb205) (o := .cells #[.int .i64 a0_0, .int .i64 a0_1] 24 (0, 0)) (by (with_reducible repeat (first | refine kN ?_ _ | refine kD ?_ | refine kA ?_ _)); exact BK205.out) hb); have n1_ := am (kB (g := gb206) (o := .cells #[.int .i64 a1_0, .int .i64 a1_1] 24 (0, 0)) (by (with_reducible repeat (first | refine kN ?_ _ | refine kD ?_ | refine kA ?_ _)); exact BK206.out) hb); have n2_ := am (kB (g := gb207) (o := .cells #[.int .i64 a2_0, .int .i64 a2_1] 24 (0, 0)) (by (with_reducible repeat (first | refine kN ?_ _ | refine kD ?_ | refine kA ?_ _)); exact BK207.out) hb); have n3_ := am (bP (by repeat (first | (with_reducible first | exact HB.out | apply bA | apply bN | apply b1 | refine bS ?_ GE205.out | refine bS ?_ GE206.out | refine bS ?_ GE207.out) | exact HB.out)) hb); clear BK205; clear BK206; clear BK207; clear HB; have BK205 := n0_; have BK206 := n1_; have BK207 := n2_; have HB := n3_; clear n0_ n1_ n2_ n3_; (try clear hb); (try clear hb2); (try clear hk); (try clear hi)))
     go_meet
     case rel => exact ⟨_, (true), (by first | rfl | (simp; done) | (simp [*]; done)), H', ⟨by first | omega | exact Nat.le_refl _⟩, ⟨by (with_reducible repeat (first | refine kN ?_ _ | refine kD ?_ | refine kA ?_ _)); exact BK205.out⟩, ⟨by (with_reducible repeat (first | refine kN ?_ _ | refine kD ?_ | refine kA ?_ _)); exact BK206.out⟩, ⟨by (with_reducible repeat (first | refine kN ?_ _ | refine kD ?_ | refine kA ?_ _)); exact BK207.out⟩, ⟨by repeat (first | (with_reducible first | exact HB.out | apply bA | apply bN | apply b1 | refine bS ?_ GE205.out | refine bS ?_ GE206.out | refine bS ?_ GE207.out) | exact HB.out)⟩⟩
 case rest =>
  clear HC6; (try clear c1); (try clear c2); (try clear p2); (try clear c3); (try clear c4); (try clear c5); (try clear c6); (try clear c13); (try clear c14); (try clear c16); (try clear c17); (try clear c18); (try clear c20); (try clear c22); (try clear c24); (try clear c25); (try clear c27); (try clear c33); (try clear c34); (try clear c35); (try clear c36); (try clear c38); (try clear c42); (try clear c43); (try clear c45); (try clear c50); (try clear c52); (try clear c53); (try clear c55); (try clear c60); (try clear c61); (try clear c63); (try clear hcz19_0); (try clear hcz19_1); (try clear hcz21_0); (try clear hcz21_1); (try clear hcz26_0); (try clear hcz26_1); (try clear hcz28_0); (try clear hcz28_1); (try clear hcz30_0); (try clear hcz30_1); (try clear hcz37_0); (try clear hcz37_1); (try clear hcz39_0); (try clear hcz39_1); (try clear hcz44_0); (try clear hcz44_1); (try clear hcz46_0); (try clear hcz46_1); (try clear hcz48_0); (try clear hcz48_1); (try clear hcz54_0); (try clear hcz54_1); (try clear hcz56_0); (try clear hcz56_1); (try clear hcz58_0); (try clear hcz58_1); (try clear hcz62_0); (try clear hcz62_1); (try clear hcz64_0); (try clear hcz64_1); (try clear hfz19_0); (try clear hfz19_1); (try clear hfz21_0); (try clear hfz21_1); (try clear hfz26_0); (try clear hfz26_1); (try clear hfz28_0); (try clear hfz28_1); (try clear hfz30_0); (try clear hfz30_1); (try clear hfz37_0); (try clear hfz37_1); (try clear hfz39_0); (try clear hfz39_1); (try clear hfz44_0); (try clear hfz44_1); (try clear hfz46_0); (try clear hfz46_1); (try clear hfz48_0); (try clear hfz48_1); (try clear hfz54_0); (try clear hfz54_1); (try clear hfz56_0); (try clear hfz56_1); (try clear hfz58_0); (try clear hfz58_1); (try clear hfz62_0); (try clear hfz62_1); (try clear hfz64_0); (try clear hfz64_1); obtain ⟨kq, x35_5, rfl, HA, HJ5, BK205, BK206, BK207, HB⟩ := hcut
  cases kq with
  | zero => exact absurd HA.out (by simp [L05_DotLess.j0])
  | succ kj5 =>
   have H := HA.out; clear HA; simp only [L05_DotLess.j0] at H
   by_cases c66 : x35_5 = true
   ·
    subst c66; have H1 : (some false) = some r := by rw [if_pos rfl] at H; exact H
    clear H; have H := H1; clear H1; exact absurd (H.trans (congrArg some HLAW.out)) (by simp)
   ·
    replace c66 := Bool.eq_false_iff.mpr c66
    subst c66; have H1 : (if t208 = true then ((dot_Less.f kj5 a1_0 a1_1 a2_0 a2_1).bind fun t215 => (if t215 = true then ((dot_Less.f kj5 a0_0 a0_1 a2_0 a2_1).bind fun t216 => (if t216 = true then (if a0_0 < a1_0 then ((L05_wakes.f kj5).bind fun t217 => (some t217)) else (if a0_0 = a1_0 then (if a0_1 < a1_1 then ((L05_wakes.f kj5).bind fun t218 => (some t218)) else (some false)) else (some false))) else (some false))) else (if a0_0 < a1_0 then ((L05_wakes.f kj5).bind fun t219 => (some t219)) else (if a0_0 = a1_0 then (if a0_1 < a1_1 then ((L05_wakes.f kj5).bind fun t220 => (some t220)) else (some false)) else (some false))))) else (if a0_0 < a1_0 then (some false) else (if a0_0 = a1_0 then (if a0_1 < a1_1 then (some false) else ((L05_wakes.f kj5).bind fun t221 => (some t221))) else ((L05_wakes.f kj5).bind fun t222 => (some t222))))) = some r := by rw [if_neg (show ¬ (false = true) by decide)] at H; exact H
    clear H; have H := H1; clear H1; by_cases c67 : t208 = true
    ·
     subst c67; have H1 : ((dot_Less.f kj5 a1_0 a1_1 a2_0 a2_1).bind fun t215 => (if t215 = true then ((dot_Less.f kj5 a0_0 a0_1 a2_0 a2_1).bind fun t216 => (if t216 = true then (if a0_0 < a1_0 then ((L05_wakes.f kj5).bind fun t217 => (some t217)) else (if a0_0 = a1_0 then (if a0_1 < a1_1 then ((L05_wakes.f kj5).bind fun t218 => (some t218)) else (some false)) else (some false))) else (some false))) else (if a0_0 < a1_0 then ((L05_wakes.f kj5).bind fun t219 => (some t219)) else (if a0_0 = a1_0 then (if a0_1 < a1_1 then ((L05_wakes.f kj5).bind fun t220 => (some t220)) else (some false)) else (some false))))) = some r := by rw [if_pos rfl] at H; exact H
     clear H; have H := H1; clear H1; replace H := Option.bind_eq_some_iff.mp H
     obtain ⟨t215, A680, H⟩ := H; replace H : (if t215 = true then ((dot_Less.f kj5 a0_0 a0_1 a2_0 a2_1).bind fun t216 => (if t216 = true then (if a0_0 < a1_0 then ((L05_wakes.f kj5).bind fun t217 => (some t217)) else (if a0_0 = a1_0 then (if a0_1 < a1_1 then ((L05_wakes.f kj5).bind fun t218 => (some t218)) else (some false)) else (some false))) else (some false))) else (if a0_0 < a1_0 then ((L05_wakes.f kj5).bind fun t219 => (some t219)) else (if a0_0 = a1_0 then (if a0_1 < a1_1 then ((L05_wakes.f kj5).bind fun t220 => (some t220)) else (some false)) else (some false)))) = some r := H
     have A68 := am A680; clear A680; by_cases c69 : t215 = true
     ·
      subst c69; have H1 : ((dot_Less.f kj5 a0_0 a0_1 a2_0 a2_1).bind fun t216 => (if t216 = true then (if a0_0 < a1_0 then ((L05_wakes.f kj5).bind fun t217 => (some t217)) else (if a0_0 = a1_0 then (if a0_1 < a1_1 then ((L05_wakes.f kj5).bind fun t218 => (some t218)) else (some false)) else (some false))) else (some false))) = some r := by rw [if_pos rfl] at H; exact H
      clear H; have H := H1; clear H1; replace H := Option.bind_eq_some_iff.mp H
      obtain ⟨t216, A700, H⟩ := H; replace H : (if t216 = true then (if a0_0 < a1_0 then ((L05_wakes.f kj5).bind fun t217 => (some t217)) else (if a0_0 = a1_0 then (if a0_1 < a1_1 then ((L05_wakes.f kj5).bind fun t218 => (some t218)) else (some false)) else (some false))) else (some false)) = some r := H
      have A70 := am A700; clear A700; by_cases c71 : t216 = true
      ·
       subst c71; have H1 : (if a0_0 < a1_0 then ((L05_wakes.f kj5).bind fun t217 => (some t217)) else (if a0_0 = a1_0 then (if a0_1 < a1_1 then ((L05_wakes.f kj5).bind fun t218 => (some t218)) else (some false)) else (some false))) = some r := by rw [if_pos rfl] at H; exact H
       clear H; have H := H1; clear H1; by_cases c72 : a0_0 < a1_0
       ·
        rw [if_pos c72] at H; have c72b0 : decide (a0_0 < a1_0) = true := decide_eq_true c72
        clear c72; replace H := Option.bind_eq_some_iff.mp H
        obtain ⟨t217, A730, H⟩ := H; replace H : (some t217) = some r := H
        have A73 := am A730; clear A730; obtain rfl := Option.some.inj H; have hnb74 := NB206_205.out; have hnc74 := NB205_206.out; have hnb75 := NB206_207.out; have hnc75 := NB207_206.out; have hcz76_0 : wc.cell? ⟨gb206, 0, none⟩ = some (.int .i64 a1_0) := (kC BK206.out 0).trans rfl
        have hcz76_1 : wc.cell? ⟨gb206, 1, none⟩ = some (.int .i64 a1_1) := (kC BK206.out 1).trans rfl
        have hfz76_0 := blk_frozen BK206.out 0
        have hfz76_1 := blk_frozen BK206.out 1
        have hnb77 := NB207_205.out; have hnc77 := NB205_207.out; have hcz78_0 : wc.cell? ⟨gb207, 0, none⟩ = some (.int .i64 a2_0) := (kC BK207.out 0).trans rfl
        have hcz78_1 : wc.cell? ⟨gb207, 1, none⟩ = some (.int .i64 a2_1) := (kC BK207.out 1).trans rfl
        have hfz78_0 := blk_frozen BK207.out 0
        have hfz78_1 := blk_frozen BK207.out 1
        go_wp2_with (first | (go_at_call 22; (with_reducible refine (dot_Less.calls kj5 a1_0 a1_1 a2_0 a2_1 true _ A68.out).mono ?_); rintro e w79 ⟨rfl, hb⟩; have n0_ := am (kB (g := gb205) (o := .cells #[.int .i64 a0_0, .int .i64 a0_1] 24 (0, 0)) (by (with_reducible repeat (first | refine kN ?_ _ | refine kD ?_ | refine kA ?_ _)); exact BK205.out) hb); have n1_ := am (kB (g := gb206) (o := .cells #[.int .i64 a1_0, .int .i64 a1_1] 24 (0, 0)) (by (with_reducible repeat (first | refine kN ?_ _ | refine kD ?_ | refine kA ?_ _)); exact BK206.out) hb); have n2_ := am (kB (g := gb207) (o := .cells #[.int .i64 a2_0, .int .i64 a2_1] 24 (0, 0)) (by (with_reducible repeat (first | refine kN ?_ _ | refine kD ?_ | refine kA ?_ _)); exact BK207.out) hb); have n3_ := am (bP (by repeat (first | (with_reducible first | exact HB.out | apply bA | apply bN | apply b1 | refine bS ?_ GE205.out | refine bS ?_ GE206.out | refine bS ?_ GE207.out) | exact HB.out)) hb); clear BK205; clear BK206; clear BK207; clear HB; have BK205 := n0_; have BK206 := n1_; have BK207 := n2_; have HB := n3_; clear n0_ n1_ n2_ n3_; (try clear hb); (try clear hb2); (try clear hk); (try clear hi); have hcz80_0 : w79.cell? ⟨gb205, 0, none⟩ = some (.int .i64 a0_0) := (kC BK205.out 0).trans rfl; have hcz80_1 : w79.cell? ⟨gb205, 1, none⟩ = some (.int .i64 a0_1) := (kC BK205.out 1).trans rfl; have hfz80_0 := blk_frozen BK205.out 0; have hfz80_1 := blk_frozen BK205.out 1; have hcz81_0 : w79.cell? ⟨gb207, 0, none⟩ = some (.int .i64 a2_0) := (kC BK207.out 0).trans rfl; have hcz81_1 : w79.cell? ⟨gb207, 1, none⟩ = some (.int .i64 a2_1) := (kC BK207.out 1).trans rfl; have hfz81_0 := blk_frozen BK207.out 0; have hfz81_1 := blk_frozen BK207.out 1) | (go_at_call 22; (with_reducible refine (dot_Less.calls kj5 a0_0 a0_1 a2_0 a2_1 true _ A70.out).mono ?_); rintro e w82 ⟨rfl, hb⟩; have n0_ := am (kB (g := gb205) (o := .cells #[.int .i64 a0_0, .int .i64 a0_1] 24 (0, 0)) (by (with_reducible repeat (first | refine kN ?_ _ | refine kD ?_ | refine kA ?_ _)); exact BK205.out) hb); have n1_ := am (kB (g := gb206) (o := .cells #[.int .i64 a1_0, .int .i64 a1_1] 24 (0, 0)) (by (with_reducible repeat (first | refine kN ?_ _ | refine kD ?_ | refine kA ?_ _)); exact BK206.out) hb); have n2_ := am (kB (g := gb207) (o := .cells #[.int .i64 a2_0, .int .i64 a2_1] 24 (0, 0)) (by (with_reducible repeat (first | refine kN ?_ _ | refine kD ?_ | refine kA ?_ _)); exact BK207.out) hb); have n3_ := am (bP (by repeat (first | (with_reducible first | exact HB.out | apply bA | apply bN | apply b1 | refine bS ?_ GE205.out | refine bS ?_ GE206.out | refine bS ?_ GE207.out) | exact HB.out)) hb); clear BK205; clear BK206; clear BK207; clear HB; have BK205 := n0_; have BK206 := n1_; have BK207 := n2_; have HB := n3_; clear n0_ n1_ n2_ n3_; (try clear hb); (try clear hb2); (try clear hk); (try clear hi); have hcz83_0 : w82.cell? ⟨gb205, 0, none⟩ = some (.int .i64 a0_0) := (kC BK205.out 0).trans rfl; have hcz83_1 : w82.cell? ⟨gb205, 1, none⟩ = some (.int .i64 a0_1) := (kC BK205.out 1).trans rfl; have hfz83_0 := blk_frozen BK205.out 0; have hfz83_1 := blk_frozen BK205.out 1; have hcz84_0 : w82.cell? ⟨gb206, 0, none⟩ = some (.int .i64 a1_0) := (kC BK206.out 0).trans rfl; have hcz84_1 : w82.cell? ⟨gb206, 1, none⟩ = some (.int .i64 a1_1) := (kC BK206.out 1).trans rfl; have hfz84_0 := blk_frozen BK206.out 0; have hfz84_1 := blk_frozen BK206.out 1) | (go_at_call 16; (with_reducible refine (L05_wakes.calls kj5  t217 _ A73.out).mono ?_); rintro e w85 ⟨rfl, hb⟩; have n0_ := am (kB (g := gb205) (o := .cells #[.int .i64 a0_0, .int .i64 a0_1] 24 (0, 0)) (by (with_reducible repeat (first | refine kN ?_ _ | refine kD ?_ | refine kA ?_ _)); exact BK205.out) hb); have n1_ := am (kB (g := gb206) (o := .cells #[.int .i64 a1_0, .int .i64 a1_1] 24 (0, 0)) (by (with_reducible repeat (first | refine kN ?_ _ | refine kD ?_ | refine kA ?_ _)); exact BK206.out) hb); have n2_ := am (kB (g := gb207) (o := .cells #[.int .i64 a2_0, .int .i64 a2_1] 24 (0, 0)) (by (with_reducible repeat (first | refine kN ?_ _ | refine kD ?_ | refine kA ?_ _)); exact BK207.out) hb); have n3_ := am (bP (by repeat (first | (with_reducible first | exact HB.out | apply bA | apply bN | apply b1 | refine bS ?_ GE205.out | refine bS ?_ GE206.out | refine bS ?_ GE207.out) | exact HB.out)) hb); clear BK205; clear BK206; clear BK207; clear HB; have BK205 := n0_; have BK206 := n1_; have BK207 := n2_; have HB := n3_; clear n0_ n1_ n2_ n3_; (try clear hb); (try clear hb2); (try clear hk); (try clear hi)))
        go_ret; exact ⟨by first | rfl | (simp [errW_none, errW_some] <;> rfl) | (simp [*, errW_none, errW_some] <;> rfl), by repeat (first | (with_reducible first | exact HB.out | apply bA | apply bN | apply b1 | refine bS ?_ GE205.out | refine bS ?_ GE206.out | refine bS ?_ GE207.out) | exact HB.out)⟩
       ·
        rw [if_neg c72] at H; have c72b0 : decide (a0_0 < a1_0) = false := decide_eq_false c72
        clear c72; by_cases c86 : a0_0 = a1_0
        ·
         rw [if_pos c86] at H; have c86b0 : (a0_0 == a1_0) = true := beq_iff_eq.mpr c86
         have c86b1 : (a0_0 != a1_0) = false := bne_eq_false_iff_eq.mpr c86
         clear c86; by_cases c87 : a0_1 < a1_1
         ·
          rw [if_pos c87] at H; have c87b0 : decide (a0_1 < a1_1) = true := decide_eq_true c87
          clear c87; replace H := Option.bind_eq_some_iff.mp H
          obtain ⟨t218, A880, H⟩ := H; replace H : (some t218) = some r := H
          have A88 := am A880; clear A880; obtain rfl := Option.some.inj H; have hnb89 := NB206_205.out; have hnc89 := NB205_206.out; have hnb90 := NB206_207.out; have hnc90 := NB207_206.out; have hcz91_0 : wc.cell? ⟨gb206, 0, none⟩ = some (.int .i64 a1_0) := (kC BK206.out 0).trans rfl
          have hcz91_1 : wc.cell? ⟨gb206, 1, none⟩ = some (.int .i64 a1_1) := (kC BK206.out 1).trans rfl
          have hfz91_0 := blk_frozen BK206.out 0
          have hfz91_1 := blk_frozen BK206.out 1
          have hnb92 := NB207_205.out; have hnc92 := NB205_207.out; have hcz93_0 : wc.cell? ⟨gb207, 0, none⟩ = some (.int .i64 a2_0) := (kC BK207.out 0).trans rfl
          have hcz93_1 : wc.cell? ⟨gb207, 1, none⟩ = some (.int .i64 a2_1) := (kC BK207.out 1).trans rfl
          have hfz93_0 := blk_frozen BK207.out 0
          have hfz93_1 := blk_frozen BK207.out 1
          go_wp2_with (first | (go_at_call 22; (with_reducible refine (dot_Less.calls kj5 a1_0 a1_1 a2_0 a2_1 true _ A68.out).mono ?_); rintro e w94 ⟨rfl, hb⟩; have n0_ := am (kB (g := gb205) (o := .cells #[.int .i64 a0_0, .int .i64 a0_1] 24 (0, 0)) (by (with_reducible repeat (first | refine kN ?_ _ | refine kD ?_ | refine kA ?_ _)); exact BK205.out) hb); have n1_ := am (kB (g := gb206) (o := .cells #[.int .i64 a1_0, .int .i64 a1_1] 24 (0, 0)) (by (with_reducible repeat (first | refine kN ?_ _ | refine kD ?_ | refine kA ?_ _)); exact BK206.out) hb); have n2_ := am (kB (g := gb207) (o := .cells #[.int .i64 a2_0, .int .i64 a2_1] 24 (0, 0)) (by (with_reducible repeat (first | refine kN ?_ _ | refine kD ?_ | refine kA ?_ _)); exact BK207.out) hb); have n3_ := am (bP (by repeat (first | (with_reducible first | exact HB.out | apply bA | apply bN | apply b1 | refine bS ?_ GE205.out | refine bS ?_ GE206.out | refine bS ?_ GE207.out) | exact HB.out)) hb); clear BK205; clear BK206; clear BK207; clear HB; have BK205 := n0_; have BK206 := n1_; have BK207 := n2_; have HB := n3_; clear n0_ n1_ n2_ n3_; (try clear hb); (try clear hb2); (try clear hk); (try clear hi); have hcz95_0 : w94.cell? ⟨gb205, 0, none⟩ = some (.int .i64 a0_0) := (kC BK205.out 0).trans rfl; have hcz95_1 : w94.cell? ⟨gb205, 1, none⟩ = some (.int .i64 a0_1) := (kC BK205.out 1).trans rfl; have hfz95_0 := blk_frozen BK205.out 0; have hfz95_1 := blk_frozen BK205.out 1; have hcz96_0 : w94.cell? ⟨gb207, 0, none⟩ = some (.int .i64 a2_0) := (kC BK207.out 0).trans rfl; have hcz96_1 : w94.cell? ⟨gb207, 1, none⟩ = some (.int .i64 a2_1) := (kC BK207.out 1).trans rfl; have hfz96_0 := blk_frozen BK207.out 0; have hfz96_1 := blk_frozen BK207.out 1) | (go_at_call 22; (with_reducible refine (dot_Less.calls kj5 a0_0 a0_1 a2_0 a2_1 true _ A70.out).mono ?_); rintro e w97 ⟨rfl, hb⟩; have n0_ := am (kB (g := gb205) (o := .cells #[.int .i64 a0_0, .int .i64 a0_1] 24 (0, 0)) (by (with_reducible repeat (first | refine kN ?_ _ | refine kD ?_ | refine kA ?_ _)); exact BK205.out) hb); have n1_ := am (kB (g := gb206) (o := .cells #[.int .i64 a1_0, .int .i64 a1_1] 24 (0, 0)) (by (with_reducible repeat (first | refine kN ?_ _ | refine kD ?_ | refine kA ?_ _)); exact BK206.out) hb); have n2_ := am (kB (g := gb207) (o := .cells #[.int .i64 a2_0, .int .i64 a2_1] 24 (0, 0)) (by (with_reducible repeat (first | refine kN ?_ _ | refine kD ?_ | refine kA ?_ _)); exact BK207.out) hb); have n3_ := am (bP (by repeat (first | (with_reducible first | exact HB.out | apply bA | apply bN | apply b1 | refine bS ?_ GE205.out | refine bS ?_ GE206.out | refine bS ?_ GE207.out) | exact HB.out)) hb); clear BK205; clear BK206; clear BK207; clear HB; have BK205 := n0_; have BK206 := n1_; have BK207 := n2_; have HB := n3_; clear n0_ n1_ n2_ n3_; (try clear hb); (try clear hb2); (try clear hk); (try clear hi); have hcz98_0 : w97.cell? ⟨gb205, 0, none⟩ = some (.int .i64 a0_0) := (kC BK205.out 0).trans rfl; have hcz98_1 : w97.cell? ⟨gb205, 1, none⟩ = some (.int .i64 a0_1) := (kC BK205.out 1).trans rfl; have hfz98_0 := blk_frozen BK205.out 0; have hfz98_1 := blk_frozen BK205.out 1; have hcz99_0 : w97.cell? ⟨gb206, 0, none⟩ = some (.int .i64 a1_0) := (kC BK206.out 0).trans rfl; have hcz99_1 : w97.cell? ⟨gb206, 1, none⟩ = some (.int .i64 a1_1) := (kC BK206.out 1).trans rfl; have hfz99_0 := blk_frozen BK206.out 0; have hfz99_1 := blk_frozen BK206.out 1) | (go_at_call 16; (with_reducible refine (L05_wakes.calls kj5  t218 _ A88.out).mono ?_); rintro e w100 ⟨rfl, hb⟩; have n0_ := am (kB (g := gb205) (o := .cells #[.int .i64 a0_0, .int .i64 a0_1] 24 (0, 0)) (by (with_reducible repeat (first | refine kN ?_ _ | refine kD ?_ | refine kA ?_ _)); exact BK205.out) hb); have n1_ := am (kB (g := gb206) (o := .cells #[.int .i64 a1_0, .int .i64 a1_1] 24 (0, 0)) (by (with_reducible repeat (first | refine kN ?_ _ | refine kD ?_ | refine kA ?_ _)); exact BK206.out) hb); have n2_ := am (kB (g := gb207) (o := .cells #[.int .i64 a2_0, .int .i64 a2_1] 24 (0, 0)) (by (with_reducible repeat (first | refine kN ?_ _ | refine kD ?_ | refine kA ?_ _)); exact BK207.out) hb); have n3_ := am (bP (by repeat (first | (with_reducible first | exact HB.out | apply bA | apply bN | apply b1 | refine bS ?_ GE205.out | refine bS ?_ GE206.out | refine bS ?_ GE207.out) | exact HB.out)) hb); clear BK205; clear BK206; clear BK207; clear HB; have BK205 := n0_; have BK206 := n1_; have BK207 := n2_; have HB := n3_; clear n0_ n1_ n2_ n3_; (try clear hb); (try clear hb2); (try clear hk); (try clear hi)))
          go_ret; exact ⟨by first | rfl | (simp [errW_none, errW_some] <;> rfl) | (simp [*, errW_none, errW_some] <;> rfl), by repeat (first | (with_reducible first | exact HB.out | apply bA | apply bN | apply b1 | refine bS ?_ GE205.out | refine bS ?_ GE206.out | refine bS ?_ GE207.out) | exact HB.out)⟩
         ·
          rw [if_neg c87] at H; have c87b0 : decide (a0_1 < a1_1) = false := decide_eq_false c87
          clear c87; exact absurd (H.trans (congrArg some HLAW.out)) (by simp)
        ·
         rw [if_neg c86] at H; have c86b0 : (a0_0 == a1_0) = false := beq_eq_false_iff_ne.mpr c86
         have c86b1 : (a0_0 != a1_0) = true := bne_iff_ne.mpr c86
         exact absurd (H.trans (congrArg some HLAW.out)) (by simp)
      ·
       replace c71 := Bool.eq_false_iff.mpr c71
       subst c71; have H1 : (some false) = some r := by rw [if_neg (show ¬ (false = true) by decide)] at H; exact H
       clear H; have H := H1; clear H1; exact absurd (H.trans (congrArg some HLAW.out)) (by simp)
     ·
      replace c69 := Bool.eq_false_iff.mpr c69
      subst c69; have H1 : (if a0_0 < a1_0 then ((L05_wakes.f kj5).bind fun t219 => (some t219)) else (if a0_0 = a1_0 then (if a0_1 < a1_1 then ((L05_wakes.f kj5).bind fun t220 => (some t220)) else (some false)) else (some false))) = some r := by rw [if_neg (show ¬ (false = true) by decide)] at H; exact H
      clear H; have H := H1; clear H1; by_cases c101 : a0_0 < a1_0
      ·
       rw [if_pos c101] at H; have c101b0 : decide (a0_0 < a1_0) = true := decide_eq_true c101
       clear c101; replace H := Option.bind_eq_some_iff.mp H
       obtain ⟨t219, A1020, H⟩ := H; replace H : (some t219) = some r := H
       have A102 := am A1020; clear A1020; obtain rfl := Option.some.inj H; have hnb103 := NB206_205.out; have hnc103 := NB205_206.out; have hnb104 := NB206_207.out; have hnc104 := NB207_206.out; have hcz105_0 : wc.cell? ⟨gb206, 0, none⟩ = some (.int .i64 a1_0) := (kC BK206.out 0).trans rfl
       have hcz105_1 : wc.cell? ⟨gb206, 1, none⟩ = some (.int .i64 a1_1) := (kC BK206.out 1).trans rfl
       have hfz105_0 := blk_frozen BK206.out 0
       have hfz105_1 := blk_frozen BK206.out 1
       have hnb106 := NB207_205.out; have hnc106 := NB205_207.out; have hcz107_0 : wc.cell? ⟨gb207, 0, none⟩ = some (.int .i64 a2_0) := (kC BK207.out 0).trans rfl
       have hcz107_1 : wc.cell? ⟨gb207, 1, none⟩ = some (.int .i64 a2_1) := (kC BK207.out 1).trans rfl
       have hfz107_0 := blk_frozen BK207.out 0
       have hfz107_1 := blk_frozen BK207.out 1
       go_wp2_with (first | (go_at_call 22; (with_reducible refine (dot_Less.calls kj5 a1_0 a1_1 a2_0 a2_1 false _ A68.out).mono ?_); rintro e w108 ⟨rfl, hb⟩; have n0_ := am (kB (g := gb205) (o := .cells #[.int .i64 a0_0, .int .i64 a0_1] 24 (0, 0)) (by (with_reducible repeat (first | refine kN ?_ _ | refine kD ?_ | refine kA ?_ _)); exact BK205.out) hb); have n1_ := am (kB (g := gb206) (o := .cells #[.int .i64 a1_0, .int .i64 a1_1] 24 (0, 0)) (by (with_reducible repeat (first | refine kN ?_ _ | refine kD ?_ | refine kA ?_ _)); exact BK206.out) hb); have n2_ := am (kB (g := gb207) (o := .cells #[.int .i64 a2_0, .int .i64 a2_1] 24 (0, 0)) (by (with_reducible repeat (first | refine kN ?_ _ | refine kD ?_ | refine kA ?_ _)); exact BK207.out) hb); have n3_ := am (bP (by repeat (first | (with_reducible first | exact HB.out | apply bA | apply bN | apply b1 | refine bS ?_ GE205.out | refine bS ?_ GE206.out | refine bS ?_ GE207.out) | exact HB.out)) hb); clear BK205; clear BK206; clear BK207; clear HB; have BK205 := n0_; have BK206 := n1_; have BK207 := n2_; have HB := n3_; clear n0_ n1_ n2_ n3_; (try clear hb); (try clear hb2); (try clear hk); (try clear hi); have hcz109_0 : w108.cell? ⟨gb205, 0, none⟩ = some (.int .i64 a0_0) := (kC BK205.out 0).trans rfl; have hcz109_1 : w108.cell? ⟨gb205, 1, none⟩ = some (.int .i64 a0_1) := (kC BK205.out 1).trans rfl; have hfz109_0 := blk_frozen BK205.out 0; have hfz109_1 := blk_frozen BK205.out 1; have hcz110_0 : w108.cell? ⟨gb206, 0, none⟩ = some (.int .i64 a1_0) := (kC BK206.out 0).trans rfl; have hcz110_1 : w108.cell? ⟨gb206, 1, none⟩ = some (.int .i64 a1_1) := (kC BK206.out 1).trans rfl; have hfz110_0 := blk_frozen BK206.out 0; have hfz110_1 := blk_frozen BK206.out 1) | (go_at_call 16; (with_reducible refine (L05_wakes.calls kj5  t219 _ A102.out).mono ?_); rintro e w111 ⟨rfl, hb⟩; have n0_ := am (kB (g := gb205) (o := .cells #[.int .i64 a0_0, .int .i64 a0_1] 24 (0, 0)) (by (with_reducible repeat (first | refine kN ?_ _ | refine kD ?_ | refine kA ?_ _)); exact BK205.out) hb); have n1_ := am (kB (g := gb206) (o := .cells #[.int .i64 a1_0, .int .i64 a1_1] 24 (0, 0)) (by (with_reducible repeat (first | refine kN ?_ _ | refine kD ?_ | refine kA ?_ _)); exact BK206.out) hb); have n2_ := am (kB (g := gb207) (o := .cells #[.int .i64 a2_0, .int .i64 a2_1] 24 (0, 0)) (by (with_reducible repeat (first | refine kN ?_ _ | refine kD ?_ | refine kA ?_ _)); exact BK207.out) hb); have n3_ := am (bP (by repeat (first | (with_reducible first | exact HB.out | apply bA | apply bN | apply b1 | refine bS ?_ GE205.out | refine bS ?_ GE206.out | refine bS ?_ GE207.out) | exact HB.out)) hb); clear BK205; clear BK206; clear BK207; clear HB; have BK205 := n0_; have BK206 := n1_; have BK207 := n2_; have HB := n3_; clear n0_ n1_ n2_ n3_; (try clear hb); (try clear hb2); (try clear hk); (try clear hi)))
       go_ret; exact ⟨by first | rfl | (simp [errW_none, errW_some] <;> rfl) | (simp [*, errW_none, errW_some] <;> rfl), by repeat (first | (with_reducible first | exact HB.out | apply bA | apply bN | apply b1 | refine bS ?_ GE205.out | refine bS ?_ GE206.out | refine bS ?_ GE207.out) | exact HB.out)⟩
      ·
       rw [if_neg c101] at H; have c101b0 : decide (a0_0 < a1_0) = false := decide_eq_false c101
       clear c101; by_cases c112 : a0_0 = a1_0
       ·
        rw [if_pos c112] at H; have c112b0 : (a0_0 == a1_0) = true := beq_iff_eq.mpr c112
        have c112b1 : (a0_0 != a1_0) = false := bne_eq_false_iff_eq.mpr c112
        clear c112; by_cases c113 : a0_1 < a1_1
        ·
         rw [if_pos c113] at H; have c113b0 : decide (a0_1 < a1_1) = true := decide_eq_true c113
         clear c113; replace H := Option.bind_eq_some_iff.mp H
         obtain ⟨t220, A1140, H⟩ := H; replace H : (some t220) = some r := H
         have A114 := am A1140; clear A1140; obtain rfl := Option.some.inj H; have hnb115 := NB206_205.out; have hnc115 := NB205_206.out; have hnb116 := NB206_207.out; have hnc116 := NB207_206.out; have hcz117_0 : wc.cell? ⟨gb206, 0, none⟩ = some (.int .i64 a1_0) := (kC BK206.out 0).trans rfl
         have hcz117_1 : wc.cell? ⟨gb206, 1, none⟩ = some (.int .i64 a1_1) := (kC BK206.out 1).trans rfl
         have hfz117_0 := blk_frozen BK206.out 0
         have hfz117_1 := blk_frozen BK206.out 1
         have hnb118 := NB207_205.out; have hnc118 := NB205_207.out; have hcz119_0 : wc.cell? ⟨gb207, 0, none⟩ = some (.int .i64 a2_0) := (kC BK207.out 0).trans rfl
         have hcz119_1 : wc.cell? ⟨gb207, 1, none⟩ = some (.int .i64 a2_1) := (kC BK207.out 1).trans rfl
         have hfz119_0 := blk_frozen BK207.out 0
         have hfz119_1 := blk_frozen BK207.out 1
         go_wp2_with (first | (go_at_call 22; (with_reducible refine (dot_Less.calls kj5 a1_0 a1_1 a2_0 a2_1 false _ A68.out).mono ?_); rintro e w120 ⟨rfl, hb⟩; have n0_ := am (kB (g := gb205) (o := .cells #[.int .i64 a0_0, .int .i64 a0_1] 24 (0, 0)) (by (with_reducible repeat (first | refine kN ?_ _ | refine kD ?_ | refine kA ?_ _)); exact BK205.out) hb); have n1_ := am (kB (g := gb206) (o := .cells #[.int .i64 a1_0, .int .i64 a1_1] 24 (0, 0)) (by (with_reducible repeat (first | refine kN ?_ _ | refine kD ?_ | refine kA ?_ _)); exact BK206.out) hb); have n2_ := am (kB (g := gb207) (o := .cells #[.int .i64 a2_0, .int .i64 a2_1] 24 (0, 0)) (by (with_reducible repeat (first | refine kN ?_ _ | refine kD ?_ | refine kA ?_ _)); exact BK207.out) hb); have n3_ := am (bP (by repeat (first | (with_reducible first | exact HB.out | apply bA | apply bN | apply b1 | refine bS ?_ GE205.out | refine bS ?_ GE206.out | refine bS ?_ GE207.out) | exact HB.out)) hb); clear BK205; clear BK206; clear BK207; clear HB; have BK205 := n0_; have BK206 := n1_; have BK207 := n2_; have HB := n3_; clear n0_ n1_ n2_ n3_; (try clear hb); (try clear hb2); (try clear hk); (try clear hi); have hcz121_0 : w120.cell? ⟨gb205, 0, none⟩ = some (.int .i64 a0_0) := (kC BK205.out 0).trans rfl; have hcz121_1 : w120.cell? ⟨gb205, 1, none⟩ = some (.int .i64 a0_1) := (kC BK205.out 1).trans rfl; have hfz121_0 := blk_frozen BK205.out 0; have hfz121_1 := blk_frozen BK205.out 1; have hcz122_0 : w120.cell? ⟨gb206, 0, none⟩ = some (.int .i64 a1_0) := (kC BK206.out 0).trans rfl; have hcz122_1 : w120.cell? ⟨gb206, 1, none⟩ = some (.int .i64 a1_1) := (kC BK206.out 1).trans rfl; have hfz122_0 := blk_frozen BK206.out 0; have hfz122_1 := blk_frozen BK206.out 1) | (go_at_call 16; (with_reducible refine (L05_wakes.calls kj5  t220 _ A114.out).mono ?_); rintro e w123 ⟨rfl, hb⟩; have n0_ := am (kB (g := gb205) (o := .cells #[.int .i64 a0_0, .int .i64 a0_1] 24 (0, 0)) (by (with_reducible repeat (first | refine kN ?_ _ | refine kD ?_ | refine kA ?_ _)); exact BK205.out) hb); have n1_ := am (kB (g := gb206) (o := .cells #[.int .i64 a1_0, .int .i64 a1_1] 24 (0, 0)) (by (with_reducible repeat (first | refine kN ?_ _ | refine kD ?_ | refine kA ?_ _)); exact BK206.out) hb); have n2_ := am (kB (g := gb207) (o := .cells #[.int .i64 a2_0, .int .i64 a2_1] 24 (0, 0)) (by (with_reducible repeat (first | refine kN ?_ _ | refine kD ?_ | refine kA ?_ _)); exact BK207.out) hb); have n3_ := am (bP (by repeat (first | (with_reducible first | exact HB.out | apply bA | apply bN | apply b1 | refine bS ?_ GE205.out | refine bS ?_ GE206.out | refine bS ?_ GE207.out) | exact HB.out)) hb); clear BK205; clear BK206; clear BK207; clear HB; have BK205 := n0_; have BK206 := n1_; have BK207 := n2_; have HB := n3_; clear n0_ n1_ n2_ n3_; (try clear hb); (try clear hb2); (try clear hk); (try clear hi)))
         go_ret; exact ⟨by first | rfl | (simp [errW_none, errW_some] <;> rfl) | (simp [*, errW_none, errW_some] <;> rfl), by repeat (first | (with_reducible first | exact HB.out | apply bA | apply bN | apply b1 | refine bS ?_ GE205.out | refine bS ?_ GE206.out | refine bS ?_ GE207.out) | exact HB.out)⟩
        ·
         rw [if_neg c113] at H; have c113b0 : decide (a0_1 < a1_1) = false := decide_eq_false c113
         clear c113; exact absurd (H.trans (congrArg some HLAW.out)) (by simp)
       ·
        rw [if_neg c112] at H; have c112b0 : (a0_0 == a1_0) = false := beq_eq_false_iff_ne.mpr c112
        have c112b1 : (a0_0 != a1_0) = true := bne_iff_ne.mpr c112
        exact absurd (H.trans (congrArg some HLAW.out)) (by simp)
    ·
     replace c67 := Bool.eq_false_iff.mpr c67
     subst c67; have H1 : (if a0_0 < a1_0 then (some false) else (if a0_0 = a1_0 then (if a0_1 < a1_1 then (some false) else ((L05_wakes.f kj5).bind fun t221 => (some t221))) else ((L05_wakes.f kj5).bind fun t222 => (some t222)))) = some r := by rw [if_neg (show ¬ (false = true) by decide)] at H; exact H
     clear H; have H := H1; clear H1; by_cases c124 : a0_0 < a1_0
     ·
      rw [if_pos c124] at H; have c124b0 : decide (a0_0 < a1_0) = true := decide_eq_true c124
      clear c124; exact absurd (H.trans (congrArg some HLAW.out)) (by simp)
     ·
      rw [if_neg c124] at H; have c124b0 : decide (a0_0 < a1_0) = false := decide_eq_false c124
      clear c124; by_cases c125 : a0_0 = a1_0
      ·
       rw [if_pos c125] at H; have c125b0 : (a0_0 == a1_0) = true := beq_iff_eq.mpr c125
       have c125b1 : (a0_0 != a1_0) = false := bne_eq_false_iff_eq.mpr c125
       clear c125; by_cases c126 : a0_1 < a1_1
       ·
        rw [if_pos c126] at H; have c126b0 : decide (a0_1 < a1_1) = true := decide_eq_true c126
        clear c126; exact absurd (H.trans (congrArg some HLAW.out)) (by simp)
       ·
        rw [if_neg c126] at H; have c126b0 : decide (a0_1 < a1_1) = false := decide_eq_false c126
        clear c126; replace H := Option.bind_eq_some_iff.mp H
        obtain ⟨t221, A1270, H⟩ := H; replace H : (some t221) = some r := H
        have A127 := am A1270; clear A1270; obtain rfl := Option.some.inj H; have hnb128 := NB205_206.out; have hnc128 := NB206_205.out; have hnb129 := NB205_207.out; have hnc129 := NB207_205.out; have hcz130_0 : wc.cell? ⟨gb205, 0, none⟩ = some (.int .i64 a0_0) := (kC BK205.out 0).trans rfl
        have hcz130_1 : wc.cell? ⟨gb205, 1, none⟩ = some (.int .i64 a0_1) := (kC BK205.out 1).trans rfl
        have hfz130_0 := blk_frozen BK205.out 0
        have hfz130_1 := blk_frozen BK205.out 1
        have hnb131 := NB206_207.out; have hnc131 := NB207_206.out; have hcz132_0 : wc.cell? ⟨gb206, 0, none⟩ = some (.int .i64 a1_0) := (kC BK206.out 0).trans rfl
        have hcz132_1 : wc.cell? ⟨gb206, 1, none⟩ = some (.int .i64 a1_1) := (kC BK206.out 1).trans rfl
        have hfz132_0 := blk_frozen BK206.out 0
        have hfz132_1 := blk_frozen BK206.out 1
        go_wp2_with (first | (go_at_call 16; (with_reducible refine (L05_wakes.calls kj5  t221 _ A127.out).mono ?_); rintro e w133 ⟨rfl, hb⟩; have n0_ := am (kB (g := gb205) (o := .cells #[.int .i64 a0_0, .int .i64 a0_1] 24 (0, 0)) (by (with_reducible repeat (first | refine kN ?_ _ | refine kD ?_ | refine kA ?_ _)); exact BK205.out) hb); have n1_ := am (kB (g := gb206) (o := .cells #[.int .i64 a1_0, .int .i64 a1_1] 24 (0, 0)) (by (with_reducible repeat (first | refine kN ?_ _ | refine kD ?_ | refine kA ?_ _)); exact BK206.out) hb); have n2_ := am (kB (g := gb207) (o := .cells #[.int .i64 a2_0, .int .i64 a2_1] 24 (0, 0)) (by (with_reducible repeat (first | refine kN ?_ _ | refine kD ?_ | refine kA ?_ _)); exact BK207.out) hb); have n3_ := am (bP (by repeat (first | (with_reducible first | exact HB.out | apply bA | apply bN | apply b1 | refine bS ?_ GE205.out | refine bS ?_ GE206.out | refine bS ?_ GE207.out) | exact HB.out)) hb); clear BK205; clear BK206; clear BK207; clear HB; have BK205 := n0_; have BK206 := n1_; have BK207 := n2_; have HB := n3_; clear n0_ n1_ n2_ n3_; (try clear hb); (try clear hb2); (try clear hk); (try clear hi)))
        go_ret; exact ⟨by first | rfl | (simp [errW_none, errW_some] <;> rfl) | (simp [*, errW_none, errW_some] <;> rfl), by repeat (first | (with_reducible first | exact HB.out | apply bA | apply bN | apply b1 | refine bS ?_ GE205.out | refine bS ?_ GE206.out | refine bS ?_ GE207.out) | exact HB.out)⟩
      ·
       rw [if_neg c125] at H; have c125b0 : (a0_0 == a1_0) = false := beq_eq_false_iff_ne.mpr c125
       have c125b1 : (a0_0 != a1_0) = true := bne_iff_ne.mpr c125
       replace H := Option.bind_eq_some_iff.mp H
       obtain ⟨t222, A1340, H⟩ := H; replace H : (some t222) = some r := H
       have A134 := am A1340; clear A1340; obtain rfl := Option.some.inj H; have hnb135 := NB205_206.out; have hnc135 := NB206_205.out; have hnb136 := NB205_207.out; have hnc136 := NB207_205.out; have hcz137_0 : wc.cell? ⟨gb205, 0, none⟩ = some (.int .i64 a0_0) := (kC BK205.out 0).trans rfl
       have hcz137_1 : wc.cell? ⟨gb205, 1, none⟩ = some (.int .i64 a0_1) := (kC BK205.out 1).trans rfl
       have hfz137_0 := blk_frozen BK205.out 0
       have hfz137_1 := blk_frozen BK205.out 1
       have hnb138 := NB206_207.out; have hnc138 := NB207_206.out; have hcz139_0 : wc.cell? ⟨gb206, 0, none⟩ = some (.int .i64 a1_0) := (kC BK206.out 0).trans rfl
       have hcz139_1 : wc.cell? ⟨gb206, 1, none⟩ = some (.int .i64 a1_1) := (kC BK206.out 1).trans rfl
       have hfz139_0 := blk_frozen BK206.out 0
       have hfz139_1 := blk_frozen BK206.out 1
       go_wp2_with (first | (go_at_call 16; (with_reducible refine (L05_wakes.calls kj5  t222 _ A134.out).mono ?_); rintro e w140 ⟨rfl, hb⟩; have n0_ := am (kB (g := gb205) (o := .cells #[.int .i64 a0_0, .int .i64 a0_1] 24 (0, 0)) (by (with_reducible repeat (first | refine kN ?_ _ | refine kD ?_ | refine kA ?_ _)); exact BK205.out) hb); have n1_ := am (kB (g := gb206) (o := .cells #[.int .i64 a1_0, .int .i64 a1_1] 24 (0, 0)) (by (with_reducible repeat (first | refine kN ?_ _ | refine kD ?_ | refine kA ?_ _)); exact BK206.out) hb); have n2_ := am (kB (g := gb207) (o := .cells #[.int .i64 a2_0, .int .i64 a2_1] 24 (0, 0)) (by (with_reducible repeat (first | refine kN ?_ _ | refine kD ?_ | refine kA ?_ _)); exact BK207.out) hb); have n3_ := am (bP (by repeat (first | (with_reducible first | exact HB.out | apply bA | apply bN | apply b1 | refine bS ?_ GE205.out | refine bS ?_ GE206.out | refine bS ?_ GE207.out) | exact HB.out)) hb); clear BK205; clear BK206; clear BK207; clear HB; have BK205 := n0_; have BK206 := n1_; have BK207 := n2_; have HB := n3_; clear n0_ n1_ n2_ n3_; (try clear hb); (try clear hb2); (try clear hk); (try clear hi)))
       go_ret; exact ⟨by first | rfl | (simp [errW_none, errW_some] <;> rfl) | (simp [*, errW_none, errW_some] <;> rfl), by repeat (first | (with_reducible first | exact HB.out | apply bA | apply bN | apply b1 | refine bS ?_ GE205.out | refine bS ?_ GE206.out | refine bS ?_ GE207.out) | exact HB.out)⟩

end Go.Proofs.Ytadibbhmhggmaaa.B
