/- Written by a program of this session, out of the translation: plain functions, and that the calls do what they say. Lean checks it. -/
import Derived.Test.YtadibbhmhggmaaaB0
import Derived.Test.YtadibbhmhggmaaaB1
namespace Go.Proofs.Ytadibbhmhggmaaa.B
open Go.RowKit Go.Proofs.YtadibbhmhggmaaaW.PrintWords Go.Proofs.YtadibbhmhggmaaaW.PrintLast Go.Proofs.YtadibbhmhggmaaaW.PrintMore
attribute [local go_sem] max2_int min2_int max_two min_two max_three min_three max_four min_four Go.Proofs.Ytadibbhmhggmaaa.Open.string_gtr2 Go.Proofs.Ytadibbhmhggmaaa.Open.string_leq2 Go.Proofs.Ytadibbhmhggmaaa.Open.string_geq2   -- for this text's walks alone
set_option linter.unusedVariables false
set_option linter.unusedSimpArgs false

/-! ### dot_Next: function 13 -/
def dot_Next.f (l0 : List Int) (a1_0 : Int) (a1_1 : Int) : Option (Bool) := (dot_in.f l0 a1_0).bind fun t105 => (if t105 = true then (if 0 ≤ a1_0 then (if a1_0 < (l0.length : Int) then (if (rd l0 a1_0) < a1_1 then (some ((wrap64 (a1_1 - 1)) == (rd l0 a1_0))) else (some false)) else (none)) else (none)) else (some false))
def dot_Next.T1 : Bool × List (List Nat × List Nat) := (true, [([], []), ([], []), ([1], [1]), ([0, 2], [0, 2]), ([3, 3], [3]), ([4], [4]), ([4], [4]), ([6, 4], [4, 6]), ([5, 7, 4], [4, 5, 7]), ([8, 4], [4, 8]), ([4], [4]), ([10, 4], [4, 10]), ([9, 11, 4], [4, 9, 11]), ([4, 12], [4, 12]), ([13, 4], [13]), ([14], [14]), ([15, 14], [14, 15]), ([16, 14], [14, 16]), ([14], [14]), ([14], [14]), ([19, 14], [14, 19]), ([18, 20, 14], [14, 18, 20]), ([21, 14], [14, 21]), ([17, 22, 14], [14, 17, 22]), ([14, 23], [14, 23]), ([24, 14, 0, 1, 2, 3, 4, 5, 6, 7, 8, 9, 10, 11, 12, 13, 14, 15, 16, 17, 18, 19, 20, 21, 22, 23, 24], [24])])
def dot_Next.B1 : List Nat := [0, 0, 2, 7, 15, 31, 31, 95, 255, 511, 31, 1055, 4095, 8191, 16383, 32767, 65535, 131071, 32767, 32767, 557055, 1867775, 3964927, 8388607, 16777215, 33554431]
theorem dot_Next.tab1 : rtab .any (opsOf Try.f13 1) = dot_Next.T1 := by kernel_rfl
theorem dot_Next.bits1 : waitsOk dot_Next.T1.2 dot_Next.B1 = true := by kernel_rfl
set_option maxHeartbeats 8000000 in
set_option maxRecDepth 100000 in
theorem dot_Next.calls (A0 : Option Addr) (c0 : Nat) (l0 : List Int) (a1_0 : Int) (a1_1 : Int) (r : Bool) (w : World) (hr0 : Kd.C (Kd.int .i64) w A0 l0.length l0) (hc0 : l0.length ≤ c0) (h : dot_Next.f l0 a1_0 a1_1 = some r) :
  Calls Try.prog 13 #[.slice A0 l0.length c0, .agg #[.int .i64 a1_0, .int .i64 a1_1]] w fun e w' => e = .returned (.bool r) ∧ Below w.heap.size w w' := by
 have hu24 := Try.underlying24
 have HR0 := am hr0; have HC0 := am hc0; clear hr0 hc0; have HB := am (Below.refl w.heap.size w)
 have H : ((dot_in.f l0 a1_0).bind fun t105 => (if t105 = true then (if 0 ≤ a1_0 then (if a1_0 < (l0.length : Int) then (if (rd l0 a1_0) < a1_1 then (some ((wrap64 (a1_1 - 1)) == (rd l0 a1_0))) else (some false)) else (none)) else (none)) else (some false))) = some r := h
 clear h; replace H := Option.bind_eq_some_iff.mp H
 obtain ⟨t105, A30, H⟩ := H; replace H : (if t105 = true then (if 0 ≤ a1_0 then (if a1_0 < (l0.length : Int) then (if (rd l0 a1_0) < a1_1 then (some ((wrap64 (a1_1 - 1)) == (rd l0 a1_0))) else (some false)) else (none)) else (none)) else (some false)) = some r := H
 have A3 := am A30; clear A30; by_cases c4 : t105 = true
 ·
  subst c4; have H1 : (if 0 ≤ a1_0 then (if a1_0 < (l0.length : Int) then (if (rd l0 a1_0) < a1_1 then (some ((wrap64 (a1_1 - 1)) == (rd l0 a1_0))) else (some false)) else (none)) else (none)) = some r := by rw [if_pos rfl] at H; exact H
  clear H; have H := H1; clear H1; by_cases c5 : 0 ≤ a1_0
  ·
   rw [if_pos c5] at H; have c5b0 : decide (0 ≤ a1_0) = true := decide_eq_true c5
   clear c5; by_cases c6 : a1_0 < (l0.length : Int)
   ·
    rw [if_pos c6] at H; have c6b0 : decide (a1_0 < (l0.length : Int)) = true := decide_eq_true c6
    clear c6; by_cases c7 : (rd l0 a1_0) < a1_1
    ·
     rw [if_pos c7] at H; have c7b0 : decide ((rd l0 a1_0) < a1_1) = true := decide_eq_true c7
     clear c7; obtain rfl := Option.some.inj H; go_enter Try.func13, Try.ntmps13
     try go_wp2_with (first | ((with_reducible refine gate_dst (N := 3) rfl ?_); refine box_event ?hg (N := 3) ?hd (cs := #[.int .i64 a1_0, .int .i64 a1_1]) (t := 24) ?hr ?_; (case hd => rfl); (case hg => rfl); (case hr => first | (go_simp; done) | (go_simp; rfl)); intro gb104 hg w8 hbox hb; have n0_ := am (bP (by repeat (first | (with_reducible first | exact HB.out | apply bA | apply bN | apply b1) | exact HB.out)) hb); have n1_ := am (hbox); have n2_ := am ((by rw [hg]; exact (below_size (by repeat (first | (with_reducible first | exact HB.out | apply bA | apply bN | apply b1) | exact HB.out))) : w.heap.size ≤ gb104)); have n3_ := am ((by rw [hg]; exact (below_size (by repeat (first | (with_reducible first | exact HB.out | apply bA | apply bN | apply b1) | exact HB.out))) : w.heap.size ≤ gb104)); clear HB; have HB := n0_; have BK104 := n1_; have GW104 := n2_; have GE104 := n3_; clear n0_ n1_ n2_ n3_; clear hb hbox hg))
     have n0_ := am (kD BK104.out)
     have n1_ := am (b1 HB.out)
     clear BK104; clear HB; have BK104 := n0_; have HB := n1_; clear n0_ n1_; have p106 : 0 ≤ (a1_0 : Int) := of_decide_eq_true (by first | (with_reducible assumption) | assumption)
     have q106 : a1_0 < (l0.length : Int) := of_decide_eq_true (by first | (with_reducible assumption) | assumption)
     obtain ⟨ad106, e106, hx106_0⟩ := Kd.at_int HR0.out a1_0 p106 q106
     have hw106_0 := hx106_0
     cases e106
     replace hx106_0 := (HB.out.cell (World.block_lt_of_cell? w _ hx106_0)).trans hx106_0
     replace p106 := eq_true p106
     replace q106 := eq_true q106
     have p107 : 0 ≤ (a1_0 : Int) := of_decide_eq_true (by first | (with_reducible assumption) | assumption)
     have q107 : a1_0 < (l0.length : Int) := of_decide_eq_true (by first | (with_reducible assumption) | assumption)
     obtain ⟨ad107, e107, hx107_0⟩ := Kd.at_int HR0.out a1_0 p107 q107
     have hw107_0 := hx107_0; obtain rfl : ad106 = ad107 := (by injection e107)
     replace hx107_0 := (HB.out.cell (World.block_lt_of_cell? w _ hx107_0)).trans hx107_0
     replace p107 := eq_true p107
     replace q107 := eq_true q107
     refine start_ (n := 26) (S := fun w' => w'.cell? ⟨gb104, 0, none⟩ = some (.int .i64 a1_0) ∧ w'.cell? ⟨gb104, 1, none⟩ = some (.int .i64 a1_1) ∧ w'.cell? (ad106.add (a1_0).toNat) = some (.int .i64 (rd l0 a1_0)) ∧ w'.cell? (ad106.add (a1_0).toNat) = some (.int .i64 (rd l0 a1_0))) (ds := []) #[F,F,F,F,F,F,F,F,F,F,F,F,F,F,F,F,F,F,F,F,F,F,F,F,F,F] (by kernel_rfl) rfl rfl ⟨(kC BK104.out 0).trans rfl, (kC BK104.out 1).trans rfl, ((HB.out.cell (World.block_lt_of_cell? w _ hw106_0)).trans hw106_0), ((HB.out.cell (World.block_lt_of_cell? w _ hw107_0)).trans hw107_0)⟩ (fun hHeld => ?_); refine with_tabW dot_Next.tab1 dot_Next.bits1 (fun HT_ HW_ => ?_)
     generalize w8.drew = w9 at BK104 HB hx106_0 hx107_0 hHeld ⊢
     refine Open.pV (i := 0) (N := some 5) (Open.bT 1 25) rfl rfl HT_.out (by kernel_rfl) (fun _ _ _ h => h) (by rfl) (by intro w'; go_simp; with_reducible rfl) (by simp only [Act.put, sA, sZ, sS, i64_w, i32_w]; rfl) ?_
     refine Open.pV (i := 1) (N := some 6) (Open.bT 2 24) rfl rfl HT_.out (by kernel_rfl) (fun _ _ _ h => h) (by rfl) (by intro w'; go_simp; with_reducible rfl) (by simp only [Act.put, sA, sZ, sS, i64_w, i32_w]; rfl) ?_
     refine take_ (i := 2) (N := some 7) (v := ?_) (a' := ?_) (Open.bT 3 23) rfl rfl (take_ofW HT_.out HW_.out (by kernel_rfl)) (fun _ _ _ h => h) (Or.inl ⟨by rfl, ?_⟩) hHeld ?_ ?_
     rotate_left
     ·
      rintro w' ⟨s0, s1, s2, s3⟩
      go_simp; with_reducible rfl
     rotate_left
     ·
      simp only [Act.put, sA, sZ, sS, i64_w, i32_w]; rfl
     refine one_ (i := 3) (N := some 8) (Open.bT 4 22) rfl rfl (one_of HT_.out (by kernel_rfl)) (by decide) (fun K hK => ?_)
     refine goes_ Try.func42 (by kernel_rfl) rfl #[.slice (some ad106) l0.length c0, .int .i64 a1_0] (by rfl) rfl rfl (by (try simp only [List.map_toArray, List.map_cons, List.map_nil]); first | done | rfl | (simp only [List.length_drop, List.length_take]; rfl)) ?_
     with_reducible refine (dot_in.calls _ _ l0 a1_0 true _ ?side1 ?side2 A3.out).mono ?_
     (case side1 => repeat (first | exact (Kd.C_below HR0.out HB.out) | (with_reducible refine Kd.C_alloc ?_ _) | (with_reducible refine Kd.C_drewN ?_ _) | (with_reducible refine Kd.C_drew ?_)))
     (case side2 => exact HC0.out)
     rintro e w' ⟨rfl, ⟨nd, rfl⟩⟩
     refine ⟨_, rfl, ?_⟩
     refine hK.out _ _ ⟨(kC BK104.out 0).trans rfl, (kC BK104.out 1).trans rfl, ((HB.out.cell (World.block_lt_of_cell? w _ hw106_0)).trans hw106_0), ((HB.out.cell (World.block_lt_of_cell? w _ hw107_0)).trans hw107_0)⟩ (fun hHeld => ?_)
     clear hK K; refine norm_ (a' := ?_) ?_ ?_
     rotate_left
     ·
      show Act.put _ (some 8) _ = _
      simp only [Act.put, sA, sZ, sS, i64_w, i32_w]; rfl
     refine Open.pV (i := 4) (N := some 9) (Open.bT 5 21) rfl rfl HT_.out (by kernel_rfl) (fun _ _ _ h => h) (by rfl) (by intro w'; go_simp; with_reducible rfl) (by simp only [Act.put, sA, sZ, sS, i64_w, i32_w]; rfl) ?_
     refine Open.pV (i := 5) (N := some 10) (Open.bT 6 20) rfl rfl HT_.out (by kernel_rfl) (fun _ _ _ h => h) (by rfl) (by intro w'; go_simp; with_reducible rfl) (by simp only [Act.put, sA, sZ, sS, i64_w, i32_w]; rfl) ?_
     refine Open.pV (i := 6) (N := some 11) (Open.bT 7 19) rfl rfl HT_.out (by kernel_rfl) (fun _ _ _ h => h) (by rfl) (by intro w'; go_simp; with_reducible rfl) (by simp only [Act.put, sA, sZ, sS, i64_w, i32_w]; rfl) ?_
     refine Open.pV (i := 10) (N := some 15) #[T,T,T,T,T,T,T,F,F,F,T,F,F,F,F,F,F,F,F,F,F,F,F,F,F,F] rfl rfl HT_.out (by kernel_rfl) (fun _ _ _ h => h) (by rfl) (by intro w'; go_simp; with_reducible rfl) (by simp only [Act.put, sA, sZ, sS, i64_w, i32_w]; rfl) ?_
     refine take_ (i := 7) (N := some 12) (v := ?_) (a' := ?_) #[T,T,T,T,T,T,T,T,F,F,T,F,F,F,F,F,F,F,F,F,F,F,F,F,F,F] rfl rfl (take_ofW HT_.out HW_.out (by kernel_rfl)) (fun _ _ _ h => h) (Or.inl ⟨by rfl, ?_⟩) hHeld ?_ ?_
     rotate_left
     ·
      rintro w' ⟨s0, s1, s2, s3⟩
      go_simp; with_reducible rfl
     rotate_left
     ·
      simp only [Act.put, sA, sZ, sS, i64_w, i32_w]; rfl
     refine Open.pV (i := 8) (N := some 13) #[T,T,T,T,T,T,T,T,T,F,T,F,F,F,F,F,F,F,F,F,F,F,F,F,F,F] rfl rfl HT_.out (by kernel_rfl) (fun _ _ _ h => h) (by rfl) (by intro w'; go_simp; with_reducible rfl) (by simp only [Act.put, sA, sZ, sS, i64_w, i32_w]; rfl) ?_
     refine take_ (i := 9) (N := some 14) (v := ?_) (a' := ?_) (Open.bT 11 15) rfl rfl (take_ofW HT_.out HW_.out (by kernel_rfl)) (fun _ _ _ h => h) (Or.inl ⟨by rfl, ?_⟩) hHeld ?_ ?_
     rotate_left
     ·
      rintro w' ⟨s0, s1, s2, s3⟩
      go_simp; with_reducible rfl
     rotate_left
     ·
      simp only [Act.put, sA, sZ, sS, i64_w, i32_w]; rfl
     refine take_ (i := 11) (N := some 16) (v := ?_) (a' := ?_) (Open.bT 12 14) rfl rfl (take_ofW HT_.out HW_.out (by kernel_rfl)) (fun _ _ _ h => h) (Or.inl ⟨by rfl, ?_⟩) hHeld ?_ ?_
     rotate_left
     ·
      rintro w' ⟨s0, s1, s2, s3⟩
      go_simp; with_reducible rfl
     rotate_left
     ·
      simp only [Act.put, sA, sZ, sS, i64_w, i32_w]; rfl
     refine Open.pV (i := 12) (N := some 17) (Open.bT 13 13) rfl rfl HT_.out (by kernel_rfl) (fun _ _ _ h => h) (by rfl) (by intro w'; go_simp; with_reducible rfl) (by simp only [Act.put, sA, sZ, sS, i64_w, i32_w]; rfl) ?_
     refine Open.pV (i := 13) (N := some 18) (Open.bT 14 12) rfl rfl HT_.out (by kernel_rfl) (fun _ _ _ h => h) (by rfl) (by intro w'; go_simp; with_reducible rfl) (by simp only [Act.put, sA, sZ, sS, i64_w, i32_w]; rfl) ?_
     refine Open.pV (i := 14) (N := some 19) (Open.bT 15 11) rfl rfl HT_.out (by kernel_rfl) (fun _ _ _ h => h) (by rfl) (by intro w'; go_simp; with_reducible rfl) (by simp only [Act.put, sA, sZ, sS, i64_w, i32_w]; rfl) ?_
     refine Open.pV (i := 15) (N := some 20) (Open.bT 16 10) rfl rfl HT_.out (by kernel_rfl) (fun _ _ _ h => h) (by rfl) (by intro w'; go_simp; with_reducible rfl) (by simp only [Act.put, sA, sZ, sS, i64_w, i32_w]; rfl) ?_
     refine Open.pV (i := 18) (N := some 23) #[T,T,T,T,T,T,T,T,T,T,T,T,T,T,T,T,F,F,T,F,F,F,F,F,F,F] rfl rfl HT_.out (by kernel_rfl) (fun _ _ _ h => h) (by rfl) (by intro w'; go_simp; with_reducible rfl) (by simp only [Act.put, sA, sZ, sS, i64_w, i32_w]; rfl) ?_
     refine Open.pV (i := 19) (N := some 24) #[T,T,T,T,T,T,T,T,T,T,T,T,T,T,T,T,F,F,T,T,F,F,F,F,F,F] rfl rfl HT_.out (by kernel_rfl) (fun _ _ _ h => h) (by rfl) (by intro w'; go_simp; with_reducible rfl) (by simp only [Act.put, sA, sZ, sS, i64_w, i32_w]; rfl) ?_
     refine take_ (i := 16) (N := some 21) (v := ?_) (a' := ?_) #[T,T,T,T,T,T,T,T,T,T,T,T,T,T,T,T,T,F,T,T,F,F,F,F,F,F] rfl rfl (take_ofW HT_.out HW_.out (by kernel_rfl)) (fun _ _ _ h => h) (Or.inl ⟨by rfl, ?_⟩) hHeld ?_ ?_
     rotate_left
     ·
      rintro w' ⟨s0, s1, s2, s3⟩
      go_simp; with_reducible rfl
     rotate_left
     ·
      simp only [Act.put, sA, sZ, sS, i64_w, i32_w]; rfl
     refine Open.pV (i := 17) (N := some 22) (Open.bT 20 6) rfl rfl HT_.out (by kernel_rfl) (fun _ _ _ h => h) (by rfl) (by intro w'; go_simp; with_reducible rfl) (by simp only [Act.put, sA, sZ, sS, i64_w, i32_w]; rfl) ?_
     refine take_ (i := 20) (N := some 25) (v := ?_) (a' := ?_) (Open.bT 21 5) rfl rfl (take_ofW HT_.out HW_.out (by kernel_rfl)) (fun _ _ _ h => h) (Or.inl ⟨by rfl, ?_⟩) hHeld ?_ ?_
     rotate_left
     ·
      rintro w' ⟨s0, s1, s2, s3⟩
      go_simp; with_reducible rfl
     rotate_left
     ·
      simp only [Act.put, sA, sZ, sS, i64_w, i32_w]; rfl
     refine Open.pV (i := 21) (N := some 26) (Open.bT 22 4) rfl rfl HT_.out (by kernel_rfl) (fun _ _ _ h => h) (by rfl) (by intro w'; go_simp; with_reducible rfl) (by simp only [Act.put, sA, sZ, sS, i64_w, i32_w]; rfl) ?_
     refine take_ (i := 22) (N := some 27) (v := ?_) (a' := ?_) (Open.bT 23 3) rfl rfl (take_ofW HT_.out HW_.out (by kernel_rfl)) (fun _ _ _ h => h) (Or.inl ⟨by rfl, ?_⟩) hHeld ?_ ?_
     rotate_left
     ·
      rintro w' ⟨s0, s1, s2, s3⟩
      go_simp; with_reducible rfl
     rotate_left
     ·
      simp only [Act.put, sA, sZ, sS, i64_w, i32_w]; rfl
     refine Open.pV (i := 23) (N := some 28) (Open.bT 24 2) rfl rfl HT_.out (by kernel_rfl) (fun _ _ _ h => h) (by rfl) (by intro w'; go_simp; with_reducible rfl) (by simp only [Act.put, sA, sZ, sS, i64_w, i32_w]; rfl) ?_
     refine Open.pV (i := 24) (N := some 29) (Open.bT 25 1) rfl rfl HT_.out (by kernel_rfl) (fun _ _ _ h => h) (by rfl) (by intro w'; go_simp; with_reducible rfl) (by simp only [Act.put, sA, sZ, sS, i64_w, i32_w]; rfl) ?_
     refine Open.pV (i := 25) (N := some 4) (Open.bT 26 0) rfl rfl HT_.out (by kernel_rfl) (fun _ _ _ h => h) (by rfl) (by intro w'; go_simp; with_reducible rfl) (by simp only [Act.put, sA, sZ, sS, i64_w, i32_w]; rfl) ?_
     refine done_ (done_of HT_.out (by kernel_rfl)) ?_
     (try go_wp2); go_ret; exact ⟨by first | rfl | (simp [errW_none, errW_some] <;> rfl) | (simp [*, errW_none, errW_some] <;> rfl), by repeat (first | (with_reducible first | exact HB.out | apply bA | apply bN | apply b1 | refine bS ?_ GE104.out) | exact HB.out)⟩
    ·
     rw [if_neg c7] at H; have c7b0 : decide ((rd l0 a1_0) < a1_1) = false := decide_eq_false c7
     clear c7; obtain rfl := Option.some.inj H; go_enter Try.func13, Try.ntmps13
     try go_wp2_with (first | ((with_reducible refine gate_dst (N := 3) rfl ?_); refine box_event ?hg (N := 3) ?hd (cs := #[.int .i64 a1_0, .int .i64 a1_1]) (t := 24) ?hr ?_; (case hd => rfl); (case hg => rfl); (case hr => first | (go_simp; done) | (go_simp; rfl)); intro gb104 hg w10 hbox hb; have n0_ := am (bP (by repeat (first | (with_reducible first | exact HB.out | apply bA | apply bN | apply b1) | exact HB.out)) hb); have n1_ := am (hbox); have n2_ := am ((by rw [hg]; exact (below_size (by repeat (first | (with_reducible first | exact HB.out | apply bA | apply bN | apply b1) | exact HB.out))) : w.heap.size ≤ gb104)); have n3_ := am ((by rw [hg]; exact (below_size (by repeat (first | (with_reducible first | exact HB.out | apply bA | apply bN | apply b1) | exact HB.out))) : w.heap.size ≤ gb104)); clear HB; have HB := n0_; have BK104 := n1_; have GW104 := n2_; have GE104 := n3_; clear n0_ n1_ n2_ n3_; clear hb hbox hg))
     have n0_ := am (kD BK104.out)
     have n1_ := am (b1 HB.out)
     clear BK104; clear HB; have BK104 := n0_; have HB := n1_; clear n0_ n1_; have p106 : 0 ≤ (a1_0 : Int) := of_decide_eq_true (by first | (with_reducible assumption) | assumption)
     have q106 : a1_0 < (l0.length : Int) := of_decide_eq_true (by first | (with_reducible assumption) | assumption)
     obtain ⟨ad106, e106, hx106_0⟩ := Kd.at_int HR0.out a1_0 p106 q106
     have hw106_0 := hx106_0
     cases e106
     replace hx106_0 := (HB.out.cell (World.block_lt_of_cell? w _ hx106_0)).trans hx106_0
     replace p106 := eq_true p106
     replace q106 := eq_true q106
     refine start_ (n := 26) (S := fun w' => w'.cell? ⟨gb104, 0, none⟩ = some (.int .i64 a1_0) ∧ w'.cell? ⟨gb104, 1, none⟩ = some (.int .i64 a1_1) ∧ w'.cell? (ad106.add (a1_0).toNat) = some (.int .i64 (rd l0 a1_0))) (ds := []) #[F,F,F,F,F,F,F,F,F,F,F,F,F,F,F,F,F,F,F,F,F,F,F,F,F,F] (by kernel_rfl) rfl rfl ⟨(kC BK104.out 0).trans rfl, (kC BK104.out 1).trans rfl, ((HB.out.cell (World.block_lt_of_cell? w _ hw106_0)).trans hw106_0)⟩ (fun hHeld => ?_); refine with_tabW dot_Next.tab1 dot_Next.bits1 (fun HT_ HW_ => ?_)
     generalize w10.drew = w11 at BK104 HB hx106_0 hHeld ⊢
     refine Open.pV (i := 0) (N := some 5) (Open.bT 1 25) rfl rfl HT_.out (by kernel_rfl) (fun _ _ _ h => h) (by rfl) (by intro w'; go_simp; with_reducible rfl) (by simp only [Act.put, sA, sZ, sS, i64_w, i32_w]; rfl) ?_
     refine Open.pV (i := 1) (N := some 6) (Open.bT 2 24) rfl rfl HT_.out (by kernel_rfl) (fun _ _ _ h => h) (by rfl) (by intro w'; go_simp; with_reducible rfl) (by simp only [Act.put, sA, sZ, sS, i64_w, i32_w]; rfl) ?_
     refine take_ (i := 2) (N := some 7) (v := ?_) (a' := ?_) (Open.bT 3 23) rfl rfl (take_ofW HT_.out HW_.out (by kernel_rfl)) (fun _ _ _ h => h) (Or.inl ⟨by rfl, ?_⟩) hHeld ?_ ?_
     rotate_left
     ·
      rintro w' ⟨s0, s1, s2⟩
      go_simp; with_reducible rfl
     rotate_left
     ·
      simp only [Act.put, sA, sZ, sS, i64_w, i32_w]; rfl
     refine one_ (i := 3) (N := some 8) (Open.bT 4 22) rfl rfl (one_of HT_.out (by kernel_rfl)) (by decide) (fun K hK => ?_)
     refine goes_ Try.func42 (by kernel_rfl) rfl #[.slice (some ad106) l0.length c0, .int .i64 a1_0] (by rfl) rfl rfl (by (try simp only [List.map_toArray, List.map_cons, List.map_nil]); first | done | rfl | (simp only [List.length_drop, List.length_take]; rfl)) ?_
     with_reducible refine (dot_in.calls _ _ l0 a1_0 true _ ?side1 ?side2 A3.out).mono ?_
     (case side1 => repeat (first | exact (Kd.C_below HR0.out HB.out) | (with_reducible refine Kd.C_alloc ?_ _) | (with_reducible refine Kd.C_drewN ?_ _) | (with_reducible refine Kd.C_drew ?_)))
     (case side2 => exact HC0.out)
     rintro e w' ⟨rfl, ⟨nd, rfl⟩⟩
     refine ⟨_, rfl, ?_⟩
     refine hK.out _ _ ⟨(kC BK104.out 0).trans rfl, (kC BK104.out 1).trans rfl, ((HB.out.cell (World.block_lt_of_cell? w _ hw106_0)).trans hw106_0)⟩ (fun hHeld => ?_)
     clear hK K; refine norm_ (a' := ?_) ?_ ?_
     rotate_left
     ·
      show Act.put _ (some 8) _ = _
      simp only [Act.put, sA, sZ, sS, i64_w, i32_w]; rfl
     refine Open.pV (i := 4) (N := some 9) (Open.bT 5 21) rfl rfl HT_.out (by kernel_rfl) (fun _ _ _ h => h) (by rfl) (by intro w'; go_simp; with_reducible rfl) (by simp only [Act.put, sA, sZ, sS, i64_w, i32_w]; rfl) ?_
     refine Open.pV (i := 5) (N := some 10) (Open.bT 6 20) rfl rfl HT_.out (by kernel_rfl) (fun _ _ _ h => h) (by rfl) (by intro w'; go_simp; with_reducible rfl) (by simp only [Act.put, sA, sZ, sS, i64_w, i32_w]; rfl) ?_
     refine Open.pV (i := 6) (N := some 11) (Open.bT 7 19) rfl rfl HT_.out (by kernel_rfl) (fun _ _ _ h => h) (by rfl) (by intro w'; go_simp; with_reducible rfl) (by simp only [Act.put, sA, sZ, sS, i64_w, i32_w]; rfl) ?_
     refine Open.pV (i := 10) (N := some 15) #[T,T,T,T,T,T,T,F,F,F,T,F,F,F,F,F,F,F,F,F,F,F,F,F,F,F] rfl rfl HT_.out (by kernel_rfl) (fun _ _ _ h => h) (by rfl) (by intro w'; go_simp; with_reducible rfl) (by simp only [Act.put, sA, sZ, sS, i64_w, i32_w]; rfl) ?_
     refine take_ (i := 7) (N := some 12) (v := ?_) (a' := ?_) #[T,T,T,T,T,T,T,T,F,F,T,F,F,F,F,F,F,F,F,F,F,F,F,F,F,F] rfl rfl (take_ofW HT_.out HW_.out (by kernel_rfl)) (fun _ _ _ h => h) (Or.inl ⟨by rfl, ?_⟩) hHeld ?_ ?_
     rotate_left
     ·
      rintro w' ⟨s0, s1, s2⟩
      go_simp; with_reducible rfl
     rotate_left
     ·
      simp only [Act.put, sA, sZ, sS, i64_w, i32_w]; rfl
     refine Open.pV (i := 8) (N := some 13) #[T,T,T,T,T,T,T,T,T,F,T,F,F,F,F,F,F,F,F,F,F,F,F,F,F,F] rfl rfl HT_.out (by kernel_rfl) (fun _ _ _ h => h) (by rfl) (by intro w'; go_simp; with_reducible rfl) (by simp only [Act.put, sA, sZ, sS, i64_w, i32_w]; rfl) ?_
     refine take_ (i := 9) (N := some 14) (v := ?_) (a' := ?_) (Open.bT 11 15) rfl rfl (take_ofW HT_.out HW_.out (by kernel_rfl)) (fun _ _ _ h => h) (Or.inl ⟨by rfl, ?_⟩) hHeld ?_ ?_
     rotate_left
     ·
      rintro w' ⟨s0, s1, s2⟩
      go_simp; with_reducible rfl
     rotate_left
     ·
      simp only [Act.put, sA, sZ, sS, i64_w, i32_w]; rfl
     refine take_ (i := 11) (N := some 16) (v := ?_) (a' := ?_) (Open.bT 12 14) rfl rfl (take_ofW HT_.out HW_.out (by kernel_rfl)) (fun _ _ _ h => h) (Or.inl ⟨by rfl, ?_⟩) hHeld ?_ ?_
     rotate_left
     ·
      rintro w' ⟨s0, s1, s2⟩
      go_simp; with_reducible rfl
     rotate_left
     ·
      simp only [Act.put, sA, sZ, sS, i64_w, i32_w]; rfl
     refine Open.pV (i := 12) (N := some 17) (Open.bT 13 13) rfl rfl HT_.out (by kernel_rfl) (fun _ _ _ h => h) (by rfl) (by intro w'; go_simp; with_reducible rfl) (by simp only [Act.put, sA, sZ, sS, i64_w, i32_w]; rfl) ?_
     refine Open.pV (i := 13) (N := some 18) (Open.bT 14 12) rfl rfl HT_.out (by kernel_rfl) (fun _ _ _ h => h) (by rfl) (by intro w'; go_simp; with_reducible rfl) (by simp only [Act.put, sA, sZ, sS, i64_w, i32_w]; rfl) ?_
     refine Open.pV (i := 14) (N := some 19) (Open.bT 15 11) rfl rfl HT_.out (by kernel_rfl) (fun _ _ _ h => h) (by rfl) (by intro w'; go_simp; with_reducible rfl) (by simp only [Act.put, sA, sZ, sS, i64_w, i32_w]; rfl) ?_
     refine Open.pU (i := 15) (N := some 20) (Open.bT 16 10) rfl rfl HT_.out (by kernel_rfl) (fun _ _ _ h => h) (by rfl) (by simp only [Act.put, sA, sZ, sS, i64_w, i32_w]; rfl) ?_
     refine Open.pU (i := 16) (N := some 21) (Open.bT 17 9) rfl rfl HT_.out (by kernel_rfl) (fun _ _ _ h => h) (by rfl) (by simp only [Act.put, sA, sZ, sS, i64_w, i32_w]; rfl) ?_
     refine Open.pU (i := 17) (N := some 22) (Open.bT 18 8) rfl rfl HT_.out (by kernel_rfl) (fun _ _ _ h => h) (by rfl) (by simp only [Act.put, sA, sZ, sS, i64_w, i32_w]; rfl) ?_
     refine Open.pU (i := 18) (N := some 23) (Open.bT 19 7) rfl rfl HT_.out (by kernel_rfl) (fun _ _ _ h => h) (by rfl) (by simp only [Act.put, sA, sZ, sS, i64_w, i32_w]; rfl) ?_
     refine Open.pU (i := 19) (N := some 24) (Open.bT 20 6) rfl rfl HT_.out (by kernel_rfl) (fun _ _ _ h => h) (by rfl) (by simp only [Act.put, sA, sZ, sS, i64_w, i32_w]; rfl) ?_
     refine Open.pU (i := 20) (N := some 25) (Open.bT 21 5) rfl rfl HT_.out (by kernel_rfl) (fun _ _ _ h => h) (by rfl) (by simp only [Act.put, sA, sZ, sS, i64_w, i32_w]; rfl) ?_
     refine Open.pU (i := 21) (N := some 26) (Open.bT 22 4) rfl rfl HT_.out (by kernel_rfl) (fun _ _ _ h => h) (by rfl) (by simp only [Act.put, sA, sZ, sS, i64_w, i32_w]; rfl) ?_
     refine Open.pU (i := 22) (N := some 27) (Open.bT 23 3) rfl rfl HT_.out (by kernel_rfl) (fun _ _ _ h => h) (by rfl) (by simp only [Act.put, sA, sZ, sS, i64_w, i32_w]; rfl) ?_
     refine Open.pU (i := 23) (N := some 28) (Open.bT 24 2) rfl rfl HT_.out (by kernel_rfl) (fun _ _ _ h => h) (by rfl) (by simp only [Act.put, sA, sZ, sS, i64_w, i32_w]; rfl) ?_
     refine Open.pV (i := 24) (N := some 29) (Open.bT 25 1) rfl rfl HT_.out (by kernel_rfl) (fun _ _ _ h => h) (by rfl) (by intro w'; go_simp; with_reducible rfl) (by simp only [Act.put, sA, sZ, sS, i64_w, i32_w]; rfl) ?_
     refine Open.pV (i := 25) (N := some 4) (Open.bT 26 0) rfl rfl HT_.out (by kernel_rfl) (fun _ _ _ h => h) (by rfl) (by intro w'; go_simp; with_reducible rfl) (by simp only [Act.put, sA, sZ, sS, i64_w, i32_w]; rfl) ?_
     refine done_ (done_of HT_.out (by kernel_rfl)) ?_
     (try go_wp2); go_ret; exact ⟨by first | rfl | (simp [errW_none, errW_some] <;> rfl) | (simp [*, errW_none, errW_some] <;> rfl), by repeat (first | (with_reducible first | exact HB.out | apply bA | apply bN | apply b1 | refine bS ?_ GE104.out) | exact HB.out)⟩
   ·
    rw [if_neg c6] at H; exact absurd H (by simp)
  ·
   rw [if_neg c5] at H; exact absurd H (by simp)
 ·
  replace c4 := Bool.eq_false_iff.mpr c4
  subst c4; have H1 : (some false) = some r := by rw [if_neg (show ¬ (false = true) by decide)] at H; exact H
  clear H; have H := H1; clear H1; obtain rfl := Option.some.inj H; go_enter Try.func13, Try.ntmps13
  try go_wp2_with (first | ((with_reducible refine gate_dst (N := 3) rfl ?_); refine box_event ?hg (N := 3) ?hd (cs := #[.int .i64 a1_0, .int .i64 a1_1]) (t := 24) ?hr ?_; (case hd => rfl); (case hg => rfl); (case hr => first | (go_simp; done) | (go_simp; rfl)); intro gb104 hg w12 hbox hb; have n0_ := am (bP (by repeat (first | (with_reducible first | exact HB.out | apply bA | apply bN | apply b1) | exact HB.out)) hb); have n1_ := am (hbox); have n2_ := am ((by rw [hg]; exact (below_size (by repeat (first | (with_reducible first | exact HB.out | apply bA | apply bN | apply b1) | exact HB.out))) : w.heap.size ≤ gb104)); have n3_ := am ((by rw [hg]; exact (below_size (by repeat (first | (with_reducible first | exact HB.out | apply bA | apply bN | apply b1) | exact HB.out))) : w.heap.size ≤ gb104)); clear HB; have HB := n0_; have BK104 := n1_; have GW104 := n2_; have GE104 := n3_; clear n0_ n1_ n2_ n3_; clear hb hbox hg))
  have n0_ := am (kD BK104.out)
  have n1_ := am (b1 HB.out)
  clear BK104; clear HB; have BK104 := n0_; have HB := n1_; clear n0_ n1_; refine start_ (n := 26) (S := fun w' => w'.cell? ⟨gb104, 0, none⟩ = some (.int .i64 a1_0) ∧ w'.cell? ⟨gb104, 1, none⟩ = some (.int .i64 a1_1)) (ds := []) #[F,F,F,F,F,F,F,F,F,F,F,F,F,F,F,F,F,F,F,F,F,F,F,F,F,F] (by kernel_rfl) rfl rfl ⟨(kC BK104.out 0).trans rfl, (kC BK104.out 1).trans rfl⟩ (fun hHeld => ?_); refine with_tabW dot_Next.tab1 dot_Next.bits1 (fun HT_ HW_ => ?_)
  generalize w12.drew = w13 at BK104 HB hHeld ⊢
  refine Open.pV (i := 0) (N := some 5) (Open.bT 1 25) rfl rfl HT_.out (by kernel_rfl) (fun _ _ _ h => h) (by rfl) (by intro w'; go_simp; with_reducible rfl) (by simp only [Act.put, sA, sZ, sS, i64_w, i32_w]; rfl) ?_
  refine Open.pV (i := 1) (N := some 6) (Open.bT 2 24) rfl rfl HT_.out (by kernel_rfl) (fun _ _ _ h => h) (by rfl) (by intro w'; go_simp; with_reducible rfl) (by simp only [Act.put, sA, sZ, sS, i64_w, i32_w]; rfl) ?_
  refine take_ (i := 2) (N := some 7) (v := ?_) (a' := ?_) (Open.bT 3 23) rfl rfl (take_ofW HT_.out HW_.out (by kernel_rfl)) (fun _ _ _ h => h) (Or.inl ⟨by rfl, ?_⟩) hHeld ?_ ?_
  rotate_left
  ·
   rintro w' ⟨s0, s1⟩
   go_simp; with_reducible rfl
  rotate_left
  ·
   simp only [Act.put, sA, sZ, sS, i64_w, i32_w]; rfl
  refine one_ (i := 3) (N := some 8) (Open.bT 4 22) rfl rfl (one_of HT_.out (by kernel_rfl)) (by decide) (fun K hK => ?_)
  refine goes_ Try.func42 (by kernel_rfl) rfl #[.slice A0 l0.length c0, .int .i64 a1_0] (by rfl) rfl rfl (by (try simp only [List.map_toArray, List.map_cons, List.map_nil]); first | done | rfl | (simp only [List.length_drop, List.length_take]; rfl)) ?_
  with_reducible refine (dot_in.calls _ _ l0 a1_0 false _ ?side1 ?side2 A3.out).mono ?_
  (case side1 => repeat (first | exact (Kd.C_below HR0.out HB.out) | (with_reducible refine Kd.C_alloc ?_ _) | (with_reducible refine Kd.C_drewN ?_ _) | (with_reducible refine Kd.C_drew ?_)))
  (case side2 => exact HC0.out)
  rintro e w' ⟨rfl, ⟨nd, rfl⟩⟩
  refine ⟨_, rfl, ?_⟩
  refine hK.out _ _ ⟨(kC BK104.out 0).trans rfl, (kC BK104.out 1).trans rfl⟩ (fun hHeld => ?_)
  clear hK K; refine norm_ (a' := ?_) ?_ ?_
  rotate_left
  ·
   show Act.put _ (some 8) _ = _
   simp only [Act.put, sA, sZ, sS, i64_w, i32_w]; rfl
  refine Open.pV (i := 4) (N := some 9) (Open.bT 5 21) rfl rfl HT_.out (by kernel_rfl) (fun _ _ _ h => h) (by rfl) (by intro w'; go_simp; with_reducible rfl) (by simp only [Act.put, sA, sZ, sS, i64_w, i32_w]; rfl) ?_
  refine Open.pU (i := 5) (N := some 10) (Open.bT 6 20) rfl rfl HT_.out (by kernel_rfl) (fun _ _ _ h => h) (by rfl) (by simp only [Act.put, sA, sZ, sS, i64_w, i32_w]; rfl) ?_
  refine Open.pU (i := 6) (N := some 11) (Open.bT 7 19) rfl rfl HT_.out (by kernel_rfl) (fun _ _ _ h => h) (by rfl) (by simp only [Act.put, sA, sZ, sS, i64_w, i32_w]; rfl) ?_
  refine Open.pU (i := 7) (N := some 12) (Open.bT 8 18) rfl rfl HT_.out (by kernel_rfl) (fun _ _ _ h => h) (by rfl) (by simp only [Act.put, sA, sZ, sS, i64_w, i32_w]; rfl) ?_
  refine Open.pU (i := 8) (N := some 13) (Open.bT 9 17) rfl rfl HT_.out (by kernel_rfl) (fun _ _ _ h => h) (by rfl) (by simp only [Act.put, sA, sZ, sS, i64_w, i32_w]; rfl) ?_
  refine Open.pU (i := 9) (N := some 14) (Open.bT 10 16) rfl rfl HT_.out (by kernel_rfl) (fun _ _ _ h => h) (by rfl) (by simp only [Act.put, sA, sZ, sS, i64_w, i32_w]; rfl) ?_
  refine Open.pU (i := 10) (N := some 15) (Open.bT 11 15) rfl rfl HT_.out (by kernel_rfl) (fun _ _ _ h => h) (by rfl) (by simp only [Act.put, sA, sZ, sS, i64_w, i32_w]; rfl) ?_
  refine Open.pU (i := 11) (N := some 16) (Open.bT 12 14) rfl rfl HT_.out (by kernel_rfl) (fun _ _ _ h => h) (by rfl) (by simp only [Act.put, sA, sZ, sS, i64_w, i32_w]; rfl) ?_
  refine Open.pU (i := 12) (N := some 17) (Open.bT 13 13) rfl rfl HT_.out (by kernel_rfl) (fun _ _ _ h => h) (by rfl) (by simp only [Act.put, sA, sZ, sS, i64_w, i32_w]; rfl) ?_
  refine Open.pV (i := 13) (N := some 18) (Open.bT 14 12) rfl rfl HT_.out (by kernel_rfl) (fun _ _ _ h => h) (by rfl) (by intro w'; go_simp; with_reducible rfl) (by simp only [Act.put, sA, sZ, sS, i64_w, i32_w]; rfl) ?_
  refine Open.pV (i := 14) (N := some 19) (Open.bT 15 11) rfl rfl HT_.out (by kernel_rfl) (fun _ _ _ h => h) (by rfl) (by intro w'; go_simp; with_reducible rfl) (by simp only [Act.put, sA, sZ, sS, i64_w, i32_w]; rfl) ?_
  refine Open.pU (i := 15) (N := some 20) (Open.bT 16 10) rfl rfl HT_.out (by kernel_rfl) (fun _ _ _ h => h) (by rfl) (by simp only [Act.put, sA, sZ, sS, i64_w, i32_w]; rfl) ?_
  refine Open.pU (i := 16) (N := some 21) (Open.bT 17 9) rfl rfl HT_.out (by kernel_rfl) (fun _ _ _ h => h) (by rfl) (by simp only [Act.put, sA, sZ, sS, i64_w, i32_w]; rfl) ?_
  refine Open.pU (i := 17) (N := some 22) (Open.bT 18 8) rfl rfl HT_.out (by kernel_rfl) (fun _ _ _ h => h) (by rfl) (by simp only [Act.put, sA, sZ, sS, i64_w, i32_w]; rfl) ?_
  refine Open.pU (i := 18) (N := some 23) (Open.bT 19 7) rfl rfl HT_.out (by kernel_rfl) (fun _ _ _ h => h) (by rfl) (by simp only [Act.put, sA, sZ, sS, i64_w, i32_w]; rfl) ?_
  refine Open.pU (i := 19) (N := some 24) (Open.bT 20 6) rfl rfl HT_.out (by kernel_rfl) (fun _ _ _ h => h) (by rfl) (by simp only [Act.put, sA, sZ, sS, i64_w, i32_w]; rfl) ?_
  refine Open.pU (i := 20) (N := some 25) (Open.bT 21 5) rfl rfl HT_.out (by kernel_rfl) (fun _ _ _ h => h) (by rfl) (by simp only [Act.put, sA, sZ, sS, i64_w, i32_w]; rfl) ?_
  refine Open.pU (i := 21) (N := some 26) (Open.bT 22 4) rfl rfl HT_.out (by kernel_rfl) (fun _ _ _ h => h) (by rfl) (by simp only [Act.put, sA, sZ, sS, i64_w, i32_w]; rfl) ?_
  refine Open.pU (i := 22) (N := some 27) (Open.bT 23 3) rfl rfl HT_.out (by kernel_rfl) (fun _ _ _ h => h) (by rfl) (by simp only [Act.put, sA, sZ, sS, i64_w, i32_w]; rfl) ?_
  refine Open.pU (i := 23) (N := some 28) (Open.bT 24 2) rfl rfl HT_.out (by kernel_rfl) (fun _ _ _ h => h) (by rfl) (by simp only [Act.put, sA, sZ, sS, i64_w, i32_w]; rfl) ?_
  refine Open.pV (i := 24) (N := some 29) (Open.bT 25 1) rfl rfl HT_.out (by kernel_rfl) (fun _ _ _ h => h) (by rfl) (by intro w'; go_simp; with_reducible rfl) (by simp only [Act.put, sA, sZ, sS, i64_w, i32_w]; rfl) ?_
  refine Open.pV (i := 25) (N := some 4) (Open.bT 26 0) rfl rfl HT_.out (by kernel_rfl) (fun _ _ _ h => h) (by rfl) (by intro w'; go_simp; with_reducible rfl) (by simp only [Act.put, sA, sZ, sS, i64_w, i32_w]; rfl) ?_
  refine done_ (done_of HT_.out (by kernel_rfl)) ?_
  (try go_wp2); go_ret; exact ⟨by first | rfl | (simp [errW_none, errW_some] <;> rfl) | (simp [*, errW_none, errW_some] <;> rfl), by repeat (first | (with_reducible first | exact HB.out | apply bA | apply bN | apply b1 | refine bS ?_ GE104.out) | exact HB.out)⟩

end Go.Proofs.Ytadibbhmhggmaaa.B
