/- Written by a program of this session, out of the translation: plain functions, and that the calls do what they say. Lean checks it. -/
import Derived.Test.YtelgaglbkcacnaaB0
import Derived.Test.YtelgaglbkcacnaaB1
import Derived.Test.YtelgaglbkcacnaaB2
import Derived.Test.YtelgaglbkcacnaaB4
import Derived.Test.YtelgaglbkcacnaaB6
namespace Go.Proofs.Ytelgaglbkcacnaa.B
open Go.RowKit Go.Proofs.YtelgaglbkcacnaaW.PrintWords Go.Proofs.YtelgaglbkcacnaaW.PrintLast Go.Proofs.YtelgaglbkcacnaaW.PrintMore
attribute [local go_sem] max2_int min2_int max_two min_two max_three min_three max_four min_four   -- for this text's walks alone
set_option linter.unusedVariables false
set_option linter.unusedSimpArgs false

/-! ### L06_HlcRises: function 6 -/
mutual
def L06_HlcRises.j0 : Nat → Int → Int → Bool → Int → Int → Int → Int → Int → Int → Option (Bool)
 | 0, _, _, _, _, _, _, _, _, _ => none
 | k + 1, x3, x4, x72, x215000, x215001, x215002, x216000, x216001, x216002 => if x72 = true then (some false) else ((hlc_Later.f k x215000 x215001 x215002 x216000 x216001 x216002).bind fun bt222 => ((keep_Stamp.f bt222.1 bt222.2.1 bt222.2.2 x215000 x215001 x215002).bind fun t226 => (if t226 = true then ((hlc_Compare.f k bt222.1 bt222.2.1 bt222.2.2 x215000 x215001 x215002).bind fun t227 => (if t227 < 0 then (L06_HlcRises.j1 k x3 x4 true x215000 x215001 x215002) else ((hlc_Compare.f k bt222.1 bt222.2.1 bt222.2.2 x216000 x216001 x216002).bind fun t228 => (L06_HlcRises.j1 k x3 x4 (decide (t228 < 0)) x215000 x215001 x215002)))) else ((keep_Stamp.f bt222.1 bt222.2.1 bt222.2.2 x216000 x216001 x216002).bind fun t229 => (if t229 = true then ((hlc_Compare.f k bt222.1 bt222.2.1 bt222.2.2 x215000 x215001 x215002).bind fun t230 => (if t230 < 0 then (L06_HlcRises.j1 k x3 x4 true x215000 x215001 x215002) else ((hlc_Compare.f k bt222.1 bt222.2.1 bt222.2.2 x216000 x216001 x216002).bind fun t231 => (L06_HlcRises.j1 k x3 x4 (decide (t231 < 0)) x215000 x215001 x215002)))) else (L06_HlcRises.j1 k x3 x4 true x215000 x215001 x215002))))))
def L06_HlcRises.j1 : Nat → Int → Int → Bool → Int → Int → Int → Option (Bool)
 | 0, _, _, _, _, _, _ => none
 | k + 1, x3, x4, x97, x215000, x215001, x215002 => if x97 = true then (some false) else ((R01_Stamp.f x215000 x215001 x215002).bind fun t232 => (if t232 = true then (if x3 < 0 then (L06_HlcRises.j2 k x3 x4 true x215000 x215001 x215002) else (if x3 > 1099511627776 then (L06_HlcRises.j2 k x3 x4 true x215000 x215001 x215002) else (if x4 < 0 then (L06_HlcRises.j2 k x3 x4 true x215000 x215001 x215002) else (L06_HlcRises.j2 k x3 x4 (decide (x4 ≥ 5)) x215000 x215001 x215002)))) else (L06_HlcRises.j2 k x3 x4 true x215000 x215001 x215002)))
def L06_HlcRises.j2 : Nat → Int → Int → Bool → Int → Int → Int → Option (Bool)
 | 0, _, _, _, _, _, _ => none
 | k + 1, x3, x4, x116, x215000, x215001, x215002 => if x116 = true then ((L06_wakes.f k).bind fun t233 => (some t233)) else ((hlc_Next.f k x215000 x215001 x215002 x3 x4).bind fun bt234 => (if bt234.2.2.2 = 0 then ((hlc_Compare.f k bt234.1 bt234.2.1 bt234.2.2.1 x215000 x215001 x215002).bind fun t239 => (if t239 = 1 then (if bt234.1 ≥ x3 then (if bt234.1 ≥ x215000 then (if bt234.2.2.1 = x4 then ((hlc_Check.f bt234.1 bt234.2.1 bt234.2.2.1).bind fun t240 => (if t240 = 0 then ((L06_wakes.f k).bind fun t241 => (some t241)) else (some false))) else (some false)) else (some false)) else (some false)) else (some false))) else (if bt234.2.2.2 = 12 then (if x215001 = 65536 then (if x3 ≤ x215000 then ((L06_wakes.f k).bind fun t242 => (some t242)) else (some false)) else (some false)) else (some false))))
end
def L06_HlcRises.f (k : Nat) (a0_0 : Int) (a0_1 : Int) (a0_2 : Int) (a1_0 : Int) (a1_1 : Int) (a1_2 : Int) (a2_0 : Int) (a2_1 : Int) (a2_2 : Int) (a3 : Int) (a4 : Int) : Option (Bool) := (hlc_Compare.f k a0_0 a0_1 a0_2 a1_0 a1_1 a1_2).bind fun t217 => ((hlc_Compare.f k a1_0 a1_1 a1_2 a2_0 a2_1 a2_2).bind fun t218 => ((hlc_Compare.f k a0_0 a0_1 a0_2 a2_0 a2_1 a2_2).bind fun t219 => ((hlc_Compare.f k a1_0 a1_1 a1_2 a0_0 a0_1 a0_2).bind fun t220 => (if t217 = (wrap64 (-t220)) then ((keep_Stamp.f a0_0 a0_1 a0_2 a1_0 a1_1 a1_2).bind fun t221 => (if ((t217 == 0) != t221) = true then (L06_HlcRises.j0 k a3 a4 true a0_0 a0_1 a0_2 a1_0 a1_1 a1_2) else (if t217 < (-1) then (L06_HlcRises.j0 k a3 a4 true a0_0 a0_1 a0_2 a1_0 a1_1 a1_2) else (if t217 > 1 then (L06_HlcRises.j0 k a3 a4 true a0_0 a0_1 a0_2 a1_0 a1_1 a1_2) else (if t217 > 0 then (if t217 < 0 then (L06_HlcRises.j0 k a3 a4 (!true) a0_0 a0_1 a0_2 a1_0 a1_1 a1_2) else (if t218 < 0 then (L06_HlcRises.j0 k a3 a4 (!true) a0_0 a0_1 a0_2 a1_0 a1_1 a1_2) else (L06_HlcRises.j0 k a3 a4 (!(decide (t219 ≥ 0))) a0_0 a0_1 a0_2 a1_0 a1_1 a1_2))) else (if t218 > 0 then (if t217 < 0 then (L06_HlcRises.j0 k a3 a4 (!true) a0_0 a0_1 a0_2 a1_0 a1_1 a1_2) else (if t218 < 0 then (L06_HlcRises.j0 k a3 a4 (!true) a0_0 a0_1 a0_2 a1_0 a1_1 a1_2) else (L06_HlcRises.j0 k a3 a4 (!(decide (t219 ≥ 0))) a0_0 a0_1 a0_2 a1_0 a1_1 a1_2))) else (if t219 ≤ 0 then (if t217 < 0 then (L06_HlcRises.j0 k a3 a4 (!true) a0_0 a0_1 a0_2 a1_0 a1_1 a1_2) else (if t218 < 0 then (L06_HlcRises.j0 k a3 a4 (!true) a0_0 a0_1 a0_2 a1_0 a1_1 a1_2) else (L06_HlcRises.j0 k a3 a4 (!(decide (t219 ≥ 0))) a0_0 a0_1 a0_2 a1_0 a1_1 a1_2))) else (L06_HlcRises.j0 k a3 a4 (!false) a0_0 a0_1 a0_2 a1_0 a1_1 a1_2)))))))) else (L06_HlcRises.j0 k a3 a4 true a0_0 a0_1 a0_2 a1_0 a1_1 a1_2)))))
theorem L06_HlcRises.mono_l : ∀ k, (∀ y0 y1 y2 y3 y4 y5 y6 y7 y8, LeO (L06_HlcRises.j0 k y0 y1 y2 y3 y4 y5 y6 y7 y8) (L06_HlcRises.j0 (k + 1) y0 y1 y2 y3 y4 y5 y6 y7 y8)) ∧ (∀ y0 y1 y2 y3 y4 y5, LeO (L06_HlcRises.j1 k y0 y1 y2 y3 y4 y5) (L06_HlcRises.j1 (k + 1) y0 y1 y2 y3 y4 y5)) ∧ (∀ y0 y1 y2 y3 y4 y5, LeO (L06_HlcRises.j2 k y0 y1 y2 y3 y4 y5) (L06_HlcRises.j2 (k + 1) y0 y1 y2 y3 y4 y5))
 | 0 => ⟨fun _ _ _ _ _ _ _ _ _ r h => by simp [L06_HlcRises.j0] at h, fun _ _ _ _ _ _ r h => by simp [L06_HlcRises.j1] at h, fun _ _ _ _ _ _ r h => by simp [L06_HlcRises.j2] at h⟩
 | k + 1 => by
  obtain ⟨ih0, ih1, ih2⟩ := L06_HlcRises.mono_l k
  refine ⟨?_, ?_, ?_⟩
  ·
   intro y0 y1 y2 y3 y4 y5 y6 y7 y8
   unfold L06_HlcRises.j0
   repeat' first
   | (with_reducible exact ih0 _ _ _ _ _ _ _ _ _)
   | (with_reducible exact ih1 _ _ _ _ _ _)
   | (with_reducible exact ih2 _ _ _ _ _ _)
   | (with_reducible exact L06_wakes.mono _)
   | (with_reducible exact hlc_Compare.mono _ _ _ _ _ _ _)
   | (with_reducible exact hlc_Later.mono _ _ _ _ _ _ _)
   | (with_reducible exact hlc_Next.mono _ _ _ _ _ _)
   | (with_reducible exact LeO.refl _)
   | (with_reducible exact LeO.none _)
   | (with_reducible refine LeO.ite ?_ ?_)
   | (with_reducible refine LeO.bind ?_ (fun _ => ?_))
   | exact ih0 _ _ _ _ _ _ _ _ _
   | exact ih1 _ _ _ _ _ _
   | exact ih2 _ _ _ _ _ _
   | exact L06_wakes.mono _
   | exact hlc_Compare.mono _ _ _ _ _ _ _
   | exact hlc_Later.mono _ _ _ _ _ _ _
   | exact hlc_Next.mono _ _ _ _ _ _
   | exact LeO.none _
   | refine LeO.ite ?_ ?_
   | refine LeO.bind ?_ (fun _ => ?_)
  ·
   intro y0 y1 y2 y3 y4 y5
   unfold L06_HlcRises.j1
   repeat' first
   | (with_reducible exact ih0 _ _ _ _ _ _ _ _ _)
   | (with_reducible exact ih1 _ _ _ _ _ _)
   | (with_reducible exact ih2 _ _ _ _ _ _)
   | (with_reducible exact L06_wakes.mono _)
   | (with_reducible exact hlc_Compare.mono _ _ _ _ _ _ _)
   | (with_reducible exact hlc_Later.mono _ _ _ _ _ _ _)
   | (with_reducible exact hlc_Next.mono _ _ _ _ _ _)
   | (with_reducible exact LeO.refl _)
   | (with_reducible exact LeO.none _)
   | (with_reducible refine LeO.ite ?_ ?_)
   | (with_reducible refine LeO.bind ?_ (fun _ => ?_))
   | exact ih0 _ _ _ _ _ _ _ _ _
   | exact ih1 _ _ _ _ _ _
   | exact ih2 _ _ _ _ _ _
   | exact L06_wakes.mono _
   | exact hlc_Compare.mono _ _ _ _ _ _ _
   | exact hlc_Later.mono _ _ _ _ _ _ _
   | exact hlc_Next.mono _ _ _ _ _ _
   | exact LeO.none _
   | refine LeO.ite ?_ ?_
   | refine LeO.bind ?_ (fun _ => ?_)
  ·
   intro y0 y1 y2 y3 y4 y5
   unfold L06_HlcRises.j2
   repeat' first
   | (with_reducible exact ih0 _ _ _ _ _ _ _ _ _)
   | (with_reducible exact ih1 _ _ _ _ _ _)
   | (with_reducible exact ih2 _ _ _ _ _ _)
   | (with_reducible exact L06_wakes.mono _)
   | (with_reducible exact hlc_Compare.mono _ _ _ _ _ _ _)
   | (with_reducible exact hlc_Later.mono _ _ _ _ _ _ _)
   | (with_reducible exact hlc_Next.mono _ _ _ _ _ _)
   | (with_reducible exact LeO.refl _)
   | (with_reducible exact LeO.none _)
   | (with_reducible refine LeO.ite ?_ ?_)
   | (with_reducible refine LeO.bind ?_ (fun _ => ?_))
   | exact ih0 _ _ _ _ _ _ _ _ _
   | exact ih1 _ _ _ _ _ _
   | exact ih2 _ _ _ _ _ _
   | exact L06_wakes.mono _
   | exact hlc_Compare.mono _ _ _ _ _ _ _
   | exact hlc_Later.mono _ _ _ _ _ _ _
   | exact hlc_Next.mono _ _ _ _ _ _
   | exact LeO.none _
   | refine LeO.ite ?_ ?_
   | refine LeO.bind ?_ (fun _ => ?_)
theorem L06_HlcRises.mono : ∀ a0 a1 a2 a3 a4 a5 a6 a7 a8 a9 a10 k, LeO (L06_HlcRises.f k a0 a1 a2 a3 a4 a5 a6 a7 a8 a9 a10) (L06_HlcRises.f (k + 1) a0 a1 a2 a3 a4 a5 a6 a7 a8 a9 a10) := by
 intro a0 a1 a2 a3 a4 a5 a6 a7 a8 a9 a10 k
 obtain ⟨ih0, ih1, ih2⟩ := L06_HlcRises.mono_l k
 unfold L06_HlcRises.f
 repeat' first
   | (with_reducible exact ih0 _ _ _ _ _ _ _ _ _)
   | (with_reducible exact ih1 _ _ _ _ _ _)
   | (with_reducible exact ih2 _ _ _ _ _ _)
   | (with_reducible exact L06_wakes.mono _)
   | (with_reducible exact hlc_Compare.mono _ _ _ _ _ _ _)
   | (with_reducible exact hlc_Later.mono _ _ _ _ _ _ _)
   | (with_reducible exact hlc_Next.mono _ _ _ _ _ _)
   | (with_reducible exact LeO.refl _)
   | (with_reducible exact LeO.none _)
   | (with_reducible refine LeO.ite ?_ ?_)
   | (with_reducible refine LeO.bind ?_ (fun _ => ?_))
   | exact ih0 _ _ _ _ _ _ _ _ _
   | exact ih1 _ _ _ _ _ _
   | exact ih2 _ _ _ _ _ _
   | exact L06_wakes.mono _
   | exact hlc_Compare.mono _ _ _ _ _ _ _
   | exact hlc_Later.mono _ _ _ _ _ _ _
   | exact hlc_Next.mono _ _ _ _ _ _
   | exact LeO.none _
   | refine LeO.ite ?_ ?_
   | refine LeO.bind ?_ (fun _ => ?_)
def L06_HlcRises.T1 : Bool × List (List Nat × List Nat) := (true, [([], []), ([], []), ([0, 1], [0, 1]), ([], []), ([], []), ([3, 4, 2], [3, 4]), ([], []), ([], []), ([6, 7, 5], [6, 7]), ([2, 8, 0, 1, 2], [2]), ([5, 9, 0, 1, 2, 3, 4, 5, 9], [5]), ([8, 10, 0, 1, 2, 3, 4, 5, 6, 7, 8, 9, 10], [8])])
def L06_HlcRises.B1 : List Nat := [0, 0, 3, 0, 0, 31, 0, 0, 255, 511, 1023, 2047]
theorem L06_HlcRises.tab1 : rtab .any (opsOf Try.f6 1) = L06_HlcRises.T1 := by kernel_rfl
theorem L06_HlcRises.bits1 : waitsOk L06_HlcRises.T1.2 L06_HlcRises.B1 = true := by kernel_rfl
set_option maxHeartbeats 8000000 in
set_option maxRecDepth 100000 in
theorem L06_HlcRises.calls (k : Nat) (a0_0 : Int) (a0_1 : Int) (a0_2 : Int) (a1_0 : Int) (a1_1 : Int) (a1_2 : Int) (a2_0 : Int) (a2_1 : Int) (a2_2 : Int) (a3 : Int) (a4 : Int) (r : Bool) (w : World) (hlaw : r = true) (h : L06_HlcRises.f k a0_0 a0_1 a0_2 a1_0 a1_1 a1_2 a2_0 a2_1 a2_2 a3 a4 = some r) :
  Calls Try.prog 6 #[.agg #[.int .i64 a0_0, .int .i64 a0_1, .int .i64 a0_2], .agg #[.int .i64 a1_0, .int .i64 a1_1, .int .i64 a1_2], .agg #[.int .i64 a2_0, .int .i64 a2_1, .int .i64 a2_2], .int .i64 a3, .int .i64 a4] w fun e w' => e = .returned (.bool r) ∧ Below w.heap.size w w' := by
 have hu24 := Try.underlying24
 have HLAW := am hlaw
 clear hlaw
 have HB := am (Below.refl w.heap.size w)
 have H : ((hlc_Compare.f k a0_0 a0_1 a0_2 a1_0 a1_1 a1_2).bind fun t217 => ((hlc_Compare.f k a1_0 a1_1 a1_2 a2_0 a2_1 a2_2).bind fun t218 => ((hlc_Compare.f k a0_0 a0_1 a0_2 a2_0 a2_1 a2_2).bind fun t219 => ((hlc_Compare.f k a1_0 a1_1 a1_2 a0_0 a0_1 a0_2).bind fun t220 => (if t217 = (wrap64 (-t220)) then ((keep_Stamp.f a0_0 a0_1 a0_2 a1_0 a1_1 a1_2).bind fun t221 => (if ((t217 == 0) != t221) = true then (L06_HlcRises.j0 k a3 a4 true a0_0 a0_1 a0_2 a1_0 a1_1 a1_2) else (if t217 < (-1) then (L06_HlcRises.j0 k a3 a4 true a0_0 a0_1 a0_2 a1_0 a1_1 a1_2) else (if t217 > 1 then (L06_HlcRises.j0 k a3 a4 true a0_0 a0_1 a0_2 a1_0 a1_1 a1_2) else (if t217 > 0 then (if t217 < 0 then (L06_HlcRises.j0 k a3 a4 (!true) a0_0 a0_1 a0_2 a1_0 a1_1 a1_2) else (if t218 < 0 then (L06_HlcRises.j0 k a3 a4 (!true) a0_0 a0_1 a0_2 a1_0 a1_1 a1_2) else (L06_HlcRises.j0 k a3 a4 (!(decide (t219 ≥ 0))) a0_0 a0_1 a0_2 a1_0 a1_1 a1_2))) else (if t218 > 0 then (if t217 < 0 then (L06_HlcRises.j0 k a3 a4 (!true) a0_0 a0_1 a0_2 a1_0 a1_1 a1_2) else (if t218 < 0 then (L06_HlcRises.j0 k a3 a4 (!true) a0_0 a0_1 a0_2 a1_0 a1_1 a1_2) else (L06_HlcRises.j0 k a3 a4 (!(decide (t219 ≥ 0))) a0_0 a0_1 a0_2 a1_0 a1_1 a1_2))) else (if t219 ≤ 0 then (if t217 < 0 then (L06_HlcRises.j0 k a3 a4 (!true) a0_0 a0_1 a0_2 a1_0 a1_1 a1_2) else (if t218 < 0 then (L06_HlcRises.j0 k a3 a4 (!true) a0_0 a0_1 a0_2 a1_0 a1_1 a1_2) else (L06_HlcRises.j0 k a3 a4 (!(decide (t219 ≥ 0))) a0_0 a0_1 a0_2 a1_0 a1_1 a1_2))) else (L06_HlcRises.j0 k a3 a4 (!false) a0_0 a0_1 a0_2 a1_0 a1_1 a1_2)))))))) else (L06_HlcRises.j0 k a3 a4 true a0_0 a0_1 a0_2 a1_0 a1_1 a1_2)))))) = some r := h
 clear h
 replace H := Option.bind_eq_some_iff.mp H
 obtain ⟨t217, A60, H⟩ := H
 replace H : ((hlc_Compare.f k a1_0 a1_1 a1_2 a2_0 a2_1 a2_2).bind fun t218 => ((hlc_Compare.f k a0_0 a0_1 a0_2 a2_0 a2_1 a2_2).bind fun t219 => ((hlc_Compare.f k a1_0 a1_1 a1_2 a0_0 a0_1 a0_2).bind fun t220 => (if t217 = (wrap64 (-t220)) then ((keep_Stamp.f a0_0 a0_1 a0_2 a1_0 a1_1 a1_2).bind fun t221 => (if ((t217 == 0) != t221) = true then (L06_HlcRises.j0 k a3 a4 true a0_0 a0_1 a0_2 a1_0 a1_1 a1_2) else (if t217 < (-1) then (L06_HlcRises.j0 k a3 a4 true a0_0 a0_1 a0_2 a1_0 a1_1 a1_2) else (if t217 > 1 then (L06_HlcRises.j0 k a3 a4 true a0_0 a0_1 a0_2 a1_0 a1_1 a1_2) else (if t217 > 0 then (if t217 < 0 then (L06_HlcRises.j0 k a3 a4 (!true) a0_0 a0_1 a0_2 a1_0 a1_1 a1_2) else (if t218 < 0 then (L06_HlcRises.j0 k a3 a4 (!true) a0_0 a0_1 a0_2 a1_0 a1_1 a1_2) else (L06_HlcRises.j0 k a3 a4 (!(decide (t219 ≥ 0))) a0_0 a0_1 a0_2 a1_0 a1_1 a1_2))) else (if t218 > 0 then (if t217 < 0 then (L06_HlcRises.j0 k a3 a4 (!true) a0_0 a0_1 a0_2 a1_0 a1_1 a1_2) else (if t218 < 0 then (L06_HlcRises.j0 k a3 a4 (!true) a0_0 a0_1 a0_2 a1_0 a1_1 a1_2) else (L06_HlcRises.j0 k a3 a4 (!(decide (t219 ≥ 0))) a0_0 a0_1 a0_2 a1_0 a1_1 a1_2))) else (if t219 ≤ 0 then (if t217 < 0 then (L06_HlcRises.j0 k a3 a4 (!true) a0_0 a0_1 a0_2 a1_0 a1_1 a1_2) else (if t218 < 0 then (L06_HlcRises.j0 k a3 a4 (!true) a0_0 a0_1 a0_2 a1_0 a1_1 a1_2) else (L06_HlcRises.j0 k a3 a4 (!(decide (t219 ≥ 0))) a0_0 a0_1 a0_2 a1_0 a1_1 a1_2))) else (L06_HlcRises.j0 k a3 a4 (!false) a0_0 a0_1 a0_2 a1_0 a1_1 a1_2)))))))) else (L06_HlcRises.j0 k a3 a4 true a0_0 a0_1 a0_2 a1_0 a1_1 a1_2))))) = some r := H
 have A6 := am A60
 clear A60
 replace H := Option.bind_eq_some_iff.mp H
 obtain ⟨t218, A70, H⟩ := H
 replace H : ((hlc_Compare.f k a0_0 a0_1 a0_2 a2_0 a2_1 a2_2).bind fun t219 => ((hlc_Compare.f k a1_0 a1_1 a1_2 a0_0 a0_1 a0_2).bind fun t220 => (if t217 = (wrap64 (-t220)) then ((keep_Stamp.f a0_0 a0_1 a0_2 a1_0 a1_1 a1_2).bind fun t221 => (if ((t217 == 0) != t221) = true then (L06_HlcRises.j0 k a3 a4 true a0_0 a0_1 a0_2 a1_0 a1_1 a1_2) else (if t217 < (-1) then (L06_HlcRises.j0 k a3 a4 true a0_0 a0_1 a0_2 a1_0 a1_1 a1_2) else (if t217 > 1 then (L06_HlcRises.j0 k a3 a4 true a0_0 a0_1 a0_2 a1_0 a1_1 a1_2) else (if t217 > 0 then (if t217 < 0 then (L06_HlcRises.j0 k a3 a4 (!true) a0_0 a0_1 a0_2 a1_0 a1_1 a1_2) else (if t218 < 0 then (L06_HlcRises.j0 k a3 a4 (!true) a0_0 a0_1 a0_2 a1_0 a1_1 a1_2) else (L06_HlcRises.j0 k a3 a4 (!(decide (t219 ≥ 0))) a0_0 a0_1 a0_2 a1_0 a1_1 a1_2))) else (if t218 > 0 then (if t217 < 0 then (L06_HlcRises.j0 k a3 a4 (!true) a0_0 a0_1 a0_2 a1_0 a1_1 a1_2) else (if t218 < 0 then (L06_HlcRises.j0 k a3 a4 (!true) a0_0 a0_1 a0_2 a1_0 a1_1 a1_2) else (L06_HlcRises.j0 k a3 a4 (!(decide (t219 ≥ 0))) a0_0 a0_1 a0_2 a1_0 a1_1 a1_2))) else (if t219 ≤ 0 then (if t217 < 0 then (L06_HlcRises.j0 k a3 a4 (!true) a0_0 a0_1 a0_2 a1_0 a1_1 a1_2) else (if t218 < 0 then (L06_HlcRises.j0 k a3 a4 (!true) a0_0 a0_1 a0_2 a1_0 a1_1 a1_2) else (L06_HlcRises.j0 k a3 a4 (!(decide (t219 ≥ 0))) a0_0 a0_1 a0_2 a1_0 a1_1 a1_2))) else (L06_HlcRises.j0 k a3 a4 (!false) a0_0 a0_1 a0_2 a1_0 a1_1 a1_2)))))))) else (L06_HlcRises.j0 k a3 a4 true a0_0 a0_1 a0_2 a1_0 a1_1 a1_2)))) = some r := H
 have A7 := am A70
 clear A70
 replace H := Option.bind_eq_some_iff.mp H
 obtain ⟨t219, A80, H⟩ := H
 replace H : ((hlc_Compare.f k a1_0 a1_1 a1_2 a0_0 a0_1 a0_2).bind fun t220 => (if t217 = (wrap64 (-t220)) then ((keep_Stamp.f a0_0 a0_1 a0_2 a1_0 a1_1 a1_2).bind fun t221 => (if ((t217 == 0) != t221) = true then (L06_HlcRises.j0 k a3 a4 true a0_0 a0_1 a0_2 a1_0 a1_1 a1_2) else (if t217 < (-1) then (L06_HlcRises.j0 k a3 a4 true a0_0 a0_1 a0_2 a1_0 a1_1 a1_2) else (if t217 > 1 then (L06_HlcRises.j0 k a3 a4 true a0_0 a0_1 a0_2 a1_0 a1_1 a1_2) else (if t217 > 0 then (if t217 < 0 then (L06_HlcRises.j0 k a3 a4 (!true) a0_0 a0_1 a0_2 a1_0 a1_1 a1_2) else (if t218 < 0 then (L06_HlcRises.j0 k a3 a4 (!true) a0_0 a0_1 a0_2 a1_0 a1_1 a1_2) else (L06_HlcRises.j0 k a3 a4 (!(decide (t219 ≥ 0))) a0_0 a0_1 a0_2 a1_0 a1_1 a1_2))) else (if t218 > 0 then (if t217 < 0 then (L06_HlcRises.j0 k a3 a4 (!true) a0_0 a0_1 a0_2 a1_0 a1_1 a1_2) else (if t218 < 0 then (L06_HlcRises.j0 k a3 a4 (!true) a0_0 a0_1 a0_2 a1_0 a1_1 a1_2) else (L06_HlcRises.j0 k a3 a4 (!(decide (t219 ≥ 0))) a0_0 a0_1 a0_2 a1_0 a1_1 a1_2))) else (if t219 ≤ 0 then (if t217 < 0 then (L06_HlcRises.j0 k a3 a4 (!true) a0_0 a0_1 a0_2 a1_0 a1_1 a1_2) else (if t218 < 0 then (L06_HlcRises.j0 k a3 a4 (!true) a0_0 a0_1 a0_2 a1_0 a1_1 a1_2) else (L06_HlcRises.j0 k a3 a4 (!(decide (t219 ≥ 0))) a0_0 a0_1 a0_2 a1_0 a1_1 a1_2))) else (L06_HlcRises.j0 k a3 a4 (!false) a0_0 a0_1 a0_2 a1_0 a1_1 a1_2)))))))) else (L06_HlcRises.j0 k a3 a4 true a0_0 a0_1 a0_2 a1_0 a1_1 a1_2))) = some r := H
 have A8 := am A80
 clear A80
 have HC9 := am H
 clear H
 go_enter Try.func6, Try.ntmps6
 try go_wp2_with (first | ((with_reducible refine gate_dst (N := 5) rfl ?_); refine box_event ?hg (N := 5) ?hd (cs := #[.int .i64 a0_0, .int .i64 a0_1, .int .i64 a0_2]) (t := 24) ?hr ?_; (case hd => rfl); (case hg => rfl); (case hr => first | (go_simp; done) | (go_simp; rfl)); intro gb214 hg w10 hbox hb; have n0_ := am (below_step (by repeat (first | (with_reducible first | exact HB.out | apply below_alloc | apply pw_below_drewN | apply below_drew1) | exact HB.out)) hb); have n1_ := am (hbox); have n2_ := am ((by rw [hg]; exact (below_size (by repeat (first | (with_reducible first | exact HB.out | apply below_alloc | apply pw_below_drewN | apply below_drew1) | exact HB.out))) : w.heap.size ≤ gb214)); have n3_ := am ((by rw [hg]; exact (below_size (by repeat (first | (with_reducible first | exact HB.out | apply below_alloc | apply pw_below_drewN | apply below_drew1) | exact HB.out))) : w.heap.size ≤ gb214)); clear HB; have HB := n0_; have BK214 := n1_; have GW214 := n2_; have GE214 := n3_; clear n0_ n1_ n2_ n3_; clear hb hbox hg) | ((with_reducible refine gate_dst (N := 6) rfl ?_); refine box_event ?hg (N := 6) ?hd (cs := #[.int .i64 a1_0, .int .i64 a1_1, .int .i64 a1_2]) (t := 24) ?hr ?_; (case hd => rfl); (case hg => rfl); (case hr => first | (go_simp; done) | (go_simp; rfl)); intro gb215 hg w11 hbox hb; have n0_ := am (blk_below (g := gb214) (o := .cells #[.int .i64 a0_0, .int .i64 a0_1, .int .i64 a0_2] 24 (0, 0)) (by (with_reducible repeat (first | refine blk_drewN ?_ _ | refine blk_drew ?_ | refine blk_alloc ?_ _)); exact BK214.out) hb); have n1_ := am (below_step (by repeat (first | (with_reducible first | exact HB.out | apply below_alloc | apply pw_below_drewN | apply below_drew1 | refine below_set ?_ GE214.out) | exact HB.out)) hb); have n2_ := am (hbox); have n3_ := am ((by rw [hg]; exact (below_size (by repeat (first | (with_reducible first | exact HB.out | apply below_alloc | apply pw_below_drewN | apply below_drew1 | refine below_set ?_ GE214.out) | exact HB.out))) : w.heap.size ≤ gb215)); have n4_ := am ((by rw [hg]; exact (below_size (by repeat (first | (with_reducible first | exact HB.out | apply below_alloc | apply pw_below_drewN | apply below_drew1 | refine below_set ?_ GE214.out) | exact HB.out))) : w.heap.size ≤ gb215)); have n5_ := am ((by rw [hg]; exact Nat.ne_of_lt (blk_lt (g := gb214) (o := .cells #[.int .i64 a0_0, .int .i64 a0_1, .int .i64 a0_2] 24 (0, 0)) (by (with_reducible repeat (first | refine blk_drewN ?_ _ | refine blk_drew ?_ | refine blk_alloc ?_ _)); exact BK214.out)) : gb214 ≠ gb215)); have n6_ := am ((by rw [hg]; exact Nat.ne_of_gt (blk_lt (g := gb214) (o := .cells #[.int .i64 a0_0, .int .i64 a0_1, .int .i64 a0_2] 24 (0, 0)) (by (with_reducible repeat (first | refine blk_drewN ?_ _ | refine blk_drew ?_ | refine blk_alloc ?_ _)); exact BK214.out)) : gb215 ≠ gb214)); clear BK214; clear HB; have BK214 := n0_; have HB := n1_; have BK215 := n2_; have GW215 := n3_; have GE215 := n4_; have NB214_215 := n5_; have NB215_214 := n6_; clear n0_ n1_ n2_ n3_ n4_ n5_ n6_; clear hb hbox hg) | ((with_reducible refine gate_dst (N := 7) rfl ?_); refine box_event ?hg (N := 7) ?hd (cs := #[.int .i64 a2_0, .int .i64 a2_1, .int .i64 a2_2]) (t := 24) ?hr ?_; (case hd => rfl); (case hg => rfl); (case hr => first | (go_simp; done) | (go_simp; rfl)); intro gb216 hg w12 hbox hb; have n0_ := am (blk_below (g := gb214) (o := .cells #[.int .i64 a0_0, .int .i64 a0_1, .int .i64 a0_2] 24 (0, 0)) (by (with_reducible repeat (first | refine blk_drewN ?_ _ | refine blk_drew ?_ | refine blk_alloc ?_ _)); exact BK214.out) hb); have n1_ := am (blk_below (g := gb215) (o := .cells #[.int .i64 a1_0, .int .i64 a1_1, .int .i64 a1_2] 24 (0, 0)) (by (with_reducible repeat (first | refine blk_drewN ?_ _ | refine blk_drew ?_ | refine blk_alloc ?_ _)); exact BK215.out) hb); have n2_ := am (below_step (by repeat (first | (with_reducible first | exact HB.out | apply below_alloc | apply pw_below_drewN | apply below_drew1 | refine below_set ?_ GE214.out | refine below_set ?_ GE215.out) | exact HB.out)) hb); have n3_ := am (hbox); have n4_ := am ((by rw [hg]; exact (below_size (by repeat (first | (with_reducible first | exact HB.out | apply below_alloc | apply pw_below_drewN | apply below_drew1 | refine below_set ?_ GE214.out | refine below_set ?_ GE215.out) | exact HB.out))) : w.heap.size ≤ gb216)); have n5_ := am ((by rw [hg]; exact (below_size (by repeat (first | (with_reducible first | exact HB.out | apply below_alloc | apply pw_below_drewN | apply below_drew1 | refine below_set ?_ GE214.out | refine below_set ?_ GE215.out) | exact HB.out))) : w.heap.size ≤ gb216)); have n6_ := am ((by rw [hg]; exact Nat.ne_of_lt (blk_lt (g := gb214) (o := .cells #[.int .i64 a0_0, .int .i64 a0_1, .int .i64 a0_2] 24 (0, 0)) (by (with_reducible repeat (first | refine blk_drewN ?_ _ | refine blk_drew ?_ | refine blk_alloc ?_ _)); exact BK214.out)) : gb214 ≠ gb216)); have n7_ := am ((by rw [hg]; exact Nat.ne_of_gt (blk_lt (g := gb214) (o := .cells #[.int .i64 a0_0, .int .i64 a0_1, .int .i64 a0_2] 24 (0, 0)) (by (with_reducible repeat (first | refine blk_drewN ?_ _ | refine blk_drew ?_ | refine blk_alloc ?_ _)); exact BK214.out)) : gb216 ≠ gb214)); have n8_ := am ((by rw [hg]; exact Nat.ne_of_lt (blk_lt (g := gb215) (o := .cells #[.int .i64 a1_0, .int .i64 a1_1, .int .i64 a1_2] 24 (0, 0)) (by (with_reducible repeat (first | refine blk_drewN ?_ _ | refine blk_drew ?_ | refine blk_alloc ?_ _)); exact BK215.out)) : gb215 ≠ gb216)); have n9_ := am ((by rw [hg]; exact Nat.ne_of_gt (blk_lt (g := gb215) (o := .cells #[.int .i64 a1_0, .int .i64 a1_1, .int .i64 a1_2] 24 (0, 0)) (by (with_reducible repeat (first | refine blk_drewN ?_ _ | refine blk_drew ?_ | refine blk_alloc ?_ _)); exact BK215.out)) : gb216 ≠ gb215)); clear BK214; clear BK215; clear HB; have BK214 := n0_; have BK215 := n1_; have HB := n2_; have BK216 := n3_; have GW216 := n4_; have GE216 := n5_; have NB214_216 := n6_; have NB216_214 := n7_; have NB215_216 := n8_; have NB216_215 := n9_; clear n0_ n1_ n2_ n3_ n4_ n5_ n6_ n7_ n8_ n9_; clear hb hbox hg))
 have n0_ := am (blk_drew BK214.out)
 have n1_ := am (blk_drew BK215.out)
 have n2_ := am (blk_drew BK216.out)
 have n3_ := am (below_drew1 HB.out)
 clear BK214
 clear BK215
 clear BK216
 clear HB
 have BK214 := n0_
 have BK215 := n1_
 have BK216 := n2_
 have HB := n3_
 clear n0_ n1_ n2_ n3_
 refine start_ (n := 12) (S := fun w' => w'.cell? ⟨gb214, 0, none⟩ = some (.int .i64 a0_0) ∧ w'.cell? ⟨gb214, 1, none⟩ = some (.int .i64 a0_1) ∧ w'.cell? ⟨gb214, 2, none⟩ = some (.int .i64 a0_2) ∧ w'.cell? ⟨gb215, 0, none⟩ = some (.int .i64 a1_0) ∧ w'.cell? ⟨gb215, 1, none⟩ = some (.int .i64 a1_1) ∧ w'.cell? ⟨gb215, 2, none⟩ = some (.int .i64 a1_2) ∧ w'.cell? ⟨gb216, 0, none⟩ = some (.int .i64 a2_0) ∧ w'.cell? ⟨gb216, 1, none⟩ = some (.int .i64 a2_1) ∧ w'.cell? ⟨gb216, 2, none⟩ = some (.int .i64 a2_2)) (ds := []) #[false, false, false, false, false, false, false, false, false, false, false, false] (by kernel_rfl) rfl rfl ⟨(blk_cell BK214.out 0).trans rfl, (blk_cell BK214.out 1).trans rfl, (blk_cell BK214.out 2).trans rfl, (blk_cell BK215.out 0).trans rfl, (blk_cell BK215.out 1).trans rfl, (blk_cell BK215.out 2).trans rfl, (blk_cell BK216.out 0).trans rfl, (blk_cell BK216.out 1).trans rfl, (blk_cell BK216.out 2).trans rfl⟩ (fun hHeld => ?_); refine with_tabW L06_HlcRises.tab1 L06_HlcRises.bits1 (fun HT_ HW_ => ?_)
 generalize w12.drew = w13 at BK214 BK215 BK216 HB hHeld ⊢
 refine take_ (i := 0) (N := some 17) (v := ?_) (a' := ?_) #[true, false, false, false, false, false, false, false, false, false, false, false] rfl rfl (take_ofW HT_.out HW_.out (by kernel_rfl)) (fun _ _ _ h => h) (Or.inl ⟨by rfl, ?_⟩) hHeld ?_ ?_
 rotate_left
 ·
  rintro w' ⟨s0, s1, s2, s3, s4, s5, s6, s7, s8⟩
  go_simp
  with_reducible rfl
 rotate_left
 ·
  simp only [Act.put, List.setIfInBounds_toArray, List.set_cons_zero, List.set_cons_succ, i64_w, i32_w]
  rfl
 refine take_ (i := 1) (N := some 18) (v := ?_) (a' := ?_) #[true, true, false, false, false, false, false, false, false, false, false, false] rfl rfl (take_ofW HT_.out HW_.out (by kernel_rfl)) (fun _ _ _ h => h) (Or.inl ⟨by rfl, ?_⟩) hHeld ?_ ?_
 rotate_left
 ·
  rintro w' ⟨s0, s1, s2, s3, s4, s5, s6, s7, s8⟩
  go_simp
  with_reducible rfl
 rotate_left
 ·
  simp only [Act.put, List.setIfInBounds_toArray, List.set_cons_zero, List.set_cons_succ, i64_w, i32_w]
  rfl
 refine take_ (i := 3) (N := some 20) (v := ?_) (a' := ?_) #[true, true, false, true, false, false, false, false, false, false, false, false] rfl rfl (take_ofW HT_.out HW_.out (by kernel_rfl)) (fun _ _ _ h => h) (Or.inl ⟨by rfl, ?_⟩) hHeld ?_ ?_
 rotate_left
 ·
  rintro w' ⟨s0, s1, s2, s3, s4, s5, s6, s7, s8⟩
  go_simp
  with_reducible rfl
 rotate_left
 ·
  simp only [Act.put, List.setIfInBounds_toArray, List.set_cons_zero, List.set_cons_succ, i64_w, i32_w]
  rfl
 refine take_ (i := 4) (N := some 21) (v := ?_) (a' := ?_) #[true, true, false, true, true, false, false, false, false, false, false, false] rfl rfl (take_ofW HT_.out HW_.out (by kernel_rfl)) (fun _ _ _ h => h) (Or.inl ⟨by rfl, ?_⟩) hHeld ?_ ?_
 rotate_left
 ·
  rintro w' ⟨s0, s1, s2, s3, s4, s5, s6, s7, s8⟩
  go_simp
  with_reducible rfl
 rotate_left
 ·
  simp only [Act.put, List.setIfInBounds_toArray, List.set_cons_zero, List.set_cons_succ, i64_w, i32_w]
  rfl
 refine take_ (i := 6) (N := some 23) (v := ?_) (a' := ?_) #[true, true, false, true, true, false, true, false, false, false, false, false] rfl rfl (take_ofW HT_.out HW_.out (by kernel_rfl)) (fun _ _ _ h => h) (Or.inl ⟨by rfl, ?_⟩) hHeld ?_ ?_
 rotate_left
 ·
  rintro w' ⟨s0, s1, s2, s3, s4, s5, s6, s7, s8⟩
  go_simp
  with_reducible rfl
 rotate_left
 ·
  simp only [Act.put, List.setIfInBounds_toArray, List.set_cons_zero, List.set_cons_succ, i64_w, i32_w]
  rfl
 refine take_ (i := 7) (N := some 24) (v := ?_) (a' := ?_) #[true, true, false, true, true, false, true, true, false, false, false, false] rfl rfl (take_ofW HT_.out HW_.out (by kernel_rfl)) (fun _ _ _ h => h) (Or.inl ⟨by rfl, ?_⟩) hHeld ?_ ?_
 rotate_left
 ·
  rintro w' ⟨s0, s1, s2, s3, s4, s5, s6, s7, s8⟩
  go_simp
  with_reducible rfl
 rotate_left
 ·
  simp only [Act.put, List.setIfInBounds_toArray, List.set_cons_zero, List.set_cons_succ, i64_w, i32_w]
  rfl
 refine one_ (i := 2) (N := some 19) #[true, true, true, true, true, false, true, true, false, false, false, false] rfl rfl (one_of HT_.out (by kernel_rfl)) (by decide) (fun K hK => ?_)
 refine goes_ Try.func10 (by kernel_rfl) rfl #[.agg #[.int .i64 a0_0, .int .i64 a0_1, .int .i64 a0_2], .agg #[.int .i64 a1_0, .int .i64 a1_1, .int .i64 a1_2]] (by rfl) rfl rfl (by (try simp only [List.map_toArray, List.map_cons, List.map_nil]); first | done | rfl | (simp only [List.length_drop, List.length_take]; rfl)) ?_
 with_reducible refine (hlc_Compare.calls k a0_0 a0_1 a0_2 a1_0 a1_1 a1_2 t217 _ A6.out).mono ?_
 rintro e w14 ⟨rfl, hb⟩
 refine ⟨_, rfl, ?_⟩
 have n0_ := am (blk_below (g := gb214) (o := .cells #[.int .i64 a0_0, .int .i64 a0_1, .int .i64 a0_2] 24 (0, 0)) (by (with_reducible repeat (first | refine blk_drewN ?_ _ | refine blk_drew ?_ | refine blk_alloc ?_ _)); exact BK214.out) hb)
 have n1_ := am (blk_below (g := gb215) (o := .cells #[.int .i64 a1_0, .int .i64 a1_1, .int .i64 a1_2] 24 (0, 0)) (by (with_reducible repeat (first | refine blk_drewN ?_ _ | refine blk_drew ?_ | refine blk_alloc ?_ _)); exact BK215.out) hb)
 have n2_ := am (blk_below (g := gb216) (o := .cells #[.int .i64 a2_0, .int .i64 a2_1, .int .i64 a2_2] 24 (0, 0)) (by (with_reducible repeat (first | refine blk_drewN ?_ _ | refine blk_drew ?_ | refine blk_alloc ?_ _)); exact BK216.out) hb)
 have n3_ := am (below_step (by repeat (first | (with_reducible first | exact HB.out | apply below_alloc | apply pw_below_drewN | apply below_drew1 | refine below_set ?_ GE214.out | refine below_set ?_ GE215.out | refine below_set ?_ GE216.out) | exact HB.out)) hb)
 clear BK214
 clear BK215
 clear BK216
 clear HB
 have BK214 := n0_
 have BK215 := n1_
 have BK216 := n2_
 have HB := n3_
 clear n0_ n1_ n2_ n3_
 (try clear hb)
 (try clear hb2)
 (try clear hk)
 (try clear hi)
 refine hK.out _ _ ⟨(blk_cell BK214.out 0).trans rfl, (blk_cell BK214.out 1).trans rfl, (blk_cell BK214.out 2).trans rfl, (blk_cell BK215.out 0).trans rfl, (blk_cell BK215.out 1).trans rfl, (blk_cell BK215.out 2).trans rfl, (blk_cell BK216.out 0).trans rfl, (blk_cell BK216.out 1).trans rfl, (blk_cell BK216.out 2).trans rfl⟩ (fun hHeld => ?_)
 clear hK K
 refine norm_ (a' := ?_) ?_ ?_
 rotate_left
 ·
  show Act.put _ (some 19) _ = _
  simp only [Act.put, List.setIfInBounds_toArray, List.set_cons_zero, List.set_cons_succ, i64_w, i32_w]
  rfl
 refine one_ (i := 5) (N := some 22) #[true, true, true, true, true, true, true, true, false, false, false, false] rfl rfl (one_of HT_.out (by kernel_rfl)) (by decide) (fun K hK => ?_)
 refine goes_ Try.func10 (by kernel_rfl) rfl #[.agg #[.int .i64 a1_0, .int .i64 a1_1, .int .i64 a1_2], .agg #[.int .i64 a2_0, .int .i64 a2_1, .int .i64 a2_2]] (by rfl) rfl rfl (by (try simp only [List.map_toArray, List.map_cons, List.map_nil]); first | done | rfl | (simp only [List.length_drop, List.length_take]; rfl)) ?_
 with_reducible refine (hlc_Compare.calls k a1_0 a1_1 a1_2 a2_0 a2_1 a2_2 t218 _ A7.out).mono ?_
 rintro e w15 ⟨rfl, hb⟩
 refine ⟨_, rfl, ?_⟩
 have n0_ := am (blk_below (g := gb214) (o := .cells #[.int .i64 a0_0, .int .i64 a0_1, .int .i64 a0_2] 24 (0, 0)) (by (with_reducible repeat (first | refine blk_drewN ?_ _ | refine blk_drew ?_ | refine blk_alloc ?_ _)); exact BK214.out) hb)
 have n1_ := am (blk_below (g := gb215) (o := .cells #[.int .i64 a1_0, .int .i64 a1_1, .int .i64 a1_2] 24 (0, 0)) (by (with_reducible repeat (first | refine blk_drewN ?_ _ | refine blk_drew ?_ | refine blk_alloc ?_ _)); exact BK215.out) hb)
 have n2_ := am (blk_below (g := gb216) (o := .cells #[.int .i64 a2_0, .int .i64 a2_1, .int .i64 a2_2] 24 (0, 0)) (by (with_reducible repeat (first | refine blk_drewN ?_ _ | refine blk_drew ?_ | refine blk_alloc ?_ _)); exact BK216.out) hb)
 have n3_ := am (below_step (by repeat (first | (with_reducible first | exact HB.out | apply below_alloc | apply pw_below_drewN | apply below_drew1 | refine below_set ?_ GE214.out | refine below_set ?_ GE215.out | refine below_set ?_ GE216.out) | exact HB.out)) hb)
 clear BK214
 clear BK215
 clear BK216
 clear HB
 have BK214 := n0_
 have BK215 := n1_
 have BK216 := n2_
 have HB := n3_
 clear n0_ n1_ n2_ n3_
 (try clear hb)
 (try clear hb2)
 (try clear hk)
 (try clear hi)
 refine hK.out _ _ ⟨(blk_cell BK214.out 0).trans rfl, (blk_cell BK214.out 1).trans rfl, (blk_cell BK214.out 2).trans rfl, (blk_cell BK215.out 0).trans rfl, (blk_cell BK215.out 1).trans rfl, (blk_cell BK215.out 2).trans rfl, (blk_cell BK216.out 0).trans rfl, (blk_cell BK216.out 1).trans rfl, (blk_cell BK216.out 2).trans rfl⟩ (fun hHeld => ?_)
 clear hK K
 refine norm_ (a' := ?_) ?_ ?_
 rotate_left
 ·
  show Act.put _ (some 22) _ = _
  simp only [Act.put, List.setIfInBounds_toArray, List.set_cons_zero, List.set_cons_succ, i64_w, i32_w]
  rfl
 refine one_ (i := 8) (N := some 25) #[true, true, true, true, true, true, true, true, true, false, false, false] rfl rfl (one_of HT_.out (by kernel_rfl)) (by decide) (fun K hK => ?_)
 refine goes_ Try.func10 (by kernel_rfl) rfl #[.agg #[.int .i64 a0_0, .int .i64 a0_1, .int .i64 a0_2], .agg #[.int .i64 a2_0, .int .i64 a2_1, .int .i64 a2_2]] (by rfl) rfl rfl (by (try simp only [List.map_toArray, List.map_cons, List.map_nil]); first | done | rfl | (simp only [List.length_drop, List.length_take]; rfl)) ?_
 with_reducible refine (hlc_Compare.calls k a0_0 a0_1 a0_2 a2_0 a2_1 a2_2 t219 _ A8.out).mono ?_
 rintro e w16 ⟨rfl, hb⟩
 refine ⟨_, rfl, ?_⟩
 have n0_ := am (blk_below (g := gb214) (o := .cells #[.int .i64 a0_0, .int .i64 a0_1, .int .i64 a0_2] 24 (0, 0)) (by (with_reducible repeat (first | refine blk_drewN ?_ _ | refine blk_drew ?_ | refine blk_alloc ?_ _)); exact BK214.out) hb)
 have n1_ := am (blk_below (g := gb215) (o := .cells #[.int .i64 a1_0, .int .i64 a1_1, .int .i64 a1_2] 24 (0, 0)) (by (with_reducible repeat (first | refine blk_drewN ?_ _ | refine blk_drew ?_ | refine blk_alloc ?_ _)); exact BK215.out) hb)
 have n2_ := am (blk_below (g := gb216) (o := .cells #[.int .i64 a2_0, .int .i64 a2_1, .int .i64 a2_2] 24 (0, 0)) (by (with_reducible repeat (first | refine blk_drewN ?_ _ | refine blk_drew ?_ | refine blk_alloc ?_ _)); exact BK216.out) hb)
 have n3_ := am (below_step (by repeat (first | (with_reducible first | exact HB.out | apply below_alloc | apply pw_below_drewN | apply below_drew1 | refine below_set ?_ GE214.out | refine below_set ?_ GE215.out | refine below_set ?_ GE216.out) | exact HB.out)) hb)
 clear BK214
 clear BK215
 clear BK216
 clear HB
 have BK214 := n0_
 have BK215 := n1_
 have BK216 := n2_
 have HB := n3_
 clear n0_ n1_ n2_ n3_
 (try clear hb)
 (try clear hb2)
 (try clear hk)
 (try clear hi)
 refine hK.out _ _ ⟨(blk_cell BK214.out 0).trans rfl, (blk_cell BK214.out 1).trans rfl, (blk_cell BK214.out 2).trans rfl, (blk_cell BK215.out 0).trans rfl, (blk_cell BK215.out 1).trans rfl, (blk_cell BK215.out 2).trans rfl, (blk_cell BK216.out 0).trans rfl, (blk_cell BK216.out 1).trans rfl, (blk_cell BK216.out 2).trans rfl⟩ (fun hHeld => ?_)
 clear hK K
 refine norm_ (a' := ?_) ?_ ?_
 rotate_left
 ·
  show Act.put _ (some 25) _ = _
  simp only [Act.put, List.setIfInBounds_toArray, List.set_cons_zero, List.set_cons_succ, i64_w, i32_w]
  rfl
 refine pure_ (i := 9) (N := some 11) (v := ?_) (a' := ?_) #[true, true, true, true, true, true, true, true, true, true, false, false] rfl rfl (any_of HT_.out (by kernel_rfl)) (fun _ _ _ h => h) (Or.inl ⟨by rfl, ?_⟩) ?_ ?_
 rotate_left
 ·
  intro w'
  go_simp
  with_reducible rfl
 rotate_left
 ·
  simp only [Act.put, List.setIfInBounds_toArray, List.set_cons_zero, List.set_cons_succ, i64_w, i32_w]
  rfl
 refine pure_ (i := 10) (N := some 12) (v := ?_) (a' := ?_) #[true, true, true, true, true, true, true, true, true, true, true, false] rfl rfl (any_of HT_.out (by kernel_rfl)) (fun _ _ _ h => h) (Or.inl ⟨by rfl, ?_⟩) ?_ ?_
 rotate_left
 ·
  intro w'
  go_simp
  with_reducible rfl
 rotate_left
 ·
  simp only [Act.put, List.setIfInBounds_toArray, List.set_cons_zero, List.set_cons_succ, i64_w, i32_w]
  rfl
 refine pure_ (i := 11) (N := some 13) (v := ?_) (a' := ?_) #[true, true, true, true, true, true, true, true, true, true, true, true] rfl rfl (any_of HT_.out (by kernel_rfl)) (fun _ _ _ h => h) (Or.inl ⟨by rfl, ?_⟩) ?_ ?_
 rotate_left
 ·
  intro w'
  go_simp
  with_reducible rfl
 rotate_left
 ·
  simp only [Act.put, List.setIfInBounds_toArray, List.set_cons_zero, List.set_cons_succ, i64_w, i32_w]
  rfl
 refine done_ (done_of HT_.out (by kernel_rfl)) ?_
 go_upto_region 2 with (fail)
 go_cut [72] (fun v72 wc => ∃ (kq : Nat) (x72_8 : Bool), v72 = .bool x72_8 ∧ Aside0 (L06_HlcRises.j0 kq a3 a4 x72_8 a0_0 a0_1 a0_2 a1_0 a1_1 a1_2 = some r) ∧ Aside0 (kq ≤ k) ∧ Aside0 (wc.heap[gb214]? = some (.cells #[.int .i64 a0_0, .int .i64 a0_1, .int .i64 a0_2] 24 (0, 0))) ∧ Aside0 (wc.heap[gb215]? = some (.cells #[.int .i64 a1_0, .int .i64 a1_1, .int .i64 a1_2] 24 (0, 0))) ∧ Aside0 (wc.heap[gb216]? = some (.cells #[.int .i64 a2_0, .int .i64 a2_1, .int .i64 a2_2] 24 (0, 0))) ∧ Aside0 (Below w.heap.size w wc))
 case first =>
  have H := HC9.out
  clear HC9
  replace H := Option.bind_eq_some_iff.mp H
  obtain ⟨t220, A170, H⟩ := H
  replace H : (if t217 = (wrap64 (-t220)) then ((keep_Stamp.f a0_0 a0_1 a0_2 a1_0 a1_1 a1_2).bind fun t221 => (if ((t217 == 0) != t221) = true then (L06_HlcRises.j0 k a3 a4 true a0_0 a0_1 a0_2 a1_0 a1_1 a1_2) else (if t217 < (-1) then (L06_HlcRises.j0 k a3 a4 true a0_0 a0_1 a0_2 a1_0 a1_1 a1_2) else (if t217 > 1 then (L06_HlcRises.j0 k a3 a4 true a0_0 a0_1 a0_2 a1_0 a1_1 a1_2) else (if t217 > 0 then (if t217 < 0 then (L06_HlcRises.j0 k a3 a4 (!true) a0_0 a0_1 a0_2 a1_0 a1_1 a1_2) else (if t218 < 0 then (L06_HlcRises.j0 k a3 a4 (!true) a0_0 a0_1 a0_2 a1_0 a1_1 a1_2) else (L06_HlcRises.j0 k a3 a4 (!(decide (t219 ≥ 0))) a0_0 a0_1 a0_2 a1_0 a1_1 a1_2))) else (if t218 > 0 then (if t217 < 0 then (L06_HlcRises.j0 k a3 a4 (!true) a0_0 a0_1 a0_2 a1_0 a1_1 a1_2) else (if t218 < 0 then (L06_HlcRises.j0 k a3 a4 (!true) a0_0 a0_1 a0_2 a1_0 a1_1 a1_2) else (L06_HlcRises.j0 k a3 a4 (!(decide (t219 ≥ 0))) a0_0 a0_1 a0_2 a1_0 a1_1 a1_2))) else (if t219 ≤ 0 then (if t217 < 0 then (L06_HlcRises.j0 k a3 a4 (!true) a0_0 a0_1 a0_2 a1_0 a1_1 a1_2) else (if t218 < 0 then (L06_HlcRises.j0 k a3 a4 (!true) a0_0 a0_1 a0_2 a1_0 a1_1 a1_2) else (L06_HlcRises.j0 k a3 a4 (!(decide (t219 ≥ 0))) a0_0 a0_1 a0_2 a1_0 a1_1 a1_2))) else (L06_HlcRises.j0 k a3 a4 (!false) a0_0 a0_1 a0_2 a1_0 a1_1 a1_2)))))))) else (L06_HlcRises.j0 k a3 a4 true a0_0 a0_1 a0_2 a1_0 a1_1 a1_2)) = some r := H
  have A17 := am A170
  clear A170
  by_cases c18 : t217 = (wrap64 (-t220))
  ·
   rw [if_pos c18] at H
   have c18b0 : (t217 == (wrap64 (-t220))) = true := beq_iff_eq.mpr c18
   have c18b1 : (t217 != (wrap64 (-t220))) = false := bne_eq_false_iff_eq.mpr c18
   clear c18
   (first | rw [c18b0] | (simp only [i64_w, i32_w]; rw [c18b0]) | skip)
   replace H := Option.bind_eq_some_iff.mp H
   obtain ⟨t221, A190, H⟩ := H
   replace H : (if ((t217 == 0) != t221) = true then (L06_HlcRises.j0 k a3 a4 true a0_0 a0_1 a0_2 a1_0 a1_1 a1_2) else (if t217 < (-1) then (L06_HlcRises.j0 k a3 a4 true a0_0 a0_1 a0_2 a1_0 a1_1 a1_2) else (if t217 > 1 then (L06_HlcRises.j0 k a3 a4 true a0_0 a0_1 a0_2 a1_0 a1_1 a1_2) else (if t217 > 0 then (if t217 < 0 then (L06_HlcRises.j0 k a3 a4 (!true) a0_0 a0_1 a0_2 a1_0 a1_1 a1_2) else (if t218 < 0 then (L06_HlcRises.j0 k a3 a4 (!true) a0_0 a0_1 a0_2 a1_0 a1_1 a1_2) else (L06_HlcRises.j0 k a3 a4 (!(decide (t219 ≥ 0))) a0_0 a0_1 a0_2 a1_0 a1_1 a1_2))) else (if t218 > 0 then (if t217 < 0 then (L06_HlcRises.j0 k a3 a4 (!true) a0_0 a0_1 a0_2 a1_0 a1_1 a1_2) else (if t218 < 0 then (L06_HlcRises.j0 k a3 a4 (!true) a0_0 a0_1 a0_2 a1_0 a1_1 a1_2) else (L06_HlcRises.j0 k a3 a4 (!(decide (t219 ≥ 0))) a0_0 a0_1 a0_2 a1_0 a1_1 a1_2))) else (if t219 ≤ 0 then (if t217 < 0 then (L06_HlcRises.j0 k a3 a4 (!true) a0_0 a0_1 a0_2 a1_0 a1_1 a1_2) else (if t218 < 0 then (L06_HlcRises.j0 k a3 a4 (!true) a0_0 a0_1 a0_2 a1_0 a1_1 a1_2) else (L06_HlcRises.j0 k a3 a4 (!(decide (t219 ≥ 0))) a0_0 a0_1 a0_2 a1_0 a1_1 a1_2))) else (L06_HlcRises.j0 k a3 a4 (!false) a0_0 a0_1 a0_2 a1_0 a1_1 a1_2))))))) = some r := H
   have A19 := am A190
   clear A190
   by_cases c20 : ((t217 == 0) != t221) = true
   ·
    rw [if_pos c20] at H
    have c20b0 : ((t217 == 0) != t221) = true := c20
    (try (have c20b1 : decide ((t217 == 0) = t221) = false := by simpa using c20))
    (try (have c20b2 : ((t217 == 0) == t221) = false := by simpa using c20))
    (try (have c20b3 : ¬ ((t217 == 0) = t221) := by simpa using c20))
    clear c20
    have H' := am H
    clear H
    have hnb21 := NB215_214.out
    have hnc21 := NB214_215.out
    have hnb22 := NB215_216.out
    have hnc22 := NB216_215.out
    have hcz23_0 : w16.cell? ⟨gb215, 0, none⟩ = some (.int .i64 a1_0) := (blk_cell BK215.out 0).trans rfl
    have hcz23_1 : w16.cell? ⟨gb215, 1, none⟩ = some (.int .i64 a1_1) := (blk_cell BK215.out 1).trans rfl
    have hcz23_2 : w16.cell? ⟨gb215, 2, none⟩ = some (.int .i64 a1_2) := (blk_cell BK215.out 2).trans rfl
    have hfz23_0 := blk_frozen BK215.out 0
    have hfz23_1 := blk_frozen BK215.out 1
    have hfz23_2 := blk_frozen BK215.out 2
    have hnb24 := NB214_216.out
    have hnc24 := NB216_214.out
    have hcz25_0 : w16.cell? ⟨gb214, 0, none⟩ = some (.int .i64 a0_0) := (blk_cell BK214.out 0).trans rfl
    have hcz25_1 : w16.cell? ⟨gb214, 1, none⟩ = some (.int .i64 a0_1) := (blk_cell BK214.out 1).trans rfl
    have hcz25_2 : w16.cell? ⟨gb214, 2, none⟩ = some (.int .i64 a0_2) := (blk_cell BK214.out 2).trans rfl
    have hfz25_0 := blk_frozen BK214.out 0
    have hfz25_1 := blk_frozen BK214.out 1
    have hfz25_2 := blk_frozen BK214.out 2
    go_wp2_with (first | ((with_reducible refine gate_callee (f := 10) rfl ?_); refine goesL_ (some 29) rfl rfl Try.func10 (by kernel_rfl) rfl #[.agg #[.int .i64 a1_0, .int .i64 a1_1, .int .i64 a1_2], .agg #[.int .i64 a0_0, .int .i64 a0_1, .int .i64 a0_2]] rfl (by (try simp only [List.map_toArray, List.map_cons, List.map_nil]); first | done | rfl | (simp only [List.length_drop, List.length_take]; rfl)) ?_; (with_reducible refine (hlc_Compare.calls k a1_0 a1_1 a1_2 a0_0 a0_1 a0_2 t220 _ A17.out).mono ?_); rintro e w26 ⟨rfl, hb⟩; refine ⟨_, rfl, ?_⟩; have n0_ := am (blk_below (g := gb214) (o := .cells #[.int .i64 a0_0, .int .i64 a0_1, .int .i64 a0_2] 24 (0, 0)) (by (with_reducible repeat (first | refine blk_drewN ?_ _ | refine blk_drew ?_ | refine blk_alloc ?_ _)); exact BK214.out) hb); have n1_ := am (blk_below (g := gb215) (o := .cells #[.int .i64 a1_0, .int .i64 a1_1, .int .i64 a1_2] 24 (0, 0)) (by (with_reducible repeat (first | refine blk_drewN ?_ _ | refine blk_drew ?_ | refine blk_alloc ?_ _)); exact BK215.out) hb); have n2_ := am (blk_below (g := gb216) (o := .cells #[.int .i64 a2_0, .int .i64 a2_1, .int .i64 a2_2] 24 (0, 0)) (by (with_reducible repeat (first | refine blk_drewN ?_ _ | refine blk_drew ?_ | refine blk_alloc ?_ _)); exact BK216.out) hb); have n3_ := am (below_step (by repeat (first | (with_reducible first | exact HB.out | apply below_alloc | apply pw_below_drewN | apply below_drew1 | refine below_set ?_ GE214.out | refine below_set ?_ GE215.out | refine below_set ?_ GE216.out) | exact HB.out)) hb); clear BK214; clear BK215; clear BK216; clear HB; have BK214 := n0_; have BK215 := n1_; have BK216 := n2_; have HB := n3_; clear n0_ n1_ n2_ n3_; (try clear hb); (try clear hb2); (try clear hk); (try clear hi); have hcz27_0 : w26.cell? ⟨gb214, 0, none⟩ = some (.int .i64 a0_0) := (blk_cell BK214.out 0).trans rfl; have hcz27_1 : w26.cell? ⟨gb214, 1, none⟩ = some (.int .i64 a0_1) := (blk_cell BK214.out 1).trans rfl; have hcz27_2 : w26.cell? ⟨gb214, 2, none⟩ = some (.int .i64 a0_2) := (blk_cell BK214.out 2).trans rfl; have hfz27_0 := blk_frozen BK214.out 0; have hfz27_1 := blk_frozen BK214.out 1; have hfz27_2 := blk_frozen BK214.out 2; have hcz28_0 : w26.cell? ⟨gb215, 0, none⟩ = some (.int .i64 a1_0) := (blk_cell BK215.out 0).trans rfl; have hcz28_1 : w26.cell? ⟨gb215, 1, none⟩ = some (.int .i64 a1_1) := (blk_cell BK215.out 1).trans rfl; have hcz28_2 : w26.cell? ⟨gb215, 2, none⟩ = some (.int .i64 a1_2) := (blk_cell BK215.out 2).trans rfl; have hfz28_0 := blk_frozen BK215.out 0; have hfz28_1 := blk_frozen BK215.out 1; have hfz28_2 := blk_frozen BK215.out 2) | (go_at_call 16; (with_reducible refine (keep_Stamp.calls a0_0 a0_1 a0_2 a1_0 a1_1 a1_2 t221 _ A19.out).mono ?_); rintro e w29 ⟨rfl, hb⟩; have n0_ := am (blk_below (g := gb214) (o := .cells #[.int .i64 a0_0, .int .i64 a0_1, .int .i64 a0_2] 24 (0, 0)) (by (with_reducible repeat (first | refine blk_drewN ?_ _ | refine blk_drew ?_ | refine blk_alloc ?_ _)); exact BK214.out) hb); have n1_ := am (blk_below (g := gb215) (o := .cells #[.int .i64 a1_0, .int .i64 a1_1, .int .i64 a1_2] 24 (0, 0)) (by (with_reducible repeat (first | refine blk_drewN ?_ _ | refine blk_drew ?_ | refine blk_alloc ?_ _)); exact BK215.out) hb); have n2_ := am (blk_below (g := gb216) (o := .cells #[.int .i64 a2_0, .int .i64 a2_1, .int .i64 a2_2] 24 (0, 0)) (by (with_reducible repeat (first | refine blk_drewN ?_ _ | refine blk_drew ?_ | refine blk_alloc ?_ _)); exact BK216.out) hb); have n3_ := am (below_step (by repeat (first | (with_reducible first | exact HB.out | apply below_alloc | apply pw_below_drewN | apply below_drew1 | refine below_set ?_ GE214.out | refine below_set ?_ GE215.out | refine below_set ?_ GE216.out) | exact HB.out)) hb); clear BK214; clear BK215; clear BK216; clear HB; have BK214 := n0_; have BK215 := n1_; have BK216 := n2_; have HB := n3_; clear n0_ n1_ n2_ n3_; (try clear hb); (try clear hb2); (try clear hk); (try clear hi)))
    go_meet
    case rel => exact ⟨_, (true), (by first | rfl | (simp; done) | (simp [*]; done)), H', ⟨by first | omega | exact Nat.le_refl _⟩, ⟨by (with_reducible repeat (first | refine blk_drewN ?_ _ | refine blk_drew ?_ | refine blk_alloc ?_ _)); exact BK214.out⟩, ⟨by (with_reducible repeat (first | refine blk_drewN ?_ _ | refine blk_drew ?_ | refine blk_alloc ?_ _)); exact BK215.out⟩, ⟨by (with_reducible repeat (first | refine blk_drewN ?_ _ | refine blk_drew ?_ | refine blk_alloc ?_ _)); exact BK216.out⟩, ⟨by repeat (first | (with_reducible first | exact HB.out | apply below_alloc | apply pw_below_drewN | apply below_drew1 | refine below_set ?_ GE214.out | refine below_set ?_ GE215.out | refine below_set ?_ GE216.out) | exact HB.out)⟩⟩
   ·
    rw [if_neg c20] at H
    have c20b0 : ((t217 == 0) != t221) = false := by simpa using c20
    (try (have c20b1 : decide ((t217 == 0) = t221) = true := by simpa using c20))
    (try (have c20b2 : ((t217 == 0) == t221) = true := by simpa using c20))
    clear c20
    by_cases c30 : t217 < (-1)
    ·
     rw [if_pos c30] at H
     have c30b0 : decide (t217 < (-1)) = true := decide_eq_true c30
     clear c30
     have H' := am H
     clear H
     have hnb31 := NB215_214.out
     have hnc31 := NB214_215.out
     have hnb32 := NB215_216.out
     have hnc32 := NB216_215.out
     have hcz33_0 : w16.cell? ⟨gb215, 0, none⟩ = some (.int .i64 a1_0) := (blk_cell BK215.out 0).trans rfl
     have hcz33_1 : w16.cell? ⟨gb215, 1, none⟩ = some (.int .i64 a1_1) := (blk_cell BK215.out 1).trans rfl
     have hcz33_2 : w16.cell? ⟨gb215, 2, none⟩ = some (.int .i64 a1_2) := (blk_cell BK215.out 2).trans rfl
     have hfz33_0 := blk_frozen BK215.out 0
     have hfz33_1 := blk_frozen BK215.out 1
     have hfz33_2 := blk_frozen BK215.out 2
     have hnb34 := NB214_216.out
     have hnc34 := NB216_214.out
     have hcz35_0 : w16.cell? ⟨gb214, 0, none⟩ = some (.int .i64 a0_0) := (blk_cell BK214.out 0).trans rfl
     have hcz35_1 : w16.cell? ⟨gb214, 1, none⟩ = some (.int .i64 a0_1) := (blk_cell BK214.out 1).trans rfl
     have hcz35_2 : w16.cell? ⟨gb214, 2, none⟩ = some (.int .i64 a0_2) := (blk_cell BK214.out 2).trans rfl
     have hfz35_0 := blk_frozen BK214.out 0
     have hfz35_1 := blk_frozen BK214.out 1
     have hfz35_2 := blk_frozen BK214.out 2
     go_wp2_with (first | ((with_reducible refine gate_callee (f := 10) rfl ?_); refine goesL_ (some 29) rfl rfl Try.func10 (by kernel_rfl) rfl #[.agg #[.int .i64 a1_0, .int .i64 a1_1, .int .i64 a1_2], .agg #[.int .i64 a0_0, .int .i64 a0_1, .int .i64 a0_2]] rfl (by (try simp only [List.map_toArray, List.map_cons, List.map_nil]); first | done | rfl | (simp only [List.length_drop, List.length_take]; rfl)) ?_; (with_reducible refine (hlc_Compare.calls k a1_0 a1_1 a1_2 a0_0 a0_1 a0_2 t220 _ A17.out).mono ?_); rintro e w36 ⟨rfl, hb⟩; refine ⟨_, rfl, ?_⟩; have n0_ := am (blk_below (g := gb214) (o := .cells #[.int .i64 a0_0, .int .i64 a0_1, .int .i64 a0_2] 24 (0, 0)) (by (with_reducible repeat (first | refine blk_drewN ?_ _ | refine blk_drew ?_ | refine blk_alloc ?_ _)); exact BK214.out) hb); have n1_ := am (blk_below (g := gb215) (o := .cells #[.int .i64 a1_0, .int .i64 a1_1, .int .i64 a1_2] 24 (0, 0)) (by (with_reducible repeat (first | refine blk_drewN ?_ _ | refine blk_drew ?_ | refine blk_alloc ?_ _)); exact BK215.out) hb); have n2_ := am (blk_below (g := gb216) (o := .cells #[.int .i64 a2_0, .int .i64 a2_1, .int .i64 a2_2] 24 (0, 0)) (by (with_reducible repeat (first | refine blk_drewN ?_ _ | refine blk_drew ?_ | refine blk_alloc ?_ _)); exact BK216.out) hb); have n3_ := am (below_step (by repeat (first | (with_reducible first | exact HB.out | apply below_alloc | apply pw_below_drewN | apply below_drew1 | refine below_set ?_ GE214.out | refine below_set ?_ GE215.out | refine below_set ?_ GE216.out) | exact HB.out)) hb); clear BK214; clear BK215; clear BK216; clear HB; have BK214 := n0_; have BK215 := n1_; have BK216 := n2_; have HB := n3_; clear n0_ n1_ n2_ n3_; (try clear hb); (try clear hb2); (try clear hk); (try clear hi); have hcz37_0 : w36.cell? ⟨gb214, 0, none⟩ = some (.int .i64 a0_0) := (blk_cell BK214.out 0).trans rfl; have hcz37_1 : w36.cell? ⟨gb214, 1, none⟩ = some (.int .i64 a0_1) := (blk_cell BK214.out 1).trans rfl; have hcz37_2 : w36.cell? ⟨gb214, 2, none⟩ = some (.int .i64 a0_2) := (blk_cell BK214.out 2).trans rfl; have hfz37_0 := blk_frozen BK214.out 0; have hfz37_1 := blk_frozen BK214.out 1; have hfz37_2 := blk_frozen BK214.out 2; have hcz38_0 : w36.cell? ⟨gb215, 0, none⟩ = some (.int .i64 a1_0) := (blk_cell BK215.out 0).trans rfl; have hcz38_1 : w36.cell? ⟨gb215, 1, none⟩ = some (.int .i64 a1_1) := (blk_cell BK215.out 1).trans rfl; have hcz38_2 : w36.cell? ⟨gb215, 2, none⟩ = some (.int .i64 a1_2) := (blk_cell BK215.out 2).trans rfl; have hfz38_0 := blk_frozen BK215.out 0; have hfz38_1 := blk_frozen BK215.out 1; have hfz38_2 := blk_frozen BK215.out 2) | (go_at_call 16; (with_reducible refine (keep_Stamp.calls a0_0 a0_1 a0_2 a1_0 a1_1 a1_2 t221 _ A19.out).mono ?_); rintro e w39 ⟨rfl, hb⟩; have n0_ := am (blk_below (g := gb214) (o := .cells #[.int .i64 a0_0, .int .i64 a0_1, .int .i64 a0_2] 24 (0, 0)) (by (with_reducible repeat (first | refine blk_drewN ?_ _ | refine blk_drew ?_ | refine blk_alloc ?_ _)); exact BK214.out) hb); have n1_ := am (blk_below (g := gb215) (o := .cells #[.int .i64 a1_0, .int .i64 a1_1, .int .i64 a1_2] 24 (0, 0)) (by (with_reducible repeat (first | refine blk_drewN ?_ _ | refine blk_drew ?_ | refine blk_alloc ?_ _)); exact BK215.out) hb); have n2_ := am (blk_below (g := gb216) (o := .cells #[.int .i64 a2_0, .int .i64 a2_1, .int .i64 a2_2] 24 (0, 0)) (by (with_reducible repeat (first | refine blk_drewN ?_ _ | refine blk_drew ?_ | refine blk_alloc ?_ _)); exact BK216.out) hb); have n3_ := am (below_step (by repeat (first | (with_reducible first | exact HB.out | apply below_alloc | apply pw_below_drewN | apply below_drew1 | refine below_set ?_ GE214.out | refine below_set ?_ GE215.out | refine below_set ?_ GE216.out) | exact HB.out)) hb); clear BK214; clear BK215; clear BK216; clear HB; have BK214 := n0_; have BK215 := n1_; have BK216 := n2_; have HB := n3_; clear n0_ n1_ n2_ n3_; (try clear hb); (try clear hb2); (try clear hk); (try clear hi)))
     go_meet
     case rel => exact ⟨_, (true), (by first | rfl | (simp; done) | (simp [*]; done)), H', ⟨by first | omega | exact Nat.le_refl _⟩, ⟨by (with_reducible repeat (first | refine blk_drewN ?_ _ | refine blk_drew ?_ | refine blk_alloc ?_ _)); exact BK214.out⟩, ⟨by (with_reducible repeat (first | refine blk_drewN ?_ _ | refine blk_drew ?_ | refine blk_alloc ?_ _)); exact BK215.out⟩, ⟨by (with_reducible repeat (first | refine blk_drewN ?_ _ | refine blk_drew ?_ | refine blk_alloc ?_ _)); exact BK216.out⟩, ⟨by repeat (first | (with_reducible first | exact HB.out | apply below_alloc | apply pw_below_drewN | apply below_drew1 | refine below_set ?_ GE214.out | refine below_set ?_ GE215.out | refine below_set ?_ GE216.out) | exact HB.out)⟩⟩
    ·
     rw [if_neg c30] at H
     have c30b0 : decide (t217 < (-1)) = false := decide_eq_false c30
     clear c30
     by_cases c40 : t217 > 1
     ·
      rw [if_pos c40] at H
      have c40b0 : decide (1 < t217) = true := decide_eq_true c40
      clear c40
      have H' := am H
      clear H
      have hnb41 := NB215_214.out
      have hnc41 := NB214_215.out
      have hnb42 := NB215_216.out
      have hnc42 := NB216_215.out
      have hcz43_0 : w16.cell? ⟨gb215, 0, none⟩ = some (.int .i64 a1_0) := (blk_cell BK215.out 0).trans rfl
      have hcz43_1 : w16.cell? ⟨gb215, 1, none⟩ = some (.int .i64 a1_1) := (blk_cell BK215.out 1).trans rfl
      have hcz43_2 : w16.cell? ⟨gb215, 2, none⟩ = some (.int .i64 a1_2) := (blk_cell BK215.out 2).trans rfl
      have hfz43_0 := blk_frozen BK215.out 0
      have hfz43_1 := blk_frozen BK215.out 1
      have hfz43_2 := blk_frozen BK215.out 2
      have hnb44 := NB214_216.out
      have hnc44 := NB216_214.out
      have hcz45_0 : w16.cell? ⟨gb214, 0, none⟩ = some (.int .i64 a0_0) := (blk_cell BK214.out 0).trans rfl
      have hcz45_1 : w16.cell? ⟨gb214, 1, none⟩ = some (.int .i64 a0_1) := (blk_cell BK214.out 1).trans rfl
      have hcz45_2 : w16.cell? ⟨gb214, 2, none⟩ = some (.int .i64 a0_2) := (blk_cell BK214.out 2).trans rfl
      have hfz45_0 := blk_frozen BK214.out 0
      have hfz45_1 := blk_frozen BK214.out 1
      have hfz45_2 := blk_frozen BK214.out 2
      go_wp2_with (first | ((with_reducible refine gate_callee (f := 10) rfl ?_); refine goesL_ (some 29) rfl rfl Try.func10 (by kernel_rfl) rfl #[.agg #[.int .i64 a1_0, .int .i64 a1_1, .int .i64 a1_2], .agg #[.int .i64 a0_0, .int .i64 a0_1, .int .i64 a0_2]] rfl (by (try simp only [List.map_toArray, List.map_cons, List.map_nil]); first | done | rfl | (simp only [List.length_drop, List.length_take]; rfl)) ?_; (with_reducible refine (hlc_Compare.calls k a1_0 a1_1 a1_2 a0_0 a0_1 a0_2 t220 _ A17.out).mono ?_); rintro e w46 ⟨rfl, hb⟩; refine ⟨_, rfl, ?_⟩; have n0_ := am (blk_below (g := gb214) (o := .cells #[.int .i64 a0_0, .int .i64 a0_1, .int .i64 a0_2] 24 (0, 0)) (by (with_reducible repeat (first | refine blk_drewN ?_ _ | refine blk_drew ?_ | refine blk_alloc ?_ _)); exact BK214.out) hb); have n1_ := am (blk_below (g := gb215) (o := .cells #[.int .i64 a1_0, .int .i64 a1_1, .int .i64 a1_2] 24 (0, 0)) (by (with_reducible repeat (first | refine blk_drewN ?_ _ | refine blk_drew ?_ | refine blk_alloc ?_ _)); exact BK215.out) hb); have n2_ := am (blk_below (g := gb216) (o := .cells #[.int .i64 a2_0, .int .i64 a2_1, .int .i64 a2_2] 24 (0, 0)) (by (with_reducible repeat (first | refine blk_drewN ?_ _ | refine blk_drew ?_ | refine blk_alloc ?_ _)); exact BK216.out) hb); have n3_ := am (below_step (by repeat (first | (with_reducible first | exact HB.out | apply below_alloc | apply pw_below_drewN | apply below_drew1 | refine below_set ?_ GE214.out | refine below_set ?_ GE215.out | refine below_set ?_ GE216.out) | exact HB.out)) hb); clear BK214; clear BK215; clear BK216; clear HB; have BK214 := n0_; have BK215 := n1_; have BK216 := n2_; have HB := n3_; clear n0_ n1_ n2_ n3_; (try clear hb); (try clear hb2); (try clear hk); (try clear hi); have hcz47_0 : w46.cell? ⟨gb214, 0, none⟩ = some (.int .i64 a0_0) := (blk_cell BK214.out 0).trans rfl; have hcz47_1 : w46.cell? ⟨gb214, 1, none⟩ = some (.int .i64 a0_1) := (blk_cell BK214.out 1).trans rfl; have hcz47_2 : w46.cell? ⟨gb214, 2, none⟩ = some (.int .i64 a0_2) := (blk_cell BK214.out 2).trans rfl; have hfz47_0 := blk_frozen BK214.out 0; have hfz47_1 := blk_frozen BK214.out 1; have hfz47_2 := blk_frozen BK214.out 2; have hcz48_0 : w46.cell? ⟨gb215, 0, none⟩ = some (.int .i64 a1_0) := (blk_cell BK215.out 0).trans rfl; have hcz48_1 : w46.cell? ⟨gb215, 1, none⟩ = some (.int .i64 a1_1) := (blk_cell BK215.out 1).trans rfl; have hcz48_2 : w46.cell? ⟨gb215, 2, none⟩ = some (.int .i64 a1_2) := (blk_cell BK215.out 2).trans rfl; have hfz48_0 := blk_frozen BK215.out 0; have hfz48_1 := blk_frozen BK215.out 1; have hfz48_2 := blk_frozen BK215.out 2) | (go_at_call 16; (with_reducible refine (keep_Stamp.calls a0_0 a0_1 a0_2 a1_0 a1_1 a1_2 t221 _ A19.out).mono ?_); rintro e w49 ⟨rfl, hb⟩; have n0_ := am (blk_below (g := gb214) (o := .cells #[.int .i64 a0_0, .int .i64 a0_1, .int .i64 a0_2] 24 (0, 0)) (by (with_reducible repeat (first | refine blk_drewN ?_ _ | refine blk_drew ?_ | refine blk_alloc ?_ _)); exact BK214.out) hb); have n1_ := am (blk_below (g := gb215) (o := .cells #[.int .i64 a1_0, .int .i64 a1_1, .int .i64 a1_2] 24 (0, 0)) (by (with_reducible repeat (first | refine blk_drewN ?_ _ | refine blk_drew ?_ | refine blk_alloc ?_ _)); exact BK215.out) hb); have n2_ := am (blk_below (g := gb216) (o := .cells #[.int .i64 a2_0, .int .i64 a2_1, .int .i64 a2_2] 24 (0, 0)) (by (with_reducible repeat (first | refine blk_drewN ?_ _ | refine blk_drew ?_ | refine blk_alloc ?_ _)); exact BK216.out) hb); have n3_ := am (below_step (by repeat (first | (with_reducible first | exact HB.out | apply below_alloc | apply pw_below_drewN | apply below_drew1 | refine below_set ?_ GE214.out | refine below_set ?_ GE215.out | refine below_set ?_ GE216.out) | exact HB.out)) hb); clear BK214; clear BK215; clear BK216; clear HB; have BK214 := n0_; have BK215 := n1_; have BK216 := n2_; have HB := n3_; clear n0_ n1_ n2_ n3_; (try clear hb); (try clear hb2); (try clear hk); (try clear hi)))
      go_meet
      case rel => exact ⟨_, (true), (by first | rfl | (simp; done) | (simp [*]; done)), H', ⟨by first | omega | exact Nat.le_refl _⟩, ⟨by (with_reducible repeat (first | refine blk_drewN ?_ _ | refine blk_drew ?_ | refine blk_alloc ?_ _)); exact BK214.out⟩, ⟨by (with_reducible repeat (first | refine blk_drewN ?_ _ | refine blk_drew ?_ | refine blk_alloc ?_ _)); exact BK215.out⟩, ⟨by (with_reducible repeat (first | refine blk_drewN ?_ _ | refine blk_drew ?_ | refine blk_alloc ?_ _)); exact BK216.out⟩, ⟨by repeat (first | (with_reducible first | exact HB.out | apply below_alloc | apply pw_below_drewN | apply below_drew1 | refine below_set ?_ GE214.out | refine below_set ?_ GE215.out | refine below_set ?_ GE216.out) | exact HB.out)⟩⟩
     ·
      rw [if_neg c40] at H
      have c40b0 : decide (1 < t217) = false := decide_eq_false c40
      clear c40
      by_cases c50 : t217 > 0
      ·
       rw [if_pos c50] at H
       have c50b0 : decide (0 < t217) = true := decide_eq_true c50
       clear c50
       by_cases c51 : t217 < 0
       ·
        rw [if_pos c51] at H
        have c51b0 : decide (t217 < 0) = true := decide_eq_true c51
        clear c51
        have H' := am H
        clear H
        have hnb52 := NB215_214.out
        have hnc52 := NB214_215.out
        have hnb53 := NB215_216.out
        have hnc53 := NB216_215.out
        have hcz54_0 : w16.cell? ⟨gb215, 0, none⟩ = some (.int .i64 a1_0) := (blk_cell BK215.out 0).trans rfl
        have hcz54_1 : w16.cell? ⟨gb215, 1, none⟩ = some (.int .i64 a1_1) := (blk_cell BK215.out 1).trans rfl
        have hcz54_2 : w16.cell? ⟨gb215, 2, none⟩ = some (.int .i64 a1_2) := (blk_cell BK215.out 2).trans rfl
        have hfz54_0 := blk_frozen BK215.out 0
        have hfz54_1 := blk_frozen BK215.out 1
        have hfz54_2 := blk_frozen BK215.out 2
        have hnb55 := NB214_216.out
        have hnc55 := NB216_214.out
        have hcz56_0 : w16.cell? ⟨gb214, 0, none⟩ = some (.int .i64 a0_0) := (blk_cell BK214.out 0).trans rfl
        have hcz56_1 : w16.cell? ⟨gb214, 1, none⟩ = some (.int .i64 a0_1) := (blk_cell BK214.out 1).trans rfl
        have hcz56_2 : w16.cell? ⟨gb214, 2, none⟩ = some (.int .i64 a0_2) := (blk_cell BK214.out 2).trans rfl
        have hfz56_0 := blk_frozen BK214.out 0
        have hfz56_1 := blk_frozen BK214.out 1
        have hfz56_2 := blk_frozen BK214.out 2
        go_wp2_with (first | ((with_reducible refine gate_callee (f := 10) rfl ?_); refine goesL_ (some 29) rfl rfl Try.func10 (by kernel_rfl) rfl #[.agg #[.int .i64 a1_0, .int .i64 a1_1, .int .i64 a1_2], .agg #[.int .i64 a0_0, .int .i64 a0_1, .int .i64 a0_2]] rfl (by (try simp only [List.map_toArray, List.map_cons, List.map_nil]); first | done | rfl | (simp only [List.length_drop, List.length_take]; rfl)) ?_; (with_reducible refine (hlc_Compare.calls k a1_0 a1_1 a1_2 a0_0 a0_1 a0_2 t220 _ A17.out).mono ?_); rintro e w57 ⟨rfl, hb⟩; refine ⟨_, rfl, ?_⟩; have n0_ := am (blk_below (g := gb214) (o := .cells #[.int .i64 a0_0, .int .i64 a0_1, .int .i64 a0_2] 24 (0, 0)) (by (with_reducible repeat (first | refine blk_drewN ?_ _ | refine blk_drew ?_ | refine blk_alloc ?_ _)); exact BK214.out) hb); have n1_ := am (blk_below (g := gb215) (o := .cells #[.int .i64 a1_0, .int .i64 a1_1, .int .i64 a1_2] 24 (0, 0)) (by (with_reducible repeat (first | refine blk_drewN ?_ _ | refine blk_drew ?_ | refine blk_alloc ?_ _)); exact BK215.out) hb); have n2_ := am (blk_below (g := gb216) (o := .cells #[.int .i64 a2_0, .int .i64 a2_1, .int .i64 a2_2] 24 (0, 0)) (by (with_reducible repeat (first | refine blk_drewN ?_ _ | refine blk_drew ?_ | refine blk_alloc ?_ _)); exact BK216.out) hb); have n3_ := am (below_step (by repeat (first | (with_reducible first | exact HB.out | apply below_alloc | apply pw_below_drewN | apply below_drew1 | refine below_set ?_ GE214.out | refine below_set ?_ GE215.out | refine below_set ?_ GE216.out) | exact HB.out)) hb); clear BK214; clear BK215; clear BK216; clear HB; have BK214 := n0_; have BK215 := n1_; have BK216 := n2_; have HB := n3_; clear n0_ n1_ n2_ n3_; (try clear hb); (try clear hb2); (try clear hk); (try clear hi); have hcz58_0 : w57.cell? ⟨gb214, 0, none⟩ = some (.int .i64 a0_0) := (blk_cell BK214.out 0).trans rfl; have hcz58_1 : w57.cell? ⟨gb214, 1, none⟩ = some (.int .i64 a0_1) := (blk_cell BK214.out 1).trans rfl; have hcz58_2 : w57.cell? ⟨gb214, 2, none⟩ = some (.int .i64 a0_2) := (blk_cell BK214.out 2).trans rfl; have hfz58_0 := blk_frozen BK214.out 0; have hfz58_1 := blk_frozen BK214.out 1; have hfz58_2 := blk_frozen BK214.out 2; have hcz59_0 : w57.cell? ⟨gb215, 0, none⟩ = some (.int .i64 a1_0) := (blk_cell BK215.out 0).trans rfl; have hcz59_1 : w57.cell? ⟨gb215, 1, none⟩ = some (.int .i64 a1_1) := (blk_cell BK215.out 1).trans rfl; have hcz59_2 : w57.cell? ⟨gb215, 2, none⟩ = some (.int .i64 a1_2) := (blk_cell BK215.out 2).trans rfl; have hfz59_0 := blk_frozen BK215.out 0; have hfz59_1 := blk_frozen BK215.out 1; have hfz59_2 := blk_frozen BK215.out 2) | (go_at_call 16; (with_reducible refine (keep_Stamp.calls a0_0 a0_1 a0_2 a1_0 a1_1 a1_2 t221 _ A19.out).mono ?_); rintro e w60 ⟨rfl, hb⟩; have n0_ := am (blk_below (g := gb214) (o := .cells #[.int .i64 a0_0, .int .i64 a0_1, .int .i64 a0_2] 24 (0, 0)) (by (with_reducible repeat (first | refine blk_drewN ?_ _ | refine blk_drew ?_ | refine blk_alloc ?_ _)); exact BK214.out) hb); have n1_ := am (blk_below (g := gb215) (o := .cells #[.int .i64 a1_0, .int .i64 a1_1, .int .i64 a1_2] 24 (0, 0)) (by (with_reducible repeat (first | refine blk_drewN ?_ _ | refine blk_drew ?_ | refine blk_alloc ?_ _)); exact BK215.out) hb); have n2_ := am (blk_below (g := gb216) (o := .cells #[.int .i64 a2_0, .int .i64 a2_1, .int .i64 a2_2] 24 (0, 0)) (by (with_reducible repeat (first | refine blk_drewN ?_ _ | refine blk_drew ?_ | refine blk_alloc ?_ _)); exact BK216.out) hb); have n3_ := am (below_step (by repeat (first | (with_reducible first | exact HB.out | apply below_alloc | apply pw_below_drewN | apply below_drew1 | refine below_set ?_ GE214.out | refine below_set ?_ GE215.out | refine below_set ?_ GE216.out) | exact HB.out)) hb); clear BK214; clear BK215; clear BK216; clear HB; have BK214 := n0_; have BK215 := n1_; have BK216 := n2_; have HB := n3_; clear n0_ n1_ n2_ n3_; (try clear hb); (try clear hb2); (try clear hk); (try clear hi)))
        go_meet
        case rel => exact ⟨_, (!true), (by first | rfl | (simp; done) | (simp [*]; done)), H', ⟨by first | omega | exact Nat.le_refl _⟩, ⟨by (with_reducible repeat (first | refine blk_drewN ?_ _ | refine blk_drew ?_ | refine blk_alloc ?_ _)); exact BK214.out⟩, ⟨by (with_reducible repeat (first | refine blk_drewN ?_ _ | refine blk_drew ?_ | refine blk_alloc ?_ _)); exact BK215.out⟩, ⟨by (with_reducible repeat (first | refine blk_drewN ?_ _ | refine blk_drew ?_ | refine blk_alloc ?_ _)); exact BK216.out⟩, ⟨by repeat (first | (with_reducible first | exact HB.out | apply below_alloc | apply pw_below_drewN | apply below_drew1 | refine below_set ?_ GE214.out | refine below_set ?_ GE215.out | refine below_set ?_ GE216.out) | exact HB.out)⟩⟩
       ·
        rw [if_neg c51] at H
        have c51b0 : decide (t217 < 0) = false := decide_eq_false c51
        clear c51
        by_cases c61 : t218 < 0
        ·
         rw [if_pos c61] at H
         have c61b0 : decide (t218 < 0) = true := decide_eq_true c61
         clear c61
         have H' := am H
         clear H
         have hnb62 := NB215_214.out
         have hnc62 := NB214_215.out
         have hnb63 := NB215_216.out
         have hnc63 := NB216_215.out
         have hcz64_0 : w16.cell? ⟨gb215, 0, none⟩ = some (.int .i64 a1_0) := (blk_cell BK215.out 0).trans rfl
         have hcz64_1 : w16.cell? ⟨gb215, 1, none⟩ = some (.int .i64 a1_1) := (blk_cell BK215.out 1).trans rfl
         have hcz64_2 : w16.cell? ⟨gb215, 2, none⟩ = some (.int .i64 a1_2) := (blk_cell BK215.out 2).trans rfl
         have hfz64_0 := blk_frozen BK215.out 0
         have hfz64_1 := blk_frozen BK215.out 1
         have hfz64_2 := blk_frozen BK215.out 2
         have hnb65 := NB214_216.out
         have hnc65 := NB216_214.out
         have hcz66_0 : w16.cell? ⟨gb214, 0, none⟩ = some (.int .i64 a0_0) := (blk_cell BK214.out 0).trans rfl
         have hcz66_1 : w16.cell? ⟨gb214, 1, none⟩ = some (.int .i64 a0_1) := (blk_cell BK214.out 1).trans rfl
         have hcz66_2 : w16.cell? ⟨gb214, 2, none⟩ = some (.int .i64 a0_2) := (blk_cell BK214.out 2).trans rfl
         have hfz66_0 := blk_frozen BK214.out 0
         have hfz66_1 := blk_frozen BK214.out 1
         have hfz66_2 := blk_frozen BK214.out 2
         go_wp2_with (first | ((with_reducible refine gate_callee (f := 10) rfl ?_); refine goesL_ (some 29) rfl rfl Try.func10 (by kernel_rfl) rfl #[.agg #[.int .i64 a1_0, .int .i64 a1_1, .int .i64 a1_2], .agg #[.int .i64 a0_0, .int .i64 a0_1, .int .i64 a0_2]] rfl (by (try simp only [List.map_toArray, List.map_cons, List.map_nil]); first | done | rfl | (simp only [List.length_drop, List.length_take]; rfl)) ?_; (with_reducible refine (hlc_Compare.calls k a1_0 a1_1 a1_2 a0_0 a0_1 a0_2 t220 _ A17.out).mono ?_); rintro e w67 ⟨rfl, hb⟩; refine ⟨_, rfl, ?_⟩; have n0_ := am (blk_below (g := gb214) (o := .cells #[.int .i64 a0_0, .int .i64 a0_1, .int .i64 a0_2] 24 (0, 0)) (by (with_reducible repeat (first | refine blk_drewN ?_ _ | refine blk_drew ?_ | refine blk_alloc ?_ _)); exact BK214.out) hb); have n1_ := am (blk_below (g := gb215) (o := .cells #[.int .i64 a1_0, .int .i64 a1_1, .int .i64 a1_2] 24 (0, 0)) (by (with_reducible repeat (first | refine blk_drewN ?_ _ | refine blk_drew ?_ | refine blk_alloc ?_ _)); exact BK215.out) hb); have n2_ := am (blk_below (g := gb216) (o := .cells #[.int .i64 a2_0, .int .i64 a2_1, .int .i64 a2_2] 24 (0, 0)) (by (with_reducible repeat (first | refine blk_drewN ?_ _ | refine blk_drew ?_ | refine blk_alloc ?_ _)); exact BK216.out) hb); have n3_ := am (below_step (by repeat (first | (with_reducible first | exact HB.out | apply below_alloc | apply pw_below_drewN | apply below_drew1 | refine below_set ?_ GE214.out | refine below_set ?_ GE215.out | refine below_set ?_ GE216.out) | exact HB.out)) hb); clear BK214; clear BK215; clear BK216; clear HB; have BK214 := n0_; have BK215 := n1_; have BK216 := n2_; have HB := n3_; clear n0_ n1_ n2_ n3_; (try clear hb); (try clear hb2); (try clear hk); (try clear hi); have hcz68_0 : w67.cell? ⟨gb214, 0, none⟩ = some (.int .i64 a0_0) := (blk_cell BK214.out 0).trans rfl; have hcz68_1 : w67.cell? ⟨gb214, 1, none⟩ = some (.int .i64 a0_1) := (blk_cell BK214.out 1).trans rfl; have hcz68_2 : w67.cell? ⟨gb214, 2, none⟩ = some (.int .i64 a0_2) := (blk_cell BK214.out 2).trans rfl; have hfz68_0 := blk_frozen BK214.out 0; have hfz68_1 := blk_frozen BK214.out 1; have hfz68_2 := blk_frozen BK214.out 2; have hcz69_0 : w67.cell? ⟨gb215, 0, none⟩ = some (.int .i64 a1_0) := (blk_cell BK215.out 0).trans rfl; have hcz69_1 : w67.cell? ⟨gb215, 1, none⟩ = some (.int .i64 a1_1) := (blk_cell BK215.out 1).trans rfl; have hcz69_2 : w67.cell? ⟨gb215, 2, none⟩ = some (.int .i64 a1_2) := (blk_cell BK215.out 2).trans rfl; have hfz69_0 := blk_frozen BK215.out 0; have hfz69_1 := blk_frozen BK215.out 1; have hfz69_2 := blk_frozen BK215.out 2) | (go_at_call 16; (with_reducible refine (keep_Stamp.calls a0_0 a0_1 a0_2 a1_0 a1_1 a1_2 t221 _ A19.out).mono ?_); rintro e w70 ⟨rfl, hb⟩; have n0_ := am (blk_below (g := gb214) (o := .cells #[.int .i64 a0_0, .int .i64 a0_1, .int .i64 a0_2] 24 (0, 0)) (by (with_reducible repeat (first | refine blk_drewN ?_ _ | refine blk_drew ?_ | refine blk_alloc ?_ _)); exact BK214.out) hb); have n1_ := am (blk_below (g := gb215) (o := .cells #[.int .i64 a1_0, .int .i64 a1_1, .int .i64 a1_2] 24 (0, 0)) (by (with_reducible repeat (first | refine blk_drewN ?_ _ | refine blk_drew ?_ | refine blk_alloc ?_ _)); exact BK215.out) hb); have n2_ := am (blk_below (g := gb216) (o := .cells #[.int .i64 a2_0, .int .i64 a2_1, .int .i64 a2_2] 24 (0, 0)) (by (with_reducible repeat (first | refine blk_drewN ?_ _ | refine blk_drew ?_ | refine blk_alloc ?_ _)); exact BK216.out) hb); have n3_ := am (below_step (by repeat (first | (with_reducible first | exact HB.out | apply below_alloc | apply pw_below_drewN | apply below_drew1 | refine below_set ?_ GE214.out | refine below_set ?_ GE215.out | refine below_set ?_ GE216.out) | exact HB.out)) hb); clear BK214; clear BK215; clear BK216; clear HB; have BK214 := n0_; have BK215 := n1_; have BK216 := n2_; have HB := n3_; clear n0_ n1_ n2_ n3_; (try clear hb); (try clear hb2); (try clear hk); (try clear hi)))
         go_meet
         case rel => exact ⟨_, (!true), (by first | rfl | (simp; done) | (simp [*]; done)), H', ⟨by first | omega | exact Nat.le_refl _⟩, ⟨by (with_reducible repeat (first | refine blk_drewN ?_ _ | refine blk_drew ?_ | refine blk_alloc ?_ _)); exact BK214.out⟩, ⟨by (with_reducible repeat (first | refine blk_drewN ?_ _ | refine blk_drew ?_ | refine blk_alloc ?_ _)); exact BK215.out⟩, ⟨by (with_reducible repeat (first | refine blk_drewN ?_ _ | refine blk_drew ?_ | refine blk_alloc ?_ _)); exact BK216.out⟩, ⟨by repeat (first | (with_reducible first | exact HB.out | apply below_alloc | apply pw_below_drewN | apply below_drew1 | refine below_set ?_ GE214.out | refine below_set ?_ GE215.out | refine below_set ?_ GE216.out) | exact HB.out)⟩⟩
        ·
         rw [if_neg c61] at H
         have c61b0 : decide (t218 < 0) = false := decide_eq_false c61
         clear c61
         have H' := am H
         clear H
         have hnb71 := NB215_214.out
         have hnc71 := NB214_215.out
         have hnb72 := NB215_216.out
         have hnc72 := NB216_215.out
         have hcz73_0 : w16.cell? ⟨gb215, 0, none⟩ = some (.int .i64 a1_0) := (blk_cell BK215.out 0).trans rfl
         have hcz73_1 : w16.cell? ⟨gb215, 1, none⟩ = some (.int .i64 a1_1) := (blk_cell BK215.out 1).trans rfl
         have hcz73_2 : w16.cell? ⟨gb215, 2, none⟩ = some (.int .i64 a1_2) := (blk_cell BK215.out 2).trans rfl
         have hfz73_0 := blk_frozen BK215.out 0
         have hfz73_1 := blk_frozen BK215.out 1
         have hfz73_2 := blk_frozen BK215.out 2
         have hnb74 := NB214_216.out
         have hnc74 := NB216_214.out
         have hcz75_0 : w16.cell? ⟨gb214, 0, none⟩ = some (.int .i64 a0_0) := (blk_cell BK214.out 0).trans rfl
         have hcz75_1 : w16.cell? ⟨gb214, 1, none⟩ = some (.int .i64 a0_1) := (blk_cell BK214.out 1).trans rfl
         have hcz75_2 : w16.cell? ⟨gb214, 2, none⟩ = some (.int .i64 a0_2) := (blk_cell BK214.out 2).trans rfl
         have hfz75_0 := blk_frozen BK214.out 0
         have hfz75_1 := blk_frozen BK214.out 1
         have hfz75_2 := blk_frozen BK214.out 2
         go_wp2_with (first | ((with_reducible refine gate_callee (f := 10) rfl ?_); refine goesL_ (some 29) rfl rfl Try.func10 (by kernel_rfl) rfl #[.agg #[.int .i64 a1_0, .int .i64 a1_1, .int .i64 a1_2], .agg #[.int .i64 a0_0, .int .i64 a0_1, .int .i64 a0_2]] rfl (by (try simp only [List.map_toArray, List.map_cons, List.map_nil]); first | done | rfl | (simp only [List.length_drop, List.length_take]; rfl)) ?_; (with_reducible refine (hlc_Compare.calls k a1_0 a1_1 a1_2 a0_0 a0_1 a0_2 t220 _ A17.out).mono ?_); rintro e w76 ⟨rfl, hb⟩; refine ⟨_, rfl, ?_⟩; have n0_ := am (blk_below (g := gb214) (o := .cells #[.int .i64 a0_0, .int .i64 a0_1, .int .i64 a0_2] 24 (0, 0)) (by (with_reducible repeat (first | refine blk_drewN ?_ _ | refine blk_drew ?_ | refine blk_alloc ?_ _)); exact BK214.out) hb); have n1_ := am (blk_below (g := gb215) (o := .cells #[.int .i64 a1_0, .int .i64 a1_1, .int .i64 a1_2] 24 (0, 0)) (by (with_reducible repeat (first | refine blk_drewN ?_ _ | refine blk_drew ?_ | refine blk_alloc ?_ _)); exact BK215.out) hb); have n2_ := am (blk_below (g := gb216) (o := .cells #[.int .i64 a2_0, .int .i64 a2_1, .int .i64 a2_2] 24 (0, 0)) (by (with_reducible repeat (first | refine blk_drewN ?_ _ | refine blk_drew ?_ | refine blk_alloc ?_ _)); exact BK216.out) hb); have n3_ := am (below_step (by repeat (first | (with_reducible first | exact HB.out | apply below_alloc | apply pw_below_drewN | apply below_drew1 | refine below_set ?_ GE214.out | refine below_set ?_ GE215.out | refine below_set ?_ GE216.out) | exact HB.out)) hb); clear BK214; clear BK215; clear BK216; clear HB; have BK214 := n0_; have BK215 := n1_; have BK216 := n2_; have HB := n3_; clear n0_ n1_ n2_ n3_; (try clear hb); (try clear hb2); (try clear hk); (try clear hi); have hcz77_0 : w76.cell? ⟨gb214, 0, none⟩ = some (.int .i64 a0_0) := (blk_cell BK214.out 0).trans rfl; have hcz77_1 : w76.cell? ⟨gb214, 1, none⟩ = some (.int .i64 a0_1) := (blk_cell BK214.out 1).trans rfl; have hcz77_2 : w76.cell? ⟨gb214, 2, none⟩ = some (.int .i64 a0_2) := (blk_cell BK214.out 2).trans rfl; have hfz77_0 := blk_frozen BK214.out 0; have hfz77_1 := blk_frozen BK214.out 1; have hfz77_2 := blk_frozen BK214.out 2; have hcz78_0 : w76.cell? ⟨gb215, 0, none⟩ = some (.int .i64 a1_0) := (blk_cell BK215.out 0).trans rfl; have hcz78_1 : w76.cell? ⟨gb215, 1, none⟩ = some (.int .i64 a1_1) := (blk_cell BK215.out 1).trans rfl; have hcz78_2 : w76.cell? ⟨gb215, 2, none⟩ = some (.int .i64 a1_2) := (blk_cell BK215.out 2).trans rfl; have hfz78_0 := blk_frozen BK215.out 0; have hfz78_1 := blk_frozen BK215.out 1; have hfz78_2 := blk_frozen BK215.out 2) | (go_at_call 16; (with_reducible refine (keep_Stamp.calls a0_0 a0_1 a0_2 a1_0 a1_1 a1_2 t221 _ A19.out).mono ?_); rintro e w79 ⟨rfl, hb⟩; have n0_ := am (blk_below (g := gb214) (o := .cells #[.int .i64 a0_0, .int .i64 a0_1, .int .i64 a0_2] 24 (0, 0)) (by (with_reducible repeat (first | refine blk_drewN ?_ _ | refine blk_drew ?_ | refine blk_alloc ?_ _)); exact BK214.out) hb); have n1_ := am (blk_below (g := gb215) (o := .cells #[.int .i64 a1_0, .int .i64 a1_1, .int .i64 a1_2] 24 (0, 0)) (by (with_reducible repeat (first | refine blk_drewN ?_ _ | refine blk_drew ?_ | refine blk_alloc ?_ _)); exact BK215.out) hb); have n2_ := am (blk_below (g := gb216) (o := .cells #[.int .i64 a2_0, .int .i64 a2_1, .int .i64 a2_2] 24 (0, 0)) (by (with_reducible repeat (first | refine blk_drewN ?_ _ | refine blk_drew ?_ | refine blk_alloc ?_ _)); exact BK216.out) hb); have n3_ := am (below_step (by repeat (first | (with_reducible first | exact HB.out | apply below_alloc | apply pw_below_drewN | apply below_drew1 | refine below_set ?_ GE214.out | refine below_set ?_ GE215.out | refine below_set ?_ GE216.out) | exact HB.out)) hb); clear BK214; clear BK215; clear BK216; clear HB; have BK214 := n0_; have BK215 := n1_; have BK216 := n2_; have HB := n3_; clear n0_ n1_ n2_ n3_; (try clear hb); (try clear hb2); (try clear hk); (try clear hi)))
         go_meet
         case rel => exact ⟨_, (!(decide (t219 ≥ 0))), (by first | rfl | (simp; done) | (simp [*]; done)), H', ⟨by first | omega | exact Nat.le_refl _⟩, ⟨by (with_reducible repeat (first | refine blk_drewN ?_ _ | refine blk_drew ?_ | refine blk_alloc ?_ _)); exact BK214.out⟩, ⟨by (with_reducible repeat (first | refine blk_drewN ?_ _ | refine blk_drew ?_ | refine blk_alloc ?_ _)); exact BK215.out⟩, ⟨by (with_reducible repeat (first | refine blk_drewN ?_ _ | refine blk_drew ?_ | refine blk_alloc ?_ _)); exact BK216.out⟩, ⟨by repeat (first | (with_reducible first | exact HB.out | apply below_alloc | apply pw_below_drewN | apply below_drew1 | refine below_set ?_ GE214.out | refine below_set ?_ GE215.out | refine below_set ?_ GE216.out) | exact HB.out)⟩⟩
      ·
       rw [if_neg c50] at H
       have c50b0 : decide (0 < t217) = false := decide_eq_false c50
       clear c50
       by_cases c80 : t218 > 0
       ·
        rw [if_pos c80] at H
        have c80b0 : decide (0 < t218) = true := decide_eq_true c80
        clear c80
        by_cases c81 : t217 < 0
        ·
         rw [if_pos c81] at H
         have c81b0 : decide (t217 < 0) = true := decide_eq_true c81
         clear c81
         have H' := am H
         clear H
         have hnb82 := NB215_214.out
         have hnc82 := NB214_215.out
         have hnb83 := NB215_216.out
         have hnc83 := NB216_215.out
         have hcz84_0 : w16.cell? ⟨gb215, 0, none⟩ = some (.int .i64 a1_0) := (blk_cell BK215.out 0).trans rfl
         have hcz84_1 : w16.cell? ⟨gb215, 1, none⟩ = some (.int .i64 a1_1) := (blk_cell BK215.out 1).trans rfl
         have hcz84_2 : w16.cell? ⟨gb215, 2, none⟩ = some (.int .i64 a1_2) := (blk_cell BK215.out 2).trans rfl
         have hfz84_0 := blk_frozen BK215.out 0
         have hfz84_1 := blk_frozen BK215.out 1
         have hfz84_2 := blk_frozen BK215.out 2
         have hnb85 := NB214_216.out
         have hnc85 := NB216_214.out
         have hcz86_0 : w16.cell? ⟨gb214, 0, none⟩ = some (.int .i64 a0_0) := (blk_cell BK214.out 0).trans rfl
         have hcz86_1 : w16.cell? ⟨gb214, 1, none⟩ = some (.int .i64 a0_1) := (blk_cell BK214.out 1).trans rfl
         have hcz86_2 : w16.cell? ⟨gb214, 2, none⟩ = some (.int .i64 a0_2) := (blk_cell BK214.out 2).trans rfl
         have hfz86_0 := blk_frozen BK214.out 0
         have hfz86_1 := blk_frozen BK214.out 1
         have hfz86_2 := blk_frozen BK214.out 2
         go_wp2_with (first | ((with_reducible refine gate_callee (f := 10) rfl ?_); refine goesL_ (some 29) rfl rfl Try.func10 (by kernel_rfl) rfl #[.agg #[.int .i64 a1_0, .int .i64 a1_1, .int .i64 a1_2], .agg #[.int .i64 a0_0, .int .i64 a0_1, .int .i64 a0_2]] rfl (by (try simp only [List.map_toArray, List.map_cons, List.map_nil]); first | done | rfl | (simp only [List.length_drop, List.length_take]; rfl)) ?_; (with_reducible refine (hlc_Compare.calls k a1_0 a1_1 a1_2 a0_0 a0_1 a0_2 t220 _ A17.out).mono ?_); rintro e w87 ⟨rfl, hb⟩; refine ⟨_, rfl, ?_⟩; have n0_ := am (blk_below (g := gb214) (o := .cells #[.int .i64 a0_0, .int .i64 a0_1, .int .i64 a0_2] 24 (0, 0)) (by (with_reducible repeat (first | refine blk_drewN ?_ _ | refine blk_drew ?_ | refine blk_alloc ?_ _)); exact BK214.out) hb); have n1_ := am (blk_below (g := gb215) (o := .cells #[.int .i64 a1_0, .int .i64 a1_1, .int .i64 a1_2] 24 (0, 0)) (by (with_reducible repeat (first | refine blk_drewN ?_ _ | refine blk_drew ?_ | refine blk_alloc ?_ _)); exact BK215.out) hb); have n2_ := am (blk_below (g := gb216) (o := .cells #[.int .i64 a2_0, .int .i64 a2_1, .int .i64 a2_2] 24 (0, 0)) (by (with_reducible repeat (first | refine blk_drewN ?_ _ | refine blk_drew ?_ | refine blk_alloc ?_ _)); exact BK216.out) hb); have n3_ := am (below_step (by repeat (first | (with_reducible first | exact HB.out | apply below_alloc | apply pw_below_drewN | apply below_drew1 | refine below_set ?_ GE214.out | refine below_set ?_ GE215.out | refine below_set ?_ GE216.out) | exact HB.out)) hb); clear BK214; clear BK215; clear BK216; clear HB; have BK214 := n0_; have BK215 := n1_; have BK216 := n2_; have HB := n3_; clear n0_ n1_ n2_ n3_; (try clear hb); (try clear hb2); (try clear hk); (try clear hi); have hcz88_0 : w87.cell? ⟨gb214, 0, none⟩ = some (.int .i64 a0_0) := (blk_cell BK214.out 0).trans rfl; have hcz88_1 : w87.cell? ⟨gb214, 1, none⟩ = some (.int .i64 a0_1) := (blk_cell BK214.out 1).trans rfl; have hcz88_2 : w87.cell? ⟨gb214, 2, none⟩ = some (.int .i64 a0_2) := (blk_cell BK214.out 2).trans rfl; have hfz88_0 := blk_frozen BK214.out 0; have hfz88_1 := blk_frozen BK214.out 1; have hfz88_2 := blk_frozen BK214.out 2; have hcz89_0 : w87.cell? ⟨gb215, 0, none⟩ = some (.int .i64 a1_0) := (blk_cell BK215.out 0).trans rfl; have hcz89_1 : w87.cell? ⟨gb215, 1, none⟩ = some (.int .i64 a1_1) := (blk_cell BK215.out 1).trans rfl; have hcz89_2 : w87.cell? ⟨gb215, 2, none⟩ = some (.int .i64 a1_2) := (blk_cell BK215.out 2).trans rfl; have hfz89_0 := blk_frozen BK215.out 0; have hfz89_1 := blk_frozen BK215.out 1; have hfz89_2 := blk_frozen BK215.out 2) | (go_at_call 16; (with_reducible refine (keep_Stamp.calls a0_0 a0_1 a0_2 a1_0 a1_1 a1_2 t221 _ A19.out).mono ?_); rintro e w90 ⟨rfl, hb⟩; have n0_ := am (blk_below (g := gb214) (o := .cells #[.int .i64 a0_0, .int .i64 a0_1, .int .i64 a0_2] 24 (0, 0)) (by (with_reducible repeat (first | refine blk_drewN ?_ _ | refine blk_drew ?_ | refine blk_alloc ?_ _)); exact BK214.out) hb); have n1_ := am (blk_below (g := gb215) (o := .cells #[.int .i64 a1_0, .int .i64 a1_1, .int .i64 a1_2] 24 (0, 0)) (by (with_reducible repeat (first | refine blk_drewN ?_ _ | refine blk_drew ?_ | refine blk_alloc ?_ _)); exact BK215.out) hb); have n2_ := am (blk_below (g := gb216) (o := .cells #[.int .i64 a2_0, .int .i64 a2_1, .int .i64 a2_2] 24 (0, 0)) (by (with_reducible repeat (first | refine blk_drewN ?_ _ | refine blk_drew ?_ | refine blk_alloc ?_ _)); exact BK216.out) hb); have n3_ := am (below_step (by repeat (first | (with_reducible first | exact HB.out | apply below_alloc | apply pw_below_drewN | apply below_drew1 | refine below_set ?_ GE214.out | refine below_set ?_ GE215.out | refine below_set ?_ GE216.out) | exact HB.out)) hb); clear BK214; clear BK215; clear BK216; clear HB; have BK214 := n0_; have BK215 := n1_; have BK216 := n2_; have HB := n3_; clear n0_ n1_ n2_ n3_; (try clear hb); (try clear hb2); (try clear hk); (try clear hi)))
         go_meet
         case rel => exact ⟨_, (!true), (by first | rfl | (simp; done) | (simp [*]; done)), H', ⟨by first | omega | exact Nat.le_refl _⟩, ⟨by (with_reducible repeat (first | refine blk_drewN ?_ _ | refine blk_drew ?_ | refine blk_alloc ?_ _)); exact BK214.out⟩, ⟨by (with_reducible repeat (first | refine blk_drewN ?_ _ | refine blk_drew ?_ | refine blk_alloc ?_ _)); exact BK215.out⟩, ⟨by (with_reducible repeat (first | refine blk_drewN ?_ _ | refine blk_drew ?_ | refine blk_alloc ?_ _)); exact BK216.out⟩, ⟨by repeat (first | (with_reducible first | exact HB.out | apply below_alloc | apply pw_below_drewN | apply below_drew1 | refine below_set ?_ GE214.out | refine below_set ?_ GE215.out | refine below_set ?_ GE216.out) | exact HB.out)⟩⟩
        ·
         rw [if_neg c81] at H
         have c81b0 : decide (t217 < 0) = false := decide_eq_false c81
         clear c81
         by_cases c91 : t218 < 0
         ·
          rw [if_pos c91] at H
          have c91b0 : decide (t218 < 0) = true := decide_eq_true c91
          clear c91
          have H' := am H
          clear H
          have hnb92 := NB215_214.out
          have hnc92 := NB214_215.out
          have hnb93 := NB215_216.out
          have hnc93 := NB216_215.out
          have hcz94_0 : w16.cell? ⟨gb215, 0, none⟩ = some (.int .i64 a1_0) := (blk_cell BK215.out 0).trans rfl
          have hcz94_1 : w16.cell? ⟨gb215, 1, none⟩ = some (.int .i64 a1_1) := (blk_cell BK215.out 1).trans rfl
          have hcz94_2 : w16.cell? ⟨gb215, 2, none⟩ = some (.int .i64 a1_2) := (blk_cell BK215.out 2).trans rfl
          have hfz94_0 := blk_frozen BK215.out 0
          have hfz94_1 := blk_frozen BK215.out 1
          have hfz94_2 := blk_frozen BK215.out 2
          have hnb95 := NB214_216.out
          have hnc95 := NB216_214.out
          have hcz96_0 : w16.cell? ⟨gb214, 0, none⟩ = some (.int .i64 a0_0) := (blk_cell BK214.out 0).trans rfl
          have hcz96_1 : w16.cell? ⟨gb214, 1, none⟩ = some (.int .i64 a0_1) := (blk_cell BK214.out 1).trans rfl
          have hcz96_2 : w16.cell? ⟨gb214, 2, none⟩ = some (.int .i64 a0_2) := (blk_cell BK214.out 2).trans rfl
          have hfz96_0 := blk_frozen BK214.out 0
          have hfz96_1 := blk_frozen BK214.out 1
          have hfz96_2 := blk_frozen BK214.out 2
          go_wp2_with (first | ((with_reducible refine gate_callee (f := 10) rfl ?_); refine goesL_ (some 29) rfl rfl Try.func10 (by kernel_rfl) rfl #[.agg #[.int .i64 a1_0, .int .i64 a1_1, .int .i64 a1_2], .agg #[.int .i64 a0_0, .int .i64 a0_1, .int .i64 a0_2]] rfl (by (try simp only [List.map_toArray, List.map_cons, List.map_nil]); first | done | rfl | (simp only [List.length_drop, List.length_take]; rfl)) ?_; (with_reducible refine (hlc_Compare.calls k a1_0 a1_1 a1_2 a0_0 a0_1 a0_2 t220 _ A17.out).mono ?_); rintro e w97 ⟨rfl, hb⟩; refine ⟨_, rfl, ?_⟩; have n0_ := am (blk_below (g := gb214) (o := .cells #[.int .i64 a0_0, .int .i64 a0_1, .int .i64 a0_2] 24 (0, 0)) (by (with_reducible repeat (first | refine blk_drewN ?_ _ | refine blk_drew ?_ | refine blk_alloc ?_ _)); exact BK214.out) hb); have n1_ := am (blk_below (g := gb215) (o := .cells #[.int .i64 a1_0, .int .i64 a1_1, .int .i64 a1_2] 24 (0, 0)) (by (with_reducible repeat (first | refine blk_drewN ?_ _ | refine blk_drew ?_ | refine blk_alloc ?_ _)); exact BK215.out) hb); have n2_ := am (blk_below (g := gb216) (o := .cells #[.int .i64 a2_0, .int .i64 a2_1, .int .i64 a2_2] 24 (0, 0)) (by (with_reducible repeat (first | refine blk_drewN ?_ _ | refine blk_drew ?_ | refine blk_alloc ?_ _)); exact BK216.out) hb); have n3_ := am (below_step (by repeat (first | (with_reducible first | exact HB.out | apply below_alloc | apply pw_below_drewN | apply below_drew1 | refine below_set ?_ GE214.out | refine below_set ?_ GE215.out | refine below_set ?_ GE216.out) | exact HB.out)) hb); clear BK214; clear BK215; clear BK216; clear HB; have BK214 := n0_; have BK215 := n1_; have BK216 := n2_; have HB := n3_; clear n0_ n1_ n2_ n3_; (try clear hb); (try clear hb2); (try clear hk); (try clear hi); have hcz98_0 : w97.cell? ⟨gb214, 0, none⟩ = some (.int .i64 a0_0) := (blk_cell BK214.out 0).trans rfl; have hcz98_1 : w97.cell? ⟨gb214, 1, none⟩ = some (.int .i64 a0_1) := (blk_cell BK214.out 1).trans rfl; have hcz98_2 : w97.cell? ⟨gb214, 2, none⟩ = some (.int .i64 a0_2) := (blk_cell BK214.out 2).trans rfl; have hfz98_0 := blk_frozen BK214.out 0; have hfz98_1 := blk_frozen BK214.out 1; have hfz98_2 := blk_frozen BK214.out 2; have hcz99_0 : w97.cell? ⟨gb215, 0, none⟩ = some (.int .i64 a1_0) := (blk_cell BK215.out 0).trans rfl; have hcz99_1 : w97.cell? ⟨gb215, 1, none⟩ = some (.int .i64 a1_1) := (blk_cell BK215.out 1).trans rfl; have hcz99_2 : w97.cell? ⟨gb215, 2, none⟩ = some (.int .i64 a1_2) := (blk_cell BK215.out 2).trans rfl; have hfz99_0 := blk_frozen BK215.out 0; have hfz99_1 := blk_frozen BK215.out 1; have hfz99_2 := blk_frozen BK215.out 2) | (go_at_call 16; (with_reducible refine (keep_Stamp.calls a0_0 a0_1 a0_2 a1_0 a1_1 a1_2 t221 _ A19.out).mono ?_); rintro e w100 ⟨rfl, hb⟩; have n0_ := am (blk_below (g := gb214) (o := .cells #[.int .i64 a0_0, .int .i64 a0_1, .int .i64 a0_2] 24 (0, 0)) (by (with_reducible repeat (first | refine blk_drewN ?_ _ | refine blk_drew ?_ | refine blk_alloc ?_ _)); exact BK214.out) hb); have n1_ := am (blk_below (g := gb215) (o := .cells #[.int .i64 a1_0, .int .i64 a1_1, .int .i64 a1_2] 24 (0, 0)) (by (with_reducible repeat (first | refine blk_drewN ?_ _ | refine blk_drew ?_ | refine blk_alloc ?_ _)); exact BK215.out) hb); have n2_ := am (blk_below (g := gb216) (o := .cells #[.int .i64 a2_0, .int .i64 a2_1, .int .i64 a2_2] 24 (0, 0)) (by (with_reducible repeat (first | refine blk_drewN ?_ _ | refine blk_drew ?_ | refine blk_alloc ?_ _)); exact BK216.out) hb); have n3_ := am (below_step (by repeat (first | (with_reducible first | exact HB.out | apply below_alloc | apply pw_below_drewN | apply below_drew1 | refine below_set ?_ GE214.out | refine below_set ?_ GE215.out | refine below_set ?_ GE216.out) | exact HB.out)) hb); clear BK214; clear BK215; clear BK216; clear HB; have BK214 := n0_; have BK215 := n1_; have BK216 := n2_; have HB := n3_; clear n0_ n1_ n2_ n3_; (try clear hb); (try clear hb2); (try clear hk); (try clear hi)))
          go_meet
          case rel => exact ⟨_, (!true), (by first | rfl | (simp; done) | (simp [*]; done)), H', ⟨by first | omega | exact Nat.le_refl _⟩, ⟨by (with_reducible repeat (first | refine blk_drewN ?_ _ | refine blk_drew ?_ | refine blk_alloc ?_ _)); exact BK214.out⟩, ⟨by (with_reducible repeat (first | refine blk_drewN ?_ _ | refine blk_drew ?_ | refine blk_alloc ?_ _)); exact BK215.out⟩, ⟨by (with_reducible repeat (first | refine blk_drewN ?_ _ | refine blk_drew ?_ | refine blk_alloc ?_ _)); exact BK216.out⟩, ⟨by repeat (first | (with_reducible first | exact HB.out | apply below_alloc | apply pw_below_drewN | apply below_drew1 | refine below_set ?_ GE214.out | refine below_set ?_ GE215.out | refine below_set ?_ GE216.out) | exact HB.out)⟩⟩
         ·
          rw [if_neg c91] at H
          have c91b0 : decide (t218 < 0) = false := decide_eq_false c91
          clear c91
          have H' := am H
          clear H
          have hnb101 := NB215_214.out
          have hnc101 := NB214_215.out
          have hnb102 := NB215_216.out
          have hnc102 := NB216_215.out
          have hcz103_0 : w16.cell? ⟨gb215, 0, none⟩ = some (.int .i64 a1_0) := (blk_cell BK215.out 0).trans rfl
          have hcz103_1 : w16.cell? ⟨gb215, 1, none⟩ = some (.int .i64 a1_1) := (blk_cell BK215.out 1).trans rfl
          have hcz103_2 : w16.cell? ⟨gb215, 2, none⟩ = some (.int .i64 a1_2) := (blk_cell BK215.out 2).trans rfl
          have hfz103_0 := blk_frozen BK215.out 0
          have hfz103_1 := blk_frozen BK215.out 1
          have hfz103_2 := blk_frozen BK215.out 2
          have hnb104 := NB214_216.out
          have hnc104 := NB216_214.out
          have hcz105_0 : w16.cell? ⟨gb214, 0, none⟩ = some (.int .i64 a0_0) := (blk_cell BK214.out 0).trans rfl
          have hcz105_1 : w16.cell? ⟨gb214, 1, none⟩ = some (.int .i64 a0_1) := (blk_cell BK214.out 1).trans rfl
          have hcz105_2 : w16.cell? ⟨gb214, 2, none⟩ = some (.int .i64 a0_2) := (blk_cell BK214.out 2).trans rfl
          have hfz105_0 := blk_frozen BK214.out 0
          have hfz105_1 := blk_frozen BK214.out 1
          have hfz105_2 := blk_frozen BK214.out 2
          go_wp2_with (first | ((with_reducible refine gate_callee (f := 10) rfl ?_); refine goesL_ (some 29) rfl rfl Try.func10 (by kernel_rfl) rfl #[.agg #[.int .i64 a1_0, .int .i64 a1_1, .int .i64 a1_2], .agg #[.int .i64 a0_0, .int .i64 a0_1, .int .i64 a0_2]] rfl (by (try simp only [List.map_toArray, List.map_cons, List.map_nil]); first | done | rfl | (simp only [List.length_drop, List.length_take]; rfl)) ?_; (with_reducible refine (hlc_Compare.calls k a1_0 a1_1 a1_2 a0_0 a0_1 a0_2 t220 _ A17.out).mono ?_); rintro e w106 ⟨rfl, hb⟩; refine ⟨_, rfl, ?_⟩; have n0_ := am (blk_below (g := gb214) (o := .cells #[.int .i64 a0_0, .int .i64 a0_1, .int .i64 a0_2] 24 (0, 0)) (by (with_reducible repeat (first | refine blk_drewN ?_ _ | refine blk_drew ?_ | refine blk_alloc ?_ _)); exact BK214.out) hb); have n1_ := am (blk_below (g := gb215) (o := .cells #[.int .i64 a1_0, .int .i64 a1_1, .int .i64 a1_2] 24 (0, 0)) (by (with_reducible repeat (first | refine blk_drewN ?_ _ | refine blk_drew ?_ | refine blk_alloc ?_ _)); exact BK215.out) hb); have n2_ := am (blk_below (g := gb216) (o := .cells #[.int .i64 a2_0, .int .i64 a2_1, .int .i64 a2_2] 24 (0, 0)) (by (with_reducible repeat (first | refine blk_drewN ?_ _ | refine blk_drew ?_ | refine blk_alloc ?_ _)); exact BK216.out) hb); have n3_ := am (below_step (by repeat (first | (with_reducible first | exact HB.out | apply below_alloc | apply pw_below_drewN | apply below_drew1 | refine below_set ?_ GE214.out | refine below_set ?_ GE215.out | refine below_set ?_ GE216.out) | exact HB.out)) hb); clear BK214; clear BK215; clear BK216; clear HB; have BK214 := n0_; have BK215 := n1_; have BK216 := n2_; have HB := n3_; clear n0_ n1_ n2_ n3_; (try clear hb); (try clear hb2); (try clear hk); (try clear hi); have hcz107_0 : w106.cell? ⟨gb214, 0, none⟩ = some (.int .i64 a0_0) := (blk_cell BK214.out 0).trans rfl; have hcz107_1 : w106.cell? ⟨gb214, 1, none⟩ = some (.int .i64 a0_1) := (blk_cell BK214.out 1).trans rfl; have hcz107_2 : w106.cell? ⟨gb214, 2, none⟩ = some (.int .i64 a0_2) := (blk_cell BK214.out 2).trans rfl; have hfz107_0 := blk_frozen BK214.out 0; have hfz107_1 := blk_frozen BK214.out 1; have hfz107_2 := blk_frozen BK214.out 2; have hcz108_0 : w106.cell? ⟨gb215, 0, none⟩ = some (.int .i64 a1_0) := (blk_cell BK215.out 0).trans rfl; have hcz108_1 : w106.cell? ⟨gb215, 1, none⟩ = some (.int .i64 a1_1) := (blk_cell BK215.out 1).trans rfl; have hcz108_2 : w106.cell? ⟨gb215, 2, none⟩ = some (.int .i64 a1_2) := (blk_cell BK215.out 2).trans rfl; have hfz108_0 := blk_frozen BK215.out 0; have hfz108_1 := blk_frozen BK215.out 1; have hfz108_2 := blk_frozen BK215.out 2) | (go_at_call 16; (with_reducible refine (keep_Stamp.calls a0_0 a0_1 a0_2 a1_0 a1_1 a1_2 t221 _ A19.out).mono ?_); rintro e w109 ⟨rfl, hb⟩; have n0_ := am (blk_below (g := gb214) (o := .cells #[.int .i64 a0_0, .int .i64 a0_1, .int .i64 a0_2] 24 (0, 0)) (by (with_reducible repeat (first | refine blk_drewN ?_ _ | refine blk_drew ?_ | refine blk_alloc ?_ _)); exact BK214.out) hb); have n1_ := am (blk_below (g := gb215) (o := .cells #[.int .i64 a1_0, .int .i64 a1_1, .int .i64 a1_2] 24 (0, 0)) (by (with_reducible repeat (first | refine blk_drewN ?_ _ | refine blk_drew ?_ | refine blk_alloc ?_ _)); exact BK215.out) hb); have n2_ := am (blk_below (g := gb216) (o := .cells #[.int .i64 a2_0, .int .i64 a2_1, .int .i64 a2_2] 24 (0, 0)) (by (with_reducible repeat (first | refine blk_drewN ?_ _ | refine blk_drew ?_ | refine blk_alloc ?_ _)); exact BK216.out) hb); have n3_ := am (below_step (by repeat (first | (with_reducible first | exact HB.out | apply below_alloc | apply pw_below_drewN | apply below_drew1 | refine below_set ?_ GE214.out | refine below_set ?_ GE215.out | refine below_set ?_ GE216.out) | exact HB.out)) hb); clear BK214; clear BK215; clear BK216; clear HB; have BK214 := n0_; have BK215 := n1_; have BK216 := n2_; have HB := n3_; clear n0_ n1_ n2_ n3_; (try clear hb); (try clear hb2); (try clear hk); (try clear hi)))
          go_meet
          case rel => exact ⟨_, (!(decide (t219 ≥ 0))), (by first | rfl | (simp; done) | (simp [*]; done)), H', ⟨by first | omega | exact Nat.le_refl _⟩, ⟨by (with_reducible repeat (first | refine blk_drewN ?_ _ | refine blk_drew ?_ | refine blk_alloc ?_ _)); exact BK214.out⟩, ⟨by (with_reducible repeat (first | refine blk_drewN ?_ _ | refine blk_drew ?_ | refine blk_alloc ?_ _)); exact BK215.out⟩, ⟨by (with_reducible repeat (first | refine blk_drewN ?_ _ | refine blk_drew ?_ | refine blk_alloc ?_ _)); exact BK216.out⟩, ⟨by repeat (first | (with_reducible first | exact HB.out | apply below_alloc | apply pw_below_drewN | apply below_drew1 | refine below_set ?_ GE214.out | refine below_set ?_ GE215.out | refine below_set ?_ GE216.out) | exact HB.out)⟩⟩
       ·
        rw [if_neg c80] at H
        have c80b0 : decide (0 < t218) = false := decide_eq_false c80
        clear c80
        by_cases c110 : t219 ≤ 0
        ·
         rw [if_pos c110] at H
         have c110b0 : decide (t219 ≤ 0) = true := decide_eq_true c110
         clear c110
         by_cases c111 : t217 < 0
         ·
          rw [if_pos c111] at H
          have c111b0 : decide (t217 < 0) = true := decide_eq_true c111
          clear c111
          have H' := am H
          clear H
          have hnb112 := NB215_214.out
          have hnc112 := NB214_215.out
          have hnb113 := NB215_216.out
          have hnc113 := NB216_215.out
          have hcz114_0 : w16.cell? ⟨gb215, 0, none⟩ = some (.int .i64 a1_0) := (blk_cell BK215.out 0).trans rfl
          have hcz114_1 : w16.cell? ⟨gb215, 1, none⟩ = some (.int .i64 a1_1) := (blk_cell BK215.out 1).trans rfl
          have hcz114_2 : w16.cell? ⟨gb215, 2, none⟩ = some (.int .i64 a1_2) := (blk_cell BK215.out 2).trans rfl
          have hfz114_0 := blk_frozen BK215.out 0
          have hfz114_1 := blk_frozen BK215.out 1
          have hfz114_2 := blk_frozen BK215.out 2
          have hnb115 := NB214_216.out
          have hnc115 := NB216_214.out
          have hcz116_0 : w16.cell? ⟨gb214, 0, none⟩ = some (.int .i64 a0_0) := (blk_cell BK214.out 0).trans rfl
          have hcz116_1 : w16.cell? ⟨gb214, 1, none⟩ = some (.int .i64 a0_1) := (blk_cell BK214.out 1).trans rfl
          have hcz116_2 : w16.cell? ⟨gb214, 2, none⟩ = some (.int .i64 a0_2) := (blk_cell BK214.out 2).trans rfl
          have hfz116_0 := blk_frozen BK214.out 0
          have hfz116_1 := blk_frozen BK214.out 1
          have hfz116_2 := blk_frozen BK214.out 2
          go_wp2_with (first | ((with_reducible refine gate_callee (f := 10) rfl ?_); refine goesL_ (some 29) rfl rfl Try.func10 (by kernel_rfl) rfl #[.agg #[.int .i64 a1_0, .int .i64 a1_1, .int .i64 a1_2], .agg #[.int .i64 a0_0, .int .i64 a0_1, .int .i64 a0_2]] rfl (by (try simp only [List.map_toArray, List.map_cons, List.map_nil]); first | done | rfl | (simp only [List.length_drop, List.length_take]; rfl)) ?_; (with_reducible refine (hlc_Compare.calls k a1_0 a1_1 a1_2 a0_0 a0_1 a0_2 t220 _ A17.out).mono ?_); rintro e w117 ⟨rfl, hb⟩; refine ⟨_, rfl, ?_⟩; have n0_ := am (blk_below (g := gb214) (o := .cells #[.int .i64 a0_0, .int .i64 a0_1, .int .i64 a0_2] 24 (0, 0)) (by (with_reducible repeat (first | refine blk_drewN ?_ _ | refine blk_drew ?_ | refine blk_alloc ?_ _)); exact BK214.out) hb); have n1_ := am (blk_below (g := gb215) (o := .cells #[.int .i64 a1_0, .int .i64 a1_1, .int .i64 a1_2] 24 (0, 0)) (by (with_reducible repeat (first | refine blk_drewN ?_ _ | refine blk_drew ?_ | refine blk_alloc ?_ _)); exact BK215.out) hb); have n2_ := am (blk_below (g := gb216) (o := .cells #[.int .i64 a2_0, .int .i64 a2_1, .int .i64 a2_2] 24 (0, 0)) (by (with_reducible repeat (first | refine blk_drewN ?_ _ | refine blk_drew ?_ | refine blk_alloc ?_ _)); exact BK216.out) hb); have n3_ := am (below_step (by repeat (first | (with_reducible first | exact HB.out | apply below_alloc | apply pw_below_drewN | apply below_drew1 | refine below_set ?_ GE214.out | refine below_set ?_ GE215.out | refine below_set ?_ GE216.out) | exact HB.out)) hb); clear BK214; clear BK215; clear BK216; clear HB; have BK214 := n0_; have BK215 := n1_; have BK216 := n2_; have HB := n3_; clear n0_ n1_ n2_ n3_; (try clear hb); (try clear hb2); (try clear hk); (try clear hi); have hcz118_0 : w117.cell? ⟨gb214, 0, none⟩ = some (.int .i64 a0_0) := (blk_cell BK214.out 0).trans rfl; have hcz118_1 : w117.cell? ⟨gb214, 1, none⟩ = some (.int .i64 a0_1) := (blk_cell BK214.out 1).trans rfl; have hcz118_2 : w117.cell? ⟨gb214, 2, none⟩ = some (.int .i64 a0_2) := (blk_cell BK214.out 2).trans rfl; have hfz118_0 := blk_frozen BK214.out 0; have hfz118_1 := blk_frozen BK214.out 1; have hfz118_2 := blk_frozen BK214.out 2; have hcz119_0 : w117.cell? ⟨gb215, 0, none⟩ = some (.int .i64 a1_0) := (blk_cell BK215.out 0).trans rfl; have hcz119_1 : w117.cell? ⟨gb215, 1, none⟩ = some (.int .i64 a1_1) := (blk_cell BK215.out 1).trans rfl; have hcz119_2 : w117.cell? ⟨gb215, 2, none⟩ = some (.int .i64 a1_2) := (blk_cell BK215.out 2).trans rfl; have hfz119_0 := blk_frozen BK215.out 0; have hfz119_1 := blk_frozen BK215.out 1; have hfz119_2 := blk_frozen BK215.out 2) | (go_at_call 16; (with_reducible refine (keep_Stamp.calls a0_0 a0_1 a0_2 a1_0 a1_1 a1_2 t221 _ A19.out).mono ?_); rintro e w120 ⟨rfl, hb⟩; have n0_ := am (blk_below (g := gb214) (o := .cells #[.int .i64 a0_0, .int .i64 a0_1, .int .i64 a0_2] 24 (0, 0)) (by (with_reducible repeat (first | refine blk_drewN ?_ _ | refine blk_drew ?_ | refine blk_alloc ?_ _)); exact BK214.out) hb); have n1_ := am (blk_below (g := gb215) (o := .cells #[.int .i64 a1_0, .int .i64 a1_1, .int .i64 a1_2] 24 (0, 0)) (by (with_reducible repeat (first | refine blk_drewN ?_ _ | refine blk_drew ?_ | refine blk_alloc ?_ _)); exact BK215.out) hb); have n2_ := am (blk_below (g := gb216) (o := .cells #[.int .i64 a2_0, .int .i64 a2_1, .int .i64 a2_2] 24 (0, 0)) (by (with_reducible repeat (first | refine blk_drewN ?_ _ | refine blk_drew ?_ | refine blk_alloc ?_ _)); exact BK216.out) hb); have n3_ := am (below_step (by repeat (first | (with_reducible first | exact HB.out | apply below_alloc | apply pw_below_drewN | apply below_drew1 | refine below_set ?_ GE214.out | refine below_set ?_ GE215.out | refine below_set ?_ GE216.out) | exact HB.out)) hb); clear BK214; clear BK215; clear BK216; clear HB; have BK214 := n0_; have BK215 := n1_; have BK216 := n2_; have HB := n3_; clear n0_ n1_ n2_ n3_; (try clear hb); (try clear hb2); (try clear hk); (try clear hi)))
          go_meet
          case rel => exact ⟨_, (!true), (by first | rfl | (simp; done) | (simp [*]; done)), H', ⟨by first | omega | exact Nat.le_refl _⟩, ⟨by (with_reducible repeat (first | refine blk_drewN ?_ _ | refine blk_drew ?_ | refine blk_alloc ?_ _)); exact BK214.out⟩, ⟨by (with_reducible repeat (first | refine blk_drewN ?_ _ | refine blk_drew ?_ | refine blk_alloc ?_ _)); exact BK215.out⟩, ⟨by (with_reducible repeat (first | refine blk_drewN ?_ _ | refine blk_drew ?_ | refine blk_alloc ?_ _)); exact BK216.out⟩, ⟨by repeat (first | (with_reducible first | exact HB.out | apply below_alloc | apply pw_below_drewN | apply below_drew1 | refine below_set ?_ GE214.out | refine below_set ?_ GE215.out | refine below_set ?_ GE216.out) | exact HB.out)⟩⟩
         ·
          rw [if_neg c111] at H
          have c111b0 : decide (t217 < 0) = false := decide_eq_false c111
          clear c111
          by_cases c121 : t218 < 0
          ·
           rw [if_pos c121] at H
           have c121b0 : decide (t218 < 0) = true := decide_eq_true c121
           clear c121
           have H' := am H
           clear H
           have hnb122 := NB215_214.out
           have hnc122 := NB214_215.out
           have hnb123 := NB215_216.out
           have hnc123 := NB216_215.out
           have hcz124_0 : w16.cell? ⟨gb215, 0, none⟩ = some (.int .i64 a1_0) := (blk_cell BK215.out 0).trans rfl
           have hcz124_1 : w16.cell? ⟨gb215, 1, none⟩ = some (.int .i64 a1_1) := (blk_cell BK215.out 1).trans rfl
           have hcz124_2 : w16.cell? ⟨gb215, 2, none⟩ = some (.int .i64 a1_2) := (blk_cell BK215.out 2).trans rfl
           have hfz124_0 := blk_frozen BK215.out 0
           have hfz124_1 := blk_frozen BK215.out 1
           have hfz124_2 := blk_frozen BK215.out 2
           have hnb125 := NB214_216.out
           have hnc125 := NB216_214.out
           have hcz126_0 : w16.cell? ⟨gb214, 0, none⟩ = some (.int .i64 a0_0) := (blk_cell BK214.out 0).trans rfl
           have hcz126_1 : w16.cell? ⟨gb214, 1, none⟩ = some (.int .i64 a0_1) := (blk_cell BK214.out 1).trans rfl
           have hcz126_2 : w16.cell? ⟨gb214, 2, none⟩ = some (.int .i64 a0_2) := (blk_cell BK214.out 2).trans rfl
           have hfz126_0 := blk_frozen BK214.out 0
           have hfz126_1 := blk_frozen BK214.out 1
           have hfz126_2 := blk_frozen BK214.out 2
           go_wp2_with (first | ((with_reducible refine gate_callee (f := 10) rfl ?_); refine goesL_ (some 29) rfl rfl Try.func10 (by kernel_rfl) rfl #[.agg #[.int .i64 a1_0, .int .i64 a1_1, .int .i64 a1_2], .agg #[.int .i64 a0_0, .int .i64 a0_1, .int .i64 a0_2]] rfl (by (try simp only [List.map_toArray, List.map_cons, List.map_nil]); first | done | rfl | (simp only [List.length_drop, List.length_take]; rfl)) ?_; (with_reducible refine (hlc_Compare.calls k a1_0 a1_1 a1_2 a0_0 a0_1 a0_2 t220 _ A17.out).mono ?_); rintro e w127 ⟨rfl, hb⟩; refine ⟨_, rfl, ?_⟩; have n0_ := am (blk_below (g := gb214) (o := .cells #[.int .i64 a0_0, .int .i64 a0_1, .int .i64 a0_2] 24 (0, 0)) (by (with_reducible repeat (first | refine blk_drewN ?_ _ | refine blk_drew ?_ | refine blk_alloc ?_ _)); exact BK214.out) hb); have n1_ := am (blk_below (g := gb215) (o := .cells #[.int .i64 a1_0, .int .i64 a1_1, .int .i64 a1_2] 24 (0, 0)) (by (with_reducible repeat (first | refine blk_drewN ?_ _ | refine blk_drew ?_ | refine blk_alloc ?_ _)); exact BK215.out) hb); have n2_ := am (blk_below (g := gb216) (o := .cells #[.int .i64 a2_0, .int .i64 a2_1, .int .i64 a2_2] 24 (0, 0)) (by (with_reducible repeat (first | refine blk_drewN ?_ _ | refine blk_drew ?_ | refine blk_alloc ?_ _)); exact BK216.out) hb); have n3_ := am (below_step (by repeat (first | (with_reducible first | exact HB.out | apply below_alloc | apply pw_below_drewN | apply below_drew1 | refine below_set ?_ GE214.out | refine below_set ?_ GE215.out | refine below_set ?_ GE216.out) | exact HB.out)) hb); clear BK214; clear BK215; clear BK216; clear HB; have BK214 := n0_; have BK215 := n1_; have BK216 := n2_; have HB := n3_; clear n0_ n1_ n2_ n3_; (try clear hb); (try clear hb2); (try clear hk); (try clear hi); have hcz128_0 : w127.cell? ⟨gb214, 0, none⟩ = some (.int .i64 a0_0) := (blk_cell BK214.out 0).trans rfl; have hcz128_1 : w127.cell? ⟨gb214, 1, none⟩ = some (.int .i64 a0_1) := (blk_cell BK214.out 1).trans rfl; have hcz128_2 : w127.cell? ⟨gb214, 2, none⟩ = some (.int .i64 a0_2) := (blk_cell BK214.out 2).trans rfl; have hfz128_0 := blk_frozen BK214.out 0; have hfz128_1 := blk_frozen BK214.out 1; have hfz128_2 := blk_frozen BK214.out 2; have hcz129_0 : w127.cell? ⟨gb215, 0, none⟩ = some (.int .i64 a1_0) := (blk_cell BK215.out 0).trans rfl; have hcz129_1 : w127.cell? ⟨gb215, 1, none⟩ = some (.int .i64 a1_1) := (blk_cell BK215.out 1).trans rfl; have hcz129_2 : w127.cell? ⟨gb215, 2, none⟩ = some (.int .i64 a1_2) := (blk_cell BK215.out 2).trans rfl; have hfz129_0 := blk_frozen BK215.out 0; have hfz129_1 := blk_frozen BK215.out 1; have hfz129_2 := blk_frozen BK215.out 2) | (go_at_call 16; (with_reducible refine (keep_Stamp.calls a0_0 a0_1 a0_2 a1_0 a1_1 a1_2 t221 _ A19.out).mono ?_); rintro e w130 ⟨rfl, hb⟩; have n0_ := am (blk_below (g := gb214) (o := .cells #[.int .i64 a0_0, .int .i64 a0_1, .int .i64 a0_2] 24 (0, 0)) (by (with_reducible repeat (first | refine blk_drewN ?_ _ | refine blk_drew ?_ | refine blk_alloc ?_ _)); exact BK214.out) hb); have n1_ := am (blk_below (g := gb215) (o := .cells #[.int .i64 a1_0, .int .i64 a1_1, .int .i64 a1_2] 24 (0, 0)) (by (with_reducible repeat (first | refine blk_drewN ?_ _ | refine blk_drew ?_ | refine blk_alloc ?_ _)); exact BK215.out) hb); have n2_ := am (blk_below (g := gb216) (o := .cells #[.int .i64 a2_0, .int .i64 a2_1, .int .i64 a2_2] 24 (0, 0)) (by (with_reducible repeat (first | refine blk_drewN ?_ _ | refine blk_drew ?_ | refine blk_alloc ?_ _)); exact BK216.out) hb); have n3_ := am (below_step (by repeat (first | (with_reducible first | exact HB.out | apply below_alloc | apply pw_below_drewN | apply below_drew1 | refine below_set ?_ GE214.out | refine below_set ?_ GE215.out | refine below_set ?_ GE216.out) | exact HB.out)) hb); clear BK214; clear BK215; clear BK216; clear HB; have BK214 := n0_; have BK215 := n1_; have BK216 := n2_; have HB := n3_; clear n0_ n1_ n2_ n3_; (try clear hb); (try clear hb2); (try clear hk); (try clear hi)))
           go_meet
           case rel => exact ⟨_, (!true), (by first | rfl | (simp; done) | (simp [*]; done)), H', ⟨by first | omega | exact Nat.le_refl _⟩, ⟨by (with_reducible repeat (first | refine blk_drewN ?_ _ | refine blk_drew ?_ | refine blk_alloc ?_ _)); exact BK214.out⟩, ⟨by (with_reducible repeat (first | refine blk_drewN ?_ _ | refine blk_drew ?_ | refine blk_alloc ?_ _)); exact BK215.out⟩, ⟨by (with_reducible repeat (first | refine blk_drewN ?_ _ | refine blk_drew ?_ | refine blk_alloc ?_ _)); exact BK216.out⟩, ⟨by repeat (first | (with_reducible first | exact HB.out | apply below_alloc | apply pw_below_drewN | apply below_drew1 | refine below_set ?_ GE214.out | refine below_set ?_ GE215.out | refine below_set ?_ GE216.out) | exact HB.out)⟩⟩
          ·
           rw [if_neg c121] at H
           have c121b0 : decide (t218 < 0) = false := decide_eq_false c121
           clear c121
           have H' := am H
           clear H
           have hnb131 := NB215_214.out
           have hnc131 := NB214_215.out
           have hnb132 := NB215_216.out
           have hnc132 := NB216_215.out
           have hcz133_0 : w16.cell? ⟨gb215, 0, none⟩ = some (.int .i64 a1_0) := (blk_cell BK215.out 0).trans rfl
           have hcz133_1 : w16.cell? ⟨gb215, 1, none⟩ = some (.int .i64 a1_1) := (blk_cell BK215.out 1).trans rfl
           have hcz133_2 : w16.cell? ⟨gb215, 2, none⟩ = some (.int .i64 a1_2) := (blk_cell BK215.out 2).trans rfl
           have hfz133_0 := blk_frozen BK215.out 0
           have hfz133_1 := blk_frozen BK215.out 1
           have hfz133_2 := blk_frozen BK215.out 2
           have hnb134 := NB214_216.out
           have hnc134 := NB216_214.out
           have hcz135_0 : w16.cell? ⟨gb214, 0, none⟩ = some (.int .i64 a0_0) := (blk_cell BK214.out 0).trans rfl
           have hcz135_1 : w16.cell? ⟨gb214, 1, none⟩ = some (.int .i64 a0_1) := (blk_cell BK214.out 1).trans rfl
           have hcz135_2 : w16.cell? ⟨gb214, 2, none⟩ = some (.int .i64 a0_2) := (blk_cell BK214.out 2).trans rfl
           have hfz135_0 := blk_frozen BK214.out 0
           have hfz135_1 := blk_frozen BK214.out 1
           have hfz135_2 := blk_frozen BK214.out 2
           go_wp2_with (first | ((with_reducible refine gate_callee (f := 10) rfl ?_); refine goesL_ (some 29) rfl rfl Try.func10 (by kernel_rfl) rfl #[.agg #[.int .i64 a1_0, .int .i64 a1_1, .int .i64 a1_2], .agg #[.int .i64 a0_0, .int .i64 a0_1, .int .i64 a0_2]] rfl (by (try simp only [List.map_toArray, List.map_cons, List.map_nil]); first | done | rfl | (simp only [List.length_drop, List.length_take]; rfl)) ?_; (with_reducible refine (hlc_Compare.calls k a1_0 a1_1 a1_2 a0_0 a0_1 a0_2 t220 _ A17.out).mono ?_); rintro e w136 ⟨rfl, hb⟩; refine ⟨_, rfl, ?_⟩; have n0_ := am (blk_below (g := gb214) (o := .cells #[.int .i64 a0_0, .int .i64 a0_1, .int .i64 a0_2] 24 (0, 0)) (by (with_reducible repeat (first | refine blk_drewN ?_ _ | refine blk_drew ?_ | refine blk_alloc ?_ _)); exact BK214.out) hb); have n1_ := am (blk_below (g := gb215) (o := .cells #[.int .i64 a1_0, .int .i64 a1_1, .int .i64 a1_2] 24 (0, 0)) (by (with_reducible repeat (first | refine blk_drewN ?_ _ | refine blk_drew ?_ | refine blk_alloc ?_ _)); exact BK215.out) hb); have n2_ := am (blk_below (g := gb216) (o := .cells #[.int .i64 a2_0, .int .i64 a2_1, .int .i64 a2_2] 24 (0, 0)) (by (with_reducible repeat (first | refine blk_drewN ?_ _ | refine blk_drew ?_ | refine blk_alloc ?_ _)); exact BK216.out) hb); have n3_ := am (below_step (by repeat (first | (with_reducible first | exact HB.out | apply below_alloc | apply pw_below_drewN | apply below_drew1 | refine below_set ?_ GE214.out | refine below_set ?_ GE215.out | refine below_set ?_ GE216.out) | exact HB.out)) hb); clear BK214; clear BK215; clear BK216; clear HB; have BK214 := n0_; have BK215 := n1_; have BK216 := n2_; have HB := n3_; clear n0_ n1_ n2_ n3_; (try clear hb); (try clear hb2); (try clear hk); (try clear hi); have hcz137_0 : w136.cell? ⟨gb214, 0, none⟩ = some (.int .i64 a0_0) := (blk_cell BK214.out 0).trans rfl; have hcz137_1 : w136.cell? ⟨gb214, 1, none⟩ = some (.int .i64 a0_1) := (blk_cell BK214.out 1).trans rfl; have hcz137_2 : w136.cell? ⟨gb214, 2, none⟩ = some (.int .i64 a0_2) := (blk_cell BK214.out 2).trans rfl; have hfz137_0 := blk_frozen BK214.out 0; have hfz137_1 := blk_frozen BK214.out 1; have hfz137_2 := blk_frozen BK214.out 2; have hcz138_0 : w136.cell? ⟨gb215, 0, none⟩ = some (.int .i64 a1_0) := (blk_cell BK215.out 0).trans rfl; have hcz138_1 : w136.cell? ⟨gb215, 1, none⟩ = some (.int .i64 a1_1) := (blk_cell BK215.out 1).trans rfl; have hcz138_2 : w136.cell? ⟨gb215, 2, none⟩ = some (.int .i64 a1_2) := (blk_cell BK215.out 2).trans rfl; have hfz138_0 := blk_frozen BK215.out 0; have hfz138_1 := blk_frozen BK215.out 1; have hfz138_2 := blk_frozen BK215.out 2) | (go_at_call 16; (with_reducible refine (keep_Stamp.calls a0_0 a0_1 a0_2 a1_0 a1_1 a1_2 t221 _ A19.out).mono ?_); rintro e w139 ⟨rfl, hb⟩; have n0_ := am (blk_below (g := gb214) (o := .cells #[.int .i64 a0_0, .int .i64 a0_1, .int .i64 a0_2] 24 (0, 0)) (by (with_reducible repeat (first | refine blk_drewN ?_ _ | refine blk_drew ?_ | refine blk_alloc ?_ _)); exact BK214.out) hb); have n1_ := am (blk_below (g := gb215) (o := .cells #[.int .i64 a1_0, .int .i64 a1_1, .int .i64 a1_2] 24 (0, 0)) (by (with_reducible repeat (first | refine blk_drewN ?_ _ | refine blk_drew ?_ | refine blk_alloc ?_ _)); exact BK215.out) hb); have n2_ := am (blk_below (g := gb216) (o := .cells #[.int .i64 a2_0, .int .i64 a2_1, .int .i64 a2_2] 24 (0, 0)) (by (with_reducible repeat (first | refine blk_drewN ?_ _ | refine blk_drew ?_ | refine blk_alloc ?_ _)); exact BK216.out) hb); have n3_ := am (below_step (by repeat (first | (with_reducible first | exact HB.out | apply below_alloc | apply pw_below_drewN | apply below_drew1 | refine below_set ?_ GE214.out | refine below_set ?_ GE215.out | refine below_set ?_ GE216.out) | exact HB.out)) hb); clear BK214; clear BK215; clear BK216; clear HB; have BK214 := n0_; have BK215 := n1_; have BK216 := n2_; have HB := n3_; clear n0_ n1_ n2_ n3_; (try clear hb); (try clear hb2); (try clear hk); (try clear hi)))
           go_meet
           case rel => exact ⟨_, (!(decide (t219 ≥ 0))), (by first | rfl | (simp; done) | (simp [*]; done)), H', ⟨by first | omega | exact Nat.le_refl _⟩, ⟨by (with_reducible repeat (first | refine blk_drewN ?_ _ | refine blk_drew ?_ | refine blk_alloc ?_ _)); exact BK214.out⟩, ⟨by (with_reducible repeat (first | refine blk_drewN ?_ _ | refine blk_drew ?_ | refine blk_alloc ?_ _)); exact BK215.out⟩, ⟨by (with_reducible repeat (first | refine blk_drewN ?_ _ | refine blk_drew ?_ | refine blk_alloc ?_ _)); exact BK216.out⟩, ⟨by repeat (first | (with_reducible first | exact HB.out | apply below_alloc | apply pw_below_drewN | apply below_drew1 | refine below_set ?_ GE214.out | refine below_set ?_ GE215.out | refine below_set ?_ GE216.out) | exact HB.out)⟩⟩
        ·
         rw [if_neg c110] at H
         have c110b0 : decide (t219 ≤ 0) = false := decide_eq_false c110
         clear c110
         have H' := am H
         clear H
         have hnb140 := NB215_214.out
         have hnc140 := NB214_215.out
         have hnb141 := NB215_216.out
         have hnc141 := NB216_215.out
         have hcz142_0 : w16.cell? ⟨gb215, 0, none⟩ = some (.int .i64 a1_0) := (blk_cell BK215.out 0).trans rfl
         have hcz142_1 : w16.cell? ⟨gb215, 1, none⟩ = some (.int .i64 a1_1) := (blk_cell BK215.out 1).trans rfl
         have hcz142_2 : w16.cell? ⟨gb215, 2, none⟩ = some (.int .i64 a1_2) := (blk_cell BK215.out 2).trans rfl
         have hfz142_0 := blk_frozen BK215.out 0
         have hfz142_1 := blk_frozen BK215.out 1
         have hfz142_2 := blk_frozen BK215.out 2
         have hnb143 := NB214_216.out
         have hnc143 := NB216_214.out
         have hcz144_0 : w16.cell? ⟨gb214, 0, none⟩ = some (.int .i64 a0_0) := (blk_cell BK214.out 0).trans rfl
         have hcz144_1 : w16.cell? ⟨gb214, 1, none⟩ = some (.int .i64 a0_1) := (blk_cell BK214.out 1).trans rfl
         have hcz144_2 : w16.cell? ⟨gb214, 2, none⟩ = some (.int .i64 a0_2) := (blk_cell BK214.out 2).trans rfl
         have hfz144_0 := blk_frozen BK214.out 0
         have hfz144_1 := blk_frozen BK214.out 1
         have hfz144_2 := blk_frozen BK214.out 2
         go_wp2_with (first | ((with_reducible refine gate_callee (f := 10) rfl ?_); refine goesL_ (some 29) rfl rfl Try.func10 (by kernel_rfl) rfl #[.agg #[.int .i64 a1_0, .int .i64 a1_1, .int .i64 a1_2], .agg #[.int .i64 a0_0, .int .i64 a0_1, .int .i64 a0_2]] rfl (by (try simp only [List.map_toArray, List.map_cons, List.map_nil]); first | done | rfl | (simp only [List.length_drop, List.length_take]; rfl)) ?_; (with_reducible refine (hlc_Compare.calls k a1_0 a1_1 a1_2 a0_0 a0_1 a0_2 t220 _ A17.out).mono ?_); rintro e w145 ⟨rfl, hb⟩; refine ⟨_, rfl, ?_⟩; have n0_ := am (blk_below (g := gb214) (o := .cells #[.int .i64 a0_0, .int .i64 a0_1, .int .i64 a0_2] 24 (0, 0)) (by (with_reducible repeat (first | refine blk_drewN ?_ _ | refine blk_drew ?_ | refine blk_alloc ?_ _)); exact BK214.out) hb); have n1_ := am (blk_below (g := gb215) (o := .cells #[.int .i64 a1_0, .int .i64 a1_1, .int .i64 a1_2] 24 (0, 0)) (by (with_reducible repeat (first | refine blk_drewN ?_ _ | refine blk_drew ?_ | refine blk_alloc ?_ _)); exact BK215.out) hb); have n2_ := am (blk_below (g := gb216) (o := .cells #[.int .i64 a2_0, .int .i64 a2_1, .int .i64 a2_2] 24 (0, 0)) (by (with_reducible repeat (first | refine blk_drewN ?_ _ | refine blk_drew ?_ | refine blk_alloc ?_ _)); exact BK216.out) hb); have n3_ := am (below_step (by repeat (first | (with_reducible first | exact HB.out | apply below_alloc | apply pw_below_drewN | apply below_drew1 | refine below_set ?_ GE214.out | refine below_set ?_ GE215.out | refine below_set ?_ GE216.out) | exact HB.out)) hb); clear BK214; clear BK215; clear BK216; clear HB; have BK214 := n0_; have BK215 := n1_; have BK216 := n2_; have HB := n3_; clear n0_ n1_ n2_ n3_; (try clear hb); (try clear hb2); (try clear hk); (try clear hi); have hcz146_0 : w145.cell? ⟨gb214, 0, none⟩ = some (.int .i64 a0_0) := (blk_cell BK214.out 0).trans rfl; have hcz146_1 : w145.cell? ⟨gb214, 1, none⟩ = some (.int .i64 a0_1) := (blk_cell BK214.out 1).trans rfl; have hcz146_2 : w145.cell? ⟨gb214, 2, none⟩ = some (.int .i64 a0_2) := (blk_cell BK214.out 2).trans rfl; have hfz146_0 := blk_frozen BK214.out 0; have hfz146_1 := blk_frozen BK214.out 1; have hfz146_2 := blk_frozen BK214.out 2; have hcz147_0 : w145.cell? ⟨gb215, 0, none⟩ = some (.int .i64 a1_0) := (blk_cell BK215.out 0).trans rfl; have hcz147_1 : w145.cell? ⟨gb215, 1, none⟩ = some (.int .i64 a1_1) := (blk_cell BK215.out 1).trans rfl; have hcz147_2 : w145.cell? ⟨gb215, 2, none⟩ = some (.int .i64 a1_2) := (blk_cell BK215.out 2).trans rfl; have hfz147_0 := blk_frozen BK215.out 0; have hfz147_1 := blk_frozen BK215.out 1; have hfz147_2 := blk_frozen BK215.out 2) | (go_at_call 16; (with_reducible refine (keep_Stamp.calls a0_0 a0_1 a0_2 a1_0 a1_1 a1_2 t221 _ A19.out).mono ?_); rintro e w148 ⟨rfl, hb⟩; have n0_ := am (blk_below (g := gb214) (o := .cells #[.int .i64 a0_0, .int .i64 a0_1, .int .i64 a0_2] 24 (0, 0)) (by (with_reducible repeat (first | refine blk_drewN ?_ _ | refine blk_drew ?_ | refine blk_alloc ?_ _)); exact BK214.out) hb); have n1_ := am (blk_below (g := gb215) (o := .cells #[.int .i64 a1_0, .int .i64 a1_1, .int .i64 a1_2] 24 (0, 0)) (by (with_reducible repeat (first | refine blk_drewN ?_ _ | refine blk_drew ?_ | refine blk_alloc ?_ _)); exact BK215.out) hb); have n2_ := am (blk_below (g := gb216) (o := .cells #[.int .i64 a2_0, .int .i64 a2_1, .int .i64 a2_2] 24 (0, 0)) (by (with_reducible repeat (first | refine blk_drewN ?_ _ | refine blk_drew ?_ | refine blk_alloc ?_ _)); exact BK216.out) hb); have n3_ := am (below_step (by repeat (first | (with_reducible first | exact HB.out | apply below_alloc | apply pw_below_drewN | apply below_drew1 | refine below_set ?_ GE214.out | refine below_set ?_ GE215.out | refine below_set ?_ GE216.out) | exact HB.out)) hb); clear BK214; clear BK215; clear BK216; clear HB; have BK214 := n0_; have BK215 := n1_; have BK216 := n2_; have HB := n3_; clear n0_ n1_ n2_ n3_; (try clear hb); (try clear hb2); (try clear hk); (try clear hi)))
         go_meet
         case rel => exact ⟨_, (!false), (by first | rfl | (simp; done) | (simp [*]; done)), H', ⟨by first | omega | exact Nat.le_refl _⟩, ⟨by (with_reducible repeat (first | refine blk_drewN ?_ _ | refine blk_drew ?_ | refine blk_alloc ?_ _)); exact BK214.out⟩, ⟨by (with_reducible repeat (first | refine blk_drewN ?_ _ | refine blk_drew ?_ | refine blk_alloc ?_ _)); exact BK215.out⟩, ⟨by (with_reducible repeat (first | refine blk_drewN ?_ _ | refine blk_drew ?_ | refine blk_alloc ?_ _)); exact BK216.out⟩, ⟨by repeat (first | (with_reducible first | exact HB.out | apply below_alloc | apply pw_below_drewN | apply below_drew1 | refine below_set ?_ GE214.out | refine below_set ?_ GE215.out | refine below_set ?_ GE216.out) | exact HB.out)⟩⟩
  ·
   rw [if_neg c18] at H
   have c18b0 : (t217 == (wrap64 (-t220))) = false := beq_eq_false_iff_ne.mpr c18
   have c18b1 : (t217 != (wrap64 (-t220))) = true := bne_iff_ne.mpr c18
   (first | rw [c18b0] | (simp only [i64_w, i32_w]; rw [c18b0]) | skip)
   have H' := am H
   clear H
   have hnb149 := NB215_214.out
   have hnc149 := NB214_215.out
   have hnb150 := NB215_216.out
   have hnc150 := NB216_215.out
   have hcz151_0 : w16.cell? ⟨gb215, 0, none⟩ = some (.int .i64 a1_0) := (blk_cell BK215.out 0).trans rfl
   have hcz151_1 : w16.cell? ⟨gb215, 1, none⟩ = some (.int .i64 a1_1) := (blk_cell BK215.out 1).trans rfl
   have hcz151_2 : w16.cell? ⟨gb215, 2, none⟩ = some (.int .i64 a1_2) := (blk_cell BK215.out 2).trans rfl
   have hfz151_0 := blk_frozen BK215.out 0
   have hfz151_1 := blk_frozen BK215.out 1
   have hfz151_2 := blk_frozen BK215.out 2
   have hnb152 := NB214_216.out
   have hnc152 := NB216_214.out
   have hcz153_0 : w16.cell? ⟨gb214, 0, none⟩ = some (.int .i64 a0_0) := (blk_cell BK214.out 0).trans rfl
   have hcz153_1 : w16.cell? ⟨gb214, 1, none⟩ = some (.int .i64 a0_1) := (blk_cell BK214.out 1).trans rfl
   have hcz153_2 : w16.cell? ⟨gb214, 2, none⟩ = some (.int .i64 a0_2) := (blk_cell BK214.out 2).trans rfl
   have hfz153_0 := blk_frozen BK214.out 0
   have hfz153_1 := blk_frozen BK214.out 1
   have hfz153_2 := blk_frozen BK214.out 2
   go_wp2_with (first | ((with_reducible refine gate_callee (f := 10) rfl ?_); refine goesL_ (some 29) rfl rfl Try.func10 (by kernel_rfl) rfl #[.agg #[.int .i64 a1_0, .int .i64 a1_1, .int .i64 a1_2], .agg #[.int .i64 a0_0, .int .i64 a0_1, .int .i64 a0_2]] rfl (by (try simp only [List.map_toArray, List.map_cons, List.map_nil]); first | done | rfl | (simp only [List.length_drop, List.length_take]; rfl)) ?_; (with_reducible refine (hlc_Compare.calls k a1_0 a1_1 a1_2 a0_0 a0_1 a0_2 t220 _ A17.out).mono ?_); rintro e w154 ⟨rfl, hb⟩; refine ⟨_, rfl, ?_⟩; have n0_ := am (blk_below (g := gb214) (o := .cells #[.int .i64 a0_0, .int .i64 a0_1, .int .i64 a0_2] 24 (0, 0)) (by (with_reducible repeat (first | refine blk_drewN ?_ _ | refine blk_drew ?_ | refine blk_alloc ?_ _)); exact BK214.out) hb); have n1_ := am (blk_below (g := gb215) (o := .cells #[.int .i64 a1_0, .int .i64 a1_1, .int .i64 a1_2] 24 (0, 0)) (by (with_reducible repeat (first | refine blk_drewN ?_ _ | refine blk_drew ?_ | refine blk_alloc ?_ _)); exact BK215.out) hb); have n2_ := am (blk_below (g := gb216) (o := .cells #[.int .i64 a2_0, .int .i64 a2_1, .int .i64 a2_2] 24 (0, 0)) (by (with_reducible repeat (first | refine blk_drewN ?_ _ | refine blk_drew ?_ | refine blk_alloc ?_ _)); exact BK216.out) hb); have n3_ := am (below_step (by repeat (first | (with_reducible first | exact HB.out | apply below_alloc | apply pw_below_drewN | apply below_drew1 | refine below_set ?_ GE214.out | refine below_set ?_ GE215.out | refine below_set ?_ GE216.out) | exact HB.out)) hb); clear BK214; clear BK215; clear BK216; clear HB; have BK214 := n0_; have BK215 := n1_; have BK216 := n2_; have HB := n3_; clear n0_ n1_ n2_ n3_; (try clear hb); (try clear hb2); (try clear hk); (try clear hi)))
   go_meet
   case rel => exact ⟨_, (true), (by first | rfl | (simp; done) | (simp [*]; done)), H', ⟨by first | omega | exact Nat.le_refl _⟩, ⟨by (with_reducible repeat (first | refine blk_drewN ?_ _ | refine blk_drew ?_ | refine blk_alloc ?_ _)); exact BK214.out⟩, ⟨by (with_reducible repeat (first | refine blk_drewN ?_ _ | refine blk_drew ?_ | refine blk_alloc ?_ _)); exact BK215.out⟩, ⟨by (with_reducible repeat (first | refine blk_drewN ?_ _ | refine blk_drew ?_ | refine blk_alloc ?_ _)); exact BK216.out⟩, ⟨by repeat (first | (with_reducible first | exact HB.out | apply below_alloc | apply pw_below_drewN | apply below_drew1 | refine below_set ?_ GE214.out | refine below_set ?_ GE215.out | refine below_set ?_ GE216.out) | exact HB.out)⟩⟩
 case rest =>
  clear HC9
  try clear c1
  try clear c2
  try clear p2
  try clear c3
  try clear c4
  try clear c5
  try clear c6
  try clear p6
  try clear c7
  try clear c8
  try clear c9
  try clear c10
  try clear c11
  try clear c12
  try clear c13
  try clear c14
  try clear c15
  try clear c18
  try clear c18b0
  try clear c18b1
  try clear c20
  try clear c20b0
  try clear c20b1
  try clear c20b2
  try clear c21
  try clear c22
  try clear c24
  try clear c30
  try clear c30b0
  try clear c31
  try clear c32
  try clear c34
  try clear c40
  try clear c40b0
  try clear c41
  try clear c42
  try clear c44
  try clear c50
  try clear c50b0
  try clear c51
  try clear c51b0
  try clear c52
  try clear c53
  try clear c55
  try clear c61
  try clear c61b0
  try clear c62
  try clear c63
  try clear p64
  try clear c65
  try clear c71
  try clear c72
  try clear c74
  try clear c80
  try clear c80b0
  try clear c81
  try clear c81b0
  try clear c82
  try clear c83
  try clear c85
  try clear c91
  try clear c91b0
  try clear c92
  try clear c93
  try clear c95
  try clear c101
  try clear c102
  try clear c104
  try clear c110
  try clear c110b0
  try clear c111
  try clear c111b0
  try clear c112
  try clear c113
  try clear c115
  try clear c121
  try clear c121b0
  try clear c122
  try clear c123
  try clear c125
  try clear c131
  try clear c132
  try clear c134
  try clear c140
  try clear c141
  try clear c143
  try clear c149
  try clear c150
  try clear c152
  try clear hcz103_0
  try clear hcz103_1
  try clear hcz103_2
  try clear hcz105_0
  try clear hcz105_1
  try clear hcz105_2
  try clear hcz107_0
  try clear hcz107_1
  try clear hcz107_2
  try clear hcz108_0
  try clear hcz108_1
  try clear hcz108_2
  try clear hcz114_0
  try clear hcz114_1
  try clear hcz114_2
  try clear hcz116_0
  try clear hcz116_1
  try clear hcz116_2
  try clear hcz118_0
  try clear hcz118_1
  try clear hcz118_2
  try clear hcz119_0
  try clear hcz119_1
  try clear hcz119_2
  try clear hcz124_0
  try clear hcz124_1
  try clear hcz124_2
  try clear hcz126_0
  try clear hcz126_1
  try clear hcz126_2
  try clear hcz128_0
  try clear hcz128_1
  try clear hcz128_2
  try clear hcz129_0
  try clear hcz129_1
  try clear hcz129_2
  try clear hcz133_0
  try clear hcz133_1
  try clear hcz133_2
  try clear hcz135_0
  try clear hcz135_1
  try clear hcz135_2
  try clear hcz137_0
  try clear hcz137_1
  try clear hcz137_2
  try clear hcz138_0
  try clear hcz138_1
  try clear hcz138_2
  try clear hcz142_0
  try clear hcz142_1
  try clear hcz142_2
  try clear hcz144_0
  try clear hcz144_1
  try clear hcz144_2
  try clear hcz146_0
  try clear hcz146_1
  try clear hcz146_2
  try clear hcz147_0
  try clear hcz147_1
  try clear hcz147_2
  try clear hcz151_0
  try clear hcz151_1
  try clear hcz151_2
  try clear hcz153_0
  try clear hcz153_1
  try clear hcz153_2
  try clear hcz23_0
  try clear hcz23_1
  try clear hcz23_2
  try clear hcz25_0
  try clear hcz25_1
  try clear hcz25_2
  try clear hcz27_0
  try clear hcz27_1
  try clear hcz27_2
  try clear hcz28_0
  try clear hcz28_1
  try clear hcz28_2
  try clear hcz33_0
  try clear hcz33_1
  try clear hcz33_2
  try clear hcz35_0
  try clear hcz35_1
  try clear hcz35_2
  try clear hcz37_0
  try clear hcz37_1
  try clear hcz37_2
  try clear hcz38_0
  try clear hcz38_1
  try clear hcz38_2
  try clear hcz43_0
  try clear hcz43_1
  try clear hcz43_2
  try clear hcz45_0
  try clear hcz45_1
  try clear hcz45_2
  try clear hcz47_0
  try clear hcz47_1
  try clear hcz47_2
  try clear hcz48_0
  try clear hcz48_1
  try clear hcz48_2
  try clear hcz54_0
  try clear hcz54_1
  try clear hcz54_2
  try clear hcz56_0
  try clear hcz56_1
  try clear hcz56_2
  try clear hcz58_0
  try clear hcz58_1
  try clear hcz58_2
  try clear hcz59_0
  try clear hcz59_1
  try clear hcz59_2
  try clear hcz64_0
  try clear hcz64_1
  try clear hcz64_2
  try clear hcz66_0
  try clear hcz66_1
  try clear hcz66_2
  try clear hcz68_0
  try clear hcz68_1
  try clear hcz68_2
  try clear hcz69_0
  try clear hcz69_1
  try clear hcz69_2
  try clear hcz73_0
  try clear hcz73_1
  try clear hcz73_2
  try clear hcz75_0
  try clear hcz75_1
  try clear hcz75_2
  try clear hcz77_0
  try clear hcz77_1
  try clear hcz77_2
  try clear hcz78_0
  try clear hcz78_1
  try clear hcz78_2
  try clear hcz84_0
  try clear hcz84_1
  try clear hcz84_2
  try clear hcz86_0
  try clear hcz86_1
  try clear hcz86_2
  try clear hcz88_0
  try clear hcz88_1
  try clear hcz88_2
  try clear hcz89_0
  try clear hcz89_1
  try clear hcz89_2
  try clear hcz94_0
  try clear hcz94_1
  try clear hcz94_2
  try clear hcz96_0
  try clear hcz96_1
  try clear hcz96_2
  try clear hcz98_0
  try clear hcz98_1
  try clear hcz98_2
  try clear hcz99_0
  try clear hcz99_1
  try clear hcz99_2
  try clear hfz103_0
  try clear hfz103_1
  try clear hfz103_2
  try clear hfz105_0
  try clear hfz105_1
  try clear hfz105_2
  try clear hfz107_0
  try clear hfz107_1
  try clear hfz107_2
  try clear hfz108_0
  try clear hfz108_1
  try clear hfz108_2
  try clear hfz114_0
  try clear hfz114_1
  try clear hfz114_2
  try clear hfz116_0
  try clear hfz116_1
  try clear hfz116_2
  try clear hfz118_0
  try clear hfz118_1
  try clear hfz118_2
  try clear hfz119_0
  try clear hfz119_1
  try clear hfz119_2
  try clear hfz124_0
  try clear hfz124_1
  try clear hfz124_2
  try clear hfz126_0
  try clear hfz126_1
  try clear hfz126_2
  try clear hfz128_0
  try clear hfz128_1
  try clear hfz128_2
  try clear hfz129_0
  try clear hfz129_1
  try clear hfz129_2
  try clear hfz133_0
  try clear hfz133_1
  try clear hfz133_2
  try clear hfz135_0
  try clear hfz135_1
  try clear hfz135_2
  try clear hfz137_0
  try clear hfz137_1
  try clear hfz137_2
  try clear hfz138_0
  try clear hfz138_1
  try clear hfz138_2
  try clear hfz142_0
  try clear hfz142_1
  try clear hfz142_2
  try clear hfz144_0
  try clear hfz144_1
  try clear hfz144_2
  try clear hfz146_0
  try clear hfz146_1
  try clear hfz146_2
  try clear hfz147_0
  try clear hfz147_1
  try clear hfz147_2
  try clear hfz151_0
  try clear hfz151_1
  try clear hfz151_2
  try clear hfz153_0
  try clear hfz153_1
  try clear hfz153_2
  try clear hfz23_0
  try clear hfz23_1
  try clear hfz23_2
  try clear hfz25_0
  try clear hfz25_1
  try clear hfz25_2
  try clear hfz27_0
  try clear hfz27_1
  try clear hfz27_2
  try clear hfz28_0
  try clear hfz28_1
  try clear hfz28_2
  try clear hfz33_0
  try clear hfz33_1
  try clear hfz33_2
  try clear hfz35_0
  try clear hfz35_1
  try clear hfz35_2
  try clear hfz37_0
  try clear hfz37_1
  try clear hfz37_2
  try clear hfz38_0
  try clear hfz38_1
  try clear hfz38_2
  try clear hfz43_0
  try clear hfz43_1
  try clear hfz43_2
  try clear hfz45_0
  try clear hfz45_1
  try clear hfz45_2
  try clear hfz47_0
  try clear hfz47_1
  try clear hfz47_2
  try clear hfz48_0
  try clear hfz48_1
  try clear hfz48_2
  try clear hfz54_0
  try clear hfz54_1
  try clear hfz54_2
  try clear hfz56_0
  try clear hfz56_1
  try clear hfz56_2
  try clear hfz58_0
  try clear hfz58_1
  try clear hfz58_2
  try clear hfz59_0
  try clear hfz59_1
  try clear hfz59_2
  try clear hfz64_0
  try clear hfz64_1
  try clear hfz64_2
  try clear hfz66_0
  try clear hfz66_1
  try clear hfz66_2
  try clear hfz68_0
  try clear hfz68_1
  try clear hfz68_2
  try clear hfz69_0
  try clear hfz69_1
  try clear hfz69_2
  try clear hfz73_0
  try clear hfz73_1
  try clear hfz73_2
  try clear hfz75_0
  try clear hfz75_1
  try clear hfz75_2
  try clear hfz77_0
  try clear hfz77_1
  try clear hfz77_2
  try clear hfz78_0
  try clear hfz78_1
  try clear hfz78_2
  try clear hfz84_0
  try clear hfz84_1
  try clear hfz84_2
  try clear hfz86_0
  try clear hfz86_1
  try clear hfz86_2
  try clear hfz88_0
  try clear hfz88_1
  try clear hfz88_2
  try clear hfz89_0
  try clear hfz89_1
  try clear hfz89_2
  try clear hfz94_0
  try clear hfz94_1
  try clear hfz94_2
  try clear hfz96_0
  try clear hfz96_1
  try clear hfz96_2
  try clear hfz98_0
  try clear hfz98_1
  try clear hfz98_2
  try clear hfz99_0
  try clear hfz99_1
  try clear hfz99_2
  obtain ⟨kq, x72_8, rfl, HA, HJ8, BK214, BK215, BK216, HB⟩ := hcut
  cases kq with
  | zero => exact absurd HA.out (by simp [L06_HlcRises.j0])
  | succ kj8 =>
   have H := HA.out
   clear HA
   simp only [L06_HlcRises.j0] at H
   by_cases c155 : x72_8 = true
   ·
    subst c155
    have H1 : (some false) = some r := by rw [if_pos rfl] at H; exact H
    clear H
    have H := H1
    clear H1
    exact absurd (H.trans (congrArg some HLAW.out)) (by simp)
   ·
    replace c155 := Bool.eq_false_iff.mpr c155
    subst c155
    have H1 : ((hlc_Later.f kj8 a0_0 a0_1 a0_2 a1_0 a1_1 a1_2).bind fun bt222 => ((keep_Stamp.f bt222.1 bt222.2.1 bt222.2.2 a0_0 a0_1 a0_2).bind fun t226 => (if t226 = true then ((hlc_Compare.f kj8 bt222.1 bt222.2.1 bt222.2.2 a0_0 a0_1 a0_2).bind fun t227 => (if t227 < 0 then (L06_HlcRises.j1 kj8 a3 a4 true a0_0 a0_1 a0_2) else ((hlc_Compare.f kj8 bt222.1 bt222.2.1 bt222.2.2 a1_0 a1_1 a1_2).bind fun t228 => (L06_HlcRises.j1 kj8 a3 a4 (decide (t228 < 0)) a0_0 a0_1 a0_2)))) else ((keep_Stamp.f bt222.1 bt222.2.1 bt222.2.2 a1_0 a1_1 a1_2).bind fun t229 => (if t229 = true then ((hlc_Compare.f kj8 bt222.1 bt222.2.1 bt222.2.2 a0_0 a0_1 a0_2).bind fun t230 => (if t230 < 0 then (L06_HlcRises.j1 kj8 a3 a4 true a0_0 a0_1 a0_2) else ((hlc_Compare.f kj8 bt222.1 bt222.2.1 bt222.2.2 a1_0 a1_1 a1_2).bind fun t231 => (L06_HlcRises.j1 kj8 a3 a4 (decide (t231 < 0)) a0_0 a0_1 a0_2)))) else (L06_HlcRises.j1 kj8 a3 a4 true a0_0 a0_1 a0_2)))))) = some r := by rw [if_neg (show ¬ (false = true) by decide)] at H; exact H
    clear H
    have H := H1
    clear H1
    replace H := Option.bind_eq_some_iff.mp H
    obtain ⟨⟨t222, t223, t224⟩, A1560, H⟩ := H
    replace H : ((keep_Stamp.f t222 t223 t224 a0_0 a0_1 a0_2).bind fun t226 => (if t226 = true then ((hlc_Compare.f kj8 t222 t223 t224 a0_0 a0_1 a0_2).bind fun t227 => (if t227 < 0 then (L06_HlcRises.j1 kj8 a3 a4 true a0_0 a0_1 a0_2) else ((hlc_Compare.f kj8 t222 t223 t224 a1_0 a1_1 a1_2).bind fun t228 => (L06_HlcRises.j1 kj8 a3 a4 (decide (t228 < 0)) a0_0 a0_1 a0_2)))) else ((keep_Stamp.f t222 t223 t224 a1_0 a1_1 a1_2).bind fun t229 => (if t229 = true then ((hlc_Compare.f kj8 t222 t223 t224 a0_0 a0_1 a0_2).bind fun t230 => (if t230 < 0 then (L06_HlcRises.j1 kj8 a3 a4 true a0_0 a0_1 a0_2) else ((hlc_Compare.f kj8 t222 t223 t224 a1_0 a1_1 a1_2).bind fun t231 => (L06_HlcRises.j1 kj8 a3 a4 (decide (t231 < 0)) a0_0 a0_1 a0_2)))) else (L06_HlcRises.j1 kj8 a3 a4 true a0_0 a0_1 a0_2))))) = some r := H
    have A156 := am A1560
    clear A1560
    have HC157 := am H
    clear H
    have hnb158 := NB214_215.out
    have hnc158 := NB215_214.out
    have hnb159 := NB214_216.out
    have hnc159 := NB216_214.out
    have hcz160_0 : wc.cell? ⟨gb214, 0, none⟩ = some (.int .i64 a0_0) := (blk_cell BK214.out 0).trans rfl
    have hcz160_1 : wc.cell? ⟨gb214, 1, none⟩ = some (.int .i64 a0_1) := (blk_cell BK214.out 1).trans rfl
    have hcz160_2 : wc.cell? ⟨gb214, 2, none⟩ = some (.int .i64 a0_2) := (blk_cell BK214.out 2).trans rfl
    have hfz160_0 := blk_frozen BK214.out 0
    have hfz160_1 := blk_frozen BK214.out 1
    have hfz160_2 := blk_frozen BK214.out 2
    have hnb161 := NB215_216.out
    have hnc161 := NB216_215.out
    have hcz162_0 : wc.cell? ⟨gb215, 0, none⟩ = some (.int .i64 a1_0) := (blk_cell BK215.out 0).trans rfl
    have hcz162_1 : wc.cell? ⟨gb215, 1, none⟩ = some (.int .i64 a1_1) := (blk_cell BK215.out 1).trans rfl
    have hcz162_2 : wc.cell? ⟨gb215, 2, none⟩ = some (.int .i64 a1_2) := (blk_cell BK215.out 2).trans rfl
    have hfz162_0 := blk_frozen BK215.out 0
    have hfz162_1 := blk_frozen BK215.out 1
    have hfz162_2 := blk_frozen BK215.out 2
    go_upto_region 5 with (first | ((with_reducible refine gate_callee (f := 17) rfl ?_); refine goesL_ (some 75) rfl rfl Try.func17 (by kernel_rfl) rfl #[.agg #[.int .i64 a0_0, .int .i64 a0_1, .int .i64 a0_2], .agg #[.int .i64 a1_0, .int .i64 a1_1, .int .i64 a1_2]] rfl (by (try simp only [List.map_toArray, List.map_cons, List.map_nil]); first | done | rfl | (simp only [List.length_drop, List.length_take]; rfl)) ?_; (with_reducible refine (hlc_Later.calls kj8 a0_0 a0_1 a0_2 a1_0 a1_1 a1_2 t222 t223 t224 _ A156.out).mono ?_); rintro e w163 ⟨rfl, hb⟩; refine ⟨_, rfl, ?_⟩; have n0_ := am (blk_below (g := gb214) (o := .cells #[.int .i64 a0_0, .int .i64 a0_1, .int .i64 a0_2] 24 (0, 0)) (by (with_reducible repeat (first | refine blk_drewN ?_ _ | refine blk_drew ?_ | refine blk_alloc ?_ _)); exact BK214.out) hb); have n1_ := am (blk_below (g := gb215) (o := .cells #[.int .i64 a1_0, .int .i64 a1_1, .int .i64 a1_2] 24 (0, 0)) (by (with_reducible repeat (first | refine blk_drewN ?_ _ | refine blk_drew ?_ | refine blk_alloc ?_ _)); exact BK215.out) hb); have n2_ := am (blk_below (g := gb216) (o := .cells #[.int .i64 a2_0, .int .i64 a2_1, .int .i64 a2_2] 24 (0, 0)) (by (with_reducible repeat (first | refine blk_drewN ?_ _ | refine blk_drew ?_ | refine blk_alloc ?_ _)); exact BK216.out) hb); have n3_ := am (below_step (by repeat (first | (with_reducible first | exact HB.out | apply below_alloc | apply pw_below_drewN | apply below_drew1 | refine below_set ?_ GE214.out | refine below_set ?_ GE215.out | refine below_set ?_ GE216.out) | exact HB.out)) hb); clear BK214; clear BK215; clear BK216; clear HB; have BK214 := n0_; have BK215 := n1_; have BK216 := n2_; have HB := n3_; clear n0_ n1_ n2_ n3_; (try clear hb); (try clear hb2); (try clear hk); (try clear hi)) | ((with_reducible refine gate_dst (N := 14) rfl ?_); refine box_event ?hg (N := 14) ?hd (cs := #[.int .i64 0, .int .i64 0, .int .i64 0]) (t := 24) ?hr ?_; (case hd => rfl); (case hg => rfl); (case hr => first | (go_simp; done) | (go_simp; rfl)); intro gb225 hg w164 hbox hb; have n0_ := am (blk_below (g := gb214) (o := .cells #[.int .i64 a0_0, .int .i64 a0_1, .int .i64 a0_2] 24 (0, 0)) (by (with_reducible repeat (first | refine blk_drewN ?_ _ | refine blk_drew ?_ | refine blk_alloc ?_ _)); exact BK214.out) hb); have n1_ := am (blk_below (g := gb215) (o := .cells #[.int .i64 a1_0, .int .i64 a1_1, .int .i64 a1_2] 24 (0, 0)) (by (with_reducible repeat (first | refine blk_drewN ?_ _ | refine blk_drew ?_ | refine blk_alloc ?_ _)); exact BK215.out) hb); have n2_ := am (blk_below (g := gb216) (o := .cells #[.int .i64 a2_0, .int .i64 a2_1, .int .i64 a2_2] 24 (0, 0)) (by (with_reducible repeat (first | refine blk_drewN ?_ _ | refine blk_drew ?_ | refine blk_alloc ?_ _)); exact BK216.out) hb); have n3_ := am (below_step (by repeat (first | (with_reducible first | exact HB.out | apply below_alloc | apply pw_below_drewN | apply below_drew1 | refine below_set ?_ GE214.out | refine below_set ?_ GE215.out | refine below_set ?_ GE216.out) | exact HB.out)) hb); have n4_ := am (hbox); have n5_ := am ((by rw [hg]; exact (below_size (by repeat (first | (with_reducible first | exact HB.out | apply below_alloc | apply pw_below_drewN | apply below_drew1 | refine below_set ?_ GE214.out | refine below_set ?_ GE215.out | refine below_set ?_ GE216.out) | exact HB.out))) : w.heap.size ≤ gb225)); have n6_ := am ((by rw [hg]; exact (below_size (by repeat (first | (with_reducible first | exact HB.out | apply below_alloc | apply pw_below_drewN | apply below_drew1 | refine below_set ?_ GE214.out | refine below_set ?_ GE215.out | refine below_set ?_ GE216.out) | exact HB.out))) : w.heap.size ≤ gb225)); have n7_ := am ((by rw [hg]; exact Nat.ne_of_lt (blk_lt (g := gb214) (o := .cells #[.int .i64 a0_0, .int .i64 a0_1, .int .i64 a0_2] 24 (0, 0)) (by (with_reducible repeat (first | refine blk_drewN ?_ _ | refine blk_drew ?_ | refine blk_alloc ?_ _)); exact BK214.out)) : gb214 ≠ gb225)); have n8_ := am ((by rw [hg]; exact Nat.ne_of_gt (blk_lt (g := gb214) (o := .cells #[.int .i64 a0_0, .int .i64 a0_1, .int .i64 a0_2] 24 (0, 0)) (by (with_reducible repeat (first | refine blk_drewN ?_ _ | refine blk_drew ?_ | refine blk_alloc ?_ _)); exact BK214.out)) : gb225 ≠ gb214)); have n9_ := am ((by rw [hg]; exact Nat.ne_of_lt (blk_lt (g := gb215) (o := .cells #[.int .i64 a1_0, .int .i64 a1_1, .int .i64 a1_2] 24 (0, 0)) (by (with_reducible repeat (first | refine blk_drewN ?_ _ | refine blk_drew ?_ | refine blk_alloc ?_ _)); exact BK215.out)) : gb215 ≠ gb225)); have n10_ := am ((by rw [hg]; exact Nat.ne_of_gt (blk_lt (g := gb215) (o := .cells #[.int .i64 a1_0, .int .i64 a1_1, .int .i64 a1_2] 24 (0, 0)) (by (with_reducible repeat (first | refine blk_drewN ?_ _ | refine blk_drew ?_ | refine blk_alloc ?_ _)); exact BK215.out)) : gb225 ≠ gb215)); have n11_ := am ((by rw [hg]; exact Nat.ne_of_lt (blk_lt (g := gb216) (o := .cells #[.int .i64 a2_0, .int .i64 a2_1, .int .i64 a2_2] 24 (0, 0)) (by (with_reducible repeat (first | refine blk_drewN ?_ _ | refine blk_drew ?_ | refine blk_alloc ?_ _)); exact BK216.out)) : gb216 ≠ gb225)); have n12_ := am ((by rw [hg]; exact Nat.ne_of_gt (blk_lt (g := gb216) (o := .cells #[.int .i64 a2_0, .int .i64 a2_1, .int .i64 a2_2] 24 (0, 0)) (by (with_reducible repeat (first | refine blk_drewN ?_ _ | refine blk_drew ?_ | refine blk_alloc ?_ _)); exact BK216.out)) : gb225 ≠ gb216)); clear BK214; clear BK215; clear BK216; clear HB; have BK214 := n0_; have BK215 := n1_; have BK216 := n2_; have HB := n3_; have BK225 := n4_; have GW225 := n5_; have GE225 := n6_; have NB214_225 := n7_; have NB225_214 := n8_; have NB215_225 := n9_; have NB225_215 := n10_; have NB216_225 := n11_; have NB225_216 := n12_; clear n0_ n1_ n2_ n3_ n4_ n5_ n6_ n7_ n8_ n9_ n10_ n11_ n12_; clear hb hbox hg; have hnb165 := NB225_214.out; have hnc165 := NB214_225.out; have hnb166 := NB225_215.out; have hnc166 := NB215_225.out; have hnb167 := NB225_216.out; have hnc167 := NB216_225.out; have hcz168_0 : w164.cell? ⟨gb225, 0, none⟩ = some (.int .i64 0) := (blk_cell BK225.out 0).trans rfl; have hcz168_1 : w164.cell? ⟨gb225, 1, none⟩ = some (.int .i64 0) := (blk_cell BK225.out 1).trans rfl; have hcz168_2 : w164.cell? ⟨gb225, 2, none⟩ = some (.int .i64 0) := (blk_cell BK225.out 2).trans rfl; have hfz168_0 := blk_frozen BK225.out 0; have hfz168_1 := blk_frozen BK225.out 1; have hfz168_2 := blk_frozen BK225.out 2))
    (try simp only [Act.put, List.setIfInBounds_toArray, List.set_cons_zero, List.set_cons_succ])
    go_cut [97] (fun v97 wc => ∃ (kq : Nat) (x97_156 : Bool), v97 = .bool x97_156 ∧ Aside0 (L06_HlcRises.j1 kq a3 a4 x97_156 a0_0 a0_1 a0_2 = some r) ∧ Aside0 (kq ≤ kj8) ∧ Aside0 (wc.heap[gb214]? = some (.cells #[.int .i64 a0_0, .int .i64 a0_1, .int .i64 a0_2] 24 (0, 0))) ∧ Aside0 (wc.heap[gb215]? = some (.cells #[.int .i64 a1_0, .int .i64 a1_1, .int .i64 a1_2] 24 (0, 0))) ∧ Aside0 (wc.heap[gb216]? = some (.cells #[.int .i64 a2_0, .int .i64 a2_1, .int .i64 a2_2] 24 (0, 0))) ∧ Aside0 (wc.heap[gb225]? = some (.cells #[.int .i64 t222, .int .i64 t223, .int .i64 t224] 24 (0, 0))) ∧ Aside0 (Below w.heap.size w wc))
    case first =>
     have H := HC157.out
     clear HC157
     replace H := Option.bind_eq_some_iff.mp H
     obtain ⟨t226, A1690, H⟩ := H
     replace H : (if t226 = true then ((hlc_Compare.f kj8 t222 t223 t224 a0_0 a0_1 a0_2).bind fun t227 => (if t227 < 0 then (L06_HlcRises.j1 kj8 a3 a4 true a0_0 a0_1 a0_2) else ((hlc_Compare.f kj8 t222 t223 t224 a1_0 a1_1 a1_2).bind fun t228 => (L06_HlcRises.j1 kj8 a3 a4 (decide (t228 < 0)) a0_0 a0_1 a0_2)))) else ((keep_Stamp.f t222 t223 t224 a1_0 a1_1 a1_2).bind fun t229 => (if t229 = true then ((hlc_Compare.f kj8 t222 t223 t224 a0_0 a0_1 a0_2).bind fun t230 => (if t230 < 0 then (L06_HlcRises.j1 kj8 a3 a4 true a0_0 a0_1 a0_2) else ((hlc_Compare.f kj8 t222 t223 t224 a1_0 a1_1 a1_2).bind fun t231 => (L06_HlcRises.j1 kj8 a3 a4 (decide (t231 < 0)) a0_0 a0_1 a0_2)))) else (L06_HlcRises.j1 kj8 a3 a4 true a0_0 a0_1 a0_2)))) = some r := H
     have A169 := am A1690
     clear A1690
     by_cases c170 : t226 = true
     ·
      subst c170
      have H1 : ((hlc_Compare.f kj8 t222 t223 t224 a0_0 a0_1 a0_2).bind fun t227 => (if t227 < 0 then (L06_HlcRises.j1 kj8 a3 a4 true a0_0 a0_1 a0_2) else ((hlc_Compare.f kj8 t222 t223 t224 a1_0 a1_1 a1_2).bind fun t228 => (L06_HlcRises.j1 kj8 a3 a4 (decide (t228 < 0)) a0_0 a0_1 a0_2)))) = some r := by rw [if_pos rfl] at H; exact H
      clear H
      have H := H1
      clear H1
      replace H := Option.bind_eq_some_iff.mp H
      obtain ⟨t227, A1710, H⟩ := H
      replace H : (if t227 < 0 then (L06_HlcRises.j1 kj8 a3 a4 true a0_0 a0_1 a0_2) else ((hlc_Compare.f kj8 t222 t223 t224 a1_0 a1_1 a1_2).bind fun t228 => (L06_HlcRises.j1 kj8 a3 a4 (decide (t228 < 0)) a0_0 a0_1 a0_2))) = some r := H
      have A171 := am A1710
      clear A1710
      by_cases c172 : t227 < 0
      ·
       rw [if_pos c172] at H
       have c172b0 : decide (t227 < 0) = true := decide_eq_true c172
       clear c172
       (first | rw [c172b0] | (simp only [i64_w, i32_w]; rw [c172b0]) | skip)
       have H' := am H
       clear H
       have hnb173 := NB225_214.out
       have hnc173 := NB214_225.out
       have hnb174 := NB225_215.out
       have hnc174 := NB215_225.out
       have hnb175 := NB225_216.out
       have hnc175 := NB216_225.out
       have hcz176_0 : w164.cell? ⟨gb225, 0, none⟩ = some (.int .i64 0) := (blk_cell BK225.out 0).trans rfl
       have hcz176_1 : w164.cell? ⟨gb225, 1, none⟩ = some (.int .i64 0) := (blk_cell BK225.out 1).trans rfl
       have hcz176_2 : w164.cell? ⟨gb225, 2, none⟩ = some (.int .i64 0) := (blk_cell BK225.out 2).trans rfl
       have hfz176_0 := blk_frozen BK225.out 0
       have hfz176_1 := blk_frozen BK225.out 1
       have hfz176_2 := blk_frozen BK225.out 2
       have hnb177 := NB214_215.out
       have hnc177 := NB215_214.out
       have hnb178 := NB214_216.out
       have hnc178 := NB216_214.out
       have hcz179_0 : w164.cell? ⟨gb214, 0, none⟩ = some (.int .i64 a0_0) := (blk_cell BK214.out 0).trans rfl
       have hcz179_1 : w164.cell? ⟨gb214, 1, none⟩ = some (.int .i64 a0_1) := (blk_cell BK214.out 1).trans rfl
       have hcz179_2 : w164.cell? ⟨gb214, 2, none⟩ = some (.int .i64 a0_2) := (blk_cell BK214.out 2).trans rfl
       have hfz179_0 := blk_frozen BK214.out 0
       have hfz179_1 := blk_frozen BK214.out 1
       have hfz179_2 := blk_frozen BK214.out 2
       go_wp2_with (first | ((with_reducible refine gate_callee (f := 16) rfl ?_); refine goesL_ (some 78) rfl rfl Try.func16 (by kernel_rfl) rfl #[.agg #[.int .i64 t222, .int .i64 t223, .int .i64 t224], .agg #[.int .i64 a0_0, .int .i64 a0_1, .int .i64 a0_2]] rfl (by (try simp only [List.map_toArray, List.map_cons, List.map_nil]); first | done | rfl | (simp only [List.length_drop, List.length_take]; rfl)) ?_; (with_reducible refine (keep_Stamp.calls t222 t223 t224 a0_0 a0_1 a0_2 true _ A169.out).mono ?_); rintro e w180 ⟨rfl, hb⟩; refine ⟨_, rfl, ?_⟩; have n0_ := am (blk_below (g := gb214) (o := .cells #[.int .i64 a0_0, .int .i64 a0_1, .int .i64 a0_2] 24 (0, 0)) (by (with_reducible repeat (first | refine blk_drewN ?_ _ | refine blk_drew ?_ | refine blk_alloc ?_ _)); refine blk_far ?_ NB214_225.out _; (with_reducible repeat (first | refine blk_drewN ?_ _ | refine blk_drew ?_ | refine blk_alloc ?_ _)); refine blk_far ?_ NB214_225.out _; (with_reducible repeat (first | refine blk_drewN ?_ _ | refine blk_drew ?_ | refine blk_alloc ?_ _)); refine blk_far ?_ NB214_225.out _; (with_reducible repeat (first | refine blk_drewN ?_ _ | refine blk_drew ?_ | refine blk_alloc ?_ _)); exact BK214.out) hb); have n1_ := am (blk_below (g := gb215) (o := .cells #[.int .i64 a1_0, .int .i64 a1_1, .int .i64 a1_2] 24 (0, 0)) (by (with_reducible repeat (first | refine blk_drewN ?_ _ | refine blk_drew ?_ | refine blk_alloc ?_ _)); refine blk_far ?_ NB215_225.out _; (with_reducible repeat (first | refine blk_drewN ?_ _ | refine blk_drew ?_ | refine blk_alloc ?_ _)); refine blk_far ?_ NB215_225.out _; (with_reducible repeat (first | refine blk_drewN ?_ _ | refine blk_drew ?_ | refine blk_alloc ?_ _)); refine blk_far ?_ NB215_225.out _; (with_reducible repeat (first | refine blk_drewN ?_ _ | refine blk_drew ?_ | refine blk_alloc ?_ _)); exact BK215.out) hb); have n2_ := am (blk_below (g := gb216) (o := .cells #[.int .i64 a2_0, .int .i64 a2_1, .int .i64 a2_2] 24 (0, 0)) (by (with_reducible repeat (first | refine blk_drewN ?_ _ | refine blk_drew ?_ | refine blk_alloc ?_ _)); refine blk_far ?_ NB216_225.out _; (with_reducible repeat (first | refine blk_drewN ?_ _ | refine blk_drew ?_ | refine blk_alloc ?_ _)); refine blk_far ?_ NB216_225.out _; (with_reducible repeat (first | refine blk_drewN ?_ _ | refine blk_drew ?_ | refine blk_alloc ?_ _)); refine blk_far ?_ NB216_225.out _; (with_reducible repeat (first | refine blk_drewN ?_ _ | refine blk_drew ?_ | refine blk_alloc ?_ _)); exact BK216.out) hb); have n3_ := am (blk_below (g := gb225) (o := .cells #[.int .i64 t222, .int .i64 t223, .int .i64 t224] 24 (0, 0)) (by (with_reducible repeat (first | refine blk_drewN ?_ _ | refine blk_drew ?_ | refine blk_alloc ?_ _)); refine blk_put (cs := #[.int .i64 t222, .int .i64 t223, .int .i64 0]) ?_ 2 _ rfl; (with_reducible repeat (first | refine blk_drewN ?_ _ | refine blk_drew ?_ | refine blk_alloc ?_ _)); refine blk_put (cs := #[.int .i64 t222, .int .i64 0, .int .i64 0]) ?_ 1 _ rfl; (with_reducible repeat (first | refine blk_drewN ?_ _ | refine blk_drew ?_ | refine blk_alloc ?_ _)); refine blk_put (cs := #[.int .i64 0, .int .i64 0, .int .i64 0]) ?_ 0 _ rfl; (with_reducible repeat (first | refine blk_drewN ?_ _ | refine blk_drew ?_ | refine blk_alloc ?_ _)); exact BK225.out) hb); have n4_ := am (below_step (by repeat (first | (with_reducible first | exact HB.out | apply below_alloc | apply pw_below_drewN | apply below_drew1 | refine below_set ?_ GE214.out | refine below_set ?_ GE215.out | refine below_set ?_ GE216.out | refine below_set ?_ GE225.out) | exact HB.out)) hb); clear BK214; clear BK215; clear BK216; clear BK225; clear HB; have BK214 := n0_; have BK215 := n1_; have BK216 := n2_; have BK225 := n3_; have HB := n4_; clear n0_ n1_ n2_ n3_ n4_; (try clear hb); (try clear hb2); (try clear hk); (try clear hi); have hcz181_0 : w180.cell? ⟨gb225, 0, none⟩ = some (.int .i64 t222) := (blk_cell BK225.out 0).trans rfl; have hcz181_1 : w180.cell? ⟨gb225, 1, none⟩ = some (.int .i64 t223) := (blk_cell BK225.out 1).trans rfl; have hcz181_2 : w180.cell? ⟨gb225, 2, none⟩ = some (.int .i64 t224) := (blk_cell BK225.out 2).trans rfl; have hfz181_0 := blk_frozen BK225.out 0; have hfz181_1 := blk_frozen BK225.out 1; have hfz181_2 := blk_frozen BK225.out 2; have hcz182_0 : w180.cell? ⟨gb214, 0, none⟩ = some (.int .i64 a0_0) := (blk_cell BK214.out 0).trans rfl; have hcz182_1 : w180.cell? ⟨gb214, 1, none⟩ = some (.int .i64 a0_1) := (blk_cell BK214.out 1).trans rfl; have hcz182_2 : w180.cell? ⟨gb214, 2, none⟩ = some (.int .i64 a0_2) := (blk_cell BK214.out 2).trans rfl; have hfz182_0 := blk_frozen BK214.out 0; have hfz182_1 := blk_frozen BK214.out 1; have hfz182_2 := blk_frozen BK214.out 2) | (go_at_call 10; (with_reducible refine (hlc_Compare.calls kj8 t222 t223 t224 a0_0 a0_1 a0_2 t227 _ A171.out).mono ?_); rintro e w183 ⟨rfl, hb⟩; have n0_ := am (blk_below (g := gb214) (o := .cells #[.int .i64 a0_0, .int .i64 a0_1, .int .i64 a0_2] 24 (0, 0)) (by (with_reducible repeat (first | refine blk_drewN ?_ _ | refine blk_drew ?_ | refine blk_alloc ?_ _)); exact BK214.out) hb); have n1_ := am (blk_below (g := gb215) (o := .cells #[.int .i64 a1_0, .int .i64 a1_1, .int .i64 a1_2] 24 (0, 0)) (by (with_reducible repeat (first | refine blk_drewN ?_ _ | refine blk_drew ?_ | refine blk_alloc ?_ _)); exact BK215.out) hb); have n2_ := am (blk_below (g := gb216) (o := .cells #[.int .i64 a2_0, .int .i64 a2_1, .int .i64 a2_2] 24 (0, 0)) (by (with_reducible repeat (first | refine blk_drewN ?_ _ | refine blk_drew ?_ | refine blk_alloc ?_ _)); exact BK216.out) hb); have n3_ := am (blk_below (g := gb225) (o := .cells #[.int .i64 t222, .int .i64 t223, .int .i64 t224] 24 (0, 0)) (by (with_reducible repeat (first | refine blk_drewN ?_ _ | refine blk_drew ?_ | refine blk_alloc ?_ _)); exact BK225.out) hb); have n4_ := am (below_step (by repeat (first | (with_reducible first | exact HB.out | apply below_alloc | apply pw_below_drewN | apply below_drew1 | refine below_set ?_ GE214.out | refine below_set ?_ GE215.out | refine below_set ?_ GE216.out | refine below_set ?_ GE225.out) | exact HB.out)) hb); clear BK214; clear BK215; clear BK216; clear BK225; clear HB; have BK214 := n0_; have BK215 := n1_; have BK216 := n2_; have BK225 := n3_; have HB := n4_; clear n0_ n1_ n2_ n3_ n4_; (try clear hb); (try clear hb2); (try clear hk); (try clear hi)))
       go_meet
       case rel => exact ⟨_, (true), (by first | rfl | (simp; done) | (simp [*]; done)), H', ⟨by have := HJ8.out; first | omega | exact Nat.le_refl _⟩, ⟨by (with_reducible repeat (first | refine blk_drewN ?_ _ | refine blk_drew ?_ | refine blk_alloc ?_ _)); exact BK214.out⟩, ⟨by (with_reducible repeat (first | refine blk_drewN ?_ _ | refine blk_drew ?_ | refine blk_alloc ?_ _)); exact BK215.out⟩, ⟨by (with_reducible repeat (first | refine blk_drewN ?_ _ | refine blk_drew ?_ | refine blk_alloc ?_ _)); exact BK216.out⟩, ⟨by (with_reducible repeat (first | refine blk_drewN ?_ _ | refine blk_drew ?_ | refine blk_alloc ?_ _)); exact BK225.out⟩, ⟨by repeat (first | (with_reducible first | exact HB.out | apply below_alloc | apply pw_below_drewN | apply below_drew1 | refine below_set ?_ GE214.out | refine below_set ?_ GE215.out | refine below_set ?_ GE216.out | refine below_set ?_ GE225.out) | exact HB.out)⟩⟩
      ·
       rw [if_neg c172] at H
       have c172b0 : decide (t227 < 0) = false := decide_eq_false c172
       clear c172
       (first | rw [c172b0] | (simp only [i64_w, i32_w]; rw [c172b0]) | skip)
       replace H := Option.bind_eq_some_iff.mp H
       obtain ⟨t228, A1840, H⟩ := H
       replace H : (L06_HlcRises.j1 kj8 a3 a4 (decide (t228 < 0)) a0_0 a0_1 a0_2) = some r := H
       have A184 := am A1840
       clear A1840
       have H' := am H
       clear H
       have hnb185 := NB225_214.out
       have hnc185 := NB214_225.out
       have hnb186 := NB225_215.out
       have hnc186 := NB215_225.out
       have hnb187 := NB225_216.out
       have hnc187 := NB216_225.out
       have hcz188_0 : w164.cell? ⟨gb225, 0, none⟩ = some (.int .i64 0) := (blk_cell BK225.out 0).trans rfl
       have hcz188_1 : w164.cell? ⟨gb225, 1, none⟩ = some (.int .i64 0) := (blk_cell BK225.out 1).trans rfl
       have hcz188_2 : w164.cell? ⟨gb225, 2, none⟩ = some (.int .i64 0) := (blk_cell BK225.out 2).trans rfl
       have hfz188_0 := blk_frozen BK225.out 0
       have hfz188_1 := blk_frozen BK225.out 1
       have hfz188_2 := blk_frozen BK225.out 2
       have hnb189 := NB214_215.out
       have hnc189 := NB215_214.out
       have hnb190 := NB214_216.out
       have hnc190 := NB216_214.out
       have hcz191_0 : w164.cell? ⟨gb214, 0, none⟩ = some (.int .i64 a0_0) := (blk_cell BK214.out 0).trans rfl
       have hcz191_1 : w164.cell? ⟨gb214, 1, none⟩ = some (.int .i64 a0_1) := (blk_cell BK214.out 1).trans rfl
       have hcz191_2 : w164.cell? ⟨gb214, 2, none⟩ = some (.int .i64 a0_2) := (blk_cell BK214.out 2).trans rfl
       have hfz191_0 := blk_frozen BK214.out 0
       have hfz191_1 := blk_frozen BK214.out 1
       have hfz191_2 := blk_frozen BK214.out 2
       go_wp2_with (first | ((with_reducible refine gate_callee (f := 16) rfl ?_); refine goesL_ (some 78) rfl rfl Try.func16 (by kernel_rfl) rfl #[.agg #[.int .i64 t222, .int .i64 t223, .int .i64 t224], .agg #[.int .i64 a0_0, .int .i64 a0_1, .int .i64 a0_2]] rfl (by (try simp only [List.map_toArray, List.map_cons, List.map_nil]); first | done | rfl | (simp only [List.length_drop, List.length_take]; rfl)) ?_; (with_reducible refine (keep_Stamp.calls t222 t223 t224 a0_0 a0_1 a0_2 true _ A169.out).mono ?_); rintro e w192 ⟨rfl, hb⟩; refine ⟨_, rfl, ?_⟩; have n0_ := am (blk_below (g := gb214) (o := .cells #[.int .i64 a0_0, .int .i64 a0_1, .int .i64 a0_2] 24 (0, 0)) (by (with_reducible repeat (first | refine blk_drewN ?_ _ | refine blk_drew ?_ | refine blk_alloc ?_ _)); refine blk_far ?_ NB214_225.out _; (with_reducible repeat (first | refine blk_drewN ?_ _ | refine blk_drew ?_ | refine blk_alloc ?_ _)); refine blk_far ?_ NB214_225.out _; (with_reducible repeat (first | refine blk_drewN ?_ _ | refine blk_drew ?_ | refine blk_alloc ?_ _)); refine blk_far ?_ NB214_225.out _; (with_reducible repeat (first | refine blk_drewN ?_ _ | refine blk_drew ?_ | refine blk_alloc ?_ _)); exact BK214.out) hb); have n1_ := am (blk_below (g := gb215) (o := .cells #[.int .i64 a1_0, .int .i64 a1_1, .int .i64 a1_2] 24 (0, 0)) (by (with_reducible repeat (first | refine blk_drewN ?_ _ | refine blk_drew ?_ | refine blk_alloc ?_ _)); refine blk_far ?_ NB215_225.out _; (with_reducible repeat (first | refine blk_drewN ?_ _ | refine blk_drew ?_ | refine blk_alloc ?_ _)); refine blk_far ?_ NB215_225.out _; (with_reducible repeat (first | refine blk_drewN ?_ _ | refine blk_drew ?_ | refine blk_alloc ?_ _)); refine blk_far ?_ NB215_225.out _; (with_reducible repeat (first | refine blk_drewN ?_ _ | refine blk_drew ?_ | refine blk_alloc ?_ _)); exact BK215.out) hb); have n2_ := am (blk_below (g := gb216) (o := .cells #[.int .i64 a2_0, .int .i64 a2_1, .int .i64 a2_2] 24 (0, 0)) (by (with_reducible repeat (first | refine blk_drewN ?_ _ | refine blk_drew ?_ | refine blk_alloc ?_ _)); refine blk_far ?_ NB216_225.out _; (with_reducible repeat (first | refine blk_drewN ?_ _ | refine blk_drew ?_ | refine blk_alloc ?_ _)); refine blk_far ?_ NB216_225.out _; (with_reducible repeat (first | refine blk_drewN ?_ _ | refine blk_drew ?_ | refine blk_alloc ?_ _)); refine blk_far ?_ NB216_225.out _; (with_reducible repeat (first | refine blk_drewN ?_ _ | refine blk_drew ?_ | refine blk_alloc ?_ _)); exact BK216.out) hb); have n3_ := am (blk_below (g := gb225) (o := .cells #[.int .i64 t222, .int .i64 t223, .int .i64 t224] 24 (0, 0)) (by (with_reducible repeat (first | refine blk_drewN ?_ _ | refine blk_drew ?_ | refine blk_alloc ?_ _)); refine blk_put (cs := #[.int .i64 t222, .int .i64 t223, .int .i64 0]) ?_ 2 _ rfl; (with_reducible repeat (first | refine blk_drewN ?_ _ | refine blk_drew ?_ | refine blk_alloc ?_ _)); refine blk_put (cs := #[.int .i64 t222, .int .i64 0, .int .i64 0]) ?_ 1 _ rfl; (with_reducible repeat (first | refine blk_drewN ?_ _ | refine blk_drew ?_ | refine blk_alloc ?_ _)); refine blk_put (cs := #[.int .i64 0, .int .i64 0, .int .i64 0]) ?_ 0 _ rfl; (with_reducible repeat (first | refine blk_drewN ?_ _ | refine blk_drew ?_ | refine blk_alloc ?_ _)); exact BK225.out) hb); have n4_ := am (below_step (by repeat (first | (with_reducible first | exact HB.out | apply below_alloc | apply pw_below_drewN | apply below_drew1 | refine below_set ?_ GE214.out | refine below_set ?_ GE215.out | refine below_set ?_ GE216.out | refine below_set ?_ GE225.out) | exact HB.out)) hb); clear BK214; clear BK215; clear BK216; clear BK225; clear HB; have BK214 := n0_; have BK215 := n1_; have BK216 := n2_; have BK225 := n3_; have HB := n4_; clear n0_ n1_ n2_ n3_ n4_; (try clear hb); (try clear hb2); (try clear hk); (try clear hi); have hcz193_0 : w192.cell? ⟨gb225, 0, none⟩ = some (.int .i64 t222) := (blk_cell BK225.out 0).trans rfl; have hcz193_1 : w192.cell? ⟨gb225, 1, none⟩ = some (.int .i64 t223) := (blk_cell BK225.out 1).trans rfl; have hcz193_2 : w192.cell? ⟨gb225, 2, none⟩ = some (.int .i64 t224) := (blk_cell BK225.out 2).trans rfl; have hfz193_0 := blk_frozen BK225.out 0; have hfz193_1 := blk_frozen BK225.out 1; have hfz193_2 := blk_frozen BK225.out 2; have hcz194_0 : w192.cell? ⟨gb214, 0, none⟩ = some (.int .i64 a0_0) := (blk_cell BK214.out 0).trans rfl; have hcz194_1 : w192.cell? ⟨gb214, 1, none⟩ = some (.int .i64 a0_1) := (blk_cell BK214.out 1).trans rfl; have hcz194_2 : w192.cell? ⟨gb214, 2, none⟩ = some (.int .i64 a0_2) := (blk_cell BK214.out 2).trans rfl; have hfz194_0 := blk_frozen BK214.out 0; have hfz194_1 := blk_frozen BK214.out 1; have hfz194_2 := blk_frozen BK214.out 2) | (go_at_call 10; (with_reducible refine (hlc_Compare.calls kj8 t222 t223 t224 a0_0 a0_1 a0_2 t227 _ A171.out).mono ?_); rintro e w195 ⟨rfl, hb⟩; have n0_ := am (blk_below (g := gb214) (o := .cells #[.int .i64 a0_0, .int .i64 a0_1, .int .i64 a0_2] 24 (0, 0)) (by (with_reducible repeat (first | refine blk_drewN ?_ _ | refine blk_drew ?_ | refine blk_alloc ?_ _)); exact BK214.out) hb); have n1_ := am (blk_below (g := gb215) (o := .cells #[.int .i64 a1_0, .int .i64 a1_1, .int .i64 a1_2] 24 (0, 0)) (by (with_reducible repeat (first | refine blk_drewN ?_ _ | refine blk_drew ?_ | refine blk_alloc ?_ _)); exact BK215.out) hb); have n2_ := am (blk_below (g := gb216) (o := .cells #[.int .i64 a2_0, .int .i64 a2_1, .int .i64 a2_2] 24 (0, 0)) (by (with_reducible repeat (first | refine blk_drewN ?_ _ | refine blk_drew ?_ | refine blk_alloc ?_ _)); exact BK216.out) hb); have n3_ := am (blk_below (g := gb225) (o := .cells #[.int .i64 t222, .int .i64 t223, .int .i64 t224] 24 (0, 0)) (by (with_reducible repeat (first | refine blk_drewN ?_ _ | refine blk_drew ?_ | refine blk_alloc ?_ _)); exact BK225.out) hb); have n4_ := am (below_step (by repeat (first | (with_reducible first | exact HB.out | apply below_alloc | apply pw_below_drewN | apply below_drew1 | refine below_set ?_ GE214.out | refine below_set ?_ GE215.out | refine below_set ?_ GE216.out | refine below_set ?_ GE225.out) | exact HB.out)) hb); clear BK214; clear BK215; clear BK216; clear BK225; clear HB; have BK214 := n0_; have BK215 := n1_; have BK216 := n2_; have BK225 := n3_; have HB := n4_; clear n0_ n1_ n2_ n3_ n4_; (try clear hb); (try clear hb2); (try clear hk); (try clear hi); have hcz196_0 : w195.cell? ⟨gb225, 0, none⟩ = some (.int .i64 t222) := (blk_cell BK225.out 0).trans rfl; have hcz196_1 : w195.cell? ⟨gb225, 1, none⟩ = some (.int .i64 t223) := (blk_cell BK225.out 1).trans rfl; have hcz196_2 : w195.cell? ⟨gb225, 2, none⟩ = some (.int .i64 t224) := (blk_cell BK225.out 2).trans rfl; have hfz196_0 := blk_frozen BK225.out 0; have hfz196_1 := blk_frozen BK225.out 1; have hfz196_2 := blk_frozen BK225.out 2; have hnb197 := NB215_216.out; have hnc197 := NB216_215.out; have hcz198_0 : w195.cell? ⟨gb215, 0, none⟩ = some (.int .i64 a1_0) := (blk_cell BK215.out 0).trans rfl; have hcz198_1 : w195.cell? ⟨gb215, 1, none⟩ = some (.int .i64 a1_1) := (blk_cell BK215.out 1).trans rfl; have hcz198_2 : w195.cell? ⟨gb215, 2, none⟩ = some (.int .i64 a1_2) := (blk_cell BK215.out 2).trans rfl; have hfz198_0 := blk_frozen BK215.out 0; have hfz198_1 := blk_frozen BK215.out 1; have hfz198_2 := blk_frozen BK215.out 2) | (go_at_call 10; (with_reducible refine (hlc_Compare.calls kj8 t222 t223 t224 a1_0 a1_1 a1_2 t228 _ A184.out).mono ?_); rintro e w199 ⟨rfl, hb⟩; have n0_ := am (blk_below (g := gb214) (o := .cells #[.int .i64 a0_0, .int .i64 a0_1, .int .i64 a0_2] 24 (0, 0)) (by (with_reducible repeat (first | refine blk_drewN ?_ _ | refine blk_drew ?_ | refine blk_alloc ?_ _)); exact BK214.out) hb); have n1_ := am (blk_below (g := gb215) (o := .cells #[.int .i64 a1_0, .int .i64 a1_1, .int .i64 a1_2] 24 (0, 0)) (by (with_reducible repeat (first | refine blk_drewN ?_ _ | refine blk_drew ?_ | refine blk_alloc ?_ _)); exact BK215.out) hb); have n2_ := am (blk_below (g := gb216) (o := .cells #[.int .i64 a2_0, .int .i64 a2_1, .int .i64 a2_2] 24 (0, 0)) (by (with_reducible repeat (first | refine blk_drewN ?_ _ | refine blk_drew ?_ | refine blk_alloc ?_ _)); exact BK216.out) hb); have n3_ := am (blk_below (g := gb225) (o := .cells #[.int .i64 t222, .int .i64 t223, .int .i64 t224] 24 (0, 0)) (by (with_reducible repeat (first | refine blk_drewN ?_ _ | refine blk_drew ?_ | refine blk_alloc ?_ _)); exact BK225.out) hb); have n4_ := am (below_step (by repeat (first | (with_reducible first | exact HB.out | apply below_alloc | apply pw_below_drewN | apply below_drew1 | refine below_set ?_ GE214.out | refine below_set ?_ GE215.out | refine below_set ?_ GE216.out | refine below_set ?_ GE225.out) | exact HB.out)) hb); clear BK214; clear BK215; clear BK216; clear BK225; clear HB; have BK214 := n0_; have BK215 := n1_; have BK216 := n2_; have BK225 := n3_; have HB := n4_; clear n0_ n1_ n2_ n3_ n4_; (try clear hb); (try clear hb2); (try clear hk); (try clear hi)))
       go_meet
       case rel => exact ⟨_, (decide (t228 < 0)), (by first | rfl | (simp; done) | (simp [*]; done)), H', ⟨by have := HJ8.out; first | omega | exact Nat.le_refl _⟩, ⟨by (with_reducible repeat (first | refine blk_drewN ?_ _ | refine blk_drew ?_ | refine blk_alloc ?_ _)); exact BK214.out⟩, ⟨by (with_reducible repeat (first | refine blk_drewN ?_ _ | refine blk_drew ?_ | refine blk_alloc ?_ _)); exact BK215.out⟩, ⟨by (with_reducible repeat (first | refine blk_drewN ?_ _ | refine blk_drew ?_ | refine blk_alloc ?_ _)); exact BK216.out⟩, ⟨by (with_reducible repeat (first | refine blk_drewN ?_ _ | refine blk_drew ?_ | refine blk_alloc ?_ _)); exact BK225.out⟩, ⟨by repeat (first | (with_reducible first | exact HB.out | apply below_alloc | apply pw_below_drewN | apply below_drew1 | refine below_set ?_ GE214.out | refine below_set ?_ GE215.out | refine below_set ?_ GE216.out | refine below_set ?_ GE225.out) | exact HB.out)⟩⟩
     ·
      replace c170 := Bool.eq_false_iff.mpr c170
      subst c170
      have H1 : ((keep_Stamp.f t222 t223 t224 a1_0 a1_1 a1_2).bind fun t229 => (if t229 = true then ((hlc_Compare.f kj8 t222 t223 t224 a0_0 a0_1 a0_2).bind fun t230 => (if t230 < 0 then (L06_HlcRises.j1 kj8 a3 a4 true a0_0 a0_1 a0_2) else ((hlc_Compare.f kj8 t222 t223 t224 a1_0 a1_1 a1_2).bind fun t231 => (L06_HlcRises.j1 kj8 a3 a4 (decide (t231 < 0)) a0_0 a0_1 a0_2)))) else (L06_HlcRises.j1 kj8 a3 a4 true a0_0 a0_1 a0_2))) = some r := by rw [if_neg (show ¬ (false = true) by decide)] at H; exact H
      clear H
      have H := H1
      clear H1
      replace H := Option.bind_eq_some_iff.mp H
      obtain ⟨t229, A2000, H⟩ := H
      replace H : (if t229 = true then ((hlc_Compare.f kj8 t222 t223 t224 a0_0 a0_1 a0_2).bind fun t230 => (if t230 < 0 then (L06_HlcRises.j1 kj8 a3 a4 true a0_0 a0_1 a0_2) else ((hlc_Compare.f kj8 t222 t223 t224 a1_0 a1_1 a1_2).bind fun t231 => (L06_HlcRises.j1 kj8 a3 a4 (decide (t231 < 0)) a0_0 a0_1 a0_2)))) else (L06_HlcRises.j1 kj8 a3 a4 true a0_0 a0_1 a0_2)) = some r := H
      have A200 := am A2000
      clear A2000
      by_cases c201 : t229 = true
      ·
       subst c201
       have H1 : ((hlc_Compare.f kj8 t222 t223 t224 a0_0 a0_1 a0_2).bind fun t230 => (if t230 < 0 then (L06_HlcRises.j1 kj8 a3 a4 true a0_0 a0_1 a0_2) else ((hlc_Compare.f kj8 t222 t223 t224 a1_0 a1_1 a1_2).bind fun t231 => (L06_HlcRises.j1 kj8 a3 a4 (decide (t231 < 0)) a0_0 a0_1 a0_2)))) = some r := by rw [if_pos rfl] at H; exact H
       clear H
       have H := H1
       clear H1
       replace H := Option.bind_eq_some_iff.mp H
       obtain ⟨t230, A2020, H⟩ := H
       replace H : (if t230 < 0 then (L06_HlcRises.j1 kj8 a3 a4 true a0_0 a0_1 a0_2) else ((hlc_Compare.f kj8 t222 t223 t224 a1_0 a1_1 a1_2).bind fun t231 => (L06_HlcRises.j1 kj8 a3 a4 (decide (t231 < 0)) a0_0 a0_1 a0_2))) = some r := H
       have A202 := am A2020
       clear A2020
       by_cases c203 : t230 < 0
       ·
        rw [if_pos c203] at H
        have c203b0 : decide (t230 < 0) = true := decide_eq_true c203
        clear c203
        have H' := am H
        clear H
        have hnb204 := NB225_214.out
        have hnc204 := NB214_225.out
        have hnb205 := NB225_215.out
        have hnc205 := NB215_225.out
        have hnb206 := NB225_216.out
        have hnc206 := NB216_225.out
        have hcz207_0 : w164.cell? ⟨gb225, 0, none⟩ = some (.int .i64 0) := (blk_cell BK225.out 0).trans rfl
        have hcz207_1 : w164.cell? ⟨gb225, 1, none⟩ = some (.int .i64 0) := (blk_cell BK225.out 1).trans rfl
        have hcz207_2 : w164.cell? ⟨gb225, 2, none⟩ = some (.int .i64 0) := (blk_cell BK225.out 2).trans rfl
        have hfz207_0 := blk_frozen BK225.out 0
        have hfz207_1 := blk_frozen BK225.out 1
        have hfz207_2 := blk_frozen BK225.out 2
        have hnb208 := NB214_215.out
        have hnc208 := NB215_214.out
        have hnb209 := NB214_216.out
        have hnc209 := NB216_214.out
        have hcz210_0 : w164.cell? ⟨gb214, 0, none⟩ = some (.int .i64 a0_0) := (blk_cell BK214.out 0).trans rfl
        have hcz210_1 : w164.cell? ⟨gb214, 1, none⟩ = some (.int .i64 a0_1) := (blk_cell BK214.out 1).trans rfl
        have hcz210_2 : w164.cell? ⟨gb214, 2, none⟩ = some (.int .i64 a0_2) := (blk_cell BK214.out 2).trans rfl
        have hfz210_0 := blk_frozen BK214.out 0
        have hfz210_1 := blk_frozen BK214.out 1
        have hfz210_2 := blk_frozen BK214.out 2
        go_wp2_with (first | ((with_reducible refine gate_callee (f := 16) rfl ?_); refine goesL_ (some 78) rfl rfl Try.func16 (by kernel_rfl) rfl #[.agg #[.int .i64 t222, .int .i64 t223, .int .i64 t224], .agg #[.int .i64 a0_0, .int .i64 a0_1, .int .i64 a0_2]] rfl (by (try simp only [List.map_toArray, List.map_cons, List.map_nil]); first | done | rfl | (simp only [List.length_drop, List.length_take]; rfl)) ?_; (with_reducible refine (keep_Stamp.calls t222 t223 t224 a0_0 a0_1 a0_2 false _ A169.out).mono ?_); rintro e w211 ⟨rfl, hb⟩; refine ⟨_, rfl, ?_⟩; have n0_ := am (blk_below (g := gb214) (o := .cells #[.int .i64 a0_0, .int .i64 a0_1, .int .i64 a0_2] 24 (0, 0)) (by (with_reducible repeat (first | refine blk_drewN ?_ _ | refine blk_drew ?_ | refine blk_alloc ?_ _)); refine blk_far ?_ NB214_225.out _; (with_reducible repeat (first | refine blk_drewN ?_ _ | refine blk_drew ?_ | refine blk_alloc ?_ _)); refine blk_far ?_ NB214_225.out _; (with_reducible repeat (first | refine blk_drewN ?_ _ | refine blk_drew ?_ | refine blk_alloc ?_ _)); refine blk_far ?_ NB214_225.out _; (with_reducible repeat (first | refine blk_drewN ?_ _ | refine blk_drew ?_ | refine blk_alloc ?_ _)); exact BK214.out) hb); have n1_ := am (blk_below (g := gb215) (o := .cells #[.int .i64 a1_0, .int .i64 a1_1, .int .i64 a1_2] 24 (0, 0)) (by (with_reducible repeat (first | refine blk_drewN ?_ _ | refine blk_drew ?_ | refine blk_alloc ?_ _)); refine blk_far ?_ NB215_225.out _; (with_reducible repeat (first | refine blk_drewN ?_ _ | refine blk_drew ?_ | refine blk_alloc ?_ _)); refine blk_far ?_ NB215_225.out _; (with_reducible repeat (first | refine blk_drewN ?_ _ | refine blk_drew ?_ | refine blk_alloc ?_ _)); refine blk_far ?_ NB215_225.out _; (with_reducible repeat (first | refine blk_drewN ?_ _ | refine blk_drew ?_ | refine blk_alloc ?_ _)); exact BK215.out) hb); have n2_ := am (blk_below (g := gb216) (o := .cells #[.int .i64 a2_0, .int .i64 a2_1, .int .i64 a2_2] 24 (0, 0)) (by (with_reducible repeat (first | refine blk_drewN ?_ _ | refine blk_drew ?_ | refine blk_alloc ?_ _)); refine blk_far ?_ NB216_225.out _; (with_reducible repeat (first | refine blk_drewN ?_ _ | refine blk_drew ?_ | refine blk_alloc ?_ _)); refine blk_far ?_ NB216_225.out _; (with_reducible repeat (first | refine blk_drewN ?_ _ | refine blk_drew ?_ | refine blk_alloc ?_ _)); refine blk_far ?_ NB216_225.out _; (with_reducible repeat (first | refine blk_drewN ?_ _ | refine blk_drew ?_ | refine blk_alloc ?_ _)); exact BK216.out) hb); have n3_ := am (blk_below (g := gb225) (o := .cells #[.int .i64 t222, .int .i64 t223, .int .i64 t224] 24 (0, 0)) (by (with_reducible repeat (first | refine blk_drewN ?_ _ | refine blk_drew ?_ | refine blk_alloc ?_ _)); refine blk_put (cs := #[.int .i64 t222, .int .i64 t223, .int .i64 0]) ?_ 2 _ rfl; (with_reducible repeat (first | refine blk_drewN ?_ _ | refine blk_drew ?_ | refine blk_alloc ?_ _)); refine blk_put (cs := #[.int .i64 t222, .int .i64 0, .int .i64 0]) ?_ 1 _ rfl; (with_reducible repeat (first | refine blk_drewN ?_ _ | refine blk_drew ?_ | refine blk_alloc ?_ _)); refine blk_put (cs := #[.int .i64 0, .int .i64 0, .int .i64 0]) ?_ 0 _ rfl; (with_reducible repeat (first | refine blk_drewN ?_ _ | refine blk_drew ?_ | refine blk_alloc ?_ _)); exact BK225.out) hb); have n4_ := am (below_step (by repeat (first | (with_reducible first | exact HB.out | apply below_alloc | apply pw_below_drewN | apply below_drew1 | refine below_set ?_ GE214.out | refine below_set ?_ GE215.out | refine below_set ?_ GE216.out | refine below_set ?_ GE225.out) | exact HB.out)) hb); clear BK214; clear BK215; clear BK216; clear BK225; clear HB; have BK214 := n0_; have BK215 := n1_; have BK216 := n2_; have BK225 := n3_; have HB := n4_; clear n0_ n1_ n2_ n3_ n4_; (try clear hb); (try clear hb2); (try clear hk); (try clear hi); have hcz212_0 : w211.cell? ⟨gb225, 0, none⟩ = some (.int .i64 t222) := (blk_cell BK225.out 0).trans rfl; have hcz212_1 : w211.cell? ⟨gb225, 1, none⟩ = some (.int .i64 t223) := (blk_cell BK225.out 1).trans rfl; have hcz212_2 : w211.cell? ⟨gb225, 2, none⟩ = some (.int .i64 t224) := (blk_cell BK225.out 2).trans rfl; have hfz212_0 := blk_frozen BK225.out 0; have hfz212_1 := blk_frozen BK225.out 1; have hfz212_2 := blk_frozen BK225.out 2; have hnb213 := NB215_216.out; have hnc213 := NB216_215.out; have hcz214_0 : w211.cell? ⟨gb215, 0, none⟩ = some (.int .i64 a1_0) := (blk_cell BK215.out 0).trans rfl; have hcz214_1 : w211.cell? ⟨gb215, 1, none⟩ = some (.int .i64 a1_1) := (blk_cell BK215.out 1).trans rfl; have hcz214_2 : w211.cell? ⟨gb215, 2, none⟩ = some (.int .i64 a1_2) := (blk_cell BK215.out 2).trans rfl; have hfz214_0 := blk_frozen BK215.out 0; have hfz214_1 := blk_frozen BK215.out 1; have hfz214_2 := blk_frozen BK215.out 2) | (go_at_call 16; (with_reducible refine (keep_Stamp.calls t222 t223 t224 a1_0 a1_1 a1_2 true _ A200.out).mono ?_); rintro e w215 ⟨rfl, hb⟩; have n0_ := am (blk_below (g := gb214) (o := .cells #[.int .i64 a0_0, .int .i64 a0_1, .int .i64 a0_2] 24 (0, 0)) (by (with_reducible repeat (first | refine blk_drewN ?_ _ | refine blk_drew ?_ | refine blk_alloc ?_ _)); exact BK214.out) hb); have n1_ := am (blk_below (g := gb215) (o := .cells #[.int .i64 a1_0, .int .i64 a1_1, .int .i64 a1_2] 24 (0, 0)) (by (with_reducible repeat (first | refine blk_drewN ?_ _ | refine blk_drew ?_ | refine blk_alloc ?_ _)); exact BK215.out) hb); have n2_ := am (blk_below (g := gb216) (o := .cells #[.int .i64 a2_0, .int .i64 a2_1, .int .i64 a2_2] 24 (0, 0)) (by (with_reducible repeat (first | refine blk_drewN ?_ _ | refine blk_drew ?_ | refine blk_alloc ?_ _)); exact BK216.out) hb); have n3_ := am (blk_below (g := gb225) (o := .cells #[.int .i64 t222, .int .i64 t223, .int .i64 t224] 24 (0, 0)) (by (with_reducible repeat (first | refine blk_drewN ?_ _ | refine blk_drew ?_ | refine blk_alloc ?_ _)); exact BK225.out) hb); have n4_ := am (below_step (by repeat (first | (with_reducible first | exact HB.out | apply below_alloc | apply pw_below_drewN | apply below_drew1 | refine below_set ?_ GE214.out | refine below_set ?_ GE215.out | refine below_set ?_ GE216.out | refine below_set ?_ GE225.out) | exact HB.out)) hb); clear BK214; clear BK215; clear BK216; clear BK225; clear HB; have BK214 := n0_; have BK215 := n1_; have BK216 := n2_; have BK225 := n3_; have HB := n4_; clear n0_ n1_ n2_ n3_ n4_; (try clear hb); (try clear hb2); (try clear hk); (try clear hi); have hcz216_0 : w215.cell? ⟨gb225, 0, none⟩ = some (.int .i64 t222) := (blk_cell BK225.out 0).trans rfl; have hcz216_1 : w215.cell? ⟨gb225, 1, none⟩ = some (.int .i64 t223) := (blk_cell BK225.out 1).trans rfl; have hcz216_2 : w215.cell? ⟨gb225, 2, none⟩ = some (.int .i64 t224) := (blk_cell BK225.out 2).trans rfl; have hfz216_0 := blk_frozen BK225.out 0; have hfz216_1 := blk_frozen BK225.out 1; have hfz216_2 := blk_frozen BK225.out 2; have hcz217_0 : w215.cell? ⟨gb214, 0, none⟩ = some (.int .i64 a0_0) := (blk_cell BK214.out 0).trans rfl; have hcz217_1 : w215.cell? ⟨gb214, 1, none⟩ = some (.int .i64 a0_1) := (blk_cell BK214.out 1).trans rfl; have hcz217_2 : w215.cell? ⟨gb214, 2, none⟩ = some (.int .i64 a0_2) := (blk_cell BK214.out 2).trans rfl; have hfz217_0 := blk_frozen BK214.out 0; have hfz217_1 := blk_frozen BK214.out 1; have hfz217_2 := blk_frozen BK214.out 2) | (go_at_call 10; (with_reducible refine (hlc_Compare.calls kj8 t222 t223 t224 a0_0 a0_1 a0_2 t230 _ A202.out).mono ?_); rintro e w218 ⟨rfl, hb⟩; have n0_ := am (blk_below (g := gb214) (o := .cells #[.int .i64 a0_0, .int .i64 a0_1, .int .i64 a0_2] 24 (0, 0)) (by (with_reducible repeat (first | refine blk_drewN ?_ _ | refine blk_drew ?_ | refine blk_alloc ?_ _)); exact BK214.out) hb); have n1_ := am (blk_below (g := gb215) (o := .cells #[.int .i64 a1_0, .int .i64 a1_1, .int .i64 a1_2] 24 (0, 0)) (by (with_reducible repeat (first | refine blk_drewN ?_ _ | refine blk_drew ?_ | refine blk_alloc ?_ _)); exact BK215.out) hb); have n2_ := am (blk_below (g := gb216) (o := .cells #[.int .i64 a2_0, .int .i64 a2_1, .int .i64 a2_2] 24 (0, 0)) (by (with_reducible repeat (first | refine blk_drewN ?_ _ | refine blk_drew ?_ | refine blk_alloc ?_ _)); exact BK216.out) hb); have n3_ := am (blk_below (g := gb225) (o := .cells #[.int .i64 t222, .int .i64 t223, .int .i64 t224] 24 (0, 0)) (by (with_reducible repeat (first | refine blk_drewN ?_ _ | refine blk_drew ?_ | refine blk_alloc ?_ _)); exact BK225.out) hb); have n4_ := am (below_step (by repeat (first | (with_reducible first | exact HB.out | apply below_alloc | apply pw_below_drewN | apply below_drew1 | refine below_set ?_ GE214.out | refine below_set ?_ GE215.out | refine below_set ?_ GE216.out | refine below_set ?_ GE225.out) | exact HB.out)) hb); clear BK214; clear BK215; clear BK216; clear BK225; clear HB; have BK214 := n0_; have BK215 := n1_; have BK216 := n2_; have BK225 := n3_; have HB := n4_; clear n0_ n1_ n2_ n3_ n4_; (try clear hb); (try clear hb2); (try clear hk); (try clear hi)))
        go_meet
        case rel => exact ⟨_, (true), (by first | rfl | (simp; done) | (simp [*]; done)), H', ⟨by have := HJ8.out; first | omega | exact Nat.le_refl _⟩, ⟨by (with_reducible repeat (first | refine blk_drewN ?_ _ | refine blk_drew ?_ | refine blk_alloc ?_ _)); exact BK214.out⟩, ⟨by (with_reducible repeat (first | refine blk_drewN ?_ _ | refine blk_drew ?_ | refine blk_alloc ?_ _)); exact BK215.out⟩, ⟨by (with_reducible repeat (first | refine blk_drewN ?_ _ | refine blk_drew ?_ | refine blk_alloc ?_ _)); exact BK216.out⟩, ⟨by (with_reducible repeat (first | refine blk_drewN ?_ _ | refine blk_drew ?_ | refine blk_alloc ?_ _)); exact BK225.out⟩, ⟨by repeat (first | (with_reducible first | exact HB.out | apply below_alloc | apply pw_below_drewN | apply below_drew1 | refine below_set ?_ GE214.out | refine below_set ?_ GE215.out | refine below_set ?_ GE216.out | refine below_set ?_ GE225.out) | exact HB.out)⟩⟩
       ·
        rw [if_neg c203] at H
        have c203b0 : decide (t230 < 0) = false := decide_eq_false c203
        clear c203
        replace H := Option.bind_eq_some_iff.mp H
        obtain ⟨t231, A2190, H⟩ := H
        replace H : (L06_HlcRises.j1 kj8 a3 a4 (decide (t231 < 0)) a0_0 a0_1 a0_2) = some r := H
        have A219 := am A2190
        clear A2190
        have H' := am H
        clear H
        have hnb220 := NB225_214.out
        have hnc220 := NB214_225.out
        have hnb221 := NB225_215.out
        have hnc221 := NB215_225.out
        have hnb222 := NB225_216.out
        have hnc222 := NB216_225.out
        have hcz223_0 : w164.cell? ⟨gb225, 0, none⟩ = some (.int .i64 0) := (blk_cell BK225.out 0).trans rfl
        have hcz223_1 : w164.cell? ⟨gb225, 1, none⟩ = some (.int .i64 0) := (blk_cell BK225.out 1).trans rfl
        have hcz223_2 : w164.cell? ⟨gb225, 2, none⟩ = some (.int .i64 0) := (blk_cell BK225.out 2).trans rfl
        have hfz223_0 := blk_frozen BK225.out 0
        have hfz223_1 := blk_frozen BK225.out 1
        have hfz223_2 := blk_frozen BK225.out 2
        have hnb224 := NB214_215.out
        have hnc224 := NB215_214.out
        have hnb225 := NB214_216.out
        have hnc225 := NB216_214.out
        have hcz226_0 : w164.cell? ⟨gb214, 0, none⟩ = some (.int .i64 a0_0) := (blk_cell BK214.out 0).trans rfl
        have hcz226_1 : w164.cell? ⟨gb214, 1, none⟩ = some (.int .i64 a0_1) := (blk_cell BK214.out 1).trans rfl
        have hcz226_2 : w164.cell? ⟨gb214, 2, none⟩ = some (.int .i64 a0_2) := (blk_cell BK214.out 2).trans rfl
        have hfz226_0 := blk_frozen BK214.out 0
        have hfz226_1 := blk_frozen BK214.out 1
        have hfz226_2 := blk_frozen BK214.out 2
        go_wp2_with (first | ((with_reducible refine gate_callee (f := 16) rfl ?_); refine goesL_ (some 78) rfl rfl Try.func16 (by kernel_rfl) rfl #[.agg #[.int .i64 t222, .int .i64 t223, .int .i64 t224], .agg #[.int .i64 a0_0, .int .i64 a0_1, .int .i64 a0_2]] rfl (by (try simp only [List.map_toArray, List.map_cons, List.map_nil]); first | done | rfl | (simp only [List.length_drop, List.length_take]; rfl)) ?_; (with_reducible refine (keep_Stamp.calls t222 t223 t224 a0_0 a0_1 a0_2 false _ A169.out).mono ?_); rintro e w227 ⟨rfl, hb⟩; refine ⟨_, rfl, ?_⟩; have n0_ := am (blk_below (g := gb214) (o := .cells #[.int .i64 a0_0, .int .i64 a0_1, .int .i64 a0_2] 24 (0, 0)) (by (with_reducible repeat (first | refine blk_drewN ?_ _ | refine blk_drew ?_ | refine blk_alloc ?_ _)); refine blk_far ?_ NB214_225.out _; (with_reducible repeat (first | refine blk_drewN ?_ _ | refine blk_drew ?_ | refine blk_alloc ?_ _)); refine blk_far ?_ NB214_225.out _; (with_reducible repeat (first | refine blk_drewN ?_ _ | refine blk_drew ?_ | refine blk_alloc ?_ _)); refine blk_far ?_ NB214_225.out _; (with_reducible repeat (first | refine blk_drewN ?_ _ | refine blk_drew ?_ | refine blk_alloc ?_ _)); exact BK214.out) hb); have n1_ := am (blk_below (g := gb215) (o := .cells #[.int .i64 a1_0, .int .i64 a1_1, .int .i64 a1_2] 24 (0, 0)) (by (with_reducible repeat (first | refine blk_drewN ?_ _ | refine blk_drew ?_ | refine blk_alloc ?_ _)); refine blk_far ?_ NB215_225.out _; (with_reducible repeat (first | refine blk_drewN ?_ _ | refine blk_drew ?_ | refine blk_alloc ?_ _)); refine blk_far ?_ NB215_225.out _; (with_reducible repeat (first | refine blk_drewN ?_ _ | refine blk_drew ?_ | refine blk_alloc ?_ _)); refine blk_far ?_ NB215_225.out _; (with_reducible repeat (first | refine blk_drewN ?_ _ | refine blk_drew ?_ | refine blk_alloc ?_ _)); exact BK215.out) hb); have n2_ := am (blk_below (g := gb216) (o := .cells #[.int .i64 a2_0, .int .i64 a2_1, .int .i64 a2_2] 24 (0, 0)) (by (with_reducible repeat (first | refine blk_drewN ?_ _ | refine blk_drew ?_ | refine blk_alloc ?_ _)); refine blk_far ?_ NB216_225.out _; (with_reducible repeat (first | refine blk_drewN ?_ _ | refine blk_drew ?_ | refine blk_alloc ?_ _)); refine blk_far ?_ NB216_225.out _; (with_reducible repeat (first | refine blk_drewN ?_ _ | refine blk_drew ?_ | refine blk_alloc ?_ _)); refine blk_far ?_ NB216_225.out _; (with_reducible repeat (first | refine blk_drewN ?_ _ | refine blk_drew ?_ | refine blk_alloc ?_ _)); exact BK216.out) hb); have n3_ := am (blk_below (g := gb225) (o := .cells #[.int .i64 t222, .int .i64 t223, .int .i64 t224] 24 (0, 0)) (by (with_reducible repeat (first | refine blk_drewN ?_ _ | refine blk_drew ?_ | refine blk_alloc ?_ _)); refine blk_put (cs := #[.int .i64 t222, .int .i64 t223, .int .i64 0]) ?_ 2 _ rfl; (with_reducible repeat (first | refine blk_drewN ?_ _ | refine blk_drew ?_ | refine blk_alloc ?_ _)); refine blk_put (cs := #[.int .i64 t222, .int .i64 0, .int .i64 0]) ?_ 1 _ rfl; (with_reducible repeat (first | refine blk_drewN ?_ _ | refine blk_drew ?_ | refine blk_alloc ?_ _)); refine blk_put (cs := #[.int .i64 0, .int .i64 0, .int .i64 0]) ?_ 0 _ rfl; (with_reducible repeat (first | refine blk_drewN ?_ _ | refine blk_drew ?_ | refine blk_alloc ?_ _)); exact BK225.out) hb); have n4_ := am (below_step (by repeat (first | (with_reducible first | exact HB.out | apply below_alloc | apply pw_below_drewN | apply below_drew1 | refine below_set ?_ GE214.out | refine below_set ?_ GE215.out | refine below_set ?_ GE216.out | refine below_set ?_ GE225.out) | exact HB.out)) hb); clear BK214; clear BK215; clear BK216; clear BK225; clear HB; have BK214 := n0_; have BK215 := n1_; have BK216 := n2_; have BK225 := n3_; have HB := n4_; clear n0_ n1_ n2_ n3_ n4_; (try clear hb); (try clear hb2); (try clear hk); (try clear hi); have hcz228_0 : w227.cell? ⟨gb225, 0, none⟩ = some (.int .i64 t222) := (blk_cell BK225.out 0).trans rfl; have hcz228_1 : w227.cell? ⟨gb225, 1, none⟩ = some (.int .i64 t223) := (blk_cell BK225.out 1).trans rfl; have hcz228_2 : w227.cell? ⟨gb225, 2, none⟩ = some (.int .i64 t224) := (blk_cell BK225.out 2).trans rfl; have hfz228_0 := blk_frozen BK225.out 0; have hfz228_1 := blk_frozen BK225.out 1; have hfz228_2 := blk_frozen BK225.out 2; have hnb229 := NB215_216.out; have hnc229 := NB216_215.out; have hcz230_0 : w227.cell? ⟨gb215, 0, none⟩ = some (.int .i64 a1_0) := (blk_cell BK215.out 0).trans rfl; have hcz230_1 : w227.cell? ⟨gb215, 1, none⟩ = some (.int .i64 a1_1) := (blk_cell BK215.out 1).trans rfl; have hcz230_2 : w227.cell? ⟨gb215, 2, none⟩ = some (.int .i64 a1_2) := (blk_cell BK215.out 2).trans rfl; have hfz230_0 := blk_frozen BK215.out 0; have hfz230_1 := blk_frozen BK215.out 1; have hfz230_2 := blk_frozen BK215.out 2) | (go_at_call 16; (with_reducible refine (keep_Stamp.calls t222 t223 t224 a1_0 a1_1 a1_2 true _ A200.out).mono ?_); rintro e w231 ⟨rfl, hb⟩; have n0_ := am (blk_below (g := gb214) (o := .cells #[.int .i64 a0_0, .int .i64 a0_1, .int .i64 a0_2] 24 (0, 0)) (by (with_reducible repeat (first | refine blk_drewN ?_ _ | refine blk_drew ?_ | refine blk_alloc ?_ _)); exact BK214.out) hb); have n1_ := am (blk_below (g := gb215) (o := .cells #[.int .i64 a1_0, .int .i64 a1_1, .int .i64 a1_2] 24 (0, 0)) (by (with_reducible repeat (first | refine blk_drewN ?_ _ | refine blk_drew ?_ | refine blk_alloc ?_ _)); exact BK215.out) hb); have n2_ := am (blk_below (g := gb216) (o := .cells #[.int .i64 a2_0, .int .i64 a2_1, .int .i64 a2_2] 24 (0, 0)) (by (with_reducible repeat (first | refine blk_drewN ?_ _ | refine blk_drew ?_ | refine blk_alloc ?_ _)); exact BK216.out) hb); have n3_ := am (blk_below (g := gb225) (o := .cells #[.int .i64 t222, .int .i64 t223, .int .i64 t224] 24 (0, 0)) (by (with_reducible repeat (first | refine blk_drewN ?_ _ | refine blk_drew ?_ | refine blk_alloc ?_ _)); exact BK225.out) hb); have n4_ := am (below_step (by repeat (first | (with_reducible first | exact HB.out | apply below_alloc | apply pw_below_drewN | apply below_drew1 | refine below_set ?_ GE214.out | refine below_set ?_ GE215.out | refine below_set ?_ GE216.out | refine below_set ?_ GE225.out) | exact HB.out)) hb); clear BK214; clear BK215; clear BK216; clear BK225; clear HB; have BK214 := n0_; have BK215 := n1_; have BK216 := n2_; have BK225 := n3_; have HB := n4_; clear n0_ n1_ n2_ n3_ n4_; (try clear hb); (try clear hb2); (try clear hk); (try clear hi); have hcz232_0 : w231.cell? ⟨gb225, 0, none⟩ = some (.int .i64 t222) := (blk_cell BK225.out 0).trans rfl; have hcz232_1 : w231.cell? ⟨gb225, 1, none⟩ = some (.int .i64 t223) := (blk_cell BK225.out 1).trans rfl; have hcz232_2 : w231.cell? ⟨gb225, 2, none⟩ = some (.int .i64 t224) := (blk_cell BK225.out 2).trans rfl; have hfz232_0 := blk_frozen BK225.out 0; have hfz232_1 := blk_frozen BK225.out 1; have hfz232_2 := blk_frozen BK225.out 2; have hcz233_0 : w231.cell? ⟨gb214, 0, none⟩ = some (.int .i64 a0_0) := (blk_cell BK214.out 0).trans rfl; have hcz233_1 : w231.cell? ⟨gb214, 1, none⟩ = some (.int .i64 a0_1) := (blk_cell BK214.out 1).trans rfl; have hcz233_2 : w231.cell? ⟨gb214, 2, none⟩ = some (.int .i64 a0_2) := (blk_cell BK214.out 2).trans rfl; have hfz233_0 := blk_frozen BK214.out 0; have hfz233_1 := blk_frozen BK214.out 1; have hfz233_2 := blk_frozen BK214.out 2) | (go_at_call 10; (with_reducible refine (hlc_Compare.calls kj8 t222 t223 t224 a0_0 a0_1 a0_2 t230 _ A202.out).mono ?_); rintro e w234 ⟨rfl, hb⟩; have n0_ := am (blk_below (g := gb214) (o := .cells #[.int .i64 a0_0, .int .i64 a0_1, .int .i64 a0_2] 24 (0, 0)) (by (with_reducible repeat (first | refine blk_drewN ?_ _ | refine blk_drew ?_ | refine blk_alloc ?_ _)); exact BK214.out) hb); have n1_ := am (blk_below (g := gb215) (o := .cells #[.int .i64 a1_0, .int .i64 a1_1, .int .i64 a1_2] 24 (0, 0)) (by (with_reducible repeat (first | refine blk_drewN ?_ _ | refine blk_drew ?_ | refine blk_alloc ?_ _)); exact BK215.out) hb); have n2_ := am (blk_below (g := gb216) (o := .cells #[.int .i64 a2_0, .int .i64 a2_1, .int .i64 a2_2] 24 (0, 0)) (by (with_reducible repeat (first | refine blk_drewN ?_ _ | refine blk_drew ?_ | refine blk_alloc ?_ _)); exact BK216.out) hb); have n3_ := am (blk_below (g := gb225) (o := .cells #[.int .i64 t222, .int .i64 t223, .int .i64 t224] 24 (0, 0)) (by (with_reducible repeat (first | refine blk_drewN ?_ _ | refine blk_drew ?_ | refine blk_alloc ?_ _)); exact BK225.out) hb); have n4_ := am (below_step (by repeat (first | (with_reducible first | exact HB.out | apply below_alloc | apply pw_below_drewN | apply below_drew1 | refine below_set ?_ GE214.out | refine below_set ?_ GE215.out | refine below_set ?_ GE216.out | refine below_set ?_ GE225.out) | exact HB.out)) hb); clear BK214; clear BK215; clear BK216; clear BK225; clear HB; have BK214 := n0_; have BK215 := n1_; have BK216 := n2_; have BK225 := n3_; have HB := n4_; clear n0_ n1_ n2_ n3_ n4_; (try clear hb); (try clear hb2); (try clear hk); (try clear hi); have hcz235_0 : w234.cell? ⟨gb225, 0, none⟩ = some (.int .i64 t222) := (blk_cell BK225.out 0).trans rfl; have hcz235_1 : w234.cell? ⟨gb225, 1, none⟩ = some (.int .i64 t223) := (blk_cell BK225.out 1).trans rfl; have hcz235_2 : w234.cell? ⟨gb225, 2, none⟩ = some (.int .i64 t224) := (blk_cell BK225.out 2).trans rfl; have hfz235_0 := blk_frozen BK225.out 0; have hfz235_1 := blk_frozen BK225.out 1; have hfz235_2 := blk_frozen BK225.out 2; have hcz236_0 : w234.cell? ⟨gb215, 0, none⟩ = some (.int .i64 a1_0) := (blk_cell BK215.out 0).trans rfl; have hcz236_1 : w234.cell? ⟨gb215, 1, none⟩ = some (.int .i64 a1_1) := (blk_cell BK215.out 1).trans rfl; have hcz236_2 : w234.cell? ⟨gb215, 2, none⟩ = some (.int .i64 a1_2) := (blk_cell BK215.out 2).trans rfl; have hfz236_0 := blk_frozen BK215.out 0; have hfz236_1 := blk_frozen BK215.out 1; have hfz236_2 := blk_frozen BK215.out 2) | (go_at_call 10; (with_reducible refine (hlc_Compare.calls kj8 t222 t223 t224 a1_0 a1_1 a1_2 t231 _ A219.out).mono ?_); rintro e w237 ⟨rfl, hb⟩; have n0_ := am (blk_below (g := gb214) (o := .cells #[.int .i64 a0_0, .int .i64 a0_1, .int .i64 a0_2] 24 (0, 0)) (by (with_reducible repeat (first | refine blk_drewN ?_ _ | refine blk_drew ?_ | refine blk_alloc ?_ _)); exact BK214.out) hb); have n1_ := am (blk_below (g := gb215) (o := .cells #[.int .i64 a1_0, .int .i64 a1_1, .int .i64 a1_2] 24 (0, 0)) (by (with_reducible repeat (first | refine blk_drewN ?_ _ | refine blk_drew ?_ | refine blk_alloc ?_ _)); exact BK215.out) hb); have n2_ := am (blk_below (g := gb216) (o := .cells #[.int .i64 a2_0, .int .i64 a2_1, .int .i64 a2_2] 24 (0, 0)) (by (with_reducible repeat (first | refine blk_drewN ?_ _ | refine blk_drew ?_ | refine blk_alloc ?_ _)); exact BK216.out) hb); have n3_ := am (blk_below (g := gb225) (o := .cells #[.int .i64 t222, .int .i64 t223, .int .i64 t224] 24 (0, 0)) (by (with_reducible repeat (first | refine blk_drewN ?_ _ | refine blk_drew ?_ | refine blk_alloc ?_ _)); exact BK225.out) hb); have n4_ := am (below_step (by repeat (first | (with_reducible first | exact HB.out | apply below_alloc | apply pw_below_drewN | apply below_drew1 | refine below_set ?_ GE214.out | refine below_set ?_ GE215.out | refine below_set ?_ GE216.out | refine below_set ?_ GE225.out) | exact HB.out)) hb); clear BK214; clear BK215; clear BK216; clear BK225; clear HB; have BK214 := n0_; have BK215 := n1_; have BK216 := n2_; have BK225 := n3_; have HB := n4_; clear n0_ n1_ n2_ n3_ n4_; (try clear hb); (try clear hb2); (try clear hk); (try clear hi)))
        go_meet
        case rel => exact ⟨_, (decide (t231 < 0)), (by first | rfl | (simp; done) | (simp [*]; done)), H', ⟨by have := HJ8.out; first | omega | exact Nat.le_refl _⟩, ⟨by (with_reducible repeat (first | refine blk_drewN ?_ _ | refine blk_drew ?_ | refine blk_alloc ?_ _)); exact BK214.out⟩, ⟨by (with_reducible repeat (first | refine blk_drewN ?_ _ | refine blk_drew ?_ | refine blk_alloc ?_ _)); exact BK215.out⟩, ⟨by (with_reducible repeat (first | refine blk_drewN ?_ _ | refine blk_drew ?_ | refine blk_alloc ?_ _)); exact BK216.out⟩, ⟨by (with_reducible repeat (first | refine blk_drewN ?_ _ | refine blk_drew ?_ | refine blk_alloc ?_ _)); exact BK225.out⟩, ⟨by repeat (first | (with_reducible first | exact HB.out | apply below_alloc | apply pw_below_drewN | apply below_drew1 | refine below_set ?_ GE214.out | refine below_set ?_ GE215.out | refine below_set ?_ GE216.out | refine below_set ?_ GE225.out) | exact HB.out)⟩⟩
      ·
       replace c201 := Bool.eq_false_iff.mpr c201
       subst c201
       have H1 : (L06_HlcRises.j1 kj8 a3 a4 true a0_0 a0_1 a0_2) = some r := by rw [if_neg (show ¬ (false = true) by decide)] at H; exact H
       clear H
       have H := H1
       clear H1
       have H' := am H
       clear H
       have hnb238 := NB225_214.out
       have hnc238 := NB214_225.out
       have hnb239 := NB225_215.out
       have hnc239 := NB215_225.out
       have hnb240 := NB225_216.out
       have hnc240 := NB216_225.out
       have hcz241_0 : w164.cell? ⟨gb225, 0, none⟩ = some (.int .i64 0) := (blk_cell BK225.out 0).trans rfl
       have hcz241_1 : w164.cell? ⟨gb225, 1, none⟩ = some (.int .i64 0) := (blk_cell BK225.out 1).trans rfl
       have hcz241_2 : w164.cell? ⟨gb225, 2, none⟩ = some (.int .i64 0) := (blk_cell BK225.out 2).trans rfl
       have hfz241_0 := blk_frozen BK225.out 0
       have hfz241_1 := blk_frozen BK225.out 1
       have hfz241_2 := blk_frozen BK225.out 2
       have hnb242 := NB214_215.out
       have hnc242 := NB215_214.out
       have hnb243 := NB214_216.out
       have hnc243 := NB216_214.out
       have hcz244_0 : w164.cell? ⟨gb214, 0, none⟩ = some (.int .i64 a0_0) := (blk_cell BK214.out 0).trans rfl
       have hcz244_1 : w164.cell? ⟨gb214, 1, none⟩ = some (.int .i64 a0_1) := (blk_cell BK214.out 1).trans rfl
       have hcz244_2 : w164.cell? ⟨gb214, 2, none⟩ = some (.int .i64 a0_2) := (blk_cell BK214.out 2).trans rfl
       have hfz244_0 := blk_frozen BK214.out 0
       have hfz244_1 := blk_frozen BK214.out 1
       have hfz244_2 := blk_frozen BK214.out 2
       go_wp2_with (first | ((with_reducible refine gate_callee (f := 16) rfl ?_); refine goesL_ (some 78) rfl rfl Try.func16 (by kernel_rfl) rfl #[.agg #[.int .i64 t222, .int .i64 t223, .int .i64 t224], .agg #[.int .i64 a0_0, .int .i64 a0_1, .int .i64 a0_2]] rfl (by (try simp only [List.map_toArray, List.map_cons, List.map_nil]); first | done | rfl | (simp only [List.length_drop, List.length_take]; rfl)) ?_; (with_reducible refine (keep_Stamp.calls t222 t223 t224 a0_0 a0_1 a0_2 false _ A169.out).mono ?_); rintro e w245 ⟨rfl, hb⟩; refine ⟨_, rfl, ?_⟩; have n0_ := am (blk_below (g := gb214) (o := .cells #[.int .i64 a0_0, .int .i64 a0_1, .int .i64 a0_2] 24 (0, 0)) (by (with_reducible repeat (first | refine blk_drewN ?_ _ | refine blk_drew ?_ | refine blk_alloc ?_ _)); refine blk_far ?_ NB214_225.out _; (with_reducible repeat (first | refine blk_drewN ?_ _ | refine blk_drew ?_ | refine blk_alloc ?_ _)); refine blk_far ?_ NB214_225.out _; (with_reducible repeat (first | refine blk_drewN ?_ _ | refine blk_drew ?_ | refine blk_alloc ?_ _)); refine blk_far ?_ NB214_225.out _; (with_reducible repeat (first | refine blk_drewN ?_ _ | refine blk_drew ?_ | refine blk_alloc ?_ _)); exact BK214.out) hb); have n1_ := am (blk_below (g := gb215) (o := .cells #[.int .i64 a1_0, .int .i64 a1_1, .int .i64 a1_2] 24 (0, 0)) (by (with_reducible repeat (first | refine blk_drewN ?_ _ | refine blk_drew ?_ | refine blk_alloc ?_ _)); refine blk_far ?_ NB215_225.out _; (with_reducible repeat (first | refine blk_drewN ?_ _ | refine blk_drew ?_ | refine blk_alloc ?_ _)); refine blk_far ?_ NB215_225.out _; (with_reducible repeat (first | refine blk_drewN ?_ _ | refine blk_drew ?_ | refine blk_alloc ?_ _)); refine blk_far ?_ NB215_225.out _; (with_reducible repeat (first | refine blk_drewN ?_ _ | refine blk_drew ?_ | refine blk_alloc ?_ _)); exact BK215.out) hb); have n2_ := am (blk_below (g := gb216) (o := .cells #[.int .i64 a2_0, .int .i64 a2_1, .int .i64 a2_2] 24 (0, 0)) (by (with_reducible repeat (first | refine blk_drewN ?_ _ | refine blk_drew ?_ | refine blk_alloc ?_ _)); refine blk_far ?_ NB216_225.out _; (with_reducible repeat (first | refine blk_drewN ?_ _ | refine blk_drew ?_ | refine blk_alloc ?_ _)); refine blk_far ?_ NB216_225.out _; (with_reducible repeat (first | refine blk_drewN ?_ _ | refine blk_drew ?_ | refine blk_alloc ?_ _)); refine blk_far ?_ NB216_225.out _; (with_reducible repeat (first | refine blk_drewN ?_ _ | refine blk_drew ?_ | refine blk_alloc ?_ _)); exact BK216.out) hb); have n3_ := am (blk_below (g := gb225) (o := .cells #[.int .i64 t222, .int .i64 t223, .int .i64 t224] 24 (0, 0)) (by (with_reducible repeat (first | refine blk_drewN ?_ _ | refine blk_drew ?_ | refine blk_alloc ?_ _)); refine blk_put (cs := #[.int .i64 t222, .int .i64 t223, .int .i64 0]) ?_ 2 _ rfl; (with_reducible repeat (first | refine blk_drewN ?_ _ | refine blk_drew ?_ | refine blk_alloc ?_ _)); refine blk_put (cs := #[.int .i64 t222, .int .i64 0, .int .i64 0]) ?_ 1 _ rfl; (with_reducible repeat (first | refine blk_drewN ?_ _ | refine blk_drew ?_ | refine blk_alloc ?_ _)); refine blk_put (cs := #[.int .i64 0, .int .i64 0, .int .i64 0]) ?_ 0 _ rfl; (with_reducible repeat (first | refine blk_drewN ?_ _ | refine blk_drew ?_ | refine blk_alloc ?_ _)); exact BK225.out) hb); have n4_ := am (below_step (by repeat (first | (with_reducible first | exact HB.out | apply below_alloc | apply pw_below_drewN | apply below_drew1 | refine below_set ?_ GE214.out | refine below_set ?_ GE215.out | refine below_set ?_ GE216.out | refine below_set ?_ GE225.out) | exact HB.out)) hb); clear BK214; clear BK215; clear BK216; clear BK225; clear HB; have BK214 := n0_; have BK215 := n1_; have BK216 := n2_; have BK225 := n3_; have HB := n4_; clear n0_ n1_ n2_ n3_ n4_; (try clear hb); (try clear hb2); (try clear hk); (try clear hi); have hcz246_0 : w245.cell? ⟨gb225, 0, none⟩ = some (.int .i64 t222) := (blk_cell BK225.out 0).trans rfl; have hcz246_1 : w245.cell? ⟨gb225, 1, none⟩ = some (.int .i64 t223) := (blk_cell BK225.out 1).trans rfl; have hcz246_2 : w245.cell? ⟨gb225, 2, none⟩ = some (.int .i64 t224) := (blk_cell BK225.out 2).trans rfl; have hfz246_0 := blk_frozen BK225.out 0; have hfz246_1 := blk_frozen BK225.out 1; have hfz246_2 := blk_frozen BK225.out 2; have hnb247 := NB215_216.out; have hnc247 := NB216_215.out; have hcz248_0 : w245.cell? ⟨gb215, 0, none⟩ = some (.int .i64 a1_0) := (blk_cell BK215.out 0).trans rfl; have hcz248_1 : w245.cell? ⟨gb215, 1, none⟩ = some (.int .i64 a1_1) := (blk_cell BK215.out 1).trans rfl; have hcz248_2 : w245.cell? ⟨gb215, 2, none⟩ = some (.int .i64 a1_2) := (blk_cell BK215.out 2).trans rfl; have hfz248_0 := blk_frozen BK215.out 0; have hfz248_1 := blk_frozen BK215.out 1; have hfz248_2 := blk_frozen BK215.out 2) | (go_at_call 16; (with_reducible refine (keep_Stamp.calls t222 t223 t224 a1_0 a1_1 a1_2 false _ A200.out).mono ?_); rintro e w249 ⟨rfl, hb⟩; have n0_ := am (blk_below (g := gb214) (o := .cells #[.int .i64 a0_0, .int .i64 a0_1, .int .i64 a0_2] 24 (0, 0)) (by (with_reducible repeat (first | refine blk_drewN ?_ _ | refine blk_drew ?_ | refine blk_alloc ?_ _)); exact BK214.out) hb); have n1_ := am (blk_below (g := gb215) (o := .cells #[.int .i64 a1_0, .int .i64 a1_1, .int .i64 a1_2] 24 (0, 0)) (by (with_reducible repeat (first | refine blk_drewN ?_ _ | refine blk_drew ?_ | refine blk_alloc ?_ _)); exact BK215.out) hb); have n2_ := am (blk_below (g := gb216) (o := .cells #[.int .i64 a2_0, .int .i64 a2_1, .int .i64 a2_2] 24 (0, 0)) (by (with_reducible repeat (first | refine blk_drewN ?_ _ | refine blk_drew ?_ | refine blk_alloc ?_ _)); exact BK216.out) hb); have n3_ := am (blk_below (g := gb225) (o := .cells #[.int .i64 t222, .int .i64 t223, .int .i64 t224] 24 (0, 0)) (by (with_reducible repeat (first | refine blk_drewN ?_ _ | refine blk_drew ?_ | refine blk_alloc ?_ _)); exact BK225.out) hb); have n4_ := am (below_step (by repeat (first | (with_reducible first | exact HB.out | apply below_alloc | apply pw_below_drewN | apply below_drew1 | refine below_set ?_ GE214.out | refine below_set ?_ GE215.out | refine below_set ?_ GE216.out | refine below_set ?_ GE225.out) | exact HB.out)) hb); clear BK214; clear BK215; clear BK216; clear BK225; clear HB; have BK214 := n0_; have BK215 := n1_; have BK216 := n2_; have BK225 := n3_; have HB := n4_; clear n0_ n1_ n2_ n3_ n4_; (try clear hb); (try clear hb2); (try clear hk); (try clear hi)))
       go_meet
       case rel => exact ⟨_, (true), (by first | rfl | (simp; done) | (simp [*]; done)), H', ⟨by have := HJ8.out; first | omega | exact Nat.le_refl _⟩, ⟨by (with_reducible repeat (first | refine blk_drewN ?_ _ | refine blk_drew ?_ | refine blk_alloc ?_ _)); exact BK214.out⟩, ⟨by (with_reducible repeat (first | refine blk_drewN ?_ _ | refine blk_drew ?_ | refine blk_alloc ?_ _)); exact BK215.out⟩, ⟨by (with_reducible repeat (first | refine blk_drewN ?_ _ | refine blk_drew ?_ | refine blk_alloc ?_ _)); exact BK216.out⟩, ⟨by (with_reducible repeat (first | refine blk_drewN ?_ _ | refine blk_drew ?_ | refine blk_alloc ?_ _)); exact BK225.out⟩, ⟨by repeat (first | (with_reducible first | exact HB.out | apply below_alloc | apply pw_below_drewN | apply below_drew1 | refine below_set ?_ GE214.out | refine below_set ?_ GE215.out | refine below_set ?_ GE216.out | refine below_set ?_ GE225.out) | exact HB.out)⟩⟩
    case rest =>
     clear HC157
     try clear c1
     try clear c2
     try clear p2
     try clear c11
     try clear c12
     try clear c13
     try clear c14
     try clear c15
     try clear c16
     try clear c17
     try clear c18
     try clear c19
     try clear c20
     try clear c21
     try clear c22
     try clear c23
     try clear c24
     try clear c111
     try clear c111b0
     try clear c112
     try clear c113
     try clear c115
     try clear c121
     try clear c121b0
     try clear c122
     try clear c123
     try clear c125
     try clear c131
     try clear c132
     try clear c134
     try clear c140
     try clear c141
     try clear c143
     try clear c149
     try clear c150
     try clear c152
     try clear c155
     try clear c158
     try clear c159
     try clear c161
     try clear c165
     try clear c166
     try clear c167
     try clear c170
     try clear c172
     try clear c172b0
     try clear c173
     try clear c174
     try clear c175
     try clear c177
     try clear c178
     try clear c185
     try clear c186
     try clear c187
     try clear c189
     try clear c190
     try clear c197
     try clear c201
     try clear c203
     try clear c203b0
     try clear c204
     try clear c205
     try clear c206
     try clear c208
     try clear c209
     try clear c213
     try clear c220
     try clear c221
     try clear c222
     try clear c224
     try clear c225
     try clear c229
     try clear c238
     try clear c239
     try clear c240
     try clear c242
     try clear c243
     try clear c247
     try clear hcz103_0
     try clear hcz103_1
     try clear hcz103_2
     try clear hcz105_0
     try clear hcz105_1
     try clear hcz105_2
     try clear hcz107_0
     try clear hcz107_1
     try clear hcz107_2
     try clear hcz108_0
     try clear hcz108_1
     try clear hcz108_2
     try clear hcz114_0
     try clear hcz114_1
     try clear hcz114_2
     try clear hcz116_0
     try clear hcz116_1
     try clear hcz116_2
     try clear hcz118_0
     try clear hcz118_1
     try clear hcz118_2
     try clear hcz119_0
     try clear hcz119_1
     try clear hcz119_2
     try clear hcz124_0
     try clear hcz124_1
     try clear hcz124_2
     try clear hcz126_0
     try clear hcz126_1
     try clear hcz126_2
     try clear hcz128_0
     try clear hcz128_1
     try clear hcz128_2
     try clear hcz129_0
     try clear hcz129_1
     try clear hcz129_2
     try clear hcz133_0
     try clear hcz133_1
     try clear hcz133_2
     try clear hcz135_0
     try clear hcz135_1
     try clear hcz135_2
     try clear hcz137_0
     try clear hcz137_1
     try clear hcz137_2
     try clear hcz138_0
     try clear hcz138_1
     try clear hcz138_2
     try clear hcz142_0
     try clear hcz142_1
     try clear hcz142_2
     try clear hcz144_0
     try clear hcz144_1
     try clear hcz144_2
     try clear hcz146_0
     try clear hcz146_1
     try clear hcz146_2
     try clear hcz147_0
     try clear hcz147_1
     try clear hcz147_2
     try clear hcz151_0
     try clear hcz151_1
     try clear hcz151_2
     try clear hcz153_0
     try clear hcz153_1
     try clear hcz153_2
     try clear hcz160_0
     try clear hcz160_1
     try clear hcz160_2
     try clear hcz162_0
     try clear hcz162_1
     try clear hcz162_2
     try clear hcz168_0
     try clear hcz168_1
     try clear hcz168_2
     try clear hcz176_0
     try clear hcz176_1
     try clear hcz176_2
     try clear hcz179_0
     try clear hcz179_1
     try clear hcz179_2
     try clear hcz181_0
     try clear hcz181_1
     try clear hcz181_2
     try clear hcz182_0
     try clear hcz182_1
     try clear hcz182_2
     try clear hcz188_0
     try clear hcz188_1
     try clear hcz188_2
     try clear hcz191_0
     try clear hcz191_1
     try clear hcz191_2
     try clear hcz193_0
     try clear hcz193_1
     try clear hcz193_2
     try clear hcz194_0
     try clear hcz194_1
     try clear hcz194_2
     try clear hcz196_0
     try clear hcz196_1
     try clear hcz196_2
     try clear hcz198_0
     try clear hcz198_1
     try clear hcz198_2
     try clear hcz207_0
     try clear hcz207_1
     try clear hcz207_2
     try clear hcz210_0
     try clear hcz210_1
     try clear hcz210_2
     try clear hcz212_0
     try clear hcz212_1
     try clear hcz212_2
     try clear hcz214_0
     try clear hcz214_1
     try clear hcz214_2
     try clear hcz216_0
     try clear hcz216_1
     try clear hcz216_2
     try clear hcz217_0
     try clear hcz217_1
     try clear hcz217_2
     try clear hcz223_0
     try clear hcz223_1
     try clear hcz223_2
     try clear hcz226_0
     try clear hcz226_1
     try clear hcz226_2
     try clear hcz228_0
     try clear hcz228_1
     try clear hcz228_2
     try clear hcz230_0
     try clear hcz230_1
     try clear hcz230_2
     try clear hcz232_0
     try clear hcz232_1
     try clear hcz232_2
     try clear hcz233_0
     try clear hcz233_1
     try clear hcz233_2
     try clear hcz235_0
     try clear hcz235_1
     try clear hcz235_2
     try clear hcz236_0
     try clear hcz236_1
     try clear hcz236_2
     try clear hcz23_0
     try clear hcz23_1
     try clear hcz23_2
     try clear hcz241_0
     try clear hcz241_1
     try clear hcz241_2
     try clear hcz244_0
     try clear hcz244_1
     try clear hcz244_2
     try clear hcz246_0
     try clear hcz246_1
     try clear hcz246_2
     try clear hcz248_0
     try clear hcz248_1
     try clear hcz248_2
     try clear hcz25_0
     try clear hcz25_1
     try clear hcz25_2
     try clear hcz27_0
     try clear hcz27_1
     try clear hcz27_2
     try clear hcz28_0
     try clear hcz28_1
     try clear hcz28_2
     try clear hcz33_0
     try clear hcz33_1
     try clear hcz33_2
     try clear hcz35_0
     try clear hcz35_1
     try clear hcz35_2
     try clear hcz37_0
     try clear hcz37_1
     try clear hcz37_2
     try clear hcz38_0
     try clear hcz38_1
     try clear hcz38_2
     try clear hcz43_0
     try clear hcz43_1
     try clear hcz43_2
     try clear hcz45_0
     try clear hcz45_1
     try clear hcz45_2
     try clear hcz47_0
     try clear hcz47_1
     try clear hcz47_2
     try clear hcz48_0
     try clear hcz48_1
     try clear hcz48_2
     try clear hcz54_0
     try clear hcz54_1
     try clear hcz54_2
     try clear hcz56_0
     try clear hcz56_1
     try clear hcz56_2
     try clear hcz58_0
     try clear hcz58_1
     try clear hcz58_2
     try clear hcz59_0
     try clear hcz59_1
     try clear hcz59_2
     try clear hcz64_0
     try clear hcz64_1
     try clear hcz64_2
     try clear hcz66_0
     try clear hcz66_1
     try clear hcz66_2
     try clear hcz68_0
     try clear hcz68_1
     try clear hcz68_2
     try clear hcz69_0
     try clear hcz69_1
     try clear hcz69_2
     try clear hcz73_0
     try clear hcz73_1
     try clear hcz73_2
     try clear hcz75_0
     try clear hcz75_1
     try clear hcz75_2
     try clear hcz77_0
     try clear hcz77_1
     try clear hcz77_2
     try clear hcz78_0
     try clear hcz78_1
     try clear hcz78_2
     try clear hcz84_0
     try clear hcz84_1
     try clear hcz84_2
     try clear hcz86_0
     try clear hcz86_1
     try clear hcz86_2
     try clear hcz88_0
     try clear hcz88_1
     try clear hcz88_2
     try clear hcz89_0
     try clear hcz89_1
     try clear hcz89_2
     try clear hcz94_0
     try clear hcz94_1
     try clear hcz94_2
     try clear hcz96_0
     try clear hcz96_1
     try clear hcz96_2
     try clear hcz98_0
     try clear hcz98_1
     try clear hcz98_2
     try clear hcz99_0
     try clear hcz99_1
     try clear hcz99_2
     try clear hfz103_0
     try clear hfz103_1
     try clear hfz103_2
     try clear hfz105_0
     try clear hfz105_1
     try clear hfz105_2
     try clear hfz107_0
     try clear hfz107_1
     try clear hfz107_2
     try clear hfz108_0
     try clear hfz108_1
     try clear hfz108_2
     try clear hfz114_0
     try clear hfz114_1
     try clear hfz114_2
     try clear hfz116_0
     try clear hfz116_1
     try clear hfz116_2
     try clear hfz118_0
     try clear hfz118_1
     try clear hfz118_2
     try clear hfz119_0
     try clear hfz119_1
     try clear hfz119_2
     try clear hfz124_0
     try clear hfz124_1
     try clear hfz124_2
     try clear hfz126_0
     try clear hfz126_1
     try clear hfz126_2
     try clear hfz128_0
     try clear hfz128_1
     try clear hfz128_2
     try clear hfz129_0
     try clear hfz129_1
     try clear hfz129_2
     try clear hfz133_0
     try clear hfz133_1
     try clear hfz133_2
     try clear hfz135_0
     try clear hfz135_1
     try clear hfz135_2
     try clear hfz137_0
     try clear hfz137_1
     try clear hfz137_2
     try clear hfz138_0
     try clear hfz138_1
     try clear hfz138_2
     try clear hfz142_0
     try clear hfz142_1
     try clear hfz142_2
     try clear hfz144_0
     try clear hfz144_1
     try clear hfz144_2
     try clear hfz146_0
     try clear hfz146_1
     try clear hfz146_2
     try clear hfz147_0
     try clear hfz147_1
     try clear hfz147_2
     try clear hfz151_0
     try clear hfz151_1
     try clear hfz151_2
     try clear hfz153_0
     try clear hfz153_1
     try clear hfz153_2
     try clear hfz160_0
     try clear hfz160_1
     try clear hfz160_2
     try clear hfz162_0
     try clear hfz162_1
     try clear hfz162_2
     try clear hfz168_0
     try clear hfz168_1
     try clear hfz168_2
     try clear hfz176_0
     try clear hfz176_1
     try clear hfz176_2
     try clear hfz179_0
     try clear hfz179_1
     try clear hfz179_2
     try clear hfz181_0
     try clear hfz181_1
     try clear hfz181_2
     try clear hfz182_0
     try clear hfz182_1
     try clear hfz182_2
     try clear hfz188_0
     try clear hfz188_1
     try clear hfz188_2
     try clear hfz191_0
     try clear hfz191_1
     try clear hfz191_2
     try clear hfz193_0
     try clear hfz193_1
     try clear hfz193_2
     try clear hfz194_0
     try clear hfz194_1
     try clear hfz194_2
     try clear hfz196_0
     try clear hfz196_1
     try clear hfz196_2
     try clear hfz198_0
     try clear hfz198_1
     try clear hfz198_2
     try clear hfz207_0
     try clear hfz207_1
     try clear hfz207_2
     try clear hfz210_0
     try clear hfz210_1
     try clear hfz210_2
     try clear hfz212_0
     try clear hfz212_1
     try clear hfz212_2
     try clear hfz214_0
     try clear hfz214_1
     try clear hfz214_2
     try clear hfz216_0
     try clear hfz216_1
     try clear hfz216_2
     try clear hfz217_0
     try clear hfz217_1
     try clear hfz217_2
     try clear hfz223_0
     try clear hfz223_1
     try clear hfz223_2
     try clear hfz226_0
     try clear hfz226_1
     try clear hfz226_2
     try clear hfz228_0
     try clear hfz228_1
     try clear hfz228_2
     try clear hfz230_0
     try clear hfz230_1
     try clear hfz230_2
     try clear hfz232_0
     try clear hfz232_1
     try clear hfz232_2
     try clear hfz233_0
     try clear hfz233_1
     try clear hfz233_2
     try clear hfz235_0
     try clear hfz235_1
     try clear hfz235_2
     try clear hfz236_0
     try clear hfz236_1
     try clear hfz236_2
     try clear hfz23_0
     try clear hfz23_1
     try clear hfz23_2
     try clear hfz241_0
     try clear hfz241_1
     try clear hfz241_2
     try clear hfz244_0
     try clear hfz244_1
     try clear hfz244_2
     try clear hfz246_0
     try clear hfz246_1
     try clear hfz246_2
     try clear hfz248_0
     try clear hfz248_1
     try clear hfz248_2
     try clear hfz25_0
     try clear hfz25_1
     try clear hfz25_2
     try clear hfz27_0
     try clear hfz27_1
     try clear hfz27_2
     try clear hfz28_0
     try clear hfz28_1
     try clear hfz28_2
     try clear hfz33_0
     try clear hfz33_1
     try clear hfz33_2
     try clear hfz35_0
     try clear hfz35_1
     try clear hfz35_2
     try clear hfz37_0
     try clear hfz37_1
     try clear hfz37_2
     try clear hfz38_0
     try clear hfz38_1
     try clear hfz38_2
     try clear hfz43_0
     try clear hfz43_1
     try clear hfz43_2
     try clear hfz45_0
     try clear hfz45_1
     try clear hfz45_2
     try clear hfz47_0
     try clear hfz47_1
     try clear hfz47_2
     try clear hfz48_0
     try clear hfz48_1
     try clear hfz48_2
     try clear hfz54_0
     try clear hfz54_1
     try clear hfz54_2
     try clear hfz56_0
     try clear hfz56_1
     try clear hfz56_2
     try clear hfz58_0
     try clear hfz58_1
     try clear hfz58_2
     try clear hfz59_0
     try clear hfz59_1
     try clear hfz59_2
     try clear hfz64_0
     try clear hfz64_1
     try clear hfz64_2
     try clear hfz66_0
     try clear hfz66_1
     try clear hfz66_2
     try clear hfz68_0
     try clear hfz68_1
     try clear hfz68_2
     try clear hfz69_0
     try clear hfz69_1
     try clear hfz69_2
     try clear hfz73_0
     try clear hfz73_1
     try clear hfz73_2
     try clear hfz75_0
     try clear hfz75_1
     try clear hfz75_2
     try clear hfz77_0
     try clear hfz77_1
     try clear hfz77_2
     try clear hfz78_0
     try clear hfz78_1
     try clear hfz78_2
     try clear hfz84_0
     try clear hfz84_1
     try clear hfz84_2
     try clear hfz86_0
     try clear hfz86_1
     try clear hfz86_2
     try clear hfz88_0
     try clear hfz88_1
     try clear hfz88_2
     try clear hfz89_0
     try clear hfz89_1
     try clear hfz89_2
     try clear hfz94_0
     try clear hfz94_1
     try clear hfz94_2
     try clear hfz96_0
     try clear hfz96_1
     try clear hfz96_2
     try clear hfz98_0
     try clear hfz98_1
     try clear hfz98_2
     try clear hfz99_0
     try clear hfz99_1
     try clear hfz99_2
     obtain ⟨kq, x97_156, rfl, HA, HJ156, BK214, BK215, BK216, BK225, HB⟩ := hcut
     cases kq with
     | zero => exact absurd HA.out (by simp [L06_HlcRises.j1])
     | succ kj156 =>
      have H := HA.out
      clear HA
      simp only [L06_HlcRises.j1] at H
      by_cases c250 : x97_156 = true
      ·
       subst c250
       have H1 : (some false) = some r := by rw [if_pos rfl] at H; exact H
       clear H
       have H := H1
       clear H1
       exact absurd (H.trans (congrArg some HLAW.out)) (by simp)
      ·
       replace c250 := Bool.eq_false_iff.mpr c250
       subst c250
       have H1 : ((R01_Stamp.f a0_0 a0_1 a0_2).bind fun t232 => (if t232 = true then (if a3 < 0 then (L06_HlcRises.j2 kj156 a3 a4 true a0_0 a0_1 a0_2) else (if a3 > 1099511627776 then (L06_HlcRises.j2 kj156 a3 a4 true a0_0 a0_1 a0_2) else (if a4 < 0 then (L06_HlcRises.j2 kj156 a3 a4 true a0_0 a0_1 a0_2) else (L06_HlcRises.j2 kj156 a3 a4 (decide (a4 ≥ 5)) a0_0 a0_1 a0_2)))) else (L06_HlcRises.j2 kj156 a3 a4 true a0_0 a0_1 a0_2))) = some r := by rw [if_neg (show ¬ (false = true) by decide)] at H; exact H
       clear H
       have H := H1
       clear H1
       have HC251 := am H
       clear H
       go_upto_region 7 with (fail)
       go_cut [116] (fun v116 wc => ∃ (kq : Nat) (x116_250 : Bool), v116 = .bool x116_250 ∧ Aside0 (L06_HlcRises.j2 kq a3 a4 x116_250 a0_0 a0_1 a0_2 = some r) ∧ Aside0 (kq ≤ kj156) ∧ Aside0 (wc.heap[gb214]? = some (.cells #[.int .i64 a0_0, .int .i64 a0_1, .int .i64 a0_2] 24 (0, 0))) ∧ Aside0 (wc.heap[gb215]? = some (.cells #[.int .i64 a1_0, .int .i64 a1_1, .int .i64 a1_2] 24 (0, 0))) ∧ Aside0 (wc.heap[gb216]? = some (.cells #[.int .i64 a2_0, .int .i64 a2_1, .int .i64 a2_2] 24 (0, 0))) ∧ Aside0 (wc.heap[gb225]? = some (.cells #[.int .i64 t222, .int .i64 t223, .int .i64 t224] 24 (0, 0))) ∧ Aside0 (Below w.heap.size w wc))
       case first =>
        have H := HC251.out
        clear HC251
        replace H := Option.bind_eq_some_iff.mp H
        obtain ⟨t232, A2520, H⟩ := H
        replace H : (if t232 = true then (if a3 < 0 then (L06_HlcRises.j2 kj156 a3 a4 true a0_0 a0_1 a0_2) else (if a3 > 1099511627776 then (L06_HlcRises.j2 kj156 a3 a4 true a0_0 a0_1 a0_2) else (if a4 < 0 then (L06_HlcRises.j2 kj156 a3 a4 true a0_0 a0_1 a0_2) else (L06_HlcRises.j2 kj156 a3 a4 (decide (a4 ≥ 5)) a0_0 a0_1 a0_2)))) else (L06_HlcRises.j2 kj156 a3 a4 true a0_0 a0_1 a0_2)) = some r := H
        have A252 := am A2520
        clear A2520
        by_cases c253 : t232 = true
        ·
         subst c253
         have H1 : (if a3 < 0 then (L06_HlcRises.j2 kj156 a3 a4 true a0_0 a0_1 a0_2) else (if a3 > 1099511627776 then (L06_HlcRises.j2 kj156 a3 a4 true a0_0 a0_1 a0_2) else (if a4 < 0 then (L06_HlcRises.j2 kj156 a3 a4 true a0_0 a0_1 a0_2) else (L06_HlcRises.j2 kj156 a3 a4 (decide (a4 ≥ 5)) a0_0 a0_1 a0_2)))) = some r := by rw [if_pos rfl] at H; exact H
         clear H
         have H := H1
         clear H1
         by_cases c254 : a3 < 0
         ·
          rw [if_pos c254] at H
          have c254b0 : decide (a3 < 0) = true := decide_eq_true c254
          clear c254
          (first | rw [c254b0] | (simp only [i64_w, i32_w]; rw [c254b0]) | skip)
          have H' := am H
          clear H
          have hnb255 := NB214_215.out
          have hnc255 := NB215_214.out
          have hnb256 := NB214_216.out
          have hnc256 := NB216_214.out
          have hnb257 := NB214_225.out
          have hnc257 := NB225_214.out
          have hcz258_0 : wc.cell? ⟨gb214, 0, none⟩ = some (.int .i64 a0_0) := (blk_cell BK214.out 0).trans rfl
          have hcz258_1 : wc.cell? ⟨gb214, 1, none⟩ = some (.int .i64 a0_1) := (blk_cell BK214.out 1).trans rfl
          have hcz258_2 : wc.cell? ⟨gb214, 2, none⟩ = some (.int .i64 a0_2) := (blk_cell BK214.out 2).trans rfl
          have hfz258_0 := blk_frozen BK214.out 0
          have hfz258_1 := blk_frozen BK214.out 1
          have hfz258_2 := blk_frozen BK214.out 2
          go_wp2_with (first | ((with_reducible refine gate_callee (f := 12) rfl ?_); refine goesL_ (some 99) rfl rfl Try.func12 (by kernel_rfl) rfl #[.agg #[.int .i64 a0_0, .int .i64 a0_1, .int .i64 a0_2]] rfl (by (try simp only [List.map_toArray, List.map_cons, List.map_nil]); first | done | rfl | (simp only [List.length_drop, List.length_take]; rfl)) ?_; (with_reducible refine (R01_Stamp.calls a0_0 a0_1 a0_2 true _ A252.out).mono ?_); rintro e w259 ⟨rfl, hb⟩; refine ⟨_, rfl, ?_⟩; have n0_ := am (blk_below (g := gb214) (o := .cells #[.int .i64 a0_0, .int .i64 a0_1, .int .i64 a0_2] 24 (0, 0)) (by (with_reducible repeat (first | refine blk_drewN ?_ _ | refine blk_drew ?_ | refine blk_alloc ?_ _)); exact BK214.out) hb); have n1_ := am (blk_below (g := gb215) (o := .cells #[.int .i64 a1_0, .int .i64 a1_1, .int .i64 a1_2] 24 (0, 0)) (by (with_reducible repeat (first | refine blk_drewN ?_ _ | refine blk_drew ?_ | refine blk_alloc ?_ _)); exact BK215.out) hb); have n2_ := am (blk_below (g := gb216) (o := .cells #[.int .i64 a2_0, .int .i64 a2_1, .int .i64 a2_2] 24 (0, 0)) (by (with_reducible repeat (first | refine blk_drewN ?_ _ | refine blk_drew ?_ | refine blk_alloc ?_ _)); exact BK216.out) hb); have n3_ := am (blk_below (g := gb225) (o := .cells #[.int .i64 t222, .int .i64 t223, .int .i64 t224] 24 (0, 0)) (by (with_reducible repeat (first | refine blk_drewN ?_ _ | refine blk_drew ?_ | refine blk_alloc ?_ _)); exact BK225.out) hb); have n4_ := am (below_step (by repeat (first | (with_reducible first | exact HB.out | apply below_alloc | apply pw_below_drewN | apply below_drew1 | refine below_set ?_ GE214.out | refine below_set ?_ GE215.out | refine below_set ?_ GE216.out | refine below_set ?_ GE225.out) | exact HB.out)) hb); clear BK214; clear BK215; clear BK216; clear BK225; clear HB; have BK214 := n0_; have BK215 := n1_; have BK216 := n2_; have BK225 := n3_; have HB := n4_; clear n0_ n1_ n2_ n3_ n4_; (try clear hb); (try clear hb2); (try clear hk); (try clear hi)))
          go_meet
          case rel => exact ⟨_, (true), (by first | rfl | (simp; done) | (simp [*]; done)), H', ⟨by have := HJ8.out; have := HJ156.out; first | omega | exact Nat.le_refl _⟩, ⟨by (with_reducible repeat (first | refine blk_drewN ?_ _ | refine blk_drew ?_ | refine blk_alloc ?_ _)); exact BK214.out⟩, ⟨by (with_reducible repeat (first | refine blk_drewN ?_ _ | refine blk_drew ?_ | refine blk_alloc ?_ _)); exact BK215.out⟩, ⟨by (with_reducible repeat (first | refine blk_drewN ?_ _ | refine blk_drew ?_ | refine blk_alloc ?_ _)); exact BK216.out⟩, ⟨by (with_reducible repeat (first | refine blk_drewN ?_ _ | refine blk_drew ?_ | refine blk_alloc ?_ _)); exact BK225.out⟩, ⟨by repeat (first | (with_reducible first | exact HB.out | apply below_alloc | apply pw_below_drewN | apply below_drew1 | refine below_set ?_ GE214.out | refine below_set ?_ GE215.out | refine below_set ?_ GE216.out | refine below_set ?_ GE225.out) | exact HB.out)⟩⟩
         ·
          rw [if_neg c254] at H
          have c254b0 : decide (a3 < 0) = false := decide_eq_false c254
          clear c254
          (first | rw [c254b0] | (simp only [i64_w, i32_w]; rw [c254b0]) | skip)
          by_cases c260 : a3 > 1099511627776
          ·
           rw [if_pos c260] at H
           have c260b0 : decide (1099511627776 < a3) = true := decide_eq_true c260
           clear c260
           have H' := am H
           clear H
           have hnb261 := NB214_215.out
           have hnc261 := NB215_214.out
           have hnb262 := NB214_216.out
           have hnc262 := NB216_214.out
           have hnb263 := NB214_225.out
           have hnc263 := NB225_214.out
           have hcz264_0 : wc.cell? ⟨gb214, 0, none⟩ = some (.int .i64 a0_0) := (blk_cell BK214.out 0).trans rfl
           have hcz264_1 : wc.cell? ⟨gb214, 1, none⟩ = some (.int .i64 a0_1) := (blk_cell BK214.out 1).trans rfl
           have hcz264_2 : wc.cell? ⟨gb214, 2, none⟩ = some (.int .i64 a0_2) := (blk_cell BK214.out 2).trans rfl
           have hfz264_0 := blk_frozen BK214.out 0
           have hfz264_1 := blk_frozen BK214.out 1
           have hfz264_2 := blk_frozen BK214.out 2
           go_wp2_with (first | ((with_reducible refine gate_callee (f := 12) rfl ?_); refine goesL_ (some 99) rfl rfl Try.func12 (by kernel_rfl) rfl #[.agg #[.int .i64 a0_0, .int .i64 a0_1, .int .i64 a0_2]] rfl (by (try simp only [List.map_toArray, List.map_cons, List.map_nil]); first | done | rfl | (simp only [List.length_drop, List.length_take]; rfl)) ?_; (with_reducible refine (R01_Stamp.calls a0_0 a0_1 a0_2 true _ A252.out).mono ?_); rintro e w265 ⟨rfl, hb⟩; refine ⟨_, rfl, ?_⟩; have n0_ := am (blk_below (g := gb214) (o := .cells #[.int .i64 a0_0, .int .i64 a0_1, .int .i64 a0_2] 24 (0, 0)) (by (with_reducible repeat (first | refine blk_drewN ?_ _ | refine blk_drew ?_ | refine blk_alloc ?_ _)); exact BK214.out) hb); have n1_ := am (blk_below (g := gb215) (o := .cells #[.int .i64 a1_0, .int .i64 a1_1, .int .i64 a1_2] 24 (0, 0)) (by (with_reducible repeat (first | refine blk_drewN ?_ _ | refine blk_drew ?_ | refine blk_alloc ?_ _)); exact BK215.out) hb); have n2_ := am (blk_below (g := gb216) (o := .cells #[.int .i64 a2_0, .int .i64 a2_1, .int .i64 a2_2] 24 (0, 0)) (by (with_reducible repeat (first | refine blk_drewN ?_ _ | refine blk_drew ?_ | refine blk_alloc ?_ _)); exact BK216.out) hb); have n3_ := am (blk_below (g := gb225) (o := .cells #[.int .i64 t222, .int .i64 t223, .int .i64 t224] 24 (0, 0)) (by (with_reducible repeat (first | refine blk_drewN ?_ _ | refine blk_drew ?_ | refine blk_alloc ?_ _)); exact BK225.out) hb); have n4_ := am (below_step (by repeat (first | (with_reducible first | exact HB.out | apply below_alloc | apply pw_below_drewN | apply below_drew1 | refine below_set ?_ GE214.out | refine below_set ?_ GE215.out | refine below_set ?_ GE216.out | refine below_set ?_ GE225.out) | exact HB.out)) hb); clear BK214; clear BK215; clear BK216; clear BK225; clear HB; have BK214 := n0_; have BK215 := n1_; have BK216 := n2_; have BK225 := n3_; have HB := n4_; clear n0_ n1_ n2_ n3_ n4_; (try clear hb); (try clear hb2); (try clear hk); (try clear hi)))
           go_meet
           case rel => exact ⟨_, (true), (by first | rfl | (simp; done) | (simp [*]; done)), H', ⟨by have := HJ8.out; have := HJ156.out; first | omega | exact Nat.le_refl _⟩, ⟨by (with_reducible repeat (first | refine blk_drewN ?_ _ | refine blk_drew ?_ | refine blk_alloc ?_ _)); exact BK214.out⟩, ⟨by (with_reducible repeat (first | refine blk_drewN ?_ _ | refine blk_drew ?_ | refine blk_alloc ?_ _)); exact BK215.out⟩, ⟨by (with_reducible repeat (first | refine blk_drewN ?_ _ | refine blk_drew ?_ | refine blk_alloc ?_ _)); exact BK216.out⟩, ⟨by (with_reducible repeat (first | refine blk_drewN ?_ _ | refine blk_drew ?_ | refine blk_alloc ?_ _)); exact BK225.out⟩, ⟨by repeat (first | (with_reducible first | exact HB.out | apply below_alloc | apply pw_below_drewN | apply below_drew1 | refine below_set ?_ GE214.out | refine below_set ?_ GE215.out | refine below_set ?_ GE216.out | refine below_set ?_ GE225.out) | exact HB.out)⟩⟩
          ·
           rw [if_neg c260] at H
           have c260b0 : decide (1099511627776 < a3) = false := decide_eq_false c260
           clear c260
           by_cases c266 : a4 < 0
           ·
            rw [if_pos c266] at H
            have c266b0 : decide (a4 < 0) = true := decide_eq_true c266
            clear c266
            have H' := am H
            clear H
            have hnb267 := NB214_215.out
            have hnc267 := NB215_214.out
            have hnb268 := NB214_216.out
            have hnc268 := NB216_214.out
            have hnb269 := NB214_225.out
            have hnc269 := NB225_214.out
            have hcz270_0 : wc.cell? ⟨gb214, 0, none⟩ = some (.int .i64 a0_0) := (blk_cell BK214.out 0).trans rfl
            have hcz270_1 : wc.cell? ⟨gb214, 1, none⟩ = some (.int .i64 a0_1) := (blk_cell BK214.out 1).trans rfl
            have hcz270_2 : wc.cell? ⟨gb214, 2, none⟩ = some (.int .i64 a0_2) := (blk_cell BK214.out 2).trans rfl
            have hfz270_0 := blk_frozen BK214.out 0
            have hfz270_1 := blk_frozen BK214.out 1
            have hfz270_2 := blk_frozen BK214.out 2
            go_wp2_with (first | ((with_reducible refine gate_callee (f := 12) rfl ?_); refine goesL_ (some 99) rfl rfl Try.func12 (by kernel_rfl) rfl #[.agg #[.int .i64 a0_0, .int .i64 a0_1, .int .i64 a0_2]] rfl (by (try simp only [List.map_toArray, List.map_cons, List.map_nil]); first | done | rfl | (simp only [List.length_drop, List.length_take]; rfl)) ?_; (with_reducible refine (R01_Stamp.calls a0_0 a0_1 a0_2 true _ A252.out).mono ?_); rintro e w271 ⟨rfl, hb⟩; refine ⟨_, rfl, ?_⟩; have n0_ := am (blk_below (g := gb214) (o := .cells #[.int .i64 a0_0, .int .i64 a0_1, .int .i64 a0_2] 24 (0, 0)) (by (with_reducible repeat (first | refine blk_drewN ?_ _ | refine blk_drew ?_ | refine blk_alloc ?_ _)); exact BK214.out) hb); have n1_ := am (blk_below (g := gb215) (o := .cells #[.int .i64 a1_0, .int .i64 a1_1, .int .i64 a1_2] 24 (0, 0)) (by (with_reducible repeat (first | refine blk_drewN ?_ _ | refine blk_drew ?_ | refine blk_alloc ?_ _)); exact BK215.out) hb); have n2_ := am (blk_below (g := gb216) (o := .cells #[.int .i64 a2_0, .int .i64 a2_1, .int .i64 a2_2] 24 (0, 0)) (by (with_reducible repeat (first | refine blk_drewN ?_ _ | refine blk_drew ?_ | refine blk_alloc ?_ _)); exact BK216.out) hb); have n3_ := am (blk_below (g := gb225) (o := .cells #[.int .i64 t222, .int .i64 t223, .int .i64 t224] 24 (0, 0)) (by (with_reducible repeat (first | refine blk_drewN ?_ _ | refine blk_drew ?_ | refine blk_alloc ?_ _)); exact BK225.out) hb); have n4_ := am (below_step (by repeat (first | (with_reducible first | exact HB.out | apply below_alloc | apply pw_below_drewN | apply below_drew1 | refine below_set ?_ GE214.out | refine below_set ?_ GE215.out | refine below_set ?_ GE216.out | refine below_set ?_ GE225.out) | exact HB.out)) hb); clear BK214; clear BK215; clear BK216; clear BK225; clear HB; have BK214 := n0_; have BK215 := n1_; have BK216 := n2_; have BK225 := n3_; have HB := n4_; clear n0_ n1_ n2_ n3_ n4_; (try clear hb); (try clear hb2); (try clear hk); (try clear hi)))
            go_meet
            case rel => exact ⟨_, (true), (by first | rfl | (simp; done) | (simp [*]; done)), H', ⟨by have := HJ8.out; have := HJ156.out; first | omega | exact Nat.le_refl _⟩, ⟨by (with_reducible repeat (first | refine blk_drewN ?_ _ | refine blk_drew ?_ | refine blk_alloc ?_ _)); exact BK214.out⟩, ⟨by (with_reducible repeat (first | refine blk_drewN ?_ _ | refine blk_drew ?_ | refine blk_alloc ?_ _)); exact BK215.out⟩, ⟨by (with_reducible repeat (first | refine blk_drewN ?_ _ | refine blk_drew ?_ | refine blk_alloc ?_ _)); exact BK216.out⟩, ⟨by (with_reducible repeat (first | refine blk_drewN ?_ _ | refine blk_drew ?_ | refine blk_alloc ?_ _)); exact BK225.out⟩, ⟨by repeat (first | (with_reducible first | exact HB.out | apply below_alloc | apply pw_below_drewN | apply below_drew1 | refine below_set ?_ GE214.out | refine below_set ?_ GE215.out | refine below_set ?_ GE216.out | refine below_set ?_ GE225.out) | exact HB.out)⟩⟩
           ·
            rw [if_neg c266] at H
            have c266b0 : decide (a4 < 0) = false := decide_eq_false c266
            clear c266
            have H' := am H
            clear H
            have hnb272 := NB214_215.out
            have hnc272 := NB215_214.out
            have hnb273 := NB214_216.out
            have hnc273 := NB216_214.out
            have hnb274 := NB214_225.out
            have hnc274 := NB225_214.out
            have hcz275_0 : wc.cell? ⟨gb214, 0, none⟩ = some (.int .i64 a0_0) := (blk_cell BK214.out 0).trans rfl
            have hcz275_1 : wc.cell? ⟨gb214, 1, none⟩ = some (.int .i64 a0_1) := (blk_cell BK214.out 1).trans rfl
            have hcz275_2 : wc.cell? ⟨gb214, 2, none⟩ = some (.int .i64 a0_2) := (blk_cell BK214.out 2).trans rfl
            have hfz275_0 := blk_frozen BK214.out 0
            have hfz275_1 := blk_frozen BK214.out 1
            have hfz275_2 := blk_frozen BK214.out 2
            go_wp2_with (first | ((with_reducible refine gate_callee (f := 12) rfl ?_); refine goesL_ (some 99) rfl rfl Try.func12 (by kernel_rfl) rfl #[.agg #[.int .i64 a0_0, .int .i64 a0_1, .int .i64 a0_2]] rfl (by (try simp only [List.map_toArray, List.map_cons, List.map_nil]); first | done | rfl | (simp only [List.length_drop, List.length_take]; rfl)) ?_; (with_reducible refine (R01_Stamp.calls a0_0 a0_1 a0_2 true _ A252.out).mono ?_); rintro e w276 ⟨rfl, hb⟩; refine ⟨_, rfl, ?_⟩; have n0_ := am (blk_below (g := gb214) (o := .cells #[.int .i64 a0_0, .int .i64 a0_1, .int .i64 a0_2] 24 (0, 0)) (by (with_reducible repeat (first | refine blk_drewN ?_ _ | refine blk_drew ?_ | refine blk_alloc ?_ _)); exact BK214.out) hb); have n1_ := am (blk_below (g := gb215) (o := .cells #[.int .i64 a1_0, .int .i64 a1_1, .int .i64 a1_2] 24 (0, 0)) (by (with_reducible repeat (first | refine blk_drewN ?_ _ | refine blk_drew ?_ | refine blk_alloc ?_ _)); exact BK215.out) hb); have n2_ := am (blk_below (g := gb216) (o := .cells #[.int .i64 a2_0, .int .i64 a2_1, .int .i64 a2_2] 24 (0, 0)) (by (with_reducible repeat (first | refine blk_drewN ?_ _ | refine blk_drew ?_ | refine blk_alloc ?_ _)); exact BK216.out) hb); have n3_ := am (blk_below (g := gb225) (o := .cells #[.int .i64 t222, .int .i64 t223, .int .i64 t224] 24 (0, 0)) (by (with_reducible repeat (first | refine blk_drewN ?_ _ | refine blk_drew ?_ | refine blk_alloc ?_ _)); exact BK225.out) hb); have n4_ := am (below_step (by repeat (first | (with_reducible first | exact HB.out | apply below_alloc | apply pw_below_drewN | apply below_drew1 | refine below_set ?_ GE214.out | refine below_set ?_ GE215.out | refine below_set ?_ GE216.out | refine below_set ?_ GE225.out) | exact HB.out)) hb); clear BK214; clear BK215; clear BK216; clear BK225; clear HB; have BK214 := n0_; have BK215 := n1_; have BK216 := n2_; have BK225 := n3_; have HB := n4_; clear n0_ n1_ n2_ n3_ n4_; (try clear hb); (try clear hb2); (try clear hk); (try clear hi)))
            go_meet
            case rel => exact ⟨_, (decide (a4 ≥ 5)), (by first | rfl | (simp; done) | (simp [*]; done)), H', ⟨by have := HJ8.out; have := HJ156.out; first | omega | exact Nat.le_refl _⟩, ⟨by (with_reducible repeat (first | refine blk_drewN ?_ _ | refine blk_drew ?_ | refine blk_alloc ?_ _)); exact BK214.out⟩, ⟨by (with_reducible repeat (first | refine blk_drewN ?_ _ | refine blk_drew ?_ | refine blk_alloc ?_ _)); exact BK215.out⟩, ⟨by (with_reducible repeat (first | refine blk_drewN ?_ _ | refine blk_drew ?_ | refine blk_alloc ?_ _)); exact BK216.out⟩, ⟨by (with_reducible repeat (first | refine blk_drewN ?_ _ | refine blk_drew ?_ | refine blk_alloc ?_ _)); exact BK225.out⟩, ⟨by repeat (first | (with_reducible first | exact HB.out | apply below_alloc | apply pw_below_drewN | apply below_drew1 | refine below_set ?_ GE214.out | refine below_set ?_ GE215.out | refine below_set ?_ GE216.out | refine below_set ?_ GE225.out) | exact HB.out)⟩⟩
        ·
         replace c253 := Bool.eq_false_iff.mpr c253
         subst c253
         have H1 : (L06_HlcRises.j2 kj156 a3 a4 true a0_0 a0_1 a0_2) = some r := by rw [if_neg (show ¬ (false = true) by decide)] at H; exact H
         clear H
         have H := H1
         clear H1
         have H' := am H
         clear H
         have hnb277 := NB214_215.out
         have hnc277 := NB215_214.out
         have hnb278 := NB214_216.out
         have hnc278 := NB216_214.out
         have hnb279 := NB214_225.out
         have hnc279 := NB225_214.out
         have hcz280_0 : wc.cell? ⟨gb214, 0, none⟩ = some (.int .i64 a0_0) := (blk_cell BK214.out 0).trans rfl
         have hcz280_1 : wc.cell? ⟨gb214, 1, none⟩ = some (.int .i64 a0_1) := (blk_cell BK214.out 1).trans rfl
         have hcz280_2 : wc.cell? ⟨gb214, 2, none⟩ = some (.int .i64 a0_2) := (blk_cell BK214.out 2).trans rfl
         have hfz280_0 := blk_frozen BK214.out 0
         have hfz280_1 := blk_frozen BK214.out 1
         have hfz280_2 := blk_frozen BK214.out 2
         go_wp2_with (first | ((with_reducible refine gate_callee (f := 12) rfl ?_); refine goesL_ (some 99) rfl rfl Try.func12 (by kernel_rfl) rfl #[.agg #[.int .i64 a0_0, .int .i64 a0_1, .int .i64 a0_2]] rfl (by (try simp only [List.map_toArray, List.map_cons, List.map_nil]); first | done | rfl | (simp only [List.length_drop, List.length_take]; rfl)) ?_; (with_reducible refine (R01_Stamp.calls a0_0 a0_1 a0_2 false _ A252.out).mono ?_); rintro e w281 ⟨rfl, hb⟩; refine ⟨_, rfl, ?_⟩; have n0_ := am (blk_below (g := gb214) (o := .cells #[.int .i64 a0_0, .int .i64 a0_1, .int .i64 a0_2] 24 (0, 0)) (by (with_reducible repeat (first | refine blk_drewN ?_ _ | refine blk_drew ?_ | refine blk_alloc ?_ _)); exact BK214.out) hb); have n1_ := am (blk_below (g := gb215) (o := .cells #[.int .i64 a1_0, .int .i64 a1_1, .int .i64 a1_2] 24 (0, 0)) (by (with_reducible repeat (first | refine blk_drewN ?_ _ | refine blk_drew ?_ | refine blk_alloc ?_ _)); exact BK215.out) hb); have n2_ := am (blk_below (g := gb216) (o := .cells #[.int .i64 a2_0, .int .i64 a2_1, .int .i64 a2_2] 24 (0, 0)) (by (with_reducible repeat (first | refine blk_drewN ?_ _ | refine blk_drew ?_ | refine blk_alloc ?_ _)); exact BK216.out) hb); have n3_ := am (blk_below (g := gb225) (o := .cells #[.int .i64 t222, .int .i64 t223, .int .i64 t224] 24 (0, 0)) (by (with_reducible repeat (first | refine blk_drewN ?_ _ | refine blk_drew ?_ | refine blk_alloc ?_ _)); exact BK225.out) hb); have n4_ := am (below_step (by repeat (first | (with_reducible first | exact HB.out | apply below_alloc | apply pw_below_drewN | apply below_drew1 | refine below_set ?_ GE214.out | refine below_set ?_ GE215.out | refine below_set ?_ GE216.out | refine below_set ?_ GE225.out) | exact HB.out)) hb); clear BK214; clear BK215; clear BK216; clear BK225; clear HB; have BK214 := n0_; have BK215 := n1_; have BK216 := n2_; have BK225 := n3_; have HB := n4_; clear n0_ n1_ n2_ n3_ n4_; (try clear hb); (try clear hb2); (try clear hk); (try clear hi)))
         go_meet
         case rel => exact ⟨_, (true), (by first | rfl | (simp; done) | (simp [*]; done)), H', ⟨by have := HJ8.out; have := HJ156.out; first | omega | exact Nat.le_refl _⟩, ⟨by (with_reducible repeat (first | refine blk_drewN ?_ _ | refine blk_drew ?_ | refine blk_alloc ?_ _)); exact BK214.out⟩, ⟨by (with_reducible repeat (first | refine blk_drewN ?_ _ | refine blk_drew ?_ | refine blk_alloc ?_ _)); exact BK215.out⟩, ⟨by (with_reducible repeat (first | refine blk_drewN ?_ _ | refine blk_drew ?_ | refine blk_alloc ?_ _)); exact BK216.out⟩, ⟨by (with_reducible repeat (first | refine blk_drewN ?_ _ | refine blk_drew ?_ | refine blk_alloc ?_ _)); exact BK225.out⟩, ⟨by repeat (first | (with_reducible first | exact HB.out | apply below_alloc | apply pw_below_drewN | apply below_drew1 | refine below_set ?_ GE214.out | refine below_set ?_ GE215.out | refine below_set ?_ GE216.out | refine below_set ?_ GE225.out) | exact HB.out)⟩⟩
       case rest =>
        clear HC251
        try clear c1
        try clear c2
        try clear p2
        try clear c12
        try clear c25
        try clear c26
        try clear c27
        try clear c250
        try clear c253
        try clear c254
        try clear c254b0
        try clear c255
        try clear c256
        try clear c257
        try clear c260
        try clear c260b0
        try clear c261
        try clear c262
        try clear c263
        try clear c266
        try clear c266b0
        try clear c267
        try clear c268
        try clear c269
        try clear c272
        try clear c273
        try clear c274
        try clear c277
        try clear c278
        try clear c279
        try clear hcz153_1
        try clear hcz153_2
        try clear hcz160_0
        try clear hcz160_1
        try clear hcz160_2
        try clear hcz162_0
        try clear hcz162_1
        try clear hcz162_2
        try clear hcz168_0
        try clear hcz168_1
        try clear hcz168_2
        try clear hcz176_0
        try clear hcz176_1
        try clear hcz176_2
        try clear hcz179_0
        try clear hcz179_1
        try clear hcz179_2
        try clear hcz181_0
        try clear hcz181_1
        try clear hcz181_2
        try clear hcz182_0
        try clear hcz182_1
        try clear hcz182_2
        try clear hcz188_0
        try clear hcz188_1
        try clear hcz188_2
        try clear hcz191_0
        try clear hcz191_1
        try clear hcz191_2
        try clear hcz193_0
        try clear hcz193_1
        try clear hcz193_2
        try clear hcz194_0
        try clear hcz194_1
        try clear hcz194_2
        try clear hcz196_0
        try clear hcz196_1
        try clear hcz196_2
        try clear hcz198_0
        try clear hcz198_1
        try clear hcz198_2
        try clear hcz207_0
        try clear hcz207_1
        try clear hcz207_2
        try clear hcz210_0
        try clear hcz210_1
        try clear hcz210_2
        try clear hcz212_0
        try clear hcz212_1
        try clear hcz212_2
        try clear hcz214_0
        try clear hcz214_1
        try clear hcz214_2
        try clear hcz216_0
        try clear hcz216_1
        try clear hcz216_2
        try clear hcz217_0
        try clear hcz217_1
        try clear hcz217_2
        try clear hcz223_0
        try clear hcz223_1
        try clear hcz223_2
        try clear hcz226_0
        try clear hcz226_1
        try clear hcz226_2
        try clear hcz228_0
        try clear hcz228_1
        try clear hcz228_2
        try clear hcz230_0
        try clear hcz230_1
        try clear hcz230_2
        try clear hcz232_0
        try clear hcz232_1
        try clear hcz232_2
        try clear hcz233_0
        try clear hcz233_1
        try clear hcz233_2
        try clear hcz235_0
        try clear hcz235_1
        try clear hcz235_2
        try clear hcz236_0
        try clear hcz236_1
        try clear hcz236_2
        try clear hcz23_0
        try clear hcz23_1
        try clear hcz23_2
        try clear hcz241_0
        try clear hcz241_1
        try clear hcz241_2
        try clear hcz244_0
        try clear hcz244_1
        try clear hcz244_2
        try clear hcz246_0
        try clear hcz246_1
        try clear hcz246_2
        try clear hcz248_0
        try clear hcz248_1
        try clear hcz248_2
        try clear hcz258_0
        try clear hcz258_1
        try clear hcz258_2
        try clear hcz25_0
        try clear hcz25_1
        try clear hcz25_2
        try clear hcz264_0
        try clear hcz264_1
        try clear hcz264_2
        try clear hcz270_0
        try clear hcz270_1
        try clear hcz270_2
        try clear hcz275_0
        try clear hcz275_1
        try clear hcz275_2
        try clear hcz27_0
        try clear hcz27_1
        try clear hcz27_2
        try clear hcz280_0
        try clear hcz280_1
        try clear hcz280_2
        try clear hcz28_0
        try clear hcz28_1
        try clear hcz28_2
        try clear hcz33_0
        try clear hcz33_1
        try clear hcz33_2
        try clear hcz35_0
        try clear hcz35_1
        try clear hcz35_2
        try clear hcz37_0
        try clear hcz37_1
        try clear hcz37_2
        try clear hcz38_0
        try clear hcz38_1
        try clear hcz38_2
        try clear hcz43_0
        try clear hcz43_1
        try clear hcz43_2
        try clear hcz45_0
        try clear hcz45_1
        try clear hcz45_2
        try clear hcz47_0
        try clear hcz47_1
        try clear hcz47_2
        try clear hcz48_0
        try clear hcz48_1
        try clear hcz48_2
        try clear hcz54_0
        try clear hcz54_1
        try clear hcz54_2
        try clear hcz56_0
        try clear hcz56_1
        try clear hcz56_2
        try clear hcz58_0
        try clear hcz58_1
        try clear hcz58_2
        try clear hcz59_0
        try clear hcz59_1
        try clear hcz59_2
        try clear hcz64_0
        try clear hcz64_1
        try clear hcz64_2
        try clear hcz66_0
        try clear hcz66_1
        try clear hcz66_2
        try clear hcz68_0
        try clear hcz68_1
        try clear hcz68_2
        try clear hcz69_0
        try clear hcz69_1
        try clear hcz69_2
        try clear hcz73_0
        try clear hcz73_1
        try clear hcz73_2
        try clear hcz75_0
        try clear hcz75_1
        try clear hcz75_2
        try clear hcz77_0
        try clear hcz77_1
        try clear hcz77_2
        try clear hcz78_0
        try clear hcz78_1
        try clear hcz78_2
        try clear hcz84_0
        try clear hcz84_1
        try clear hcz84_2
        try clear hcz86_0
        try clear hcz86_1
        try clear hcz86_2
        try clear hcz88_0
        try clear hcz88_1
        try clear hcz88_2
        try clear hcz89_0
        try clear hcz89_1
        try clear hcz89_2
        try clear hcz94_0
        try clear hcz94_1
        try clear hcz94_2
        try clear hcz96_0
        try clear hcz96_1
        try clear hcz96_2
        try clear hcz98_0
        try clear hcz98_1
        try clear hcz98_2
        try clear hcz99_0
        try clear hcz99_1
        try clear hcz99_2
        try clear hfz103_0
        try clear hfz103_1
        try clear hfz103_2
        try clear hfz105_0
        try clear hfz105_1
        try clear hfz105_2
        try clear hfz107_0
        try clear hfz107_1
        try clear hfz107_2
        try clear hfz108_0
        try clear hfz108_1
        try clear hfz108_2
        try clear hfz114_0
        try clear hfz114_1
        try clear hfz114_2
        try clear hfz116_0
        try clear hfz116_1
        try clear hfz116_2
        try clear hfz118_0
        try clear hfz118_1
        try clear hfz118_2
        try clear hfz119_0
        try clear hfz119_1
        try clear hfz119_2
        try clear hfz124_0
        try clear hfz124_1
        try clear hfz124_2
        try clear hfz126_0
        try clear hfz126_1
        try clear hfz126_2
        try clear hfz128_0
        try clear hfz128_1
        try clear hfz128_2
        try clear hfz129_0
        try clear hfz129_1
        try clear hfz129_2
        try clear hfz133_0
        try clear hfz133_1
        try clear hfz133_2
        try clear hfz135_0
        try clear hfz135_1
        try clear hfz135_2
        try clear hfz137_0
        try clear hfz137_1
        try clear hfz137_2
        try clear hfz138_0
        try clear hfz138_1
        try clear hfz138_2
        try clear hfz142_0
        try clear hfz142_1
        try clear hfz142_2
        try clear hfz144_0
        try clear hfz144_1
        try clear hfz144_2
        try clear hfz146_0
        try clear hfz146_1
        try clear hfz146_2
        try clear hfz147_0
        try clear hfz147_1
        try clear hfz147_2
        try clear hfz151_0
        try clear hfz151_1
        try clear hfz151_2
        try clear hfz153_0
        try clear hfz153_1
        try clear hfz153_2
        try clear hfz160_0
        try clear hfz160_1
        try clear hfz160_2
        try clear hfz162_0
        try clear hfz162_1
        try clear hfz162_2
        try clear hfz168_0
        try clear hfz168_1
        try clear hfz168_2
        try clear hfz176_0
        try clear hfz176_1
        try clear hfz176_2
        try clear hfz179_0
        try clear hfz179_1
        try clear hfz179_2
        try clear hfz181_0
        try clear hfz181_1
        try clear hfz181_2
        try clear hfz182_0
        try clear hfz182_1
        try clear hfz182_2
        try clear hfz188_0
        try clear hfz188_1
        try clear hfz188_2
        try clear hfz191_0
        try clear hfz191_1
        try clear hfz191_2
        try clear hfz193_0
        try clear hfz193_1
        try clear hfz193_2
        try clear hfz194_0
        try clear hfz194_1
        try clear hfz194_2
        try clear hfz196_0
        try clear hfz196_1
        try clear hfz196_2
        try clear hfz198_0
        try clear hfz198_1
        try clear hfz198_2
        try clear hfz207_0
        try clear hfz207_1
        try clear hfz207_2
        try clear hfz210_0
        try clear hfz210_1
        try clear hfz210_2
        try clear hfz212_0
        try clear hfz212_1
        try clear hfz212_2
        try clear hfz214_0
        try clear hfz214_1
        try clear hfz214_2
        try clear hfz216_0
        try clear hfz216_1
        try clear hfz216_2
        try clear hfz217_0
        try clear hfz217_1
        try clear hfz217_2
        try clear hfz223_0
        try clear hfz223_1
        try clear hfz223_2
        try clear hfz226_0
        try clear hfz226_1
        try clear hfz226_2
        try clear hfz228_0
        try clear hfz228_1
        try clear hfz228_2
        try clear hfz230_0
        try clear hfz230_1
        try clear hfz230_2
        try clear hfz232_0
        try clear hfz232_1
        try clear hfz232_2
        try clear hfz233_0
        try clear hfz233_1
        try clear hfz233_2
        try clear hfz235_0
        try clear hfz235_1
        try clear hfz235_2
        try clear hfz236_0
        try clear hfz236_1
        try clear hfz236_2
        try clear hfz23_0
        try clear hfz23_1
        try clear hfz23_2
        try clear hfz241_0
        try clear hfz241_1
        try clear hfz241_2
        try clear hfz244_0
        try clear hfz244_1
        try clear hfz244_2
        try clear hfz246_0
        try clear hfz246_1
        try clear hfz246_2
        try clear hfz248_0
        try clear hfz248_1
        try clear hfz248_2
        try clear hfz258_0
        try clear hfz258_1
        try clear hfz258_2
        try clear hfz25_0
        try clear hfz25_1
        try clear hfz25_2
        try clear hfz264_0
        try clear hfz264_1
        try clear hfz264_2
        try clear hfz270_0
        try clear hfz270_1
        try clear hfz270_2
        try clear hfz275_0
        try clear hfz275_1
        try clear hfz275_2
        try clear hfz27_0
        try clear hfz27_1
        try clear hfz27_2
        try clear hfz280_0
        try clear hfz280_1
        try clear hfz280_2
        try clear hfz28_0
        try clear hfz28_1
        try clear hfz28_2
        try clear hfz33_0
        try clear hfz33_1
        try clear hfz33_2
        try clear hfz35_0
        try clear hfz35_1
        try clear hfz35_2
        try clear hfz37_0
        try clear hfz37_1
        try clear hfz37_2
        try clear hfz38_0
        try clear hfz38_1
        try clear hfz38_2
        try clear hfz43_0
        try clear hfz43_1
        try clear hfz43_2
        try clear hfz45_0
        try clear hfz45_1
        try clear hfz45_2
        try clear hfz47_0
        try clear hfz47_1
        try clear hfz47_2
        try clear hfz48_0
        try clear hfz48_1
        try clear hfz48_2
        try clear hfz54_0
        try clear hfz54_1
        try clear hfz54_2
        try clear hfz56_0
        try clear hfz56_1
        try clear hfz56_2
        try clear hfz58_0
        try clear hfz58_1
        try clear hfz58_2
        try clear hfz59_0
        try clear hfz59_1
        try clear hfz59_2
        try clear hfz64_0
        try clear hfz64_1
        try clear hfz64_2
        try clear hfz66_0
        try clear hfz66_1
        try clear hfz66_2
        try clear hfz68_0
        try clear hfz68_1
        try clear hfz68_2
        try clear hfz69_0
        try clear hfz69_1
        try clear hfz69_2
        try clear hfz73_0
        try clear hfz73_1
        try clear hfz73_2
        try clear hfz75_0
        try clear hfz75_1
        try clear hfz75_2
        try clear hfz77_0
        try clear hfz77_1
        try clear hfz77_2
        try clear hfz78_0
        try clear hfz78_1
        try clear hfz78_2
        try clear hfz84_0
        try clear hfz84_1
        try clear hfz84_2
        try clear hfz86_0
        try clear hfz86_1
        try clear hfz86_2
        try clear hfz88_0
        try clear hfz88_1
        try clear hfz88_2
        try clear hfz89_0
        try clear hfz89_1
        try clear hfz89_2
        try clear hfz94_0
        try clear hfz94_1
        try clear hfz94_2
        try clear hfz96_0
        try clear hfz96_1
        try clear hfz96_2
        try clear hfz98_0
        try clear hfz98_1
        try clear hfz98_2
        try clear hfz99_0
        try clear hfz99_1
        try clear hfz99_2
        obtain ⟨kq, x116_250, rfl, HA, HJ250, BK214, BK215, BK216, BK225, HB⟩ := hcut
        cases kq with
        | zero => exact absurd HA.out (by simp [L06_HlcRises.j2])
        | succ kj250 =>
         have H := HA.out
         clear HA
         simp only [L06_HlcRises.j2] at H
         by_cases c282 : x116_250 = true
         ·
          subst c282
          have H1 : ((L06_wakes.f kj250).bind fun t233 => (some t233)) = some r := by rw [if_pos rfl] at H; exact H
          clear H
          have H := H1
          clear H1
          replace H := Option.bind_eq_some_iff.mp H
          obtain ⟨t233, A2830, H⟩ := H
          replace H : (some t233) = some r := H
          have A283 := am A2830
          clear A2830
          obtain rfl := Option.some.inj H
          go_wp2_with (first | ((with_reducible refine gate_callee (f := 11) rfl ?_); refine goesL_ (some 117) rfl rfl Try.func11 (by kernel_rfl) rfl #[] rfl (by (try simp only [List.map_toArray, List.map_cons, List.map_nil]); first | done | rfl | (simp only [List.length_drop, List.length_take]; rfl)) ?_; (with_reducible refine (L06_wakes.calls kj250  t233 _ A283.out).mono ?_); rintro e w284 ⟨rfl, hb⟩; refine ⟨_, rfl, ?_⟩; have n0_ := am (blk_below (g := gb214) (o := .cells #[.int .i64 a0_0, .int .i64 a0_1, .int .i64 a0_2] 24 (0, 0)) (by (with_reducible repeat (first | refine blk_drewN ?_ _ | refine blk_drew ?_ | refine blk_alloc ?_ _)); exact BK214.out) hb); have n1_ := am (blk_below (g := gb215) (o := .cells #[.int .i64 a1_0, .int .i64 a1_1, .int .i64 a1_2] 24 (0, 0)) (by (with_reducible repeat (first | refine blk_drewN ?_ _ | refine blk_drew ?_ | refine blk_alloc ?_ _)); exact BK215.out) hb); have n2_ := am (blk_below (g := gb216) (o := .cells #[.int .i64 a2_0, .int .i64 a2_1, .int .i64 a2_2] 24 (0, 0)) (by (with_reducible repeat (first | refine blk_drewN ?_ _ | refine blk_drew ?_ | refine blk_alloc ?_ _)); exact BK216.out) hb); have n3_ := am (blk_below (g := gb225) (o := .cells #[.int .i64 t222, .int .i64 t223, .int .i64 t224] 24 (0, 0)) (by (with_reducible repeat (first | refine blk_drewN ?_ _ | refine blk_drew ?_ | refine blk_alloc ?_ _)); exact BK225.out) hb); have n4_ := am (below_step (by repeat (first | (with_reducible first | exact HB.out | apply below_alloc | apply pw_below_drewN | apply below_drew1 | refine below_set ?_ GE214.out | refine below_set ?_ GE215.out | refine below_set ?_ GE216.out | refine below_set ?_ GE225.out) | exact HB.out)) hb); clear BK214; clear BK215; clear BK216; clear BK225; clear HB; have BK214 := n0_; have BK215 := n1_; have BK216 := n2_; have BK225 := n3_; have HB := n4_; clear n0_ n1_ n2_ n3_ n4_; (try clear hb); (try clear hb2); (try clear hk); (try clear hi)))
          go_ret
          exact ⟨by first | rfl | (simp [errW_none, errW_some] <;> rfl) | (simp [*, errW_none, errW_some] <;> rfl), by repeat (first | (with_reducible first | exact HB.out | apply below_alloc | apply pw_below_drewN | apply below_drew1 | refine below_set ?_ GE214.out | refine below_set ?_ GE215.out | refine below_set ?_ GE216.out | refine below_set ?_ GE225.out) | exact HB.out)⟩
         ·
          replace c282 := Bool.eq_false_iff.mpr c282
          subst c282
          have H1 : ((hlc_Next.f kj250 a0_0 a0_1 a0_2 a3 a4).bind fun bt234 => (if bt234.2.2.2 = 0 then ((hlc_Compare.f kj250 bt234.1 bt234.2.1 bt234.2.2.1 a0_0 a0_1 a0_2).bind fun t239 => (if t239 = 1 then (if bt234.1 ≥ a3 then (if bt234.1 ≥ a0_0 then (if bt234.2.2.1 = a4 then ((hlc_Check.f bt234.1 bt234.2.1 bt234.2.2.1).bind fun t240 => (if t240 = 0 then ((L06_wakes.f kj250).bind fun t241 => (some t241)) else (some false))) else (some false)) else (some false)) else (some false)) else (some false))) else (if bt234.2.2.2 = 12 then (if a0_1 = 65536 then (if a3 ≤ a0_0 then ((L06_wakes.f kj250).bind fun t242 => (some t242)) else (some false)) else (some false)) else (some false)))) = some r := by rw [if_neg (show ¬ (false = true) by decide)] at H; exact H
          clear H
          have H := H1
          clear H1
          replace H := Option.bind_eq_some_iff.mp H
          obtain ⟨⟨t234, t235, t236, t237⟩, A2850, H⟩ := H
          replace H : (if t237 = 0 then ((hlc_Compare.f kj250 t234 t235 t236 a0_0 a0_1 a0_2).bind fun t239 => (if t239 = 1 then (if t234 ≥ a3 then (if t234 ≥ a0_0 then (if t236 = a4 then ((hlc_Check.f t234 t235 t236).bind fun t240 => (if t240 = 0 then ((L06_wakes.f kj250).bind fun t241 => (some t241)) else (some false))) else (some false)) else (some false)) else (some false)) else (some false))) else (if t237 = 12 then (if a0_1 = 65536 then (if a3 ≤ a0_0 then ((L06_wakes.f kj250).bind fun t242 => (some t242)) else (some false)) else (some false)) else (some false))) = some r := H
          have A285 := am A2850
          clear A2850
          by_cases c286 : t237 = 0
          ·
           rw [if_pos c286] at H
           have c286b0 : (t237 == 0) = true := beq_iff_eq.mpr c286
           have c286b1 : (t237 != 0) = false := bne_eq_false_iff_eq.mpr c286
           clear c286
           replace H := Option.bind_eq_some_iff.mp H
           obtain ⟨t239, A2870, H⟩ := H
           replace H : (if t239 = 1 then (if t234 ≥ a3 then (if t234 ≥ a0_0 then (if t236 = a4 then ((hlc_Check.f t234 t235 t236).bind fun t240 => (if t240 = 0 then ((L06_wakes.f kj250).bind fun t241 => (some t241)) else (some false))) else (some false)) else (some false)) else (some false)) else (some false)) = some r := H
           have A287 := am A2870
           clear A2870
           by_cases c288 : t239 = 1
           ·
            rw [if_pos c288] at H
            have c288b0 : (t239 == 1) = true := beq_iff_eq.mpr c288
            have c288b1 : (t239 != 1) = false := bne_eq_false_iff_eq.mpr c288
            clear c288
            by_cases c289 : t234 ≥ a3
            ·
             rw [if_pos c289] at H
             have c289b0 : decide (a3 ≤ t234) = true := decide_eq_true c289
             clear c289
             by_cases c290 : t234 ≥ a0_0
             ·
              rw [if_pos c290] at H
              have c290b0 : decide (a0_0 ≤ t234) = true := decide_eq_true c290
              clear c290
              by_cases c291 : t236 = a4
              ·
               rw [if_pos c291] at H
               have c291b0 : (t236 == a4) = true := beq_iff_eq.mpr c291
               have c291b1 : (t236 != a4) = false := bne_eq_false_iff_eq.mpr c291
               clear c291
               replace H := Option.bind_eq_some_iff.mp H
               obtain ⟨t240, A2920, H⟩ := H
               replace H : (if t240 = 0 then ((L06_wakes.f kj250).bind fun t241 => (some t241)) else (some false)) = some r := H
               have A292 := am A2920
               clear A2920
               by_cases c293 : t240 = 0
               ·
                rw [if_pos c293] at H
                have c293b0 : (t240 == 0) = true := beq_iff_eq.mpr c293
                have c293b1 : (t240 != 0) = false := bne_eq_false_iff_eq.mpr c293
                clear c293
                replace H := Option.bind_eq_some_iff.mp H
                obtain ⟨t241, A2940, H⟩ := H
                replace H : (some t241) = some r := H
                have A294 := am A2940
                clear A2940
                obtain rfl := Option.some.inj H
                have hnb295 := NB214_215.out
                have hnc295 := NB215_214.out
                have hnb296 := NB214_216.out
                have hnc296 := NB216_214.out
                have hnb297 := NB214_225.out
                have hnc297 := NB225_214.out
                have hcz298_0 : wc.cell? ⟨gb214, 0, none⟩ = some (.int .i64 a0_0) := (blk_cell BK214.out 0).trans rfl
                have hcz298_1 : wc.cell? ⟨gb214, 1, none⟩ = some (.int .i64 a0_1) := (blk_cell BK214.out 1).trans rfl
                have hcz298_2 : wc.cell? ⟨gb214, 2, none⟩ = some (.int .i64 a0_2) := (blk_cell BK214.out 2).trans rfl
                have hfz298_0 := blk_frozen BK214.out 0
                have hfz298_1 := blk_frozen BK214.out 1
                have hfz298_2 := blk_frozen BK214.out 2
                go_wp2_with (first | ((with_reducible refine gate_callee (f := 9) rfl ?_); refine goesL_ (some 122) rfl rfl Try.func9 (by kernel_rfl) rfl #[.agg #[.int .i64 a0_0, .int .i64 a0_1, .int .i64 a0_2], .int .i64 a3, .int .i64 a4] rfl (by (try simp only [List.map_toArray, List.map_cons, List.map_nil]); first | done | rfl | (simp only [List.length_drop, List.length_take]; rfl)) ?_; (with_reducible refine (hlc_Next.calls kj250 a0_0 a0_1 a0_2 a3 a4 t234 t235 t236 t237 _ A285.out).mono ?_); rintro e w299 ⟨rfl, hb⟩; refine ⟨_, rfl, ?_⟩; have n0_ := am (blk_below (g := gb214) (o := .cells #[.int .i64 a0_0, .int .i64 a0_1, .int .i64 a0_2] 24 (0, 0)) (by (with_reducible repeat (first | refine blk_drewN ?_ _ | refine blk_drew ?_ | refine blk_alloc ?_ _)); exact BK214.out) hb); have n1_ := am (blk_below (g := gb215) (o := .cells #[.int .i64 a1_0, .int .i64 a1_1, .int .i64 a1_2] 24 (0, 0)) (by (with_reducible repeat (first | refine blk_drewN ?_ _ | refine blk_drew ?_ | refine blk_alloc ?_ _)); exact BK215.out) hb); have n2_ := am (blk_below (g := gb216) (o := .cells #[.int .i64 a2_0, .int .i64 a2_1, .int .i64 a2_2] 24 (0, 0)) (by (with_reducible repeat (first | refine blk_drewN ?_ _ | refine blk_drew ?_ | refine blk_alloc ?_ _)); exact BK216.out) hb); have n3_ := am (blk_below (g := gb225) (o := .cells #[.int .i64 t222, .int .i64 t223, .int .i64 t224] 24 (0, 0)) (by (with_reducible repeat (first | refine blk_drewN ?_ _ | refine blk_drew ?_ | refine blk_alloc ?_ _)); exact BK225.out) hb); have n4_ := am (below_step (by repeat (first | (with_reducible first | exact HB.out | apply below_alloc | apply pw_below_drewN | apply below_drew1 | refine below_set ?_ GE214.out | refine below_set ?_ GE215.out | refine below_set ?_ GE216.out | refine below_set ?_ GE225.out) | exact HB.out)) hb); clear BK214; clear BK215; clear BK216; clear BK225; clear HB; have BK214 := n0_; have BK215 := n1_; have BK216 := n2_; have BK225 := n3_; have HB := n4_; clear n0_ n1_ n2_ n3_ n4_; (try clear hb); (try clear hb2); (try clear hk); (try clear hi)) | ((with_reducible refine gate_dst (N := 15) rfl ?_); refine box_event ?hg (N := 15) ?hd (cs := #[.int .i64 0, .int .i64 0, .int .i64 0]) (t := 24) ?hr ?_; (case hd => rfl); (case hg => rfl); (case hr => first | (go_simp; done) | (go_simp; rfl)); intro gb238 hg w300 hbox hb; have n0_ := am (blk_below (g := gb214) (o := .cells #[.int .i64 a0_0, .int .i64 a0_1, .int .i64 a0_2] 24 (0, 0)) (by (with_reducible repeat (first | refine blk_drewN ?_ _ | refine blk_drew ?_ | refine blk_alloc ?_ _)); exact BK214.out) hb); have n1_ := am (blk_below (g := gb215) (o := .cells #[.int .i64 a1_0, .int .i64 a1_1, .int .i64 a1_2] 24 (0, 0)) (by (with_reducible repeat (first | refine blk_drewN ?_ _ | refine blk_drew ?_ | refine blk_alloc ?_ _)); exact BK215.out) hb); have n2_ := am (blk_below (g := gb216) (o := .cells #[.int .i64 a2_0, .int .i64 a2_1, .int .i64 a2_2] 24 (0, 0)) (by (with_reducible repeat (first | refine blk_drewN ?_ _ | refine blk_drew ?_ | refine blk_alloc ?_ _)); exact BK216.out) hb); have n3_ := am (blk_below (g := gb225) (o := .cells #[.int .i64 t222, .int .i64 t223, .int .i64 t224] 24 (0, 0)) (by (with_reducible repeat (first | refine blk_drewN ?_ _ | refine blk_drew ?_ | refine blk_alloc ?_ _)); exact BK225.out) hb); have n4_ := am (below_step (by repeat (first | (with_reducible first | exact HB.out | apply below_alloc | apply pw_below_drewN | apply below_drew1 | refine below_set ?_ GE214.out | refine below_set ?_ GE215.out | refine below_set ?_ GE216.out | refine below_set ?_ GE225.out) | exact HB.out)) hb); have n5_ := am (hbox); have n6_ := am ((by rw [hg]; exact (below_size (by repeat (first | (with_reducible first | exact HB.out | apply below_alloc | apply pw_below_drewN | apply below_drew1 | refine below_set ?_ GE214.out | refine below_set ?_ GE215.out | refine below_set ?_ GE216.out | refine below_set ?_ GE225.out) | exact HB.out))) : w.heap.size ≤ gb238)); have n7_ := am ((by rw [hg]; exact (below_size (by repeat (first | (with_reducible first | exact HB.out | apply below_alloc | apply pw_below_drewN | apply below_drew1 | refine below_set ?_ GE214.out | refine below_set ?_ GE215.out | refine below_set ?_ GE216.out | refine below_set ?_ GE225.out) | exact HB.out))) : w.heap.size ≤ gb238)); have n8_ := am ((by rw [hg]; exact Nat.ne_of_lt (blk_lt (g := gb214) (o := .cells #[.int .i64 a0_0, .int .i64 a0_1, .int .i64 a0_2] 24 (0, 0)) (by (with_reducible repeat (first | refine blk_drewN ?_ _ | refine blk_drew ?_ | refine blk_alloc ?_ _)); exact BK214.out)) : gb214 ≠ gb238)); have n9_ := am ((by rw [hg]; exact Nat.ne_of_gt (blk_lt (g := gb214) (o := .cells #[.int .i64 a0_0, .int .i64 a0_1, .int .i64 a0_2] 24 (0, 0)) (by (with_reducible repeat (first | refine blk_drewN ?_ _ | refine blk_drew ?_ | refine blk_alloc ?_ _)); exact BK214.out)) : gb238 ≠ gb214)); have n10_ := am ((by rw [hg]; exact Nat.ne_of_lt (blk_lt (g := gb215) (o := .cells #[.int .i64 a1_0, .int .i64 a1_1, .int .i64 a1_2] 24 (0, 0)) (by (with_reducible repeat (first | refine blk_drewN ?_ _ | refine blk_drew ?_ | refine blk_alloc ?_ _)); exact BK215.out)) : gb215 ≠ gb238)); have n11_ := am ((by rw [hg]; exact Nat.ne_of_gt (blk_lt (g := gb215) (o := .cells #[.int .i64 a1_0, .int .i64 a1_1, .int .i64 a1_2] 24 (0, 0)) (by (with_reducible repeat (first | refine blk_drewN ?_ _ | refine blk_drew ?_ | refine blk_alloc ?_ _)); exact BK215.out)) : gb238 ≠ gb215)); have n12_ := am ((by rw [hg]; exact Nat.ne_of_lt (blk_lt (g := gb216) (o := .cells #[.int .i64 a2_0, .int .i64 a2_1, .int .i64 a2_2] 24 (0, 0)) (by (with_reducible repeat (first | refine blk_drewN ?_ _ | refine blk_drew ?_ | refine blk_alloc ?_ _)); exact BK216.out)) : gb216 ≠ gb238)); have n13_ := am ((by rw [hg]; exact Nat.ne_of_gt (blk_lt (g := gb216) (o := .cells #[.int .i64 a2_0, .int .i64 a2_1, .int .i64 a2_2] 24 (0, 0)) (by (with_reducible repeat (first | refine blk_drewN ?_ _ | refine blk_drew ?_ | refine blk_alloc ?_ _)); exact BK216.out)) : gb238 ≠ gb216)); have n14_ := am ((by rw [hg]; exact Nat.ne_of_lt (blk_lt (g := gb225) (o := .cells #[.int .i64 t222, .int .i64 t223, .int .i64 t224] 24 (0, 0)) (by (with_reducible repeat (first | refine blk_drewN ?_ _ | refine blk_drew ?_ | refine blk_alloc ?_ _)); exact BK225.out)) : gb225 ≠ gb238)); have n15_ := am ((by rw [hg]; exact Nat.ne_of_gt (blk_lt (g := gb225) (o := .cells #[.int .i64 t222, .int .i64 t223, .int .i64 t224] 24 (0, 0)) (by (with_reducible repeat (first | refine blk_drewN ?_ _ | refine blk_drew ?_ | refine blk_alloc ?_ _)); exact BK225.out)) : gb238 ≠ gb225)); clear BK214; clear BK215; clear BK216; clear BK225; clear HB; have BK214 := n0_; have BK215 := n1_; have BK216 := n2_; have BK225 := n3_; have HB := n4_; have BK238 := n5_; have GW238 := n6_; have GE238 := n7_; have NB214_238 := n8_; have NB238_214 := n9_; have NB215_238 := n10_; have NB238_215 := n11_; have NB216_238 := n12_; have NB238_216 := n13_; have NB225_238 := n14_; have NB238_225 := n15_; clear n0_ n1_ n2_ n3_ n4_ n5_ n6_ n7_ n8_ n9_ n10_ n11_ n12_ n13_ n14_ n15_; clear hb hbox hg; have hnb301 := NB238_214.out; have hnc301 := NB214_238.out; have hnb302 := NB238_215.out; have hnc302 := NB215_238.out; have hnb303 := NB238_216.out; have hnc303 := NB216_238.out; have hnb304 := NB238_225.out; have hnc304 := NB225_238.out; have hcz305_0 : w300.cell? ⟨gb238, 0, none⟩ = some (.int .i64 0) := (blk_cell BK238.out 0).trans rfl; have hcz305_1 : w300.cell? ⟨gb238, 1, none⟩ = some (.int .i64 0) := (blk_cell BK238.out 1).trans rfl; have hcz305_2 : w300.cell? ⟨gb238, 2, none⟩ = some (.int .i64 0) := (blk_cell BK238.out 2).trans rfl; have hfz305_0 := blk_frozen BK238.out 0; have hfz305_1 := blk_frozen BK238.out 1; have hfz305_2 := blk_frozen BK238.out 2; have hcz306_0 : w300.cell? ⟨gb214, 0, none⟩ = some (.int .i64 a0_0) := (blk_cell BK214.out 0).trans rfl; have hcz306_1 : w300.cell? ⟨gb214, 1, none⟩ = some (.int .i64 a0_1) := (blk_cell BK214.out 1).trans rfl; have hcz306_2 : w300.cell? ⟨gb214, 2, none⟩ = some (.int .i64 a0_2) := (blk_cell BK214.out 2).trans rfl; have hfz306_0 := blk_frozen BK214.out 0; have hfz306_1 := blk_frozen BK214.out 1; have hfz306_2 := blk_frozen BK214.out 2) | ((with_reducible refine gate_callee (f := 10) rfl ?_); refine goesL_ (some 145) rfl rfl Try.func10 (by kernel_rfl) rfl #[.agg #[.int .i64 t234, .int .i64 t235, .int .i64 t236], .agg #[.int .i64 a0_0, .int .i64 a0_1, .int .i64 a0_2]] rfl (by (try simp only [List.map_toArray, List.map_cons, List.map_nil]); first | done | rfl | (simp only [List.length_drop, List.length_take]; rfl)) ?_; (with_reducible refine (hlc_Compare.calls kj250 t234 t235 t236 a0_0 a0_1 a0_2 t239 _ A287.out).mono ?_); rintro e w307 ⟨rfl, hb⟩; refine ⟨_, rfl, ?_⟩; have n0_ := am (blk_below (g := gb214) (o := .cells #[.int .i64 a0_0, .int .i64 a0_1, .int .i64 a0_2] 24 (0, 0)) (by (with_reducible repeat (first | refine blk_drewN ?_ _ | refine blk_drew ?_ | refine blk_alloc ?_ _)); refine blk_far ?_ NB214_238.out _; (with_reducible repeat (first | refine blk_drewN ?_ _ | refine blk_drew ?_ | refine blk_alloc ?_ _)); refine blk_far ?_ NB214_238.out _; (with_reducible repeat (first | refine blk_drewN ?_ _ | refine blk_drew ?_ | refine blk_alloc ?_ _)); refine blk_far ?_ NB214_238.out _; (with_reducible repeat (first | refine blk_drewN ?_ _ | refine blk_drew ?_ | refine blk_alloc ?_ _)); exact BK214.out) hb); have n1_ := am (blk_below (g := gb215) (o := .cells #[.int .i64 a1_0, .int .i64 a1_1, .int .i64 a1_2] 24 (0, 0)) (by (with_reducible repeat (first | refine blk_drewN ?_ _ | refine blk_drew ?_ | refine blk_alloc ?_ _)); refine blk_far ?_ NB215_238.out _; (with_reducible repeat (first | refine blk_drewN ?_ _ | refine blk_drew ?_ | refine blk_alloc ?_ _)); refine blk_far ?_ NB215_238.out _; (with_reducible repeat (first | refine blk_drewN ?_ _ | refine blk_drew ?_ | refine blk_alloc ?_ _)); refine blk_far ?_ NB215_238.out _; (with_reducible repeat (first | refine blk_drewN ?_ _ | refine blk_drew ?_ | refine blk_alloc ?_ _)); exact BK215.out) hb); have n2_ := am (blk_below (g := gb216) (o := .cells #[.int .i64 a2_0, .int .i64 a2_1, .int .i64 a2_2] 24 (0, 0)) (by (with_reducible repeat (first | refine blk_drewN ?_ _ | refine blk_drew ?_ | refine blk_alloc ?_ _)); refine blk_far ?_ NB216_238.out _; (with_reducible repeat (first | refine blk_drewN ?_ _ | refine blk_drew ?_ | refine blk_alloc ?_ _)); refine blk_far ?_ NB216_238.out _; (with_reducible repeat (first | refine blk_drewN ?_ _ | refine blk_drew ?_ | refine blk_alloc ?_ _)); refine blk_far ?_ NB216_238.out _; (with_reducible repeat (first | refine blk_drewN ?_ _ | refine blk_drew ?_ | refine blk_alloc ?_ _)); exact BK216.out) hb); have n3_ := am (blk_below (g := gb225) (o := .cells #[.int .i64 t222, .int .i64 t223, .int .i64 t224] 24 (0, 0)) (by (with_reducible repeat (first | refine blk_drewN ?_ _ | refine blk_drew ?_ | refine blk_alloc ?_ _)); refine blk_far ?_ NB225_238.out _; (with_reducible repeat (first | refine blk_drewN ?_ _ | refine blk_drew ?_ | refine blk_alloc ?_ _)); refine blk_far ?_ NB225_238.out _; (with_reducible repeat (first | refine blk_drewN ?_ _ | refine blk_drew ?_ | refine blk_alloc ?_ _)); refine blk_far ?_ NB225_238.out _; (with_reducible repeat (first | refine blk_drewN ?_ _ | refine blk_drew ?_ | refine blk_alloc ?_ _)); exact BK225.out) hb); have n4_ := am (blk_below (g := gb238) (o := .cells #[.int .i64 t234, .int .i64 t235, .int .i64 t236] 24 (0, 0)) (by (with_reducible repeat (first | refine blk_drewN ?_ _ | refine blk_drew ?_ | refine blk_alloc ?_ _)); refine blk_put (cs := #[.int .i64 t234, .int .i64 t235, .int .i64 0]) ?_ 2 _ rfl; (with_reducible repeat (first | refine blk_drewN ?_ _ | refine blk_drew ?_ | refine blk_alloc ?_ _)); refine blk_put (cs := #[.int .i64 t234, .int .i64 0, .int .i64 0]) ?_ 1 _ rfl; (with_reducible repeat (first | refine blk_drewN ?_ _ | refine blk_drew ?_ | refine blk_alloc ?_ _)); refine blk_put (cs := #[.int .i64 0, .int .i64 0, .int .i64 0]) ?_ 0 _ rfl; (with_reducible repeat (first | refine blk_drewN ?_ _ | refine blk_drew ?_ | refine blk_alloc ?_ _)); exact BK238.out) hb); have n5_ := am (below_step (by repeat (first | (with_reducible first | exact HB.out | apply below_alloc | apply pw_below_drewN | apply below_drew1 | refine below_set ?_ GE214.out | refine below_set ?_ GE215.out | refine below_set ?_ GE216.out | refine below_set ?_ GE225.out | refine below_set ?_ GE238.out) | exact HB.out)) hb); clear BK214; clear BK215; clear BK216; clear BK225; clear BK238; clear HB; have BK214 := n0_; have BK215 := n1_; have BK216 := n2_; have BK225 := n3_; have BK238 := n4_; have HB := n5_; clear n0_ n1_ n2_ n3_ n4_ n5_; (try clear hb); (try clear hb2); (try clear hk); (try clear hi); have hcz308_0 : w307.cell? ⟨gb238, 0, none⟩ = some (.int .i64 t234) := (blk_cell BK238.out 0).trans rfl; have hcz308_1 : w307.cell? ⟨gb238, 1, none⟩ = some (.int .i64 t235) := (blk_cell BK238.out 1).trans rfl; have hcz308_2 : w307.cell? ⟨gb238, 2, none⟩ = some (.int .i64 t236) := (blk_cell BK238.out 2).trans rfl; have hfz308_0 := blk_frozen BK238.out 0; have hfz308_1 := blk_frozen BK238.out 1; have hfz308_2 := blk_frozen BK238.out 2; have hcz309_0 : w307.cell? ⟨gb214, 0, none⟩ = some (.int .i64 a0_0) := (blk_cell BK214.out 0).trans rfl; have hcz309_1 : w307.cell? ⟨gb214, 1, none⟩ = some (.int .i64 a0_1) := (blk_cell BK214.out 1).trans rfl; have hcz309_2 : w307.cell? ⟨gb214, 2, none⟩ = some (.int .i64 a0_2) := (blk_cell BK214.out 2).trans rfl; have hfz309_0 := blk_frozen BK214.out 0; have hfz309_1 := blk_frozen BK214.out 1; have hfz309_2 := blk_frozen BK214.out 2) | (go_at_call 14; (with_reducible refine (hlc_Check.calls t234 t235 t236 t240 _ A292.out).mono ?_); rintro e w310 ⟨rfl, hb⟩; have n0_ := am (blk_below (g := gb214) (o := .cells #[.int .i64 a0_0, .int .i64 a0_1, .int .i64 a0_2] 24 (0, 0)) (by (with_reducible repeat (first | refine blk_drewN ?_ _ | refine blk_drew ?_ | refine blk_alloc ?_ _)); exact BK214.out) hb); have n1_ := am (blk_below (g := gb215) (o := .cells #[.int .i64 a1_0, .int .i64 a1_1, .int .i64 a1_2] 24 (0, 0)) (by (with_reducible repeat (first | refine blk_drewN ?_ _ | refine blk_drew ?_ | refine blk_alloc ?_ _)); exact BK215.out) hb); have n2_ := am (blk_below (g := gb216) (o := .cells #[.int .i64 a2_0, .int .i64 a2_1, .int .i64 a2_2] 24 (0, 0)) (by (with_reducible repeat (first | refine blk_drewN ?_ _ | refine blk_drew ?_ | refine blk_alloc ?_ _)); exact BK216.out) hb); have n3_ := am (blk_below (g := gb225) (o := .cells #[.int .i64 t222, .int .i64 t223, .int .i64 t224] 24 (0, 0)) (by (with_reducible repeat (first | refine blk_drewN ?_ _ | refine blk_drew ?_ | refine blk_alloc ?_ _)); exact BK225.out) hb); have n4_ := am (blk_below (g := gb238) (o := .cells #[.int .i64 t234, .int .i64 t235, .int .i64 t236] 24 (0, 0)) (by (with_reducible repeat (first | refine blk_drewN ?_ _ | refine blk_drew ?_ | refine blk_alloc ?_ _)); exact BK238.out) hb); have n5_ := am (below_step (by repeat (first | (with_reducible first | exact HB.out | apply below_alloc | apply pw_below_drewN | apply below_drew1 | refine below_set ?_ GE214.out | refine below_set ?_ GE215.out | refine below_set ?_ GE216.out | refine below_set ?_ GE225.out | refine below_set ?_ GE238.out) | exact HB.out)) hb); clear BK214; clear BK215; clear BK216; clear BK225; clear BK238; clear HB; have BK214 := n0_; have BK215 := n1_; have BK216 := n2_; have BK225 := n3_; have BK238 := n4_; have HB := n5_; clear n0_ n1_ n2_ n3_ n4_ n5_; (try clear hb); (try clear hb2); (try clear hk); (try clear hi)) | (go_at_call 11; (with_reducible refine (L06_wakes.calls kj250  t241 _ A294.out).mono ?_); rintro e w311 ⟨rfl, hb⟩; have n0_ := am (blk_below (g := gb214) (o := .cells #[.int .i64 a0_0, .int .i64 a0_1, .int .i64 a0_2] 24 (0, 0)) (by (with_reducible repeat (first | refine blk_drewN ?_ _ | refine blk_drew ?_ | refine blk_alloc ?_ _)); exact BK214.out) hb); have n1_ := am (blk_below (g := gb215) (o := .cells #[.int .i64 a1_0, .int .i64 a1_1, .int .i64 a1_2] 24 (0, 0)) (by (with_reducible repeat (first | refine blk_drewN ?_ _ | refine blk_drew ?_ | refine blk_alloc ?_ _)); exact BK215.out) hb); have n2_ := am (blk_below (g := gb216) (o := .cells #[.int .i64 a2_0, .int .i64 a2_1, .int .i64 a2_2] 24 (0, 0)) (by (with_reducible repeat (first | refine blk_drewN ?_ _ | refine blk_drew ?_ | refine blk_alloc ?_ _)); exact BK216.out) hb); have n3_ := am (blk_below (g := gb225) (o := .cells #[.int .i64 t222, .int .i64 t223, .int .i64 t224] 24 (0, 0)) (by (with_reducible repeat (first | refine blk_drewN ?_ _ | refine blk_drew ?_ | refine blk_alloc ?_ _)); exact BK225.out) hb); have n4_ := am (blk_below (g := gb238) (o := .cells #[.int .i64 t234, .int .i64 t235, .int .i64 t236] 24 (0, 0)) (by (with_reducible repeat (first | refine blk_drewN ?_ _ | refine blk_drew ?_ | refine blk_alloc ?_ _)); exact BK238.out) hb); have n5_ := am (below_step (by repeat (first | (with_reducible first | exact HB.out | apply below_alloc | apply pw_below_drewN | apply below_drew1 | refine below_set ?_ GE214.out | refine below_set ?_ GE215.out | refine below_set ?_ GE216.out | refine below_set ?_ GE225.out | refine below_set ?_ GE238.out) | exact HB.out)) hb); clear BK214; clear BK215; clear BK216; clear BK225; clear BK238; clear HB; have BK214 := n0_; have BK215 := n1_; have BK216 := n2_; have BK225 := n3_; have BK238 := n4_; have HB := n5_; clear n0_ n1_ n2_ n3_ n4_ n5_; (try clear hb); (try clear hb2); (try clear hk); (try clear hi)))
                go_ret
                exact ⟨by first | rfl | (simp [errW_none, errW_some] <;> rfl) | (simp [*, errW_none, errW_some] <;> rfl), by repeat (first | (with_reducible first | exact HB.out | apply below_alloc | apply pw_below_drewN | apply below_drew1 | refine below_set ?_ GE214.out | refine below_set ?_ GE215.out | refine below_set ?_ GE216.out | refine below_set ?_ GE225.out | refine below_set ?_ GE238.out) | exact HB.out)⟩
               ·
                rw [if_neg c293] at H
                have c293b0 : (t240 == 0) = false := beq_eq_false_iff_ne.mpr c293
                have c293b1 : (t240 != 0) = true := bne_iff_ne.mpr c293
                exact absurd (H.trans (congrArg some HLAW.out)) (by simp)
              ·
               rw [if_neg c291] at H
               have c291b0 : (t236 == a4) = false := beq_eq_false_iff_ne.mpr c291
               have c291b1 : (t236 != a4) = true := bne_iff_ne.mpr c291
               exact absurd (H.trans (congrArg some HLAW.out)) (by simp)
             ·
              rw [if_neg c290] at H
              have c290b0 : decide (a0_0 ≤ t234) = false := decide_eq_false c290
              clear c290
              exact absurd (H.trans (congrArg some HLAW.out)) (by simp)
            ·
             rw [if_neg c289] at H
             have c289b0 : decide (a3 ≤ t234) = false := decide_eq_false c289
             clear c289
             exact absurd (H.trans (congrArg some HLAW.out)) (by simp)
           ·
            rw [if_neg c288] at H
            have c288b0 : (t239 == 1) = false := beq_eq_false_iff_ne.mpr c288
            have c288b1 : (t239 != 1) = true := bne_iff_ne.mpr c288
            exact absurd (H.trans (congrArg some HLAW.out)) (by simp)
          ·
           rw [if_neg c286] at H
           have c286b0 : (t237 == 0) = false := beq_eq_false_iff_ne.mpr c286
           have c286b1 : (t237 != 0) = true := bne_iff_ne.mpr c286
           by_cases c312 : t237 = 12
           ·
            rw [if_pos c312] at H
            have c312b0 : (t237 == 12) = true := beq_iff_eq.mpr c312
            have c312b1 : (t237 != 12) = false := bne_eq_false_iff_eq.mpr c312
            clear c312
            by_cases c313 : a0_1 = 65536
            ·
             rw [if_pos c313] at H
             have c313b0 : (a0_1 == 65536) = true := beq_iff_eq.mpr c313
             have c313b1 : (a0_1 != 65536) = false := bne_eq_false_iff_eq.mpr c313
             clear c313
             by_cases c314 : a3 ≤ a0_0
             ·
              rw [if_pos c314] at H
              have c314b0 : decide (a3 ≤ a0_0) = true := decide_eq_true c314
              clear c314
              replace H := Option.bind_eq_some_iff.mp H
              obtain ⟨t242, A3150, H⟩ := H
              replace H : (some t242) = some r := H
              have A315 := am A3150
              clear A3150
              obtain rfl := Option.some.inj H
              have hnb316 := NB214_215.out
              have hnc316 := NB215_214.out
              have hnb317 := NB214_216.out
              have hnc317 := NB216_214.out
              have hnb318 := NB214_225.out
              have hnc318 := NB225_214.out
              have hcz319_0 : wc.cell? ⟨gb214, 0, none⟩ = some (.int .i64 a0_0) := (blk_cell BK214.out 0).trans rfl
              have hcz319_1 : wc.cell? ⟨gb214, 1, none⟩ = some (.int .i64 a0_1) := (blk_cell BK214.out 1).trans rfl
              have hcz319_2 : wc.cell? ⟨gb214, 2, none⟩ = some (.int .i64 a0_2) := (blk_cell BK214.out 2).trans rfl
              have hfz319_0 := blk_frozen BK214.out 0
              have hfz319_1 := blk_frozen BK214.out 1
              have hfz319_2 := blk_frozen BK214.out 2
              go_wp2_with (first | ((with_reducible refine gate_callee (f := 9) rfl ?_); refine goesL_ (some 122) rfl rfl Try.func9 (by kernel_rfl) rfl #[.agg #[.int .i64 a0_0, .int .i64 a0_1, .int .i64 a0_2], .int .i64 a3, .int .i64 a4] rfl (by (try simp only [List.map_toArray, List.map_cons, List.map_nil]); first | done | rfl | (simp only [List.length_drop, List.length_take]; rfl)) ?_; (with_reducible refine (hlc_Next.calls kj250 a0_0 a0_1 a0_2 a3 a4 t234 t235 t236 t237 _ A285.out).mono ?_); rintro e w320 ⟨rfl, hb⟩; refine ⟨_, rfl, ?_⟩; have n0_ := am (blk_below (g := gb214) (o := .cells #[.int .i64 a0_0, .int .i64 a0_1, .int .i64 a0_2] 24 (0, 0)) (by (with_reducible repeat (first | refine blk_drewN ?_ _ | refine blk_drew ?_ | refine blk_alloc ?_ _)); exact BK214.out) hb); have n1_ := am (blk_below (g := gb215) (o := .cells #[.int .i64 a1_0, .int .i64 a1_1, .int .i64 a1_2] 24 (0, 0)) (by (with_reducible repeat (first | refine blk_drewN ?_ _ | refine blk_drew ?_ | refine blk_alloc ?_ _)); exact BK215.out) hb); have n2_ := am (blk_below (g := gb216) (o := .cells #[.int .i64 a2_0, .int .i64 a2_1, .int .i64 a2_2] 24 (0, 0)) (by (with_reducible repeat (first | refine blk_drewN ?_ _ | refine blk_drew ?_ | refine blk_alloc ?_ _)); exact BK216.out) hb); have n3_ := am (blk_below (g := gb225) (o := .cells #[.int .i64 t222, .int .i64 t223, .int .i64 t224] 24 (0, 0)) (by (with_reducible repeat (first | refine blk_drewN ?_ _ | refine blk_drew ?_ | refine blk_alloc ?_ _)); exact BK225.out) hb); have n4_ := am (below_step (by repeat (first | (with_reducible first | exact HB.out | apply below_alloc | apply pw_below_drewN | apply below_drew1 | refine below_set ?_ GE214.out | refine below_set ?_ GE215.out | refine below_set ?_ GE216.out | refine below_set ?_ GE225.out) | exact HB.out)) hb); clear BK214; clear BK215; clear BK216; clear BK225; clear HB; have BK214 := n0_; have BK215 := n1_; have BK216 := n2_; have BK225 := n3_; have HB := n4_; clear n0_ n1_ n2_ n3_ n4_; (try clear hb); (try clear hb2); (try clear hk); (try clear hi)) | ((with_reducible refine gate_dst (N := 15) rfl ?_); refine box_event ?hg (N := 15) ?hd (cs := #[.int .i64 0, .int .i64 0, .int .i64 0]) (t := 24) ?hr ?_; (case hd => rfl); (case hg => rfl); (case hr => first | (go_simp; done) | (go_simp; rfl)); intro gb238 hg w321 hbox hb; have n0_ := am (blk_below (g := gb214) (o := .cells #[.int .i64 a0_0, .int .i64 a0_1, .int .i64 a0_2] 24 (0, 0)) (by (with_reducible repeat (first | refine blk_drewN ?_ _ | refine blk_drew ?_ | refine blk_alloc ?_ _)); exact BK214.out) hb); have n1_ := am (blk_below (g := gb215) (o := .cells #[.int .i64 a1_0, .int .i64 a1_1, .int .i64 a1_2] 24 (0, 0)) (by (with_reducible repeat (first | refine blk_drewN ?_ _ | refine blk_drew ?_ | refine blk_alloc ?_ _)); exact BK215.out) hb); have n2_ := am (blk_below (g := gb216) (o := .cells #[.int .i64 a2_0, .int .i64 a2_1, .int .i64 a2_2] 24 (0, 0)) (by (with_reducible repeat (first | refine blk_drewN ?_ _ | refine blk_drew ?_ | refine blk_alloc ?_ _)); exact BK216.out) hb); have n3_ := am (blk_below (g := gb225) (o := .cells #[.int .i64 t222, .int .i64 t223, .int .i64 t224] 24 (0, 0)) (by (with_reducible repeat (first | refine blk_drewN ?_ _ | refine blk_drew ?_ | refine blk_alloc ?_ _)); exact BK225.out) hb); have n4_ := am (below_step (by repeat (first | (with_reducible first | exact HB.out | apply below_alloc | apply pw_below_drewN | apply below_drew1 | refine below_set ?_ GE214.out | refine below_set ?_ GE215.out | refine below_set ?_ GE216.out | refine below_set ?_ GE225.out) | exact HB.out)) hb); have n5_ := am (hbox); have n6_ := am ((by rw [hg]; exact (below_size (by repeat (first | (with_reducible first | exact HB.out | apply below_alloc | apply pw_below_drewN | apply below_drew1 | refine below_set ?_ GE214.out | refine below_set ?_ GE215.out | refine below_set ?_ GE216.out | refine below_set ?_ GE225.out) | exact HB.out))) : w.heap.size ≤ gb238)); have n7_ := am ((by rw [hg]; exact (below_size (by repeat (first | (with_reducible first | exact HB.out | apply below_alloc | apply pw_below_drewN | apply below_drew1 | refine below_set ?_ GE214.out | refine below_set ?_ GE215.out | refine below_set ?_ GE216.out | refine below_set ?_ GE225.out) | exact HB.out))) : w.heap.size ≤ gb238)); have n8_ := am ((by rw [hg]; exact Nat.ne_of_lt (blk_lt (g := gb214) (o := .cells #[.int .i64 a0_0, .int .i64 a0_1, .int .i64 a0_2] 24 (0, 0)) (by (with_reducible repeat (first | refine blk_drewN ?_ _ | refine blk_drew ?_ | refine blk_alloc ?_ _)); exact BK214.out)) : gb214 ≠ gb238)); have n9_ := am ((by rw [hg]; exact Nat.ne_of_gt (blk_lt (g := gb214) (o := .cells #[.int .i64 a0_0, .int .i64 a0_1, .int .i64 a0_2] 24 (0, 0)) (by (with_reducible repeat (first | refine blk_drewN ?_ _ | refine blk_drew ?_ | refine blk_alloc ?_ _)); exact BK214.out)) : gb238 ≠ gb214)); have n10_ := am ((by rw [hg]; exact Nat.ne_of_lt (blk_lt (g := gb215) (o := .cells #[.int .i64 a1_0, .int .i64 a1_1, .int .i64 a1_2] 24 (0, 0)) (by (with_reducible repeat (first | refine blk_drewN ?_ _ | refine blk_drew ?_ | refine blk_alloc ?_ _)); exact BK215.out)) : gb215 ≠ gb238)); have n11_ := am ((by rw [hg]; exact Nat.ne_of_gt (blk_lt (g := gb215) (o := .cells #[.int .i64 a1_0, .int .i64 a1_1, .int .i64 a1_2] 24 (0, 0)) (by (with_reducible repeat (first | refine blk_drewN ?_ _ | refine blk_drew ?_ | refine blk_alloc ?_ _)); exact BK215.out)) : gb238 ≠ gb215)); have n12_ := am ((by rw [hg]; exact Nat.ne_of_lt (blk_lt (g := gb216) (o := .cells #[.int .i64 a2_0, .int .i64 a2_1, .int .i64 a2_2] 24 (0, 0)) (by (with_reducible repeat (first | refine blk_drewN ?_ _ | refine blk_drew ?_ | refine blk_alloc ?_ _)); exact BK216.out)) : gb216 ≠ gb238)); have n13_ := am ((by rw [hg]; exact Nat.ne_of_gt (blk_lt (g := gb216) (o := .cells #[.int .i64 a2_0, .int .i64 a2_1, .int .i64 a2_2] 24 (0, 0)) (by (with_reducible repeat (first | refine blk_drewN ?_ _ | refine blk_drew ?_ | refine blk_alloc ?_ _)); exact BK216.out)) : gb238 ≠ gb216)); have n14_ := am ((by rw [hg]; exact Nat.ne_of_lt (blk_lt (g := gb225) (o := .cells #[.int .i64 t222, .int .i64 t223, .int .i64 t224] 24 (0, 0)) (by (with_reducible repeat (first | refine blk_drewN ?_ _ | refine blk_drew ?_ | refine blk_alloc ?_ _)); exact BK225.out)) : gb225 ≠ gb238)); have n15_ := am ((by rw [hg]; exact Nat.ne_of_gt (blk_lt (g := gb225) (o := .cells #[.int .i64 t222, .int .i64 t223, .int .i64 t224] 24 (0, 0)) (by (with_reducible repeat (first | refine blk_drewN ?_ _ | refine blk_drew ?_ | refine blk_alloc ?_ _)); exact BK225.out)) : gb238 ≠ gb225)); clear BK214; clear BK215; clear BK216; clear BK225; clear HB; have BK214 := n0_; have BK215 := n1_; have BK216 := n2_; have BK225 := n3_; have HB := n4_; have BK238 := n5_; have GW238 := n6_; have GE238 := n7_; have NB214_238 := n8_; have NB238_214 := n9_; have NB215_238 := n10_; have NB238_215 := n11_; have NB216_238 := n12_; have NB238_216 := n13_; have NB225_238 := n14_; have NB238_225 := n15_; clear n0_ n1_ n2_ n3_ n4_ n5_ n6_ n7_ n8_ n9_ n10_ n11_ n12_ n13_ n14_ n15_; clear hb hbox hg; have hnb322 := NB238_214.out; have hnc322 := NB214_238.out; have hnb323 := NB238_215.out; have hnc323 := NB215_238.out; have hnb324 := NB238_216.out; have hnc324 := NB216_238.out; have hnb325 := NB238_225.out; have hnc325 := NB225_238.out; have hcz326_0 : w321.cell? ⟨gb238, 0, none⟩ = some (.int .i64 0) := (blk_cell BK238.out 0).trans rfl; have hcz326_1 : w321.cell? ⟨gb238, 1, none⟩ = some (.int .i64 0) := (blk_cell BK238.out 1).trans rfl; have hcz326_2 : w321.cell? ⟨gb238, 2, none⟩ = some (.int .i64 0) := (blk_cell BK238.out 2).trans rfl; have hfz326_0 := blk_frozen BK238.out 0; have hfz326_1 := blk_frozen BK238.out 1; have hfz326_2 := blk_frozen BK238.out 2; have hcz327_0 : w321.cell? ⟨gb214, 0, none⟩ = some (.int .i64 a0_0) := (blk_cell BK214.out 0).trans rfl; have hcz327_1 : w321.cell? ⟨gb214, 1, none⟩ = some (.int .i64 a0_1) := (blk_cell BK214.out 1).trans rfl; have hcz327_2 : w321.cell? ⟨gb214, 2, none⟩ = some (.int .i64 a0_2) := (blk_cell BK214.out 2).trans rfl; have hfz327_0 := blk_frozen BK214.out 0; have hfz327_1 := blk_frozen BK214.out 1; have hfz327_2 := blk_frozen BK214.out 2) | (go_at_call 11; (with_reducible refine (L06_wakes.calls kj250  t242 _ A315.out).mono ?_); rintro e w328 ⟨rfl, hb⟩; have n0_ := am (blk_below (g := gb214) (o := .cells #[.int .i64 a0_0, .int .i64 a0_1, .int .i64 a0_2] 24 (0, 0)) (by (with_reducible repeat (first | refine blk_drewN ?_ _ | refine blk_drew ?_ | refine blk_alloc ?_ _)); refine blk_far ?_ NB214_238.out _; (with_reducible repeat (first | refine blk_drewN ?_ _ | refine blk_drew ?_ | refine blk_alloc ?_ _)); refine blk_far ?_ NB214_238.out _; (with_reducible repeat (first | refine blk_drewN ?_ _ | refine blk_drew ?_ | refine blk_alloc ?_ _)); refine blk_far ?_ NB214_238.out _; (with_reducible repeat (first | refine blk_drewN ?_ _ | refine blk_drew ?_ | refine blk_alloc ?_ _)); exact BK214.out) hb); have n1_ := am (blk_below (g := gb215) (o := .cells #[.int .i64 a1_0, .int .i64 a1_1, .int .i64 a1_2] 24 (0, 0)) (by (with_reducible repeat (first | refine blk_drewN ?_ _ | refine blk_drew ?_ | refine blk_alloc ?_ _)); refine blk_far ?_ NB215_238.out _; (with_reducible repeat (first | refine blk_drewN ?_ _ | refine blk_drew ?_ | refine blk_alloc ?_ _)); refine blk_far ?_ NB215_238.out _; (with_reducible repeat (first | refine blk_drewN ?_ _ | refine blk_drew ?_ | refine blk_alloc ?_ _)); refine blk_far ?_ NB215_238.out _; (with_reducible repeat (first | refine blk_drewN ?_ _ | refine blk_drew ?_ | refine blk_alloc ?_ _)); exact BK215.out) hb); have n2_ := am (blk_below (g := gb216) (o := .cells #[.int .i64 a2_0, .int .i64 a2_1, .int .i64 a2_2] 24 (0, 0)) (by (with_reducible repeat (first | refine blk_drewN ?_ _ | refine blk_drew ?_ | refine blk_alloc ?_ _)); refine blk_far ?_ NB216_238.out _; (with_reducible repeat (first | refine blk_drewN ?_ _ | refine blk_drew ?_ | refine blk_alloc ?_ _)); refine blk_far ?_ NB216_238.out _; (with_reducible repeat (first | refine blk_drewN ?_ _ | refine blk_drew ?_ | refine blk_alloc ?_ _)); refine blk_far ?_ NB216_238.out _; (with_reducible repeat (first | refine blk_drewN ?_ _ | refine blk_drew ?_ | refine blk_alloc ?_ _)); exact BK216.out) hb); have n3_ := am (blk_below (g := gb225) (o := .cells #[.int .i64 t222, .int .i64 t223, .int .i64 t224] 24 (0, 0)) (by (with_reducible repeat (first | refine blk_drewN ?_ _ | refine blk_drew ?_ | refine blk_alloc ?_ _)); refine blk_far ?_ NB225_238.out _; (with_reducible repeat (first | refine blk_drewN ?_ _ | refine blk_drew ?_ | refine blk_alloc ?_ _)); refine blk_far ?_ NB225_238.out _; (with_reducible repeat (first | refine blk_drewN ?_ _ | refine blk_drew ?_ | refine blk_alloc ?_ _)); refine blk_far ?_ NB225_238.out _; (with_reducible repeat (first | refine blk_drewN ?_ _ | refine blk_drew ?_ | refine blk_alloc ?_ _)); exact BK225.out) hb); have n4_ := am (blk_below (g := gb238) (o := .cells #[.int .i64 t234, .int .i64 t235, .int .i64 t236] 24 (0, 0)) (by (with_reducible repeat (first | refine blk_drewN ?_ _ | refine blk_drew ?_ | refine blk_alloc ?_ _)); refine blk_put (cs := #[.int .i64 t234, .int .i64 t235, .int .i64 0]) ?_ 2 _ rfl; (with_reducible repeat (first | refine blk_drewN ?_ _ | refine blk_drew ?_ | refine blk_alloc ?_ _)); refine blk_put (cs := #[.int .i64 t234, .int .i64 0, .int .i64 0]) ?_ 1 _ rfl; (with_reducible repeat (first | refine blk_drewN ?_ _ | refine blk_drew ?_ | refine blk_alloc ?_ _)); refine blk_put (cs := #[.int .i64 0, .int .i64 0, .int .i64 0]) ?_ 0 _ rfl; (with_reducible repeat (first | refine blk_drewN ?_ _ | refine blk_drew ?_ | refine blk_alloc ?_ _)); exact BK238.out) hb); have n5_ := am (below_step (by repeat (first | (with_reducible first | exact HB.out | apply below_alloc | apply pw_below_drewN | apply below_drew1 | refine below_set ?_ GE214.out | refine below_set ?_ GE215.out | refine below_set ?_ GE216.out | refine below_set ?_ GE225.out | refine below_set ?_ GE238.out) | exact HB.out)) hb); clear BK214; clear BK215; clear BK216; clear BK225; clear BK238; clear HB; have BK214 := n0_; have BK215 := n1_; have BK216 := n2_; have BK225 := n3_; have BK238 := n4_; have HB := n5_; clear n0_ n1_ n2_ n3_ n4_ n5_; (try clear hb); (try clear hb2); (try clear hk); (try clear hi)))
              go_ret
              exact ⟨by first | rfl | (simp [errW_none, errW_some] <;> rfl) | (simp [*, errW_none, errW_some] <;> rfl), by repeat (first | (with_reducible first | exact HB.out | apply below_alloc | apply pw_below_drewN | apply below_drew1 | refine below_set ?_ GE214.out | refine below_set ?_ GE215.out | refine below_set ?_ GE216.out | refine below_set ?_ GE225.out | refine below_set ?_ GE238.out) | exact HB.out)⟩
             ·
              rw [if_neg c314] at H
              have c314b0 : decide (a3 ≤ a0_0) = false := decide_eq_false c314
              clear c314
              exact absurd (H.trans (congrArg some HLAW.out)) (by simp)
            ·
             rw [if_neg c313] at H
             have c313b0 : (a0_1 == 65536) = false := beq_eq_false_iff_ne.mpr c313
             have c313b1 : (a0_1 != 65536) = true := bne_iff_ne.mpr c313
             exact absurd (H.trans (congrArg some HLAW.out)) (by simp)
           ·
            rw [if_neg c312] at H
            have c312b0 : (t237 == 12) = false := beq_eq_false_iff_ne.mpr c312
            have c312b1 : (t237 != 12) = true := bne_iff_ne.mpr c312
            exact absurd (H.trans (congrArg some HLAW.out)) (by simp)

end Go.Proofs.Ytelgaglbkcacnaa.B
