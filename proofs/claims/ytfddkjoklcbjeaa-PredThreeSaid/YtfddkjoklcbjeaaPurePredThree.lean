/- Proves the plain statement of PredThree: of two columns one is less, or the other, or they are equal: just one of these; a column is null, or it is not; of a column and a value likewise. No condition beyond the statement's own. -/
import Derived.Test.YtfddkjoklcbjeaaPredF
import Derived.Test.YtfddkjoklcbjeaaSayPredThree
set_option linter.unusedSimpArgs false
set_option linter.unusedVariables false
namespace Go.Proofs.Ytfddkjoklcbjeaa.Pure
open Go.RowKit Go.Proofs.Ytfddkjoklcbjeaa.Open Go.Proofs.Ytfddkjoklcbjeaa.B Go.Proofs.YtfddkjoklcbjeaaW.PrintWords Go.Proofs.YtfddkjoklcbjeaaW.PrintLast
theorem three (k : Nat) (l : List S23) (x y : Int) (v : S23) (h0 : 0 < l.length) (h1 : l.length ≤ 40) : L15_PredThree.j0 (k + 20) l x y false v.f0 v.f1 v.f2 = some true := by
  rw [L15_PredThree.j0, if_neg (by simp), if_neg (by rw [u64_id _ (by omega)]; omega)]
  obtain ⟨a, ha, ha0, ha1⟩ := mod_small x l.length h0 (by omega)
  obtain ⟨b, hb, hb0, hb1⟩ := mod_small y l.length h0 (by omega)
  rw [ha, hb]
  let z : S23 := ⟨0, 0, ⟨#[]⟩⟩
  have H : ∀ p0 p1 p2 w0 w1 w2, pred_Holds.f (k + 19) p0 p1 p2 w0 w1 w2 l = some (holdsS p0 p1 p2 ⟨w0, w1, w2⟩ l) := fun p0 p1 p2 w0 w1 w2 => holds_eq (k + 14) p0 p1 p2 ⟨w0, w1, w2⟩ l
  have K : ∀ u w : S23, keep_Value.f u.f0 u.f1 u.f2 w.f0 w.f1 w.f2 = some (eqV u w) := keepV_eq
  have W : L15_wakes.f (k + 19) = some true := wakes_eq (k + 14)
  have Ka := K (rd_T23 l a) v
  have Kb := K (rd_T23 l a) (rd_T23 l b)
  simp only [H, W, Ka, Kb, Option.bind_some, show k + 19 = k + 14 + 5 from rfl, count3, count2]
  rw [if_pos ha0, if_pos ha1, if_pos hb0, if_pos hb1]
  have cab := cmpV_cases (rd_T23 l a) (rd_T23 l b)
  have cav := cmpV_cases (rd_T23 l a) v
  have t1 : holdsS 4 a b ⟨0, 0, ⟨#[]⟩⟩ l = decide (cmpV (rd_T23 l a) (rd_T23 l b) < 0) := by unfold holdsS; simp [ha0, ha1, hb0, hb1]
  have t2 : holdsS 4 b a ⟨0, 0, ⟨#[]⟩⟩ l = decide (cmpV (rd_T23 l b) (rd_T23 l a) < 0) := by unfold holdsS; simp [ha0, ha1, hb0, hb1]
  have t3 : holdsS 3 a b ⟨0, 0, ⟨#[]⟩⟩ l = (cmpV (rd_T23 l a) (rd_T23 l b) == 0) := by unfold holdsS; simp [ha0, ha1, hb0, hb1]
  have t4 : holdsS 5 a 0 ⟨0, 0, ⟨#[]⟩⟩ l = ((rd_T23 l a).f0 == 1) := by unfold holdsS; simp [ha0, ha1]
  have t5 : holdsS 6 a 0 ⟨0, 0, ⟨#[]⟩⟩ l = ((rd_T23 l a).f0 != 1) := by unfold holdsS; simp [ha0, ha1]
  have t6 : holdsS 2 a 0 ⟨v.f0, v.f1, v.f2⟩ l = decide (cmpV (rd_T23 l a) v < 0) := by unfold holdsS; simp [ha0, ha1]
  have t7 : holdsS 1 a 0 ⟨v.f0, v.f1, v.f2⟩ l = (cmpV (rd_T23 l a) v == 0) := by unfold holdsS; simp [ha0, ha1]
  have t8 : holdsS 5 (l.length : Int) 0 ⟨0, 0, ⟨#[]⟩⟩ l = false := by unfold holdsS; simp
  have t9 : holdsS 6 (-1) 0 ⟨0, 0, ⟨#[]⟩⟩ l = false := by unfold holdsS; simp
  rw [t1, t2, t3, t4, t5, t6, t7, t8, t9]
  have n1 : nB (decide (cmpV (rd_T23 l a) (rd_T23 l b) < 0)) + nB (decide (cmpV (rd_T23 l b) (rd_T23 l a) < 0)) + nB (cmpV (rd_T23 l a) (rd_T23 l b) == 0) = 1 := by
    rcases cab with ⟨_, e, e'⟩ | ⟨_, e, e'⟩ | ⟨_, e, e'⟩ <;> rw [e, e'] <;> decide
  have n2 : nB ((rd_T23 l a).f0 == 1) + nB ((rd_T23 l a).f0 != 1) = 1 := by
    by_cases h : (rd_T23 l a).f0 = 1 <;> simp [nB, h]
  have q1 : ((cmpV (rd_T23 l a) v == 0) == eqV (rd_T23 l a) v) = true := by
    rcases cav with ⟨h, e, _⟩ | ⟨h, e, _⟩ | ⟨h, e, _⟩ <;> rw [h, e] <;> decide
  have q2 : ((cmpV (rd_T23 l a) (rd_T23 l b) == 0) == eqV (rd_T23 l a) (rd_T23 l b)) = true := by
    rcases cab with ⟨h, e, _⟩ | ⟨h, e, _⟩ | ⟨h, e, _⟩ <;> rw [h, e] <;> decide
  rw [if_pos n1, if_pos n2, q1, q2]
  by_cases hl : cmpV (rd_T23 l a) v < 0
  · rw [decide_eq_true hl, if_pos rfl, show (cmpV (rd_T23 l a) v == 0) = false by rw [beq_eq_false_iff_ne]; omega]
    simp
  · rw [decide_eq_false hl, if_neg (by simp)]
    simp
theorem PredThree : L15_PredThree.Pure := by
  intro l x y v0 v1 v2 _ _ _ _ _ _
  refine ⟨100, ?_⟩
  unfold L15_PredThree.f
  obtain ⟨b, hb, hbl⟩ := heavy_some l 50
  have hb' : L04_Heavy.f 100 l = some b := hb
  rw [hb']
  simp only [Option.bind_some]
  cases b with
  | true => rw [if_pos rfl, L15_PredThree.j0]; rfl
  | false =>
    rw [if_neg (by simp)]
    by_cases h : (l.length : Int) = 0
    · rw [if_pos h, L15_PredThree.j0]; rfl
    · rw [if_neg h]
      obtain ⟨c, hc⟩ := long_one 98 ⟨v0, v1, v2⟩
      have hc' : L03_Long.f 100 [(⟨v0, v1, v2⟩ : S23)] = some c := hc
      rw [hc']
      simp only [Option.bind_some]
      cases c with
      | true => rw [L15_PredThree.j0]; rfl
      | false => exact three 80 l x y ⟨v0, v1, v2⟩ (by omega) (hbl rfl)


end Go.Proofs.Ytfddkjoklcbjeaa.Pure
