/- Plain facts of this session. No condition. -/
import Derived.Test.YtadibbhmhggmaaaDotA
import Derived.Test.YtadibbhmhggmaaaB6
import Derived.Test.YtadibbhmhggmaaaB7
set_option linter.unusedSimpArgs false
set_option linter.unusedVariables false
namespace Go.Proofs.Ytadibbhmhggmaaa.Pure
open Go.RowKit Go.Proofs.Ytadibbhmhggmaaa.Open Go.Proofs.Ytadibbhmhggmaaa.B Go.Proofs.YtadibbhmhggmaaaW.PrintWords Go.Proofs.YtadibbhmhggmaaaW.PrintLast
/-- The greater numbers of two. -/
def mergeD (a b : List Int) : List Int := List.zipWith mx a b
theorem merge_loop (a b : List Int) (hab : a.length = b.length) (hl : a.length ≤ 100) : ∀ (d k i : Nat), i ≤ a.length → a.length - i = d → d < k →
    dot_each_at_dot_Merge_1.l0 k a b ((mergeD a b).take i ++ a.drop i) a.length i = some (mergeD a b, 0) := by
  have hm : (mergeD a b).length = a.length := by simp [mergeD, hab]
  intro d
  induction d with
  | zero =>
    intro k i hi hd hk
    obtain ⟨k, rfl⟩ : ∃ q, k = q + 1 := ⟨k - 1, by omega⟩
    rw [dot_each_at_dot_Merge_1.l0, if_neg (by omega), List.take_of_length_le (by omega), List.drop_of_length_le (by omega), List.append_nil]
  | succ d ih =>
    intro k i hi hd hk
    obtain ⟨k, rfl⟩ : ∃ q, k = q + 1 := ⟨k - 1, by omega⟩
    rw [dot_each_at_dot_Merge_1.l0, if_pos (by omega), if_pos (by omega), if_pos (by omega), if_pos (by omega), rd_eq a i (by omega), rd_eq b i (by omega)]
    unfold dot_Merge_1.f
    simp only [Option.bind_some]
    rw [if_pos (by simp; omega), wrap_small _ (by omega) (by omega), Int.toNat_natCast]
    have e : mx a[i] b[i] = (mergeD a b)[i] := by simp [mergeD]
    rw [e, set_step (mergeD a b) a i hm (by omega)]
    exact ih k (i + 1) (by omega) (by omega) (by omega)
/-- What two vectors merge to, and the error. -/
def mergedD (a b : List Int) : List Int × Int := if checkD a ≠ 0 then ([], checkD a) else if checkD b ≠ 0 then ([], checkD b) else if a.length ≠ b.length then ([], 2) else (mergeD a b, 0)
theorem merged_eq (k : Nat) (a b : List Int) : dot_Merge.f (k + 8) a b = some (mergedD a b) := by
  unfold dot_Merge.f dot_each_at_dot_Merge_1.f mergedD
  rw [check_eq, check_eq]
  simp only [Option.bind_some]
  by_cases ha : checkD a = 0
  · have hok := (okD_iff a).1 ha
    rw [if_pos ha, if_neg (show ¬ checkD a ≠ 0 from fun h => h ha)]
    by_cases hb : checkD b = 0
    · rw [if_pos hb, if_neg (show ¬ checkD b ≠ 0 from fun h => h hb)]
      by_cases hab : a.length = b.length
      · rw [if_pos (show (a.length : Int) = b.length by omega), if_neg (show ¬ a.length ≠ b.length from fun h => h hab), clone_eq a (by omega)]
        simp only [Option.bind_some]
        have := merge_loop a b hab (by omega) a.length (k + 8) 0 (by omega) (by omega) (by omega)
        simp only [List.take_zero, List.drop_zero, List.nil_append] at this
        have e : dot_each_at_dot_Merge_1.l0 (k + 8) a b a a.length 0 = some (mergeD a b, 0) := this
        rw [e]
        rfl
      · rw [if_neg (show ¬ (a.length : Int) = b.length by omega), if_pos (show a.length ≠ b.length from hab)]
        rfl
    · rw [if_neg hb, if_pos (show checkD b ≠ 0 from hb)]
      rfl
  · rw [if_neg ha, if_pos (show checkD a ≠ 0 from ha)]
    rfl
theorem rd_lit2 (a b : Int) : rd [a, b] 0 = a ∧ rd [a, b] 1 = b := ⟨rfl, rfl⟩
theorem wakes_eq (k : Nat) : L05_wakes.f (k + 8) = some true := by
  unfold L05_wakes.f
  rw [merged_eq]
  have e : mergedD [2, 0] [1, 3] = ([2, 3], 0) := by decide
  rw [e]
  simp only [Option.bind_some, if_true]
  rw [ints_eq (k + 8) [2, 3] [2, 3] (by simp) (by simp), has_eq, next_eq, le_eq (k + 8) [0, 0] [2, 3] (by simp) (by simp)]
  have e1 : hasD [2, 3] 1 3 = true := by decide
  have e2 : nextD [2, 3] 0 3 = true := by unfold nextD; rw [show wrap64 (3 - 1) = 2 by unfold wrap64; omega]; decide
  have e3 : leD [0, 0] [2, 3] = true := by decide
  rw [e1, e2, e3]
  simp

end Go.Proofs.Ytadibbhmhggmaaa.Pure
