/- Merging and the least, plainly. No condition. -/
import Derived.Test.YtamdidmfcjdcgaaSdotG
set_option linter.unusedVariables false
set_option linter.unusedSimpArgs false
set_option maxRecDepth 100000
namespace Go.Proofs.Ytamdidmfcjdcgaa.D
open Go Go.Proofs

theorem vecE_mk {v : List Int} (h1 : 1 ≤ v.length) (h2 : v.length ≤ 5) (h3 : ∀ i, i < v.length → 0 ≤ gN v i ∧ gN v i ≤ 1073741824) : vecE v = 0 := by
  rw [vecE, if_pos ⟨h1, h2⟩, if_pos]
  intro n hn
  obtain ⟨i, hi, rfl⟩ := List.getElem_of_mem hn
  rw [← gN_eq hi]; exact h3 i hi
theorem vecE_at {v : List Int} (h : vecE v = 0) {i : Nat} (hi : i < v.length) : 0 ≤ gN v i ∧ gN v i ≤ 1073741824 := (vecE_range v h).2.2 _ (by rw [gN_eq hi]; exact List.getElem_mem _)
theorem vecE_zip {p : Int → Int → Int} (hp : ∀ x y, p x y = x ∨ p x y = y) {a b : List Int} (ha : vecE a = 0) (hb : vecE b = 0) (h : a.length = b.length) : vecE (List.zipWith p a b) = 0 := by
  obtain ⟨h1, h2, _⟩ := vecE_range a ha
  refine vecE_mk (by simp; omega) (by simp; omega) fun i hi => ?_
  have h3 : i < a.length := by simp at hi; omega
  rw [gN_zip h3 (by omega)]
  rcases hp (gN a i) (gN b i) with e | e <;> rw [e]
  · exact vecE_at ha h3
  · exact vecE_at hb (by omega)
theorem min_or (x y : Int) : min x y = x ∨ min x y = y := by omega
theorem max_or (x y : Int) : max x y = x ∨ max x y = y := by omega
theorem merge_yes {a b : List Int} (ha : vecE a = 0) (hb : vecE b = 0) (h : a.length = b.length) : mergeV a b = (List.zipWith max a b, 0) := eachV_yes ha hb h
theorem least3 {a b c : List Int} (ha : vecE a = 0) (hb : vecE b = 0) (hc : vecE c = 0) (h : a.length = b.length) (k : b.length = c.length) : leastV [a, b, c] = (List.zipWith min (List.zipWith min a b) c, 0) := by
  have e2 : eachV min a b = (List.zipWith min a b, 0) := eachV_yes ha hb h
  have e3 : eachV min (List.zipWith min a b) c = (List.zipWith min (List.zipWith min a b) c, 0) := eachV_yes (vecE_zip min_or ha hb h) hc (by simp; omega)
  simp [leastV, firstE, ha, hb, hc, leastF, gN, eachV_yes ha ha rfl, zip_self, e2, e3]
theorem zip_comm {p : Int → Int → Int} (hp : ∀ x y, p x y = p y x) (a b : List Int) : List.zipWith p a b = List.zipWith p b a := by
  refine List.ext_getElem (by simp; omega) fun i h1 h2 => ?_
  simp; exact hp _ _
theorem leB_iff {a b : List Int} : leB a b = true ↔ a.length = b.length ∧ ∀ i, i < a.length → gN a i ≤ gN b i := by
  simp [leB, allB]
theorem list_iff {a b : List Int} : a = b ↔ a.length = b.length ∧ ∀ i, i < a.length → gN a i = gN b i := by
  constructor
  · rintro rfl; exact ⟨rfl, fun _ _ => rfl⟩
  · rintro ⟨h1, h2⟩
    refine List.ext_getElem h1 fun i h3 h4 => ?_
    rw [← gN_eq h3, ← gN_eq h4]; exact h2 i h3
end Go.Proofs.Ytamdidmfcjdcgaa.D
