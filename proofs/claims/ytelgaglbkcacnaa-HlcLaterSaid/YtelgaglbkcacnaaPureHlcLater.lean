/- Proves the plain statement of HlcLater: the latest of several, one by one, in whatever order, is the same, and none is later. No condition beyond the statement's own. -/
import Derived.Test.YtelgaglbkcacnaaHlcC
import Derived.Test.YtelgaglbkcacnaaSayHlcLater
set_option linter.unusedSimpArgs false
set_option linter.unusedVariables false
namespace Go.Proofs.Ytelgaglbkcacnaa.Pure
open Go.RowKit Go.Proofs.Ytelgaglbkcacnaa.Open Go.Proofs.Ytelgaglbkcacnaa.B Go.Proofs.YtelgaglbkcacnaaW.PrintWords Go.Proofs.YtelgaglbkcacnaaW.PrintLast
/-- No later than. -/
def leS (x y : Int × Int × Int) : Prop := ¬ ltS y.1 y.2.1 y.2.2 x.1 x.2.1 x.2.2
def tupS (x : S24) : Int × Int × Int := (x.f0, x.f1, x.f2)
theorem leS_refl (x) : leS x x := by unfold leS ltS; omega
theorem leS_trans {x y z} (h : leS x y) (h' : leS y z) : leS x z := by unfold leS ltS at *; omega
theorem leS_anti {x y} (h : leS x y) (h' : leS y x) : x = y := by
  obtain ⟨x0, x1, x2⟩ := x
  obtain ⟨y0, y1, y2⟩ := y
  unfold leS ltS at *
  simp only [Prod.mk.injEq] at *
  omega
theorem later_spec (x y : Int × Int × Int) : leS x (laterS x.1 x.2.1 x.2.2 y.1 y.2.1 y.2.2) ∧ leS y (laterS x.1 x.2.1 x.2.2 y.1 y.2.1 y.2.2) ∧ (laterS x.1 x.2.1 x.2.2 y.1 y.2.1 y.2.2 = x ∨ laterS x.1 x.2.1 x.2.2 y.1 y.2.1 y.2.2 = y) := by
  have c := cmpS_cases x.1 x.2.1 x.2.2 y.1 y.2.1 y.2.2
  unfold laterS
  by_cases h : cmpS x.1 x.2.1 x.2.2 y.1 y.2.1 y.2.2 < 0
  · rw [if_pos h]
    refine ⟨?_, leS_refl _, .inr rfl⟩
    unfold leS ltS at *
    dsimp only
    omega
  · rw [if_neg h]
    refine ⟨leS_refl _, ?_, .inl rfl⟩
    unfold leS ltS at *
    dsimp only
    omega
theorem rd_mem (l : List S24) (i : Int) (h0 : 0 ≤ i) (h1 : i < l.length) : rd_T24 l i ∈ l := by
  unfold rd_T24
  rw [List.getD_eq_getElem?_getD, List.getElem?_eq_getElem (by omega)]
  exact List.getElem_mem _
/-- The places that i, i + 1, .. come to, turned round. -/
theorem loop1 (l : List S24) (t : Int) (m : Int) (hl : l.length ≤ 50) (hl0 : 0 < l.length) (ht : wrap64 (Int.tmod (IntKind.u64.wrap t) (IntKind.u64.wrap (l.length : Int))) = m) (hm : 0 ≤ m) (hm1 : m < l.length)
    (hz : IntKind.u64.wrap (l.length : Int) ≠ 0)
    (R : ∀ k (a b : Int × Int × Int), 200 ≤ k → (∀ x ∈ l, leS (tupS x) a) → (∃ x ∈ l, tupS x = a) → (∃ x ∈ l, tupS x = b) → (∀ j : Int, 0 ≤ j → j < l.length → leS (tupS (rd_T24 l (Int.tmod (j + m) l.length))) b) → L06_HlcLater.l1 k l 0 a.1 a.2.1 a.2.2 b.1 b.2.1 b.2.2 = some true) :
    ∀ (d k : Nat) (i : Int) (a b : Int × Int × Int), 0 ≤ i → i ≤ l.length → (l.length : Int) - i = d → d + 300 ≤ k →
      (∀ j : Int, 0 ≤ j → j < i → leS (tupS (rd_T24 l j)) a) → (∃ x ∈ l, tupS x = a) → (∃ x ∈ l, tupS x = b) → (∀ j : Int, 0 ≤ j → j < i → leS (tupS (rd_T24 l (Int.tmod (j + m) l.length))) b) →
      L06_HlcLater.l0 k l t i a.1 a.2.1 a.2.2 b.1 b.2.1 b.2.2 = some true := by
  intro d
  induction d with
  | zero =>
    intro k i a b hi hi2 hd hk ha ha2 hb2 hb
    obtain ⟨k, rfl⟩ : ∃ q, k = q + 1 := ⟨k - 1, by omega⟩
    rw [L06_HlcLater.l0, if_neg (by omega)]
    refine R k a b (by omega) ?_ ha2 hb2 (fun j h0 h1 => hb j h0 (by omega))
    intro x hx
    obtain ⟨j, hj, rfl⟩ := List.getElem_of_mem hx
    have := ha j (by omega) (by omega)
    unfold rd_T24 at this
    rw [List.getD_eq_getElem?_getD, List.getElem?_eq_getElem (by simpa using hj)] at this
    simpa using this
  | succ d ih =>
    intro k i a b hi hi2 hd hk ha ha2 hb2 hb
    obtain ⟨k, rfl⟩ : ∃ q, k = q + 4 + 1 := ⟨k - 5, by omega⟩
    rw [L06_HlcLater.l0, if_pos (by omega), if_pos hi, later_eq]
    simp only [Option.bind_some]
    rw [if_neg hz, if_neg (by omega), ht]
    have hw : wrap64 (i + m) = i + m := wrap_small _ (by omega) (by omega)
    rw [hw]
    have r := tmod_range (i + m) l.length (by omega) (by omega)
    rw [if_pos r.1, if_pos r.2, later_eq]
    simp only [Option.bind_some]
    rw [wrap_small (i + 1) (by omega) (by omega)]
    have s1 := later_spec a (tupS (rd_T24 l i))
    have s2 := later_spec (tupS (rd_T24 l (Int.tmod (i + m) l.length))) b
    simp only [tupS] at s1 s2
    have m1 := rd_mem l i hi (by omega)
    have m2 := rd_mem l _ r.1 r.2
    refine ih (k + 4) (i + 1) _ _ (by omega) (by omega) (by omega) (by omega) ?_ ?_ ?_ ?_
    · intro j h0 h1
      by_cases hj : j = i
      · subst hj; exact s1.2.1
      · exact leS_trans (ha j h0 (by omega)) s1.1
    · rcases s1.2.2 with e | e
      · rw [e]; exact ha2
      · rw [e]; exact ⟨_, m1, rfl⟩
    · rcases s2.2.2 with e | e
      · rw [e]; exact ⟨_, m2, rfl⟩
      · rw [e]; exact hb2
    · intro j h0 h1
      by_cases hj : j = i
      · subst hj; exact s2.1
      · exact leS_trans (hb j h0 (by omega)) s2.2.1
theorem loop2 (l : List S24) (a b : Int × Int × Int) (hl : l.length ≤ 50) (hab : a = b) (ha : ∀ x ∈ l, leS (tupS x) a) :
    ∀ (d k : Nat) (i : Int), 0 ≤ i → i ≤ l.length → (l.length : Int) - i = d → d + 10 ≤ k → L06_HlcLater.l1 k l i a.1 a.2.1 a.2.2 b.1 b.2.1 b.2.2 = some true := by
  subst hab
  intro d
  induction d with
  | zero =>
    intro k i hi hi2 hd hk
    obtain ⟨k, rfl⟩ : ∃ q, k = q + 4 + 1 := ⟨k - 5, by omega⟩
    rw [L06_HlcLater.l1, if_neg (by omega), keep_eq]
    simp [wakes_eq]
  | succ d ih =>
    intro k i hi hi2 hd hk
    obtain ⟨k, rfl⟩ : ∃ q, k = q + 4 + 1 := ⟨k - 5, by omega⟩
    rw [L06_HlcLater.l1, if_pos (by omega), if_pos hi, compareS]
    simp only [Option.bind_some]
    have h := ha _ (rd_mem l i hi (by omega))
    have c := cmpS_cases (rd_T24 l i).f0 (rd_T24 l i).f1 (rd_T24 l i).f2 a.1 a.2.1 a.2.2
    unfold leS at h
    simp only [tupS] at h
    rw [if_neg (by rcases c with c | c | c
                   · omega
                   · omega
                   · exact absurd c.1 h), wrap_small (i + 1) (by omega) (by omega)]
    exact ih (k + 4) (i + 1) (by omega) (by omega) (by omega) (by omega)
theorem HlcLater : L06_HlcLater.Pure := by
  intro l t _ _
  refine ⟨1000, ?_⟩
  unfold L06_HlcLater.f
  by_cases h : (l.length : Int) < 1
  · rw [if_pos h, L06_HlcLater.j0]; simp
  · rw [if_neg h]
    by_cases h1 : (l.length : Int) > 50
    · rw [decide_eq_true h1, L06_HlcLater.j0]; simp
    · rw [decide_eq_false h1, L06_HlcLater.j0]
      simp only [Bool.false_eq_true, if_false]
      have hu : IntKind.u64.wrap (l.length : Int) = l.length := by simp [IntKind.wrap, IntKind.signed, IntKind.bits]; omega
      obtain ⟨m, hm, hm0, hm1⟩ := mod_small t l.length (by omega) (by omega)
      have hm' := hm
      rw [← hu] at hm'
      rw [if_pos (by omega), if_neg (by rw [hu]; omega), hm', if_pos hm0, if_pos hm1]
      have key := loop1 l t m (by omega) (by omega) hm' hm0 hm1 (by rw [hu]; omega) ?_ l.length 999 0 (tupS (rd_T24 l 0)) (tupS (rd_T24 l m)) (by omega) (by omega) (by omega) (by omega) (fun j h0 h1 => by omega) ⟨_, rd_mem l 0 (by omega) (by omega), rfl⟩ ⟨_, rd_mem l m hm0 hm1, rfl⟩ (fun j h0 h1 => by omega)
      · exact key
      · intro k a b hk ha ha2 hb2 hb
        refine loop2 l a b (by omega) ?_ ha l.length k 0 (by omega) (by omega) (by omega) (by omega)
        obtain ⟨x, hx, rfl⟩ := ha2
        obtain ⟨y, hy, rfl⟩ := hb2
        refine leS_anti ?_ (ha y hy)
        obtain ⟨q, hq, rfl⟩ := List.getElem_of_mem hx
        have e : ∃ j : Int, 0 ≤ j ∧ j < l.length ∧ Int.tmod (j + m) l.length = q := by
          by_cases hqm : m ≤ q
          · exact ⟨q - m, by omega, by omega, by rw [Int.tmod_eq_emod_of_nonneg (by omega), show (q : Int) - m + m = q by omega]; exact Int.emod_eq_of_lt (by omega) (by omega)⟩
          · exact ⟨q - m + l.length, by omega, by omega, by rw [Int.tmod_eq_emod_of_nonneg (by omega), show (q : Int) - m + l.length + m = q + l.length by omega, Int.add_emod_right]; exact Int.emod_eq_of_lt (by omega) (by omega)⟩
        obtain ⟨j, h0, h1, e⟩ := e
        have := hb j h0 h1
        rw [e] at this
        unfold rd_T24 at this
        rw [List.getD_eq_getElem?_getD, List.getElem?_eq_getElem (by simpa using hq)] at this
        simpa using this

end Go.Proofs.Ytelgaglbkcacnaa.Pure
