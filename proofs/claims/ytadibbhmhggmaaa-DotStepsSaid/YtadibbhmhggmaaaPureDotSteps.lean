/- Proves the plain statement of DotSteps: from noughts on, dot by dot, each next one is had then, and none that was is lost; a dot that is not next is refused. No condition beyond the statement's own. -/
import Derived.Test.YtadibbhmhggmaaaDotB
import Derived.Test.YtadibbhmhggmaaaSayDotSteps
set_option linter.unusedSimpArgs false
set_option linter.unusedVariables false
namespace Go.Proofs.Ytadibbhmhggmaaa.Pure
open Go.RowKit Go.Proofs.Ytadibbhmhggmaaa.Open Go.Proofs.Ytadibbhmhggmaaa.B Go.Proofs.YtadibbhmhggmaaaW.PrintWords Go.Proofs.YtadibbhmhggmaaaW.PrintLast
theorem sum_set : ∀ (l : List Int) (i : Nat) (x : Int) (h : i < l.length), (l.set i x).sum = l.sum - l[i] + x
  | [], i, x, h => by simp at h
  | a :: l, 0, x, h => by simp; omega
  | a :: l, i + 1, x, h => by
    have := sum_set l i x (by simpa using h)
    simp only [List.set_cons_succ, List.sum_cons, List.getElem_cons_succ]
    omega
theorem rd_set (l : List Int) (p q : Int) (x : Int) (hp : 0 ≤ p) (hp1 : p < l.length) (hq : 0 ≤ q) : rd (l.set p.toNat x) q = if q = p then x else rd l q := by
  unfold rd
  rw [List.getD_eq_getElem?_getD, List.getD_eq_getElem?_getD, List.getElem?_set]
  by_cases h : q = p
  · subst h
    rw [if_pos rfl, if_pos rfl, if_pos (by omega)]
    rfl
  · rw [if_neg (by omega), if_neg h]
theorem rd_bound (l : List Int) (b : Int) (hb : 0 ≤ b) (h : ∀ x ∈ l, 0 ≤ x ∧ x ≤ b) (q : Int) : 0 ≤ rd l q ∧ rd l q ≤ b := by
  unfold rd
  rw [List.getD_eq_getElem?_getD]
  by_cases hq : q.toNat < l.length
  · rw [List.getElem?_eq_getElem hq]
    exact h _ (List.getElem_mem hq)
  · rw [List.getElem?_eq_none (by omega)]
    exact ⟨by simp, by simpa using hb⟩
theorem u64_small (n : Int) (h0 : 0 ≤ n) (h1 : n ≤ 1000) : IntKind.u64.wrap n = n := by simp [IntKind.wrap, IntKind.signed, IntKind.bits]; omega
theorem u64_nonneg (x : Int) : 0 ≤ IntKind.u64.wrap x := by
  simp [IntKind.wrap, IntKind.signed, IntKind.bits]
  omega
theorem mod_small (x n : Int) (h0 : 0 < n) (h1 : n ≤ 1000) : ∃ y, wrap64 (Int.tmod (IntKind.u64.wrap x) n) = y ∧ 0 ≤ y ∧ y < n := by
  have a : 0 ≤ Int.tmod (IntKind.u64.wrap x) n ∧ Int.tmod (IntKind.u64.wrap x) n < n := by
    rw [Int.tmod_eq_emod_of_nonneg (u64_nonneg x)]
    exact ⟨Int.emod_nonneg _ (by omega), Int.emod_lt_of_pos _ h0⟩
  exact ⟨_, wrap_small _ a.1 (by omega), a.1, a.2⟩
theorem sum_loop (n : Nat) (l v : List Int) (hv : v.length = n) (hn : n ≤ 5) (hs : v.sum = l.length) (hl : l.length ≤ 100) (hb : ∀ x ∈ v, 0 ≤ x ∧ x ≤ 100) :
    ∀ (d k i : Nat) (s : Int), i ≤ n → n - i = d → d + 20 ≤ k → s = (v.take i).sum → 0 ≤ s → s ≤ 100 * i → L05_DotSteps.l1 k n l v s i = some true := by
  intro d
  induction d with
  | zero =>
    intro k i s hi hd hk h hs0 hs1
    obtain ⟨k, rfl⟩ : ∃ q, k = q + 8 + 1 := ⟨k - 9, by omega⟩
    have e : s = (l.length : Int) := by rw [h, List.take_of_length_le (by omega), hs]
    rw [L05_DotSteps.l1, if_neg (by omega), if_pos e, wakes_eq]
    rfl
  | succ d ih =>
    intro k i s hi hd hk h hs0 hs1
    obtain ⟨k, rfl⟩ : ∃ q, k = q + 1 := ⟨k - 1, by omega⟩
    have hlt : i < v.length := by omega
    have hx := hb _ (List.getElem_mem hlt)
    rw [L05_DotSteps.l1, if_pos (by omega), if_pos (by omega), if_pos (by omega), rd_eq v i hlt, wrap_small (s + v[i]) (by omega) (by omega), wrap_small ((i : Int) + 1) (by omega) (by omega)]
    refine ih k (i + 1) (s + v[i]) (by omega) (by omega) (by omega) ?_ (by omega) (by omega)
    rw [List.take_succ_eq_append_getElem hlt, List.sum_append, h]
    simp
theorem step_loop (n : Nat) (l : List Int) (d0 d1 : Int) (hn0 : 1 ≤ n) (hn : n ≤ 5) (hl : l.length ≤ 100) :
    ∀ (d k i : Nat) (v : List Int), i ≤ l.length → l.length - i = d → 3 * d + 60 ≤ k → v.length = n → v.sum = i → (∀ x ∈ v, 0 ≤ x ∧ x ≤ i) →
      L05_DotSteps.l0 k n l v i d0 d1 = some true := by
  intro d
  induction d with
  | zero =>
    intro k i v hi hd hk hv hs hb
    obtain ⟨k, rfl⟩ : ∃ q, k = q + 1 := ⟨k - 1, by omega⟩
    rw [L05_DotSteps.l0, if_neg (by omega)]
    exact sum_loop n l v hv hn (by rw [hs]; omega) hl (fun x hx => by have := hb x hx; omega) n k 0 0 (by omega) (by omega) (by omega) (by simp) (by omega) (by omega)
  | succ d ih =>
    intro k i v hi hd hk hv hs hb
    obtain ⟨k, rfl⟩ : ∃ q, k = q + 12 + 1 + 1 + 1 := ⟨k - 15, by omega⟩
    obtain ⟨p, hp, hp0, hp1⟩ := mod_small (rd l i) n (by omega) (by omega)
    have hr := rd_bound v i (by omega) hb p
    have hpl : p < (v.length : Int) := by omega
    have hN : wrap64 (rd v p + 1) = rd v p + 1 := wrap_small _ (by omega) (by omega)
    have hN1 : wrap64 (rd v p + 1 - 1) = rd v p := by rw [wrap_small _ (by omega) (by omega)]; omega
    have okv : checkD v = 0 := (okD_iff v).2 ⟨by omega, by omega, fun x hx => by have := hb x hx; omega⟩
    have has0 : hasD v p (rd v p + 1) = false := by unfold hasD; simp; omega
    have nxt0 : nextD v p (rd v p + 1) = true := by unfold nextD; rw [hN1]; simp; omega
    have add0 : addD v p (rd v p + 1) = (v.set p.toNat (rd v p + 1), 0) := by
      unfold addD
      rw [if_neg (show ¬ checkD v ≠ 0 from fun h => h okv), if_pos ⟨nxt0, by omega⟩]
    let w := v.set p.toNat (rd v p + 1)
    have hw : w.length = n := by simp [w, hv]
    have rw_ : ∀ q, 0 ≤ q → rd w q = if q = p then rd v p + 1 else rd v q := fun q hq => rd_set v p q _ hp0 hpl hq
    have rwp : rd w p = rd v p + 1 := by rw [rw_ p hp0, if_pos rfl]
    have vp : rd v p = v[p.toNat]'(by omega) := by
      have := rd_eq v p.toNat (by omega)
      rw [Int.toNat_of_nonneg hp0] at this
      exact this
    have hbw : ∀ x ∈ w, 0 ≤ x ∧ x ≤ (i + 1 : Nat) := by
      intro x hx
      rcases List.mem_or_eq_of_mem_set hx with h | h
      · have := hb x h; omega
      · omega
    have okw : checkD w = 0 := (okD_iff w).2 ⟨by omega, by omega, fun x hx => by have := hbw x hx; omega⟩
    have has1 : hasD w p (rd v p + 1) = true := by unfold hasD; rw [rwp, hw]; simp; omega
    have nxt1 : nextD w p (rd v p + 1) = false := by unfold nextD; rw [rwp]; simp
    have le1 : leD v w = true := by
      unfold leD
      rw [decide_eq_true]
      refine ⟨by omega, fun j hj => ?_⟩
      rw [rw_ j (by omega)]
      split
      · rename_i h; rw [h]; omega
      · omega
    have le2 : leD w v = false := by
      unfold leD
      rw [decide_eq_false]
      intro h
      have := h.2 p.toNat (by omega)
      rw [Int.toNat_of_nonneg hp0, rwp] at this
      omega
    have add1 : addD w p (rd v p + 1) = ([], 1) := by
      unfold addD
      rw [if_neg (show ¬ checkD w ≠ 0 from fun h => h okw), if_neg (fun h => by rw [nxt1] at h; simp at h)]
    have keep : hasD v d0 d1 = true → hasD w d0 d1 = true := by
      unfold hasD
      simp only [decide_eq_true_eq]
      rintro ⟨h1, h2, h3, h4⟩
      refine ⟨h1, by omega, h3, ?_⟩
      rw [rw_ d0 h1]
      split
      · rename_i h; rw [h] at h4; omega
      · exact h4
    have J2 : L05_DotSteps.j2 (k + 12 + 1) n l v i w false d0 d1 p (rd v p + 1) = some true := by
      rw [L05_DotSteps.j2, if_neg (by simp), show k + 12 = k + 4 + 8 from rfl, add_eq, add1]
      simp only [Option.bind_some, has_eq, if_true]
      have I := ih (k + 12) (i + 1) w (by omega) (by omega) (by omega) hw (by
        show (v.set p.toNat (rd v p + 1)).sum = _
        rw [sum_set v p.toNat _ (by omega), hs, vp]
        omega) hbw
      rw [wrap_small ((i : Int) + 1) (by omega) (by omega)]
      have I' : L05_DotSteps.l0 (k + 4 + 8) n l w ((i : Int) + 1) d0 d1 = some true := I
      by_cases hh : hasD v d0 d1 = true
      · rw [if_pos hh, if_pos (keep hh)]; exact I'
      · rw [if_neg hh]; exact I'
    have J1 : L05_DotSteps.j1 (k + 12 + 1 + 1) n l v i false d0 d1 p (rd v p + 1) = some true := by
      rw [L05_DotSteps.j1, if_neg (by simp), show k + 12 + 1 = k + 5 + 8 from rfl, add_eq, add0]
      simp only [Option.bind_some, if_true]
      rw [if_pos (by show (w.length : Int) = n; omega), has_eq, le_eq (k + 5 + 8) v (v.set p.toNat (rd v p + 1)) (by omega) (by omega), le_eq (k + 5 + 8) (v.set p.toNat (rd v p + 1)) v (by simp; omega) (by simp; omega), next_eq]
      have has1' : hasD (v.set p.toNat (rd v p + 1)) p (rd v p + 1) = true := has1
      have le1' : leD v (v.set p.toNat (rd v p + 1)) = true := le1
      have le2' : leD (v.set p.toNat (rd v p + 1)) v = false := le2
      have nxt1' : nextD (v.set p.toNat (rd v p + 1)) p (rd v p + 1) = false := nxt1
      rw [has1', le1', le2', nxt1']
      simp only [Option.bind_some, if_true, Bool.false_eq_true, if_false]
      exact J2
    have hu : IntKind.u64.wrap (n : Int) = n := u64_small n (by omega) (by omega)
    rw [L05_DotSteps.l0, if_pos (by omega), if_pos (by omega), hu, if_neg (by omega), hp, if_pos hp0, if_pos hpl, hN, has_eq, has0, next_eq, nxt0]
    simp only [Option.bind_some, Bool.false_eq_true, if_false, Bool.not_true]
    exact J1
theorem DotSteps : L05_DotSteps.Pure := by
  intro n l d0 d1 _ _ _ _
  refine ⟨400, ?_⟩
  unfold L05_DotSteps.f
  by_cases h : (l.length : Int) > 100
  · rw [if_pos h]
  · rw [if_neg h]
    obtain ⟨m, hm, hm0, hm1⟩ := mod_small n 5 (by omega) (by omega)
    rw [hm, wrap_small (1 + m) (by omega) (by omega), if_pos (by omega), if_pos (by omega)]
    have e : (1 + m).toNat = ((1 + m).toNat : Int) := rfl
    have key := step_loop (1 + m).toNat l d0 d1 (by omega) (by omega) (by omega) l.length 400 0 (List.replicate (1 + m).toNat 0) (by omega) (by omega) (by omega) (by simp) (by simp) (fun x hx => by have := List.eq_of_mem_replicate hx; omega)
    rw [Int.toNat_of_nonneg (by omega)] at key
    exact key

end Go.Proofs.Ytadibbhmhggmaaa.Pure
