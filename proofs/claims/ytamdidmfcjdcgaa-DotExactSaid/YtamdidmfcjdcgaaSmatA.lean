/- What functions of raddlekeep and mat answer. No condition. -/
import Derived.Test.YtamdidmfcjdcgaaSdotI
set_option linter.unusedVariables false
set_option linter.unusedSimpArgs false
set_option maxRecDepth 100000
namespace Go.Proofs.Ytamdidmfcjdcgaa.D
open Go Go.Proofs

attribute [go_sem] List.set_cons_zero List.set_cons_succ
theorem set_gN {α : Type} [Inhabited α] {l : List α} {i : Nat} (h : i < l.length) : l.set i (gN l i) = l := by rw [gN_eq h]; simp
/-- A pointer, as a call sees it. -/
def resP (ob : OB) (n o : Nat) : Option (List V) → V
  | some r => .bp ((r.drop o).map (resV ob n))
  | none => .u
@[go_sem] theorem resP_s (ob : OB) (n o : Nat) (r : List V) : resP ob n o (some r) = .bp ((r.drop o).map (resV ob n)) := (rfl)
@[go_sem] theorem res_pt (ob : OB) (n id i o : Nat) : resV ob (n + 1) (.pt id i o) = resP ob n o ((ob id).bind fun x => x.l[i]?) := by
  simp only [resV]; cases (ob id).bind fun x => x.l[i]? <;> rfl
theorem Own.mono {n n' : Nat} {ob : OB} {v : V} {k : Nat} {rows : List (List V)} (h : Own n ob v k rows) (hn : n ≤ n') : Own n' ob v k rows := by
  rcases h with h | ⟨h1, id, cap, h2, h3, h4⟩
  · exact .inl h
  · exact .inr ⟨h1, id, cap, by omega, h3, h4⟩

theorem IntRows_ok {fl fm : Fl} (a b : List (List Int)) (ha : a.length ≤ maxLen) (hr : ∀ v ∈ a, v.length ≤ maxLen) : FnB Try.prog 34 [intRows fl a, intRows fm b] (vb (decide (a = b))) := by
  unfold maxLen at ha
  refine fnB_intro cf34 (by simp) ?_
  simp (config := {contextual := true, maxSteps := 1000000}) only [go_sem, ints, intRows, iv_c, Nat.reduceAdd, Nat.reduceBEq, Nat.reduceEqDiff, Nat.reduceLeDiff, Nat.reduceLT, reduceIte, Nat.le_refl, true_or, or_true, and_self, Int.reduceLE, Int.reduceLT, Int.reduceNeg, Int.natCast_nonneg, Int.reduceToNat, c34]
  refine ⟨?_, ?_⟩
  · intro h; simp at h ⊢
    intro e; exact absurd (congrArg List.length e) (by omega)
  · intro h; simp at h
    refine wpC_lp (fun env ob n => env 0 = intRows fl a ∧ env 1 = intRows fm b ∧ ∃ i : Nat, env 5 = vi i ∧ i ≤ a.length ∧ a.take i = b.take i) (fun env ob n => (a.length - iv (env 5)).toNat) ?_ ?_
    · simp (config := {contextual := true, maxSteps := 1000000}) only [go_sem, ints, intRows, iv_c, Nat.reduceAdd, Nat.reduceBEq, Nat.reduceEqDiff, Nat.reduceLeDiff, Nat.reduceLT, reduceIte, Nat.le_refl, true_or, or_true, and_self, Int.reduceLE, Int.reduceLT, Int.reduceNeg, Int.natCast_nonneg, Int.reduceToNat]
      simp
      exact ⟨0, by simp⟩
    · rintro env ob n ⟨h0, h1, i, h5, hi, he⟩
      simp (config := {contextual := true, maxSteps := 1000000}) only [go_sem, ints, intRows, iv_c, Nat.reduceAdd, Nat.reduceBEq, Nat.reduceEqDiff, Nat.reduceLeDiff, Nat.reduceLT, reduceIte, Nat.le_refl, true_or, or_true, and_self, Int.reduceLE, Int.reduceLT, Int.reduceNeg, Int.natCast_nonneg, Int.reduceToNat, h0, h1, h5]
      refine ⟨fun hlt => ?_, fun hge => ?_⟩
      · simp at hlt
        refine ⟨by omega, by omega, ?_⟩
        first | refine caS_i (Ints_ok _ _ (hr _ (by rw [gN_eq hlt]; exact List.getElem_mem _))) trivial ?_ | refine caD_i (Ints_ok _ _ (hr _ (by rw [gN_eq hlt]; exact List.getElem_mem _))) trivial ?_ | refine gC_i (fun _ => Ints_ok _ _ (hr _ (by rw [gN_eq hlt]; exact List.getElem_mem _))) trivial ?_ | refine gCD_i (fun _ => Ints_ok _ _ (hr _ (by rw [gN_eq hlt]; exact List.getElem_mem _))) trivial ?_
        simp (config := {contextual := true, maxSteps := 1000000}) only [go_sem, ints, intRows, iv_c, Nat.reduceAdd, Nat.reduceBEq, Nat.reduceEqDiff, Nat.reduceLeDiff, Nat.reduceLT, reduceIte, Nat.le_refl, true_or, or_true, and_self, Int.reduceLE, Int.reduceLT, Int.reduceNeg, Int.natCast_nonneg, Int.reduceToNat, h0, h1, h5]
        simp
        refine ⟨fun hne e => hne (by rw [e]), fun heq => ⟨⟨i + 1, ?_, by omega, take_succ_eq (by omega) (by omega) he heq⟩, ?_⟩⟩
        · rw [w64 (by omega)]; simp
        · rw [w64 (by omega)]; omega
      · simp at hge ⊢
        rw [List.take_of_length_le (by omega), List.take_of_length_le (by omega)] at he; exact he

/-- Whether a matrix may be. -/
def matE (m : List (List Int)) : Int := if 1 ≤ m.length ∧ m.length ≤ 5 ∧ ∀ v ∈ m, v.length = m.length then (if ∀ v ∈ m, vecE v = 0 then 0 else 1) else 2

theorem len_ok (v : List Int) (n : Int) : FnB Try.prog 57 [ints .b v, .bp [vi n]] (vb (!decide ((v.length : Int) = n))) := by
  refine fnB_intro cf57 (by simp) ?_
  simp (config := {contextual := true, maxSteps := 1000000}) only [go_sem, ints, intRows, iv_c, Nat.reduceAdd, Nat.reduceBEq, Nat.reduceEqDiff, Nat.reduceLeDiff, Nat.reduceLT, reduceIte, Nat.le_refl, true_or, or_true, and_self, Int.reduceLE, Int.reduceLT, Int.reduceNeg, Int.natCast_nonneg, Int.reduceToNat, c57]
theorem vec_ok (v : List Int) : FnB Try.prog 58 [ints .b v] (vb (!decide (vecE v = 0))) := by
  refine fnB_intro cf58 (by simp) ?_
  simp (config := {contextual := true, maxSteps := 1000000}) only [go_sem, ints, intRows, iv_c, Nat.reduceAdd, Nat.reduceBEq, Nat.reduceEqDiff, Nat.reduceLeDiff, Nat.reduceLT, reduceIte, Nat.le_refl, true_or, or_true, and_self, Int.reduceLE, Int.reduceLT, Int.reduceNeg, Int.natCast_nonneg, Int.reduceToNat, c58]
  refine caS_i (Check_ok v) trivial ?_
  simp (config := {contextual := true, maxSteps := 1000000}) only [go_sem, ints, intRows, iv_c, Nat.reduceAdd, Nat.reduceBEq, Nat.reduceEqDiff, Nat.reduceLeDiff, Nat.reduceLT, reduceIte, Nat.le_refl, true_or, or_true, and_self, Int.reduceLE, Int.reduceLT, Int.reduceNeg, Int.natCast_nonneg, Int.reduceToNat]

theorem MCheck_ok {fl : Fl} (m : List (List Int)) (hm : m.length ≤ maxLen) : FnB Try.prog 39 [intRows fl m] (vi (matE m)) := by
  refine fnB_intro cf39 (by simp) ?_
  simp (config := {contextual := true, maxSteps := 1000000}) only [go_sem, ints, intRows, iv_c, Nat.reduceAdd, Nat.reduceBEq, Nat.reduceEqDiff, Nat.reduceLeDiff, Nat.reduceLT, reduceIte, Nat.le_refl, true_or, or_true, and_self, Int.reduceLE, Int.reduceLT, Int.reduceNeg, Int.natCast_nonneg, Int.reduceToNat, c39]
  first | refine caS_i (ContainsIntRows_ok m _ [.bp [vi m.length]] _ hm (fun _ => rfl) (fun _ => rfl) (fun v _ => len_ok v m.length)) trivial ?_ | refine caD_i (ContainsIntRows_ok m _ [.bp [vi m.length]] _ hm (fun _ => rfl) (fun _ => rfl) (fun v _ => len_ok v m.length)) trivial ?_ | refine gC_i (fun _ => ContainsIntRows_ok m _ [.bp [vi m.length]] _ hm (fun _ => rfl) (fun _ => rfl) (fun v _ => len_ok v m.length)) trivial ?_ | refine gCD_i (fun _ => ContainsIntRows_ok m _ [.bp [vi m.length]] _ hm (fun _ => rfl) (fun _ => rfl) (fun v _ => len_ok v m.length)) trivial ?_
  simp (config := {contextual := true, maxSteps := 1000000}) only [go_sem, ints, intRows, iv_c, Nat.reduceAdd, Nat.reduceBEq, Nat.reduceEqDiff, Nat.reduceLeDiff, Nat.reduceLT, reduceIte, Nat.le_refl, true_or, or_true, and_self, Int.reduceLE, Int.reduceLT, Int.reduceNeg, Int.natCast_nonneg, Int.reduceToNat]
  refine ⟨fun h => ?_, fun h => ?_⟩
  · rw [matE, if_neg]; simp at h; rintro ⟨h1, h2, h3⟩
    rcases h with h | ⟨v, hv, h⟩
    · omega
    · exact h (by rw [h3 v hv])
  have h1 : 1 ≤ m.length ∧ m.length ≤ 5 ∧ ∀ v ∈ m, v.length = m.length := by
    simp at h; obtain ⟨⟨h1, h2⟩, h3⟩ := h
    exact ⟨by omega, by omega, fun v hv => by have := h3 v hv; omega⟩
  first | refine caS_i (ContainsIntRows_ok m _ [] _ hm (fun _ => rfl) (fun _ => rfl) (fun v _ => vec_ok v)) trivial ?_ | refine caD_i (ContainsIntRows_ok m _ [] _ hm (fun _ => rfl) (fun _ => rfl) (fun v _ => vec_ok v)) trivial ?_ | refine gC_i (fun _ => ContainsIntRows_ok m _ [] _ hm (fun _ => rfl) (fun _ => rfl) (fun v _ => vec_ok v)) trivial ?_ | refine gCD_i (fun _ => ContainsIntRows_ok m _ [] _ hm (fun _ => rfl) (fun _ => rfl) (fun v _ => vec_ok v)) trivial ?_
  simp (config := {contextual := true, maxSteps := 1000000}) only [go_sem, ints, intRows, iv_c, Nat.reduceAdd, Nat.reduceBEq, Nat.reduceEqDiff, Nat.reduceLeDiff, Nat.reduceLT, reduceIte, Nat.le_refl, true_or, or_true, and_self, Int.reduceLE, Int.reduceLT, Int.reduceNeg, Int.natCast_nonneg, Int.reduceToNat]
  refine ⟨fun h => ?_, fun h => ?_⟩ <;> simp at h
  · rw [matE, if_pos h1, if_neg]; obtain ⟨v, hv, h⟩ := h; exact fun h2 => h (h2 v hv)
  · rw [matE, if_pos h1, if_pos h]

/-- A matrix of noughts. -/
def newM (n : Nat) : List (List Int) := List.replicate n (List.replicate n 0)
def newV (n : Int) : List (List Int) × Int := if 1 ≤ n ∧ n ≤ 5 then (newM n.toNat, 0) else ([], 1)
theorem New_ok (n : Int) : FnB Try.prog 36 [vi n] (.tp [intRows .o (newV n).1, vi (newV n).2]) := by
  refine fnB_intro cf36 (by simp) ?_
  simp (config := {contextual := true, maxSteps := 1000000}) only [go_sem, ints, intRows, iv_c, Nat.reduceAdd, Nat.reduceBEq, Nat.reduceEqDiff, Nat.reduceLeDiff, Nat.reduceLT, reduceIte, Nat.le_refl, true_or, or_true, and_self, Int.reduceLE, Int.reduceLT, Int.reduceNeg, Int.natCast_nonneg, Int.reduceToNat, c36]
  refine ⟨fun h => ?_, fun h => ?_⟩ <;> simp at h
  · rw [newV, if_neg (by omega)]; rfl
  have hn : newV n = (newM n.toNat, 0) := if_pos ⟨by omega, by omega⟩
  rw [hn]
  refine wpC_lp (fun env ob n' => env 0 = vi n ∧ env 11 = vi n ∧ ∃ i : Nat, env 12 = vi i ∧ (i : Int) ≤ n ∧ Own n' ob (env 4) 1 ((List.replicate i (List.replicate n.toNat 0)).map fun v => [ints .b v])) (fun env ob _ => (n - iv (env 12)).toNat) ?_ ?_
  · simp (config := {contextual := true, maxSteps := 1000000}) only [go_sem, ints, intRows, iv_c, Nat.reduceAdd, Nat.reduceBEq, Nat.reduceEqDiff, Nat.reduceLeDiff, Nat.reduceLT, reduceIte, Nat.le_refl, true_or, or_true, and_self, Int.reduceLE, Int.reduceLT, Int.reduceNeg, Int.natCast_nonneg, Int.reduceToNat]
    exact ⟨0, rfl, by omega, Own.nil⟩
  rintro env ob n' ⟨h0, h11, i, h12, hi, ho⟩
  simp (config := {contextual := true, maxSteps := 1000000}) only [go_sem, ints, intRows, iv_c, Nat.reduceAdd, Nat.reduceBEq, Nat.reduceEqDiff, Nat.reduceLeDiff, Nat.reduceLT, reduceIte, Nat.le_refl, true_or, or_true, and_self, Int.reduceLE, Int.reduceLT, Int.reduceNeg, Int.natCast_nonneg, Int.reduceToNat, h0, h11, h12]
  refine ⟨fun hlt => ?_, fun hge => ?_⟩
  · simp at hlt
    refine ⟨⟨by omega, by simp [maxLen]; omega⟩, nxS_app ho (by omega) rfl rfl (by simp [maxLen]; omega) fun v' ob' ho' _ => ?_⟩
    simp (config := {contextual := true, maxSteps := 1000000}) only [go_sem, ints, intRows, iv_c, Nat.reduceAdd, Nat.reduceBEq, Nat.reduceEqDiff, Nat.reduceLeDiff, Nat.reduceLT, reduceIte, Nat.le_refl, true_or, or_true, and_self, Int.reduceLE, Int.reduceLT, Int.reduceNeg, Int.natCast_nonneg, Int.reduceToNat, h0, h11, h12]
    refine ⟨⟨i + 1, ?_, by omega, ?_⟩, ?_⟩
    · rw [w64 (by omega)]; simp
    · rw [List.replicate_succ', List.map_append]; exact ho'.mono (by omega)
    · rw [w64 (by omega)]; omega
  · simp at hge
    have hi : i = n.toNat := by omega
    rw [out_own ho (fun ob' => gIntRows ob' _) _ (fun _ => rfl), hi]; rfl

theorem Twin_ok {fl : Fl} (m : List (List Int)) (hm : m.length ≤ maxLen) (hr : ∀ v ∈ m, v.length ≤ maxLen) : FnB Try.prog 55 [intRows fl m] (intRows .o m) := by
  unfold maxLen at hm
  refine fnB_intro cf55 (by simp) ?_
  simp (config := {contextual := true, maxSteps := 1000000}) only [go_sem, ints, intRows, iv_c, Nat.reduceAdd, Nat.reduceBEq, Nat.reduceEqDiff, Nat.reduceLeDiff, Nat.reduceLT, reduceIte, Nat.le_refl, true_or, or_true, and_self, Int.reduceLE, Int.reduceLT, Int.reduceNeg, Int.natCast_nonneg, Int.reduceToNat, c55]
  first | refine caS_i (CloneIntRows_ok m (by unfold maxLen; omega) _) (fun ch hch => by obtain ⟨_, _, rfl⟩ := List.mem_map.1 hch; rfl) ?_ | refine caD_i (CloneIntRows_ok m (by unfold maxLen; omega) _) (fun ch hch => by obtain ⟨_, _, rfl⟩ := List.mem_map.1 hch; rfl) ?_ | refine gC_i (fun _ => CloneIntRows_ok m (by unfold maxLen; omega) _) (fun ch hch => by obtain ⟨_, _, rfl⟩ := List.mem_map.1 hch; rfl) ?_ | refine gCD_i (fun _ => CloneIntRows_ok m (by unfold maxLen; omega) _) (fun ch hch => by obtain ⟨_, _, rfl⟩ := List.mem_map.1 hch; rfl) ?_
  by_cases h : m = []
  · subst h
    simp (config := {contextual := true, maxSteps := 1000000}) only [go_sem, ints, intRows, iv_c, Nat.reduceAdd, Nat.reduceBEq, Nat.reduceEqDiff, Nat.reduceLeDiff, Nat.reduceLT, reduceIte, Nat.le_refl, true_or, or_true, and_self, Int.reduceLE, Int.reduceLT, Int.reduceNeg, Int.natCast_nonneg, Int.reduceToNat, List.map_nil, List.length_nil]
    refine wpC_lp (fun env ob n' => env 3 = .z ∧ env 8 = vi 0 ∧ env 9 = vi 0) (fun env ob _ => 0) ?_ ?_
    · simp (config := {contextual := true, maxSteps := 1000000}) only [go_sem, ints, intRows, iv_c, Nat.reduceAdd, Nat.reduceBEq, Nat.reduceEqDiff, Nat.reduceLeDiff, Nat.reduceLT, reduceIte, Nat.le_refl, true_or, or_true, and_self, Int.reduceLE, Int.reduceLT, Int.reduceNeg, Int.natCast_nonneg, Int.reduceToNat]
    rintro env ob n' ⟨h3, h8, h9⟩
    simp (config := {contextual := true, maxSteps := 1000000}) only [go_sem, ints, intRows, iv_c, Nat.reduceAdd, Nat.reduceBEq, Nat.reduceEqDiff, Nat.reduceLeDiff, Nat.reduceLT, reduceIte, Nat.le_refl, true_or, or_true, and_self, Int.reduceLE, Int.reduceLT, Int.reduceNeg, Int.natCast_nonneg, Int.reduceToNat, h3, h8, h9]
  have hlen : (m.length = 0) = False := by simpa using h
  simp (config := {contextual := true, maxSteps := 1000000}) only [go_sem, ints, intRows, iv_c, Nat.reduceAdd, Nat.reduceBEq, Nat.reduceEqDiff, Nat.reduceLeDiff, Nat.reduceLT, reduceIte, Nat.le_refl, true_or, or_true, and_self, Int.reduceLE, Int.reduceLT, Int.reduceNeg, Int.natCast_nonneg, Int.reduceToNat, hlen]
  refine wpC_lp (fun env ob n' => env 3 = .sl 2 0 m.length ∧ env 8 = vi m.length ∧ ob 2 = some ⟨1, m.map fun v => [ints .b v], none⟩ ∧ ∃ i : Nat, env 9 = vi i ∧ i ≤ m.length) (fun env ob _ => (m.length - iv (env 9)).toNat) ?_ ?_
  · simp (config := {contextual := true, maxSteps := 1000000}) only [go_sem, ints, intRows, iv_c, Nat.reduceAdd, Nat.reduceBEq, Nat.reduceEqDiff, Nat.reduceLeDiff, Nat.reduceLT, reduceIte, Nat.le_refl, true_or, or_true, and_self, Int.reduceLE, Int.reduceLT, Int.reduceNeg, Int.natCast_nonneg, Int.reduceToNat]
    exact ⟨0, rfl, by omega⟩
  rintro env ob n' ⟨h3, h8, hob, i, h9, hi⟩
  simp (config := {contextual := true, maxSteps := 1000000}) only [go_sem, ints, intRows, iv_c, Nat.reduceAdd, Nat.reduceBEq, Nat.reduceEqDiff, Nat.reduceLeDiff, Nat.reduceLT, reduceIte, Nat.le_refl, true_or, or_true, and_self, Int.reduceLE, Int.reduceLT, Int.reduceNeg, Int.natCast_nonneg, Int.reduceToNat, h3, h8, hob, h9]
  refine ⟨fun hlt => ?_, fun hge => ?_⟩
  · simp at hlt
    refine ⟨by omega, hlt, ?_⟩
    first | refine caS_i (CloneInts_ok (gN m i) (hr _ (by rw [gN_eq hlt]; exact List.getElem_mem _)) _) trivial ?_ | refine caD_i (CloneInts_ok (gN m i) (hr _ (by rw [gN_eq hlt]; exact List.getElem_mem _)) _) trivial ?_ | refine gC_i (fun _ => CloneInts_ok (gN m i) (hr _ (by rw [gN_eq hlt]; exact List.getElem_mem _)) _) trivial ?_ | refine gCD_i (fun _ => CloneInts_ok (gN m i) (hr _ (by rw [gN_eq hlt]; exact List.getElem_mem _)) _) trivial ?_
    simp (config := {contextual := true, maxSteps := 1000000}) only [go_sem, ints, intRows, iv_c, Nat.reduceAdd, Nat.reduceBEq, Nat.reduceEqDiff, Nat.reduceLeDiff, Nat.reduceLT, reduceIte, Nat.le_refl, true_or, or_true, and_self, Int.reduceLE, Int.reduceLT, Int.reduceNeg, Int.natCast_nonneg, Int.reduceToNat, h3, h8, hob, h9]
    rw [set_gN hlt]
    refine ⟨by omega, hlt, ⟨rfl, i + 1, ?_, by omega⟩, ?_⟩
    · rw [w64 (by omega)]; simp
    · rw [w64 (by omega)]; omega
  · simp at hge
    rw [out_at _ (fun _ _ => by simp [gV, ints]) hob rfl (by simpa using h) _ (fun _ => rfl)]; rfl

def vecB (v : List Int) (n : Int) : Bool := decide ((v.length : Int) = n) && decide (vecE v = 0)
theorem vector_ok {fl : Fl} (v : List Int) (n : Int) : FnB Try.prog 54 [ints fl v, vi n] (vb (vecB v n)) := by
  refine fnB_intro cf54 (by simp) ?_
  simp (config := {contextual := true, maxSteps := 1000000}) only [go_sem, ints, intRows, iv_c, Nat.reduceAdd, Nat.reduceBEq, Nat.reduceEqDiff, Nat.reduceLeDiff, Nat.reduceLT, reduceIte, Nat.le_refl, true_or, or_true, and_self, Int.reduceLE, Int.reduceLT, Int.reduceNeg, Int.natCast_nonneg, Int.reduceToNat, c54]
  first | refine caS_i (Check_ok v) trivial ?_ | refine caD_i (Check_ok v) trivial ?_ | refine gC_i (fun _ => Check_ok v) trivial ?_ | refine gCD_i (fun _ => Check_ok v) trivial ?_
  simp (config := {contextual := true, maxSteps := 1000000}) only [go_sem, ints, intRows, iv_c, Nat.reduceAdd, Nat.reduceBEq, Nat.reduceEqDiff, Nat.reduceLeDiff, Nat.reduceLT, reduceIte, Nat.le_refl, true_or, or_true, and_self, Int.reduceLE, Int.reduceLT, Int.reduceNeg, Int.natCast_nonneg, Int.reduceToNat, vecB]

/-- What a matrix becomes. -/
def learnOk (m : List (List Int)) (have_ : List Int) (p : Int) (safe : List Int) : Bool := vecB have_ m.length && vecB safe m.length && (decide (0 ≤ p) && decide (p < m.length))
def learnV (m : List (List Int)) (have_ : List Int) (p : Int) (safe : List Int) : List (List Int) × Bool × Int :=
  if matE m ≠ 0 then ([], false, matE m) else if learnOk m have_ p safe = false then ([], false, 1)
  else if gN have_ p.toNat < gN safe p.toNat then (m, false, 0) else (m.set p.toNat (List.zipWith max (gN m p.toNat) safe), true, 0)
theorem matE_at {m : List (List Int)} (h : matE m = 0) : (1 ≤ m.length ∧ m.length ≤ 5) ∧ ∀ v ∈ m, v.length = m.length ∧ vecE v = 0 := by
  unfold matE at h
  split at h
  · rename_i h1; split at h
    · rename_i h2; exact ⟨⟨h1.1, h1.2.1⟩, fun v hv => ⟨h1.2.2 v hv, h2 v hv⟩⟩
    · cases h
  · cases h
theorem learn_n (m : List (List Int)) (have_ : List Int) (p : Int) (safe : List Int) : (((if vecB have_ m.length = true then !vecB safe m.length else true) || decide (p < 0)) || decide ((m.length : Int) ≤ p)) = !learnOk m have_ p safe := by
  have e1 : decide (p < 0) = !decide (0 ≤ p) := by rw [Bool.eq_iff_iff]; simp
  have e2 : decide ((m.length : Int) ≤ p) = !decide (p < m.length) := by rw [Bool.eq_iff_iff]; simp
  rw [learnOk, e1, e2]
  cases vecB have_ m.length <;> cases vecB safe m.length <;> cases decide (0 ≤ p) <;> cases decide (p < m.length) <;> rfl
theorem vecB_t {v : List Int} {n : Int} (h : vecB v n = true) : (v.length : Int) = n ∧ vecE v = 0 := by simpa [vecB] using h
theorem learn_y {m : List (List Int)} {have_ : List Int} {p : Int} {safe : List Int} (h : learnOk m have_ p safe = true) : (have_.length = m.length ∧ vecE have_ = 0) ∧ (safe.length = m.length ∧ vecE safe = 0) ∧ (0 ≤ p ∧ p < m.length) := by
  simp only [learnOk, Bool.and_eq_true, decide_eq_true_iff] at h
  obtain ⟨⟨h1, h2⟩, h3⟩ := h
  have h1 := vecB_t h1; have h2 := vecB_t h2
  exact ⟨⟨by omega, h1.2⟩, ⟨by omega, h2.2⟩, h3⟩
theorem Learn_ok {fl fm fn : Fl} (m : List (List Int)) (have_ : List Int) (p : Int) (safe : List Int) (hm : m.length ≤ maxLen) :
    FnB Try.prog 37 [intRows fl m, ints fm have_, vi p, ints fn safe] (.tp [intRows .o (learnV m have_ p safe).1, vb (learnV m have_ p safe).2.1, vi (learnV m have_ p safe).2.2]) := by
  refine fnB_intro cf37 (by simp) ?_
  simp (config := {contextual := true, maxSteps := 1000000}) only [go_sem, ints, intRows, iv_c, Nat.reduceAdd, Nat.reduceBEq, Nat.reduceEqDiff, Nat.reduceLeDiff, Nat.reduceLT, reduceIte, Nat.le_refl, true_or, or_true, and_self, Int.reduceLE, Int.reduceLT, Int.reduceNeg, Int.natCast_nonneg, Int.reduceToNat, c37]
  first | refine caS_i (MCheck_ok m hm) trivial ?_ | refine caD_i (MCheck_ok m hm) trivial ?_ | refine gC_i (fun _ => MCheck_ok m hm) trivial ?_ | refine gCD_i (fun _ => MCheck_ok m hm) trivial ?_
  by_cases h : matE m = 0
  rotate_left
  · have e : learnV m have_ p safe = ([], false, matE m) := if_pos h
    have h' : decide (matE m = 0) = false := by simpa using h
    rw [e]
    simp (config := {contextual := true, maxSteps := 1000000}) only [go_sem, ints, intRows, iv_c, Nat.reduceAdd, Nat.reduceBEq, Nat.reduceEqDiff, Nat.reduceLeDiff, Nat.reduceLT, reduceIte, Nat.le_refl, true_or, or_true, and_self, Int.reduceLE, Int.reduceLT, Int.reduceNeg, Int.natCast_nonneg, Int.reduceToNat, h']
  simp (config := {contextual := true, maxSteps := 1000000}) only [go_sem, ints, intRows, iv_c, Nat.reduceAdd, Nat.reduceBEq, Nat.reduceEqDiff, Nat.reduceLeDiff, Nat.reduceLT, reduceIte, Nat.le_refl, true_or, or_true, and_self, Int.reduceLE, Int.reduceLT, Int.reduceNeg, Int.natCast_nonneg, Int.reduceToNat, h]
  first | refine caS_i (vector_ok have_ m.length) trivial ?_ | refine caD_i (vector_ok have_ m.length) trivial ?_ | refine gC_i (fun _ => vector_ok have_ m.length) trivial ?_ | refine gCD_i (fun _ => vector_ok have_ m.length) trivial ?_
  simp (config := {contextual := true, maxSteps := 1000000}) only [go_sem, ints, intRows, iv_c, Nat.reduceAdd, Nat.reduceBEq, Nat.reduceEqDiff, Nat.reduceLeDiff, Nat.reduceLT, reduceIte, Nat.le_refl, true_or, or_true, and_self, Int.reduceLE, Int.reduceLT, Int.reduceNeg, Int.natCast_nonneg, Int.reduceToNat]
  first | refine caS_i (vector_ok safe m.length) trivial ?_ | refine caD_i (vector_ok safe m.length) trivial ?_ | refine gC_i (fun _ => vector_ok safe m.length) trivial ?_ | refine gCD_i (fun _ => vector_ok safe m.length) trivial ?_
  simp (config := {contextual := true, maxSteps := 1000000}) only [go_sem, ints, intRows, iv_c, Nat.reduceAdd, Nat.reduceBEq, Nat.reduceEqDiff, Nat.reduceLeDiff, Nat.reduceLT, reduceIte, Nat.le_refl, true_or, or_true, and_self, Int.reduceLE, Int.reduceLT, Int.reduceNeg, Int.natCast_nonneg, Int.reduceToNat]
  rw [learn_n]
  refine ⟨fun h2 => ?_, fun h2 => ?_⟩ <;> simp only [Bool.not_eq_true', Bool.not_eq_false', Bool.not_eq_eq_eq_not, Bool.not_true, Bool.not_false] at h2
  · have e : learnV m have_ p safe = ([], false, 1) := by rw [learnV, if_neg (by simpa using h), if_pos h2]
    rw [e]; rfl
  have hv := matE_at h
  obtain ⟨⟨a1, a2⟩, ⟨b1, b2⟩, c1, c2⟩ := learn_y h2
  have hlen : (m.length = 0) = False := by simp; intro e; rw [e] at hv; simp at hv
  first | refine caS_i (Twin_ok m hm (fun v hh => by rw [(hv.2 v hh).1]; exact hm)) (fun ch hch => by obtain ⟨_, _, rfl⟩ := List.mem_map.1 hch; rfl) ?_ | refine caD_i (Twin_ok m hm (fun v hh => by rw [(hv.2 v hh).1]; exact hm)) (fun ch hch => by obtain ⟨_, _, rfl⟩ := List.mem_map.1 hch; rfl) ?_ | refine gC_i (fun _ => Twin_ok m hm (fun v hh => by rw [(hv.2 v hh).1]; exact hm)) (fun ch hch => by obtain ⟨_, _, rfl⟩ := List.mem_map.1 hch; rfl) ?_ | refine gCD_i (fun _ => Twin_ok m hm (fun v hh => by rw [(hv.2 v hh).1]; exact hm)) (fun ch hch => by obtain ⟨_, _, rfl⟩ := List.mem_map.1 hch; rfl) ?_
  simp (config := {contextual := true, maxSteps := 1000000}) only [go_sem, ints, intRows, iv_c, Nat.reduceAdd, Nat.reduceBEq, Nat.reduceEqDiff, Nat.reduceLeDiff, Nat.reduceLT, reduceIte, Nat.le_refl, true_or, or_true, and_self, Int.reduceLE, Int.reduceLT, Int.reduceNeg, Int.natCast_nonneg, Int.reduceToNat, hlen]
  have hp : p.toNat < m.length := by omega
  by_cases hlt : gN have_ p.toNat < gN safe p.toNat
  · have hlt' : decide (gN have_ p.toNat < gN safe p.toNat) = true := by simpa using hlt
    have e : learnV m have_ p safe = (m, false, 0) := by rw [learnV, if_neg (by simpa using h), if_neg (by simp [h2]), if_pos hlt]
    rw [e]
    simp (config := {contextual := true, maxSteps := 1000000}) only [go_sem, ints, intRows, iv_c, Nat.reduceAdd, Nat.reduceBEq, Nat.reduceEqDiff, Nat.reduceLeDiff, Nat.reduceLT, reduceIte, Nat.le_refl, true_or, or_true, and_self, Int.reduceLE, Int.reduceLT, Int.reduceNeg, Int.natCast_nonneg, Int.reduceToNat, hlt']
    refine ⟨by omega, by omega, ?_⟩
    rw [out_at _ (fun _ _ => by simp [gV]) (updO_s _ _ _) rfl (by omega) _ (fun _ => rfl)]; rfl
  have hlt' : decide (gN have_ p.toNat < gN safe p.toNat) = false := by simpa using hlt
  have e : learnV m have_ p safe = (m.set p.toNat (List.zipWith max (gN m p.toNat) safe), true, 0) := by rw [learnV, if_neg (by simpa using h), if_neg (by simp [h2]), if_neg hlt]
  rw [e]
  simp (config := {contextual := true, maxSteps := 1000000}) only [go_sem, ints, intRows, iv_c, Nat.reduceAdd, Nat.reduceBEq, Nat.reduceEqDiff, Nat.reduceLeDiff, Nat.reduceLT, reduceIte, Nat.le_refl, true_or, or_true, and_self, Int.reduceLE, Int.reduceLT, Int.reduceNeg, Int.natCast_nonneg, Int.reduceToNat, hlt']
  refine ⟨by omega, by omega, by omega, ?_⟩
  have hr := hv.2 (gN m p.toNat) (by rw [gN_eq hp]; exact List.getElem_mem _)
  have hmg := merge_yes hr.2 b2 (by omega)
  first | refine caS_i (Merge_ok (gN m p.toNat) safe) trivial ?_ | refine caD_i (Merge_ok (gN m p.toNat) safe) trivial ?_ | refine gC_i (fun _ => Merge_ok (gN m p.toNat) safe) trivial ?_ | refine gCD_i (fun _ => Merge_ok (gN m p.toNat) safe) trivial ?_
  simp (config := {contextual := true, maxSteps := 1000000}) only [go_sem, ints, intRows, iv_c, Nat.reduceAdd, Nat.reduceBEq, Nat.reduceEqDiff, Nat.reduceLeDiff, Nat.reduceLT, reduceIte, Nat.le_refl, true_or, or_true, and_self, Int.reduceLE, Int.reduceLT, Int.reduceNeg, Int.natCast_nonneg, Int.reduceToNat, hmg]
  refine ⟨by omega, hp, ?_⟩
  rw [out_at _ (fun _ _ => by simp [gV]) (updO_s _ _ _) (by simp) (by simp; intro e; rw [e] at hp; simp at hp) _ (fun _ => rfl)]; rfl

def frontV (m : List (List Int)) : List Int × Int := if matE m ≠ 0 then ([], matE m) else leastV m
theorem Frontier_ok {fl : Fl} (m : List (List Int)) (hm : m.length ≤ maxLen) : FnB Try.prog 38 [intRows fl m] (.tp [ints .o (frontV m).1, vi (frontV m).2]) := by
  refine fnB_intro cf38 (by simp) ?_
  simp (config := {contextual := true, maxSteps := 1000000}) only [go_sem, ints, intRows, iv_c, Nat.reduceAdd, Nat.reduceBEq, Nat.reduceEqDiff, Nat.reduceLeDiff, Nat.reduceLT, reduceIte, Nat.le_refl, true_or, or_true, and_self, Int.reduceLE, Int.reduceLT, Int.reduceNeg, Int.natCast_nonneg, Int.reduceToNat, c38]
  first | refine caS_i (MCheck_ok m hm) trivial ?_ | refine caD_i (MCheck_ok m hm) trivial ?_ | refine gC_i (fun _ => MCheck_ok m hm) trivial ?_ | refine gCD_i (fun _ => MCheck_ok m hm) trivial ?_
  by_cases h : matE m = 0
  · have e : frontV m = leastV m := if_neg (by simpa using h)
    rw [e]
    simp (config := {contextual := true, maxSteps := 1000000}) only [go_sem, ints, intRows, iv_c, Nat.reduceAdd, Nat.reduceBEq, Nat.reduceEqDiff, Nat.reduceLeDiff, Nat.reduceLT, reduceIte, Nat.le_refl, true_or, or_true, and_self, Int.reduceLE, Int.reduceLT, Int.reduceNeg, Int.natCast_nonneg, Int.reduceToNat, h]
    first | refine caS_i (Least_ok m hm) (fun s hs ch hch => by simp [ints, intRows] at hs; subst hs; obtain ⟨_, _, rfl⟩ := List.mem_map.1 hch; rfl) ?_ | refine caD_i (Least_ok m hm) (fun s hs ch hch => by simp [ints, intRows] at hs; subst hs; obtain ⟨_, _, rfl⟩ := List.mem_map.1 hch; rfl) ?_ | refine gC_i (fun _ => Least_ok m hm) (fun s hs ch hch => by simp [ints, intRows] at hs; subst hs; obtain ⟨_, _, rfl⟩ := List.mem_map.1 hch; rfl) ?_ | refine gCD_i (fun _ => Least_ok m hm) (fun s hs ch hch => by simp [ints, intRows] at hs; subst hs; obtain ⟨_, _, rfl⟩ := List.mem_map.1 hch; rfl) ?_
    by_cases h2 : (leastV m).1 = []
    · simp (config := {contextual := true, maxSteps := 1000000}) only [go_sem, ints, intRows, iv_c, Nat.reduceAdd, Nat.reduceBEq, Nat.reduceEqDiff, Nat.reduceLeDiff, Nat.reduceLT, reduceIte, Nat.le_refl, true_or, or_true, and_self, Int.reduceLE, Int.reduceLT, Int.reduceNeg, Int.natCast_nonneg, Int.reduceToNat, h2, List.map_nil]
    · have hlen : ((leastV m).1.length = 0) = False := by simpa using h2
      simp (config := {contextual := true, maxSteps := 1000000}) only [go_sem, ints, intRows, iv_c, Nat.reduceAdd, Nat.reduceBEq, Nat.reduceEqDiff, Nat.reduceLeDiff, Nat.reduceLT, reduceIte, Nat.le_refl, true_or, or_true, and_self, Int.reduceLE, Int.reduceLT, Int.reduceNeg, Int.natCast_nonneg, Int.reduceToNat, hlen]
      rw [out_at _ (fun _ _ => rfl) (updO_s _ _ _) rfl (by simpa using h2) _ (fun _ => rfl)]; rfl
  · have e : frontV m = ([], matE m) := if_pos h
    have h' : decide (matE m = 0) = false := by simpa using h
    rw [e]
    simp (config := {contextual := true, maxSteps := 1000000}) only [go_sem, ints, intRows, iv_c, Nat.reduceAdd, Nat.reduceBEq, Nat.reduceEqDiff, Nat.reduceLeDiff, Nat.reduceLT, reduceIte, Nat.le_refl, true_or, or_true, and_self, Int.reduceLE, Int.reduceLT, Int.reduceNeg, Int.natCast_nonneg, Int.reduceToNat, h']
end Go.Proofs.Ytamdidmfcjdcgaa.D
