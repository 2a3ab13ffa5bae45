/- TabSeen, packed. No condition beyond the statement's own. -/
import Derived.Test.YtcmonjmoapjpkaaGreatMTabSeend
import Derived.Test.YtcmonjmoapjpkaaGreatRows
import Derived.WalkKit
import Derived.ProofKit
import Derived.OpenShut
import Derived.ShutString
import Derived.ChangeOld
import Derived.Below
import Derived.SizedLaws
section
set_option linter.unusedVariables false
set_option linter.unusedSimpArgs false
set_option linter.constructorNameAsVariable false
set_option maxRecDepth 100000

/- A table by operations is right: plain law. No condition. -/
namespace Go.Proofs.YtcmonjmoapjpkaaGreat.D
open Go Go.Proofs

theorem gN_mem_iff {α : Type} [Inhabited α] {l : List α} {a : α} : a ∈ l ↔ ∃ i, i < l.length ∧ gN l i = a := by
  constructor
  · intro h
    obtain ⟨i, hi, rfl⟩ := List.mem_iff_getElem.1 h
    exact ⟨i, hi, gN_eq hi⟩
  · rintro ⟨i, hi, rfl⟩; exact gN_mem hi
theorem adj_pw {α : Type} [Inhabited α] {lt : α → α → Bool} (ht : ∀ a b c, lt a b = true → lt b c = true → lt a c = true) {l : List α} : (∀ i, i < l.length → 0 < i → lt (gN l (i - 1)) (gN l i) = true) ↔ l.Pairwise (fun a b => lt a b = true) := by
  rw [List.pairwise_iff_getElem]
  constructor
  · intro h i j hi hj hij
    have key : ∀ k, i + k + 1 < l.length → lt (gN l i) (gN l (i + k + 1)) = true := by
      intro k
      induction k with
      | zero => intro hk; have := h (i + 1) hk (by omega); simpa using this
      | succ k ih =>
        intro hk
        have h1 := ih (by omega)
        have h2 := h (i + (k + 1) + 1) hk (by omega)
        have e : i + (k + 1) + 1 - 1 = i + k + 1 := by omega
        rw [e] at h2
        exact ht _ _ _ h1 h2
    have := key (j - i - 1) (by omega)
    have e : i + (j - i - 1) + 1 = j := by omega
    rw [e, gN_eq hi, gN_eq hj] at this
    exact this
  · intro h i hi h0
    rw [gN_eq hi, gN_eq (by omega)]
    exact h (i - 1) i (by omega) hi (by omega)
theorem lessD_trans {a b c : Dt} (h1 : lessD a b = true) (h2 : lessD b c = true) : lessD a c = true := by
  unfold lessD at *; simp at *; omega
theorem dotsB_iff {l : List Dt} : dotsB l = true ↔ (∀ d ∈ l, nameB d = true) ∧ l.Pairwise (fun a b => lessD a b = true) := by
  rw [← adj_pw (lt := lessD) (fun a b c h1 h2 => lessD_trans h1 h2)]
  unfold dotsB
  rw [decide_eq_true_eq]
  constructor
  · intro h
    refine ⟨fun d hd => ?_, fun i hi h0 => (h i hi).2 h0⟩
    obtain ⟨i, hi, rfl⟩ := gN_mem_iff.1 hd
    exact (h i hi).1
  · rintro ⟨h1, h2⟩ i hi
    exact ⟨h1 _ (gN_mem hi), h2 i hi⟩
theorem rowsB_iff {cols : List Int} {l : List Rwx} : rowsB cols l = true ↔ (∀ r ∈ l, Right cols r) ∧ l.Pairwise (fun a b => keyLt a.key b.key = true) := by
  rw [← adj_pw (lt := fun a b : Rwx => keyLt a.key b.key) (fun a b c h1 h2 => keyLt_trans h1 h2)]
  unfold rowsB
  rw [decide_eq_true_eq]
  constructor
  · intro h
    refine ⟨fun d hd => ?_, fun i hi h0 => (h i hi).2 h0⟩
    obtain ⟨i, hi, rfl⟩ := gN_mem_iff.1 hd
    exact right_iff.1 (h i hi).1
  · rintro ⟨h1, h2⟩ i hi
    exact ⟨right_iff.2 (h1 _ (gN_mem hi)), h2 i hi⟩
theorem tw_take {α : Type} (p : α → Bool) (l : List α) : l.take (l.takeWhile p).length = l.takeWhile p := by
  conv => lhs; rw [← List.takeWhile_append_dropWhile (p := p) (l := l)]
  rw [List.takeWhile_append_dropWhile]
  have := List.takeWhile_append_dropWhile (p := p) (l := l)
  conv => lhs; arg 2; rw [← this]
  rw [List.take_left]
theorem cmpI_r' (a b : Int) : cmpI a b = -1 ∧ a < b ∨ cmpI a b = 0 ∧ a = b ∨ cmpI a b = 1 ∧ b < a := by unfold cmpI; omega
theorem cmpD_r (a b : Dt) : (cmpD a b = -1 ∧ lessD a b = true) ∨ (cmpD a b = 0 ∧ a = b) ∨ (cmpD a b = 1 ∧ lessD b a = true) := by
  obtain ⟨ap, an⟩ := a; obtain ⟨bp, bn⟩ := b
  unfold cmpD lessD
  rcases cmpI_r' ap bp with ⟨e1, h1⟩ | ⟨e1, h1⟩ | ⟨e1, h1⟩ <;> rcases cmpI_r' an bn with ⟨e2, h2⟩ | ⟨e2, h2⟩ | ⟨e2, h2⟩ <;> simp [orV, e1, e2] <;> omega
theorem keyLt_asym {a b : ByteArray} (h : keyLt a b = true) : keyLt b a = false := by
  cases h2 : keyLt b a with
  | false => rfl
  | true => have := keyLt_trans h h2; rw [keyLt_irr] at this; cases this
/-- What a sorted row of dots is with one more. -/
theorem insD_spec {ds : List Dt} {d : Dt} (h : ds.Pairwise (fun a b => lessD a b = true)) : (insD ds d).Pairwise (fun a b => lessD a b = true) ∧ ∀ e, e ∈ insD ds d ↔ e = d ∨ e ∈ ds := by
  have hA : ∀ a ∈ ds.take (posD ds d), lessD a d = true := fun a ha => by
    unfold posD at ha
    rw [tw_take] at ha
    have := tw_all _ ha
    have : cmpD a d < 0 := by simpa using this
    rcases cmpD_r a d with ⟨e, h⟩ | ⟨e, h⟩ | ⟨e, h⟩ <;> first | exact h | omega
  unfold insD
  split
  · rename_i hf
    have hin : d ∈ ds := by
      rcases cmpD_r (gN ds (posD ds d)) d with ⟨e, _⟩ | ⟨_, e⟩ | ⟨e, _⟩
      · omega
      · rw [← e]; exact gN_mem hf.1
      · omega
    exact ⟨h, fun e => ⟨.inr, fun h => h.elim (fun e => e ▸ hin) id⟩⟩
  · rename_i hf
    have hB : ∀ b ∈ ds.drop (posD ds d), lessD d b = true := fun b hb => by
      have hne : ¬ (posD ds d < ds.length ∧ cmpD (gN ds (posD ds d)) d = 0) := hf
      obtain ⟨i, hi, rfl⟩ := List.mem_iff_getElem.1 hb
      rw [List.getElem_drop]
      have hlt : posD ds d + i < ds.length := by simpa [Nat.lt_sub_iff_add_lt'] using hi
      have h0 : 0 ≤ cmpD (gN ds (posD ds d)) d := by
        have := tw_stop (p := fun a => decide (cmpD a d < 0)) (l := ds) (by show posD ds d < ds.length; omega)
        have h2 : decide (cmpD (gN ds (posD ds d)) d < 0) = false := this
        simpa using h2
      have h1 : lessD d (gN ds (posD ds d)) = true := by
        rcases cmpD_r (gN ds (posD ds d)) d with ⟨e, _⟩ | ⟨e, _⟩ | ⟨_, e⟩
        · omega
        · exact absurd ⟨by omega, e⟩ hne
        · exact e
      by_cases hi0 : i = 0
      · subst hi0; rw [gN_eq (by omega)] at h1; exact h1
      · refine lessD_trans h1 ?_
        rw [gN_eq (by omega)]
        exact List.pairwise_iff_getElem.1 h _ _ (by omega) hlt (by omega)
    refine ⟨?_, fun e => ?_⟩
    · rw [List.pairwise_append, List.pairwise_cons]
      refine ⟨h.sublist (List.take_sublist _ _), ⟨hB, h.sublist (List.drop_sublist _ _)⟩, fun a ha b hb => ?_⟩
      rcases List.mem_cons.1 hb with rfl | hb
      · exact hA a ha
      · exact lessD_trans (hA a ha) (hB b hb)
    · rw [List.mem_append, List.mem_cons]
      conv => rhs; rhs; rw [← List.take_append_drop (posD ds d) ds, List.mem_append]
      constructor
      · rintro (h | h | h)
        · exact .inr (.inl h)
        · exact .inl h
        · exact .inr (.inr h)
      · rintro (h | h | h)
        · exact .inr (.inl h)
        · exact .inl h
        · exact .inr (.inr h)
theorem zCel_writ : writ zCel = false := rfl
theorem zCel_ok (t : Int) : cellB zCel t = true := by unfold cellB; rw [zCel_writ]; simp [isZ]
theorem new_right {cols : List Int} {key : ByteArray} (h : keyB key = true) : Right cols ⟨key, [], List.replicate cols.length zCel⟩ := by
  refine ⟨h, rfl, ?_, .inl rfl⟩
  unfold allG
  rw [decide_eq_true_eq]
  refine ⟨by simp, fun i hi => ?_⟩
  have hi : i < cols.length := by simpa using hi
  rw [gN_eq (l := List.replicate cols.length zCel) (by simpa using hi)]
  simp [zCel_ok]
/-- The rows with the key's row. -/
theorem withK_spec {cols : List Int} {l : List Rwx} {key : ByteArray} (h : rowsB cols l = true) (hk : keyB key = true) : rowsB cols (withK cols l key) = true ∧ (gN (withK cols l key) (posK l key)).key = key := by
  obtain ⟨h1, h2⟩ := rowsB_iff.1 h
  have hp := posK_le l key
  have hA : ∀ a ∈ l.take (posK l key), keyLt a.key key = true := fun a ha => by
    unfold posK at ha
    rw [tw_take] at ha
    have := tw_all _ ha
    have : cmpB a.key key < 0 := by simpa using this
    rcases cmpB_r a.key key with ⟨e, h⟩ | ⟨e, h⟩ | ⟨e, h⟩ <;> first | exact h | omega
  rcases withK_at cols l key with ⟨hi, e⟩ | ⟨hi, e, eg⟩
  · rw [e]
    refine ⟨h, ?_⟩
    unfold isK at hi
    simp only [Bool.and_eq_true, decide_eq_true_eq] at hi
    rcases cmpB_r (gN l (posK l key)).key key with ⟨e, _⟩ | ⟨_, e⟩ | ⟨e, _⟩
    · omega
    · exact e
    · omega
  · refine ⟨?_, by rw [eg]⟩
    rw [e]
    have hB : ∀ b ∈ l.drop (posK l key), keyLt key b.key = true := fun b hb => by
      obtain ⟨i, hil, rfl⟩ := List.mem_iff_getElem.1 hb
      rw [List.getElem_drop]
      have hlt : posK l key + i < l.length := by simpa [Nat.lt_sub_iff_add_lt'] using hil
      have h0 : 0 ≤ cmpB (gN l (posK l key)).key key := keys_up h (Nat.le_refl _) (by omega)
      have hne : ¬ cmpB (gN l (posK l key)).key key = 0 := fun e0 => by
        unfold isK at hi
        simp only [Bool.and_eq_false_iff, decide_eq_false_iff_not] at hi
        rcases hi with hi | hi
        · omega
        · exact hi e0
      have h1' : keyLt key (gN l (posK l key)).key = true := by
        rcases cmpB_r (gN l (posK l key)).key key with ⟨e, _⟩ | ⟨e, _⟩ | ⟨_, e⟩
        · omega
        · exact absurd e hne
        · exact e
      by_cases hi0 : i = 0
      · subst hi0; rw [gN_eq (by omega)] at h1'; exact h1'
      · refine keyLt_trans h1' ?_
        rw [gN_eq (by omega)]
        exact List.pairwise_iff_getElem.1 h2 _ _ (by omega) hlt (by omega)
    refine rowsB_iff.2 ⟨fun r hr => ?_, ?_⟩
    · rcases List.mem_append.1 hr with hr | hr
      · exact h1 r (List.mem_of_mem_take hr)
      · rcases List.mem_cons.1 hr with rfl | hr
        · exact new_right hk
        · exact h1 r (List.mem_of_mem_drop hr)
    · rw [List.pairwise_append, List.pairwise_cons]
      refine ⟨h2.sublist (List.take_sublist _ _), ⟨hB, h2.sublist (List.drop_sublist _ _)⟩, fun a ha b hb => ?_⟩
      rcases List.mem_cons.1 hb with rfl | hb
      · exact hA a ha
      · exact keyLt_trans (hA a ha) (hB b hb)
end Go.Proofs.YtcmonjmoapjpkaaGreat.D
end
section
set_option linter.unusedVariables false
set_option linter.unusedSimpArgs false
set_option linter.constructorNameAsVariable false
set_option maxRecDepth 100000

/- A row behind an operation is right: plain law. No condition. -/
namespace Go.Proofs.YtcmonjmoapjpkaaGreat.D
open Go Go.Proofs

theorem whole_name {n : Nat} {x : Opz} (h : wholeB n x = true) (hn : n ≤ 5) : nameB x.dot = true ∧ okS x.st = true := by
  unfold wholeB at h
  simp only [Bool.and_eq_true, decide_eq_true_eq] at h
  refine ⟨?_, h.1.2⟩
  unfold nameB
  simp only [Bool.and_eq_true, decide_eq_true_eq]
  omega
theorem writ_name {d : Dt} {c : Cel} (h : nameB d = true) (hd : c.d = d) : writ c = true := by
  unfold nameB at h
  unfold writ
  rw [hd]
  simp only [Bool.and_eq_true, decide_eq_true_eq] at h
  simp; omega
theorem wr_writ {c : Cel} {v : Vl} {x : Opz} (hn : nameB x.dot = true) : writ (wrCel c v x) = true := by
  unfold wrCel
  split
  · exact writ_name hn rfl
  · rename_i h
    unfold wrB at h
    simp at h; exact h.1
theorem wr_cell {c : Cel} {v : Vl} {x : Opz} {t : Int} (hn : nameB x.dot = true) (hs : okS x.st = true) (hc : cellB c t = true) (hv : smallV v = true) (hf : fitsV v t = true) : cellB (wrCel c v x) t = true := by
  unfold wrCel
  split
  · unfold cellB
    rw [if_pos (writ_name hn rfl)]
    simp [hn, hv, hf, hs]
  · exact hc
theorem allG_at {α β : Type} [Inhabited α] [Inhabited β] {p : α → β → Bool} {a : List α} {b : List β} (h : allG p a b = true) : a.length = b.length ∧ ∀ i, i < a.length → p (gN a i) (gN b i) = true := by
  unfold allG at h; exact of_decide_eq_true h
theorem small_at {v : List Vl} {cols : List Int} (h : smallBs v cols = true) : v.length = cols.length ∧ ∀ i, i < v.length → fitsV (gN v i) (gN cols i) = true ∧ smallV (gN v i) = true := by
  unfold smallBs at h
  rw [Bool.and_eq_true] at h
  obtain ⟨h1, h2⟩ := h
  obtain ⟨h3, h4⟩ := allG_at h1
  refine ⟨h3, fun i hi => ⟨h4 i hi, ?_⟩⟩
  have : ∀ x ∈ v, smallV x = true := by simpa using h2
  exact this _ (gN_mem hi)
theorem all_gN {α : Type} [Inhabited α] {l : List α} {p : α → Prop} : (∀ a ∈ l, p a) ↔ ∀ i, i < l.length → p (gN l i) :=
  ⟨fun h i hi => h _ (gN_mem hi), fun h a ha => by obtain ⟨i, hi, rfl⟩ := gN_mem_iff.1 ha; exact h i hi⟩
/-- A row behind an operation. -/
theorem chg_right {cols : List Int} {r : Rwx} {x : Opz} {n : Nat} (hr : Right cols r) (ho : OpR_ n cols (tab0 x)) (hn : n ≤ 5) : Right cols (chgT r x) ∧ (chgT r x).key = r.key := by
  obtain ⟨h1, h2⟩ := whole_name ho.whole hn
  have h1 : nameB x.dot = true := h1
  have h2 : okS x.st = true := h2
  obtain ⟨d1, d2⟩ := dotsB_iff.1 hr.dots
  obtain ⟨c1, c2⟩ := allG_at hr.cells
  rcases ho.kind with ⟨k, k2, _⟩ | ⟨k, k2, k3, k4, _⟩ | ⟨k, _⟩
  · have k : x.kind = 1 := k
    have e : chgT r x = ⟨r.key, insD r.dots x.dot, wrs r.cells x.vals x⟩ := by rw [chgT, if_pos k]
    obtain ⟨s1, s2⟩ := small_at k2
    have s1 : x.vals.length = cols.length := s1
    rw [e]
    obtain ⟨i1, i2⟩ := insD_spec (d := x.dot) d2
    have at' : ∀ i, i < r.cells.length → gN (wrs r.cells x.vals x) i = wrCel (gN r.cells i) (gN x.vals i) x := fun i hi => by rw [wrs_at hi, if_pos (by omega)]
    refine ⟨⟨hr.key, dotsB_iff.2 ⟨fun d hd => ?_, i1⟩, ?_, .inr ?_⟩, rfl⟩
    · rcases (i2 d).1 hd with rfl | h
      · exact h1
      · exact d1 d h
    · unfold allG
      rw [decide_eq_true_eq]
      refine ⟨by rw [wrs_len]; exact c1, fun i hi => ?_⟩
      rw [wrs_len] at hi
      rw [at' i hi]
      have := s2 i (by show i < x.vals.length; omega)
      exact wr_cell h1 h2 (c2 i hi) this.2 this.1
    · rw [all_gN]
      intro i hi
      rw [wrs_len] at hi
      rw [at' i hi]
      exact wr_writ h1
  · have k : x.kind = 2 := k
    have k2 : 0 ≤ x.col := k2
    have k3 : x.col < cols.length := k3
    have e : chgT r x = ⟨r.key, r.dots, r.cells.set x.col.toNat (wrCel (gN r.cells x.col.toNat) (gN x.vals 0) x)⟩ := by rw [chgT, if_neg (by omega), if_pos k]
    obtain ⟨s1, s2⟩ := small_at k4
    have hv := s2 0 (by rw [s1]; simp)
    have hv1 : fitsV (gN x.vals 0) (gN cols x.col.toNat) = true := hv.1
    have hv2 : smallV (gN x.vals 0) = true := hv.2
    have hcl : x.col.toNat < r.cells.length := by omega
    rw [e]
    refine ⟨⟨hr.key, hr.dots, ?_, ?_⟩, rfl⟩
    · unfold allG
      rw [decide_eq_true_eq]
      refine ⟨by simpa using c1, fun i hi => ?_⟩
      have hi : i < r.cells.length := by simpa using hi
      by_cases hic : i = x.col.toNat
      · rw [hic, gN_set hcl]
        exact wr_cell h1 h2 (c2 _ hcl) hv2 hv1
      · rw [gN_eq (by simpa using hi), List.getElem_set_ne (by omega), ← gN_eq hi]
        exact c2 i hi
    · rcases hr.there with h | h
      · exact .inl h
      · right
        rw [all_gN] at h ⊢
        intro i hi
        have hi : i < r.cells.length := by simpa using hi
        by_cases hic : i = x.col.toNat
        · rw [hic, gN_set hcl]; exact wr_writ h1
        · rw [gN_eq (by simpa using hi), List.getElem_set_ne (by omega), ← gN_eq hi]
          exact h i hi
  · have k : x.kind = 3 := k
    have e : chgT r x = ⟨r.key, r.dots.filter fun d => !inD x.dots d, r.cells⟩ := by rw [chgT, if_neg (by omega), if_neg (by omega), if_pos k]
    rw [e]
    refine ⟨⟨hr.key, dotsB_iff.2 ⟨fun d hd => d1 d ((List.mem_filter.1 hd).1), d2.filter _⟩, hr.cells, ?_⟩, rfl⟩
    rcases hr.there with h | h
    · left
      have : r.dots = [] := List.eq_nil_of_length_eq_zero h
      show (List.filter _ r.dots).length = 0
      rw [this]; rfl
    · exact .inr h
theorem rows_set {cols : List Int} {l : List Rwx} {k : Nat} {r : Rwx} (h : rowsB cols l = true) (hk : k < l.length) (hr : Right cols r) (hkey : r.key = (gN l k).key) : rowsB cols (l.set k r) = true := by
  obtain ⟨h1, h2⟩ := rowsB_iff.1 h
  refine rowsB_iff.2 ⟨fun a ha => ?_, ?_⟩
  · rcases List.mem_or_eq_of_mem_set ha with h | h
    · exact h1 a h
    · rw [h]; exact hr
  · rw [List.pairwise_iff_getElem] at h2 ⊢
    intro i j hi hj hij
    have hi' : i < l.length := by simpa using hi
    have hj' : j < l.length := by simpa using hj
    have := h2 i j hi' hj' hij
    have e : ∀ m (hm : m < (l.set k r).length) (hm' : m < l.length), (l.set k r)[m].key = l[m].key := fun m hm hm' => by
      rw [List.getElem_set]
      split
      · rename_i e; subst e; rw [hkey, gN_eq hm']
      · rfl
    rw [e i hi hi', e j hj hj']; exact this
theorem apply_e {cols : List Int} {l : List Rwx} {x : Opz} (h : checkT cols l = 0) (ho : opE cols (tab0 x) = 0) : applyT cols l x = ((withK cols l x.key).set (posK l x.key) (chgT (gN (withK cols l x.key) (posK l x.key)) x), seeT (gN (withK cols l x.key) (posK l x.key)), seeT (chgT (gN (withK cols l x.key) (posK l x.key)) x), 0) := by
  rw [applyT, if_neg (by simpa using h), if_neg (by simpa using ho)]
/-- A table behind an operation is right. -/
theorem apply_right {cols : List Int} {l : List Rwx} {x : Opz} (h : checkT cols l = 0) (ho : opE cols (tab0 x) = 0) : checkT cols (applyT cols l x).1 = 0 := by
  rw [apply_e h ho]
  obtain ⟨hf, hr⟩ := chk_0 h
  obtain ⟨_, o1, o2, o3⟩ := opE_0 ho
  have o := rightO_1 o3
  obtain ⟨w1, w2⟩ := withK_spec hr o.key
  have w1 : rowsB cols (withK cols l x.key) = true := w1
  have w2 : (gN (withK cols l x.key) (posK l x.key)).key = x.key := w2
  have hk := withK_lt cols l x.key
  have hR := right_iff.1 (rows_at w1 hk).1
  obtain ⟨c1, c2⟩ := chg_right hR o o2
  unfold checkT
  rw [if_neg (by simpa using hf), if_pos (rows_set w1 hk c1 c2)]
end Go.Proofs.YtcmonjmoapjpkaaGreat.D
end
section
set_option linter.unusedVariables false
set_option linter.unusedSimpArgs false
set_option linter.constructorNameAsVariable false
set_option maxRecDepth 100000

/- Inserts of one column. No condition. -/
namespace Go.Proofs.YtcmonjmoapjpkaaGreat.D
open Go Go.Proofs

@[go_sem] theorem op_bslo_3 (z' a b c : V) (ob : OB) (i : Nat) (h : okRow 1 (cellsV a) = true) (k : okRow 1 (cellsV b) = true) (m : okRow 1 (cellsV c) = true) : opF (.bsl 1 [z'] [0, 1, 2] 3 false) [a, b, c] ob i = some (.sl i 0 3, [(i, some ⟨1, [cellsV a, cellsV b, cellsV c], none⟩)]) := by
  have := op_bsl_3 z' a b c ob i h k m
  simp only [opF] at this ⊢
  cases hf : fill ((List.replicate 3 [z']).flatten) ([0, 1, 2].map fun i => (i * 1, 1)) [a, b, c] with
  | none => rw [hf] at this; simp at this
  | some l =>
    rw [hf] at this
    simp only [Option.bind_some] at this ⊢
    split at this
    · rename_i hr
      rw [if_pos hr]
      simp at this ⊢
      exact this
    · cases this
/-- An insert of one whole number. -/
@[reducible] def insZ (key : ByteArray) (p : Nat) (n t v : Int) : Opz := ⟨⟨⟨p, n⟩, [9, 9, 9].set p (n - 1), ⟨t, 0, p⟩, 1, 0, key, 0, [⟨3, v, noS⟩], []⟩, false⟩
theorem form3 : formE [3] = 0 := by unfold formE; simp
theorem small3 {v : Int} (h : -2147483648 ≤ v ∧ v ≤ 2147483648) : smallBs [⟨3, v, noS⟩] [3] = true := by
  have h1 : okVl ⟨3, v, noS⟩ = true := by unfold okVl; simp; omega
  have h2 : smallV ⟨3, v, noS⟩ = true := by unfold smallV; rw [h1]; simp; omega
  unfold smallBs allG
  simp [h2]
  unfold fitsV
  simp [gN, h1]
/-- An insert of one column that may be. -/
theorem opE_ins {x : Opz} {v : Int} (hd : 1 ≤ x.deps.length ∧ x.deps.length ≤ 5) (hw : wholeB x.deps.length x = true) (hk : keyB x.key = true) (h1 : x.kind = 1) (h2 : x.vals = [⟨3, v, noS⟩]) (hv : -2147483648 ≤ v ∧ v ≤ 2147483648) (h3 : x.col = 0) (h4 : x.dots = []) : opE [3] (tab0 x) = 0 := by
  have hr : rightO x.deps.length [3] (tab0 x) = true := by
    unfold rightO
    have hw' : wholeB x.deps.length (tab0 x) = true := hw
    have hk' : keyB (tab0 x).key = true := hk
    have e : (tab0 x).kind = 1 := h1
    rw [hw', hk', if_pos e]
    show (true && decide ((0 : Int) = 0) && true && (smallBs x.vals [3] && decide (x.col = 0) && decide (x.dots.length = 0))) = true
    rw [h2, small3 hv, h3, h4]; rfl
  unfold opE
  rw [if_neg (by rw [form3]; simp), if_neg]
  rintro (h | h | h)
  · have : ((tab0 x).deps.length : Int) = x.deps.length := rfl
    omega
  · have : ((tab0 x).deps.length : Int) = x.deps.length := rfl
    omega
  · have hr' : rightO ((tab0 x).deps.length : Int) [3] (tab0 x) = true := hr
    rw [hr'] at h; cases h
theorem opE_del {x : Opz} (hd : 1 ≤ x.deps.length ∧ x.deps.length ≤ 5) (hw : wholeB x.deps.length x = true) (hk : keyB x.key = true) (h1 : x.kind = 3) (h2 : x.vals = []) (h3 : x.col = 0) (h4 : 1 ≤ x.dots.length ∧ x.dots.length ≤ 64) (h5 : hadB x.deps x.dots = true) : opE [3] (tab0 x) = 0 := by
  have hr : rightO x.deps.length [3] (tab0 x) = true := by
    unfold rightO
    have hw' : wholeB x.deps.length (tab0 x) = true := hw
    have hk' : keyB (tab0 x).key = true := hk
    have e1 : ¬ (tab0 x).kind = 1 := by show ¬ x.kind = 1; omega
    have e2 : ¬ (tab0 x).kind = 2 := by show ¬ x.kind = 2; omega
    have e3 : (tab0 x).kind = 3 := h1
    rw [hw', hk', if_neg e1, if_neg e2, if_pos e3]
    show (true && decide ((0 : Int) = 0) && true && (decide (1 ≤ x.dots.length ∧ x.dots.length ≤ 64) && hadB x.deps x.dots && decide (x.col = 0) && decide (x.vals.length = 0))) = true
    rw [decide_eq_true h4, h5, h3, h2]; rfl
  unfold opE
  rw [if_neg (by rw [form3]; simp), if_neg]
  rintro (h | h | h)
  · have : ((tab0 x).deps.length : Int) = x.deps.length := rfl
    omega
  · have : ((tab0 x).deps.length : Int) = x.deps.length := rfl
    omega
  · have hr' : rightO ((tab0 x).deps.length : Int) [3] (tab0 x) = true := hr
    rw [hr'] at h; cases h
theorem cmpB_self (k : ByteArray) : cmpB k k = 0 := by
  rcases cmpB_r k k with ⟨_, h⟩ | ⟨e, _⟩ | ⟨_, h⟩
  · rw [keyLt_irr] at h; cases h
  · exact e
  · rw [keyLt_irr] at h; cases h
theorem chk_nil {cols : List Int} (h : formE cols = 0) : checkT cols [] = 0 := by
  unfold checkT; rw [if_neg (by simpa using h), if_pos]; rfl
theorem ap_nil {cols : List Int} {x : Opz} (hf : formE cols = 0) (ho : opE cols (tab0 x) = 0) : applyT cols [] x = ([chgT ⟨x.key, [], List.replicate cols.length zCel⟩ x], [], seeT (chgT ⟨x.key, [], List.replicate cols.length zCel⟩ x), 0) := by
  rw [apply_e (chk_nil hf) ho]
  have e : withK cols [] x.key = [⟨x.key, [], List.replicate cols.length zCel⟩] := by unfold withK isK posK; simp
  have p : posK [] x.key = 0 := rfl
  rw [e, p]
  rfl
theorem ap_one {cols : List Int} {r : Rwx} {x : Opz} (h : checkT cols [r] = 0) (ho : opE cols (tab0 x) = 0) (hk : r.key = x.key) : applyT cols [r] x = ([chgT r x], seeT r, seeT (chgT r x), 0) := by
  rw [apply_e h ho]
  have p : posK [r] x.key = 0 := by unfold posK; rw [List.takeWhile_cons, hk, cmpB_self]; rfl
  have e : withK cols [r] x.key = [r] := by
    unfold withK isK
    rw [p]
    have g : gN [r] 0 = r := rfl
    rw [g, hk, cmpB_self]; rfl
  rw [e, p]
  rfl
end Go.Proofs.YtcmonjmoapjpkaaGreat.D
end
section
set_option linter.unusedVariables false
set_option linter.unusedSimpArgs false
set_option linter.constructorNameAsVariable false
set_option maxRecDepth 100000

/- One dead row. No condition. -/
namespace Go.Proofs.YtcmonjmoapjpkaaGreat.D
open Go Go.Proofs

@[reducible] def kK : ByteArray := ⟨#[107]⟩
@[reducible] def wk1 : Opz := ⟨⟨⟨0, 1⟩, [0], ⟨0, 0, 0⟩, 1, 0, kK, 0, [⟨3, 3, noS⟩], []⟩, false⟩
@[reducible] def wk2 : Opz := ⟨⟨⟨0, 2⟩, [1], ⟨0, 0, 0⟩, 3, 0, kK, 0, [], [⟨0, 1⟩]⟩, false⟩
@[reducible] def wkc : Cel := ⟨⟨3, 3, noS⟩, ⟨0, 0, 0⟩, ⟨0, 1⟩⟩
theorem wk1_o : opE [3] (tab0 wk1) = 0 := opE_ins (x := wk1) (v := 3) (by simp) (by decide) (by decide) rfl rfl (by omega) rfl rfl
theorem wk2_o : opE [3] (tab0 wk2) = 0 := opE_del (x := wk2) (by simp) (by decide) (by decide) rfl rfl rfl (by simp) (by decide)
theorem wk1_a : applyT [3] [] wk1 = ([⟨kK, [⟨0, 1⟩], [wkc]⟩], [], [⟨4, 0, kK⟩, ⟨3, 3, noS⟩], 0) := by
  rw [ap_nil form3 wk1_o]; rfl
theorem wk1_c : checkT [3] [⟨kK, [⟨0, 1⟩], [wkc]⟩] = 0 := by
  have := apply_right (chk_nil form3) wk1_o
  rw [wk1_a] at this; exact this
theorem wk2_a : applyT [3] [⟨kK, [⟨0, 1⟩], [wkc]⟩] wk2 = ([⟨kK, [], [wkc]⟩], [⟨4, 0, kK⟩, ⟨3, 3, noS⟩], [], 0) := by
  rw [ap_one wk1_c wk2_o rfl]; rfl
theorem ia_s (ob : OB) (k : Nat) (f : Fl) (q r : List V) (l : List (List V)) : iaV ob k (.im f (q :: r :: l)) 1 = if r.length = k then some (.bp r) else none := by
  simp [iaV]; omega
@[go_sem] theorem op_bsl_d2 (z : List V) (a b : Int) (ob : OB) (i : Nat) (hz : (z.length == 2) = true) : opF (.bsl 2 z [0] 1 true) [.ag [vi a, vi b]] ob i = some (.im .b [[vi a, vi b]], []) := op_bsl_r ob i (by simpa using hz) rfl
theorem wakes13_ok : FnB Tryz.prog 11 [] (vb true) := by
  refine fnB_intro cf11 (by simp) ?_
  simp (config := {contextual := true, maxSteps := 1000000}) only [go_sem, ints, intRows, iv_c, Nat.reduceAdd, Nat.reduceBEq, Nat.reduceEqDiff, Nat.reduceLeDiff, Nat.reduceLT, reduceIte, Nat.le_refl, true_or, or_true, and_self, Int.reduceLE, Int.reduceLT, Int.reduceEq, Int.reduceNeg, Int.natCast_nonneg, Int.reduceToNat, ops, vals, dots, c11]
  have a1 := Apply_ok (fl := .b) [3] [] wk1 (by simp [maxLen]) (by simp) (by simp) (by simp [maxLen]) (by simp [maxLen])
  rw [wk1_a] at a1
  dsimp only at a1
  have a2 := Apply_ok (fl := .b) [3] [⟨kK, [⟨0, 1⟩], [wkc]⟩] wk2 (by simp [maxLen]) (by intro r h; simp at h; subst h; exact ⟨by simp [maxLen], by simp [maxLen]⟩) (by simp [maxLen]) (by simp [maxLen]) (by simp [maxLen])
  rw [wk2_a] at a2
  dsimp only at a2
  first | refine caS_i (a1) trivial ?_ | refine caD_i (a1) trivial ?_ | refine gC_i (fun _ => a1) trivial ?_ | refine gCD_i (fun _ => a1) trivial ?_ | refine caE_i (a1) trivial ?_
  simp (config := {contextual := true, maxSteps := 1000000}) only [go_sem, ints, intRows, iv_c, Nat.reduceAdd, Nat.reduceBEq, Nat.reduceEqDiff, Nat.reduceLeDiff, Nat.reduceLT, reduceIte, Nat.le_refl, true_or, or_true, and_self, Int.reduceLE, Int.reduceLT, Int.reduceEq, Int.reduceNeg, Int.natCast_nonneg, Int.reduceToNat, ops, vals, dots, vals, rws, ia_h, ia_s]
  first | refine caS_i (a2) trivial ?_ | refine caD_i (a2) trivial ?_ | refine gC_i (fun _ => a2) trivial ?_ | refine gCD_i (fun _ => a2) trivial ?_ | refine caE_i (a2) trivial ?_
  simp (config := {contextual := true, maxSteps := 1000000}) only [go_sem, ints, intRows, iv_c, Nat.reduceAdd, Nat.reduceBEq, Nat.reduceEqDiff, Nat.reduceLeDiff, Nat.reduceLT, reduceIte, Nat.le_refl, true_or, or_true, and_self, Int.reduceLE, Int.reduceLT, Int.reduceEq, Int.reduceNeg, Int.natCast_nonneg, Int.reduceToNat, ops, vals, dots, vals, rws, ia_h, ia_s]
  first | refine caS_i (Dead_ok (fl := .b) [⟨kK, [], [wkc]⟩] (by simp [maxLen])) trivial ?_ | refine caD_i (Dead_ok (fl := .b) [⟨kK, [], [wkc]⟩] (by simp [maxLen])) trivial ?_ | refine gC_i (fun _ => Dead_ok (fl := .b) [⟨kK, [], [wkc]⟩] (by simp [maxLen])) trivial ?_ | refine gCD_i (fun _ => Dead_ok (fl := .b) [⟨kK, [], [wkc]⟩] (by simp [maxLen])) trivial ?_ | refine caE_i (Dead_ok (fl := .b) [⟨kK, [], [wkc]⟩] (by simp [maxLen])) trivial ?_
  have e1 : deadT [⟨kK, [], [wkc]⟩] = 1 := rfl
  simp (config := {contextual := true, maxSteps := 1000000}) only [go_sem, ints, intRows, iv_c, Nat.reduceAdd, Nat.reduceBEq, Nat.reduceEqDiff, Nat.reduceLeDiff, Nat.reduceLT, reduceIte, Nat.le_refl, true_or, or_true, and_self, Int.reduceLE, Int.reduceLT, Int.reduceEq, Int.reduceNeg, Int.natCast_nonneg, Int.reduceToNat, ops, vals, dots, e1, vals, rws]
  first | refine caS_i (Seen_ok (fl := .b) [3] [⟨kK, [], [wkc]⟩] (by simp [maxLen]) (by intro r h; simp at h; subst h; exact ⟨by simp [maxLen], by simp [maxLen]⟩) (by simp [maxLen])) trivial ?_ | refine caD_i (Seen_ok (fl := .b) [3] [⟨kK, [], [wkc]⟩] (by simp [maxLen]) (by intro r h; simp at h; subst h; exact ⟨by simp [maxLen], by simp [maxLen]⟩) (by simp [maxLen])) trivial ?_ | refine gC_i (fun _ => Seen_ok (fl := .b) [3] [⟨kK, [], [wkc]⟩] (by simp [maxLen]) (by intro r h; simp at h; subst h; exact ⟨by simp [maxLen], by simp [maxLen]⟩) (by simp [maxLen])) trivial ?_ | refine gCD_i (fun _ => Seen_ok (fl := .b) [3] [⟨kK, [], [wkc]⟩] (by simp [maxLen]) (by intro r h; simp at h; subst h; exact ⟨by simp [maxLen], by simp [maxLen]⟩) (by simp [maxLen])) trivial ?_ | refine caE_i (Seen_ok (fl := .b) [3] [⟨kK, [], [wkc]⟩] (by simp [maxLen]) (by intro r h; simp at h; subst h; exact ⟨by simp [maxLen], by simp [maxLen]⟩) (by simp [maxLen])) trivial ?_
  have e2 : seenT [3] [⟨kK, [], [wkc]⟩] = [] := by
    have := apply_right wk1_c wk2_o
    rw [wk2_a] at this
    unfold seenT; rw [if_neg (by rw [this]; simp)]; rfl
  rw [e2]
  simp (config := {contextual := true, maxSteps := 1000000}) only [go_sem, ints, intRows, iv_c, Nat.reduceAdd, Nat.reduceBEq, Nat.reduceEqDiff, Nat.reduceLeDiff, Nat.reduceLT, reduceIte, Nat.le_refl, true_or, or_true, and_self, Int.reduceLE, Int.reduceLT, Int.reduceEq, Int.reduceNeg, Int.natCast_nonneg, Int.reduceToNat, ops, vals, dots, valRows]
end Go.Proofs.YtcmonjmoapjpkaaGreat.D
end
section
set_option linter.unusedVariables false
set_option linter.unusedSimpArgs false
set_option linter.constructorNameAsVariable false
set_option maxRecDepth 100000

/- Inserts of one key: plain law. No condition. -/
namespace Go.Proofs.YtcmonjmoapjpkaaGreat.D
open Go Go.Proofs

@[reducible] def insY (key : ByteArray) (p : Nat) (n t v : Int) : Opz := ⟨⟨⟨p, n⟩, [9, 9, 9].set p (n - 1), ⟨t, 0, p⟩, 1, 0, key, 0, [⟨3, v, noS⟩], []⟩, false⟩
/-- An insert that may be. -/
theorem ins_op {key : ByteArray} {p : Nat} {n t v : Int} (hk : keyB key = true) (hp : p < 3) (hn : 1 ≤ n ∧ n ≤ 1073741824) (ht : 0 ≤ t ∧ t ≤ 1099511627776) (hv : -2147483648 ≤ v ∧ v ≤ 2147483648) : opE [3] (tab0 (insZ key p n t v)) = 0 := by
  refine opE_ins (x := insZ key p n t v) (v := v) (by simp) ?_ hk rfl rfl hv rfl rfl
  have hs : okS ⟨t, 0, p⟩ = true := by unfold okS; simp; omega
  have hvv : vecE ([9, 9, 9].set p (n - 1)) = 0 := by
    unfold vecE
    rw [if_pos (by simp), if_pos]
    intro a ha
    rcases List.mem_or_eq_of_mem_set ha with h | h
    · simp at h; omega
    · omega
  have hg : gN ([9, 9, 9].set p (n - 1) : List Int) p = n - 1 := gN_set (by simp; exact hp) _
  have e : wholeB (insZ key p n t v).deps.length (insZ key p n t v) = (decide (0 ≤ (p : Int)) && decide ((p : Int) < (([9, 9, 9].set p (n - 1) : List Int).length : Int)) && decide (1 ≤ n) && decide (n ≤ 1073741824) && decide ((([9, 9, 9].set p (n - 1) : List Int).length : Int) = (([9, 9, 9].set p (n - 1) : List Int).length : Int)) && decide (vecE ([9, 9, 9].set p (n - 1)) = 0) && decide (gN ([9, 9, 9].set p (n - 1) : List Int) (p : Int).toNat = n - 1) && okS ⟨t, 0, p⟩ && decide ((p : Int) = (p : Int))) := rfl
  rw [e, hs, hvv, Int.toNat_natCast, hg]
  simp; omega
/-- What an insert writes first. -/
@[reducible] def celI (p : Nat) (n t v : Int) : Cel := ⟨⟨3, v, noS⟩, ⟨t, 0, p⟩, ⟨p, n⟩⟩
/-- The i-th of several inserts. -/
def tA (u : Nat → Nat) (i : Nat) : Nat := u i * 20 + i
@[reducible] def dtT (i : Nat) : Dt := ⟨((i % 3 : Nat) : Int), ((i / 3 + 1 : Nat) : Int)⟩
@[reducible] def xT (u : Nat → Nat) (i : Nat) : Opz := insZ kK (i % 3) ((i / 3 + 1 : Nat) : Int) (tA u i : Nat) (i : Nat)
@[reducible] def cT (u : Nat → Nat) (i : Nat) : Cel := celI (i % 3) ((i / 3 + 1 : Nat) : Int) (tA u i : Nat) (i : Nat)
structure LatI (m T : Nat) (u : Nat → Nat) (i : Nat) (ds : List Dt) (c : Cel) : Prop where
  len : ds.length = i
  mem : ∀ e ∈ ds, ∃ j, j < i ∧ e = dtT ((j + T) % m)
  chk : checkT [3] [⟨kK, ds, [c]⟩] = 0
  cell : ∃ k, k < m ∧ c = cT u k ∧ ∀ j, j < i → tA u ((j + T) % m) ≤ tA u k
end Go.Proofs.YtcmonjmoapjpkaaGreat.D
end
section
set_option linter.unusedVariables false
set_option linter.unusedSimpArgs false
set_option linter.constructorNameAsVariable false
set_option maxRecDepth 100000

/- Rows by their keys: plain law. No condition. -/
namespace Go.Proofs.YtcmonjmoapjpkaaGreat.D
open Go Go.Proofs

theorem toL_iff {a b : ByteArray} : a.toList = b.toList ↔ a = b := by
  constructor
  · intro h
    rw [ByteArray.toList_eq, ByteArray.toList_eq] at h
    cases a; cases b; simp at h; simp [h]
  · rintro rfl; rfl
theorem isK_true {l : List Rwx} {key : ByteArray} (h : isK l key = true) : posK l key < l.length ∧ (gN l (posK l key)).key = key := by
  unfold isK at h
  simp only [Bool.and_eq_true, decide_eq_true_eq] at h
  refine ⟨h.1, ?_⟩
  rcases cmpB_r (gN l (posK l key)).key key with ⟨e, _⟩ | ⟨_, e⟩ | ⟨e, _⟩
  · omega
  · exact e
  · omega
theorem keys_lt {cols : List Int} {l : List Rwx} (h : rowsB cols l = true) {i j : Nat} (hij : i < j) (hj : j < l.length) : keyLt (gN l i).key (gN l j).key = true := by
  have := List.pairwise_iff_getElem.1 (rowsB_iff.1 h).2 i j (by omega) hj hij
  rw [gN_eq (by omega), gN_eq hj]; exact this
theorem keys_inj {cols : List Int} {l : List Rwx} (h : rowsB cols l = true) {i j : Nat} (hi : i < l.length) (hj : j < l.length) (e : (gN l i).key = (gN l j).key) : i = j := by
  rcases Nat.lt_trichotomy i j with h1 | h1 | h1
  · have := keys_lt h h1 hj; rw [e, keyLt_irr] at this; cases this
  · exact h1
  · have := keys_lt h h1 hi; rw [e, keyLt_irr] at this; cases this
/-- A key's place, where it is there. -/
theorem posK_at {cols : List Int} {l : List Rwx} (h : rowsB cols l = true) {i : Nat} (hi : i < l.length) : posK l (gN l i).key = i ∧ isK l (gN l i).key = true := by
  have h0 : posK l (gN l i).key ≤ i := Nat.le_of_not_lt fun hc => by
    have := posK_lt hc; rw [cmpB_self] at this; omega
  have h1 : posK l (gN l i).key = i := by
    rcases Nat.lt_or_ge (posK l (gN l i).key) i with h2 | h2
    · have h3 := keys_lt h h2 hi
      have h4 := keys_up h (Nat.le_refl _) (show posK l (gN l i).key < l.length by omega)
      rcases cmpB_r (gN l (posK l (gN l i).key)).key (gN l i).key with ⟨e, _⟩ | ⟨_, e⟩ | ⟨_, e⟩
      · omega
      · rw [e, keyLt_irr] at h3; cases h3
      · rw [keyLt_asym h3] at e; cases e
    · omega
  refine ⟨h1, ?_⟩
  unfold isK
  rw [h1, cmpB_self]
  simp [hi]
theorem findT_k {cols : List Int} {l : List Rwx} (h : rowsB cols l = true) (key : ByteArray) : findT l key = if isK l key then (posK l key : Int) else -1 := by
  unfold findT
  split
  · rename_i hk
    obtain ⟨h1, h2⟩ := isK_true hk
    refine idxI_at h1 (fun r hr => ?_) (by simp [h2])
    obtain ⟨i, hi, rfl⟩ := gN_mem_iff.1 hr
    have hi' : i < posK l key := by simp at hi; omega
    have e : gN (l.take (posK l key)) i = gN l i := by
      rw [gN_eq hi, gN_eq (by omega)]; simp
    rw [e]
    simp only [decide_eq_false_iff_not, toL_iff]
    intro e2
    have := keys_inj h (by omega) h1 (e2.trans h2.symm)
    omega
  · rename_i hk
    refine idxI_no fun r hr => ?_
    obtain ⟨i, hi, rfl⟩ := gN_mem_iff.1 hr
    simp only [decide_eq_false_iff_not, toL_iff]
    rintro rfl
    exact hk (posK_at h hi).2
theorem withK_len (cols : List Int) {l : List Rwx} {key : ByteArray} : (withK cols l key).length = l.length + if isK l key then 0 else 1 := by
  have := posK_le l key
  unfold withK
  split
  · rfl
  · simp; omega
/-- What stands elsewhere stood there. -/
theorem withK_old {cols : List Int} {l : List Rwx} {key : ByteArray} {k : Nat} (hk : k < (withK cols l key).length) (hne : k ≠ posK l key) : gN (withK cols l key) k ∈ l := by
  have := posK_le l key
  rcases withK_at cols l key with ⟨h, e⟩ | ⟨h, e, _⟩
  · rw [e] at hk ⊢; exact gN_mem hk
  · rw [gN_eq hk]
    simp only [e]
    rw [List.getElem_append]
    split
    · exact List.mem_of_mem_take (List.getElem_mem _)
    · rename_i hc
      have hc : posK l key ≤ k := by simp at hc; omega
      obtain ⟨d, hd⟩ : ∃ d, k - (l.take (posK l key)).length = d + 1 := ⟨k - posK l key - 1, by simp; omega⟩
      simp only [hd, List.getElem_cons_succ]
      exact List.mem_of_mem_drop (List.getElem_mem _)
theorem insD_pos (ds : List Dt) (d : Dt) : 0 < (insD ds d).length ∧ (insD ds d).length ≤ ds.length + 1 := by
  have : posD ds d ≤ ds.length := tw_le ds
  unfold insD
  split
  · rename_i h; omega
  · simp; omega
structure KeyI (i : Nat) (l : List Rwx) : Prop where
  chk : checkT [3] l = 0
  len : l.length ≤ i
  row : ∀ r ∈ l, (∃ j : Nat, j < i ∧ r.cells = [celI 0 ((j + 1 : Nat) : Int) (j : Nat) (j : Nat)]) ∧ 0 < r.dots.length ∧ r.dots.length ≤ i
theorem KeyI.nil : KeyI 0 [] := ⟨chk_nil form3, Nat.le_refl _, fun r hr => by cases hr⟩
theorem KeyI.step {i : Nat} {l : List Rwx} {key : ByteArray} (h : KeyI i l) (hi : i < 40) (hk : keyB key = true) :
    ∃ l' g, applyT [3] l (insZ key 0 ((i + 1 : Nat) : Int) (i : Nat) (i : Nat)) = (l', g, [⟨4, 0, key⟩, ⟨3, (i : Nat), noS⟩], 0) ∧ KeyI (i + 1) l' ∧ l'.length = l.length + if findT l key < 0 then 1 else 0 := by
  have ho : opE [3] (tab0 (insZ key 0 ((i + 1 : Nat) : Int) (i : Nat) (i : Nat))) = 0 := ins_op hk (by omega) (by omega) (by omega) (by omega)
  have hr := (chk_0 h.chk).2
  have hlt := withK_lt [3] l key
  have hkey := (withK_spec hr hk).2
  obtain ⟨R, hR⟩ : ∃ R, R = gN (withK [3] l key) (posK l key) := ⟨_, rfl⟩
  have hRc : ∃ c, R.cells = [c] ∧ wrB c (insZ key 0 ((i + 1 : Nat) : Int) (i : Nat) (i : Nat)) = true ∧ R.dots.length ≤ i := by
    rcases withK_at [3] l key with ⟨q, e⟩ | ⟨q, _, e⟩
    · have hm : R ∈ l := by rw [hR, e]; exact gN_mem (by rw [e] at hlt; exact hlt)
      obtain ⟨⟨j, hj, hc⟩, h1, h2⟩ := h.row R hm
      refine ⟨_, hc, ?_, h2⟩
      unfold wrB
      have hlt2 : cmpT (⟨(j : Nat), 0, (0 : Nat)⟩ : St3) ⟨(i : Nat), 0, (0 : Nat)⟩ < 0 := by
        unfold cmpT orV cmpI
        rw [if_pos (by simp; omega)]
        have : ((j : Nat) : Int) < (i : Nat) := by omega
        simp [this]
      have : decide (cmpT (celI 0 ((j + 1 : Nat) : Int) (j : Nat) (j : Nat)).st (insZ key 0 ((i + 1 : Nat) : Int) (i : Nat) (i : Nat)).st < 0) = true := decide_eq_true hlt2
      rw [this, Bool.or_true]
    · rw [hR, e]; exact ⟨zCel, rfl, rfl, Nat.zero_le _⟩
  obtain ⟨c, c1, c2, c3⟩ := hRc
  have hRk : R.key = key := by rw [hR]; exact hkey
  have hch : chgT R (insZ key 0 ((i + 1 : Nat) : Int) (i : Nat) (i : Nat)) = ⟨key, insD R.dots ⟨((0 : Nat) : Int), ((i + 1 : Nat) : Int)⟩, [celI 0 ((i + 1 : Nat) : Int) (i : Nat) (i : Nat)]⟩ := by
    have e1 : chgT R (insZ key 0 ((i + 1 : Nat) : Int) (i : Nat) (i : Nat)) = ⟨R.key, insD R.dots ⟨((0 : Nat) : Int), ((i + 1 : Nat) : Int)⟩, wrs R.cells [⟨3, (i : Nat), noS⟩] (insZ key 0 ((i + 1 : Nat) : Int) (i : Nat) (i : Nat))⟩ := rfl
    rw [e1, hRk, c1]
    have e2 : wrs [c] [⟨3, (i : Nat), noS⟩] (insZ key 0 ((i + 1 : Nat) : Int) (i : Nat) (i : Nat)) = [wrCel c ⟨3, (i : Nat), noS⟩ (insZ key 0 ((i + 1 : Nat) : Int) (i : Nat) (i : Nat))] := rfl
    rw [e2, wrCel, if_pos c2]
  obtain ⟨p1, p2⟩ := insD_pos R.dots ⟨((0 : Nat) : Int), ((i + 1 : Nat) : Int)⟩
  have ha := apply_e h.chk ho
  have hri := apply_right h.chk ho
  have hxk : (insZ key 0 ((i + 1 : Nat) : Int) (i : Nat) (i : Nat)).key = key := rfl
  rw [hxk, ← hR, hch] at ha
  rw [ha] at hri
  have hlen : ((withK [3] l key).set (posK l key) ⟨key, insD R.dots ⟨((0 : Nat) : Int), ((i + 1 : Nat) : Int)⟩, [celI 0 ((i + 1 : Nat) : Int) (i : Nat) (i : Nat)]⟩).length = l.length + if findT l key < 0 then 1 else 0 := by
    rw [List.length_set, withK_len, findT_k hr]
    cases isK l key <;> simp
  refine ⟨_, _, by rw [ha]; congr 3; unfold seeT; rw [if_neg (by show ¬ (insD R.dots _).length = 0; omega)]; rfl, ⟨hri, ?_, fun r hrm => ?_⟩, hlen⟩
  · rw [hlen]
    have := h.len
    split <;> omega
  · obtain ⟨k, hk1, rfl⟩ := gN_mem_iff.1 hrm
    rw [List.length_set] at hk1
    by_cases hkp : k = posK l key
    · subst hkp
      rw [gN_set hk1]
      refine ⟨⟨i, by omega, rfl⟩, p1, ?_⟩
      show (insD R.dots _).length ≤ _
      omega
    · have e : gN ((withK [3] l key).set (posK l key) ⟨key, insD R.dots ⟨((0 : Nat) : Int), ((i + 1 : Nat) : Int)⟩, [celI 0 ((i + 1 : Nat) : Int) (i : Nat) (i : Nat)]⟩) k = gN (withK [3] l key) k := by
        rw [gN_eq (by simpa using hk1), gN_eq hk1, List.getElem_set_ne (by omega)]
      rw [e]
      obtain ⟨⟨j, hj, hc⟩, h1, h2⟩ := h.row _ (withK_old hk1 hkp)
      exact ⟨⟨j, by omega, hc⟩, h1, by omega⟩
theorem KeyI.seen {i : Nat} {l : List Rwx} (h : KeyI i l) : seenT [3] l = l.map seeT := by
  unfold seenT
  rw [if_neg (by rw [h.chk]; simp), List.filter_eq_self.2]
  intro r hr
  have := (h.row r hr).2.1
  simp; omega
theorem KeyI.see {i : Nat} {l : List Rwx} (h : KeyI i l) {k : Nat} (hk : k < l.length) : ∃ v, seeT (gN l k) = [⟨4, 0, (gN l k).key⟩, v] := by
  obtain ⟨⟨j, hj, hc⟩, h1, h2⟩ := h.row _ (gN_mem hk)
  unfold seeT
  rw [if_neg (by omega), hc]
  exact ⟨_, rfl⟩
end Go.Proofs.YtcmonjmoapjpkaaGreat.D
end
section
set_option linter.unusedVariables false
set_option linter.unusedSimpArgs false
set_option linter.constructorNameAsVariable false
set_option maxRecDepth 100000

/- An insert that a delete did not know of stays. No condition. -/
namespace Go.Proofs.YtcmonjmoapjpkaaGreat.D
open Go Go.Proofs

@[reducible] def dZ (ds : List Dt) : Opz := ⟨⟨⟨2, 1⟩, [1, 1, 0], ⟨9, 0, 2⟩, 3, 0, kK, 0, [], ds⟩, true⟩
@[reducible] def cA (w : Int) : Cel := ⟨⟨3, w, noS⟩, ⟨5, 0, 0⟩, ⟨0, 1⟩⟩
@[reducible] def cB (w : Int) : Cel := ⟨⟨3, w, noS⟩, ⟨7, 0, 1⟩, ⟨1, 1⟩⟩
@[reducible] def lS (ds : List Dt) (c : Cel) : List Rwx := [⟨kK, ds, [c]⟩]
end Go.Proofs.YtcmonjmoapjpkaaGreat.D
end
section
set_option linter.unusedVariables false
set_option linter.unusedSimpArgs false
set_option linter.constructorNameAsVariable false
set_option maxRecDepth 100000

/- Deleting rows as they lie in memory. No condition. -/
namespace Go.Proofs.YtcmonjmoapjpkaaGreat.D
open Go Go.Proofs

/-- A row as it lies, and as it is read. -/
abbrev RwP := Rw 3 × Rwf
instance : Inhabited RwP := ⟨⟨default, default⟩⟩
def rwP (x : RwP) : List V := x.1.r
@[go_sem] theorem rwP_len (x : RwP) : (rwP x).length = 3 := x.1.len
@[go_sem] theorem rwP_leaf (x : RwP) : (rwP x).all leaf = true := x.1.leaf
@[go_sem] theorem rwP_row (x : RwP) : okRow 3 (rwP x) = true := x.1.ok
@[go_sem] theorem rwP_t (x : RwP) : (rwP x).take 3 = rwP x := rw3_t x.1
@[go_sem] theorem rwP_d (x : RwP) : (rwP x).drop 3 = [] := rw3_d x.1
end Go.Proofs.YtcmonjmoapjpkaaGreat.D
end
section
set_option linter.unusedVariables false
set_option linter.unusedSimpArgs false
set_option linter.constructorNameAsVariable false
set_option maxRecDepth 100000

/- Compacting: its parts. No condition. -/
namespace Go.Proofs.YtcmonjmoapjpkaaGreat.D
open Go Go.Proofs

theorem RowO.ok {ob : OB} {n : Nat} {r : List V} {R : Rwx} (h : RowO ob n r R) : okRow 3 r = true := by
  obtain ⟨dv, cv, rfl, hd, hc⟩ := h
  have h1 : leaf dv = true := by rcases hd with ⟨_, rfl⟩ | ⟨_, _, _, rfl, _⟩ <;> rfl
  have h2 : leaf cv = true := by rcases hc with ⟨_, rfl⟩ | ⟨_, _, _, rfl, _⟩ <;> rfl
  simp [okRow, h1, h2]; rfl
end Go.Proofs.YtcmonjmoapjpkaaGreat.D
end
section
set_option linter.unusedVariables false
set_option linter.unusedSimpArgs false
set_option maxRecDepth 100000
set_option linter.constructorNameAsVariable false

/- As S_opH: comparing operations; which are not played; for tables. No condition. -/
namespace Go.Proofs.YtcmonjmoapjpkaaGreat.D
open Go Go.Proofs

structure OkO (x : Opx) : Prop where
  d : x.deps.length ≤ maxLen
  v : x.vals.length ≤ maxLen
  s : x.dots.length ≤ maxLen
  n : inI x.dot.n
def sameD (a b : Dt) : Bool := decide (a.p = b.p ∧ a.n = b.n)


def eqV (a b : Vl) : Bool := decide (a.k = b.k) && decide (a.i = b.i) && decide (a.s.toList = b.s.toList)
def sameL {α : Type} (e : α → α → Bool) : List α → List α → Bool
  | [], [] => true
  | x :: a, y :: b => e x y && sameL e a b
  | _, _ => false
theorem sameL_iff {α : Type} [Inhabited α] {e : α → α → Bool} : ∀ {a b : List α}, sameL e a b = true ↔ a.length = b.length ∧ ∀ i, i < a.length → e (gN a i) (gN b i) = true
  | [], [] => by simp [sameL]
  | [], y :: b => by simp [sameL]
  | x :: a, [] => by simp [sameL]
  | x :: a, y :: b => by
    simp only [sameL, Bool.and_eq_true, sameL_iff (a := a) (b := b), List.length_cons]
    constructor
    · rintro ⟨h1, h2, h3⟩
      refine ⟨by omega, fun i hi => ?_⟩
      cases i with
      | zero => simpa [gN] using h1
      | succ i => have := h3 i (by omega); simpa [gN] using this
    · rintro ⟨h1, h2⟩
      refine ⟨by have := h2 0 (by omega); simpa [gN] using this, by omega, fun i hi => ?_⟩
      have := h2 (i + 1) (by omega); simpa [gN] using this
theorem sameL_eq {α : Type} {e : α → α → Bool} (he : ∀ x y, e x y = true → x = y) : ∀ {a b : List α}, sameL e a b = true → a = b
  | [], [], _ => rfl
  | x :: a, y :: b, h => by
    simp only [sameL, Bool.and_eq_true] at h
    rw [he x y h.1, sameL_eq he h.2]
theorem sameL_rfl {α : Type} {e : α → α → Bool} (he : ∀ x, e x x = true) : ∀ a : List α, sameL e a a = true
  | [] => rfl
  | x :: a => by simp [sameL, he, sameL_rfl he a]
theorem eqV_eq (x y : Vl) (h : eqV x y = true) : x = y := by
  simp [eqV] at h
  obtain ⟨⟨h1, h2⟩, h3⟩ := h
  cases x; cases y; simp at h1 h2 h3 ⊢; exact ⟨h1, h2, toList_inj h3⟩
theorem KValue_ok (a b : Vl) : FnB Tryz.prog 51 [.ag (vlV a), .ag (vlV b)] (vb (eqV a b)) := by
  refine fnB_intro cf51 (by simp) ?_
  simp (config := {contextual := true, maxSteps := 1000000}) only [go_sem, ints, intRows, iv_c, Nat.reduceAdd, Nat.reduceBEq, Nat.reduceEqDiff, Nat.reduceLeDiff, Nat.reduceLT, reduceIte, Nat.le_refl, true_or, or_true, and_self, Int.reduceLE, Int.reduceLT, Int.reduceEq, Int.reduceNeg, Int.natCast_nonneg, Int.reduceToNat, ops, vals, dots, c51, vlV]
  rfl
theorem sameL_no {α : Type} [Inhabited α] {e : α → α → Bool} {a b : List α} (h : a.length ≠ b.length) : sameL e a b = false := by
  cases hs : sameL e a b with
  | false => rfl
  | true => exact absurd (sameL_iff.1 hs).1 h
theorem sameL_bad {α : Type} [Inhabited α] {e : α → α → Bool} {a b : List α} {i : Nat} (hi : i < a.length) (h : e (gN a i) (gN b i) = false) : sameL e a b = false := by
  cases hs : sameL e a b with
  | false => rfl
  | true => have := (sameL_iff.1 hs).2 i hi; rw [h] at this; cases this
theorem KRow_ok {fl fm : Fl} (a b : List Vl) (ha : a.length ≤ maxLen) : FnB Tryz.prog 15 [vals fl a, vals fm b] (vb (sameL eqV a b)) := by
  unfold maxLen at ha
  refine fnB_intro cf15 (by simp) ?_
  simp (config := {contextual := true, maxSteps := 1000000}) only [go_sem, ints, intRows, iv_c, Nat.reduceAdd, Nat.reduceBEq, Nat.reduceEqDiff, Nat.reduceLeDiff, Nat.reduceLT, reduceIte, Nat.le_refl, true_or, or_true, and_self, Int.reduceLE, Int.reduceLT, Int.reduceEq, Int.reduceNeg, Int.natCast_nonneg, Int.reduceToNat, ops, vals, dots, c15]
  refine ⟨fun h => ?_, fun h => ?_⟩
  · simp at h; rw [sameL_no (by omega)]
  simp at h
  have hab : a.length = b.length := by omega
  refine wpC_lp (fun env ob n => env 0 = vals fl a ∧ env 1 = vals fm b ∧ ∃ i : Nat, env 5 = vi i ∧ i ≤ a.length ∧ ∀ j, j < i → eqV (gN a j) (gN b j) = true) (fun env ob n => (a.length - iv (env 5)).toNat) ?_ ?_
  · simp (config := {contextual := true, maxSteps := 1000000}) only [go_sem, ints, intRows, iv_c, Nat.reduceAdd, Nat.reduceBEq, Nat.reduceEqDiff, Nat.reduceLeDiff, Nat.reduceLT, reduceIte, Nat.le_refl, true_or, or_true, and_self, Int.reduceLE, Int.reduceLT, Int.reduceEq, Int.reduceNeg, Int.natCast_nonneg, Int.reduceToNat, ops, vals, dots]
    exact ⟨0, rfl, by omega, fun j hj => by omega⟩
  rintro env ob n ⟨h0, h1, i, h5, hi, he⟩
  simp (config := {contextual := true, maxSteps := 1000000}) only [go_sem, ints, intRows, iv_c, Nat.reduceAdd, Nat.reduceBEq, Nat.reduceEqDiff, Nat.reduceLeDiff, Nat.reduceLT, reduceIte, Nat.le_refl, true_or, or_true, and_self, Int.reduceLE, Int.reduceLT, Int.reduceEq, Int.reduceNeg, Int.natCast_nonneg, Int.reduceToNat, ops, vals, dots, h0, h1, h5]
  refine ⟨fun hlt => ?_, fun hge => ?_⟩
  · simp at hlt
    repeat (refine And.intro (by omega) ?_)
    first | refine caS_i (KValue_ok (gN a i) (gN b i)) trivial ?_ | refine caD_i (KValue_ok (gN a i) (gN b i)) trivial ?_ | refine gC_i (fun _ => KValue_ok (gN a i) (gN b i)) trivial ?_ | refine gCD_i (fun _ => KValue_ok (gN a i) (gN b i)) trivial ?_ | refine caE_i (KValue_ok (gN a i) (gN b i)) trivial ?_
    simp (config := {contextual := true, maxSteps := 1000000}) only [go_sem, ints, intRows, iv_c, Nat.reduceAdd, Nat.reduceBEq, Nat.reduceEqDiff, Nat.reduceLeDiff, Nat.reduceLT, reduceIte, Nat.le_refl, true_or, or_true, and_self, Int.reduceLE, Int.reduceLT, Int.reduceEq, Int.reduceNeg, Int.natCast_nonneg, Int.reduceToNat, ops, vals, dots, h0, h1, h5]
    refine ⟨fun hn => ?_, fun hy => ⟨⟨i + 1, ?_, by omega, fun j hj => ?_⟩, ?_⟩⟩
    · rw [sameL_bad hlt (by simpa using hn)]
    · rw [w64 (by omega)]; simp
    · by_cases hji : j = i
      · subst hji; simpa using hy
      · exact he j (by omega)
    · rw [w64 (by omega)]; omega
  · simp at hge
    have : sameL eqV a b = true := sameL_iff.2 ⟨hab, fun j hj => he j (by omega)⟩
    rw [this]
/-- More than is played? -/
def longV (l : List Vl) : Bool := l.any fun v => decide (300 < v.s.size)
theorem any_no {α : Type} [Inhabited α] {p : α → Bool} {l : List α} (h : ∀ j, j < l.length → p (gN l j) = false) : l.any p = false := by
  cases ha : l.any p with
  | false => rfl
  | true =>
    obtain ⟨x, hx, hp⟩ := List.any_eq_true.1 ha
    obtain ⟨j, hj, rfl⟩ := List.mem_iff_getElem.1 hx
    have := h j hj
    rw [gN_eq hj, hp] at this; cases this
theorem Long_ok {fl : Fl} (l : List Vl) (hl : l.length ≤ maxLen) : FnB Tryz.prog 79 [vals fl l] (vb (longV l)) := by
  unfold maxLen at hl
  refine fnB_intro cf79 (by simp) ?_
  simp (config := {contextual := true, maxSteps := 1000000}) only [go_sem, ints, intRows, iv_c, Nat.reduceAdd, Nat.reduceBEq, Nat.reduceEqDiff, Nat.reduceLeDiff, Nat.reduceLT, reduceIte, Nat.le_refl, true_or, or_true, and_self, Int.reduceLE, Int.reduceLT, Int.reduceEq, Int.reduceNeg, Int.natCast_nonneg, Int.reduceToNat, ops, vals, dots, c79]
  refine wpC_lp (fun env ob n => env 0 = vals fl l ∧ ∃ i : Nat, env 3 = vi i ∧ i ≤ l.length ∧ ∀ j, j < i → decide (300 < (gN l j).s.size) = false) (fun env ob n => (l.length - iv (env 3)).toNat) ?_ ?_
  · simp (config := {contextual := true, maxSteps := 1000000}) only [go_sem, ints, intRows, iv_c, Nat.reduceAdd, Nat.reduceBEq, Nat.reduceEqDiff, Nat.reduceLeDiff, Nat.reduceLT, reduceIte, Nat.le_refl, true_or, or_true, and_self, Int.reduceLE, Int.reduceLT, Int.reduceEq, Int.reduceNeg, Int.natCast_nonneg, Int.reduceToNat, ops, vals, dots]
    exact ⟨0, rfl, by omega, fun j hj => by omega⟩
  rintro env ob n ⟨h0, i, h3, hi, he⟩
  simp (config := {contextual := true, maxSteps := 1000000}) only [go_sem, ints, intRows, iv_c, Nat.reduceAdd, Nat.reduceBEq, Nat.reduceEqDiff, Nat.reduceLeDiff, Nat.reduceLT, reduceIte, Nat.le_refl, true_or, or_true, and_self, Int.reduceLE, Int.reduceLT, Int.reduceEq, Int.reduceNeg, Int.natCast_nonneg, Int.reduceToNat, ops, vals, dots, h0, h3]
  refine ⟨fun hlt => ?_, fun hge => ?_⟩
  · simp at hlt
    repeat (refine And.intro (by omega) ?_)
    refine ⟨fun hb => ?_, fun hg => ⟨⟨i + 1, ?_, by omega, fun j hj => ?_⟩, ?_⟩⟩
    · have : longV l = true := List.any_eq_true.2 ⟨_, gN_mem hlt, by simp at hb ⊢; omega⟩
      rw [this]
    · rw [w64 (by omega)]; simp
    · by_cases hji : j = i
      · subst hji; simp at hg ⊢; omega
      · exact he j (by omega)
    · rw [w64 (by omega)]; omega
  · simp at hge
    have : longV l = false := any_no fun j hj => he j (by omega)
    rw [this]
def heavyR (l : List Vl) : Bool := decide (40 < l.length) || longV l
theorem HeavyR_ok {fl : Fl} (l : List Vl) : FnB Tryz.prog 38 [vals fl l] (vb (heavyR l)) := by
  refine fnB_intro cf38 (by simp) ?_
  simp (config := {contextual := true, maxSteps := 1000000}) only [go_sem, ints, intRows, iv_c, Nat.reduceAdd, Nat.reduceBEq, Nat.reduceEqDiff, Nat.reduceLeDiff, Nat.reduceLT, reduceIte, Nat.le_refl, true_or, or_true, and_self, Int.reduceLE, Int.reduceLT, Int.reduceEq, Int.reduceNeg, Int.natCast_nonneg, Int.reduceToNat, ops, vals, dots, c38]
  refine gC_i (fun hb => Long_ok l (by simp at hb; unfold maxLen; omega)) trivial ?_
  simp (config := {contextual := true, maxSteps := 1000000}) only [go_sem, ints, intRows, iv_c, Nat.reduceAdd, Nat.reduceBEq, Nat.reduceEqDiff, Nat.reduceLeDiff, Nat.reduceLT, reduceIte, Nat.le_refl, true_or, or_true, and_self, Int.reduceLE, Int.reduceLT, Int.reduceEq, Int.reduceNeg, Int.natCast_nonneg, Int.reduceToNat, ops, vals, dots]
  have : (40 < (l.length : Int)) ↔ (40 < l.length) := by omega
  simp [heavyR, this]
def heavyO (x : Opx) : Bool := decide (30 < x.deps.length) || decide (100 < x.key.size) || heavyR x.vals || decide (100 < x.dots.length)
def heavyOs (l : List Opx) : Bool := decide (300 < l.length) || l.any heavyO
theorem HeavyOs_ok {fl : Fl} (l : List Opx) : FnB Tryz.prog 8 [ops fl l] (vb (heavyOs l)) := by
  refine fnB_intro cf8 (by simp) ?_
  simp (config := {contextual := true, maxSteps := 1000000}) only [go_sem, ints, intRows, iv_c, Nat.reduceAdd, Nat.reduceBEq, Nat.reduceEqDiff, Nat.reduceLeDiff, Nat.reduceLT, reduceIte, Nat.le_refl, true_or, or_true, and_self, Int.reduceLE, Int.reduceLT, Int.reduceEq, Int.reduceNeg, Int.natCast_nonneg, Int.reduceToNat, ops, vals, dots, c8]
  refine ⟨fun hb => ?_, fun hl => ?_⟩
  · simp at hb
    have : heavyOs l = true := by simp [heavyOs]; left; omega
    rw [this]
  simp at hl
  refine wpC_lp (fun env ob n => env 0 = ops fl l ∧ ∃ i : Nat, env 3 = vi i ∧ i ≤ l.length ∧ ∀ j, j < i → heavyO (gN l j) = false) (fun env ob n => (l.length - iv (env 3)).toNat) ?_ ?_
  · simp (config := {contextual := true, maxSteps := 1000000}) only [go_sem, ints, intRows, iv_c, Nat.reduceAdd, Nat.reduceBEq, Nat.reduceEqDiff, Nat.reduceLeDiff, Nat.reduceLT, reduceIte, Nat.le_refl, true_or, or_true, and_self, Int.reduceLE, Int.reduceLT, Int.reduceEq, Int.reduceNeg, Int.natCast_nonneg, Int.reduceToNat, ops, vals, dots]
    exact ⟨0, rfl, by omega, fun j hj => by omega⟩
  rintro env ob n ⟨h0, i, h3, hi, he⟩
  simp (config := {contextual := true, maxSteps := 1000000}) only [go_sem, ints, intRows, iv_c, Nat.reduceAdd, Nat.reduceBEq, Nat.reduceEqDiff, Nat.reduceLeDiff, Nat.reduceLT, reduceIte, Nat.le_refl, true_or, or_true, and_self, Int.reduceLE, Int.reduceLT, Int.reduceEq, Int.reduceNeg, Int.natCast_nonneg, Int.reduceToNat, ops, vals, dots, h0, h3]
  refine ⟨fun hlt => ?_, fun hge => ?_⟩
  · simp at hlt
    refine ⟨by omega, fun _ => by omega, fun _ => by omega, ?_⟩
    first | refine caS_i (HeavyR_ok (gN l i).vals) trivial ?_ | refine caD_i (HeavyR_ok (gN l i).vals) trivial ?_ | refine gC_i (fun _ => HeavyR_ok (gN l i).vals) trivial ?_ | refine gCD_i (fun _ => HeavyR_ok (gN l i).vals) trivial ?_ | refine caE_i (HeavyR_ok (gN l i).vals) trivial ?_
    simp (config := {contextual := true, maxSteps := 1000000}) only [go_sem, ints, intRows, iv_c, Nat.reduceAdd, Nat.reduceBEq, Nat.reduceEqDiff, Nat.reduceLeDiff, Nat.reduceLT, reduceIte, Nat.le_refl, true_or, or_true, and_self, Int.reduceLE, Int.reduceLT, Int.reduceEq, Int.reduceNeg, Int.natCast_nonneg, Int.reduceToNat, ops, vals, dots, h0, h3]
    have e : (decide (30 < ((gN l i).deps.length : Int)) || decide (100 < ((gN l i).key.size : Int)) || heavyR (gN l i).vals || decide (100 < ((gN l i).dots.length : Int))) = heavyO (gN l i) := by
      have a1 : (30 < ((gN l i).deps.length : Int)) ↔ 30 < (gN l i).deps.length := by omega
      have a2 : (100 < ((gN l i).key.size : Int)) ↔ 100 < (gN l i).key.size := by omega
      have a3 : (100 < ((gN l i).dots.length : Int)) ↔ 100 < (gN l i).dots.length := by omega
      simp [heavyO, a1, a2, a3]
    rw [e]
    refine ⟨fun _ => by omega, fun hb => ?_, fun hg => ⟨⟨i + 1, ?_, by omega, fun j hj => ?_⟩, ?_⟩⟩
    · have : heavyOs l = true := by
        rw [heavyOs, List.any_eq_true.2 ⟨_, gN_mem hlt, hb⟩]; simp
      rw [this]
    · rw [w64 (by omega)]; simp
    · by_cases hji : j = i
      · subst hji; exact hg
      · exact he j (by omega)
    · rw [w64 (by omega)]; omega
  · simp at hge
    have : heavyOs l = false := by
      rw [heavyOs, any_no fun j hj => he j (by omega)]
      simp; omega
    rw [this]
theorem HeavyForm_ok (cols : List Int) : FnB Tryz.prog 7 [.ag (tbV cols)] (vb (decide (30 < (cols.length : Int)))) := by
  refine fnB_intro cf7 (by simp) ?_
  simp (config := {contextual := true, maxSteps := 1000000}) only [go_sem, ints, intRows, iv_c, Nat.reduceAdd, Nat.reduceBEq, Nat.reduceEqDiff, Nat.reduceLeDiff, Nat.reduceLT, reduceIte, Nat.le_refl, true_or, or_true, and_self, Int.reduceLE, Int.reduceLT, Int.reduceEq, Int.reduceNeg, Int.natCast_nonneg, Int.reduceToNat, ops, vals, dots, c7, tbV]
theorem inRef_ok (n a b : Int) : FnB Tryz.prog 39 [vi n, vi a, vi b] (vb (decide (a ≤ n ∧ n ≤ b))) := by
  refine fnB_intro cf39 (by simp) ?_
  simp (config := {contextual := true, maxSteps := 1000000}) only [go_sem, ints, intRows, iv_c, Nat.reduceAdd, Nat.reduceBEq, Nat.reduceEqDiff, Nat.reduceLeDiff, Nat.reduceLT, reduceIte, Nat.le_refl, true_or, or_true, and_self, Int.reduceLE, Int.reduceLT, Int.reduceEq, Int.reduceNeg, Int.natCast_nonneg, Int.reduceToNat, ops, vals, dots, c39]
  rw [← Bool.decide_and]
theorem TypeR_ok (n : Int) : FnB Tryz.prog 40 [vi n] (vb (decide (2 ≤ n ∧ n ≤ 4))) := by
  refine fnB_intro cf40 (by simp) ?_
  simp (config := {contextual := true, maxSteps := 1000000}) only [go_sem, ints, intRows, iv_c, Nat.reduceAdd, Nat.reduceBEq, Nat.reduceEqDiff, Nat.reduceLeDiff, Nat.reduceLT, reduceIte, Nat.le_refl, true_or, or_true, and_self, Int.reduceLE, Int.reduceLT, Int.reduceEq, Int.reduceNeg, Int.natCast_nonneg, Int.reduceToNat, ops, vals, dots, c40]
  first | refine caS_i (inRef_ok n 2 4) trivial ?_ | refine caD_i (inRef_ok n 2 4) trivial ?_ | refine gC_i (fun _ => inRef_ok n 2 4) trivial ?_ | refine gCD_i (fun _ => inRef_ok n 2 4) trivial ?_ | refine caE_i (inRef_ok n 2 4) trivial ?_
  simp (config := {contextual := true, maxSteps := 1000000}) only [go_sem, ints, intRows, iv_c, Nat.reduceAdd, Nat.reduceBEq, Nat.reduceEqDiff, Nat.reduceLeDiff, Nat.reduceLT, reduceIte, Nat.le_refl, true_or, or_true, and_self, Int.reduceLE, Int.reduceLT, Int.reduceEq, Int.reduceNeg, Int.natCast_nonneg, Int.reduceToNat, ops, vals, dots]
theorem orV_ne {x : Int} {l : List Int} (h : x ≠ 0) : orV (x :: l) = x := by unfold orV; rw [if_pos h]
theorem orV_0 {l : List Int} : orV (0 :: l) = orV l := rfl
theorem FormsR_ok (cols : List Int) (hc : cols.length ≤ maxLen) : FnB Tryz.prog 10 [tbs .b [cols]] (vi (formE cols)) := by
  unfold maxLen at hc
  refine fnB_intro cf10 (by simp) ?_
  simp (config := {contextual := true, maxSteps := 1000000}) only [go_sem, ints, intRows, iv_c, Nat.reduceAdd, Nat.reduceBEq, Nat.reduceEqDiff, Nat.reduceLeDiff, Nat.reduceLT, reduceIte, Nat.le_refl, true_or, or_true, and_self, Int.reduceLE, Int.reduceLT, Int.reduceEq, Int.reduceNeg, Int.natCast_nonneg, Int.reduceToNat, ops, vals, dots, c10, tbs]
  first | refine caS_i (inRef_ok 1 1 3) trivial ?_ | refine caD_i (inRef_ok 1 1 3) trivial ?_ | refine gC_i (fun _ => inRef_ok 1 1 3) trivial ?_ | refine gCD_i (fun _ => inRef_ok 1 1 3) trivial ?_ | refine caE_i (inRef_ok 1 1 3) trivial ?_
  simp (config := {contextual := true, maxSteps := 1000000}) only [go_sem, ints, intRows, iv_c, Nat.reduceAdd, Nat.reduceBEq, Nat.reduceEqDiff, Nat.reduceLeDiff, Nat.reduceLT, reduceIte, Nat.le_refl, true_or, or_true, and_self, Int.reduceLE, Int.reduceLT, Int.reduceEq, Int.reduceNeg, Int.natCast_nonneg, Int.reduceToNat, ops, vals, dots, tbs]
  have w1' : IntKind.i64.wrap (0 + 1) = 1 := by decide
  refine wpC_lp (fun env ob n => env 0 = tbs .b [cols] ∧ (env 3 = vi 0 ∨ env 3 = vi 1 ∧ 1 ≤ cols.length ∧ cols.length ≤ 4)) (fun env ob n => (1 - iv (env 3)).toNat) ?_ ?_
  · simp (config := {contextual := true, maxSteps := 1000000}) only [go_sem, ints, intRows, iv_c, Nat.reduceAdd, Nat.reduceBEq, Nat.reduceEqDiff, Nat.reduceLeDiff, Nat.reduceLT, reduceIte, Nat.le_refl, true_or, or_true, and_self, Int.reduceLE, Int.reduceLT, Int.reduceEq, Int.reduceNeg, Int.natCast_nonneg, Int.reduceToNat, ops, vals, dots, tbs]
  rintro env ob n ⟨h0, h3 | ⟨h3, l1, l2⟩⟩
  · simp (config := {contextual := true, maxSteps := 1000000}) only [go_sem, ints, intRows, iv_c, Nat.reduceAdd, Nat.reduceBEq, Nat.reduceEqDiff, Nat.reduceLeDiff, Nat.reduceLT, reduceIte, Nat.le_refl, true_or, or_true, and_self, Int.reduceLE, Int.reduceLT, Int.reduceEq, Int.reduceNeg, Int.natCast_nonneg, Int.reduceToNat, ops, vals, dots, h0, h3, tbs, ia_h]
    first | refine caS_i (inRef_ok (cols.length : Int) 1 4) trivial ?_ | refine caD_i (inRef_ok (cols.length : Int) 1 4) trivial ?_ | refine gC_i (fun _ => inRef_ok (cols.length : Int) 1 4) trivial ?_ | refine gCD_i (fun _ => inRef_ok (cols.length : Int) 1 4) trivial ?_ | refine caE_i (inRef_ok (cols.length : Int) 1 4) trivial ?_
    simp (config := {contextual := true, maxSteps := 1000000}) only [go_sem, ints, intRows, iv_c, Nat.reduceAdd, Nat.reduceBEq, Nat.reduceEqDiff, Nat.reduceLeDiff, Nat.reduceLT, reduceIte, Nat.le_refl, true_or, or_true, and_self, Int.reduceLE, Int.reduceLT, Int.reduceEq, Int.reduceNeg, Int.natCast_nonneg, Int.reduceToNat, ops, vals, dots, h0, h3, tbs, ia_h, w1']
    refine ⟨fun hb => ?_, fun hb => ⟨.inr ⟨by simp at hb; omega, by simp at hb; omega⟩, by decide⟩⟩
    rw [formE, if_pos (by simp at hb; omega)]
  have hlen : ¬ ((cols.length : Int) < 1 ∨ 4 < (cols.length : Int)) := by omega
  have hf : formE cols = if cols.any (fun c => decide (c < 2) || decide (4 < c)) then 10 else 0 := by rw [formE, if_neg hlen]
  simp (config := {contextual := true, maxSteps := 1000000}) only [go_sem, ints, intRows, iv_c, Nat.reduceAdd, Nat.reduceBEq, Nat.reduceEqDiff, Nat.reduceLeDiff, Nat.reduceLT, reduceIte, Nat.le_refl, true_or, or_true, and_self, Int.reduceLE, Int.reduceLT, Int.reduceEq, Int.reduceNeg, Int.natCast_nonneg, Int.reduceToNat, ops, vals, dots, h0, h3, tbs]
  refine wpC_lp (fun env ob n => env 0 = tbs .b [cols] ∧ (env 4 = vi 0 ∨ env 4 = vi 1 ∧ cols.any (fun c => decide (c < 2) || decide (4 < c)) = false)) (fun env ob n => (1 - iv (env 4)).toNat) ?_ ?_
  · simp (config := {contextual := true, maxSteps := 1000000}) only [go_sem, ints, intRows, iv_c, Nat.reduceAdd, Nat.reduceBEq, Nat.reduceEqDiff, Nat.reduceLeDiff, Nat.reduceLT, reduceIte, Nat.le_refl, true_or, or_true, and_self, Int.reduceLE, Int.reduceLT, Int.reduceEq, Int.reduceNeg, Int.natCast_nonneg, Int.reduceToNat, ops, vals, dots, h0, tbs]
  clear h0 h3 env
  rintro env ob' n' ⟨h0, h4 | ⟨h4, hany⟩⟩
  · simp (config := {contextual := true, maxSteps := 1000000}) only [go_sem, ints, intRows, iv_c, Nat.reduceAdd, Nat.reduceBEq, Nat.reduceEqDiff, Nat.reduceLeDiff, Nat.reduceLT, reduceIte, Nat.le_refl, true_or, or_true, and_self, Int.reduceLE, Int.reduceLT, Int.reduceEq, Int.reduceNeg, Int.natCast_nonneg, Int.reduceToNat, ops, vals, dots, h0, h4, tbs]
    refine wpC_lp (fun env ob n => env 0 = tbs .b [cols] ∧ env 4 = vi 0 ∧ ∃ k : Nat, env 5 = vi k ∧ k ≤ cols.length ∧ ∀ j, j < k → (decide (gN cols j < 2) || decide (4 < gN cols j)) = false) (fun env ob n => (cols.length - iv (env 5)).toNat) ?_ ?_
    · simp (config := {contextual := true, maxSteps := 1000000}) only [go_sem, ints, intRows, iv_c, Nat.reduceAdd, Nat.reduceBEq, Nat.reduceEqDiff, Nat.reduceLeDiff, Nat.reduceLT, reduceIte, Nat.le_refl, true_or, or_true, and_self, Int.reduceLE, Int.reduceLT, Int.reduceEq, Int.reduceNeg, Int.natCast_nonneg, Int.reduceToNat, ops, vals, dots, tbs, h0, h4]
      exact ⟨0, rfl, Nat.zero_le _, fun j hj => by omega⟩
    clear h0 h4 env
    rintro env ob'' n'' ⟨h0, h4, k, h5, hk, hj⟩
    simp (config := {contextual := true, maxSteps := 1000000}) only [go_sem, ints, intRows, iv_c, Nat.reduceAdd, Nat.reduceBEq, Nat.reduceEqDiff, Nat.reduceLeDiff, Nat.reduceLT, reduceIte, Nat.le_refl, true_or, or_true, and_self, Int.reduceLE, Int.reduceLT, Int.reduceEq, Int.reduceNeg, Int.natCast_nonneg, Int.reduceToNat, ops, vals, dots, h0, h4, h5, tbs, ia_h]
    have w1 : IntKind.i64.wrap ((k : Int) + 1) = ((k + 1 : Nat) : Int) := by rw [w64 (by omega)]; omega
    refine ⟨fun hlt => ?_, fun hge => ?_⟩
    · simp at hlt
      repeat (refine And.intro (by omega) ?_)
      first | refine caS_i (TypeR_ok (gN cols k)) trivial ?_ | refine caD_i (TypeR_ok (gN cols k)) trivial ?_ | refine gC_i (fun _ => TypeR_ok (gN cols k)) trivial ?_ | refine gCD_i (fun _ => TypeR_ok (gN cols k)) trivial ?_ | refine caE_i (TypeR_ok (gN cols k)) trivial ?_
      simp (config := {contextual := true, maxSteps := 1000000}) only [go_sem, ints, intRows, iv_c, Nat.reduceAdd, Nat.reduceBEq, Nat.reduceEqDiff, Nat.reduceLeDiff, Nat.reduceLT, reduceIte, Nat.le_refl, true_or, or_true, and_self, Int.reduceLE, Int.reduceLT, Int.reduceEq, Int.reduceNeg, Int.natCast_nonneg, Int.reduceToNat, ops, vals, dots, h0, h4, h5, tbs, ia_h, w1]
      refine ⟨fun hb => ?_, fun hb => ⟨⟨k + 1, rfl, by omega, fun j hj2 => ?_⟩, by omega⟩⟩
      · rw [hf, if_pos (List.any_eq_true.2 ⟨gN cols k, gN_mem hlt, by simp at hb ⊢; omega⟩)]
      · by_cases hjk : j = k
        · subst hjk; simp at hb ⊢; omega
        · exact hj j (by omega)
    · simp at hge
      have ha : cols.any (fun c => decide (c < 2) || decide (4 < c)) = false := any_no fun j hj2 => hj j (by omega)
      rw [w1']
      exact ⟨.inr ⟨rfl, ha⟩, by decide⟩
  · simp (config := {contextual := true, maxSteps := 1000000}) only [go_sem, ints, intRows, iv_c, Nat.reduceAdd, Nat.reduceBEq, Nat.reduceEqDiff, Nat.reduceLeDiff, Nat.reduceLT, reduceIte, Nat.le_refl, true_or, or_true, and_self, Int.reduceLE, Int.reduceLT, Int.reduceEq, Int.reduceNeg, Int.natCast_nonneg, Int.reduceToNat, ops, vals, dots, h0, h4, tbs]
    rw [hf, hany]; rfl
end Go.Proofs.YtcmonjmoapjpkaaGreat.D
end
section
set_option linter.unusedVariables false
set_option linter.unusedSimpArgs false
set_option linter.constructorNameAsVariable false
set_option maxRecDepth 100000

/- Tables by operations: plain facts. No condition. -/
namespace Go.Proofs.YtcmonjmoapjpkaaGreat.D
open Go Go.Proofs

theorem apply_code {cols : List Int} {l : List Rwx} {x : Opz} (hck : checkT cols l = 0) : (opE cols (tab0 x) = 0 ∧ (applyT cols l x).2.2.2 = 0) ∨ (opE cols (tab0 x) ≠ 0 ∧ applyT cols l x = ([], [], [], 1)) := by
  by_cases ho : opE cols (tab0 x) = 0
  · exact .inl ⟨ho, by rw [apply_e hck ho]⟩
  · exact .inr ⟨ho, by rw [applyT, if_neg (by simpa using hck), if_pos ho]⟩
theorem opR {cols : List Int} {x : Opz} (ho : opE cols (tab0 x) = 0) : ∃ n, n ≤ 5 ∧ OpR_ n cols (tab0 x) := by
  obtain ⟨_, o1, o2, o3⟩ := opE_0 ho
  exact ⟨_, o2, rightO_1 o3⟩
theorem chgT_key (r : Rwx) (x : Opz) : (chgT r x).key = r.key := by
  unfold chgT; repeat' split
  all_goals rfl
/-- What the rows behind an operation are. -/
theorem apply_row {cols : List Int} {l : List Rwx} {x : Opz} (hck : checkT cols l = 0) (ho : opE cols (tab0 x) = 0) : ∀ r' ∈ (applyT cols l x).1, (r' ∈ l ∧ r'.key ≠ x.key) ∨ ∃ R, r' = chgT R x ∧ R.key = x.key ∧ (R ∈ l ∨ R = ⟨x.key, [], List.replicate cols.length zCel⟩ ∧ ∀ r ∈ l, r.key ≠ x.key) ∧ Right cols R := by
  have hr := (chk_0 hck).2
  obtain ⟨n, hn, o⟩ := opR ho
  obtain ⟨w1, w2⟩ := withK_spec hr o.key
  have w1 : rowsB cols (withK cols l x.key) = true := w1
  have w2 : (gN (withK cols l x.key) (posK l x.key)).key = x.key := w2
  have hk := withK_lt cols l x.key
  rw [apply_e hck ho]
  intro r' hr'
  obtain ⟨i, hi, rfl⟩ := gN_mem_iff.1 hr'
  have hi' : i < (withK cols l x.key).length := by simpa using hi
  by_cases hik : i = posK l x.key
  · right
    subst hik
    refine ⟨gN (withK cols l x.key) (posK l x.key), gN_set hk _, w2, ?_, right_iff.1 (rows_at w1 hk).1⟩
    rcases withK_at cols l x.key with ⟨h1, h2⟩ | ⟨h1, _, h3⟩
    · left; rw [h2]; exact gN_mem (isK_true h1).1
    · right
      refine ⟨h3, fun r hrl e => ?_⟩
      obtain ⟨j, hj, rfl⟩ := gN_mem_iff.1 hrl
      have := (posK_at hr hj).2
      rw [e, h1] at this; cases this
  · left
    have e : gN ((withK cols l x.key).set (posK l x.key) (chgT (gN (withK cols l x.key) (posK l x.key)) x)) i = gN (withK cols l x.key) i := by
      rw [gN_eq hi, gN_eq hi', List.getElem_set_ne (by omega)]
    rw [e]
    refine ⟨withK_old hi' hik, fun e2 => hik (keys_inj w1 hi' hk (e2.trans w2.symm))⟩
/-- No row goes. -/
theorem apply_keep {cols : List Int} {l : List Rwx} {x : Opz} (hck : checkT cols l = 0) (ho : opE cols (tab0 x) = 0) : (∃ r' ∈ (applyT cols l x).1, r'.key = x.key) ∧ ∀ r ∈ l, ∃ r' ∈ (applyT cols l x).1, r'.key = r.key := by
  have hr := (chk_0 hck).2
  obtain ⟨n, hn, o⟩ := opR ho
  obtain ⟨w1, w2⟩ := withK_spec hr o.key
  have w2 : (gN (withK cols l x.key) (posK l x.key)).key = x.key := w2
  have hk := withK_lt cols l x.key
  rw [apply_e hck ho]
  have hm : ∀ i, i < (withK cols l x.key).length → ∃ r' ∈ (withK cols l x.key).set (posK l x.key) (chgT (gN (withK cols l x.key) (posK l x.key)) x), r'.key = (gN (withK cols l x.key) i).key := fun i hi => by
    refine ⟨gN ((withK cols l x.key).set (posK l x.key) (chgT (gN (withK cols l x.key) (posK l x.key)) x)) i, gN_mem (by simpa using hi), ?_⟩
    by_cases hik : i = posK l x.key
    · subst hik; rw [gN_set hk, chgT_key]
    · rw [gN_eq (by simpa using hi), List.getElem_set_ne (by omega), ← gN_eq hi]
  refine ⟨?_, fun r hrl => ?_⟩
  · obtain ⟨r', h1, h2⟩ := hm _ hk
    exact ⟨r', h1, h2.trans w2⟩
  · have : r ∈ withK cols l x.key := by
      rcases withK_at cols l x.key with ⟨_, h2⟩ | ⟨_, h2, _⟩
      · rw [h2]; exact hrl
      · rw [h2]
        have : l = l.take (posK l x.key) ++ l.drop (posK l x.key) := (List.take_append_drop _ _).symm
        rw [this] at hrl
        rcases List.mem_append.1 hrl with h | h
        · exact List.mem_append_left _ h
        · exact List.mem_append_right _ (List.mem_cons_of_mem _ h)
    obtain ⟨i, hi, rfl⟩ := gN_mem_iff.1 this
    exact hm i hi
theorem apply_len {cols : List Int} {l : List Rwx} {x : Opz} (hck : checkT cols l = 0) (ho : opE cols (tab0 x) = 0) : (applyT cols l x).1.length ≤ l.length + 1 := by
  rw [apply_e hck ho, List.length_set, withK_len]; split <;> omega
/-- Times, in order. -/
def ltT (a b : St3) : Prop := a.p < b.p ∨ a.p = b.p ∧ (a.l < b.l ∨ a.l = b.l ∧ a.q < b.q)
theorem cmpT_r (a b : St3) : (cmpT a b = -1 ∧ ltT a b) ∨ (cmpT a b = 0 ∧ a = b) ∨ (cmpT a b = 1 ∧ ltT b a) := by
  unfold cmpT ltT
  rcases cmpI_r' a.p b.p with ⟨e, h⟩ | ⟨e, h⟩ | ⟨e, h⟩
  · rw [e, orV_ne (by omega)]; exact .inl ⟨rfl, .inl h⟩
  · rw [e, orV_0]
    rcases cmpI_r' a.l b.l with ⟨e2, h2⟩ | ⟨e2, h2⟩ | ⟨e2, h2⟩
    · rw [e2, orV_ne (by omega)]; exact .inl ⟨rfl, .inr ⟨h, .inl h2⟩⟩
    · rw [e2, orV_0]
      rcases cmpI_r' a.q b.q with ⟨e3, h3⟩ | ⟨e3, h3⟩ | ⟨e3, h3⟩
      · rw [e3, orV_ne (by omega)]; exact .inl ⟨rfl, .inr ⟨h, .inr ⟨h2, h3⟩⟩⟩
      · rw [e3, orV_0]; refine .inr (.inl ⟨rfl, ?_⟩)
        cases a; cases b; simp at h h2 h3 ⊢; exact ⟨h, h2, h3⟩
      · rw [e3, orV_ne (by omega)]; exact .inr (.inr ⟨rfl, .inr ⟨h.symm, .inr ⟨h2.symm, h3⟩⟩⟩)
    · rw [e2, orV_ne (by omega)]; exact .inr (.inr ⟨rfl, .inr ⟨h.symm, .inl h2⟩⟩)
  · rw [e, orV_ne (by omega)]; exact .inr (.inr ⟨rfl, .inl h⟩)
theorem ltT_trans {a b c : St3} (h1 : ltT a b) (h2 : ltT b c) : ltT a c := by unfold ltT at *; omega
theorem ltT_irr (a : St3) : ¬ ltT a a := by unfold ltT; omega
/-- Not later. -/
def leT (a b : St3) : Prop := ¬ 0 < cmpT a b
theorem leT_iff {a b : St3} : leT a b ↔ ltT a b ∨ a = b := by
  unfold leT
  rcases cmpT_r a b with ⟨e, h⟩ | ⟨e, h⟩ | ⟨e, h⟩
  · exact ⟨fun _ => .inl h, fun _ => by omega⟩
  · exact ⟨fun _ => .inr h, fun _ => by omega⟩
  · refine ⟨fun h2 => by omega, ?_⟩
    rintro (h2 | h2)
    · exact (ltT_irr _ (ltT_trans h h2)).elim
    · rw [h2] at h; exact (ltT_irr _ h).elim
theorem leT_refl (a : St3) : leT a a := leT_iff.2 (.inr rfl)
theorem leT_trans {a b c : St3} (h1 : leT a b) (h2 : leT b c) : leT a c := by
  rw [leT_iff] at *
  rcases h1 with h1 | rfl
  · rcases h2 with h2 | rfl
    · exact .inl (ltT_trans h1 h2)
    · exact .inl h1
  · exact h2
theorem cmpT_neg {a b : St3} : cmpT a b < 0 ↔ ltT a b := by
  rcases cmpT_r a b with ⟨e, h⟩ | ⟨e, h⟩ | ⟨e, h⟩
  · exact ⟨fun _ => h, fun _ => by omega⟩
  · exact ⟨fun h2 => by omega, fun h2 => by rw [h] at h2; exact (ltT_irr _ h2).elim⟩
  · exact ⟨fun h2 => by omega, fun h2 => (ltT_irr _ (ltT_trans h h2)).elim⟩
theorem leT_0 {s : St3} (h : okS s = true) : leT ⟨0, 0, 0⟩ s := by
  rw [leT_iff]
  unfold okS at h
  simp at h
  unfold ltT
  rcases s with ⟨p, l, q⟩
  simp at h ⊢
  omega
theorem cell_zero {c : Cel} {t : Int} (h : cellB c t = true) (hw : writ c = false) : c.st = ⟨0, 0, 0⟩ := by
  unfold cellB at h
  rw [hw] at h
  unfold isZ at h
  simp at h
  rcases c with ⟨v, ⟨p, l, q⟩, d⟩
  simp at h ⊢
  exact ⟨h.2.2.2.1, h.2.2.2.2.1, h.2.2.2.2.2.1⟩
/-- A cell that is written over is not behind what it was, nor behind what writes it. -/
theorem wr_late {c : Cel} {v : Vl} {x : Opz} {t : Int} (hc : cellB c t = true) (hx : okS x.st = true) : leT c.st (wrCel c v x).st ∧ leT x.st (wrCel c v x).st := by
  unfold wrCel
  split
  · rename_i h
    refine ⟨?_, leT_refl _⟩
    unfold wrB at h
    cases hw : writ c with
    | false => show leT c.st x.st; rw [cell_zero hc hw]; exact leT_0 hx
    | true =>
      rw [hw] at h
      have : cmpT c.st x.st < 0 := by simpa using h
      exact leT_iff.2 (.inl (cmpT_neg.1 this))
  · rename_i h
    refine ⟨leT_refl _, ?_⟩
    unfold wrB at h
    simp only [Bool.or_eq_true, decide_eq_true_eq, not_or] at h
    have h2 := h.2
    rcases cmpT_r c.st x.st with ⟨e, _⟩ | ⟨_, e⟩ | ⟨_, e⟩
    · omega
    · exact leT_iff.2 (.inr e.symm)
    · exact leT_iff.2 (.inl e)
end Go.Proofs.YtcmonjmoapjpkaaGreat.D
end
section
set_option linter.unusedVariables false
set_option linter.unusedSimpArgs false
set_option linter.constructorNameAsVariable false
set_option maxRecDepth 100000

/- What is there: plain law. No condition. -/
namespace Go.Proofs.YtcmonjmoapjpkaaGreat.D
open Go Go.Proofs

@[reducible] def oz (x : Opx) : Opz := ⟨x, false⟩
def delS (d : Dt) (t : Bool) (l : List Dt) : Bool := l.foldl (fun t e => t && !sameD e d) t
def thereS (key : ByteArray) (d : Dt) (t : Bool) (x : Opx) : Bool := if x.key.toList = key.toList then (if x.kind = 3 then delS d (if x.kind = 1 && sameD x.dot d then true else t) x.dots else (if x.kind = 1 && sameD x.dot d then true else t)) else t
def thereB (D : List Opx) (key : ByteArray) (d : Dt) : Bool := D.foldl (thereS key d) false
theorem thereB_snoc (D : List Opx) (x : Opx) (key : ByteArray) (d : Dt) : thereB (D ++ [x]) key d = thereS key d (thereB D key d) x := by
  unfold thereB; rw [List.foldl_append]; rfl
theorem delS_t {d : Dt} {l : List Dt} (h : inD l d = false) : delS d true l = true := by
  unfold delS
  induction l with
  | nil => rfl
  | cons e l ih =>
    unfold inD at h ih
    rw [List.any_cons, Bool.or_eq_false_iff] at h
    rw [List.foldl_cons]
    have : sameD e d = false := by
      have := h.1
      unfold eqD at this
      unfold sameD
      simp at this ⊢
      intro h1 h2; exact this h1.symm h2.symm
    rw [this]
    exact ih h.2
/-- What wrote a cell of a row. -/
def wroteB (key : ByteArray) (c : Nat) (x : Opx) : Prop := x.key = key ∧ (x.kind = 1 ∨ x.kind = 2 ∧ x.col = c)
structure ThI (cols : List Int) (D : List Opx) (rows : List Rwx) : Prop where
  chk : checkT cols rows = 0
  few : rows.length ≤ D.length
  keyed : ∀ x ∈ D, ∃ r ∈ rows, r.key = x.key
  short : ∀ r ∈ rows, r.dots.length ≤ D.length
  dots : ∀ r ∈ rows, ∀ d ∈ r.dots, thereB D r.key d = true
  late : ∀ r ∈ rows, ∀ c, c < r.cells.length → ∀ x ∈ D, wroteB r.key c x → leT x.st (gN r.cells c).st
theorem ThI.nil {cols : List Int} (h : formE cols = 0) : ThI cols [] [] := ⟨chk_nil h, Nat.le_refl _, (fun x hx => nomatch hx), (fun r hr => nomatch hr), (fun r hr => nomatch hr), (fun r hr => nomatch hr)⟩
theorem ThI.step {cols : List Int} {D : List Opx} {rows : List Rwx} {x : Opx} (h : ThI cols D rows) (ho : opE cols (tab0 (oz x)) = 0) : ThI cols (D ++ [x]) (applyT cols rows (oz x)).1 := by
  have hchk := apply_right h.chk ho
  have hrow := apply_row h.chk ho
  obtain ⟨hk1, hk2⟩ := apply_keep h.chk ho
  have hlen := apply_len h.chk ho
  obtain ⟨n, hn, o⟩ := opR ho
  have hw := whole_name o.whole hn
  have hst : okS x.st = true := hw.2
  -- what the row of the operation's key was
  have hold : ∀ R : Rwx, (R ∈ rows ∨ R = ⟨x.key, [], List.replicate cols.length zCel⟩ ∧ ∀ r ∈ rows, r.key ≠ x.key) → R.key = x.key → (R.dots.length ≤ D.length) ∧ (∀ d ∈ R.dots, thereB D R.key d = true) ∧ ∀ c, c < R.cells.length → ∀ y ∈ D, wroteB R.key c y → leT y.st (gN R.cells c).st := by
    rintro R (hR | ⟨rfl, hno⟩) hRk
    · exact ⟨h.short R hR, h.dots R hR, h.late R hR⟩
    · refine ⟨Nat.zero_le _, (fun d hd => nomatch hd), fun c hc y hy hwr => ?_⟩
      obtain ⟨r, hr, he⟩ := h.keyed y hy
      exact (hno r hr (he.trans hwr.1)).elim
  refine ⟨hchk, by rw [List.length_append]; have := h.few; simp; omega, fun y hy => ?_, fun r hr => ?_, fun r hr d hd => ?_, fun r hr c hc y hy hwr => ?_⟩
  · rcases List.mem_append.1 hy with hy | hy
    · obtain ⟨r, hr, he⟩ := h.keyed y hy
      obtain ⟨r', hr', he'⟩ := hk2 r hr
      exact ⟨r', hr', he'.trans he⟩
    · obtain ⟨r', hr', he'⟩ := hk1
      simp at hy; subst hy
      exact ⟨r', hr', he'⟩
  · rw [List.length_append]
    rcases hrow r hr with ⟨hl, _⟩ | ⟨R, rfl, hRk, hRR, hRt⟩
    · have := h.short r hl; simp; omega
    · have hR1 := (hold R hRR hRk).1
      have hc : (chgT R (oz x)).dots.length ≤ R.dots.length + 1 := by
        unfold chgT
        split
        · exact (insD_pos _ _).2
        · split
          · exact Nat.le_succ _
          · split
            · exact Nat.le_trans (List.length_filter_le _ _) (Nat.le_succ _)
            · exact Nat.le_succ _
      simp; omega
  · rw [thereB_snoc]
    rcases hrow r hr with ⟨hl, hne⟩ | ⟨R, rfl, hRk, hRR, hRt⟩
    · unfold thereS
      rw [if_neg (by rw [toL_iff]; exact fun e => hne e.symm)]
      exact h.dots r hl d hd
    · rw [chgT_key]
      have hR2 := (hold R hRR hRk).2.1
      unfold thereS
      rw [if_pos (by rw [toL_iff]; exact hRk.symm)]
      rcases o.kind with ⟨k, _⟩ | ⟨k, _⟩ | ⟨k, _⟩
      · have k : x.kind = 1 := k
        rw [if_neg (by omega)]
        have e : chgT R (oz x) = ⟨R.key, insD R.dots x.dot, wrs R.cells x.vals (oz x)⟩ := by rw [chgT, if_pos k]
        rw [e] at hd
        split
        · rfl
        · rename_i hns
          rcases ((insD_spec (dotsB_iff.1 hRt.dots).2).2 d).1 hd with e | e
          · refine (hns ?_).elim
            subst e; simp [k, sameD]
          · exact hR2 d e
      · have k : x.kind = 2 := k
        rw [if_neg (by omega), if_neg (by simp; omega)]
        have e : chgT R (oz x) = ⟨R.key, R.dots, R.cells.set x.col.toNat (wrCel (gN R.cells x.col.toNat) (gN x.vals 0) (oz x))⟩ := by rw [chgT, if_neg (by show ¬ x.kind = 1; omega), if_pos k]
        rw [e] at hd
        exact hR2 d hd
      · have k : x.kind = 3 := k
        rw [if_pos k, if_neg (by simp; omega)]
        have e : chgT R (oz x) = ⟨R.key, R.dots.filter fun d => !inD x.dots d, R.cells⟩ := by rw [chgT, if_neg (by show ¬ x.kind = 1; omega), if_neg (by show ¬ x.kind = 2; omega), if_pos k]
        rw [e] at hd
        obtain ⟨d1, d2⟩ := List.mem_filter.1 hd
        rw [hR2 d d1]
        exact delS_t (by simpa using d2)
  · rcases hrow r hr with ⟨hl, hne⟩ | ⟨R, rfl, hRk, hRR, hRt⟩
    · rcases List.mem_append.1 hy with hy | hy
      · exact h.late r hl c hc y hy hwr
      · simp at hy; subst hy
        exact (hne hwr.1.symm).elim
    · have hR3 := (hold R hRR hRk).2.2
      obtain ⟨ca, cb⟩ := allG_at hRt.cells
      rw [chgT_key] at hwr
      rcases o.kind with ⟨k, k2, _⟩ | ⟨k, k2, k3, k4, _⟩ | ⟨k, _⟩
      · have k : x.kind = 1 := k
        have e : chgT R (oz x) = ⟨R.key, insD R.dots x.dot, wrs R.cells x.vals (oz x)⟩ := by rw [chgT, if_pos k]
        rw [e] at hc ⊢
        have hc : c < R.cells.length := by simpa [wrs_len] using hc
        have hvl : x.vals.length = cols.length := small_len k2
        show leT y.st (gN (wrs R.cells x.vals (oz x)) c).st
        rw [wrs_at hc, if_pos (by omega)]
        obtain ⟨l1, l2⟩ := wr_late (v := gN x.vals c) (x := oz x) (cb c hc) hst
        rcases List.mem_append.1 hy with hy | hy
        · exact leT_trans (hR3 c hc y hy hwr) l1
        · simp at hy; subst hy; exact l2
      · have k : x.kind = 2 := k
        have k2 : 0 ≤ x.col := k2
        have k3 : x.col < cols.length := k3
        have e : chgT R (oz x) = ⟨R.key, R.dots, R.cells.set x.col.toNat (wrCel (gN R.cells x.col.toNat) (gN x.vals 0) (oz x))⟩ := by rw [chgT, if_neg (by show ¬ x.kind = 1; omega), if_pos k]
        rw [e] at hc ⊢
        have hc : c < R.cells.length := by simpa using hc
        show leT y.st (gN (R.cells.set x.col.toNat (wrCel (gN R.cells x.col.toNat) (gN x.vals 0) (oz x))) c).st
        by_cases hcc : c = x.col.toNat
        · subst hcc
          rw [gN_set hc]
          obtain ⟨l1, l2⟩ := wr_late (v := gN x.vals 0) (x := oz x) (cb _ hc) hst
          rcases List.mem_append.1 hy with hy | hy
          · exact leT_trans (hR3 _ hc y hy hwr) l1
          · simp at hy; subst hy; exact l2
        · have e2 : gN (R.cells.set x.col.toNat (wrCel (gN R.cells x.col.toNat) (gN x.vals 0) (oz x))) c = gN R.cells c := by
            rw [gN_eq (by simpa using hc), List.getElem_set_ne (by omega), ← gN_eq hc]
          rw [e2]
          rcases List.mem_append.1 hy with hy | hy
          · exact hR3 c hc y hy hwr
          · simp at hy; subst hy
            rcases hwr.2 with q | ⟨_, q⟩ <;> omega
      · have k : x.kind = 3 := k
        have e : chgT R (oz x) = ⟨R.key, R.dots.filter fun d => !inD x.dots d, R.cells⟩ := by rw [chgT, if_neg (by show ¬ x.kind = 1; omega), if_neg (by show ¬ x.kind = 2; omega), if_pos k]
        rw [e] at hc ⊢
        rcases List.mem_append.1 hy with hy | hy
        · exact hR3 c hc y hy hwr
        · simp at hy; subst hy
          rcases hwr.2 with q | ⟨q, _⟩ <;> omega
/-- A row that is there. -/
def thr (r : Rwx) : Bool := decide (0 < r.dots.length)
theorem seen_len {cols : List Int} {rows : List Rwx} (h : checkT cols rows = 0) : (seenT cols rows).length = (rows.filter thr).length := by
  unfold seenT
  rw [if_neg (by rw [h]; simp), List.length_map]; rfl
end Go.Proofs.YtcmonjmoapjpkaaGreat.D
end
section
set_option linter.unusedVariables false
set_option linter.unusedSimpArgs false
set_option linter.constructorNameAsVariable false
set_option maxRecDepth 100000

/- A row is seen just if it has dots: the walk. No condition. -/
namespace Go.Proofs.YtcmonjmoapjpkaaGreat.D
open Go Go.Proofs

theorem StepO_ok {cols : List Int} {D : List Opx} {l : List Rwx} {x : Opx} (h : ThI cols D l) (hD : D.length ≤ 300) (hv : x.vals.length ≤ maxLen) (hd : x.dots.length ≤ maxLen) (hc : cols.length ≤ maxLen) : FnB Tryz.prog 14 [.ag (tbV cols), rws .b l, .ag (opV x)] (.tp [rws .o (applyT cols l (oz x)).1, vals .b (applyT cols l (oz x)).2.1, vals .b (applyT cols l (oz x)).2.2.1, vi (applyT cols l (oz x)).2.2.2]) := by
  have hf := h.few
  have hs := fun r hr => h.short r hr
  have hcl : ∀ r ∈ l, r.cells.length ≤ maxLen := fun r hr => by
    obtain ⟨i, hi, rfl⟩ := gN_mem_iff.1 hr
    have := (allG_at (right_iff.1 (rows_at (chk_0 h.chk).2 hi).1).cells).1
    omega
  exact Apply_ok (fl := .b) cols l (oz x) (by unfold maxLen; omega) (fun r hr => ⟨by have := hs r hr; unfold maxLen; omega, hcl r hr⟩) (fun r hr => by have := hs r hr; unfold maxLen; omega) hv hd
@[go_sem] theorem op_bsl_opV (z : List V) (x : Opx) (ob : OB) (i : Nat) (hz : (z.length == 12) = true) : opF (.bsl 12 z [0] 1 true) [.ag (opV x)] ob i = some (.im .b [opV x], []) := op_bsl_r ob i (by simpa using hz) (opV_row x)
@[go_sem] theorem len_rws' (f : Fl) (l : List Rwx) : lenOf (rws f l) = some l.length := by simp [rws, lenOf]
/-- Rows, or none yet. -/
def RZ (v : V) (l : List Rwx) : Prop := v = rws .b l ∨ v = .z ∧ l = []
theorem RZ.res {v : V} {l : List Rwx} (h : RZ v l) (ob : OB) (m : Nat) : resV ob (m + 4) v = rws .b l := by
  rcases h with e | ⟨e, rfl⟩ <;> rw [e]
  · simp only [rws, resV, List.map_map]
    show V.im .b _ = _
    congr 1
    exact List.map_congr_left fun r _ => res_rw ob m r
  · rfl
theorem RZ.len {v : V} {l : List Rwx} (h : RZ v l) : lenOf v = some l.length := by
  rcases h with e | ⟨e, rfl⟩ <;> rw [e]
  · exact len_rws' .b l
  · rfl
theorem RZ.at {v : V} {l : List Rwx} (h : RZ v l) {k : Nat} (hk : k < l.length) : v = rws .b l := by
  rcases h with e | ⟨e, rfl⟩
  · exact e
  · simp at hk
set_option maxHeartbeats 4000000 in
attribute [-go_sem] cnC_b in
/-- A table's form that may be handed in. -/
abbrev Tb := List Int
def gTb (c : Tb) : Prop := gList (gInt .i64) c
def gOpx (x : Opx) : Prop := gDt x.dot ∧ gList (gInt .i64) x.deps ∧ gSt3 x.st ∧ gInt .i64 x.kind ∧ gInt .i64 x.table ∧ gStr x.key ∧ gInt .i64 x.col ∧ gList gVl x.vals ∧ gList gDt x.dots
end Go.Proofs.YtcmonjmoapjpkaaGreat.D
end
section
set_option linter.unusedVariables false
set_option linter.unusedSimpArgs false
set_option linter.constructorNameAsVariable false
set_option maxRecDepth 100000

/- Whether an operation may be, as the page says. No condition. -/
namespace Go.Proofs.YtcmonjmoapjpkaaGreat.D
open Go Go.Proofs

theorem RValueE_ok (v : Vl) : FnB Tryz.prog 105 [.ag (vlV v)] (vb (okVl v)) := by
  refine fnB_intro cf105 (by simp) ?_
  simp (config := {contextual := true, maxSteps := 1000000}) only [go_sem, ints, intRows, iv_c, Nat.reduceAdd, Nat.reduceBEq, Nat.reduceEqDiff, Nat.reduceLeDiff, Nat.reduceLT, reduceIte, Nat.le_refl, true_or, or_true, and_self, Int.reduceLE, Int.reduceLT, Int.reduceEq, Int.reduceNeg, Int.natCast_nonneg, Int.reduceToNat, ops, vals, dots, c105, vlV]
  refine ⟨fun h1 => ?_, fun h1 => ⟨fun h2 => ?_, fun h2 => ⟨fun h3 => ?_, fun h3 => ⟨fun h4 => ?_, fun h4 => ?_⟩⟩⟩⟩
  · unfold okVl; rw [if_pos (by simpa using h1)]
  · first | refine caS_i (inRef_ok v.i 0 1) trivial ?_ | refine caD_i (inRef_ok v.i 0 1) trivial ?_ | refine gC_i (fun _ => inRef_ok v.i 0 1) trivial ?_ | refine gCD_i (fun _ => inRef_ok v.i 0 1) trivial ?_ | refine caE_i (inRef_ok v.i 0 1) trivial ?_
    simp (config := {contextual := true, maxSteps := 1000000}) only [go_sem, ints, intRows, iv_c, Nat.reduceAdd, Nat.reduceBEq, Nat.reduceEqDiff, Nat.reduceLeDiff, Nat.reduceLT, reduceIte, Nat.le_refl, true_or, or_true, and_self, Int.reduceLE, Int.reduceLT, Int.reduceEq, Int.reduceNeg, Int.natCast_nonneg, Int.reduceToNat, ops, vals, dots]
    unfold okVl; rw [if_neg (by simpa using h1), if_pos (by simpa using h2)]
    have : decide (0 ≤ v.i ∧ v.i ≤ 1) = (decide (v.i = 0) || decide (v.i = 1)) := by rw [← Bool.decide_or]; congr 1; apply propext; omega
    rw [this]
  · first | refine caS_i (inRef_ok v.i (-1152921504606846976) 1152921504606846976) trivial ?_ | refine caD_i (inRef_ok v.i (-1152921504606846976) 1152921504606846976) trivial ?_ | refine gC_i (fun _ => inRef_ok v.i (-1152921504606846976) 1152921504606846976) trivial ?_ | refine gCD_i (fun _ => inRef_ok v.i (-1152921504606846976) 1152921504606846976) trivial ?_ | refine caE_i (inRef_ok v.i (-1152921504606846976) 1152921504606846976) trivial ?_
    simp (config := {contextual := true, maxSteps := 1000000}) only [go_sem, ints, intRows, iv_c, Nat.reduceAdd, Nat.reduceBEq, Nat.reduceEqDiff, Nat.reduceLeDiff, Nat.reduceLT, reduceIte, Nat.le_refl, true_or, or_true, and_self, Int.reduceLE, Int.reduceLT, Int.reduceEq, Int.reduceNeg, Int.natCast_nonneg, Int.reduceToNat, ops, vals, dots]
    unfold okVl; rw [if_neg (by simpa using h1), if_neg (by simpa using h2), if_pos (by simpa using h3)]
  · unfold okVl; rw [if_neg (by simpa using h1), if_neg (by simpa using h2), if_neg (by simpa using h3), if_pos (by simpa using h4)]
  · unfold okVl; rw [if_neg (by simpa using h1), if_neg (by simpa using h2), if_neg (by simpa using h3), if_neg (by simpa using h4)]
theorem RFits_ok (v : Vl) (t : Int) : FnB Tryz.prog 70 [.ag (vlV v), vi t] (vb (fitsV v t)) := by
  refine fnB_intro cf70 (by simp) ?_
  simp (config := {contextual := true, maxSteps := 1000000}) only [go_sem, ints, intRows, iv_c, Nat.reduceAdd, Nat.reduceBEq, Nat.reduceEqDiff, Nat.reduceLeDiff, Nat.reduceLT, reduceIte, Nat.le_refl, true_or, or_true, and_self, Int.reduceLE, Int.reduceLT, Int.reduceEq, Int.reduceNeg, Int.natCast_nonneg, Int.reduceToNat, ops, vals, dots, c70]
  first | refine caS_i (TypeR_ok t) trivial ?_ | refine caD_i (TypeR_ok t) trivial ?_ | refine gC_i (fun _ => TypeR_ok t) trivial ?_ | refine gCD_i (fun _ => TypeR_ok t) trivial ?_ | refine caE_i (TypeR_ok t) trivial ?_
  simp (config := {contextual := true, maxSteps := 1000000}) only [go_sem, ints, intRows, iv_c, Nat.reduceAdd, Nat.reduceBEq, Nat.reduceEqDiff, Nat.reduceLeDiff, Nat.reduceLT, reduceIte, Nat.le_refl, true_or, or_true, and_self, Int.reduceLE, Int.reduceLT, Int.reduceEq, Int.reduceNeg, Int.natCast_nonneg, Int.reduceToNat, ops, vals, dots]
  first | refine caS_i (RValueE_ok v) trivial ?_ | refine caD_i (RValueE_ok v) trivial ?_ | refine gC_i (fun _ => RValueE_ok v) trivial ?_ | refine gCD_i (fun _ => RValueE_ok v) trivial ?_ | refine caE_i (RValueE_ok v) trivial ?_
  simp (config := {contextual := true, maxSteps := 1000000}) only [go_sem, ints, intRows, iv_c, Nat.reduceAdd, Nat.reduceBEq, Nat.reduceEqDiff, Nat.reduceLeDiff, Nat.reduceLT, reduceIte, Nat.le_refl, true_or, or_true, and_self, Int.reduceLE, Int.reduceLT, Int.reduceEq, Int.reduceNeg, Int.natCast_nonneg, Int.reduceToNat, ops, vals, dots]
  unfold fitsV
  have : decide (2 ≤ t ∧ t ≤ 4) = (decide (t = 2) || decide (t = 3) || decide (t = 4)) := by
    rw [Bool.eq_iff_iff]; simp; omega
  rw [this]
theorem RSmall_ok (v : Vl) : FnB Tryz.prog 69 [.ag (vlV v)] (vb (smallV v)) := by
  refine fnB_intro cf69 (by simp) ?_
  simp (config := {contextual := true, maxSteps := 1000000}) only [go_sem, ints, intRows, iv_c, Nat.reduceAdd, Nat.reduceBEq, Nat.reduceEqDiff, Nat.reduceLeDiff, Nat.reduceLT, reduceIte, Nat.le_refl, true_or, or_true, and_self, Int.reduceLE, Int.reduceLT, Int.reduceEq, Int.reduceNeg, Int.natCast_nonneg, Int.reduceToNat, ops, vals, dots, c69]
  first | refine caS_i (RValueE_ok v) trivial ?_ | refine caD_i (RValueE_ok v) trivial ?_ | refine gC_i (fun _ => RValueE_ok v) trivial ?_ | refine gCD_i (fun _ => RValueE_ok v) trivial ?_ | refine caE_i (RValueE_ok v) trivial ?_
  simp (config := {contextual := true, maxSteps := 1000000}) only [go_sem, ints, intRows, iv_c, Nat.reduceAdd, Nat.reduceBEq, Nat.reduceEqDiff, Nat.reduceLeDiff, Nat.reduceLT, reduceIte, Nat.le_refl, true_or, or_true, and_self, Int.reduceLE, Int.reduceLT, Int.reduceEq, Int.reduceNeg, Int.natCast_nonneg, Int.reduceToNat, ops, vals, dots]
  first | refine caS_i (inRef_ok v.i (-2147483648) 2147483648) trivial ?_ | refine caD_i (inRef_ok v.i (-2147483648) 2147483648) trivial ?_ | refine gC_i (fun _ => inRef_ok v.i (-2147483648) 2147483648) trivial ?_ | refine gCD_i (fun _ => inRef_ok v.i (-2147483648) 2147483648) trivial ?_ | refine caE_i (inRef_ok v.i (-2147483648) 2147483648) trivial ?_
  simp (config := {contextual := true, maxSteps := 1000000}) only [go_sem, ints, intRows, iv_c, Nat.reduceAdd, Nat.reduceBEq, Nat.reduceEqDiff, Nat.reduceLeDiff, Nat.reduceLT, reduceIte, Nat.le_refl, true_or, or_true, and_self, Int.reduceLE, Int.reduceLT, Int.reduceEq, Int.reduceNeg, Int.natCast_nonneg, Int.reduceToNat, ops, vals, dots]
  unfold smallV
  cases okVl v <;> by_cases h3 : v.k = 3 <;> simp [h3]
theorem RStampK_ok (s : St3) : FnB Tryz.prog 71 [.ag (stV s)] (vb (okS s)) := by
  refine fnB_intro cf71 (by simp) ?_
  simp (config := {contextual := true, maxSteps := 1000000}) only [go_sem, ints, intRows, iv_c, Nat.reduceAdd, Nat.reduceBEq, Nat.reduceEqDiff, Nat.reduceLeDiff, Nat.reduceLT, reduceIte, Nat.le_refl, true_or, or_true, and_self, Int.reduceLE, Int.reduceLT, Int.reduceEq, Int.reduceNeg, Int.natCast_nonneg, Int.reduceToNat, ops, vals, dots, c71, stV]
  first | refine caS_i (inRef_ok s.p 0 1099511627776) trivial ?_ | refine caD_i (inRef_ok s.p 0 1099511627776) trivial ?_ | refine gC_i (fun _ => inRef_ok s.p 0 1099511627776) trivial ?_ | refine gCD_i (fun _ => inRef_ok s.p 0 1099511627776) trivial ?_ | refine caE_i (inRef_ok s.p 0 1099511627776) trivial ?_
  simp (config := {contextual := true, maxSteps := 1000000}) only [go_sem, ints, intRows, iv_c, Nat.reduceAdd, Nat.reduceBEq, Nat.reduceEqDiff, Nat.reduceLeDiff, Nat.reduceLT, reduceIte, Nat.le_refl, true_or, or_true, and_self, Int.reduceLE, Int.reduceLT, Int.reduceEq, Int.reduceNeg, Int.natCast_nonneg, Int.reduceToNat, ops, vals, dots]
  first | refine caS_i (inRef_ok s.l 0 65536) trivial ?_ | refine caD_i (inRef_ok s.l 0 65536) trivial ?_ | refine gC_i (fun _ => inRef_ok s.l 0 65536) trivial ?_ | refine gCD_i (fun _ => inRef_ok s.l 0 65536) trivial ?_ | refine caE_i (inRef_ok s.l 0 65536) trivial ?_
  simp (config := {contextual := true, maxSteps := 1000000}) only [go_sem, ints, intRows, iv_c, Nat.reduceAdd, Nat.reduceBEq, Nat.reduceEqDiff, Nat.reduceLeDiff, Nat.reduceLT, reduceIte, Nat.le_refl, true_or, or_true, and_self, Int.reduceLE, Int.reduceLT, Int.reduceEq, Int.reduceNeg, Int.natCast_nonneg, Int.reduceToNat, ops, vals, dots]
  first | refine caS_i (inRef_ok s.q 0 4) trivial ?_ | refine caD_i (inRef_ok s.q 0 4) trivial ?_ | refine gC_i (fun _ => inRef_ok s.q 0 4) trivial ?_ | refine gCD_i (fun _ => inRef_ok s.q 0 4) trivial ?_ | refine caE_i (inRef_ok s.q 0 4) trivial ?_
  simp (config := {contextual := true, maxSteps := 1000000}) only [go_sem, ints, intRows, iv_c, Nat.reduceAdd, Nat.reduceBEq, Nat.reduceEqDiff, Nat.reduceLeDiff, Nat.reduceLT, reduceIte, Nat.le_refl, true_or, or_true, and_self, Int.reduceLE, Int.reduceLT, Int.reduceEq, Int.reduceNeg, Int.natCast_nonneg, Int.reduceToNat, ops, vals, dots]
  rfl
theorem RKeyK_ok (k : ByteArray) : FnB Tryz.prog 64 [.c (.string k)] (vb (keyB k)) := by
  refine fnB_intro cf64 (by simp) ?_
  simp (config := {contextual := true, maxSteps := 1000000}) only [go_sem, ints, intRows, iv_c, Nat.reduceAdd, Nat.reduceBEq, Nat.reduceEqDiff, Nat.reduceLeDiff, Nat.reduceLT, reduceIte, Nat.le_refl, true_or, or_true, and_self, Int.reduceLE, Int.reduceLT, Int.reduceEq, Int.reduceNeg, Int.natCast_nonneg, Int.reduceToNat, ops, vals, dots, c64]
  first | refine caS_i (inRef_ok (k.size : Int) 1 12) trivial ?_ | refine caD_i (inRef_ok (k.size : Int) 1 12) trivial ?_ | refine gC_i (fun _ => inRef_ok (k.size : Int) 1 12) trivial ?_ | refine gCD_i (fun _ => inRef_ok (k.size : Int) 1 12) trivial ?_ | refine caE_i (inRef_ok (k.size : Int) 1 12) trivial ?_
  simp (config := {contextual := true, maxSteps := 1000000}) only [go_sem, ints, intRows, iv_c, Nat.reduceAdd, Nat.reduceBEq, Nat.reduceEqDiff, Nat.reduceLeDiff, Nat.reduceLT, reduceIte, Nat.le_refl, true_or, or_true, and_self, Int.reduceLE, Int.reduceLT, Int.reduceEq, Int.reduceNeg, Int.natCast_nonneg, Int.reduceToNat, ops, vals, dots]
  unfold keyB
  rw [← Bool.decide_and]
/-- Whether an operation may be, of several tables. -/
def rightX (n : Int) (f : List (List Int)) (x : Opx) : Bool := decide (0 ≤ x.table ∧ x.table < f.length) && rightO n (gN f x.table.toNat) (tab0 (oz x))
end Go.Proofs.YtcmonjmoapjpkaaGreat.D
end
section
set_option linter.unusedVariables false
set_option linter.unusedSimpArgs false
set_option linter.constructorNameAsVariable false
set_option maxRecDepth 100000

/- Whether an operation may be, as the page says: the walk. No condition. -/
namespace Go.Proofs.YtcmonjmoapjpkaaGreat.D
open Go Go.Proofs

theorem ite_or' (c b : Bool) : (if c = true then b else true) = (!c || b) := by cases c <;> rfl
theorem ite_and' (c b : Bool) : (if c = true then b else false) = (c && b) := by cases c <;> rfl
set_option maxHeartbeats 4000000 in
attribute [-go_sem] cnC_b in
theorem ROp_ok (n : Int) (f : List (List Int)) (x : Opx) (hn : 1 ≤ n ∧ n ≤ 5) (hf : 1 ≤ f.length ∧ f.length ≤ maxLen) (hc : ∀ c ∈ f, c.length ≤ 4) (hv : x.vals.length ≤ maxLen) (hd : x.dots.length ≤ maxLen) : FnB Tryz.prog 73 [vi n, tbs .b f, .ag (opV x)] (vb (rightX n f x)) := by
  unfold maxLen at *
  refine fnB_intro cf73 (by simp) ?_
  have wn : IntKind.i64.wrap (n - 1) = n - 1 := w64 (by omega)
  have wf : IntKind.i64.wrap ((f.length : Int) - 1) = f.length - 1 := w64 (by omega)
  simp (config := {contextual := true, maxSteps := 1000000}) only [go_sem, ints, intRows, iv_c, Nat.reduceAdd, Nat.reduceBEq, Nat.reduceEqDiff, Nat.reduceLeDiff, Nat.reduceLT, reduceIte, Nat.le_refl, true_or, or_true, and_self, Int.reduceLE, Int.reduceLT, Int.reduceEq, Int.reduceNeg, Int.natCast_nonneg, Int.reduceToNat, ops, vals, dots, c73, tbs, wn, wf]
  first | refine caS_i (inRef_ok x.dot.p 0 (n - 1)) trivial ?_ | refine caD_i (inRef_ok x.dot.p 0 (n - 1)) trivial ?_ | refine gC_i (fun _ => inRef_ok x.dot.p 0 (n - 1)) trivial ?_ | refine gCD_i (fun _ => inRef_ok x.dot.p 0 (n - 1)) trivial ?_ | refine caE_i (inRef_ok x.dot.p 0 (n - 1)) trivial ?_
  simp (config := {contextual := true, maxSteps := 1000000}) only [go_sem, ints, intRows, iv_c, Nat.reduceAdd, Nat.reduceBEq, Nat.reduceEqDiff, Nat.reduceLeDiff, Nat.reduceLT, reduceIte, Nat.le_refl, true_or, or_true, and_self, Int.reduceLE, Int.reduceLT, Int.reduceEq, Int.reduceNeg, Int.natCast_nonneg, Int.reduceToNat, ops, vals, dots, wn, wf]
  first | refine caS_i (inRef_ok x.dot.n 1 1073741824) trivial ?_ | refine caD_i (inRef_ok x.dot.n 1 1073741824) trivial ?_ | refine gC_i (fun _ => inRef_ok x.dot.n 1 1073741824) trivial ?_ | refine gCD_i (fun _ => inRef_ok x.dot.n 1 1073741824) trivial ?_ | refine caE_i (inRef_ok x.dot.n 1 1073741824) trivial ?_
  simp (config := {contextual := true, maxSteps := 1000000}) only [go_sem, ints, intRows, iv_c, Nat.reduceAdd, Nat.reduceBEq, Nat.reduceEqDiff, Nat.reduceLeDiff, Nat.reduceLT, reduceIte, Nat.le_refl, true_or, or_true, and_self, Int.reduceLE, Int.reduceLT, Int.reduceEq, Int.reduceNeg, Int.natCast_nonneg, Int.reduceToNat, ops, vals, dots, wn, wf]
  first | refine caS_i (Vector_ok x.deps) trivial ?_ | refine caD_i (Vector_ok x.deps) trivial ?_ | refine gC_i (fun _ => Vector_ok x.deps) trivial ?_ | refine gCD_i (fun _ => Vector_ok x.deps) trivial ?_ | refine caE_i (Vector_ok x.deps) trivial ?_
  simp (config := {contextual := true, maxSteps := 1000000}) only [go_sem, ints, intRows, iv_c, Nat.reduceAdd, Nat.reduceBEq, Nat.reduceEqDiff, Nat.reduceLeDiff, Nat.reduceLT, reduceIte, Nat.le_refl, true_or, or_true, and_self, Int.reduceLE, Int.reduceLT, Int.reduceEq, Int.reduceNeg, Int.natCast_nonneg, Int.reduceToNat, ops, vals, dots, wn, wf]
  have hbd : ((if decide (0 ≤ x.dot.p ∧ x.dot.p ≤ n - 1) = true then !decide (1 ≤ x.dot.n ∧ x.dot.n ≤ 1073741824) else true) || !decide ((x.deps.length : Int) = n) || !decide (vecE x.deps = 0)) = false → 0 ≤ x.dot.p ∧ x.dot.p < (x.deps.length : Int) := fun h => by
    simp only [Bool.or_eq_false_iff] at h
    have h1 := h.1.1
    have h2 := h.1.2
    simp at h2
    split at h1
    · rename_i h3; simp at h3; omega
    · simp at h1
  refine ⟨hbd, ?_⟩
  first | refine caS_i (RStampK_ok x.st) trivial ?_ | refine caD_i (RStampK_ok x.st) trivial ?_ | refine gC_i (fun _ => RStampK_ok x.st) trivial ?_ | refine gCD_i (fun _ => RStampK_ok x.st) trivial ?_ | refine caE_i (RStampK_ok x.st) trivial ?_
  simp (config := {contextual := true, maxSteps := 1000000}) only [go_sem, ints, intRows, iv_c, Nat.reduceAdd, Nat.reduceBEq, Nat.reduceEqDiff, Nat.reduceLeDiff, Nat.reduceLT, reduceIte, Nat.le_refl, true_or, or_true, and_self, Int.reduceLE, Int.reduceLT, Int.reduceEq, Int.reduceNeg, Int.natCast_nonneg, Int.reduceToNat, ops, vals, dots, wn, wf]
  first | refine caS_i (inRef_ok x.table 0 ((f.length : Int) - 1)) trivial ?_ | refine caD_i (inRef_ok x.table 0 ((f.length : Int) - 1)) trivial ?_ | refine gC_i (fun _ => inRef_ok x.table 0 ((f.length : Int) - 1)) trivial ?_ | refine gCD_i (fun _ => inRef_ok x.table 0 ((f.length : Int) - 1)) trivial ?_ | refine caE_i (inRef_ok x.table 0 ((f.length : Int) - 1)) trivial ?_
  simp (config := {contextual := true, maxSteps := 1000000}) only [go_sem, ints, intRows, iv_c, Nat.reduceAdd, Nat.reduceBEq, Nat.reduceEqDiff, Nat.reduceLeDiff, Nat.reduceLT, reduceIte, Nat.le_refl, true_or, or_true, and_self, Int.reduceLE, Int.reduceLT, Int.reduceEq, Int.reduceNeg, Int.natCast_nonneg, Int.reduceToNat, ops, vals, dots, wn, wf]
  first | refine caS_i (RKeyK_ok x.key) trivial ?_ | refine caD_i (RKeyK_ok x.key) trivial ?_ | refine gC_i (fun _ => RKeyK_ok x.key) trivial ?_ | refine gCD_i (fun _ => RKeyK_ok x.key) trivial ?_ | refine caE_i (RKeyK_ok x.key) trivial ?_
  simp (config := {contextual := true, maxSteps := 1000000}) only [go_sem, ints, intRows, iv_c, Nat.reduceAdd, Nat.reduceBEq, Nat.reduceEqDiff, Nat.reduceLeDiff, Nat.reduceLT, reduceIte, Nat.le_refl, true_or, or_true, and_self, Int.reduceLE, Int.reduceLT, Int.reduceEq, Int.reduceNeg, Int.natCast_nonneg, Int.reduceToNat, ops, vals, dots, wn, wf, tbs]
  have hgd : ((if decide (0 ≤ x.dot.p ∧ x.dot.p ≤ n - 1) = true then !decide (1 ≤ x.dot.n ∧ x.dot.n ≤ 1073741824) else true) || !decide ((x.deps.length : Int) = n) || !decide (vecE x.deps = 0) || !decide (gN x.deps x.dot.p.toNat = IntKind.i64.wrap (x.dot.n - 1)) || !okS x.st || !decide (x.st.q = x.dot.p) || !decide (0 ≤ x.table ∧ x.table ≤ (f.length : Int) - 1) || !keyB x.key) = !(wholeB n (oz x) && decide (0 ≤ x.table ∧ x.table < f.length) && keyB x.key) := by
    have e1 : decide (0 ≤ x.table ∧ x.table ≤ (f.length : Int) - 1) = decide (0 ≤ x.table ∧ x.table < f.length) := by rw [decide_eq_decide]; omega
    have e2 : decide (0 ≤ x.dot.p ∧ x.dot.p ≤ n - 1) = (decide (0 ≤ x.dot.p) && decide (x.dot.p < n)) := by rw [← Bool.decide_and, decide_eq_decide]; omega
    have e3 : decide (1 ≤ x.dot.n ∧ x.dot.n ≤ 1073741824) = (decide (1 ≤ x.dot.n) && decide (x.dot.n ≤ 1073741824)) := by rw [← Bool.decide_and]
    unfold wholeB
    rw [e1, e2, e3]
    by_cases hx : 1 ≤ x.dot.n ∧ x.dot.n ≤ 1073741824
    · have hw : IntKind.i64.wrap (x.dot.n - 1) = x.dot.n - 1 := w64 (by omega)
      rw [hw]
      show _ = !(_ && _ && _ && _ && decide ((x.deps.length : Int) = n) && decide (vecE x.deps = 0) && decide (gN x.deps x.dot.p.toNat = x.dot.n - 1) && okS x.st && decide (x.st.q = x.dot.p) && _ && _)
      have d1 : decide (1 ≤ x.dot.n) = true := by simp; omega
      have d2 : decide (x.dot.n ≤ 1073741824) = true := by simp; omega
      rw [d1, d2]
      cases decide (0 ≤ x.dot.p) <;> cases decide (x.dot.p < n) <;> simp
    · have : decide (1 ≤ x.dot.n) = false ∨ decide (x.dot.n ≤ 1073741824) = false := by simp; omega
      rcases this with h | h <;> rw [h] <;> simp
  rw [hgd]
  generalize hw : wholeB n (oz x) = wh
  generalize ht : decide (0 ≤ x.table ∧ x.table < f.length) = tb
  generalize hk : keyB x.key = ky
  have hr : rightX n f x = (tb && (wh && true && ky && (if x.kind = 1 then smallBs x.vals (gN f x.table.toNat) && decide (x.col = 0) && decide (x.dots.length = 0)
   else if x.kind = 2 then decide (0 ≤ x.col ∧ x.col < (gN f x.table.toNat).length) && smallBs x.vals [gN (gN f x.table.toNat) x.col.toNat] && decide (x.dots.length = 0)
   else if x.kind = 3 then decide (1 ≤ x.dots.length ∧ x.dots.length ≤ 64) && hadB x.deps x.dots && decide (x.col = 0) && decide (x.vals.length = 0) else false))) := by
    rw [← hw, ← ht, ← hk]; rfl
  cases hall : (wh && tb && ky) with
  | false =>
    simp (config := {contextual := true, maxSteps := 1000000}) only [go_sem, ints, intRows, iv_c, Nat.reduceAdd, Nat.reduceBEq, Nat.reduceEqDiff, Nat.reduceLeDiff, Nat.reduceLT, reduceIte, Nat.le_refl, true_or, or_true, and_self, Int.reduceLE, Int.reduceLT, Int.reduceEq, Int.reduceNeg, Int.natCast_nonneg, Int.reduceToNat, ops, vals, dots]
    rw [hr]
    cases wh <;> cases tb <;> cases ky <;> simp_all
  | true =>
    obtain ⟨⟨rfl, rfl⟩, rfl⟩ : (wh = true ∧ tb = true) ∧ ky = true := by simpa using hall
    have ht' : 0 ≤ x.table ∧ x.table < f.length := by simpa using ht
    have hcl : (gN f x.table.toNat).length ≤ 4 := hc _ (gN_mem (by omega))
    simp only [Bool.true_and] at hr
    simp (config := {contextual := true, maxSteps := 1000000}) only [go_sem, ints, intRows, iv_c, Nat.reduceAdd, Nat.reduceBEq, Nat.reduceEqDiff, Nat.reduceLeDiff, Nat.reduceLT, reduceIte, Nat.le_refl, true_or, or_true, and_self, Int.reduceLE, Int.reduceLT, Int.reduceEq, Int.reduceNeg, Int.natCast_nonneg, Int.reduceToNat, ops, vals, dots, tbs, ia_h]
    generalize hcols : gN f x.table.toNat = cols at *
    clear hgd hbd hall wf wn hf
    refine ⟨ht', ⟨fun h1 => ?_, fun h1 => ?_⟩⟩
    · have h1 : x.kind = 1 := by simpa using h1
      rw [if_pos h1] at hr
      simp (config := {contextual := true, maxSteps := 1000000}) only [go_sem, ints, intRows, iv_c, Nat.reduceAdd, Nat.reduceBEq, Nat.reduceEqDiff, Nat.reduceLeDiff, Nat.reduceLT, reduceIte, Nat.le_refl, true_or, or_true, and_self, Int.reduceLE, Int.reduceLT, Int.reduceEq, Int.reduceNeg, Int.natCast_nonneg, Int.reduceToNat, ops, vals, dots, ia_h]
      refine ⟨fun hb => ?_, fun hb => ?_⟩
      · simp (config := {contextual := true, maxSteps := 1000000}) only [go_sem, ints, intRows, iv_c, Nat.reduceAdd, Nat.reduceBEq, Nat.reduceEqDiff, Nat.reduceLeDiff, Nat.reduceLT, reduceIte, Nat.le_refl, true_or, or_true, and_self, Int.reduceLE, Int.reduceLT, Int.reduceEq, Int.reduceNeg, Int.natCast_nonneg, Int.reduceToNat, ops, vals, dots]
        rw [hr, smallBs, allG]
        by_cases hl : x.vals.length = cols.length
        · have : (decide (x.col = 0) && decide (x.dots.length = 0)) = false := by
            rw [ite_or'] at hb; simp only [Bool.or_eq_true, Bool.not_eq_true', decide_eq_true_eq, decide_eq_false_iff_not, Bool.and_eq_false_iff] at hb ⊢; omega
          rw [Bool.and_assoc, this, Bool.and_false]
        · rw [decide_eq_false (fun h => hl h.1)]; simp
      obtain ⟨hl, hcol, hds⟩ : x.vals.length = cols.length ∧ x.col = 0 ∧ x.dots.length = 0 := by
        rw [ite_or'] at hb; simp only [Bool.or_eq_false_iff, Bool.not_eq_false', decide_eq_true_eq, decide_eq_false_iff_not] at hb; omega
      have hr2 : rightX n f x = smallBs x.vals cols := by rw [hr, hcol, hds]; simp
      clear hr hb
      simp (config := {contextual := true, maxSteps := 1000000}) only [go_sem, ints, intRows, iv_c, Nat.reduceAdd, Nat.reduceBEq, Nat.reduceEqDiff, Nat.reduceLeDiff, Nat.reduceLT, reduceIte, Nat.le_refl, true_or, or_true, and_self, Int.reduceLE, Int.reduceLT, Int.reduceEq, Int.reduceNeg, Int.natCast_nonneg, Int.reduceToNat, ops, vals, dots]
      refine wpC_lp (fun env ob nn => env 5 = .pt 0 0 0 ∧ ob 0 = some ⟨12, [opV x], none⟩ ∧ env 7 = ints .b cols ∧ ∃ i : Nat, env 8 = vi i ∧ i ≤ cols.length ∧ ∀ j, j < i → smallV (gN x.vals j) = true ∧ fitsV (gN x.vals j) (gN cols j) = true) (fun env ob nn => (cols.length - iv (env 8)).toNat) ?_ ?_
      · simp (config := {contextual := true, maxSteps := 1000000}) only [go_sem, ints, intRows, iv_c, Nat.reduceAdd, Nat.reduceBEq, Nat.reduceEqDiff, Nat.reduceLeDiff, Nat.reduceLT, reduceIte, Nat.le_refl, true_or, or_true, and_self, Int.reduceLE, Int.reduceLT, Int.reduceEq, Int.reduceNeg, Int.natCast_nonneg, Int.reduceToNat, ops, vals, dots]
        exact ⟨0, rfl, Nat.zero_le _, fun j hj => by omega⟩
      rintro env ob nn ⟨h5, o0, h7, i, h8, hi, he⟩
      have w1 : IntKind.i64.wrap ((i : Int) + 1) = ((i + 1 : Nat) : Int) := by rw [w64 (by omega)]; omega
      simp (config := {contextual := true, maxSteps := 1000000}) only [go_sem, ints, intRows, iv_c, Nat.reduceAdd, Nat.reduceBEq, Nat.reduceEqDiff, Nat.reduceLeDiff, Nat.reduceLT, reduceIte, Nat.le_refl, true_or, or_true, and_self, Int.reduceLE, Int.reduceLT, Int.reduceEq, Int.reduceNeg, Int.natCast_nonneg, Int.reduceToNat, ops, vals, dots, h5, o0, h7, h8]
      refine ⟨fun hlt => ?_, fun hge => ?_⟩
      · simp at hlt
        simp (config := {contextual := true, maxSteps := 1000000}) only [go_sem, ints, intRows, iv_c, Nat.reduceAdd, Nat.reduceBEq, Nat.reduceEqDiff, Nat.reduceLeDiff, Nat.reduceLT, reduceIte, Nat.le_refl, true_or, or_true, and_self, Int.reduceLE, Int.reduceLT, Int.reduceEq, Int.reduceNeg, Int.natCast_nonneg, Int.reduceToNat, ops, vals, dots, h5, o0, h7, h8]
        refine ⟨by omega, ?_⟩
        first | refine caS_i (RSmall_ok (gN x.vals i)) trivial ?_ | refine caD_i (RSmall_ok (gN x.vals i)) trivial ?_ | refine gC_i (fun _ => RSmall_ok (gN x.vals i)) trivial ?_ | refine gCD_i (fun _ => RSmall_ok (gN x.vals i)) trivial ?_ | refine caE_i (RSmall_ok (gN x.vals i)) trivial ?_
        simp (config := {contextual := true, maxSteps := 1000000}) only [go_sem, ints, intRows, iv_c, Nat.reduceAdd, Nat.reduceBEq, Nat.reduceEqDiff, Nat.reduceLeDiff, Nat.reduceLT, reduceIte, Nat.le_refl, true_or, or_true, and_self, Int.reduceLE, Int.reduceLT, Int.reduceEq, Int.reduceNeg, Int.natCast_nonneg, Int.reduceToNat, ops, vals, dots, h5, o0, h7, h8]
        refine ⟨fun _ => by omega, fun _ => by omega, ?_⟩
        first | refine caS_i (RFits_ok (gN x.vals i) (gN cols i)) trivial ?_ | refine caD_i (RFits_ok (gN x.vals i) (gN cols i)) trivial ?_ | refine gC_i (fun _ => RFits_ok (gN x.vals i) (gN cols i)) trivial ?_ | refine gCD_i (fun _ => RFits_ok (gN x.vals i) (gN cols i)) trivial ?_ | refine caE_i (RFits_ok (gN x.vals i) (gN cols i)) trivial ?_
        simp (config := {contextual := true, maxSteps := 1000000}) only [go_sem, ints, intRows, iv_c, Nat.reduceAdd, Nat.reduceBEq, Nat.reduceEqDiff, Nat.reduceLeDiff, Nat.reduceLT, reduceIte, Nat.le_refl, true_or, or_true, and_self, Int.reduceLE, Int.reduceLT, Int.reduceEq, Int.reduceNeg, Int.natCast_nonneg, Int.reduceToNat, ops, vals, dots, h5, o0, h7, h8, w1]
        refine ⟨fun hb => ?_, fun hb => ?_⟩
        · simp (config := {contextual := true, maxSteps := 1000000}) only [go_sem, ints, intRows, iv_c, Nat.reduceAdd, Nat.reduceBEq, Nat.reduceEqDiff, Nat.reduceLeDiff, Nat.reduceLT, reduceIte, Nat.le_refl, true_or, or_true, and_self, Int.reduceLE, Int.reduceLT, Int.reduceEq, Int.reduceNeg, Int.natCast_nonneg, Int.reduceToNat, ops, vals, dots]
          rw [hr2, smallBs]
          cases hs : smallV (gN x.vals i) with
          | false =>
            rw [List.any_eq_true.2 ⟨gN x.vals i, gN_mem (by omega), by rw [hs]; rfl⟩]; simp
          | true =>
            rw [hs] at hb
            have : fitsV (gN x.vals i) (gN cols i) = false := by simpa using hb
            rw [allG, decide_eq_false (fun h => by have := h.2 i (by omega); simp_all)]; simp
        · simp (config := {contextual := true, maxSteps := 1000000}) only [go_sem, ints, intRows, iv_c, Nat.reduceAdd, Nat.reduceBEq, Nat.reduceEqDiff, Nat.reduceLeDiff, Nat.reduceLT, reduceIte, Nat.le_refl, true_or, or_true, and_self, Int.reduceLE, Int.reduceLT, Int.reduceEq, Int.reduceNeg, Int.natCast_nonneg, Int.reduceToNat, ops, vals, dots, h5, o0, h7, h8, w1]
          refine ⟨⟨i + 1, rfl, by omega, fun j hj => ?_⟩, by omega⟩
          by_cases hji : j = i
          · subst hji
            cases hs : smallV (gN x.vals j) with
            | false => rw [hs] at hb; simp at hb
            | true => rw [hs] at hb; exact ⟨rfl, by simpa using hb⟩
          · exact he j (by omega)
      · simp at hge
        simp (config := {contextual := true, maxSteps := 1000000}) only [go_sem, ints, intRows, iv_c, Nat.reduceAdd, Nat.reduceBEq, Nat.reduceEqDiff, Nat.reduceLeDiff, Nat.reduceLT, reduceIte, Nat.le_refl, true_or, or_true, and_self, Int.reduceLE, Int.reduceLT, Int.reduceEq, Int.reduceNeg, Int.natCast_nonneg, Int.reduceToNat, ops, vals, dots]
        have : i = cols.length := by omega
        subst this
        rw [hr2, smallBs, allG, decide_eq_true ⟨hl, fun j hj => (he j (by omega)).2⟩, any_no fun j hj => by rw [(he j (by omega)).1]; rfl]
        rfl
    have h1 : ¬ x.kind = 1 := by simpa using h1
    rw [if_neg h1] at hr
    simp (config := {contextual := true, maxSteps := 1000000}) only [go_sem, ints, intRows, iv_c, Nat.reduceAdd, Nat.reduceBEq, Nat.reduceEqDiff, Nat.reduceLeDiff, Nat.reduceLT, reduceIte, Nat.le_refl, true_or, or_true, and_self, Int.reduceLE, Int.reduceLT, Int.reduceEq, Int.reduceNeg, Int.natCast_nonneg, Int.reduceToNat, ops, vals, dots]
    refine ⟨fun h2 => ?_, fun h2 => ?_⟩
    · have h2 : x.kind = 2 := by simpa using h2
      rw [if_pos h2] at hr
      have wc : IntKind.i64.wrap ((cols.length : Int) - 1) = cols.length - 1 := w64 (by omega)
      simp (config := {contextual := true, maxSteps := 1000000}) only [go_sem, ints, intRows, iv_c, Nat.reduceAdd, Nat.reduceBEq, Nat.reduceEqDiff, Nat.reduceLeDiff, Nat.reduceLT, reduceIte, Nat.le_refl, true_or, or_true, and_self, Int.reduceLE, Int.reduceLT, Int.reduceEq, Int.reduceNeg, Int.natCast_nonneg, Int.reduceToNat, ops, vals, dots, wc]
      first | refine caS_i (inRef_ok x.col 0 ((cols.length : Int) - 1)) trivial ?_ | refine caD_i (inRef_ok x.col 0 ((cols.length : Int) - 1)) trivial ?_ | refine gC_i (fun _ => inRef_ok x.col 0 ((cols.length : Int) - 1)) trivial ?_ | refine gCD_i (fun _ => inRef_ok x.col 0 ((cols.length : Int) - 1)) trivial ?_ | refine caE_i (inRef_ok x.col 0 ((cols.length : Int) - 1)) trivial ?_
      simp (config := {contextual := true, maxSteps := 1000000}) only [go_sem, ints, intRows, iv_c, Nat.reduceAdd, Nat.reduceBEq, Nat.reduceEqDiff, Nat.reduceLeDiff, Nat.reduceLT, reduceIte, Nat.le_refl, true_or, or_true, and_self, Int.reduceLE, Int.reduceLT, Int.reduceEq, Int.reduceNeg, Int.natCast_nonneg, Int.reduceToNat, ops, vals, dots, ia_h]
      refine ⟨fun h => by simp only [Bool.and_eq_true, decide_eq_true_eq] at h; omega, ?_⟩
      first | refine caS_i (RSmall_ok (gN x.vals 0)) trivial ?_ | refine caD_i (RSmall_ok (gN x.vals 0)) trivial ?_ | refine gC_i (fun _ => RSmall_ok (gN x.vals 0)) trivial ?_ | refine gCD_i (fun _ => RSmall_ok (gN x.vals 0)) trivial ?_ | refine caE_i (RSmall_ok (gN x.vals 0)) trivial ?_
      simp (config := {contextual := true, maxSteps := 1000000}) only [go_sem, ints, intRows, iv_c, Nat.reduceAdd, Nat.reduceBEq, Nat.reduceEqDiff, Nat.reduceLeDiff, Nat.reduceLT, reduceIte, Nat.le_refl, true_or, or_true, and_self, Int.reduceLE, Int.reduceLT, Int.reduceEq, Int.reduceNeg, Int.natCast_nonneg, Int.reduceToNat, ops, vals, dots, ia_h]
      refine ⟨fun h => by simp only [Bool.and_eq_true, decide_eq_true_eq] at h; omega, fun h => by simp only [Bool.and_eq_true, decide_eq_true_eq] at h; omega, ?_⟩
      first | refine caS_i (RFits_ok (gN x.vals 0) (gN cols x.col.toNat)) trivial ?_ | refine caD_i (RFits_ok (gN x.vals 0) (gN cols x.col.toNat)) trivial ?_ | refine gC_i (fun _ => RFits_ok (gN x.vals 0) (gN cols x.col.toNat)) trivial ?_ | refine gCD_i (fun _ => RFits_ok (gN x.vals 0) (gN cols x.col.toNat)) trivial ?_ | refine caE_i (RFits_ok (gN x.vals 0) (gN cols x.col.toNat)) trivial ?_
      simp (config := {contextual := true, maxSteps := 1000000}) only [go_sem, ints, intRows, iv_c, Nat.reduceAdd, Nat.reduceBEq, Nat.reduceEqDiff, Nat.reduceLeDiff, Nat.reduceLT, reduceIte, Nat.le_refl, true_or, or_true, and_self, Int.reduceLE, Int.reduceLT, Int.reduceEq, Int.reduceNeg, Int.natCast_nonneg, Int.reduceToNat, ops, vals, dots]
      rw [hr]
      have e1 : decide (0 ≤ x.col ∧ x.col ≤ (cols.length : Int) - 1) = decide (0 ≤ x.col ∧ x.col < (cols.length : Int)) := by rw [decide_eq_decide]; omega
      rw [e1]
      have e2 : smallBs x.vals [gN cols x.col.toNat] = (decide ((x.vals.length : Int) = 1) && smallV (gN x.vals 0) && fitsV (gN x.vals 0) (gN cols x.col.toNat)) := by
        unfold smallBs allG
        match x.vals with
        | [] => simp
        | [v] => 
          have : decide ([v].length = [gN cols x.col.toNat].length ∧ ∀ i, i < [v].length → fitsV (gN [v] i) (gN [gN cols x.col.toNat] i) = true) = fitsV v (gN cols x.col.toNat) := by
            rw [Bool.eq_iff_iff, decide_eq_true_eq]
            exact ⟨fun h => h.2 0 (by simp), fun h => ⟨rfl, fun i hi => by have : i = 0 := by simp at hi; omega
                                                                           subst this; exact h⟩⟩
          rw [this]
          show (fitsV v (gN cols x.col.toNat) && !(!smallV v || false)) = (true && smallV v && fitsV v (gN cols x.col.toNat))
          generalize fitsV v (gN cols x.col.toNat) = a
          generalize smallV v = b
          cases a <;> cases b <;> rfl
        | v :: w :: l => 
          have : ¬ ((v :: w :: l).length = [gN cols x.col.toNat].length) := by simp
          rw [decide_eq_false (fun h => this h.1)]
          have : ¬ (((v :: w :: l).length : Int) = 1) := by simp; omega
          rw [decide_eq_false this]; rfl
      rw [e2]
      have e3 : decide ((x.dots.length : Int) = 0) = decide (x.dots.length = 0) := by rw [decide_eq_decide]; omega
      rw [e3]
      simp only [ite_and', Bool.and_assoc]
    have h2 : ¬ x.kind = 2 := by simpa using h2
    rw [if_neg h2] at hr
    simp (config := {contextual := true, maxSteps := 1000000}) only [go_sem, ints, intRows, iv_c, Nat.reduceAdd, Nat.reduceBEq, Nat.reduceEqDiff, Nat.reduceLeDiff, Nat.reduceLT, reduceIte, Nat.le_refl, true_or, or_true, and_self, Int.reduceLE, Int.reduceLT, Int.reduceEq, Int.reduceNeg, Int.natCast_nonneg, Int.reduceToNat, ops, vals, dots]
    refine ⟨fun h3 => ?_, fun h3 => ?_⟩
    · have h3 : x.kind = 3 := by simpa using h3
      rw [if_pos h3] at hr
      simp (config := {contextual := true, maxSteps := 1000000}) only [go_sem, ints, intRows, iv_c, Nat.reduceAdd, Nat.reduceBEq, Nat.reduceEqDiff, Nat.reduceLeDiff, Nat.reduceLT, reduceIte, Nat.le_refl, true_or, or_true, and_self, Int.reduceLE, Int.reduceLT, Int.reduceEq, Int.reduceNeg, Int.natCast_nonneg, Int.reduceToNat, ops, vals, dots]
      first | refine caS_i (inRef_ok (x.dots.length : Int) 1 64) trivial ?_ | refine caD_i (inRef_ok (x.dots.length : Int) 1 64) trivial ?_ | refine gC_i (fun _ => inRef_ok (x.dots.length : Int) 1 64) trivial ?_ | refine gCD_i (fun _ => inRef_ok (x.dots.length : Int) 1 64) trivial ?_ | refine caE_i (inRef_ok (x.dots.length : Int) 1 64) trivial ?_
      simp (config := {contextual := true, maxSteps := 1000000}) only [go_sem, ints, intRows, iv_c, Nat.reduceAdd, Nat.reduceBEq, Nat.reduceEqDiff, Nat.reduceLeDiff, Nat.reduceLT, reduceIte, Nat.le_refl, true_or, or_true, and_self, Int.reduceLE, Int.reduceLT, Int.reduceEq, Int.reduceNeg, Int.natCast_nonneg, Int.reduceToNat, ops, vals, dots]
      have hdl : x.deps.length ≤ maxLen := by
        unfold wholeB at hw; simp only [Bool.and_eq_true, decide_eq_true_eq] at hw; unfold maxLen; omega
      refine ⟨fun hb => ?_, fun hb => ?_⟩
      · simp (config := {contextual := true, maxSteps := 1000000}) only [go_sem, ints, intRows, iv_c, Nat.reduceAdd, Nat.reduceBEq, Nat.reduceEqDiff, Nat.reduceLeDiff, Nat.reduceLT, reduceIte, Nat.le_refl, true_or, or_true, and_self, Int.reduceLE, Int.reduceLT, Int.reduceEq, Int.reduceNeg, Int.natCast_nonneg, Int.reduceToNat, ops, vals, dots]
        rw [hr]
        have : (decide (1 ≤ x.dots.length ∧ x.dots.length ≤ 64) && (decide (x.col = 0) && decide (x.vals.length = 0))) = false := by
          rw [ite_or'] at hb
          simp only [Bool.or_eq_true, Bool.not_eq_true', decide_eq_true_eq, decide_eq_false_iff_not, Bool.and_eq_false_iff] at hb ⊢; omega
        rw [Bool.and_assoc, Bool.and_right_comm, this, Bool.false_and]
      obtain ⟨hl, hcol, hvl⟩ : (1 ≤ x.dots.length ∧ x.dots.length ≤ 64) ∧ x.col = 0 ∧ x.vals.length = 0 := by
        rw [ite_or'] at hb
        simp only [Bool.or_eq_false_iff, Bool.not_eq_false', decide_eq_true_eq, decide_eq_false_iff_not] at hb; omega
      have hr2 : rightX n f x = hadB x.deps x.dots := by rw [hr, decide_eq_true hl, hcol, hvl]; simp
      clear hr hb
      simp (config := {contextual := true, maxSteps := 1000000}) only [go_sem, ints, intRows, iv_c, Nat.reduceAdd, Nat.reduceBEq, Nat.reduceEqDiff, Nat.reduceLeDiff, Nat.reduceLT, reduceIte, Nat.le_refl, true_or, or_true, and_self, Int.reduceLE, Int.reduceLT, Int.reduceEq, Int.reduceNeg, Int.natCast_nonneg, Int.reduceToNat, ops, vals, dots]
      refine wpC_lp (fun env ob nn => env 5 = .pt 0 0 0 ∧ ob 0 = some ⟨12, [opV x], none⟩ ∧ ∃ i : Nat, env 9 = vi i ∧ i ≤ x.dots.length ∧ ∀ j, j < i → hasB x.deps (gN x.dots j) = true ∧ (0 < j → lessD (gN x.dots (j - 1)) (gN x.dots j) = true)) (fun env ob nn => (x.dots.length - iv (env 9)).toNat) ?_ ?_
      · simp (config := {contextual := true, maxSteps := 1000000}) only [go_sem, ints, intRows, iv_c, Nat.reduceAdd, Nat.reduceBEq, Nat.reduceEqDiff, Nat.reduceLeDiff, Nat.reduceLT, reduceIte, Nat.le_refl, true_or, or_true, and_self, Int.reduceLE, Int.reduceLT, Int.reduceEq, Int.reduceNeg, Int.natCast_nonneg, Int.reduceToNat, ops, vals, dots]
        exact ⟨0, rfl, Nat.zero_le _, fun j hj => by omega⟩
      rintro env ob nn ⟨h5, o0, i, h9, hi, he⟩
      have w1 : IntKind.i64.wrap ((i : Int) + 1) = ((i + 1 : Nat) : Int) := by rw [w64 (by omega)]; omega
      simp (config := {contextual := true, maxSteps := 1000000}) only [go_sem, ints, intRows, iv_c, Nat.reduceAdd, Nat.reduceBEq, Nat.reduceEqDiff, Nat.reduceLeDiff, Nat.reduceLT, reduceIte, Nat.le_refl, true_or, or_true, and_self, Int.reduceLE, Int.reduceLT, Int.reduceEq, Int.reduceNeg, Int.natCast_nonneg, Int.reduceToNat, ops, vals, dots, h5, o0, h9]
      refine ⟨fun hlt => ?_, fun hge => ?_⟩
      · simp at hlt
        simp (config := {contextual := true, maxSteps := 1000000}) only [go_sem, ints, intRows, iv_c, Nat.reduceAdd, Nat.reduceBEq, Nat.reduceEqDiff, Nat.reduceLeDiff, Nat.reduceLT, reduceIte, Nat.le_refl, true_or, or_true, and_self, Int.reduceLE, Int.reduceLT, Int.reduceEq, Int.reduceNeg, Int.natCast_nonneg, Int.reduceToNat, ops, vals, dots, h5, o0, h9]
        refine ⟨by omega, ?_⟩
        first | refine caS_i (RHas_ok x.deps (gN x.dots i) hdl) trivial ?_ | refine caD_i (RHas_ok x.deps (gN x.dots i) hdl) trivial ?_ | refine gC_i (fun _ => RHas_ok x.deps (gN x.dots i) hdl) trivial ?_ | refine gCD_i (fun _ => RHas_ok x.deps (gN x.dots i) hdl) trivial ?_ | refine caE_i (RHas_ok x.deps (gN x.dots i) hdl) trivial ?_
        simp (config := {contextual := true, maxSteps := 1000000}) only [go_sem, ints, intRows, iv_c, Nat.reduceAdd, Nat.reduceBEq, Nat.reduceEqDiff, Nat.reduceLeDiff, Nat.reduceLT, reduceIte, Nat.le_refl, true_or, or_true, and_self, Int.reduceLE, Int.reduceLT, Int.reduceEq, Int.reduceNeg, Int.natCast_nonneg, Int.reduceToNat, ops, vals, dots, h5, o0, h9]
        have hw0 : 0 < i → IntKind.i64.wrap ((i : Int) - 1) = ((i - 1 : Nat) : Int) := fun h => by rw [w64 (by omega)]; omega
        refine ⟨fun h => ?_, fun _ => by omega, ?_⟩
        · simp only [Bool.and_eq_true, decide_eq_true_eq] at h
          rw [hw0 (by omega)]; omega
        first | refine caS_i (RLess_ok (gN x.dots (IntKind.i64.wrap ((i : Int) - 1)).toNat) (gN x.dots i)) trivial ?_ | refine caD_i (RLess_ok (gN x.dots (IntKind.i64.wrap ((i : Int) - 1)).toNat) (gN x.dots i)) trivial ?_ | refine gC_i (fun _ => RLess_ok (gN x.dots (IntKind.i64.wrap ((i : Int) - 1)).toNat) (gN x.dots i)) trivial ?_ | refine gCD_i (fun _ => RLess_ok (gN x.dots (IntKind.i64.wrap ((i : Int) - 1)).toNat) (gN x.dots i)) trivial ?_ | refine caE_i (RLess_ok (gN x.dots (IntKind.i64.wrap ((i : Int) - 1)).toNat) (gN x.dots i)) trivial ?_
        simp (config := {contextual := true, maxSteps := 1000000}) only [go_sem, ints, intRows, iv_c, Nat.reduceAdd, Nat.reduceBEq, Nat.reduceEqDiff, Nat.reduceLeDiff, Nat.reduceLT, reduceIte, Nat.le_refl, true_or, or_true, and_self, Int.reduceLE, Int.reduceLT, Int.reduceEq, Int.reduceNeg, Int.natCast_nonneg, Int.reduceToNat, ops, vals, dots, h5, o0, h9]
        have hcond : (if hasB x.deps (gN x.dots i) = true then decide (0 < (i : Int)) && !lessD (gN x.dots (IntKind.i64.wrap ((i : Int) - 1)).toNat) (gN x.dots i) else true) = !decide (hasB x.deps (gN x.dots i) = true ∧ (0 < i → lessD (gN x.dots (i - 1)) (gN x.dots i) = true)) := by
          by_cases h0 : 0 < i
          · rw [hw0 h0, Int.toNat_natCast]
            cases hasB x.deps (gN x.dots i) <;> cases lessD (gN x.dots (i - 1)) (gN x.dots i) <;> simp [h0]
          · cases hasB x.deps (gN x.dots i) <;> simp [h0]
        rw [hcond]
        refine ⟨fun hb => ?_, fun hb => ?_⟩
        · simp (config := {contextual := true, maxSteps := 1000000}) only [go_sem, ints, intRows, iv_c, Nat.reduceAdd, Nat.reduceBEq, Nat.reduceEqDiff, Nat.reduceLeDiff, Nat.reduceLT, reduceIte, Nat.le_refl, true_or, or_true, and_self, Int.reduceLE, Int.reduceLT, Int.reduceEq, Int.reduceNeg, Int.natCast_nonneg, Int.reduceToNat, ops, vals, dots]
          rw [hr2, hadB, decide_eq_false fun h => by rw [decide_eq_true (h i hlt)] at hb; cases hb]
        · simp (config := {contextual := true, maxSteps := 1000000}) only [go_sem, ints, intRows, iv_c, Nat.reduceAdd, Nat.reduceBEq, Nat.reduceEqDiff, Nat.reduceLeDiff, Nat.reduceLT, reduceIte, Nat.le_refl, true_or, or_true, and_self, Int.reduceLE, Int.reduceLT, Int.reduceEq, Int.reduceNeg, Int.natCast_nonneg, Int.reduceToNat, ops, vals, dots, h5, o0, h9, w1]
          refine ⟨⟨i + 1, rfl, by omega, fun j hj => ?_⟩, by omega⟩
          by_cases hji : j = i
          · subst hji; simpa using hb
          · exact he j (by omega)
      · simp at hge
        simp (config := {contextual := true, maxSteps := 1000000}) only [go_sem, ints, intRows, iv_c, Nat.reduceAdd, Nat.reduceBEq, Nat.reduceEqDiff, Nat.reduceLeDiff, Nat.reduceLT, reduceIte, Nat.le_refl, true_or, or_true, and_self, Int.reduceLE, Int.reduceLT, Int.reduceEq, Int.reduceNeg, Int.natCast_nonneg, Int.reduceToNat, ops, vals, dots]
        have : i = x.dots.length := by omega
        subst this
        rw [hr2, hadB, decide_eq_true he]
    · have h3 : ¬ x.kind = 3 := by simpa using h3
      rw [if_neg h3] at hr
      simp (config := {contextual := true, maxSteps := 1000000}) only [go_sem, ints, intRows, iv_c, Nat.reduceAdd, Nat.reduceBEq, Nat.reduceEqDiff, Nat.reduceLeDiff, Nat.reduceLT, reduceIte, Nat.le_refl, true_or, or_true, and_self, Int.reduceLE, Int.reduceLT, Int.reduceEq, Int.reduceNeg, Int.natCast_nonneg, Int.reduceToNat, ops, vals, dots]
      rw [hr]
end Go.Proofs.YtcmonjmoapjpkaaGreat.D
end
section
set_option linter.unusedVariables false
set_option linter.unusedSimpArgs false
set_option linter.constructorNameAsVariable false
set_option maxRecDepth 100000

/- Tables that came about by operations. No condition. -/
namespace Go.Proofs.YtcmonjmoapjpkaaGreat.D
open Go Go.Proofs

theorem RTable0_ok (cols : List Int) (hc : cols.length ≤ maxLen) : FnB Tryz.prog 27 [.ag (tbV cols), rws .b []] (vi (if formE cols ≠ 0 then 10 else 0)) := by
  refine fnB_intro cf27 (by simp) ?_
  simp (config := {contextual := true, maxSteps := 1000000}) only [go_sem, ints, intRows, iv_c, Nat.reduceAdd, Nat.reduceBEq, Nat.reduceEqDiff, Nat.reduceLeDiff, Nat.reduceLT, reduceIte, Nat.le_refl, true_or, or_true, and_self, Int.reduceLE, Int.reduceLT, Int.reduceEq, Int.reduceNeg, Int.natCast_nonneg, Int.reduceToNat, ops, vals, dots, c27]
  first | refine caS_i (FormsR_ok cols hc) trivial ?_ | refine caD_i (FormsR_ok cols hc) trivial ?_ | refine gC_i (fun _ => FormsR_ok cols hc) trivial ?_ | refine gCD_i (fun _ => FormsR_ok cols hc) trivial ?_ | refine caE_i (FormsR_ok cols hc) trivial ?_
  simp (config := {contextual := true, maxSteps := 1000000}) only [go_sem, ints, intRows, iv_c, Nat.reduceAdd, Nat.reduceBEq, Nat.reduceEqDiff, Nat.reduceLeDiff, Nat.reduceLT, reduceIte, Nat.le_refl, true_or, or_true, and_self, Int.reduceLE, Int.reduceLT, Int.reduceEq, Int.reduceNeg, Int.natCast_nonneg, Int.reduceToNat, ops, vals, dots]
  refine ⟨fun hb => ?_, fun hb => ?_⟩
  · rw [if_pos (by simpa using hb)]
  rw [if_neg (by simpa using hb)]
  refine wpC_lp (fun env ob nn => env 1 = rws .b [] ∧ env 5 = vi 0) (fun env ob nn => 0) ?_ ?_
  · simp (config := {contextual := true, maxSteps := 1000000}) only [go_sem, ints, intRows, iv_c, Nat.reduceAdd, Nat.reduceBEq, Nat.reduceEqDiff, Nat.reduceLeDiff, Nat.reduceLT, reduceIte, Nat.le_refl, true_or, or_true, and_self, Int.reduceLE, Int.reduceLT, Int.reduceEq, Int.reduceNeg, Int.natCast_nonneg, Int.reduceToNat, ops, vals, dots]
  rintro env ob nn ⟨h1, h5⟩
  simp (config := {contextual := true, maxSteps := 1000000}) only [go_sem, ints, intRows, iv_c, Nat.reduceAdd, Nat.reduceBEq, Nat.reduceEqDiff, Nat.reduceLeDiff, Nat.reduceLT, reduceIte, Nat.le_refl, true_or, or_true, and_self, Int.reduceLE, Int.reduceLT, Int.reduceEq, Int.reduceNeg, Int.natCast_nonneg, Int.reduceToNat, ops, vals, dots, h1, h5, rws]
theorem inRef9_ok (n a b : Int) : FnB Tryz.prog 72 [vi n, vi a, vi b] (vb (decide (a ≤ n ∧ n ≤ b))) := by
  refine fnB_intro cf72 (by simp) ?_
  simp (config := {contextual := true, maxSteps := 1000000}) only [go_sem, ints, intRows, iv_c, Nat.reduceAdd, Nat.reduceBEq, Nat.reduceEqDiff, Nat.reduceLeDiff, Nat.reduceLT, reduceIte, Nat.le_refl, true_or, or_true, and_self, Int.reduceLE, Int.reduceLT, Int.reduceEq, Int.reduceNeg, Int.natCast_nonneg, Int.reduceToNat, ops, vals, dots, c72]
  rw [← Bool.decide_and]
def badE (cols : List Int) : Int := if formE cols ≠ 0 then 10 else 1
theorem RApplyBad_ok (cols : List Int) (x : Opx) (hc : cols.length ≤ maxLen) (hd : x.deps.length ≤ maxLen) (hv : x.vals.length ≤ maxLen) (hs : x.dots.length ≤ maxLen) (hb : formE cols ≠ 0 ∨ opE cols (tab0 (oz x)) ≠ 0) : FnB Tryz.prog 28 [.ag (tbV cols), rws .b [], .ag (opV x)] (.tp [rws .o [], vals .b [], vals .b [], vi (badE cols)]) := by
  refine fnB_intro cf28 (by simp) ?_
  simp (config := {contextual := true, maxSteps := 1000000}) only [go_sem, ints, intRows, iv_c, Nat.reduceAdd, Nat.reduceBEq, Nat.reduceEqDiff, Nat.reduceLeDiff, Nat.reduceLT, reduceIte, Nat.le_refl, true_or, or_true, and_self, Int.reduceLE, Int.reduceLT, Int.reduceEq, Int.reduceNeg, Int.natCast_nonneg, Int.reduceToNat, ops, vals, dots, c28, rws]
  first | refine caS_i (RTable0_ok cols hc) trivial ?_ | refine caD_i (RTable0_ok cols hc) trivial ?_ | refine gC_i (fun _ => RTable0_ok cols hc) trivial ?_ | refine gCD_i (fun _ => RTable0_ok cols hc) trivial ?_ | refine caE_i (RTable0_ok cols hc) trivial ?_
  by_cases hf : formE cols = 0
  · have hbo : opE cols (tab0 (oz x)) ≠ 0 := hb.resolve_left (fun h => h hf)
    have he : badE cols = 1 := by rw [badE, if_neg (by simp [hf])]
    rw [if_neg (by simp [hf]), he]
    simp (config := {contextual := true, maxSteps := 1000000}) only [go_sem, ints, intRows, iv_c, Nat.reduceAdd, Nat.reduceBEq, Nat.reduceEqDiff, Nat.reduceLeDiff, Nat.reduceLT, reduceIte, Nat.le_refl, true_or, or_true, and_self, Int.reduceLE, Int.reduceLT, Int.reduceEq, Int.reduceNeg, Int.natCast_nonneg, Int.reduceToNat, ops, vals, dots, rws]
    first | refine caS_i (inRef9_ok (x.deps.length : Int) 1 5) trivial ?_ | refine caD_i (inRef9_ok (x.deps.length : Int) 1 5) trivial ?_ | refine gC_i (fun _ => inRef9_ok (x.deps.length : Int) 1 5) trivial ?_ | refine gCD_i (fun _ => inRef9_ok (x.deps.length : Int) 1 5) trivial ?_ | refine caE_i (inRef9_ok (x.deps.length : Int) 1 5) trivial ?_
    simp (config := {contextual := true, maxSteps := 1000000}) only [go_sem, ints, intRows, iv_c, Nat.reduceAdd, Nat.reduceBEq, Nat.reduceEqDiff, Nat.reduceLeDiff, Nat.reduceLT, reduceIte, Nat.le_refl, true_or, or_true, and_self, Int.reduceLE, Int.reduceLT, Int.reduceEq, Int.reduceNeg, Int.natCast_nonneg, Int.reduceToNat, ops, vals, dots, rws, tbV]
    have hr := fun (h : 1 ≤ x.deps.length ∧ x.deps.length ≤ 5) => ROp_ok (x.deps.length : Int) [cols] {x with table := 0} (by omega) (by simp [maxLen]) (fun c hcc => by simp at hcc; subst hcc; exact (form_0 hf).2.1) hv hs
    refine gC_i (fun h => hr (by simp at h; omega)) trivial ?_
    simp (config := {contextual := true, maxSteps := 1000000}) only [go_sem, ints, intRows, iv_c, Nat.reduceAdd, Nat.reduceBEq, Nat.reduceEqDiff, Nat.reduceLeDiff, Nat.reduceLT, reduceIte, Nat.le_refl, true_or, or_true, and_self, Int.reduceLE, Int.reduceLT, Int.reduceEq, Int.reduceNeg, Int.natCast_nonneg, Int.reduceToNat, ops, vals, dots, rws, tbV]
    have hx : rightX (x.deps.length : Int) [cols] {x with table := 0} = rightO (x.deps.length : Int) cols (tab0 (oz x)) := by
      unfold rightX; rfl
    have hbad : decide (1 ≤ (x.deps.length : Int) ∧ (x.deps.length : Int) ≤ 5) = true → rightO (x.deps.length : Int) cols (tab0 (oz x)) = false := fun h => by
      cases hro : rightO (x.deps.length : Int) cols (tab0 (oz x)) with
      | false => rfl
      | true =>
        refine (hbo ?_).elim
        unfold opE
        rw [if_neg (by simp [hf]), if_neg]
        show ¬ ((x.deps.length : Int) < 1 ∨ 5 < (x.deps.length : Int) ∨ rightO (x.deps.length : Int) cols (tab0 (oz x)) = false)
        rw [hro]; simp at h; simp; omega
    rw [hx]
    have hcn : (if decide (1 ≤ (x.deps.length : Int) ∧ (x.deps.length : Int) ≤ 5) = true then !rightO (x.deps.length : Int) cols (tab0 (oz x)) else true) = true := by
      split
      · rename_i h; rw [hbad h]; rfl
      · rfl
    simp (config := {contextual := true, maxSteps := 1000000}) only [go_sem, ints, intRows, iv_c, Nat.reduceAdd, Nat.reduceBEq, Nat.reduceEqDiff, Nat.reduceLeDiff, Nat.reduceLT, reduceIte, Nat.le_refl, true_or, or_true, and_self, Int.reduceLE, Int.reduceLT, Int.reduceEq, Int.reduceNeg, Int.natCast_nonneg, Int.reduceToNat, ops, vals, dots, hcn]
  · rw [if_pos (by simpa using hf), badE, if_pos (by simpa using hf)]
    simp (config := {contextual := true, maxSteps := 1000000}) only [go_sem, ints, intRows, iv_c, Nat.reduceAdd, Nat.reduceBEq, Nat.reduceEqDiff, Nat.reduceLeDiff, Nat.reduceLT, reduceIte, Nat.le_refl, true_or, or_true, and_self, Int.reduceLE, Int.reduceLT, Int.reduceEq, Int.reduceNeg, Int.natCast_nonneg, Int.reduceToNat, ops, vals, dots]
end Go.Proofs.YtcmonjmoapjpkaaGreat.D
end
section
set_option linter.unusedVariables false
set_option linter.unusedSimpArgs false
set_option linter.constructorNameAsVariable false
set_option maxRecDepth 100000

/- Tables that came about by operations: the walk. No condition. -/
namespace Go.Proofs.YtcmonjmoapjpkaaGreat.D
open Go Go.Proofs

def livS (cols : List Int) (s : Option (List Rwx)) (x : Opx) : Option (List Rwx) := if (applyT cols (s.getD []) (oz x)).2.2.2 = 0 then some (applyT cols (s.getD []) (oz x)).1 else s
/-- What came about. -/
def livT (cols : List Int) (l : List Opx) : Option (List Rwx) := (l.take 40).foldl (livS cols) none
def ovR : Option (List Rwx) → V
  | none => .z
  | some l => rws .b l
def ovO : Option (List Rwx) → V
  | none => rws .o []
  | some l => rws .b l
@[go_sem] theorem frz_ovO (s : Option (List Rwx)) : frz1 (ovO s) = rws .b (s.getD []) := by cases s <;> rfl
theorem g_rws1 (ob : OB) (l : List Rwx) : gV ob 6 (rws .b l) = rws .b l := by
  simp only [rws, gV, List.map_map]
  show V.im .b _ = _
  congr 1
  exact List.map_congr_left fun r _ => g_rw ob 2 r
@[go_sem] theorem res_rwsb (ob : OB) (l : List Rwx) : resV ob 6 (rws .b l) = rws .b l := RZ.res (.inl rfl) ob 2
@[go_sem] theorem frz1_rws (f : Fl) (l : List Rwx) : frz1 (rws .o l) = rws .b l := rfl
@[go_sem] theorem frz1_rwsb (f : Fl) (l : List Rwx) : frz1 (rws .b l) = rws .b l := rfl
theorem ovR_z (s : Option (List Rwx)) : RZ (ovR s) (s.getD []) := by
  cases s with
  | none => exact .inr ⟨rfl, rfl⟩
  | some l => exact .inl rfl
/-- What is known of it. -/
def LivI (cols : List Int) (i : Nat) (s : Option (List Rwx)) : Prop := (formE cols ≠ 0 → s = none) ∧ (formE cols = 0 → ∃ D, D.length ≤ i ∧ ThI cols D (s.getD []))
theorem LivI.step {cols : List Int} {i : Nat} {s : Option (List Rwx)} (h : LivI cols i s) (x : Opx) : LivI cols (i + 1) (livS cols s x) := by
  refine ⟨fun hf => ?_, fun hf => ?_⟩
  · have hs := h.1 hf
    subst hs
    unfold livS
    have : (applyT cols (Option.getD none []) (oz x)).2.2.2 = 10 := by
      have hk : checkT cols [] = 10 := by rw [checkT, if_pos hf]
      show (applyT cols [] (oz x)).2.2.2 = 10
      rw [applyT, if_pos (by rw [hk]; decide)]
      exact hk
    rw [if_neg (by rw [this]; decide)]
  · obtain ⟨D, hD, hT⟩ := h.2 hf
    unfold livS
    rcases apply_code hT.chk (x := oz x) with ⟨q1, q2⟩ | ⟨q1, q2⟩
    · rw [if_pos q2]
      exact ⟨D ++ [x], by simp; omega, hT.step q1⟩
    · rw [q2, if_neg (by decide)]
      exact ⟨D, by omega, hT⟩
theorem LivI.nil (cols : List Int) : LivI cols 0 none := ⟨fun _ => rfl, fun hf => ⟨[], Nat.le_refl _, .nil hf⟩⟩
theorem liv_I (cols : List Int) (l : List Opx) : ∀ i, i ≤ l.length → LivI cols i ((l.take i).foldl (livS cols) none)
  | 0, _ => by rw [List.take_zero]; exact .nil cols
  | i + 1, h => by
    rw [take_gN (by omega), List.foldl_append]
    exact (liv_I cols l i (by omega)).step _
theorem livT_I (cols : List Int) (l : List Opx) : LivI cols 40 (livT cols l) := by
  unfold livT
  by_cases h : 40 ≤ l.length
  · exact liv_I cols l 40 h
  · have := liv_I cols l l.length (Nat.le_refl _)
    rw [List.take_of_length_le (by omega)]
    rw [List.take_of_length_le (by omega)] at this
    exact ⟨this.1, fun hf => by obtain ⟨D, h1, h2⟩ := this.2 hf; exact ⟨D, by omega, h2⟩⟩
theorem LivI.apply {cols : List Int} {i : Nat} {s : Option (List Rwx)} {x : Opx} (h : LivI cols i s) (hi : i ≤ 300) (hc : cols.length ≤ maxLen) (hv : x.vals.length ≤ maxLen) (hd : x.dots.length ≤ maxLen) : FnB Tryz.prog 14 [.ag (tbV cols), rws .b (s.getD []), .ag (opV x)] (.tp [rws .o (applyT cols (s.getD []) (oz x)).1, vals .b (applyT cols (s.getD []) (oz x)).2.1, vals .b (applyT cols (s.getD []) (oz x)).2.2.1, vi (applyT cols (s.getD []) (oz x)).2.2.2]) := by
  by_cases hf : formE cols = 0
  · obtain ⟨D, hD, hT⟩ := h.2 hf
    exact StepO_ok hT (by omega) hv hd hc
  · rw [h.1 hf]
    exact Apply_ok (fl := .b) cols [] (oz x) (by simp [maxLen]) (fun r hr => nomatch hr) (fun r hr => nomatch hr) hv hd
set_option maxHeartbeats 4000000 in
theorem Lived_ok (cols : List Int) (l : List Opx) (hc : cols.length ≤ maxLen) (hh : heavyOs l = false) : FnB Tryz.prog 9 [.ag (tbV cols), ops .b l] (.tp [ovO (livT cols l), vb true]) := by
  have hl300 : l.length ≤ 300 := by
    unfold heavyOs at hh; simp at hh; omega
  have hOk : ∀ x ∈ l, x.vals.length ≤ maxLen ∧ x.dots.length ≤ maxLen ∧ x.deps.length ≤ maxLen := fun x hx => by
    simp only [heavyOs, Bool.or_eq_false_iff] at hh
    have := List.any_eq_false.1 hh.2 x hx
    simp [heavyO, heavyR] at this
    unfold maxLen; omega
  refine fnB_intro cf9 (by simp) ?_
  simp (config := {contextual := true, maxSteps := 1000000}) only [go_sem, ints, intRows, iv_c, Nat.reduceAdd, Nat.reduceBEq, Nat.reduceEqDiff, Nat.reduceLeDiff, Nat.reduceLT, reduceIte, Nat.le_refl, true_or, or_true, and_self, Int.reduceLE, Int.reduceLT, Int.reduceEq, Int.reduceNeg, Int.natCast_nonneg, Int.reduceToNat, ops, vals, dots, c9]
  refine wpC_lp (fun env ob n => env 1 = ops .b l ∧ env 2 = .pt 0 0 0 ∧ ob 0 = some ⟨1, [tbV cols], none⟩ ∧ 0 < n ∧ ∃ i : Nat, env 7 = vi i ∧ i ≤ l.length ∧ i ≤ 40 ∧ env 6 = ovR ((l.take i).foldl (livS cols) none)) (fun env ob _ => (l.length - iv (env 7)).toNat) ?_ ?_
  · simp (config := {contextual := true, maxSteps := 1000000}) only [go_sem, ints, intRows, iv_c, Nat.reduceAdd, Nat.reduceBEq, Nat.reduceEqDiff, Nat.reduceLeDiff, Nat.reduceLT, reduceIte, Nat.le_refl, true_or, or_true, and_self, Int.reduceLE, Int.reduceLT, Int.reduceEq, Int.reduceNeg, Int.natCast_nonneg, Int.reduceToNat, ops, vals, dots]
    exact ⟨0, rfl, Nat.zero_le _, Nat.zero_le _, rfl⟩
  rintro env ob n ⟨h1, h2, o0, hn, i, h7, hi, hi40, h6⟩
  have w1 : IntKind.i64.wrap ((i : Int) + 1) = ((i + 1 : Nat) : Int) := by rw [w64 (by omega)]; omega
  have hI := liv_I cols l i hi
  by_cases hlt : i < l.length ∧ i < 40
  · have e1 : decide ((i : Int) < l.length) = true := by simp; omega
    have e2 : decide ((i : Int) < 40) = true := by simp; omega
    obtain ⟨v1, v2, v3⟩ := hOk _ (gN_mem hlt.1)
    have hst : (l.take (i + 1)).foldl (livS cols) none = livS cols ((l.take i).foldl (livS cols) none) (gN l i) := by
      rw [take_gN hlt.1, List.foldl_append]; rfl
    generalize (l.take i).foldl (livS cols) none = s at *
    have hRr := (ovR_z s).res ob 2
    rw [← h6] at hRr
    simp (config := {contextual := true, maxSteps := 1000000}) only [go_sem, ints, intRows, iv_c, Nat.reduceAdd, Nat.reduceBEq, Nat.reduceEqDiff, Nat.reduceLeDiff, Nat.reduceLT, reduceIte, Nat.le_refl, true_or, or_true, and_self, Int.reduceLE, Int.reduceLT, Int.reduceEq, Int.reduceNeg, Int.natCast_nonneg, Int.reduceToNat, ops, vals, dots, h1, h2, o0, h7, e1, e2, hRr]
    repeat (refine And.intro (by omega) ?_)
    first | refine caS_i (hI.apply (x := gN l i) (by omega) hc v1 v2) trivial ?_ | refine caD_i (hI.apply (x := gN l i) (by omega) hc v1 v2) trivial ?_ | refine gC_i (fun _ => hI.apply (x := gN l i) (by omega) hc v1 v2) trivial ?_ | refine gCD_i (fun _ => hI.apply (x := gN l i) (by omega) hc v1 v2) trivial ?_ | refine caE_i (hI.apply (x := gN l i) (by omega) hc v1 v2) trivial ?_
    simp (config := {contextual := true, maxSteps := 1000000}) only [go_sem, ints, intRows, iv_c, Nat.reduceAdd, Nat.reduceBEq, Nat.reduceEqDiff, Nat.reduceLeDiff, Nat.reduceLT, reduceIte, Nat.le_refl, true_or, or_true, and_self, Int.reduceLE, Int.reduceLT, Int.reduceEq, Int.reduceNeg, Int.natCast_nonneg, Int.reduceToNat, ops, vals, dots, h1, h2, o0, h7, e1, e2, hRr]
    refine ⟨fun hb => ?_, fun hb => ?_⟩
    · have hcode : (applyT cols (s.getD []) (oz (gN l i))).2.2.2 ≠ 0 := by simpa using hb
      have hbad : formE cols ≠ 0 ∨ opE cols (tab0 (oz (gN l i))) ≠ 0 := by
        by_cases hf : formE cols = 0
        · obtain ⟨D, hD, hT⟩ := hI.2 hf
          rcases apply_code hT.chk (x := oz (gN l i)) with ⟨q1, q2⟩ | ⟨q1, q2⟩
          · exact (hcode q2).elim
          · exact .inr q1
        · exact .inl hf
      repeat (refine And.intro (by omega) ?_)
      first | refine caS_i (RApplyBad_ok cols (gN l i) hc v3 v1 v2 hbad) trivial ?_ | refine caD_i (RApplyBad_ok cols (gN l i) hc v3 v1 v2 hbad) trivial ?_ | refine gC_i (fun _ => RApplyBad_ok cols (gN l i) hc v3 v1 v2 hbad) trivial ?_ | refine gCD_i (fun _ => RApplyBad_ok cols (gN l i) hc v3 v1 v2 hbad) trivial ?_ | refine caE_i (RApplyBad_ok cols (gN l i) hc v3 v1 v2 hbad) trivial ?_
      have e10 : decide (badE cols = 0) = false := by unfold badE; split <;> rfl
      simp (config := {contextual := true, maxSteps := 1000000}) only [go_sem, ints, intRows, iv_c, Nat.reduceAdd, Nat.reduceBEq, Nat.reduceEqDiff, Nat.reduceLeDiff, Nat.reduceLT, reduceIte, Nat.le_refl, true_or, or_true, and_self, Int.reduceLE, Int.reduceLT, Int.reduceEq, Int.reduceNeg, Int.natCast_nonneg, Int.reduceToNat, ops, vals, dots, h1, h2, o0, h7, e10, w1]
      refine ⟨⟨by omega, i + 1, rfl, by omega, by omega, ?_⟩, by omega⟩
      rw [hst, livS, if_neg hcode, h6]
    · have hcode : (applyT cols (s.getD []) (oz (gN l i))).2.2.2 = 0 := by simpa using hb
      simp (config := {contextual := true, maxSteps := 1000000}) only [go_sem, ints, intRows, iv_c, Nat.reduceAdd, Nat.reduceBEq, Nat.reduceEqDiff, Nat.reduceLeDiff, Nat.reduceLT, reduceIte, Nat.le_refl, true_or, or_true, and_self, Int.reduceLE, Int.reduceLT, Int.reduceEq, Int.reduceNeg, Int.natCast_nonneg, Int.reduceToNat, ops, vals, dots, h1, h2, o0, h7, w1]
      refine ⟨⟨by omega, i + 1, rfl, by omega, by omega, ?_⟩, by omega⟩
      rw [hst, livS, if_pos hcode]
      rfl
  · have e1 : (decide ((i : Int) < l.length) && decide ((i : Int) < 40)) = false := by
      rw [Bool.and_eq_false_iff]; simp; omega
    have hT : (l.take i).foldl (livS cols) none = livT cols l := by
      unfold livT
      by_cases h40 : i = 40
      · rw [h40]
      · rw [List.take_of_length_le (by omega), List.take_of_length_le (by omega)]
    rw [hT] at h6
    have hRr := (ovR_z (livT cols l)).res ob 2
    simp (config := {contextual := true, maxSteps := 1000000}) only [go_sem, ints, intRows, iv_c, Nat.reduceAdd, Nat.reduceBEq, Nat.reduceEqDiff, Nat.reduceLeDiff, Nat.reduceLT, reduceIte, Nat.le_refl, true_or, or_true, and_self, Int.reduceLE, Int.reduceLT, Int.reduceEq, Int.reduceNeg, Int.natCast_nonneg, Int.reduceToNat, ops, vals, dots, h1, h2, o0, h7, e1, h6]
    cases livT cols l with
    | none => rfl
    | some r =>
      show V.tp [gV ob 6 (rws .b r), vb true] = V.tp [rws .b r, vb true]
      rw [g_rws1]
end Go.Proofs.YtcmonjmoapjpkaaGreat.D
end
section
set_option linter.unusedVariables false
set_option linter.unusedSimpArgs false
set_option linter.constructorNameAsVariable false
set_option maxRecDepth 100000

/- What tables are, row by row. No condition. -/
namespace Go.Proofs.YtcmonjmoapjpkaaGreat.D
open Go Go.Proofs

end Go.Proofs.YtcmonjmoapjpkaaGreat.D
end
section
set_option linter.unusedVariables false
set_option linter.unusedSimpArgs false
set_option linter.constructorNameAsVariable false
set_option maxRecDepth 100000

/- Comparing tables. No condition. -/
namespace Go.Proofs.YtcmonjmoapjpkaaGreat.D
open Go Go.Proofs

end Go.Proofs.YtcmonjmoapjpkaaGreat.D
end
section
set_option linter.unusedVariables false
set_option linter.unusedSimpArgs false
set_option linter.constructorNameAsVariable false
set_option maxRecDepth 100000

/- What went and what came is just what is seen otherwise: plain law. No condition. -/
namespace Go.Proofs.YtcmonjmoapjpkaaGreat.D
open Go Go.Proofs

def isG (g r : List Vl) : Bool := decide (0 < g.length) && sameL eqV r g
def snT (l : List Rwx) : List (List Vl) := (l.filter thr).map seeT
theorem seen_sn {cols : List Int} {l : List Rwx} (h : checkT cols l = 0) : seenT cols l = snT l := by
  unfold seenT; rw [if_neg (by rw [h]; simp)]; rfl
theorem sn_app (a b : List Rwx) : snT (a ++ b) = snT a ++ snT b := by unfold snT; rw [List.filter_append, List.map_append]
theorem sn_cons (r : Rwx) (b : List Rwx) : snT (r :: b) = (if 0 < r.dots.length then [seeT r] else []) ++ snT b := by
  unfold snT
  rw [List.filter_cons]
  unfold thr
  by_cases h : 0 < r.dots.length
  · rw [if_pos (by simpa using h), if_pos h]; rfl
  · rw [if_neg (by simpa using h), if_neg h]; rfl
theorem seeT_there {r : Rwx} (h : 0 < r.dots.length) : seeT r = ⟨4, 0, r.key⟩ :: r.cells.map (·.v) := by
  unfold seeT; rw [if_neg (by omega)]
theorem seeT_not {r : Rwx} (h : ¬ 0 < r.dots.length) : seeT r = [] := by
  unfold seeT; rw [if_pos (by omega)]
theorem isG_key {g r : List Vl} (h : isG g r = true) : r = g ∧ 0 < g.length := by
  unfold isG at h
  rw [Bool.and_eq_true, decide_eq_true_eq] at h
  exact ⟨sameL_eq eqV_eq h.2, h.1⟩
theorem isG_rfl {g : List Vl} (h : 0 < g.length) : isG g g = true := by
  unfold isG; rw [decide_eq_true h, sameL_rfl (fun x => by simp [eqV])]; rfl
/-- Rows of other keys are none of them. -/
theorem sn_other {l : List Rwx} {R : Rwx} (h : ∀ r ∈ l, r.key ≠ R.key) : (snT l).filter (fun r => !isG (seeT R) r) = snT l ∧ ∀ s ∈ snT l, isG (seeT R) s = false := by
  have key : ∀ s ∈ snT l, isG (seeT R) s = false := fun s hs => by
    cases hi : isG (seeT R) s with
    | false => rfl
    | true =>
      obtain ⟨e1, e2⟩ := isG_key hi
      obtain ⟨r, hr, e⟩ := List.mem_map.1 hs
      obtain ⟨r1, r2⟩ := List.mem_filter.1 hr
      have r2 : 0 < r.dots.length := by simpa [thr] using r2
      have hR : 0 < R.dots.length := by
        by_cases hd : 0 < R.dots.length
        · exact hd
        · rw [seeT_not hd] at e2; simp at e2
      rw [← e, seeT_there r2, seeT_there hR] at e1
      injection e1 with e1 _
      injection e1 with _ _ e1
      exact (h r r1 e1).elim
  refine ⟨?_, key⟩
  rw [List.filter_eq_self]
  intro s hs
  rw [key s hs]; rfl
theorem sn_own (R : Rwx) : ((if 0 < R.dots.length then [seeT R] else []).filter fun r => !isG (seeT R) r) = [] := by
  split
  · rename_i h
    have : isG (seeT R) (seeT R) = true := isG_rfl (by rw [seeT_there h]; simp)
    rw [List.filter_cons, this]; rfl
  · rfl
/-- A row of its own key, between others. -/
theorem sn_mid {A B : List Rwx} {R : Rwx} (hA : ∀ r ∈ A, r.key ≠ R.key) (hB : ∀ r ∈ B, r.key ≠ R.key) : (snT (A ++ R :: B)).filter (fun r => !isG (seeT R) r) = snT A ++ snT B ∧ ((seeT R).length = 0 ∨ ∃ s ∈ snT (A ++ R :: B), isG (seeT R) s = true) ∧ (0 < (seeT R).length → (gN (seeT R) 0).s = R.key) := by
  refine ⟨?_, ?_, fun h => ?_⟩
  · rw [sn_app, sn_cons, List.filter_append, List.filter_append, (sn_other hA).1, (sn_other hB).1, sn_own, List.nil_append]
  · by_cases h : 0 < R.dots.length
    · right
      refine ⟨seeT R, ?_, isG_rfl (by rw [seeT_there h]; simp)⟩
      rw [sn_app, sn_cons, if_pos h]; simp
    · left; rw [seeT_not h]; rfl
  · by_cases hd : 0 < R.dots.length
    · rw [seeT_there hd]; rfl
    · rw [seeT_not hd] at h; simp at h
theorem seen_plain {cols : List Int} {l : List Rwx} {x : Opz} (hck : checkT cols l = 0) (ho : opE cols (tab0 x) = 0) :
    (seenT cols l).filter (fun r => !isG (applyT cols l x).2.1 r) = (seenT cols (applyT cols l x).1).filter (fun r => !isG (applyT cols l x).2.2.1 r) ∧
    ((applyT cols l x).2.1.length = 0 ∨ ∃ s ∈ seenT cols l, isG (applyT cols l x).2.1 s = true) ∧ ((applyT cols l x).2.2.1.length = 0 ∨ ∃ s ∈ seenT cols (applyT cols l x).1, isG (applyT cols l x).2.2.1 s = true) ∧
    (0 < (applyT cols l x).2.1.length → (gN (applyT cols l x).2.1 0).s = x.key) ∧ (0 < (applyT cols l x).2.2.1.length → (gN (applyT cols l x).2.2.1 0).s = x.key) := by
  have hr := (chk_0 hck).2
  obtain ⟨n, hn, o⟩ := opR ho
  obtain ⟨w1, w2⟩ := withK_spec hr o.key
  have w1 : rowsB cols (withK cols l x.key) = true := w1
  have w2 : (gN (withK cols l x.key) (posK l x.key)).key = x.key := w2
  have hk := withK_lt cols l x.key
  have hsn : snT l = snT (withK cols l x.key) := by
    rcases withK_at cols l x.key with ⟨_, h2⟩ | ⟨_, h2, h3⟩
    · rw [h2]
    · rw [h2, sn_app, sn_cons, if_neg (by simp), List.nil_append, ← sn_app, List.take_append_drop]
  rw [seen_sn (apply_right hck ho), seen_sn hck, hsn]
  rw [apply_e hck ho]
  generalize withK cols l x.key = L at *
  generalize posK l x.key = k at *
  have hL : L = L.take k ++ gN L k :: L.drop (k + 1) := by
    rw [gN_eq hk]; simp
  have hS : L.set k (chgT (gN L k) x) = L.take k ++ chgT (gN L k) x :: L.drop (k + 1) := by
    rw [List.set_eq_take_append_cons_drop, if_pos hk]
  have hA : ∀ r ∈ L.take k, r.key ≠ (gN L k).key := fun r hrm e => by
    obtain ⟨i, hi, rfl⟩ := gN_mem_iff.1 hrm
    have hi' : i < k := by simp at hi; omega
    have e1 : gN (L.take k) i = gN L i := by rw [gN_eq hi, gN_eq (by omega)]; simp
    rw [e1] at e
    have := keys_inj w1 (by omega) hk e
    omega
  have hB : ∀ r ∈ L.drop (k + 1), r.key ≠ (gN L k).key := fun r hrm e => by
    obtain ⟨i, hi, rfl⟩ := gN_mem_iff.1 hrm
    have hi' : k + 1 + i < L.length := by simp at hi; omega
    have e1 : gN (L.drop (k + 1)) i = gN L (k + 1 + i) := by rw [gN_eq hi, gN_eq hi']; simp
    rw [e1] at e
    have := keys_inj w1 hi' hk e
    omega
  have hA' : ∀ r ∈ L.take k, r.key ≠ (chgT (gN L k) x).key := fun r h => by rw [chgT_key]; exact hA r h
  have hB' : ∀ r ∈ L.drop (k + 1), r.key ≠ (chgT (gN L k) x).key := fun r h => by rw [chgT_key]; exact hB r h
  obtain ⟨p1, p2, p3⟩ := sn_mid hA hB
  obtain ⟨q1, q2, q3⟩ := sn_mid hA' hB'
  rw [← hL] at p1 p2
  rw [← hS] at q1 q2
  refine ⟨by rw [p1]; exact q1.symm, p2, q2, fun h => by rw [p3 h]; exact w2, fun h => ?_⟩
  have h : 0 < (seeT (chgT (gN L k) x)).length := h
  show (gN (seeT (chgT (gN L k) x)) 0).s = x.key
  rw [q3 h, chgT_key]; exact w2
end Go.Proofs.YtcmonjmoapjpkaaGreat.D
end
section
set_option linter.unusedVariables false
set_option linter.unusedSimpArgs false
set_option linter.constructorNameAsVariable false
set_option maxRecDepth 100000

/- Two operations may be applied in either order: plain law. No condition. -/
namespace Go.Proofs.YtcmonjmoapjpkaaGreat.D
open Go Go.Proofs

instance ltTd (a b : St3) : Decidable (ltT a b) := by unfold ltT; infer_instance
end Go.Proofs.YtcmonjmoapjpkaaGreat.D
end
section
set_option linter.unusedVariables false
set_option linter.unusedSimpArgs false
set_option linter.constructorNameAsVariable false
set_option maxRecDepth 100000

/- Two operations may be applied in either order: the walk. No condition. -/
namespace Go.Proofs.YtcmonjmoapjpkaaGreat.D
open Go Go.Proofs

theorem heavyO_len {l : List Opx} (h : heavyOs l = false) : ∀ x ∈ l, x.vals.length ≤ maxLen ∧ x.dots.length ≤ maxLen ∧ x.deps.length ≤ maxLen := fun x hx => by
  simp only [heavyOs, Bool.or_eq_false_iff] at h
  have := List.any_eq_false.1 h.2 x hx
  simp [heavyO, heavyR] at this
  unfold maxLen; omega
theorem op_bsl_two {k : Nat} {z a b : List V} (ob : OB) (i : Nat) (hz : z.length = k) (ha : okRow k a = true) (hb : okRow k b = true) : opF (.bsl k z [0, 1] 2 true) [.ag a, .ag b] ob i = some (.im .b [a, b], []) := by
  have ha' := ha
  have hb' := hb
  simp only [okRow, Bool.and_eq_true, beq_iff_eq] at ha' hb'
  obtain ⟨a1, a2⟩ := ha'
  obtain ⟨b1, b2⟩ := hb'
  have e1 : (a ++ z).drop k = z := by rw [← a1, List.drop_left]
  have h1 : fill ((List.replicate 2 z).flatten) [(0, k), (k, k)] [.ag a, .ag b] = some (a ++ b) := by
    have er : (List.replicate 2 z).flatten = z ++ z := by simp [List.replicate]
    rw [er]
    simp only [fill, cellsV, Nat.zero_add, List.take_zero, List.nil_append]
    rw [if_pos ⟨a1, by simp; omega, a2⟩]
    have e2 : (z ++ z).drop k = z := by rw [← hz, List.drop_left]
    rw [e2, if_pos ⟨b1, by simp; omega, b2⟩]
    have e3 : (a ++ z).take k = a := by rw [← a1, List.take_left]
    have e4 : (a ++ z).drop (k + k) = [] := by rw [List.drop_eq_nil_of_le]; simp; omega
    rw [e3, e4, List.append_nil]
  have r1 : ((a ++ b).drop (0 * k)).take k = a := by rw [Nat.zero_mul, List.drop_zero, ← a1, List.take_left]
  have r2 : ((a ++ b).drop (1 * k)).take k = b := by
    have : (a ++ b).drop (1 * k) = b := by rw [Nat.one_mul, ← a1, List.drop_left]
    rw [this, List.take_of_length_le (by omega)]
  have hp : ([0, 1].map fun i => (i * k, k)) = [(0, k), (k, k)] := by simp
  have hr : (List.range 2).map (fun i => ((a ++ b).drop (i * k)).take k) = [a, b] := by
    show [((a ++ b).drop (0 * k)).take k, ((a ++ b).drop (1 * k)).take k] = _
    rw [r1, r2]
  simp only [opF, hp, h1, Option.bind_some, hr]
  simp [ha, hb]
@[go_sem] theorem op_bsl_opV2 (z : List V) (x y : Opx) (ob : OB) (i : Nat) (hz : (z.length == 12) = true) : opF (.bsl 12 z [0, 1] 2 true) [.ag (opV x), .ag (opV y)] ob i = some (.im .b [opV x, opV y], []) := op_bsl_two ob i (by simpa using hz) (opV_row x) (opV_row y)
theorem code_0 {cols : List Int} {l : List Rwx} {x : Opz} (hck : checkT cols l = 0) (h : (applyT cols l x).2.2.2 = 0) : opE cols (tab0 x) = 0 := by
  rcases apply_code hck (x := x) with ⟨q, _⟩ | ⟨_, q⟩
  · exact q
  · rw [q] at h; cases h
theorem code_1 {cols : List Int} {l : List Rwx} {x : Opz} (hck : checkT cols l = 0) (h : opE cols (tab0 x) = 0) : (applyT cols l x).2.2.2 = 0 := by
  rcases apply_code hck (x := x) with ⟨_, q⟩ | ⟨q, _⟩
  · exact q
  · exact (q h).elim
end Go.Proofs.YtcmonjmoapjpkaaGreat.D
end
section
set_option linter.unusedVariables false
set_option linter.unusedSimpArgs false
set_option linter.constructorNameAsVariable false
set_option maxRecDepth 100000

/- What went and what came is just what is seen otherwise: the walk. No condition. -/
namespace Go.Proofs.YtcmonjmoapjpkaaGreat.D
open Go Go.Proofs

theorem ThI.sizes {cols : List Int} {D : List Opx} {l : List Rwx} (h : ThI cols D l) (hD : D.length ≤ 300) : l.length ≤ 300 ∧ (∀ r ∈ l, ShortR r) ∧ ∀ r ∈ l, r.cells.length ≤ 4 := by
  have h4 := (form_0 (chk_0 h.chk).1).2.1
  have hc : ∀ r ∈ l, r.cells.length ≤ 4 := fun r hr => by
    obtain ⟨i, hi, e⟩ := gN_mem_iff.1 hr
    have h2 := (allG_at (right_iff.1 (rows_at (chk_0 h.chk).2 hi).1).cells).1
    rw [e] at h2; omega
  refine ⟨Nat.le_trans h.few hD, fun r hr => ?_, hc⟩
  have h1 := h.short r hr
  have h2 := hc r hr
  exact ⟨by unfold maxLen; omega, by unfold maxLen; omega⟩
@[go_sem] theorem op_bsl_vals (z : List V) (x : List Vl) (ob : OB) (i : Nat) (hz : (z.length == 1) = true) : opF (.bsl 1 z [0] 1 true) [vals .b x] ob i = some (.im .b [[vals .b x]], []) := by
  obtain ⟨a, rfl⟩ := List.length_eq_one_iff.1 (by simpa using hz)
  exact op_bsl_1 a (vals .b x) ob i rfl
theorem own_ne0 {n : Nat} {ob : OB} {v : V} {l : List (List Vl)} {cols : List Int} (h : Own n ob v 1 (l.map fun r => [vals .b r])) (o0 : ob 0 = some ⟨1, [tbV cols], none⟩) (hc : cols ≠ []) (len : Nat) : v ≠ .sl 0 0 len := by
  rcases h with ⟨_, h⟩ | ⟨_, id, cap, hid, hv, ho⟩
  · rw [h]; intro e; cases e
  · intro e
    rw [hv] at e
    injection e with e1 _ _
    subst e1
    rw [o0] at ho
    injection ho with ho
    injection ho with _ ho _
    cases l with
    | nil => simp at ho
    | cons r l =>
      simp only [List.map_cons] at ho
      injection ho with ho _
      simp only [tbV, ints, vals] at ho
      injection ho with ho _
      injection ho with _ ho
      cases cols with
      | nil => exact hc rfl
      | cons c cols =>
        cases r with
        | nil => simp at ho
        | cons w r =>
          simp only [List.map_cons] at ho
          injection ho with ho _
          have := congrArg List.length ho
          simp [vlV] at this
set_option maxHeartbeats 4000000 in
theorem TabSeen_ok (cols : List Int) (l : List Opx) (x : Opx) : FnB Tryz.prog 3 [.ag (tbV cols), ops .b l, .ag (opV x)] (vb true) := by
  refine fnB_intro cf3 (by simp) ?_
  simp (config := {contextual := true, maxSteps := 1000000}) only [go_sem, ints, intRows, iv_c, Nat.reduceAdd, Nat.reduceBEq, Nat.reduceEqDiff, Nat.reduceLeDiff, Nat.reduceLT, reduceIte, Nat.le_refl, true_or, or_true, and_self, Int.reduceLE, Int.reduceLT, Int.reduceEq, Int.reduceNeg, Int.natCast_nonneg, Int.reduceToNat, ops, vals, dots, c3]
  first | refine caS_i (HeavyForm_ok cols) trivial ?_ | refine caD_i (HeavyForm_ok cols) trivial ?_ | refine gC_i (fun _ => HeavyForm_ok cols) trivial ?_ | refine gCD_i (fun _ => HeavyForm_ok cols) trivial ?_ | refine caE_i (HeavyForm_ok cols) trivial ?_
  simp (config := {contextual := true, maxSteps := 1000000}) only [go_sem, ints, intRows, iv_c, Nat.reduceAdd, Nat.reduceBEq, Nat.reduceEqDiff, Nat.reduceLeDiff, Nat.reduceLT, reduceIte, Nat.le_refl, true_or, or_true, and_self, Int.reduceLE, Int.reduceLT, Int.reduceEq, Int.reduceNeg, Int.natCast_nonneg, Int.reduceToNat, ops, vals, dots]
  first | refine caS_i (HeavyOs_ok l) trivial ?_ | refine caD_i (HeavyOs_ok l) trivial ?_ | refine gC_i (fun _ => HeavyOs_ok l) trivial ?_ | refine gCD_i (fun _ => HeavyOs_ok l) trivial ?_ | refine caE_i (HeavyOs_ok l) trivial ?_
  simp (config := {contextual := true, maxSteps := 1000000}) only [go_sem, ints, intRows, iv_c, Nat.reduceAdd, Nat.reduceBEq, Nat.reduceEqDiff, Nat.reduceLeDiff, Nat.reduceLT, reduceIte, Nat.le_refl, true_or, or_true, and_self, Int.reduceLE, Int.reduceLT, Int.reduceEq, Int.reduceNeg, Int.natCast_nonneg, Int.reduceToNat, ops, vals, dots]
  first | refine caS_i (HeavyOs_ok (fl := .b) [x]) trivial ?_ | refine caD_i (HeavyOs_ok (fl := .b) [x]) trivial ?_ | refine gC_i (fun _ => HeavyOs_ok (fl := .b) [x]) trivial ?_ | refine gCD_i (fun _ => HeavyOs_ok (fl := .b) [x]) trivial ?_ | refine caE_i (HeavyOs_ok (fl := .b) [x]) trivial ?_
  simp (config := {contextual := true, maxSteps := 1000000}) only [go_sem, ints, intRows, iv_c, Nat.reduceAdd, Nat.reduceBEq, Nat.reduceEqDiff, Nat.reduceLeDiff, Nat.reduceLT, reduceIte, Nat.le_refl, true_or, or_true, and_self, Int.reduceLE, Int.reduceLT, Int.reduceEq, Int.reduceNeg, Int.natCast_nonneg, Int.reduceToNat, ops, vals, dots]
  intro hb
  obtain ⟨⟨hb1, hb2⟩, hb3⟩ : (decide (30 < (cols.length : Int)) = false ∧ heavyOs l = false) ∧ heavyOs [x] = false := by
    simp only [Bool.or_eq_false_iff] at hb
    exact hb
  have hcl : cols.length ≤ maxLen := by simp at hb1; unfold maxLen; omega
  obtain ⟨xv, xd, xe⟩ := heavyO_len hb3 x (by simp)
  clear hb
  have hI := livT_I cols l
  first | refine caS_i (Lived_ok cols l hcl hb2) trivial ?_ | refine caD_i (Lived_ok cols l hcl hb2) trivial ?_ | refine gC_i (fun _ => Lived_ok cols l hcl hb2) trivial ?_ | refine gCD_i (fun _ => Lived_ok cols l hcl hb2) trivial ?_ | refine caE_i (Lived_ok cols l hcl hb2) trivial ?_
  simp (config := {contextual := true, maxSteps := 1000000}) only [go_sem, ints, intRows, iv_c, Nat.reduceAdd, Nat.reduceBEq, Nat.reduceEqDiff, Nat.reduceLeDiff, Nat.reduceLT, reduceIte, Nat.le_refl, true_or, or_true, and_self, Int.reduceLE, Int.reduceLT, Int.reduceEq, Int.reduceNeg, Int.natCast_nonneg, Int.reduceToNat, ops, vals, dots]
  first | refine caS_i (FormsR_ok cols hcl) trivial ?_ | refine caD_i (FormsR_ok cols hcl) trivial ?_ | refine gC_i (fun _ => FormsR_ok cols hcl) trivial ?_ | refine gCD_i (fun _ => FormsR_ok cols hcl) trivial ?_ | refine caE_i (FormsR_ok cols hcl) trivial ?_
  simp (config := {contextual := true, maxSteps := 1000000}) only [go_sem, ints, intRows, iv_c, Nat.reduceAdd, Nat.reduceBEq, Nat.reduceEqDiff, Nat.reduceLeDiff, Nat.reduceLT, reduceIte, Nat.le_refl, true_or, or_true, and_self, Int.reduceLE, Int.reduceLT, Int.reduceEq, Int.reduceNeg, Int.natCast_nonneg, Int.reduceToNat, ops, vals, dots]
  refine ⟨fun hf => ?_, fun hf => ?_⟩
  · first | refine caS_i (wakes13_ok) trivial ?_ | refine caD_i (wakes13_ok) trivial ?_ | refine gC_i (fun _ => wakes13_ok) trivial ?_ | refine gCD_i (fun _ => wakes13_ok) trivial ?_ | refine caE_i (wakes13_ok) trivial ?_
    simp (config := {contextual := true, maxSteps := 1000000}) only [go_sem, ints, intRows, iv_c, Nat.reduceAdd, Nat.reduceBEq, Nat.reduceEqDiff, Nat.reduceLeDiff, Nat.reduceLT, reduceIte, Nat.le_refl, true_or, or_true, and_self, Int.reduceLE, Int.reduceLT, Int.reduceEq, Int.reduceNeg, Int.natCast_nonneg, Int.reduceToNat, ops, vals, dots]
  have hf : formE cols = 0 := by simpa using hf
  obtain ⟨D, hD, hT⟩ := hI.2 hf
  generalize (livT cols l).getD [] = rows at *
  obtain ⟨z1, z2, z3⟩ := hT.sizes (by omega)
  first | refine caS_i (tCheck_ok (fl := .b) cols rows (by unfold maxLen; omega) z2) trivial ?_ | refine caD_i (tCheck_ok (fl := .b) cols rows (by unfold maxLen; omega) z2) trivial ?_ | refine gC_i (fun _ => tCheck_ok (fl := .b) cols rows (by unfold maxLen; omega) z2) trivial ?_ | refine gCD_i (fun _ => tCheck_ok (fl := .b) cols rows (by unfold maxLen; omega) z2) trivial ?_ | refine caE_i (tCheck_ok (fl := .b) cols rows (by unfold maxLen; omega) z2) trivial ?_
  rw [hT.chk]
  simp (config := {contextual := true, maxSteps := 1000000}) only [go_sem, ints, intRows, iv_c, Nat.reduceAdd, Nat.reduceBEq, Nat.reduceEqDiff, Nat.reduceLeDiff, Nat.reduceLT, reduceIte, Nat.le_refl, true_or, or_true, and_self, Int.reduceLE, Int.reduceLT, Int.reduceEq, Int.reduceNeg, Int.natCast_nonneg, Int.reduceToNat, ops, vals, dots]
  first | refine caS_i (Seen_ok (fl := .b) cols rows (by unfold maxLen; omega) z2 (fun r hr => by have := z3 r hr; unfold maxLen; omega)) trivial ?_ | refine caD_i (Seen_ok (fl := .b) cols rows (by unfold maxLen; omega) z2 (fun r hr => by have := z3 r hr; unfold maxLen; omega)) trivial ?_ | refine gC_i (fun _ => Seen_ok (fl := .b) cols rows (by unfold maxLen; omega) z2 (fun r hr => by have := z3 r hr; unfold maxLen; omega)) trivial ?_ | refine gCD_i (fun _ => Seen_ok (fl := .b) cols rows (by unfold maxLen; omega) z2 (fun r hr => by have := z3 r hr; unfold maxLen; omega)) trivial ?_ | refine caE_i (Seen_ok (fl := .b) cols rows (by unfold maxLen; omega) z2 (fun r hr => by have := z3 r hr; unfold maxLen; omega)) trivial ?_
  simp (config := {contextual := true, maxSteps := 1000000}) only [go_sem, ints, intRows, iv_c, Nat.reduceAdd, Nat.reduceBEq, Nat.reduceEqDiff, Nat.reduceLeDiff, Nat.reduceLT, reduceIte, Nat.le_refl, true_or, or_true, and_self, Int.reduceLE, Int.reduceLT, Int.reduceEq, Int.reduceNeg, Int.natCast_nonneg, Int.reduceToNat, ops, vals, dots, valRows]
  first | refine caS_i (StepO_ok (x := x) hT (by omega) xv xd hcl) trivial ?_ | refine caD_i (StepO_ok (x := x) hT (by omega) xv xd hcl) trivial ?_ | refine gC_i (fun _ => StepO_ok (x := x) hT (by omega) xv xd hcl) trivial ?_ | refine gCD_i (fun _ => StepO_ok (x := x) hT (by omega) xv xd hcl) trivial ?_ | refine caE_i (StepO_ok (x := x) hT (by omega) xv xd hcl) trivial ?_
  simp (config := {contextual := true, maxSteps := 1000000}) only [go_sem, ints, intRows, iv_c, Nat.reduceAdd, Nat.reduceBEq, Nat.reduceEqDiff, Nat.reduceLeDiff, Nat.reduceLT, reduceIte, Nat.le_refl, true_or, or_true, and_self, Int.reduceLE, Int.reduceLT, Int.reduceEq, Int.reduceNeg, Int.natCast_nonneg, Int.reduceToNat, ops, vals, dots]
  refine ⟨fun hb => ?_, fun hb => ?_⟩
  · rcases apply_code hT.chk (x := oz x) with ⟨_, q2⟩ | ⟨_, q2⟩
    · rw [q2] at hb; simp at hb
    rw [q2]
    have e0 : decide (IntKind.i64.wrap (IntKind.i64.wrap (0 + 0) + 0) = 0) = true := by decide
    first | refine caS_i (wakes13_ok) trivial ?_ | refine caD_i (wakes13_ok) trivial ?_ | refine gC_i (fun _ => wakes13_ok) trivial ?_ | refine gCD_i (fun _ => wakes13_ok) trivial ?_ | refine caE_i (wakes13_ok) trivial ?_
    simp (config := {contextual := true, maxSteps := 1000000}) only [go_sem, ints, intRows, iv_c, Nat.reduceAdd, Nat.reduceBEq, Nat.reduceEqDiff, Nat.reduceLeDiff, Nat.reduceLT, reduceIte, Nat.le_refl, true_or, or_true, and_self, Int.reduceLE, Int.reduceLT, Int.reduceEq, Int.reduceNeg, Int.natCast_nonneg, Int.reduceToNat, ops, vals, dots, e0]
  have q1 := code_0 hT.chk (x := oz x) (by simpa using hb)
  have q2 := code_1 hT.chk q1
  have hTx := hT.step q1
  obtain ⟨y1, y2, y3⟩ := hTx.sizes (by simp; omega)
  obtain ⟨p1, p2, p3, p4, p5⟩ := seen_plain hT.chk q1
  rw [q2]
  first | refine caS_i (Seen_ok (fl := .b) cols (applyT cols rows (oz x)).1 (by unfold maxLen; omega) y2 (fun r hr => by have := y3 r hr; unfold maxLen; omega)) trivial ?_ | refine caD_i (Seen_ok (fl := .b) cols (applyT cols rows (oz x)).1 (by unfold maxLen; omega) y2 (fun r hr => by have := y3 r hr; unfold maxLen; omega)) trivial ?_ | refine gC_i (fun _ => Seen_ok (fl := .b) cols (applyT cols rows (oz x)).1 (by unfold maxLen; omega) y2 (fun r hr => by have := y3 r hr; unfold maxLen; omega)) trivial ?_ | refine gCD_i (fun _ => Seen_ok (fl := .b) cols (applyT cols rows (oz x)).1 (by unfold maxLen; omega) y2 (fun r hr => by have := y3 r hr; unfold maxLen; omega)) trivial ?_ | refine caE_i (Seen_ok (fl := .b) cols (applyT cols rows (oz x)).1 (by unfold maxLen; omega) y2 (fun r hr => by have := y3 r hr; unfold maxLen; omega)) trivial ?_
  have hck2 := apply_right hT.chk q1
  have la : (seenT cols rows).length ≤ 300 := by rw [seen_len hT.chk]; exact Nat.le_trans (List.length_filter_le _ _) z1
  have lb : (seenT cols (applyT cols rows (oz x)).1).length ≤ 300 := by rw [seen_len hck2]; exact Nat.le_trans (List.length_filter_le _ _) y1
  have hro : ∀ m, (∀ r ∈ m, r.cells.length ≤ 4) → ∀ r ∈ seenT cols m, r.length ≤ maxLen := fun m hm r hr => by
    unfold seenT at hr
    split at hr
    · cases hr
    · obtain ⟨w, h1, rfl⟩ := List.mem_map.1 hr
      have := hm w (List.mem_filter.1 h1).1
      unfold seeT; split
      · exact Nat.zero_le _
      · simp; unfold maxLen; omega
  have ra := hro rows z3
  have rb := hro _ y3
  generalize seenT cols rows = a at *
  generalize seenT cols (applyT cols rows (oz x)).1 = b at *
  generalize (applyT cols rows (oz x)).2.1 = gone at *
  generalize (applyT cols rows (oz x)).2.2.1 = come at *
  generalize (applyT cols rows (oz x)).1 = next at *
  have hcne : cols ≠ [] := fun e => by have := (form_0 hf).1; rw [e] at this; simp at this
  clear hb q2 hro hTx
  simp (config := {contextual := true, maxSteps := 1000000}) only [go_sem, ints, intRows, iv_c, Nat.reduceAdd, Nat.reduceBEq, Nat.reduceEqDiff, Nat.reduceLeDiff, Nat.reduceLT, reduceIte, Nat.le_refl, true_or, or_true, and_self, Int.reduceLE, Int.reduceLT, Int.reduceEq, Int.reduceNeg, Int.natCast_nonneg, Int.reduceToNat, ops, vals, dots, valRows]
  refine wpC_lp (fun env ob n => env 3 = .pt 0 0 0 ∧ env 5 = .pt 1 0 0 ∧ env 9 = valRows .b a ∧ env 10 = rws .b next ∧ env 11 = vals .b gone ∧ env 12 = vals .b come ∧ env 14 = valRows .b b ∧ ob 0 = some ⟨1, [tbV cols], none⟩ ∧ ob 1 = some ⟨12, [opV x], none⟩ ∧ 1 < n ∧ ∃ i : Nat, env 17 = vi i ∧ i ≤ a.length ∧ env 16 = vb (decide ((gone.length : Int) = 0) || (a.take i).any (isG gone)) ∧ Own n ob (env 15) 1 (((a.take i).filter fun r => !isG gone r).map fun r => [vals .b r])) (fun env ob _ => (a.length - iv (env 17)).toNat) ?_ ?_
  · simp (config := {contextual := true, maxSteps := 1000000}) only [go_sem, ints, intRows, iv_c, Nat.reduceAdd, Nat.reduceBEq, Nat.reduceEqDiff, Nat.reduceLeDiff, Nat.reduceLT, reduceIte, Nat.le_refl, true_or, or_true, and_self, Int.reduceLE, Int.reduceLT, Int.reduceEq, Int.reduceNeg, Int.natCast_nonneg, Int.reduceToNat, ops, vals, dots, valRows]
    exact ⟨0, rfl, Nat.zero_le _, by simp, .inl ⟨rfl, rfl⟩⟩
  rintro env ob n ⟨h3, h5, h9, h10, h11, h12, h14, o0, o1, hn, i, h17, hi, h16, hO⟩
  have w1 : IntKind.i64.wrap ((i : Int) + 1) = ((i + 1 : Nat) : Int) := by rw [w64 (by omega)]; omega
  simp (config := {contextual := true, maxSteps := 1000000}) only [go_sem, ints, intRows, iv_c, Nat.reduceAdd, Nat.reduceBEq, Nat.reduceEqDiff, Nat.reduceLeDiff, Nat.reduceLT, reduceIte, Nat.le_refl, true_or, or_true, and_self, Int.reduceLE, Int.reduceLT, Int.reduceEq, Int.reduceNeg, Int.natCast_nonneg, Int.reduceToNat, ops, vals, dots, h3, h5, h9, h10, h11, h12, h14, o0, o1, h17, h16, valRows, List.length_map]
  refine ⟨fun hlt => ?_, fun hge => ?_⟩
  · simp at hlt
    repeat (refine And.intro (by omega) ?_)
    first | refine caS_i (KRow_ok (fl := .b) (fm := .b) (gN a i) gone (ra _ (gN_mem hlt))) trivial ?_ | refine caD_i (KRow_ok (fl := .b) (fm := .b) (gN a i) gone (ra _ (gN_mem hlt))) trivial ?_ | refine gC_i (fun _ => KRow_ok (fl := .b) (fm := .b) (gN a i) gone (ra _ (gN_mem hlt))) trivial ?_ | refine gCD_i (fun _ => KRow_ok (fl := .b) (fm := .b) (gN a i) gone (ra _ (gN_mem hlt))) trivial ?_ | refine caE_i (KRow_ok (fl := .b) (fm := .b) (gN a i) gone (ra _ (gN_mem hlt))) trivial ?_
    simp (config := {contextual := true, maxSteps := 1000000}) only [go_sem, ints, intRows, iv_c, Nat.reduceAdd, Nat.reduceBEq, Nat.reduceEqDiff, Nat.reduceLeDiff, Nat.reduceLT, reduceIte, Nat.le_refl, true_or, or_true, and_self, Int.reduceLE, Int.reduceLT, Int.reduceEq, Int.reduceNeg, Int.natCast_nonneg, Int.reduceToNat, ops, vals, dots, h3, h5, h9, h10, h11, h12, h14, o0, o1, h17, h16, valRows, w1]
    have hisG : (if decide (0 < (gone.length : Int)) = true then sameL eqV (gN a i) gone else false) = isG gone (gN a i) := by
      rw [ite_and', isG]
      congr 1
      rw [decide_eq_decide]; omega
    have htk : (a.take (i + 1)).filter (fun r => !isG gone r) = (a.take i).filter (fun r => !isG gone r) ++ if isG gone (gN a i) then [] else [gN a i] := by
      rw [take_gN hlt, List.filter_append]
      congr 1
      rw [List.filter_cons]
      cases isG gone (gN a i) <;> rfl
    have htn : (a.take (i + 1)).any (isG gone) = ((a.take i).any (isG gone) || isG gone (gN a i)) := by
      rw [take_gN hlt, List.any_append]; simp
    rw [ite_and'] at hisG
    rw [hisG]
    refine ⟨fun hg => ⟨⟨by omega, i + 1, rfl, by omega, ?_, ?_⟩, by omega⟩, fun hg => ⟨by omega, ?_⟩⟩
    · rw [htn, hg]; simp
    · rw [htk, hg]
      simp only [if_true, List.append_nil]
      exact hO.mono (by omega)
    · have hll : ((a.take i).filter fun r => !isG gone r).length ≤ 300 := Nat.le_trans (List.length_filter_le _ _) (by simp; omega)
      refine nxS_app (xs := [[vals .b (gN a i)]]) hO (by omega) rfl rfl (by simp [maxLen]; omega) fun v' ob' hO2 hf => ?_
      have o0' := (hf 0 (by omega) (own_ne0 hO o0 hcne _)).trans o0
      have o1' := (hf 1 hn (hO.e.ne o1 (by omega))).trans o1
      simp (config := {contextual := true, maxSteps := 1000000}) only [go_sem, ints, intRows, iv_c, Nat.reduceAdd, Nat.reduceBEq, Nat.reduceEqDiff, Nat.reduceLeDiff, Nat.reduceLT, reduceIte, Nat.le_refl, true_or, or_true, and_self, Int.reduceLE, Int.reduceLT, Int.reduceEq, Int.reduceNeg, Int.natCast_nonneg, Int.reduceToNat, ops, vals, dots, h3, h5, h9, h10, h11, h12, h14, o0', o1', h17, h16, valRows, w1]
      refine ⟨⟨by omega, i + 1, rfl, by omega, ?_, ?_⟩, by omega⟩
      · rw [htn, hg]; simp
      · rw [htk, hg]
        simp only [Bool.false_eq_true, if_false, List.map_append]
        exact hO2.mono (by omega)
  simp at hge
  have hi' : i = a.length := by omega
  subst hi'
  rw [List.take_length] at h16 hO
  have hf : (decide ((gone.length : Int) = 0) || a.any (isG gone)) = true := by
    rcases p2 with p2 | ⟨s, s1, s2⟩
    · rw [p2]; rfl
    · rw [List.any_eq_true.2 ⟨s, s1, s2⟩]; simp
  rw [hf] at h16
  generalize hleft : a.filter (fun r => !isG gone r) = left at *
  clear hge h17 w1
  have hob15 : (left = [] ∧ env 15 = .z) ∨ ∃ I cap, I < n ∧ env 15 = .sl I 0 left.length ∧ ob I = some ⟨1, left.map fun r => [vals .b r], cap⟩ := by
    rcases hO with ⟨hz, hv⟩ | ⟨_, I, cap, hI, hv, hoI⟩
    · exact .inl ⟨by simpa using hz, hv⟩
    · exact .inr ⟨I, cap, hI, by rw [hv]; simp, hoI⟩
  refine wpC_lp (fun env' ob' n' => (∀ j, j < n → ob' j = ob j) ∧ n ≤ n' ∧ env' 3 = .pt 0 0 0 ∧ env' 5 = .pt 1 0 0 ∧ env' 10 = rws .b next ∧ env' 11 = vals .b gone ∧ env' 12 = vals .b come ∧ env' 14 = valRows .b b ∧ env' 15 = env 15 ∧ env' 16 = vb true ∧ ∃ i : Nat, env' 20 = vi i ∧ i ≤ b.length ∧ env' 19 = vi (((b.take i).filter fun r => !isG come r).length : Nat) ∧ env' 18 = vb (decide ((come.length : Int) = 0) || (b.take i).any (isG come))) (fun env ob _ => (b.length - iv (env 20)).toNat) ?_ ?_
  · simp (config := {contextual := true, maxSteps := 1000000}) only [go_sem, ints, intRows, iv_c, Nat.reduceAdd, Nat.reduceBEq, Nat.reduceEqDiff, Nat.reduceLeDiff, Nat.reduceLT, reduceIte, Nat.le_refl, true_or, or_true, and_self, Int.reduceLE, Int.reduceLT, Int.reduceEq, Int.reduceNeg, Int.natCast_nonneg, Int.reduceToNat, ops, vals, dots, h3, h5, h9, h10, h11, h12, h14, o0, o1, h16, valRows]
    exact ⟨by omega, 0, rfl, Nat.zero_le _, rfl, by simp⟩
  clear h3 h5 h9 h10 h11 h12 h14 h16
  rintro env2 ob2 n2 ⟨hfr, hn2, h3, h5, h10, h11, h12, h14, h15, h16, i, h20, hi, h19, h18⟩
  have w1 : IntKind.i64.wrap ((i : Int) + 1) = ((i + 1 : Nat) : Int) := by rw [w64 (by omega)]; omega
  have o02 := (hfr 0 (by omega)).trans o0
  have o12 := (hfr 1 hn).trans o1
  by_cases hlt : i < b.length
  · have ei : decide ((i : Int) < b.length) = true := by simp; omega
    have hisG : (if decide (0 < (come.length : Int)) = true then sameL eqV (gN b i) come else false) = isG come (gN b i) := by
      rw [ite_and', isG]
      congr 1
      rw [decide_eq_decide]; omega
    rw [ite_and'] at hisG
    have htk : (b.take (i + 1)).filter (fun r => !isG come r) = (b.take i).filter (fun r => !isG come r) ++ if isG come (gN b i) then [] else [gN b i] := by
      rw [take_gN hlt, List.filter_append]
      congr 1
      rw [List.filter_cons]
      cases isG come (gN b i) <;> rfl
    have htn : (b.take (i + 1)).any (isG come) = ((b.take i).any (isG come) || isG come (gN b i)) := by
      rw [take_gN hlt, List.any_append]; simp
    have hE15 : env2 15 = env 15 := h15
    by_cases hg : isG come (gN b i) = true
    · simp (config := {contextual := true, maxSteps := 1000000}) only [go_sem, ints, intRows, iv_c, Nat.reduceAdd, Nat.reduceBEq, Nat.reduceEqDiff, Nat.reduceLeDiff, Nat.reduceLT, reduceIte, Nat.le_refl, true_or, or_true, and_self, Int.reduceLE, Int.reduceLT, Int.reduceEq, Int.reduceNeg, Int.natCast_nonneg, Int.reduceToNat, ops, vals, dots, h3, h5, h10, h11, h12, h14, h15, h16, h18, h19, h20, o02, o12, ei, valRows, List.length_map]
      repeat (refine And.intro (by omega) ?_)
      first | refine caS_i (KRow_ok (fl := .b) (fm := .b) (gN b i) come (rb _ (gN_mem hlt))) trivial ?_ | refine caD_i (KRow_ok (fl := .b) (fm := .b) (gN b i) come (rb _ (gN_mem hlt))) trivial ?_ | refine gC_i (fun _ => KRow_ok (fl := .b) (fm := .b) (gN b i) come (rb _ (gN_mem hlt))) trivial ?_ | refine gCD_i (fun _ => KRow_ok (fl := .b) (fm := .b) (gN b i) come (rb _ (gN_mem hlt))) trivial ?_ | refine caE_i (KRow_ok (fl := .b) (fm := .b) (gN b i) come (rb _ (gN_mem hlt))) trivial ?_
      simp (config := {contextual := true, maxSteps := 1000000}) only [go_sem, ints, intRows, iv_c, Nat.reduceAdd, Nat.reduceBEq, Nat.reduceEqDiff, Nat.reduceLeDiff, Nat.reduceLT, reduceIte, Nat.le_refl, true_or, or_true, and_self, Int.reduceLE, Int.reduceLT, Int.reduceEq, Int.reduceNeg, Int.natCast_nonneg, Int.reduceToNat, ops, vals, dots, h3, h5, h10, h11, h12, h14, h15, h16, h18, h19, h20, o02, o12, valRows, w1, hisG, hg]
      refine ⟨⟨hfr, by omega, i + 1, rfl, by omega, ?_, ?_⟩, by omega⟩
      · rw [htk, hg]; simp
      · rw [htn, hg]; simp
    · have hg : isG come (gN b i) = false := by simpa using hg
      have hat : ((b.take i).filter fun r => !isG come r).length < left.length ∧ gN left ((b.take i).filter fun r => !isG come r).length = gN b i := by
        have e : left = (b.take (i + 1)).filter (fun r => !isG come r) ++ (b.drop (i + 1)).filter (fun r => !isG come r) := by
          rw [← List.filter_append, List.take_append_drop, p1]
        rw [htk, hg] at e
        simp only [Bool.false_eq_true, if_false] at e
        have e2 : ((b.take i).filter fun r => !isG come r).length < left.length := by rw [e]; simp
        refine ⟨e2, ?_⟩
        rw [gN_eq e2]
        simp only [e]
        rw [List.getElem_append_left (by simp), List.getElem_append_right (by omega)]
        simp
      have hll : ((b.take i).filter fun r => !isG come r).length ≤ 300 := Nat.le_trans (List.length_filter_le _ _) (by simp; omega)
      generalize hm : ((b.take i).filter fun r => !isG come r).length = m at *
      obtain ⟨I, cap, hI, hI15, hoI⟩ : ∃ I cap, I < n ∧ env 15 = .sl I 0 left.length ∧ ob I = some ⟨1, left.map fun r => [vals .b r], cap⟩ := hob15.resolve_left fun h => by rw [h.1] at hat; simp at hat
      have h15' : env2 15 = .sl I 0 left.length := h15.trans hI15
      have hoI2 := (hfr I hI).trans hoI
      simp (config := {contextual := true, maxSteps := 1000000}) only [go_sem, ints, intRows, iv_c, Nat.reduceAdd, Nat.reduceBEq, Nat.reduceEqDiff, Nat.reduceLeDiff, Nat.reduceLT, reduceIte, Nat.le_refl, true_or, or_true, and_self, Int.reduceLE, Int.reduceLT, Int.reduceEq, Int.reduceNeg, Int.natCast_nonneg, Int.reduceToNat, ops, vals, dots, h3, h5, h10, h11, h12, h14, h15', h16, h18, h19, h20, o02, o12, ei, valRows, List.length_map, hoI2]
      repeat (refine And.intro (by omega) ?_)
      first | refine caS_i (KRow_ok (fl := .b) (fm := .b) (gN b i) come (rb _ (gN_mem hlt))) trivial ?_ | refine caD_i (KRow_ok (fl := .b) (fm := .b) (gN b i) come (rb _ (gN_mem hlt))) trivial ?_ | refine gC_i (fun _ => KRow_ok (fl := .b) (fm := .b) (gN b i) come (rb _ (gN_mem hlt))) trivial ?_ | refine gCD_i (fun _ => KRow_ok (fl := .b) (fm := .b) (gN b i) come (rb _ (gN_mem hlt))) trivial ?_ | refine caE_i (KRow_ok (fl := .b) (fm := .b) (gN b i) come (rb _ (gN_mem hlt))) trivial ?_
      simp (config := {contextual := true, maxSteps := 1000000}) only [go_sem, ints, intRows, iv_c, Nat.reduceAdd, Nat.reduceBEq, Nat.reduceEqDiff, Nat.reduceLeDiff, Nat.reduceLT, reduceIte, Nat.le_refl, true_or, or_true, and_self, Int.reduceLE, Int.reduceLT, Int.reduceEq, Int.reduceNeg, Int.natCast_nonneg, Int.reduceToNat, ops, vals, dots, h3, h5, h10, h11, h12, h14, h15', h16, h18, h19, h20, o02, o12, valRows, w1, hisG, hg, hoI2]
      have wm : IntKind.i64.wrap ((m : Int) + 1) = ((m + 1 : Nat) : Int) := by rw [w64 (by omega)]; omega
      have dm : decide ((left.length : Int) ≤ (m : Int)) = false := by simp; omega
      rw [hat.2]
      refine ⟨fun _ => by omega, fun _ => by omega, fun _ => hat.1, ?_⟩
      first | refine caS_i (KRow_ok (fl := .b) (fm := .b) (gN b i) (gN b i) (rb _ (gN_mem hlt))) trivial ?_ | refine caD_i (KRow_ok (fl := .b) (fm := .b) (gN b i) (gN b i) (rb _ (gN_mem hlt))) trivial ?_ | refine gC_i (fun _ => KRow_ok (fl := .b) (fm := .b) (gN b i) (gN b i) (rb _ (gN_mem hlt))) trivial ?_ | refine gCD_i (fun _ => KRow_ok (fl := .b) (fm := .b) (gN b i) (gN b i) (rb _ (gN_mem hlt))) trivial ?_ | refine caE_i (KRow_ok (fl := .b) (fm := .b) (gN b i) (gN b i) (rb _ (gN_mem hlt))) trivial ?_
      have hrr : sameL eqV (gN b i) (gN b i) = true := sameL_rfl (fun x => by simp [eqV]) _
      simp (config := {contextual := true, maxSteps := 1000000}) only [go_sem, ints, intRows, iv_c, Nat.reduceAdd, Nat.reduceBEq, Nat.reduceEqDiff, Nat.reduceLeDiff, Nat.reduceLT, reduceIte, Nat.le_refl, true_or, or_true, and_self, Int.reduceLE, Int.reduceLT, Int.reduceEq, Int.reduceNeg, Int.natCast_nonneg, Int.reduceToNat, ops, vals, dots, h3, h5, h10, h11, h12, h14, h15', h16, h18, h19, h20, o02, o12, valRows, w1, wm, dm, hrr]
      refine ⟨⟨hfr, by omega, hI15.symm, i + 1, rfl, by omega, ?_, ?_⟩, by omega⟩
      · rw [htk, hg]; simp [hm]
      · rw [htn, hg]; simp
  · have ei : decide ((i : Int) < b.length) = false := by simp; omega
    have hi' : i = b.length := by omega
    subst hi'
    rw [List.take_length] at h18 h19
    have hlen15 : lenOf (env2 15) = some left.length := by
      rw [h15]
      rcases hob15 with ⟨e, hv⟩ | ⟨I, cap, _, hv, _⟩
      · rw [hv, e]; rfl
      · rw [hv]; rfl
    have hcf : (decide ((come.length : Int) = 0) || b.any (isG come)) = true := by
      rcases p3 with p3 | ⟨s, s1, s2⟩
      · rw [p3]; rfl
      · rw [List.any_eq_true.2 ⟨s, s1, s2⟩]; simp
    rw [hcf] at h18
    rw [← p1] at h19
    have dl : decide ((left.length : Int) = (left.length : Int)) = true := by simp
    simp (config := {contextual := true, maxSteps := 1000000}) only [go_sem, ints, intRows, iv_c, Nat.reduceAdd, Nat.reduceBEq, Nat.reduceEqDiff, Nat.reduceLeDiff, Nat.reduceLT, reduceIte, Nat.le_refl, true_or, or_true, and_self, Int.reduceLE, Int.reduceLT, Int.reduceEq, Int.reduceNeg, Int.natCast_nonneg, Int.reduceToNat, ops, vals, dots, h3, h5, h10, h11, h12, h14, h16, h18, h19, h20, o02, o12, ei, valRows, List.length_map, hlen15, dl]
    have g1 : (decide (0 < (gone.length : Int)) && !decide ((gN gone 0).s.toList = x.key.toList)) = false := by
      by_cases h : 0 < gone.length
      · have e : (gN gone 0).s = x.key := p4 h
        rw [e]; simp
      · have : decide (0 < (gone.length : Int)) = false := by rw [decide_eq_false_iff_not]; omega
        rw [this]; rfl
    have g2 : (decide (0 < (come.length : Int)) && !decide ((gN come 0).s.toList = x.key.toList)) = false := by
      by_cases h : 0 < come.length
      · have e : (gN come 0).s = x.key := p5 h
        rw [e]; simp
      · have : decide (0 < (come.length : Int)) = false := by rw [decide_eq_false_iff_not]; omega
        rw [this]; rfl
    rw [g1, g2]
    refine ⟨fun h => by simpa using h, fun h => by simpa using h, fun h => by simp at h, fun _ => ?_⟩
    first | refine caS_i (tCheck_ok (fl := .b) cols next (by unfold maxLen; omega) y2) trivial ?_ | refine caD_i (tCheck_ok (fl := .b) cols next (by unfold maxLen; omega) y2) trivial ?_ | refine gC_i (fun _ => tCheck_ok (fl := .b) cols next (by unfold maxLen; omega) y2) trivial ?_ | refine gCD_i (fun _ => tCheck_ok (fl := .b) cols next (by unfold maxLen; omega) y2) trivial ?_ | refine caE_i (tCheck_ok (fl := .b) cols next (by unfold maxLen; omega) y2) trivial ?_
    rw [hck2]
    simp (config := {contextual := true, maxSteps := 1000000}) only [go_sem, ints, intRows, iv_c, Nat.reduceAdd, Nat.reduceBEq, Nat.reduceEqDiff, Nat.reduceLeDiff, Nat.reduceLT, reduceIte, Nat.le_refl, true_or, or_true, and_self, Int.reduceLE, Int.reduceLT, Int.reduceEq, Int.reduceNeg, Int.natCast_nonneg, Int.reduceToNat, ops, vals, dots]
    first | refine caS_i (wakes13_ok) trivial ?_ | refine caD_i (wakes13_ok) trivial ?_ | refine gC_i (fun _ => wakes13_ok) trivial ?_ | refine gCD_i (fun _ => wakes13_ok) trivial ?_ | refine caE_i (wakes13_ok) trivial ?_
    simp (config := {contextual := true, maxSteps := 1000000}) only [go_sem, ints, intRows, iv_c, Nat.reduceAdd, Nat.reduceBEq, Nat.reduceEqDiff, Nat.reduceLeDiff, Nat.reduceLT, reduceIte, Nat.le_refl, true_or, or_true, and_self, Int.reduceLE, Int.reduceLT, Int.reduceEq, Int.reduceNeg, Int.natCast_nonneg, Int.reduceToNat, ops, vals, dots]
theorem TabSeen_law (f : Tb) (l : List Opx) (x : Opx) (_ : gTb f) (_ : gList gOpx l) (_ : gOpx x) : FnB Tryz.prog 3 [.ag (tbV f), ops .b l, .ag (opV x)] (vb true) := TabSeen_ok f l x
end Go.Proofs.YtcmonjmoapjpkaaGreat.D
end
section
set_option linter.unusedVariables false
set_option linter.unusedSimpArgs false
set_option linter.constructorNameAsVariable false
/- The row of TabSeen, out of what the law answers to plain values. No condition beyond the statement's own. -/
namespace Go.Proofs.YtcmonjmoapjpkaaGreat.tabSeen
open Go.ChangeShapes Go.WideShapes Go.ChangeAt Go.RowKit Go.Proofs.YtcmonjmoapjpkaaGreat.D
open Go.ChangeMaps (open_string shut_string)
theorem own : ownKnob Tryz.prog.godebug = none := by kernel_rfl
theorem laidOut : laidOutB Tryz.prog = true := by kernel_rfl
theorem opn24 {H : Type} {enc : TypeId × Value → H} : Opn enc Tryz.prog 24 tbV gTb := by
  intro W base sp held fuel cs x h
  obtain ⟨xs, n, rfl, rfl, hl, hxl, hf⟩ := DataW.trod_struct Tryz.underlying24 h
  obtain ⟨a0, K0, G0⟩ := opn_field (sz := 1) hxl hf 0 _ rfl (opn_slice (sz := 1) Tryz.underlying22 (opn_int Tryz.underlying3) (by kernel_rfl) (by decide) (fun _ => rfl)) (by kernel_rfl)
  have hc : Tryz.prog.cellsOf 24 = 1 := by kernel_rfl
  rw [hc] at hl
  exact ⟨a0, (rv_last K0 hl), G0⟩
theorem opn27 {H : Type} {enc : TypeId × Value → H} : Opn enc Tryz.prog 27 dotV gDt := by
  intro W base sp held fuel cs x h
  obtain ⟨xs, n, rfl, rfl, hl, hxl, hf⟩ := DataW.trod_struct Tryz.underlying27 h
  obtain ⟨a0, K0, G0⟩ := opn_field (sz := 1) hxl hf 0 _ rfl (opn_int Tryz.underlying3) (by kernel_rfl)
  obtain ⟨a1, K1, G1⟩ := opn_field (sz := 1) hxl hf 1 _ rfl (opn_int Tryz.underlying3) (by kernel_rfl)
  have hc : Tryz.prog.cellsOf 27 = 2 := by kernel_rfl
  rw [hc] at hl
  exact ⟨⟨a0, a1⟩, (rv_fields K0 (rv_last K1 hl)), ⟨G0, G1⟩⟩
theorem opn29 {H : Type} {enc : TypeId × Value → H} : Opn enc Tryz.prog 29 stV gSt3 := by
  intro W base sp held fuel cs x h
  obtain ⟨xs, n, rfl, rfl, hl, hxl, hf⟩ := DataW.trod_struct Tryz.underlying29 h
  obtain ⟨a0, K0, G0⟩ := opn_field (sz := 1) hxl hf 0 _ rfl (opn_int Tryz.underlying3) (by kernel_rfl)
  obtain ⟨a1, K1, G1⟩ := opn_field (sz := 1) hxl hf 1 _ rfl (opn_int Tryz.underlying3) (by kernel_rfl)
  obtain ⟨a2, K2, G2⟩ := opn_field (sz := 1) hxl hf 2 _ rfl (opn_int Tryz.underlying3) (by kernel_rfl)
  have hc : Tryz.prog.cellsOf 29 = 3 := by kernel_rfl
  rw [hc] at hl
  exact ⟨⟨a0, a1, a2⟩, (rv_fields K0 (rv_fields K1 (rv_last K2 hl))), ⟨G0, G1, G2⟩⟩
theorem opn50 {H : Type} {enc : TypeId × Value → H} : Opn enc Tryz.prog 50 vlV gVl := by
  intro W base sp held fuel cs x h
  obtain ⟨xs, n, rfl, rfl, hl, hxl, hf⟩ := DataW.trod_struct Tryz.underlying50 h
  obtain ⟨a0, K0, G0⟩ := opn_field (sz := 1) hxl hf 0 _ rfl (opn_int Tryz.underlying3) (by kernel_rfl)
  obtain ⟨a1, K1, G1⟩ := opn_field (sz := 1) hxl hf 1 _ rfl (opn_int Tryz.underlying3) (by kernel_rfl)
  obtain ⟨a2, K2, G2⟩ := opn_field (sz := 1) hxl hf 2 _ rfl (opn_string Tryz.underlying9) (by kernel_rfl)
  have hc : Tryz.prog.cellsOf 50 = 3 := by kernel_rfl
  rw [hc] at hl
  exact ⟨⟨a0, a1, a2⟩, (rv_fields K0 (rv_fields K1 (rv_last K2 hl))), ⟨G0, G1, G2⟩⟩
theorem opn33 {H : Type} {enc : TypeId × Value → H} : Opn enc Tryz.prog 33 opV gOpx := by
  intro W base sp held fuel cs x h
  obtain ⟨xs, n, rfl, rfl, hl, hxl, hf⟩ := DataW.trod_struct Tryz.underlying33 h
  obtain ⟨a0, K0, G0⟩ := opn_field (sz := 2) hxl hf 0 _ rfl opn27 (by kernel_rfl)
  obtain ⟨a1, K1, G1⟩ := opn_field (sz := 1) hxl hf 1 _ rfl (opn_slice (sz := 1) Tryz.underlying22 (opn_int Tryz.underlying3) (by kernel_rfl) (by decide) (fun _ => rfl)) (by kernel_rfl)
  obtain ⟨a2, K2, G2⟩ := opn_field (sz := 3) hxl hf 2 _ rfl opn29 (by kernel_rfl)
  obtain ⟨a3, K3, G3⟩ := opn_field (sz := 1) hxl hf 3 _ rfl (opn_int Tryz.underlying3) (by kernel_rfl)
  obtain ⟨a4, K4, G4⟩ := opn_field (sz := 1) hxl hf 4 _ rfl (opn_int Tryz.underlying3) (by kernel_rfl)
  obtain ⟨a5, K5, G5⟩ := opn_field (sz := 1) hxl hf 5 _ rfl (opn_string Tryz.underlying9) (by kernel_rfl)
  obtain ⟨a6, K6, G6⟩ := opn_field (sz := 1) hxl hf 6 _ rfl (opn_int Tryz.underlying3) (by kernel_rfl)
  obtain ⟨a7, K7, G7⟩ := opn_field (sz := 1) hxl hf 7 _ rfl (opn_slice (sz := 3) Tryz.underlying30 opn50 (by kernel_rfl) (by decide) (fun _ => rfl)) (by kernel_rfl)
  obtain ⟨a8, K8, G8⟩ := opn_field (sz := 1) hxl hf 8 _ rfl (opn_slice (sz := 2) Tryz.underlying31 opn27 (by kernel_rfl) (by decide) (fun _ => rfl)) (by kernel_rfl)
  have hc : Tryz.prog.cellsOf 33 = 12 := by kernel_rfl
  rw [hc] at hl
  exact ⟨⟨a0, a1, a2, a3, a4, a5, a6, a7, a8⟩, (rv_fields K0 (rv_fields K1 (rv_fields K2 (rv_fields K3 (rv_fields K4 (rv_fields K5 (rv_fields K6 (rv_fields K7 (rv_last K8 hl))))))))), ⟨G0, G1, G2, G3, G4, G5, G6, G7, G8⟩⟩
set_option maxRecDepth 100000 in
set_option maxHeartbeats 2000000 in
theorem lifted (os : Os) (started : os.Started) (H : Type) (enc : TypeId × Value → H) :
    ReturnsInHanded {} Tryz.checked os 3 .any (Rows.tabSeenSpec.pre6 enc Tryz.prog Tryz.f3 Rows.tabSeenRow.domain false) (Rows.tabSeenSpec.post enc Tryz.prog Tryz.f3 false true false false) := by
  refine returnsInHanded_of_change_sized (C := Tryz.checked) own started (by kernel_rfl) Tryz.func3
    (ChangeSpec.witness6 (enc := enc) (C := Tryz.checked) false ⟨#[], #[.agg #[(.slice none 0 0)], .slice none 0 0, .agg #[(.int .i64 0), (.int .i64 0), (.slice none 0 0), (.int .i64 0), (.int .i64 0), (.int .i64 0), (.int .i64 0), (.int .i64 0), (.string ⟨#[]⟩), (.int .i64 0), (.slice none 0 0), (.slice none 0 0)]], []⟩ 8 (by kernel_rfl) (by kernel_rfl) (by kernel_rfl) (by kernel_rfl)) ?_
  intro W base args ds gs before hval0 hW hcnd hsz0 _
  have hval : ∀ (j : Nat) t v, Tryz.f3.params[j]? = some t → args[j]? = some v → Value.okWide Tryz.prog W .any base t v := hval0
  have hW' := hW
  obtain ⟨p, q, hA0, hV, rfl, hfz, hnd⟩ := hW
  have hA : DataW.TrodAll enc Tryz.prog W 0 (fun _ => true) true Tryz.f3.params.toList args.toList ds p := hA0
  rw [Tryz.params3] at hA hval
  obtain ⟨v0, vs0, d0, ds0, p0, q0, hargs, rfl, rfl, h0, r0⟩ := trodAll_cons hA
  obtain ⟨v1, vs1, d1, ds1, p1, q1, rfl, rfl, rfl, h1, r1⟩ := trodAll_cons r0
  obtain ⟨v2, vs2, d2, ds2, p2, q2, rfl, rfl, rfl, h2, r2⟩ := trodAll_cons r1
  obtain ⟨rfl, rfl, rfl⟩ := trodAll_nil r2
  obtain rfl : args = #[v0, v1, v2] := by cases args; simp_all
  obtain ⟨rfl, rfl⟩ := trodVars_none hV
  have k0 := h0
  have lt0 : ∀ x ∈ p0, x.block < W.heap.size := by obtain ⟨m, hm⟩ := k0; exact DataW.trod_lt m _ _ _ hm
  obtain ⟨cs0, hagg0, hsz0, _⟩ : ∃ cs, v0 = .agg cs ∧ cs.size = _ ∧ _ := by have z := (hval 0 24 v0 rfl rfl); unfold Value.okWide at z; rw [Tryz.underlying24] at z; exact z
  subst hagg0
  obtain ⟨a0, R0, G0⟩ := arg_ag opn24 h0
  have k1 := h1
  have lt1 : ∀ x ∈ p1, x.block < W.heap.size := by obtain ⟨m, hm⟩ := k1; exact DataW.trod_lt m _ _ _ hm
  obtain ⟨_, _, _, e1⟩ := okWide_slice Tryz.underlying25 (hval 1 25 v1 rfl rfl)
  obtain ⟨a1, R1, G1⟩ := arg_one (opn_slice (sz := 12) Tryz.underlying25 opn33 (by kernel_rfl) (by decide) (fun _ => rfl)) (by rw [e1]; rfl) h1
  have k2 := h2
  have lt2 : ∀ x ∈ p2, x.block < W.heap.size := by obtain ⟨m, hm⟩ := k2; exact DataW.trod_lt m _ _ _ hm
  obtain ⟨cs2, hagg2, hsz2, _⟩ : ∃ cs, v2 = .agg cs ∧ cs.size = _ ∧ _ := by have z := (hval 2 33 v2 rfl rfl); unfold Value.okWide at z; rw [Tryz.underlying33] at z; exact z
  subst hagg2
  obtain ⟨a2, R2, G2⟩ := arg_ag opn33 h2
  clear hA0 hval0 hsz0
  have hfn := TabSeen_law a0 a1 a2 G0 G1 G2
  refine (hfn.2 bkA W [.agg cs0, v1, .agg cs2] (RVs_cons R0 (RVs_cons R1 (RVs_cons R2 RVs_nil)))).mono fun e W' ⟨x, he, hr, bel⟩ => ?_
  subst he
  obtain rfl := res_true hr
  exact ⟨_, rfl, _, _, _, [], _, [], hW', trodAll_mk1 (shut_bool Tryz.underlying4 _), (trodAll_cons_mk (Below.trod laidOut (by kernel_rfl) (of_decide_eq_true (by kernel_rfl)) k0 bel lt0) (trodAll_cons_mk (Below.trod laidOut (by kernel_rfl) (of_decide_eq_true (by kernel_rfl)) k1 bel lt1) (trodAll_cons_mk (Below.trod laidOut (by kernel_rfl) (of_decide_eq_true (by kernel_rfl)) k2 bel lt2) trodAll_mk0))), rfl, bel.frame _, fun h => by cases h⟩
theorem over : Rows.tabSeenRow.holds Tryz.pinned (OpenSpec.ofChange Rows.tabSeenSpec) :=
  OpenClaim.holds_of_wide 3 Tryz.f3 rfl rfl rfl rfl rfl rfl rfl ⟨rfl, rfl, rfl, rfl, rfl⟩ rfl rfl rfl rfl rfl (by kernel_rfl) Tryz.func3 (by kernel_rfl)
    (of_decide_eq_true (by kernel_rfl)) (by unfold Func.isWrapper; first | (rw [if_pos (by decide +kernel)]; kernel_rfl) | (rw [if_neg (by decide +kernel)]; exact ⟨rfl, rfl⟩))
    (fun os started H enc _ => lifted os started H enc)
theorem proved : Rows.TabSeenSaid := over
#print axioms proved
end Go.Proofs.YtcmonjmoapjpkaaGreat.tabSeen
namespace Go.Proofs.YtcmonjmoapjpkaaGreat
/-- The row, under a short name, for the claim. -/
theorem tabSeen_holds : Rows.TabSeenSaid := tabSeen.proved
end Go.Proofs.YtcmonjmoapjpkaaGreat
end
