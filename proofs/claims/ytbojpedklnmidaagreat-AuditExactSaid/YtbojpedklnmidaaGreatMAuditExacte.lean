/- AuditExact, packed. No condition beyond the statement's own. -/
import Derived.Test.YtbojpedklnmidaaGreatMAuditExactd
section
set_option linter.unusedVariables false
set_option linter.unusedSimpArgs false
set_option linter.constructorNameAsVariable false
set_option maxRecDepth 100000

/- Tables by operations: plain facts. No condition. -/
namespace Go.Proofs.YtbojpedklnmidaaGreat.D
open Go Go.Proofs
open Nat (reduceAdd reduceEqDiff reduceLeDiff)
open Int (reduceLE reduceEq reduceNeg reduceToNat)
theorem apply_code {cols : List Int} {l : List Rwx} {x : Opz} (hck : checkT cols l = 0) : (opE cols (tab0 x) = 0 ∧ (applyT cols l x).2.2.2 = 0) ∨ (opE cols (tab0 x) ≠ 0 ∧ applyT cols l x = ([], [], [], 1)) := by
  by_cases ho : opE cols (tab0 x) = 0
  · exact .inl ⟨ho, by rw [apply_e hck ho]⟩
  · exact .inr ⟨ho, by rw [applyT, if_neg (by simpa using hck), if_pos ho]⟩
theorem opR {cols : List Int} {x : Opz} (ho : opE cols (tab0 x) = 0) : ∃ n, n ≤ 5 ∧ OpR_ n cols (tab0 x) := by
  obtain ⟨_, o1, o2, o3⟩ := opE_0 ho
  exact ⟨_, o2, rightO_1 o3⟩
theorem chgT_key (r : Rwx) (x : Opz) : (chgT r x).key = r.key := by
  unfold chgT; repeat' split
  all_goals rfl
theorem apply_row {cols : List Int} {l : List Rwx} {x : Opz} (hck : checkT cols l = 0) (ho : opE cols (tab0 x) = 0) : ∀ r' ∈ (applyT cols l x).1, (r' ∈ l ∧ r'.key ≠ x.key) ∨ ∃ R, r' = chgT R x ∧ R.key = x.key ∧ (R ∈ l ∨ R = ⟨x.key, [], List.replicate cols.length zCel⟩ ∧ ∀ r ∈ l, r.key ≠ x.key) ∧ Right cols R := by
  have hr := (chk_0 hck).2
  obtain ⟨n, hn, o⟩ := opR ho
  obtain ⟨w1, w2⟩ := withK_spec hr o.key
  have w1 : rowsB cols (withK cols l x.key) = true := w1
  have w2 : (gN (withK cols l x.key) (posK l x.key)).key = x.key := w2
  have hk := withK_lt cols l x.key
  rw [apply_e hck ho]
  intro r' hr'
  obtain ⟨i, hi, rfl⟩ := gN_mem_iff.1 hr'
  have hi' : i < (withK cols l x.key).length := by simpa using hi
  by_cases hik : i = posK l x.key
  · right
    subst hik
    refine ⟨gN (withK cols l x.key) (posK l x.key), gN_set hk _, w2, ?_, right_iff.1 (rows_at w1 hk).1⟩
    rcases withK_at cols l x.key with ⟨h1, h2⟩ | ⟨h1, _, h3⟩
    · left; rw [h2]; exact gN_mem (isK_true h1).1
    · right
      refine ⟨h3, fun r hrl e => ?_⟩
      obtain ⟨j, hj, rfl⟩ := gN_mem_iff.1 hrl
      have := (posK_at hr hj).2
      rw [e, h1] at this; cases this
  · left
    have e : gN ((withK cols l x.key).set (posK l x.key) (chgT (gN (withK cols l x.key) (posK l x.key)) x)) i = gN (withK cols l x.key) i := by
      rw [gN_eq hi, gN_eq hi', List.getElem_set_ne (by omega)]
    rw [e]
    refine ⟨withK_old hi' hik, fun e2 => hik (keys_inj w1 hi' hk (e2.trans w2.symm))⟩
theorem apply_keep {cols : List Int} {l : List Rwx} {x : Opz} (hck : checkT cols l = 0) (ho : opE cols (tab0 x) = 0) : (∃ r' ∈ (applyT cols l x).1, r'.key = x.key) ∧ ∀ r ∈ l, ∃ r' ∈ (applyT cols l x).1, r'.key = r.key := by
  have hr := (chk_0 hck).2
  obtain ⟨n, hn, o⟩ := opR ho
  obtain ⟨w1, w2⟩ := withK_spec hr o.key
  have w2 : (gN (withK cols l x.key) (posK l x.key)).key = x.key := w2
  have hk := withK_lt cols l x.key
  rw [apply_e hck ho]
  have hm : ∀ i, i < (withK cols l x.key).length → ∃ r' ∈ (withK cols l x.key).set (posK l x.key) (chgT (gN (withK cols l x.key) (posK l x.key)) x), r'.key = (gN (withK cols l x.key) i).key := fun i hi => by
    refine ⟨gN ((withK cols l x.key).set (posK l x.key) (chgT (gN (withK cols l x.key) (posK l x.key)) x)) i, gN_mem (by simpa using hi), ?_⟩
    by_cases hik : i = posK l x.key
    · subst hik; rw [gN_set hk, chgT_key]
    · rw [gN_eq (by simpa using hi), List.getElem_set_ne (by omega), ← gN_eq hi]
  refine ⟨?_, fun r hrl => ?_⟩
  · obtain ⟨r', h1, h2⟩ := hm _ hk
    exact ⟨r', h1, h2.trans w2⟩
  · have : r ∈ withK cols l x.key := by
      rcases withK_at cols l x.key with ⟨_, h2⟩ | ⟨_, h2, _⟩
      · rw [h2]; exact hrl
      · rw [h2]
        have : l = l.take (posK l x.key) ++ l.drop (posK l x.key) := (List.take_append_drop _ _).symm
        rw [this] at hrl
        rcases List.mem_append.1 hrl with h | h
        · exact List.mem_append_left _ h
        · exact List.mem_append_right _ (List.mem_cons_of_mem _ h)
    obtain ⟨i, hi, rfl⟩ := gN_mem_iff.1 this
    exact hm i hi
theorem apply_len {cols : List Int} {l : List Rwx} {x : Opz} (hck : checkT cols l = 0) (ho : opE cols (tab0 x) = 0) : (applyT cols l x).1.length ≤ l.length + 1 := by
  rw [apply_e hck ho, List.length_set, withK_len]; split <;> omega
def ltT (a b : St3) : Prop := a.p < b.p ∨ a.p = b.p ∧ (a.l < b.l ∨ a.l = b.l ∧ a.q < b.q)
theorem cmpT_r (a b : St3) : (cmpT a b = -1 ∧ ltT a b) ∨ (cmpT a b = 0 ∧ a = b) ∨ (cmpT a b = 1 ∧ ltT b a) := by
  unfold cmpT ltT
  rcases cmpI_r' a.p b.p with ⟨e, h⟩ | ⟨e, h⟩ | ⟨e, h⟩
  · rw [e, orV_ne (by omega)]; exact .inl ⟨rfl, .inl h⟩
  · rw [e, orV_0]
    rcases cmpI_r' a.l b.l with ⟨e2, h2⟩ | ⟨e2, h2⟩ | ⟨e2, h2⟩
    · rw [e2, orV_ne (by omega)]; exact .inl ⟨rfl, .inr ⟨h, .inl h2⟩⟩
    · rw [e2, orV_0]
      rcases cmpI_r' a.q b.q with ⟨e3, h3⟩ | ⟨e3, h3⟩ | ⟨e3, h3⟩
      · rw [e3, orV_ne (by omega)]; exact .inl ⟨rfl, .inr ⟨h, .inr ⟨h2, h3⟩⟩⟩
      · rw [e3, orV_0]; refine .inr (.inl ⟨rfl, ?_⟩)
        cases a; cases b; simp at h h2 h3 ⊢; exact ⟨h, h2, h3⟩
      · rw [e3, orV_ne (by omega)]; exact .inr (.inr ⟨rfl, .inr ⟨h.symm, .inr ⟨h2.symm, h3⟩⟩⟩)
    · rw [e2, orV_ne (by omega)]; exact .inr (.inr ⟨rfl, .inr ⟨h.symm, .inl h2⟩⟩)
  · rw [e, orV_ne (by omega)]; exact .inr (.inr ⟨rfl, .inl h⟩)
theorem ltT_trans {a b c : St3} (h1 : ltT a b) (h2 : ltT b c) : ltT a c := by unfold ltT at *; omega
theorem ltT_irr (a : St3) : ¬ ltT a a := by unfold ltT; omega
def leT (a b : St3) : Prop := ¬ 0 < cmpT a b
theorem leT_iff {a b : St3} : leT a b ↔ ltT a b ∨ a = b := by
  unfold leT
  rcases cmpT_r a b with ⟨e, h⟩ | ⟨e, h⟩ | ⟨e, h⟩
  · exact ⟨fun _ => .inl h, fun _ => by omega⟩
  · exact ⟨fun _ => .inr h, fun _ => by omega⟩
  · refine ⟨fun h2 => by omega, ?_⟩
    rintro (h2 | h2)
    · exact (ltT_irr _ (ltT_trans h h2)).elim
    · rw [h2] at h; exact (ltT_irr _ h).elim
theorem leT_refl (a : St3) : leT a a := leT_iff.2 (.inr rfl)
theorem leT_trans {a b c : St3} (h1 : leT a b) (h2 : leT b c) : leT a c := by
  rw [leT_iff] at *
  rcases h1 with h1 | rfl
  · rcases h2 with h2 | rfl
    · exact .inl (ltT_trans h1 h2)
    · exact .inl h1
  · exact h2
theorem cmpT_neg {a b : St3} : cmpT a b < 0 ↔ ltT a b := by
  rcases cmpT_r a b with ⟨e, h⟩ | ⟨e, h⟩ | ⟨e, h⟩
  · exact ⟨fun _ => h, fun _ => by omega⟩
  · exact ⟨fun h2 => by omega, fun h2 => by rw [h] at h2; exact (ltT_irr _ h2).elim⟩
  · exact ⟨fun h2 => by omega, fun h2 => (ltT_irr _ (ltT_trans h h2)).elim⟩
theorem leT_0 {s : St3} (h : okS s = true) : leT ⟨0, 0, 0⟩ s := by
  rw [leT_iff]
  unfold okS at h
  simp at h
  unfold ltT
  rcases s with ⟨p, l, q⟩
  simp at h ⊢
  omega
theorem cell_zero {c : Cel} {t : Int} (h : cellB c t = true) (hw : writ c = false) : c.st = ⟨0, 0, 0⟩ := by
  unfold cellB at h
  rw [hw] at h
  unfold isZ at h
  simp at h
  rcases c with ⟨v, ⟨p, l, q⟩, d⟩
  simp at h ⊢
  exact ⟨h.2.2.2.1, h.2.2.2.2.1, h.2.2.2.2.2.1⟩
theorem wr_late {c : Cel} {v : Vl} {x : Opz} {t : Int} (hc : cellB c t = true) (hx : okS x.st = true) : leT c.st (wrCel c v x).st ∧ leT x.st (wrCel c v x).st := by
  unfold wrCel
  split
  · rename_i h
    refine ⟨?_, leT_refl _⟩
    unfold wrB at h
    cases hw : writ c with
    | false => show leT c.st x.st; rw [cell_zero hc hw]; exact leT_0 hx
    | true =>
      rw [hw] at h
      have : cmpT c.st x.st < 0 := by simpa using h
      exact leT_iff.2 (.inl (cmpT_neg.1 this))
  · rename_i h
    refine ⟨leT_refl _, ?_⟩
    unfold wrB at h
    simp only [Bool.or_eq_true, decide_eq_true_eq, not_or] at h
    have h2 := h.2
    rcases cmpT_r c.st x.st with ⟨e, _⟩ | ⟨_, e⟩ | ⟨_, e⟩
    · omega
    · exact leT_iff.2 (.inr e.symm)
    · exact leT_iff.2 (.inl e)
end Go.Proofs.YtbojpedklnmidaaGreat.D
end
section
set_option linter.unusedVariables false
set_option linter.unusedSimpArgs false
set_option linter.constructorNameAsVariable false
set_option maxRecDepth 100000

/- What is there: plain law. No condition. -/
namespace Go.Proofs.YtbojpedklnmidaaGreat.D
open Go Go.Proofs
open Nat (reduceAdd reduceEqDiff reduceLeDiff)
open Int (reduceLE reduceEq reduceNeg reduceToNat)
@[reducible] def oz (x : Opx) : Opz := ⟨x, false⟩
def delS (d : Dt) (t : Bool) (l : List Dt) : Bool := l.foldl (fun t e => t && !sameD e d) t
def thereS (key : ByteArray) (d : Dt) (t : Bool) (x : Opx) : Bool := if x.key.toList = key.toList then (if x.kind = 3 then delS d (if x.kind = 1 && sameD x.dot d then true else t) x.dots else (if x.kind = 1 && sameD x.dot d then true else t)) else t
def thereB (D : List Opx) (key : ByteArray) (d : Dt) : Bool := D.foldl (thereS key d) false
theorem thereB_snoc (D : List Opx) (x : Opx) (key : ByteArray) (d : Dt) : thereB (D ++ [x]) key d = thereS key d (thereB D key d) x := by
  unfold thereB; rw [List.foldl_append]; rfl
theorem delS_t {d : Dt} {l : List Dt} (h : inD l d = false) : delS d true l = true := by
  unfold delS
  induction l with
  | nil => rfl
  | cons e l ih =>
    unfold inD at h ih
    rw [List.any_cons, Bool.or_eq_false_iff] at h
    rw [List.foldl_cons]
    have : sameD e d = false := by
      have := h.1
      unfold eqD at this
      unfold sameD
      simp at this ⊢
      intro h1 h2; exact this h1.symm h2.symm
    rw [this]
    exact ih h.2
def wroteB (key : ByteArray) (c : Nat) (x : Opx) : Prop := x.key = key ∧ (x.kind = 1 ∨ x.kind = 2 ∧ x.col = c)
structure ThI (cols : List Int) (D : List Opx) (rows : List Rwx) : Prop where
  chk : checkT cols rows = 0
  few : rows.length ≤ D.length
  keyed : ∀ x ∈ D, ∃ r ∈ rows, r.key = x.key
  short : ∀ r ∈ rows, r.dots.length ≤ D.length
  dots : ∀ r ∈ rows, ∀ d ∈ r.dots, thereB D r.key d = true
  late : ∀ r ∈ rows, ∀ c, c < r.cells.length → ∀ x ∈ D, wroteB r.key c x → leT x.st (gN r.cells c).st
theorem ThI.step {cols : List Int} {D : List Opx} {rows : List Rwx} {x : Opx} (h : ThI cols D rows) (ho : opE cols (tab0 (oz x)) = 0) : ThI cols (D ++ [x]) (applyT cols rows (oz x)).1 := by
  have hchk := apply_right h.chk ho
  have hrow := apply_row h.chk ho
  obtain ⟨hk1, hk2⟩ := apply_keep h.chk ho
  have hlen := apply_len h.chk ho
  obtain ⟨n, hn, o⟩ := opR ho
  have hw := whole_name o.whole hn
  have hst : okS x.st = true := hw.2
  have hold : ∀ R : Rwx, (R ∈ rows ∨ R = ⟨x.key, [], List.replicate cols.length zCel⟩ ∧ ∀ r ∈ rows, r.key ≠ x.key) → R.key = x.key → (R.dots.length ≤ D.length) ∧ (∀ d ∈ R.dots, thereB D R.key d = true) ∧ ∀ c, c < R.cells.length → ∀ y ∈ D, wroteB R.key c y → leT y.st (gN R.cells c).st := by
    rintro R (hR | ⟨rfl, hno⟩) hRk
    · exact ⟨h.short R hR, h.dots R hR, h.late R hR⟩
    · refine ⟨Nat.zero_le _, (fun d hd => nomatch hd), fun c hc y hy hwr => ?_⟩
      obtain ⟨r, hr, he⟩ := h.keyed y hy
      exact (hno r hr (he.trans hwr.1)).elim
  refine ⟨hchk, by rw [List.length_append]; have := h.few; simp; omega, fun y hy => ?_, fun r hr => ?_, fun r hr d hd => ?_, fun r hr c hc y hy hwr => ?_⟩
  · rcases List.mem_append.1 hy with hy | hy
    · obtain ⟨r, hr, he⟩ := h.keyed y hy
      obtain ⟨r', hr', he'⟩ := hk2 r hr
      exact ⟨r', hr', he'.trans he⟩
    · obtain ⟨r', hr', he'⟩ := hk1
      simp at hy; subst hy
      exact ⟨r', hr', he'⟩
  · rw [List.length_append]
    rcases hrow r hr with ⟨hl, _⟩ | ⟨R, rfl, hRk, hRR, hRt⟩
    · have := h.short r hl; simp; omega
    · have hR1 := (hold R hRR hRk).1
      have hc : (chgT R (oz x)).dots.length ≤ R.dots.length + 1 := by
        unfold chgT
        split
        · exact (insD_pos _ _).2
        · split
          · exact Nat.le_succ _
          · split
            · exact Nat.le_trans (List.length_filter_le _ _) (Nat.le_succ _)
            · exact Nat.le_succ _
      simp; omega
  · rw [thereB_snoc]
    rcases hrow r hr with ⟨hl, hne⟩ | ⟨R, rfl, hRk, hRR, hRt⟩
    · unfold thereS
      rw [if_neg (by rw [toL_iff]; exact fun e => hne e.symm)]
      exact h.dots r hl d hd
    · rw [chgT_key]
      have hR2 := (hold R hRR hRk).2.1
      unfold thereS
      rw [if_pos (by rw [toL_iff]; exact hRk.symm)]
      rcases o.kind with ⟨k, _⟩ | ⟨k, _⟩ | ⟨k, _⟩
      · have k : x.kind = 1 := k
        rw [if_neg (by omega)]
        have e : chgT R (oz x) = ⟨R.key, insD R.dots x.dot, wrs R.cells x.vals (oz x)⟩ := by rw [chgT, if_pos k]
        rw [e] at hd
        split
        · rfl
        · rename_i hns
          rcases ((insD_spec (dotsB_iff.1 hRt.dots).2).2 d).1 hd with e | e
          · refine (hns ?_).elim
            subst e; simp [k, sameD]
          · exact hR2 d e
      · have k : x.kind = 2 := k
        rw [if_neg (by omega), if_neg (by simp; omega)]
        have e : chgT R (oz x) = ⟨R.key, R.dots, R.cells.set x.col.toNat (wrCel (gN R.cells x.col.toNat) (gN x.vals 0) (oz x))⟩ := by rw [chgT, if_neg (by show ¬ x.kind = 1; omega), if_pos k]
        rw [e] at hd
        exact hR2 d hd
      · have k : x.kind = 3 := k
        rw [if_pos k, if_neg (by simp; omega)]
        have e : chgT R (oz x) = ⟨R.key, R.dots.filter fun d => !inD x.dots d, R.cells⟩ := by rw [chgT, if_neg (by show ¬ x.kind = 1; omega), if_neg (by show ¬ x.kind = 2; omega), if_pos k]
        rw [e] at hd
        obtain ⟨d1, d2⟩ := List.mem_filter.1 hd
        rw [hR2 d d1]
        exact delS_t (by simpa using d2)
  · rcases hrow r hr with ⟨hl, hne⟩ | ⟨R, rfl, hRk, hRR, hRt⟩
    · rcases List.mem_append.1 hy with hy | hy
      · exact h.late r hl c hc y hy hwr
      · simp at hy; subst hy
        exact (hne hwr.1.symm).elim
    · have hR3 := (hold R hRR hRk).2.2
      obtain ⟨ca, cb⟩ := allG_at hRt.cells
      rw [chgT_key] at hwr
      rcases o.kind with ⟨k, k2, _⟩ | ⟨k, k2, k3, k4, _⟩ | ⟨k, _⟩
      · have k : x.kind = 1 := k
        have e : chgT R (oz x) = ⟨R.key, insD R.dots x.dot, wrs R.cells x.vals (oz x)⟩ := by rw [chgT, if_pos k]
        rw [e] at hc ⊢
        have hc : c < R.cells.length := by simpa [wrs_len] using hc
        have hvl : x.vals.length = cols.length := small_len k2
        show leT y.st (gN (wrs R.cells x.vals (oz x)) c).st
        rw [wrs_at hc, if_pos (by omega)]
        obtain ⟨l1, l2⟩ := wr_late (v := gN x.vals c) (x := oz x) (cb c hc) hst
        rcases List.mem_append.1 hy with hy | hy
        · exact leT_trans (hR3 c hc y hy hwr) l1
        · simp at hy; subst hy; exact l2
      · have k : x.kind = 2 := k
        have k2 : 0 ≤ x.col := k2
        have k3 : x.col < cols.length := k3
        have e : chgT R (oz x) = ⟨R.key, R.dots, R.cells.set x.col.toNat (wrCel (gN R.cells x.col.toNat) (gN x.vals 0) (oz x))⟩ := by rw [chgT, if_neg (by show ¬ x.kind = 1; omega), if_pos k]
        rw [e] at hc ⊢
        have hc : c < R.cells.length := by simpa using hc
        show leT y.st (gN (R.cells.set x.col.toNat (wrCel (gN R.cells x.col.toNat) (gN x.vals 0) (oz x))) c).st
        by_cases hcc : c = x.col.toNat
        · subst hcc
          rw [gN_set hc]
          obtain ⟨l1, l2⟩ := wr_late (v := gN x.vals 0) (x := oz x) (cb _ hc) hst
          rcases List.mem_append.1 hy with hy | hy
          · exact leT_trans (hR3 _ hc y hy hwr) l1
          · simp at hy; subst hy; exact l2
        · have e2 : gN (R.cells.set x.col.toNat (wrCel (gN R.cells x.col.toNat) (gN x.vals 0) (oz x))) c = gN R.cells c := by
            rw [gN_eq (by simpa using hc), List.getElem_set_ne (by omega), ← gN_eq hc]
          rw [e2]
          rcases List.mem_append.1 hy with hy | hy
          · exact hR3 c hc y hy hwr
          · simp at hy; subst hy
            rcases hwr.2 with q | ⟨_, q⟩ <;> omega
      · have k : x.kind = 3 := k
        have e : chgT R (oz x) = ⟨R.key, R.dots.filter fun d => !inD x.dots d, R.cells⟩ := by rw [chgT, if_neg (by show ¬ x.kind = 1; omega), if_neg (by show ¬ x.kind = 2; omega), if_pos k]
        rw [e] at hc ⊢
        rcases List.mem_append.1 hy with hy | hy
        · exact hR3 c hc y hy hwr
        · simp at hy; subst hy
          rcases hwr.2 with q | ⟨q, _⟩ <;> omega
end Go.Proofs.YtbojpedklnmidaaGreat.D
end
section
set_option linter.unusedVariables false
set_option linter.unusedSimpArgs false
set_option linter.constructorNameAsVariable false
set_option maxRecDepth 100000

/- A row is seen just if it has dots: the walk. No condition. -/
namespace Go.Proofs.YtbojpedklnmidaaGreat.D
open Go Go.Proofs
open Nat (reduceAdd reduceEqDiff reduceLeDiff)
open Int (reduceLE reduceEq reduceNeg reduceToNat)
@[go_sem] theorem op_bsl_opV (z : List V) (x : Opx) (ob : OB) (i : Nat) (hz : (z.length == 12) = true) : opF (.bsl 12 z [0] 1 true) [.ag (opV x)] ob i = some (.im .b [opV x], []) := op_bsl_r ob i (by simpa using hz) (opV_row x)
@[go_sem] theorem len_rws' (f : Fl) (l : List Rwx) : lenOf (rws f l) = some l.length := by simp [rws, lenOf]
def RZ (v : V) (l : List Rwx) : Prop := v = rws .b l ∨ v = .z ∧ l = []
theorem RZ.res {v : V} {l : List Rwx} (h : RZ v l) (ob : OB) (m : Nat) : resV ob (m + 4) v = rws .b l := by
  rcases h with e | ⟨e, rfl⟩ <;> rw [e]
  · simp only [rws, resV, List.map_map]
    show V.im .b _ = _
    congr 1
    exact List.map_congr_left fun r _ => res_rw ob m r
  · rfl
theorem RZ.len {v : V} {l : List Rwx} (h : RZ v l) : lenOf v = some l.length := by
  rcases h with e | ⟨e, rfl⟩ <;> rw [e]
  · exact len_rws' .b l
  · rfl
theorem RZ.at {v : V} {l : List Rwx} (h : RZ v l) {k : Nat} (hk : k < l.length) : v = rws .b l := by
  rcases h with e | ⟨e, rfl⟩
  · exact e
  · simp at hk
set_option maxHeartbeats 4000000 in
attribute [-go_sem] cnC_b in
abbrev Tb := List Int
def gTb (c : Tb) : Prop := gList (gInt .i64) c
def gOpx (x : Opx) : Prop := gDt x.dot ∧ gList (gInt .i64) x.deps ∧ gSt3 x.st ∧ gInt .i64 x.kind ∧ gInt .i64 x.table ∧ gStr x.key ∧ gInt .i64 x.col ∧ gList gVl x.vals ∧ gList gDt x.dots
end Go.Proofs.YtbojpedklnmidaaGreat.D
end
section
set_option linter.unusedVariables false
set_option linter.unusedSimpArgs false
set_option linter.constructorNameAsVariable false
set_option maxRecDepth 100000

/- What a vector has of operations: the statement. No condition. -/
namespace Go.Proofs.YtbojpedklnmidaaGreat.D
open Go Go.Proofs
open Nat (reduceAdd reduceEqDiff reduceLeDiff)
open Int (reduceLE reduceEq reduceNeg reduceToNat)
theorem wk_row : okRow 12 [.c (.int .i64 0), .c (.int .i64 1), .im .b [[.c (.int .i64 0)]], .c (.int .i64 0), .c (.int .i64 0), .c (.int .i64 0), .c (.int .i64 1), .c (.int .i64 0), .c (.string ⟨#[107]⟩), .c (.int .i64 0), .im .b [[.c (.int .i64 3), .c (.int .i64 3), .c (.string ⟨#[]⟩)]], .z] = true := rfl
set_option maxHeartbeats 2000000 in
theorem wakes26_ok : FnB Tryz.prog 21 [] (vb true) := by
  refine fnB_intro cf21 (by simp) ?_
  have hw : ∀ ob i, opF (.bsl 12 [.c (.int .i64 0), .c (.int .i64 0), .z, .c (.int .i64 0), .c (.int .i64 0), .c (.int .i64 0), .c (.int .i64 0), .c (.int .i64 0), .c (.string ⟨#[]⟩), .c (.int .i64 0), .z, .z] [0] 1 true) [.ag [.c (.int .i64 0), .c (.int .i64 1), .im .b [[.c (.int .i64 0)]], .c (.int .i64 0), .c (.int .i64 0), .c (.int .i64 0), .c (.int .i64 1), .c (.int .i64 0), .c (.string ⟨#[107]⟩), .c (.int .i64 0), .im .b [[.c (.int .i64 3), .c (.int .i64 3), .c (.string ⟨#[]⟩)]], .z]] ob i = some (.im .b [[.c (.int .i64 0), .c (.int .i64 1), .im .b [[.c (.int .i64 0)]], .c (.int .i64 0), .c (.int .i64 0), .c (.int .i64 0), .c (.int .i64 1), .c (.int .i64 0), .c (.string ⟨#[107]⟩), .c (.int .i64 0), .im .b [[.c (.int .i64 3), .c (.int .i64 3), .c (.string ⟨#[]⟩)]], .z]], []) := fun ob i => op_bsl_r ob i rfl wk_row
  simp +contextual (maxSteps := 1000000) only [go_sem, ints, intRows, reduceAdd, Nat.reduceBEq, reduceEqDiff, reduceLeDiff, Nat.reduceLT, reduceIte, reduceLE, Int.reduceLT, reduceEq, reduceNeg, reduceToNat, ops, vals, dots, c21, hw]
  have v1 := AVector_ok (fl := .b) 1 [wk1.toOpx] (by simp [maxLen])
  have hv : vectorT 1 [wk1.toOpx] = ([1], 0) := by rfl
  rw [hv] at v1
  have c1 := Closed_ok (fl := .b) 1 [wk1.toOpx] (by simp [maxLen]) (by intro x hx; simp at hx; subst hx; simp [inI])
  have hc : closedB 1 [wk1.toOpx] = true := by rfl
  rw [hc] at c1
  have o1 := AOf_ok (fl := .b) (fm := .b) [wk1.toOpx] [0] (by simp [maxLen]) (by intro x hx; simp at hx; subst hx; exact ⟨by simp [maxLen], by simp [maxLen], by simp [maxLen], by simp [inI]⟩)
  have ho : ofT [wk1.toOpx] [0] = [] := by rfl
  rw [ho] at o1
  first | refine caS_i (MadeW_ok) trivial ?_ | refine caD_i (MadeW_ok) trivial ?_ | refine gC_i (fun _ => MadeW_ok) trivial ?_ | refine gCD_i (fun _ => MadeW_ok) trivial ?_ | refine caE_i (MadeW_ok) trivial ?_
  simp +contextual (maxSteps := 1000000) only [go_sem, ints, intRows, reduceAdd, Nat.reduceBEq, reduceEqDiff, reduceLeDiff, Nat.reduceLT, reduceIte, reduceLE, Int.reduceLT, reduceEq, reduceNeg, reduceToNat, ops, vals, dots, hw]
  first | refine caS_i (v1) trivial ?_ | refine caD_i (v1) trivial ?_ | refine gC_i (fun _ => v1) trivial ?_ | refine gCD_i (fun _ => v1) trivial ?_ | refine caE_i (v1) trivial ?_
  simp +contextual (maxSteps := 1000000) only [go_sem, ints, intRows, reduceAdd, Nat.reduceBEq, reduceEqDiff, reduceLeDiff, Nat.reduceLT, reduceIte, reduceLE, Int.reduceLT, reduceEq, reduceNeg, reduceToNat, ops, vals, dots, hw, ia_h]
  first | refine caS_i (c1) trivial ?_ | refine caD_i (c1) trivial ?_ | refine gC_i (fun _ => c1) trivial ?_ | refine gCD_i (fun _ => c1) trivial ?_ | refine caE_i (c1) trivial ?_
  simp +contextual (maxSteps := 1000000) only [go_sem, ints, intRows, reduceAdd, Nat.reduceBEq, reduceEqDiff, reduceLeDiff, Nat.reduceLT, reduceIte, reduceLE, Int.reduceLT, reduceEq, reduceNeg, reduceToNat, ops, vals, dots, hw, ia_h]
  first | refine caS_i (o1) trivial ?_ | refine caD_i (o1) trivial ?_ | refine gC_i (fun _ => o1) trivial ?_ | refine gCD_i (fun _ => o1) trivial ?_ | refine caE_i (o1) trivial ?_
  simp +contextual (maxSteps := 1000000) only [go_sem, ints, intRows, reduceAdd, Nat.reduceBEq, reduceEqDiff, reduceLeDiff, Nat.reduceLT, reduceIte, reduceLE, Int.reduceLT, reduceEq, reduceNeg, reduceToNat, ops, vals, dots, ia_h]
end Go.Proofs.YtbojpedklnmidaaGreat.D
end
section
set_option linter.unusedVariables false
set_option linter.unusedSimpArgs false
set_option linter.constructorNameAsVariable false
set_option maxRecDepth 100000

/- Closed operations: plain facts. No condition. -/
namespace Go.Proofs.YtbojpedklnmidaaGreat.D
open Go Go.Proofs
open Nat (reduceAdd reduceEqDiff reduceLeDiff)
open Int (reduceLE reduceEq reduceNeg reduceToNat)
def needB (d : Dt) (y : Opx) : Bool := hasB y.deps d || (decide (y.dot.p = d.p) && decide (d.n < y.dot.n))
theorem inD_mem {l : List Dt} {d : Dt} : inD l d = true ↔ d ∈ l := by
  unfold inD
  rw [List.any_eq_true]
  constructor
  · rintro ⟨e, h1, h2⟩
    simp [eqD] at h2
    obtain ⟨p, m⟩ := d; obtain ⟨p', m'⟩ := e
    simp at h2; rw [h2.1, h2.2]; exact h1
  · intro h; exact ⟨d, h, by simp [eqD]⟩
theorem inD_no {l : List Dt} {d : Dt} : inD l d = false ↔ d ∉ l := by
  rw [← Bool.not_eq_true, inD_mem]
section
variable {n : Int} {l : List Opx}
theorem allD_iff {D : List Dt} {p m : Int} : allD D p m = true ↔ ∀ q : Int, 1 ≤ q → q ≤ m → (⟨p, q⟩ : Dt) ∈ D := by
  unfold allD
  rw [List.all_eq_true]
  constructor
  · intro h q h1 h2
    have := h (q.toNat - 1) (List.mem_range.2 (by omega))
    rw [inD_mem] at this
    have e : ((q.toNat - 1 + 1 : Nat) : Int) = q := by omega
    rw [e] at this; exact this
  · intro h k hk
    rw [inD_mem]
    have := List.mem_range.1 hk
    exact h _ (by omega) (by omega)
end
end Go.Proofs.YtbojpedklnmidaaGreat.D
end
section
set_option linter.unusedVariables false
set_option linter.unusedSimpArgs false
set_option linter.constructorNameAsVariable false
set_option maxRecDepth 100000

/- Closed operations: the walk of the statement. No condition. -/
namespace Go.Proofs.YtbojpedklnmidaaGreat.D
open Go Go.Proofs
open Nat (reduceAdd reduceEqDiff reduceLeDiff)
open Int (reduceLE reduceEq reduceNeg reduceToNat)
section
variable {P : Program} {nid : Nat} {env : Env} {ob : OB} {K : Env → OB → Prop} {l : List RO} {d : Option Nat} {n k : Nat} {v x : V} {rows xs : List (List V)} {nps : List (List Nat)} {past : List (List Nat × Option (List Nat))} {np : List Nat} {lk : Option (List Nat)}
end
theorem own_fr {n n' k : Nat} {ob ob' : OB} {v : V} {rows : List (List V)} (h : Own n ob v k rows) (hn : n ≤ n') (hf : ∀ id, id < n → v = .sl id 0 rows.length → ob' id = ob id) : Own n' ob' v k rows :=
  h.imp id fun ⟨h1, i, c, h2, h3, h4⟩ => ⟨h1, i, c, by omega, h3, (hf i h2 h3).trans h4⟩
theorem resO {n : Nat} {ob : OB} {s : V} {l : List Opx} (h : Own n ob s 12 (l.map opV)) : ∃ f, ∀ m, resV ob (m + 4) s = ops f l := by
  rcases h with ⟨h1, rfl⟩ | ⟨_, id, cap, hid, rfl, hob⟩
  · refine ⟨.b, fun m => ?_⟩
    rw [res_z, ops, h1]
  · refine ⟨.n, fun m => ?_⟩
    simp only [resV, rowsOf, hob, Option.bind_some, List.length_map]
    rw [if_pos (by simp), ops, List.drop_zero, List.take_of_length_le (by simp)]
    show V.im Fl.n (List.map (fun r => List.map (resV ob (m + 3)) r) (l.map opV)) = _
    rw [List.map_map]
    congr 1
    exact List.map_congr_left fun x _ => res_op _ _ x
end Go.Proofs.YtbojpedklnmidaaGreat.D
end
section
set_option linter.unusedVariables false
set_option linter.unusedSimpArgs false
set_option linter.constructorNameAsVariable false
set_option maxRecDepth 100000

/- What operations make of a key: an operation noted; a row. No condition. -/
namespace Go.Proofs.YtbojpedklnmidaaGreat.D
open Go Go.Proofs
open Nat (reduceAdd reduceEqDiff reduceLeDiff)
open Int (reduceLE reduceEq reduceNeg reduceToNat)
theorem app_any {ob : OB} {n nid k : Nat} {v x : V} {rows xs : List (List V)} (h : Own n ob v k rows) (hn : n ≤ nid) (hx : rowsOf ob x = some xs) (hk : xs.all (okRow k) = true) (hlen : rows.length + xs.length ≤ maxLen) :
    ∃ v' us, opF (.app k) [v, x] ob nid = some (v', us) ∧ Own (nid + 1) (apps ob us) v' k (rows ++ xs) ∧ (∀ id, id ≠ nid → (∀ len, v ≠ .sl id 0 len) → apps ob us id = ob id) ∧ (v' = v ∨ ∃ len, v' = .sl nid 0 len) ∧ cellsV v' = [v'] ∧ leaf v' = true := by
  by_cases h0 : xs = []
  · subst h0
    rcases h with ⟨rfl, rfl⟩ | ⟨h1, id, cap, h2, rfl, h4⟩
    · exact ⟨.z, [], by simp [opF, hx], .inl ⟨rfl, rfl⟩, fun _ _ _ => rfl, .inl rfl, rfl, rfl⟩
    · refine ⟨.sl id 0 rows.length, [(id, some ⟨k, rows, cap⟩)], ?_, ?_, fun j hj hs => ?_, .inl rfl, rfl, rfl⟩
      · simp only [opF, hx, Option.bind_some, h4]
        simp at hlen
        simp [hlen, over]
      · refine .inr ⟨by simpa using h1, id, cap, by omega, by simp, ?_⟩
        simp [apps]
      · have : j ≠ id := fun e => hs rows.length (by rw [e])
        simp [apps, this]
  · have h1 : (rows = [] ∧ v = .z) ∨ (∃ id cap, v = .sl id 0 rows.length ∧ ob id = some ⟨k, rows, cap⟩) := h.imp id fun ⟨_, i, c, _, h3, h4⟩ => ⟨i, c, h3, h4⟩
    obtain ⟨us, u1, u2, u3⟩ := app_new (nid := nid) h1 h0 hx hk hlen
    exact ⟨_, us, u1, .inr ⟨by simp [h0], nid, none, by omega, by simp, u2⟩, u3, .inr ⟨_, rfl⟩, rfl, rfl⟩
theorem own_up {n m k : Nat} {ob : OB} {v : V} {rows : List (List V)} {o : Option Ob} (h : Own n ob v k rows) (hm : ∀ len, v ≠ .sl m 0 len) : Own n (updO ob m o) v k rows :=
  own_fr h (Nat.le_refl _) fun id _ e => by rw [updO, if_neg fun e2 => hm rows.length (by rw [e, e2])]
theorem ownE_up {n m k : Nat} {ob : OB} {v : V} {rows : List (List V)} {o : Option Ob} (h : OwnE n ob v k rows) (hm : ∀ len, v ≠ .sl m 0 len) : OwnE n (updO ob m o) v k rows :=
  h.fr (Nat.le_refl _) fun id len e _ => by rw [updO, if_neg fun e2 => hm len (by rw [e, e2])]
set_option maxHeartbeats 4000000 in
attribute [-go_sem] wpC_bl in
theorem note_ok {M : Mde} {x : Opx} {inV outV laV : V} {mid n nid : Nat} {ob : OB} {C : V → OB → Nat → Prop} (h : MadeO ob n mid M inV outV laV) (hn : n ≤ nid) (hil : M.ins.length + 1 ≤ maxLen) (hol : M.outs.length + x.dots.length ≤ maxLen) (hll : M.last.length ≤ maxLen)
    (hC : ∀ inV' outV' ob' n', nid ≤ n' → MadeO ob' n' mid (noteM M x) inV' outV' laV → (∀ j, j < nid → j ≠ mid → (∀ len, inV ≠ .sl j 0 len) → (∀ len, outV ≠ .sl j 0 len) → (∀ len, laV ≠ .sl j 0 len) → ob' j = ob j) →
      (∀ id len, inV' = .sl id 0 len → (∃ len', inV = .sl id 0 len') ∨ nid ≤ id) → (∀ id len, outV' = .sl id 0 len → (∃ len', outV = .sl id 0 len') ∨ nid ≤ id) → C (.tp []) ob' n') :
    FnS Tryz.prog 45 [.pt mid 0 0, .ag (opN x)] ob nid C := by
  have hmn := h.lt
  refine fnS_intro cf45 (by simp) ?_
  have ha : ∀ k, (mid == nid + k) = false := fun k => by simp; omega
  have ha0 : (mid == nid) = false := by simp; omega
  have ha' : ∀ k, (nid + k == mid) = false := fun k => by simp; omega
  have ha1 : (nid == mid) = false := by simp; omega
  have nid13 : ∀ k, (nid == nid + (k + 1)) = false := fun k => by simp
  have hm := h.m
  simp +contextual (maxSteps := 1000000) only [go_sem, ints, intRows, reduceAdd, Nat.reduceBEq, reduceEqDiff, reduceLeDiff, Nat.reduceLT, reduceIte, reduceLE, Int.reduceLT, reduceEq, reduceNeg, reduceToNat, ops, vals, dots, c45, hm, ha, ha0, Nat.add_assoc, beq_add, Nat.zero_add, Nat.add_zero]
  have hb1 := updO_s ob nid (some ⟨12, [opN x], none⟩)
  have hfr1 : ∀ j, j < nid → updO ob nid (some ⟨12, [opN x], none⟩) j = ob j := fun j hj => by rw [updO, if_neg (by omega)]
  have hi1 : Own n (updO ob nid (some ⟨12, [opN x], none⟩)) inV 2 (M.ins.map dotV) := h.i.upd hn
  have ho1 : Own n (updO ob nid (some ⟨12, [opN x], none⟩)) outV 2 (M.outs.map dotV) := h.o.upd hn
  have hl1 : OwnE n (updO ob nid (some ⟨12, [opN x], none⟩)) laV 12 (M.last.map lastV) := h.l.upd hn
  have hm1 := (hfr1 mid (by omega)).trans hm
  generalize updO ob nid (some ⟨12, [opN x], none⟩) = ob1 at *
  have him : ∀ len, inV ≠ .sl mid 0 len := fun len => h.i.e.ne hm (by omega)
  have hom : ∀ len, outV ≠ .sl mid 0 len := fun len => h.o.e.ne hm (by omega)
  have hlm : ∀ len, laV ≠ .sl mid 0 len := fun len => h.l.ne hm (by omega)
  refine cut_C (fun env ob' n' => env 0 = .pt mid 0 0 ∧ env 3 = .pt nid 0 0 ∧ nid < n' ∧ ob' nid = some ⟨12, [opN x], none⟩ ∧ ∃ inV' outV', MadeO ob' n' mid ⟨M.key, if x.kind = 1 then M.ins ++ [x.dot] else M.ins, if x.kind = 3 then M.outs ++ x.dots else M.outs, M.last⟩ inV' outV' laV ∧
      (∀ j, j < nid → j ≠ mid → (∀ len, inV ≠ .sl j 0 len) → (∀ len, outV ≠ .sl j 0 len) → ob' j = ob j) ∧ (∀ id len, inV' = .sl id 0 len → (∃ len', inV = .sl id 0 len') ∨ nid ≤ id) ∧ (∀ id len, outV' = .sl id 0 len → (∃ len', outV = .sl id 0 len') ∨ nid ≤ id)) ?_ ?_
  · simp +contextual (maxSteps := 1000000) only [go_sem, ints, intRows, reduceAdd, Nat.reduceBEq, reduceEqDiff, reduceLeDiff, Nat.reduceLT, reduceIte, reduceLE, Int.reduceLT, reduceEq, reduceNeg, reduceToNat, ops, vals, dots, wpC_bl, hb1, hm1, ha, ha0, ha', ha1, nid13, Nat.add_assoc, beq_add, Nat.zero_add, Nat.add_zero]
    refine ⟨fun h1 => ?_, fun h1 => ⟨fun h3 => ?_, fun h3 => ?_⟩⟩
    · simp only [decide_eq_true_eq] at h1
      obtain ⟨v', us, u1, u2, u3, u4, u5, u6⟩ := app_any (x := .im .b [dotV x.dot]) (xs := [dotV x.dot]) (nid := nid + 13) hi1 (by omega) rfl rfl (by simpa using hil)
      have u1' : opF (.app 2) [inV, .im .b [[vi x.dot.p, vi x.dot.n]]] ob1 (nid + 13) = some (v', us) := u1
      rw [u1', nxD_t]
      have um : apps ob1 us mid = some ⟨4, [[.c (.string M.key), inV, outV, laV]], none⟩ := (u3 mid (by omega) him).trans hm1
      have un : apps ob1 us nid = some ⟨12, [opN x], none⟩ := (u3 nid (by omega) fun len e => h.i.e.lt hn e).trans hb1
      simp +contextual (maxSteps := 1000000) only [go_sem, ints, intRows, reduceAdd, Nat.reduceBEq, reduceEqDiff, reduceLeDiff, Nat.reduceLT, reduceIte, reduceLE, Int.reduceLT, reduceEq, reduceNeg, reduceToNat, ops, vals, dots, wpC_bl, um, u5, u6, ha, ha0, ha', ha1, nid13, Nat.add_assoc, beq_add, Nat.zero_add, Nat.add_zero]
      have hv' : ∀ id len, v' = .sl id 0 len → (∃ len', inV = .sl id 0 len') ∨ nid ≤ id := fun id len e => by
        rcases u4 with rfl | ⟨len', rfl⟩
        · exact .inl ⟨_, e⟩
        · injection e with e _ _; exact .inr (by omega)
      have hvm : ∀ len, v' ≠ .sl mid 0 len := fun len e => by
        rcases hv' _ _ e with ⟨len', e⟩ | e
        · exact him _ e
        · omega
      refine ⟨by omega, un, v', outV, ⟨updO_s _ _ _, ?_, ?_, ?_, fun id len len' e => ?_, by omega⟩, fun j h2 h3 h4 h5 => ?_, hv', fun id len e => .inl ⟨_, e⟩⟩
      · rw [if_pos h1, List.map_append]
        exact own_up (n := nid + 17) (u2.mono (by omega)) hvm
      · rw [if_neg (show ¬ x.kind = 3 by omega)]
        exact own_up (own_fr (n' := nid + 17) ho1 (by omega) fun id h2 h3 => u3 id (by omega) fun len h4 => h.d id len _ h4 h3) hom
      · exact ownE_up (n := nid + 17) (hl1.fr (by omega) fun id len h2 h3 => u3 id (by omega) fun len' h4 => by
          rcases hi1 with ⟨_, h5⟩ | ⟨_, i, c, _, h5, h6⟩
          · rw [h5] at h4; cases h4
          · rw [h4] at h5; injection h5 with h5
            exact hl1.ne (h5 ▸ h6) (by omega) h2) hlm
      · rcases u4 with rfl | ⟨len2, rfl⟩
        · exact h.d _ _ _ e
        · injection e with e _ _
          exact fun e2 => by have := ho1.e.lt (A := nid + 13) (by omega) (len := len'); rw [← e] at e2; exact this e2
      · rw [updO, if_neg h3, u3 j (by omega) h4, hfr1 j h2]
    · simp only [decide_eq_true_eq] at h3
      obtain ⟨v', us, u1, u2, u3, u4, u5, u6⟩ := app_any (x := dots .n x.dots) (xs := x.dots.map dotV) (nid := nid + 14) ho1 (by omega) rfl (allDots _) (by simpa using hol)
      have u1' : opF (.app 2) [outV, .im .n (x.dots.map dotV)] ob1 (nid + 14) = some (v', us) := u1
      rw [u1', nxD_t]
      have um : apps ob1 us mid = some ⟨4, [[.c (.string M.key), inV, outV, laV]], none⟩ := (u3 mid (by omega) hom).trans hm1
      have un : apps ob1 us nid = some ⟨12, [opN x], none⟩ := (u3 nid (by omega) fun len e => h.o.e.lt hn e).trans hb1
      simp +contextual (maxSteps := 1000000) only [go_sem, ints, intRows, reduceAdd, Nat.reduceBEq, reduceEqDiff, reduceLeDiff, Nat.reduceLT, reduceIte, reduceLE, Int.reduceLT, reduceEq, reduceNeg, reduceToNat, ops, vals, dots, wpC_bl, um, u5, u6, ha, ha0, ha', ha1, nid13, Nat.add_assoc, beq_add, Nat.zero_add, Nat.add_zero]
      have hv' : ∀ id len, v' = .sl id 0 len → (∃ len', outV = .sl id 0 len') ∨ nid ≤ id := fun id len e => by
        rcases u4 with rfl | ⟨len', rfl⟩
        · exact .inl ⟨_, e⟩
        · injection e with e _ _; exact .inr (by omega)
      have hvm : ∀ len, v' ≠ .sl mid 0 len := fun len e => by
        rcases hv' _ _ e with ⟨len', e⟩ | e
        · exact hom _ e
        · omega
      refine ⟨by omega, un, inV, v', ⟨updO_s _ _ _, ?_, ?_, ?_, fun id len len' e => ?_, by omega⟩, fun j h2 h3 h4 h5 => ?_, fun id len e => .inl ⟨_, e⟩, hv'⟩
      · rw [if_neg (show ¬ x.kind = 1 by omega)]
        exact own_up (own_fr (n' := nid + 18) hi1 (by omega) fun id h2 h3 => u3 id (by omega) fun len h4 => h.d id _ _ h3 h4) him
      · rw [if_pos h3, List.map_append]
        exact own_up (n := nid + 18) (u2.mono (by omega)) hvm
      · exact ownE_up (n := nid + 18) (hl1.fr (by omega) fun id len h2 h3 => u3 id (by omega) fun len' h4 => by
          rcases ho1 with ⟨_, h5⟩ | ⟨_, i, c, _, h5, h6⟩
          · rw [h5] at h4; cases h4
          · rw [h4] at h5; injection h5 with h5
            exact hl1.ne (h5 ▸ h6) (by omega) h2) hlm
      · rcases u4 with rfl | ⟨len2, rfl⟩
        · exact h.d _ _ _ e
        · intro e2; injection e2 with e2 _ _
          have := hi1.e.lt (A := nid + 14) (by omega) (len := len); rw [← e2] at e; exact this e
      · rw [updO, if_neg h3, u3 j (by omega) h5, hfr1 j h2]
    · simp only [decide_eq_false_iff_not] at h1 h3
      refine ⟨by omega, inV, outV, ⟨hm1, ?_, ?_, hl1.mono (by omega), h.d, by omega⟩, fun j h2 _ _ _ => hfr1 j h2, fun id len e => .inl ⟨_, e⟩, fun id len e => .inl ⟨_, e⟩⟩
      · rw [if_neg h1]; exact hi1.mono (by omega)
      · rw [if_neg h3]; exact ho1.mono (by omega)
  clear hb1 hi1 ho1 hl1 hm1 him hom hlm hm ha ha0 ha' ha1 nid13 hfr1 ob1
  rintro env ob2 n2 ⟨e0, e3, hn2, obx, inV', outV', hM, hfr2, hin, hout⟩
  have hm2 := hM.m
  have hlL : lenOf laV = some M.last.length := by
    rcases hM.l with ⟨h3, h4⟩ | ⟨id, c, _, h4, _⟩
    · have : M.last = [] := by simpa using h3
      rw [this, h4]; rfl
    · rw [h4]; simp [lenOf]
  simp +contextual (maxSteps := 1000000) only [go_sem, ints, intRows, reduceAdd, Nat.reduceBEq, reduceEqDiff, reduceLeDiff, Nat.reduceLT, reduceIte, reduceLE, Int.reduceLT, reduceEq, reduceNeg, reduceToNat, ops, vals, dots, e0, e3, hm2, hlL]
  generalize hNL : (noteM M x).last = NL
  have hNLl : NL.length = M.last.length := by rw [← hNL]; simp [noteM]
  have hNLi : ∀ i : Nat, i < M.last.length → gN NL i = if 0 ≤ atX x i ∧ lateB (gN M.last i) x = true then some x else gN M.last i := fun i hi => by
    rw [← hNL]; unfold noteM
    rw [gN_eq (by simpa using hi), gN_eq hi]
    simp
  refine wpC_lp (fun env ob' n' => env 0 = .pt mid 0 0 ∧ env 3 = .pt nid 0 0 ∧ env 36 = vi M.last.length ∧ n2 ≤ n' ∧ ∃ i : Nat, env 37 = vi i ∧ i ≤ M.last.length ∧ OwnE n2 ob' laV 12 ((NL.take i ++ M.last.drop i).map lastV) ∧ ∀ j, j < n2 → (∀ len, laV ≠ .sl j 0 len) → ob' j = ob2 j) (fun env ob _ => (M.last.length - iv (env 37)).toNat) ?_ ?_
  · simp +contextual (maxSteps := 1000000) only [go_sem, ints, intRows, reduceAdd, Nat.reduceBEq, reduceEqDiff, reduceLeDiff, Nat.reduceLT, reduceIte, reduceLE, Int.reduceLT, reduceEq, reduceNeg, reduceToNat, ops, vals, dots, e0, e3]
    exact ⟨by omega, 0, rfl, by omega, by simpa using hM.l⟩
  clear e0 e3
  rintro env ob' n' ⟨e0, e3, e36, hn', i, e37, hi, hla, hfr3⟩
  simp +contextual (maxSteps := 1000000) only [go_sem, ints, intRows, reduceAdd, Nat.reduceBEq, reduceEqDiff, reduceLeDiff, Nat.reduceLT, reduceIte, reduceLE, Int.reduceLT, reduceEq, reduceNeg, reduceToNat, ops, vals, dots, e0, e3, e36, e37]
  refine ⟨fun hlt => ?_, fun hge => ?_⟩
  · simp only [decide_eq_true_eq] at hlt
    have hmo := (hfr3 mid hM.lt fun len => hM.l.ne hm2 (by omega)).trans hm2
    have hxo := (hfr3 nid hn2 fun len e => by
      rcases hM.l with ⟨_, h4⟩ | ⟨id, c, _, h4, h5⟩
      · rw [h4] at e; cases e
      · exact h.l.lt hn e).trans obx
    have hLl : (NL.take i ++ M.last.drop i).length = M.last.length := by simp; omega
    obtain ⟨id, c, hid, hle, hob⟩ : ∃ id c, id < n2 ∧ laV = .sl id 0 M.last.length ∧ ob' id = some ⟨12, (NL.take i ++ M.last.drop i).map lastV, c⟩ := by
      rcases hla with ⟨h3, _⟩ | ⟨id, c, h4, h5, h6⟩
      · have := congrArg List.length h3
        rw [List.length_map, hLl, List.length_nil] at this; omega
      · rw [List.length_map, hLl] at h5; exact ⟨id, c, h4, h5, h6⟩
    have hgi : gN (NL.take i ++ M.last.drop i) i = gN M.last i := by
      rw [gN_eq (by rw [hLl]; omega), gN_eq (by omega), List.getElem_append_right (by simp; omega)]
      simp; congr 1; omega
    have hrow : ((NL.take i ++ M.last.drop i).map lastV)[i]? = some (lastV (gN M.last i)) := by
      rw [List.getElem?_map, List.getElem?_eq_getElem (by rw [hLl]; omega), ← gN_eq (by rw [hLl]; omega), hgi]; rfl
    generalize hLi : NL.take i ++ M.last.drop i = Li at *
    subst hle
    simp +contextual (maxSteps := 1000000) only [go_sem, ints, intRows, reduceAdd, Nat.reduceBEq, reduceEqDiff, reduceLeDiff, Nat.reduceLT, reduceIte, reduceLE, Int.reduceLT, reduceEq, reduceNeg, reduceToNat, ops, vals, dots, wpC_bl, e0, e3, e36, e37, hmo, hxo, hob]
    first | refine caS_i (at_okN x i) trivial ?_ | refine caD_i (at_okN x i) trivial ?_ | refine gC_i (fun _ => at_okN x i) trivial ?_ | refine gCD_i (fun _ => at_okN x i) trivial ?_ | refine caE_i (at_okN x i) trivial ?_
    have hset : Li.set i (gN NL i) = NL.take (i + 1) ++ M.last.drop (i + 1) := by
      have e1 : M.last.drop i = gN M.last i :: M.last.drop (i + 1) := by rw [gN_eq (by omega), List.getElem_cons_drop]
      rw [← hLi, take_gN (by omega), e1, List.set_append_right _ _ (by simp; omega)]
      have e2 : i - (NL.take i).length = 0 := by simp; omega
      rw [e2]; simp
    have hsetn : gN NL i = gN M.last i → Li.set i (gN NL i) = Li := fun e => by
      rw [e, ← hgi]
      refine List.ext_getElem (by simp) fun j h1 h2 => ?_
      rw [List.getElem_set]; split
      · rename_i h3; subst h3; rw [gN_eq h2]
      · rfl
    have hNi := hNLi i (by omega)
    have w1 : IntKind.i64.wrap ((i : Int) + 1) = ((i + 1 : Nat) : Int) := by have := hll; unfold maxLen at this; rw [w64 (by omega)]; omega
    have hyes : gN NL i = some x → OwnE n2 (updO ob' id (some ⟨12, (Li.map lastV).set i (opN x), c⟩)) (.sl id 0 M.last.length) 12 ((NL.take (i + 1) ++ M.last.drop (i + 1)).map lastV) := fun e => by
      have e1 : (Li.map lastV).set i (opN x) = (NL.take (i + 1) ++ M.last.drop (i + 1)).map lastV := by rw [← hset, e, List.map_set]; rfl
      rw [e1]; exact .inr ⟨id, c, hid, by rw [List.length_map, ← hset, List.length_set, hLl], updO_s _ _ _⟩
    have hno : gN NL i = gN M.last i → OwnE n2 ob' (.sl id 0 M.last.length) 12 ((NL.take (i + 1) ++ M.last.drop (i + 1)).map lastV) := fun e => by
      rw [← hset, hsetn e]; exact hla
    cases hy : gN M.last i with
    | none =>
      have el : lastV (gN Li i) = [vi 0, vi 0, .z, vi 0, vi 0, vi 0, vi 0, vi 0, .c (.string ⟨#[]⟩), vi 0, .z, .z] := by rw [hgi, hy]; rfl
      simp +contextual (maxSteps := 1000000) only [go_sem, ints, intRows, reduceAdd, Nat.reduceBEq, reduceEqDiff, reduceLeDiff, Nat.reduceLT, reduceIte, reduceLE, Int.reduceLT, reduceEq, reduceNeg, reduceToNat, ops, vals, dots, wpC_bl, e0, e3, e36, e37, hmo, hxo, hob, el]
      refine ⟨fun _ => by omega, fun _ => by omega, fun _ => by omega, fun _ => by omega, ?_⟩
      first | refine caS_i (cmpT_ok ⟨0, 0, 0⟩ x.st) trivial ?_ | refine caD_i (cmpT_ok ⟨0, 0, 0⟩ x.st) trivial ?_ | refine gC_i (fun _ => cmpT_ok ⟨0, 0, 0⟩ x.st) trivial ?_ | refine gCD_i (fun _ => cmpT_ok ⟨0, 0, 0⟩ x.st) trivial ?_ | refine caE_i (cmpT_ok ⟨0, 0, 0⟩ x.st) trivial ?_
      simp +contextual (maxSteps := 1000000) only [go_sem, ints, intRows, reduceAdd, Nat.reduceBEq, reduceEqDiff, reduceLeDiff, Nat.reduceLT, reduceIte, reduceLE, Int.reduceLT, reduceEq, reduceNeg, reduceToNat, ops, vals, dots, wpC_bl, e0, e3, e36, e37, hmo, hxo, hob, el, w1]
      rw [hy] at hNi
      refine ⟨fun hb => ⟨by omega, by omega, ⟨by omega, i + 1, rfl, by omega, hyes ?_, fun j h1 h2 => by rw [updO, if_neg (fun e => h2 _ (by rw [e])), hfr3 j h1 h2]⟩, by omega⟩, fun hb => ⟨⟨by omega, i + 1, rfl, by omega, hno ?_, fun j h1 h2 => hfr3 j h1 h2⟩, by omega⟩⟩
      · rw [hNi, if_pos ⟨of_decide_eq_true hb, rfl⟩]
      · rw [hNi, hy, if_neg fun h => by rw [decide_eq_true h.1] at hb; cases hb]
    | some y =>
      have el : lastV (gN Li i) = opN y := by rw [hgi, hy]; rfl
      simp +contextual (maxSteps := 1000000) only [go_sem, ints, intRows, reduceAdd, Nat.reduceBEq, reduceEqDiff, reduceLeDiff, Nat.reduceLT, reduceIte, reduceLE, Int.reduceLT, reduceEq, reduceNeg, reduceToNat, ops, vals, dots, wpC_bl, e0, e3, e36, e37, hmo, hxo, hob, el]
      refine ⟨fun _ => by omega, fun _ => by omega, fun _ => by omega, fun _ => by omega, ?_⟩
      first | refine caS_i (cmpT_ok y.st x.st) trivial ?_ | refine caD_i (cmpT_ok y.st x.st) trivial ?_ | refine gC_i (fun _ => cmpT_ok y.st x.st) trivial ?_ | refine gCD_i (fun _ => cmpT_ok y.st x.st) trivial ?_ | refine caE_i (cmpT_ok y.st x.st) trivial ?_
      simp +contextual (maxSteps := 1000000) only [go_sem, ints, intRows, reduceAdd, Nat.reduceBEq, reduceEqDiff, reduceLeDiff, Nat.reduceLT, reduceIte, reduceLE, Int.reduceLT, reduceEq, reduceNeg, reduceToNat, ops, vals, dots, wpC_bl, e0, e3, e36, e37, hmo, hxo, hob, el, w1]
      rw [hy] at hNi
      refine ⟨fun hb => ⟨by omega, by omega, ⟨by omega, i + 1, rfl, by omega, hyes ?_, fun j h1 h2 => by rw [updO, if_neg (fun e => h2 _ (by rw [e])), hfr3 j h1 h2]⟩, by omega⟩, fun hb => ⟨⟨by omega, i + 1, rfl, by omega, hno ?_, fun j h1 h2 => hfr3 j h1 h2⟩, by omega⟩⟩
      · rw [Bool.and_eq_true] at hb
        rw [hNi, if_pos ⟨of_decide_eq_true hb.1, hb.2⟩]
      · rw [hNi, hy, if_neg fun h => by
          rw [decide_eq_true h.1, Bool.true_and] at hb
          have h2 : (decide (y.kind = 0) || decide (cmpT y.st x.st < 0)) = true := h.2
          rw [hb] at h2; cases h2]
  · simp only [decide_eq_false_iff_not] at hge
    obtain rfl : i = M.last.length := by omega
    rw [List.drop_length, List.append_nil, List.take_of_length_le (by omega)] at hla
    have hdf : ∀ {id len len' : Nat} {v : V} {rows : List (List V)}, Own n2 ob2 v 2 rows → v = .sl id 0 len → laV ≠ .sl id 0 len' := fun {id len len' v rows} ho e => by
      rcases ho with ⟨_, h5⟩ | ⟨_, i, c, _, h5, h6⟩
      · rw [h5] at e; cases e
      · rw [e] at h5; injection h5 with h5
        exact hM.l.ne (h5 ▸ h6) (by omega)
    refine hC inV' outV' ob' _ (by omega) ⟨(hfr3 mid hM.lt fun len => hM.l.ne hm2 (by omega)).trans hm2, ?_, ?_, ?_, hM.d, by have := hM.lt; omega⟩ (fun j h1 h2 h3 h4 h5 => (hfr3 j (by omega) h5).trans (hfr2 j h1 h2 h3 h4)) hin hout
    · exact own_fr hM.i (by omega) fun id h1 h2 => hfr3 id h1 fun len => hdf hM.i h2
    · exact own_fr hM.o (by omega) fun id h1 h2 => hfr3 id h1 fun len => hdf hM.o h2
    · rw [hNL]; exact hla.mono (by omega)
end Go.Proofs.YtbojpedklnmidaaGreat.D
end
section
set_option linter.unusedVariables false
set_option linter.unusedSimpArgs false
set_option linter.constructorNameAsVariable false
set_option maxRecDepth 100000

/- What is seen of a key: a row made. No condition. -/
namespace Go.Proofs.YtbojpedklnmidaaGreat.D
open Go Go.Proofs
open Nat (reduceAdd reduceEqDiff reduceLeDiff)
open Int (reduceLE reduceEq reduceNeg reduceToNat)
def thereM (M : Mde) : Bool := M.ins.any fun d => !inD M.outs d
def valM1 (o : Option Opx) (c : Nat) : Vl := match o with
  | some y => gN y.vals (atX y c).toNat
  | none => default
def rowM (M : Mde) : List Vl := if thereM M then ⟨4, 0, M.key⟩ :: M.last.mapIdx (fun c o => valM1 o c) else []
theorem res_op2N (ob : OB) (n : Nat) (x : Opx) : (opN x).map (resV ob (n + 2)) = opN x := by
  simp [opN, ints, vals, dots, resV, resFl, vlV, dotV, Function.comp_def]
def lastR : Option Opx → List V
  | none => opV default
  | some x => opN x
theorem own_resL {n : Nat} {ob : OB} {v : V} {l : List (Option Opx)} (h : OwnE n ob v 12 (l.map lastV)) : ∃ b : Bool, ∀ m, resV ob (m + 3) v = .im (flg b) (l.map lastR) := by
  rcases h with ⟨h0, rfl⟩ | ⟨id, cap, hid, rfl, hob⟩
  · have : l = [] := by simpa using h0
    subst this; exact ⟨false, fun m => rfl⟩
  · refine ⟨true, fun m => ?_⟩
    simp only [resV, rowsOf, hob, Option.bind_some]
    rw [if_pos (by simp)]
    simp only [List.drop_zero, List.take_length, List.map_map, opsN, flg]
    congr 1
    refine List.map_congr_left fun o _ => ?_
    cases o with
    | none => rfl
    | some y => simp [lastV, lastR, opN, opsN, ints, vals, dots, resV, resFl, vlV, dotV, Function.comp_def]
theorem nxD_any {P : Program} {n k nid : Nat} {env : Env} {ob : OB} {K : Env → OB → Prop} {l : List RO} {dl : Ups} {d : Option Nat} {v x : V} {rows xs : List (List V)} (h : Own n ob v k rows) (hn : n ≤ nid) (hx : rowsOf ob x = some xs) (hk : xs.all (okRow k) = true) (hlen : rows.length + xs.length ≤ maxLen)
    (hK : ∀ v' ob', Own (nid + 1) ob' v' k (rows ++ xs) → (∀ id, id ≠ nid → (∀ len, v ≠ .sl id 0 len) → ob' id = ob id) → (v' = v ∨ ∃ len, v' = .sl nid 0 len) → wpD P l (nid + 1) (put env d v') ob' dl K) : nxD P true d l nid env ob dl K (opF (.app k) [v, x] ob nid) := by
  obtain ⟨v', us, u1, u2, u3, u4, _⟩ := app_any (nid := nid) h hn hx hk hlen
  rw [u1, nxD_t]; exact hK _ _ u2 u3 u4
set_option maxHeartbeats 4000000 in
theorem row_ok {M : Mde} {inV outV laV : V} {mid n nid : Nat} {ob : OB} {C : V → OB → Nat → Prop} (h : MadeO ob n mid M inV outV laV) (hn : n ≤ nid) (hil : M.ins.length ≤ maxLen) (hol : M.outs.length ≤ maxLen) (hll : M.last.length + 1 ≤ maxLen)
    (hv : thereM M = true → ∀ c, c < M.last.length → ∃ y, gN M.last c = some y ∧ 0 ≤ atX y c ∧ atX y c < y.vals.length)
    (hC : ∀ rV ob' n', nid ≤ n' → Own n' ob' rV 3 ((rowM M).map vlV) → (∀ id len, rV = .sl id 0 len → nid ≤ id) → (∀ j, j < nid → ob' j = ob j) → C rV ob' n') :
    FnS Tryz.prog 47 [.pt mid 0 0] ob nid C := by
  have hmn := h.lt
  refine fnS_intro cf47 (by simp) ?_
  have ha : ∀ k, (mid == nid + k) = false := fun k => by simp; omega
  have ha0 : (mid == nid) = false := by simp; omega
  have nid13 : ∀ k, (nid == nid + (k + 1)) = false := fun k => by simp
  have nid14 : ∀ k, (nid + (k + 1) == nid) = false := fun k => by simp
  have hm := h.m
  simp +contextual (maxSteps := 1000000) only [go_sem, ints, intRows, reduceAdd, Nat.reduceBEq, reduceEqDiff, reduceLeDiff, Nat.reduceLT, reduceIte, reduceLE, Int.reduceLT, reduceEq, reduceNeg, reduceToNat, ops, vals, dots, c47, hm, ha, ha0, nid13, nid14, Nat.add_assoc, beq_add, Nat.zero_add, Nat.add_zero]
  have hbx := updO_s ob nid (some ⟨1, [[.pt mid 0 0]], none⟩)
  have hfr1 : ∀ j, j < nid → updO ob nid (some ⟨1, [[.pt mid 0 0]], none⟩) j = ob j := fun j hj => by rw [updO, if_neg (by omega)]
  have hi1 : Own n (updO ob nid (some ⟨1, [[.pt mid 0 0]], none⟩)) inV 2 (M.ins.map dotV) := h.i.upd hn
  have ho1 : Own n (updO ob nid (some ⟨1, [[.pt mid 0 0]], none⟩)) outV 2 (M.outs.map dotV) := h.o.upd hn
  have hl1 : OwnE n (updO ob nid (some ⟨1, [[.pt mid 0 0]], none⟩)) laV 12 (M.last.map lastV) := h.l.upd hn
  have hm1 := (hfr1 mid (by omega)).trans hm
  generalize updO ob nid (some ⟨1, [[.pt mid 0 0]], none⟩) = ob1 at *
  obtain ⟨b1, hb1⟩ := own_res2 hi1.e
  obtain ⟨b2, hb2⟩ := own_res2 ho1.e
  obtain ⟨b3, hb3⟩ := own_resL hl1
  have r1 : resV ob1 6 inV = dots (flg b1) M.ins := hb1 3
  have r2 : resV ob1 3 inV = dots (flg b1) M.ins := hb1 0
  have r3 : resV ob1 3 outV = dots (flg b2) M.outs := hb2 0
  have r4 : resV ob1 3 laV = .im (flg b3) (M.last.map lastR) := hb3 0
  rw [r1, r2, r3, r4]
  have hLR : ∀ ob' m, (M.last.map lastR).map (fun r => r.map (resV ob' (m + 2))) = M.last.map lastR := fun ob' m => by
    rw [List.map_map]
    refine List.map_congr_left fun o _ => ?_
    cases o with
    | none => simp [lastR, opV, ints, vals, dots, resV, resFl, default]
    | some y => exact res_op2N ob' m y
  generalize M.last.map lastR = LR at *
  refine ⟨rfl, ?_⟩
  first | refine caS_i (ContainsFDots_ok (fl := flg b1) M.ins 95 _ (fun d => !inD M.outs d) hil (fun ob' => by cases b1 <;> cases b2 <;> cases b3 <;> simp [resV, dots, opsN, flg, resFl, dotV, Function.comp_def] <;> first | exact hLR _ 0 | exact hLR _ 1 | (intro a ha; have := List.map_inj_left.1 ((hLR ob' 0).trans (List.map_id' _).symm) a ha; simpa using this)) (fun ob' => by cases b1 <;> cases b2 <;> cases b3 <;> simp [resV, dots, opsN, flg, resFl, dotV, Function.comp_def] <;> first | exact hLR _ 0 | exact hLR _ 1 | (intro a ha; have := List.map_inj_left.1 ((hLR ob' 0).trans (List.map_id' _).symm) a ha; simpa using this)) (fun d _ => row1_ok d _ _ M.outs (fo := flg b2) hol)) trivial ?_ | refine caD_i (ContainsFDots_ok (fl := flg b1) M.ins 95 _ (fun d => !inD M.outs d) hil (fun ob' => by cases b1 <;> cases b2 <;> cases b3 <;> simp [resV, dots, opsN, flg, resFl, dotV, Function.comp_def] <;> first | exact hLR _ 0 | exact hLR _ 1 | (intro a ha; have := List.map_inj_left.1 ((hLR ob' 0).trans (List.map_id' _).symm) a ha; simpa using this)) (fun ob' => by cases b1 <;> cases b2 <;> cases b3 <;> simp [resV, dots, opsN, flg, resFl, dotV, Function.comp_def] <;> first | exact hLR _ 0 | exact hLR _ 1 | (intro a ha; have := List.map_inj_left.1 ((hLR ob' 0).trans (List.map_id' _).symm) a ha; simpa using this)) (fun d _ => row1_ok d _ _ M.outs (fo := flg b2) hol)) trivial ?_ | refine gC_i (fun _ => ContainsFDots_ok (fl := flg b1) M.ins 95 _ (fun d => !inD M.outs d) hil (fun ob' => by cases b1 <;> cases b2 <;> cases b3 <;> simp [resV, dots, opsN, flg, resFl, dotV, Function.comp_def] <;> first | exact hLR _ 0 | exact hLR _ 1 | (intro a ha; have := List.map_inj_left.1 ((hLR ob' 0).trans (List.map_id' _).symm) a ha; simpa using this)) (fun ob' => by cases b1 <;> cases b2 <;> cases b3 <;> simp [resV, dots, opsN, flg, resFl, dotV, Function.comp_def] <;> first | exact hLR _ 0 | exact hLR _ 1 | (intro a ha; have := List.map_inj_left.1 ((hLR ob' 0).trans (List.map_id' _).symm) a ha; simpa using this)) (fun d _ => row1_ok d _ _ M.outs (fo := flg b2) hol)) trivial ?_ | refine gCD_i (fun _ => ContainsFDots_ok (fl := flg b1) M.ins 95 _ (fun d => !inD M.outs d) hil (fun ob' => by cases b1 <;> cases b2 <;> cases b3 <;> simp [resV, dots, opsN, flg, resFl, dotV, Function.comp_def] <;> first | exact hLR _ 0 | exact hLR _ 1 | (intro a ha; have := List.map_inj_left.1 ((hLR ob' 0).trans (List.map_id' _).symm) a ha; simpa using this)) (fun ob' => by cases b1 <;> cases b2 <;> cases b3 <;> simp [resV, dots, opsN, flg, resFl, dotV, Function.comp_def] <;> first | exact hLR _ 0 | exact hLR _ 1 | (intro a ha; have := List.map_inj_left.1 ((hLR ob' 0).trans (List.map_id' _).symm) a ha; simpa using this)) (fun d _ => row1_ok d _ _ M.outs (fo := flg b2) hol)) trivial ?_ | refine caE_i (ContainsFDots_ok (fl := flg b1) M.ins 95 _ (fun d => !inD M.outs d) hil (fun ob' => by cases b1 <;> cases b2 <;> cases b3 <;> simp [resV, dots, opsN, flg, resFl, dotV, Function.comp_def] <;> first | exact hLR _ 0 | exact hLR _ 1 | (intro a ha; have := List.map_inj_left.1 ((hLR ob' 0).trans (List.map_id' _).symm) a ha; simpa using this)) (fun ob' => by cases b1 <;> cases b2 <;> cases b3 <;> simp [resV, dots, opsN, flg, resFl, dotV, Function.comp_def] <;> first | exact hLR _ 0 | exact hLR _ 1 | (intro a ha; have := List.map_inj_left.1 ((hLR ob' 0).trans (List.map_id' _).symm) a ha; simpa using this)) (fun d _ => row1_ok d _ _ M.outs (fo := flg b2) hol)) trivial ?_
  have ht : (M.ins.any fun d => !inD M.outs d) = thereM M := rfl
  rw [ht]
  simp +contextual (maxSteps := 1000000) only [go_sem, ints, intRows, reduceAdd, Nat.reduceBEq, reduceEqDiff, reduceLeDiff, Nat.reduceLT, reduceIte, reduceLE, Int.reduceLT, reduceEq, reduceNeg, reduceToNat, ops, vals, dots, hm1, hbx, ha, ha0, nid13, nid14, Nat.add_assoc, beq_add, Nat.zero_add, Nat.add_zero]
  refine ⟨fun hf => hC .z ob1 _ (by omega) (.inl ⟨by unfold rowM; rw [hf]; rfl, rfl⟩) (fun id len e => by cases e) hfr1, fun hf => ?_⟩
  have ht1 : thereM M = true := by simpa using hf
  have hlL : lenOf laV = some M.last.length := by
    rcases h.l with ⟨h3, h4⟩ | ⟨id, c, _, h4, _⟩
    · have : M.last = [] := by simpa using h3
      rw [this, h4]; rfl
    · rw [h4]; simp [lenOf]
  have hv := hv ht1
  simp +contextual (maxSteps := 1000000) only [go_sem, ints, intRows, reduceAdd, Nat.reduceBEq, reduceEqDiff, reduceLeDiff, Nat.reduceLT, reduceIte, reduceLE, Int.reduceLT, reduceEq, reduceNeg, reduceToNat, ops, vals, dots, hlL]
  have hbs := updO_s ob1 (nid + 14) (some ⟨3, [[vi 4, vi 0, .c (.string M.key)]], none⟩)
  have hfr2 : ∀ j, j < nid → updO ob1 (nid + 14) (some ⟨3, [[vi 4, vi 0, .c (.string M.key)]], none⟩) j = ob j := fun j hj => by rw [updO, if_neg (by omega), hfr1 j hj]
  clear hbx hfr1 hi1 ho1 hl1 hm1 hb1 hb2 hb3 r1 r2 r3 r4 hLR nid13 nid14 ha ha0
  refine wpC_lp (fun env ob' n' => env 22 = laV ∧ env 23 = vi M.last.length ∧ nid + 14 < n' ∧ ∃ i : Nat, env 24 = vi i ∧ i ≤ M.last.length ∧ Own n' ob' (env 3) 3 ((⟨4, 0, M.key⟩ :: (M.last.mapIdx fun c o => valM1 o c).take i).map vlV) ∧ (∀ id len, env 3 = .sl id 0 len → nid ≤ id) ∧ ∀ j, j < nid → ob' j = ob j) (fun env ob _ => (M.last.length - iv (env 24)).toNat) ?_ ?_
  · simp +contextual (maxSteps := 1000000) only [go_sem, ints, intRows, reduceAdd, Nat.reduceBEq, reduceEqDiff, reduceLeDiff, Nat.reduceLT, reduceIte, reduceLE, Int.reduceLT, reduceEq, reduceNeg, reduceToNat, ops, vals, dots]
    refine ⟨by omega, 0, rfl, by omega, .inr ⟨by simp, nid + 14, none, by omega, rfl, ?_⟩, fun id len e => ?_, hfr2⟩
    · exact hbs
    · injection e; omega
  clear hbs hfr2
  rintro env ob' n' ⟨h22, h23, hn', i, h24, hi, ho, hoi, hfr⟩
  have w1 : IntKind.i64.wrap ((i : Int) + 1) = ((i + 1 : Nat) : Int) := by have := hll; unfold maxLen at this; rw [w64 (by omega)]; omega
  simp +contextual (maxSteps := 1000000) only [go_sem, ints, intRows, reduceAdd, Nat.reduceBEq, reduceEqDiff, reduceLeDiff, Nat.reduceLT, reduceIte, reduceLE, Int.reduceLT, reduceEq, reduceNeg, reduceToNat, ops, vals, dots, h22, h23, h24]
  refine ⟨fun hlt => ?_, fun hge => ?_⟩
  · simp only [decide_eq_true_eq] at hlt
    obtain ⟨y, y1, y2, y3⟩ := hv i (by omega)
    obtain ⟨id, c, hid, hle, hob⟩ : ∃ id c, id < n ∧ laV = .sl id 0 M.last.length ∧ ob' id = some ⟨12, M.last.map lastV, c⟩ := by
      rcases h.l with ⟨h3, _⟩ | ⟨id, c, h4, h5, h6⟩
      · have : M.last = [] := by simpa using h3
        rw [this] at hlt; simp at hlt; omega
      · rw [List.length_map] at h5; exact ⟨id, c, h4, h5, (hfr id (by omega)).trans h6⟩
    have el : lastV (gN M.last i) = opN y := by rw [y1]; rfl
    subst hle
    simp +contextual (maxSteps := 1000000) only [go_sem, ints, intRows, reduceAdd, Nat.reduceBEq, reduceEqDiff, reduceLeDiff, Nat.reduceLT, reduceIte, reduceLE, Int.reduceLT, reduceEq, reduceNeg, reduceToNat, ops, vals, dots, h22, h23, h24, hob, el]
    obtain ⟨Q, hQ⟩ := Int.eq_ofNat_of_zero_le y2
    refine ⟨by omega, by omega, ?_⟩
    first | refine caS_i (at_okN y i) trivial ?_ | refine caD_i (at_okN y i) trivial ?_ | refine gC_i (fun _ => at_okN y i) trivial ?_ | refine gCD_i (fun _ => at_okN y i) trivial ?_ | refine caE_i (at_okN y i) trivial ?_
    simp +contextual (maxSteps := 1000000) only [go_sem, ints, intRows, reduceAdd, Nat.reduceBEq, reduceEqDiff, reduceLeDiff, Nat.reduceLT, reduceIte, reduceLE, Int.reduceLT, reduceEq, reduceNeg, reduceToNat, ops, vals, dots, h22, h23, h24, hob, el, hQ]
    refine ⟨by omega, ?_⟩
    generalize hob2 : updO (updO ob' _ _) _ _ = ob2
    have hfr2 : ∀ j, j < n' → ob2 j = ob' j := fun j hj => by rw [← hob2, updO, if_neg (by omega), updO, if_neg (by omega)]
    have ho2 : Own n' ob2 (env 3) 3 _ := own_fr ho (Nat.le_refl _) fun id h1 _ => hfr2 id h1
    have hml : (M.last.mapIdx fun c o => valM1 o c).length = M.last.length := by simp
    have hgi : gN (M.last.mapIdx fun c o => valM1 o c) i = gN y.vals Q := by
      rw [gN_eq (by omega), List.getElem_mapIdx, ← gN_eq (by omega), y1]
      show gN y.vals (atX y i).toNat = _
      rw [hQ]; rfl
    refine nxD_any (xs := [vlV (gN y.vals Q)]) ho2 (by omega) rfl rfl (by simp; omega) fun v' ob3 u2 u3 u4 => ?_
    simp +contextual (maxSteps := 1000000) only [go_sem, ints, intRows, reduceAdd, Nat.reduceBEq, reduceEqDiff, reduceLeDiff, Nat.reduceLT, reduceIte, reduceLE, Int.reduceLT, reduceEq, reduceNeg, reduceToNat, ops, vals, dots, h22, h23, h24, w1]
    refine ⟨⟨by omega, i + 1, rfl, by omega, ?_, fun id' len e => ?_, fun j hj => ?_⟩, by omega⟩
    · rw [take_gN (by omega), hgi, List.map_append, ← List.cons_append]
      exact u2.mono (by omega)
    · rcases u4 with rfl | ⟨len', rfl⟩
      · exact hoi _ _ e
      · injection e; omega
    · rw [u3 j (by omega) (fun len e => by have := hoi _ _ e; omega), hfr2 j (by omega), hfr j hj]
  · simp only [decide_eq_false_iff_not] at hge
    obtain rfl : i = M.last.length := by omega
    rw [List.take_of_length_le (by simp)] at ho
    refine hC _ _ _ (by omega) ?_ hoi hfr
    unfold rowM; rw [if_pos ht1]; exact ho.mono (by omega)
end Go.Proofs.YtbojpedklnmidaaGreat.D
end
section
set_option linter.unusedVariables false
set_option linter.unusedSimpArgs false
set_option linter.constructorNameAsVariable false
set_option maxRecDepth 100000

/- Whether an operation may be, as the page says. No condition. -/
namespace Go.Proofs.YtbojpedklnmidaaGreat.D
open Go Go.Proofs
open Nat (reduceAdd reduceEqDiff reduceLeDiff)
open Int (reduceLE reduceEq reduceNeg reduceToNat)
theorem RValueE_ok (v : Vl) : FnB Tryz.prog 105 [.ag (vlV v)] (vb (okVl v)) := by
  refine fnB_intro cf105 (by simp) ?_
  simp +contextual (maxSteps := 1000000) only [go_sem, ints, intRows, reduceAdd, Nat.reduceBEq, reduceEqDiff, reduceLeDiff, Nat.reduceLT, reduceIte, reduceLE, Int.reduceLT, reduceEq, reduceNeg, reduceToNat, ops, vals, dots, c105, vlV]
  refine ⟨fun h1 => ?_, fun h1 => ⟨fun h2 => ?_, fun h2 => ⟨fun h3 => ?_, fun h3 => ⟨fun h4 => ?_, fun h4 => ?_⟩⟩⟩⟩
  · unfold okVl; rw [if_pos (by simpa using h1)]
  · first | refine caS_i (inRef_ok v.i 0 1) trivial ?_ | refine caD_i (inRef_ok v.i 0 1) trivial ?_ | refine gC_i (fun _ => inRef_ok v.i 0 1) trivial ?_ | refine gCD_i (fun _ => inRef_ok v.i 0 1) trivial ?_ | refine caE_i (inRef_ok v.i 0 1) trivial ?_
    simp +contextual (maxSteps := 1000000) only [go_sem, ints, intRows, reduceAdd, Nat.reduceBEq, reduceEqDiff, reduceLeDiff, Nat.reduceLT, reduceIte, reduceLE, Int.reduceLT, reduceEq, reduceNeg, reduceToNat, ops, vals, dots]
    unfold okVl; rw [if_neg (by simpa using h1), if_pos (by simpa using h2)]
    have : decide (0 ≤ v.i ∧ v.i ≤ 1) = (decide (v.i = 0) || decide (v.i = 1)) := by rw [← Bool.decide_or]; congr 1; apply propext; omega
    rw [this]
  · first | refine caS_i (inRef_ok v.i (-1152921504606846976) 1152921504606846976) trivial ?_ | refine caD_i (inRef_ok v.i (-1152921504606846976) 1152921504606846976) trivial ?_ | refine gC_i (fun _ => inRef_ok v.i (-1152921504606846976) 1152921504606846976) trivial ?_ | refine gCD_i (fun _ => inRef_ok v.i (-1152921504606846976) 1152921504606846976) trivial ?_ | refine caE_i (inRef_ok v.i (-1152921504606846976) 1152921504606846976) trivial ?_
    simp +contextual (maxSteps := 1000000) only [go_sem, ints, intRows, reduceAdd, Nat.reduceBEq, reduceEqDiff, reduceLeDiff, Nat.reduceLT, reduceIte, reduceLE, Int.reduceLT, reduceEq, reduceNeg, reduceToNat, ops, vals, dots]
    unfold okVl; rw [if_neg (by simpa using h1), if_neg (by simpa using h2), if_pos (by simpa using h3)]
  · unfold okVl; rw [if_neg (by simpa using h1), if_neg (by simpa using h2), if_neg (by simpa using h3), if_pos (by simpa using h4)]
  · unfold okVl; rw [if_neg (by simpa using h1), if_neg (by simpa using h2), if_neg (by simpa using h3), if_neg (by simpa using h4)]
theorem RFits_ok (v : Vl) (t : Int) : FnB Tryz.prog 69 [.ag (vlV v), vi t] (vb (fitsV v t)) := by
  refine fnB_intro cf69 (by simp) ?_
  simp +contextual (maxSteps := 1000000) only [go_sem, ints, intRows, reduceAdd, Nat.reduceBEq, reduceEqDiff, reduceLeDiff, Nat.reduceLT, reduceIte, reduceLE, Int.reduceLT, reduceEq, reduceNeg, reduceToNat, ops, vals, dots, c69]
  first | refine caS_i (TypeR_ok t) trivial ?_ | refine caD_i (TypeR_ok t) trivial ?_ | refine gC_i (fun _ => TypeR_ok t) trivial ?_ | refine gCD_i (fun _ => TypeR_ok t) trivial ?_ | refine caE_i (TypeR_ok t) trivial ?_
  simp +contextual (maxSteps := 1000000) only [go_sem, ints, intRows, reduceAdd, Nat.reduceBEq, reduceEqDiff, reduceLeDiff, Nat.reduceLT, reduceIte, reduceLE, Int.reduceLT, reduceEq, reduceNeg, reduceToNat, ops, vals, dots]
  first | refine caS_i (RValueE_ok v) trivial ?_ | refine caD_i (RValueE_ok v) trivial ?_ | refine gC_i (fun _ => RValueE_ok v) trivial ?_ | refine gCD_i (fun _ => RValueE_ok v) trivial ?_ | refine caE_i (RValueE_ok v) trivial ?_
  simp +contextual (maxSteps := 1000000) only [go_sem, ints, intRows, reduceAdd, Nat.reduceBEq, reduceEqDiff, reduceLeDiff, Nat.reduceLT, reduceIte, reduceLE, Int.reduceLT, reduceEq, reduceNeg, reduceToNat, ops, vals, dots]
  unfold fitsV
  have : decide (2 ≤ t ∧ t ≤ 4) = (decide (t = 2) || decide (t = 3) || decide (t = 4)) := by
    rw [Bool.eq_iff_iff]; simp; omega
  rw [this]
theorem RSmall_ok (v : Vl) : FnB Tryz.prog 68 [.ag (vlV v)] (vb (smallV v)) := by
  refine fnB_intro cf68 (by simp) ?_
  simp +contextual (maxSteps := 1000000) only [go_sem, ints, intRows, reduceAdd, Nat.reduceBEq, reduceEqDiff, reduceLeDiff, Nat.reduceLT, reduceIte, reduceLE, Int.reduceLT, reduceEq, reduceNeg, reduceToNat, ops, vals, dots, c68]
  first | refine caS_i (RValueE_ok v) trivial ?_ | refine caD_i (RValueE_ok v) trivial ?_ | refine gC_i (fun _ => RValueE_ok v) trivial ?_ | refine gCD_i (fun _ => RValueE_ok v) trivial ?_ | refine caE_i (RValueE_ok v) trivial ?_
  simp +contextual (maxSteps := 1000000) only [go_sem, ints, intRows, reduceAdd, Nat.reduceBEq, reduceEqDiff, reduceLeDiff, Nat.reduceLT, reduceIte, reduceLE, Int.reduceLT, reduceEq, reduceNeg, reduceToNat, ops, vals, dots]
  first | refine caS_i (inRef_ok v.i (-2147483648) 2147483648) trivial ?_ | refine caD_i (inRef_ok v.i (-2147483648) 2147483648) trivial ?_ | refine gC_i (fun _ => inRef_ok v.i (-2147483648) 2147483648) trivial ?_ | refine gCD_i (fun _ => inRef_ok v.i (-2147483648) 2147483648) trivial ?_ | refine caE_i (inRef_ok v.i (-2147483648) 2147483648) trivial ?_
  simp +contextual (maxSteps := 1000000) only [go_sem, ints, intRows, reduceAdd, Nat.reduceBEq, reduceEqDiff, reduceLeDiff, Nat.reduceLT, reduceIte, reduceLE, Int.reduceLT, reduceEq, reduceNeg, reduceToNat, ops, vals, dots]
  unfold smallV
  cases okVl v <;> by_cases h3 : v.k = 3 <;> simp [h3]
theorem RStampK_ok (s : St3) : FnB Tryz.prog 66 [.ag (stV s)] (vb (okS s)) := by
  refine fnB_intro cf66 (by simp) ?_
  simp +contextual (maxSteps := 1000000) only [go_sem, ints, intRows, reduceAdd, Nat.reduceBEq, reduceEqDiff, reduceLeDiff, Nat.reduceLT, reduceIte, reduceLE, Int.reduceLT, reduceEq, reduceNeg, reduceToNat, ops, vals, dots, c66, stV]
  first | refine caS_i (inRef_ok s.p 0 1099511627776) trivial ?_ | refine caD_i (inRef_ok s.p 0 1099511627776) trivial ?_ | refine gC_i (fun _ => inRef_ok s.p 0 1099511627776) trivial ?_ | refine gCD_i (fun _ => inRef_ok s.p 0 1099511627776) trivial ?_ | refine caE_i (inRef_ok s.p 0 1099511627776) trivial ?_
  simp +contextual (maxSteps := 1000000) only [go_sem, ints, intRows, reduceAdd, Nat.reduceBEq, reduceEqDiff, reduceLeDiff, Nat.reduceLT, reduceIte, reduceLE, Int.reduceLT, reduceEq, reduceNeg, reduceToNat, ops, vals, dots]
  first | refine caS_i (inRef_ok s.l 0 65536) trivial ?_ | refine caD_i (inRef_ok s.l 0 65536) trivial ?_ | refine gC_i (fun _ => inRef_ok s.l 0 65536) trivial ?_ | refine gCD_i (fun _ => inRef_ok s.l 0 65536) trivial ?_ | refine caE_i (inRef_ok s.l 0 65536) trivial ?_
  simp +contextual (maxSteps := 1000000) only [go_sem, ints, intRows, reduceAdd, Nat.reduceBEq, reduceEqDiff, reduceLeDiff, Nat.reduceLT, reduceIte, reduceLE, Int.reduceLT, reduceEq, reduceNeg, reduceToNat, ops, vals, dots]
  first | refine caS_i (inRef_ok s.q 0 4) trivial ?_ | refine caD_i (inRef_ok s.q 0 4) trivial ?_ | refine gC_i (fun _ => inRef_ok s.q 0 4) trivial ?_ | refine gCD_i (fun _ => inRef_ok s.q 0 4) trivial ?_ | refine caE_i (inRef_ok s.q 0 4) trivial ?_
  simp +contextual (maxSteps := 1000000) only [go_sem, ints, intRows, reduceAdd, Nat.reduceBEq, reduceEqDiff, reduceLeDiff, Nat.reduceLT, reduceIte, reduceLE, Int.reduceLT, reduceEq, reduceNeg, reduceToNat, ops, vals, dots]
  rfl
theorem RKeyK_ok (k : ByteArray) : FnB Tryz.prog 67 [.c (.string k)] (vb (keyB k)) := by
  refine fnB_intro cf67 (by simp) ?_
  simp +contextual (maxSteps := 1000000) only [go_sem, ints, intRows, reduceAdd, Nat.reduceBEq, reduceEqDiff, reduceLeDiff, Nat.reduceLT, reduceIte, reduceLE, Int.reduceLT, reduceEq, reduceNeg, reduceToNat, ops, vals, dots, c67]
  first | refine caS_i (inRef_ok (k.size : Int) 1 12) trivial ?_ | refine caD_i (inRef_ok (k.size : Int) 1 12) trivial ?_ | refine gC_i (fun _ => inRef_ok (k.size : Int) 1 12) trivial ?_ | refine gCD_i (fun _ => inRef_ok (k.size : Int) 1 12) trivial ?_ | refine caE_i (inRef_ok (k.size : Int) 1 12) trivial ?_
  simp +contextual (maxSteps := 1000000) only [go_sem, ints, intRows, reduceAdd, Nat.reduceBEq, reduceEqDiff, reduceLeDiff, Nat.reduceLT, reduceIte, reduceLE, Int.reduceLT, reduceEq, reduceNeg, reduceToNat, ops, vals, dots]
  unfold keyB
  rw [← Bool.decide_and]
def rightX (n : Int) (f : List (List Int)) (x : Opx) : Bool := decide (0 ≤ x.table ∧ x.table < f.length) && rightO n (gN f x.table.toNat) (tab0 (oz x))
end Go.Proofs.YtbojpedklnmidaaGreat.D
end
section
set_option linter.unusedVariables false
set_option linter.unusedSimpArgs false
set_option linter.constructorNameAsVariable false
set_option maxRecDepth 100000

/- Whether an operation may be, as the page says: the walk. No condition. -/
namespace Go.Proofs.YtbojpedklnmidaaGreat.D
open Go Go.Proofs
open Nat (reduceAdd reduceEqDiff reduceLeDiff)
open Int (reduceLE reduceEq reduceNeg reduceToNat)
theorem ite_or' (c b : Bool) : (if c = true then b else true) = (!c || b) := by cases c <;> rfl
theorem ite_and' (c b : Bool) : (if c = true then b else false) = (c && b) := by cases c <;> rfl
set_option maxHeartbeats 4000000 in
attribute [-go_sem] cnC_b in
theorem ROp_ok (n : Int) (f : List (List Int)) (x : Opx) (hn : 1 ≤ n ∧ n ≤ 5) (hf : 1 ≤ f.length ∧ f.length ≤ maxLen) (hc : ∀ c ∈ f, c.length ≤ 4) (hv : x.vals.length ≤ maxLen) (hd : x.dots.length ≤ maxLen) : FnB Tryz.prog 33 [vi n, tbs .b f, .ag (opV x)] (vb (rightX n f x)) := by
  unfold maxLen at *
  refine fnB_intro cf33 (by simp) ?_
  have wn : IntKind.i64.wrap (n - 1) = n - 1 := w64 (by omega)
  have wf : IntKind.i64.wrap ((f.length : Int) - 1) = f.length - 1 := w64 (by omega)
  simp +contextual (maxSteps := 1000000) only [go_sem, ints, intRows, reduceAdd, Nat.reduceBEq, reduceEqDiff, reduceLeDiff, Nat.reduceLT, reduceIte, reduceLE, Int.reduceLT, reduceEq, reduceNeg, reduceToNat, ops, vals, dots, c33, tbs, wn, wf]
  first | refine caS_i (inRef_ok x.dot.p 0 (n - 1)) trivial ?_ | refine caD_i (inRef_ok x.dot.p 0 (n - 1)) trivial ?_ | refine gC_i (fun _ => inRef_ok x.dot.p 0 (n - 1)) trivial ?_ | refine gCD_i (fun _ => inRef_ok x.dot.p 0 (n - 1)) trivial ?_ | refine caE_i (inRef_ok x.dot.p 0 (n - 1)) trivial ?_
  simp +contextual (maxSteps := 1000000) only [go_sem, ints, intRows, reduceAdd, Nat.reduceBEq, reduceEqDiff, reduceLeDiff, Nat.reduceLT, reduceIte, reduceLE, Int.reduceLT, reduceEq, reduceNeg, reduceToNat, ops, vals, dots, wn, wf]
  first | refine caS_i (inRef_ok x.dot.n 1 1073741824) trivial ?_ | refine caD_i (inRef_ok x.dot.n 1 1073741824) trivial ?_ | refine gC_i (fun _ => inRef_ok x.dot.n 1 1073741824) trivial ?_ | refine gCD_i (fun _ => inRef_ok x.dot.n 1 1073741824) trivial ?_ | refine caE_i (inRef_ok x.dot.n 1 1073741824) trivial ?_
  simp +contextual (maxSteps := 1000000) only [go_sem, ints, intRows, reduceAdd, Nat.reduceBEq, reduceEqDiff, reduceLeDiff, Nat.reduceLT, reduceIte, reduceLE, Int.reduceLT, reduceEq, reduceNeg, reduceToNat, ops, vals, dots, wn, wf]
  first | refine caS_i (Vector_ok x.deps) trivial ?_ | refine caD_i (Vector_ok x.deps) trivial ?_ | refine gC_i (fun _ => Vector_ok x.deps) trivial ?_ | refine gCD_i (fun _ => Vector_ok x.deps) trivial ?_ | refine caE_i (Vector_ok x.deps) trivial ?_
  simp +contextual (maxSteps := 1000000) only [go_sem, ints, intRows, reduceAdd, Nat.reduceBEq, reduceEqDiff, reduceLeDiff, Nat.reduceLT, reduceIte, reduceLE, Int.reduceLT, reduceEq, reduceNeg, reduceToNat, ops, vals, dots, wn, wf]
  have hbd : ((if decide (0 ≤ x.dot.p ∧ x.dot.p ≤ n - 1) = true then !decide (1 ≤ x.dot.n ∧ x.dot.n ≤ 1073741824) else true) || !decide ((x.deps.length : Int) = n) || !decide (vecE x.deps = 0)) = false → 0 ≤ x.dot.p ∧ x.dot.p < (x.deps.length : Int) := fun h => by
    simp only [Bool.or_eq_false_iff] at h
    have h1 := h.1.1
    have h2 := h.1.2
    simp at h2
    split at h1
    · rename_i h3; simp at h3; omega
    · simp at h1
  refine ⟨hbd, ?_⟩
  first | refine caS_i (RStampK_ok x.st) trivial ?_ | refine caD_i (RStampK_ok x.st) trivial ?_ | refine gC_i (fun _ => RStampK_ok x.st) trivial ?_ | refine gCD_i (fun _ => RStampK_ok x.st) trivial ?_ | refine caE_i (RStampK_ok x.st) trivial ?_
  simp +contextual (maxSteps := 1000000) only [go_sem, ints, intRows, reduceAdd, Nat.reduceBEq, reduceEqDiff, reduceLeDiff, Nat.reduceLT, reduceIte, reduceLE, Int.reduceLT, reduceEq, reduceNeg, reduceToNat, ops, vals, dots, wn, wf]
  first | refine caS_i (inRef_ok x.table 0 ((f.length : Int) - 1)) trivial ?_ | refine caD_i (inRef_ok x.table 0 ((f.length : Int) - 1)) trivial ?_ | refine gC_i (fun _ => inRef_ok x.table 0 ((f.length : Int) - 1)) trivial ?_ | refine gCD_i (fun _ => inRef_ok x.table 0 ((f.length : Int) - 1)) trivial ?_ | refine caE_i (inRef_ok x.table 0 ((f.length : Int) - 1)) trivial ?_
  simp +contextual (maxSteps := 1000000) only [go_sem, ints, intRows, reduceAdd, Nat.reduceBEq, reduceEqDiff, reduceLeDiff, Nat.reduceLT, reduceIte, reduceLE, Int.reduceLT, reduceEq, reduceNeg, reduceToNat, ops, vals, dots, wn, wf]
  first | refine caS_i (RKeyK_ok x.key) trivial ?_ | refine caD_i (RKeyK_ok x.key) trivial ?_ | refine gC_i (fun _ => RKeyK_ok x.key) trivial ?_ | refine gCD_i (fun _ => RKeyK_ok x.key) trivial ?_ | refine caE_i (RKeyK_ok x.key) trivial ?_
  simp +contextual (maxSteps := 1000000) only [go_sem, ints, intRows, reduceAdd, Nat.reduceBEq, reduceEqDiff, reduceLeDiff, Nat.reduceLT, reduceIte, reduceLE, Int.reduceLT, reduceEq, reduceNeg, reduceToNat, ops, vals, dots, wn, wf, tbs]
  have hgd : ((if decide (0 ≤ x.dot.p ∧ x.dot.p ≤ n - 1) = true then !decide (1 ≤ x.dot.n ∧ x.dot.n ≤ 1073741824) else true) || !decide ((x.deps.length : Int) = n) || !decide (vecE x.deps = 0) || !decide (gN x.deps x.dot.p.toNat = IntKind.i64.wrap (x.dot.n - 1)) || !okS x.st || !decide (x.st.q = x.dot.p) || !decide (0 ≤ x.table ∧ x.table ≤ (f.length : Int) - 1) || !keyB x.key) = !(wholeB n (oz x) && decide (0 ≤ x.table ∧ x.table < f.length) && keyB x.key) := by
    have e1 : decide (0 ≤ x.table ∧ x.table ≤ (f.length : Int) - 1) = decide (0 ≤ x.table ∧ x.table < f.length) := by rw [decide_eq_decide]; omega
    have e2 : decide (0 ≤ x.dot.p ∧ x.dot.p ≤ n - 1) = (decide (0 ≤ x.dot.p) && decide (x.dot.p < n)) := by rw [← Bool.decide_and, decide_eq_decide]; omega
    have e3 : decide (1 ≤ x.dot.n ∧ x.dot.n ≤ 1073741824) = (decide (1 ≤ x.dot.n) && decide (x.dot.n ≤ 1073741824)) := by rw [← Bool.decide_and]
    unfold wholeB
    rw [e1, e2, e3]
    by_cases hx : 1 ≤ x.dot.n ∧ x.dot.n ≤ 1073741824
    · have hw : IntKind.i64.wrap (x.dot.n - 1) = x.dot.n - 1 := w64 (by omega)
      rw [hw]
      show _ = !(_ && _ && _ && _ && decide ((x.deps.length : Int) = n) && decide (vecE x.deps = 0) && decide (gN x.deps x.dot.p.toNat = x.dot.n - 1) && okS x.st && decide (x.st.q = x.dot.p) && _ && _)
      have d1 : decide (1 ≤ x.dot.n) = true := by simp; omega
      have d2 : decide (x.dot.n ≤ 1073741824) = true := by simp; omega
      rw [d1, d2]
      cases decide (0 ≤ x.dot.p) <;> cases decide (x.dot.p < n) <;> simp
    · have : decide (1 ≤ x.dot.n) = false ∨ decide (x.dot.n ≤ 1073741824) = false := by simp; omega
      rcases this with h | h <;> rw [h] <;> simp
  rw [hgd]
  generalize hw : wholeB n (oz x) = wh
  generalize ht : decide (0 ≤ x.table ∧ x.table < f.length) = tb
  generalize hk : keyB x.key = ky
  have hr : rightX n f x = (tb && (wh && true && ky && (if x.kind = 1 then smallBs x.vals (gN f x.table.toNat) && decide (x.col = 0) && decide (x.dots.length = 0)
   else if x.kind = 2 then decide (0 ≤ x.col ∧ x.col < (gN f x.table.toNat).length) && smallBs x.vals [gN (gN f x.table.toNat) x.col.toNat] && decide (x.dots.length = 0)
   else if x.kind = 3 then decide (1 ≤ x.dots.length ∧ x.dots.length ≤ 64) && hadB x.deps x.dots && decide (x.col = 0) && decide (x.vals.length = 0) else false))) := by
    rw [← hw, ← ht, ← hk]; rfl
  cases hall : (wh && tb && ky) with
  | false =>
    simp +contextual (maxSteps := 1000000) only [go_sem, ints, intRows, reduceAdd, Nat.reduceBEq, reduceEqDiff, reduceLeDiff, Nat.reduceLT, reduceIte, reduceLE, Int.reduceLT, reduceEq, reduceNeg, reduceToNat, ops, vals, dots]
    rw [hr]
    cases wh <;> cases tb <;> cases ky <;> simp_all
  | true =>
    obtain ⟨⟨rfl, rfl⟩, rfl⟩ : (wh = true ∧ tb = true) ∧ ky = true := by simpa using hall
    have ht' : 0 ≤ x.table ∧ x.table < f.length := by simpa using ht
    have hcl : (gN f x.table.toNat).length ≤ 4 := hc _ (gN_mem (by omega))
    simp only [Bool.true_and] at hr
    simp +contextual (maxSteps := 1000000) only [go_sem, ints, intRows, reduceAdd, Nat.reduceBEq, reduceEqDiff, reduceLeDiff, Nat.reduceLT, reduceIte, reduceLE, Int.reduceLT, reduceEq, reduceNeg, reduceToNat, ops, vals, dots, tbs, ia_h]
    generalize hcols : gN f x.table.toNat = cols at *
    clear hgd hbd hall wf wn hf
    refine ⟨ht', ⟨fun h1 => ?_, fun h1 => ?_⟩⟩
    · have h1 : x.kind = 1 := by simpa using h1
      rw [if_pos h1] at hr
      simp +contextual (maxSteps := 1000000) only [go_sem, ints, intRows, reduceAdd, Nat.reduceBEq, reduceEqDiff, reduceLeDiff, Nat.reduceLT, reduceIte, reduceLE, Int.reduceLT, reduceEq, reduceNeg, reduceToNat, ops, vals, dots, ia_h]
      refine ⟨fun hb => ?_, fun hb => ?_⟩
      · simp +contextual (maxSteps := 1000000) only [go_sem, ints, intRows, reduceAdd, Nat.reduceBEq, reduceEqDiff, reduceLeDiff, Nat.reduceLT, reduceIte, reduceLE, Int.reduceLT, reduceEq, reduceNeg, reduceToNat, ops, vals, dots]
        rw [hr, smallBs, allG]
        by_cases hl : x.vals.length = cols.length
        · have : (decide (x.col = 0) && decide (x.dots.length = 0)) = false := by
            rw [ite_or'] at hb; simp only [Bool.or_eq_true, Bool.not_eq_true', decide_eq_true_eq, decide_eq_false_iff_not, Bool.and_eq_false_iff] at hb ⊢; omega
          rw [Bool.and_assoc, this, Bool.and_false]
        · rw [decide_eq_false (fun h => hl h.1)]; simp
      obtain ⟨hl, hcol, hds⟩ : x.vals.length = cols.length ∧ x.col = 0 ∧ x.dots.length = 0 := by
        rw [ite_or'] at hb; simp only [Bool.or_eq_false_iff, Bool.not_eq_false', decide_eq_true_eq, decide_eq_false_iff_not] at hb; omega
      have hr2 : rightX n f x = smallBs x.vals cols := by rw [hr, hcol, hds]; simp
      clear hr hb
      simp +contextual (maxSteps := 1000000) only [go_sem, ints, intRows, reduceAdd, Nat.reduceBEq, reduceEqDiff, reduceLeDiff, Nat.reduceLT, reduceIte, reduceLE, Int.reduceLT, reduceEq, reduceNeg, reduceToNat, ops, vals, dots]
      refine wpC_lp (fun env ob nn => env 5 = .pt 0 0 0 ∧ ob 0 = some ⟨12, [opV x], none⟩ ∧ env 7 = ints .b cols ∧ ∃ i : Nat, env 8 = vi i ∧ i ≤ cols.length ∧ ∀ j, j < i → smallV (gN x.vals j) = true ∧ fitsV (gN x.vals j) (gN cols j) = true) (fun env ob nn => (cols.length - iv (env 8)).toNat) ?_ ?_
      · simp +contextual (maxSteps := 1000000) only [go_sem, ints, intRows, reduceAdd, Nat.reduceBEq, reduceEqDiff, reduceLeDiff, Nat.reduceLT, reduceIte, reduceLE, Int.reduceLT, reduceEq, reduceNeg, reduceToNat, ops, vals, dots]
        exact ⟨0, rfl, Nat.zero_le _, fun j hj => by omega⟩
      rintro env ob nn ⟨h5, o0, h7, i, h8, hi, he⟩
      have w1 : IntKind.i64.wrap ((i : Int) + 1) = ((i + 1 : Nat) : Int) := by rw [w64 (by omega)]; omega
      simp +contextual (maxSteps := 1000000) only [go_sem, ints, intRows, reduceAdd, Nat.reduceBEq, reduceEqDiff, reduceLeDiff, Nat.reduceLT, reduceIte, reduceLE, Int.reduceLT, reduceEq, reduceNeg, reduceToNat, ops, vals, dots, h5, o0, h7, h8]
      refine ⟨fun hlt => ?_, fun hge => ?_⟩
      · simp at hlt
        simp +contextual (maxSteps := 1000000) only [go_sem, ints, intRows, reduceAdd, Nat.reduceBEq, reduceEqDiff, reduceLeDiff, Nat.reduceLT, reduceIte, reduceLE, Int.reduceLT, reduceEq, reduceNeg, reduceToNat, ops, vals, dots, h5, o0, h7, h8]
        refine ⟨by omega, ?_⟩
        first | refine caS_i (RSmall_ok (gN x.vals i)) trivial ?_ | refine caD_i (RSmall_ok (gN x.vals i)) trivial ?_ | refine gC_i (fun _ => RSmall_ok (gN x.vals i)) trivial ?_ | refine gCD_i (fun _ => RSmall_ok (gN x.vals i)) trivial ?_ | refine caE_i (RSmall_ok (gN x.vals i)) trivial ?_
        simp +contextual (maxSteps := 1000000) only [go_sem, ints, intRows, reduceAdd, Nat.reduceBEq, reduceEqDiff, reduceLeDiff, Nat.reduceLT, reduceIte, reduceLE, Int.reduceLT, reduceEq, reduceNeg, reduceToNat, ops, vals, dots, h5, o0, h7, h8]
        refine ⟨fun _ => by omega, fun _ => by omega, ?_⟩
        first | refine caS_i (RFits_ok (gN x.vals i) (gN cols i)) trivial ?_ | refine caD_i (RFits_ok (gN x.vals i) (gN cols i)) trivial ?_ | refine gC_i (fun _ => RFits_ok (gN x.vals i) (gN cols i)) trivial ?_ | refine gCD_i (fun _ => RFits_ok (gN x.vals i) (gN cols i)) trivial ?_ | refine caE_i (RFits_ok (gN x.vals i) (gN cols i)) trivial ?_
        simp +contextual (maxSteps := 1000000) only [go_sem, ints, intRows, reduceAdd, Nat.reduceBEq, reduceEqDiff, reduceLeDiff, Nat.reduceLT, reduceIte, reduceLE, Int.reduceLT, reduceEq, reduceNeg, reduceToNat, ops, vals, dots, h5, o0, h7, h8, w1]
        refine ⟨fun hb => ?_, fun hb => ?_⟩
        · simp +contextual (maxSteps := 1000000) only [go_sem, ints, intRows, reduceAdd, Nat.reduceBEq, reduceEqDiff, reduceLeDiff, Nat.reduceLT, reduceIte, reduceLE, Int.reduceLT, reduceEq, reduceNeg, reduceToNat, ops, vals, dots]
          rw [hr2, smallBs]
          cases hs : smallV (gN x.vals i) with
          | false =>
            rw [List.any_eq_true.2 ⟨gN x.vals i, gN_mem (by omega), by rw [hs]; rfl⟩]; simp
          | true =>
            rw [hs] at hb
            have : fitsV (gN x.vals i) (gN cols i) = false := by simpa using hb
            rw [allG, decide_eq_false (fun h => by have := h.2 i (by omega); simp_all)]; simp
        · simp +contextual (maxSteps := 1000000) only [go_sem, ints, intRows, reduceAdd, Nat.reduceBEq, reduceEqDiff, reduceLeDiff, Nat.reduceLT, reduceIte, reduceLE, Int.reduceLT, reduceEq, reduceNeg, reduceToNat, ops, vals, dots, h5, o0, h7, h8, w1]
          refine ⟨⟨i + 1, rfl, by omega, fun j hj => ?_⟩, by omega⟩
          by_cases hji : j = i
          · subst hji
            cases hs : smallV (gN x.vals j) with
            | false => rw [hs] at hb; simp at hb
            | true => rw [hs] at hb; exact ⟨rfl, by simpa using hb⟩
          · exact he j (by omega)
      · simp at hge
        simp +contextual (maxSteps := 1000000) only [go_sem, ints, intRows, reduceAdd, Nat.reduceBEq, reduceEqDiff, reduceLeDiff, Nat.reduceLT, reduceIte, reduceLE, Int.reduceLT, reduceEq, reduceNeg, reduceToNat, ops, vals, dots]
        have : i = cols.length := by omega
        subst this
        rw [hr2, smallBs, allG, decide_eq_true ⟨hl, fun j hj => (he j (by omega)).2⟩, any_no fun j hj => by rw [(he j (by omega)).1]; rfl]
        rfl
    have h1 : ¬ x.kind = 1 := by simpa using h1
    rw [if_neg h1] at hr
    simp +contextual (maxSteps := 1000000) only [go_sem, ints, intRows, reduceAdd, Nat.reduceBEq, reduceEqDiff, reduceLeDiff, Nat.reduceLT, reduceIte, reduceLE, Int.reduceLT, reduceEq, reduceNeg, reduceToNat, ops, vals, dots]
    refine ⟨fun h2 => ?_, fun h2 => ?_⟩
    · have h2 : x.kind = 2 := by simpa using h2
      rw [if_pos h2] at hr
      have wc : IntKind.i64.wrap ((cols.length : Int) - 1) = cols.length - 1 := w64 (by omega)
      simp +contextual (maxSteps := 1000000) only [go_sem, ints, intRows, reduceAdd, Nat.reduceBEq, reduceEqDiff, reduceLeDiff, Nat.reduceLT, reduceIte, reduceLE, Int.reduceLT, reduceEq, reduceNeg, reduceToNat, ops, vals, dots, wc]
      first | refine caS_i (inRef_ok x.col 0 ((cols.length : Int) - 1)) trivial ?_ | refine caD_i (inRef_ok x.col 0 ((cols.length : Int) - 1)) trivial ?_ | refine gC_i (fun _ => inRef_ok x.col 0 ((cols.length : Int) - 1)) trivial ?_ | refine gCD_i (fun _ => inRef_ok x.col 0 ((cols.length : Int) - 1)) trivial ?_ | refine caE_i (inRef_ok x.col 0 ((cols.length : Int) - 1)) trivial ?_
      simp +contextual (maxSteps := 1000000) only [go_sem, ints, intRows, reduceAdd, Nat.reduceBEq, reduceEqDiff, reduceLeDiff, Nat.reduceLT, reduceIte, reduceLE, Int.reduceLT, reduceEq, reduceNeg, reduceToNat, ops, vals, dots, ia_h]
      refine ⟨fun h => by simp only [Bool.and_eq_true, decide_eq_true_eq] at h; omega, ?_⟩
      first | refine caS_i (RSmall_ok (gN x.vals 0)) trivial ?_ | refine caD_i (RSmall_ok (gN x.vals 0)) trivial ?_ | refine gC_i (fun _ => RSmall_ok (gN x.vals 0)) trivial ?_ | refine gCD_i (fun _ => RSmall_ok (gN x.vals 0)) trivial ?_ | refine caE_i (RSmall_ok (gN x.vals 0)) trivial ?_
      simp +contextual (maxSteps := 1000000) only [go_sem, ints, intRows, reduceAdd, Nat.reduceBEq, reduceEqDiff, reduceLeDiff, Nat.reduceLT, reduceIte, reduceLE, Int.reduceLT, reduceEq, reduceNeg, reduceToNat, ops, vals, dots, ia_h]
      refine ⟨fun h => by simp only [Bool.and_eq_true, decide_eq_true_eq] at h; omega, fun h => by simp only [Bool.and_eq_true, decide_eq_true_eq] at h; omega, ?_⟩
      first | refine caS_i (RFits_ok (gN x.vals 0) (gN cols x.col.toNat)) trivial ?_ | refine caD_i (RFits_ok (gN x.vals 0) (gN cols x.col.toNat)) trivial ?_ | refine gC_i (fun _ => RFits_ok (gN x.vals 0) (gN cols x.col.toNat)) trivial ?_ | refine gCD_i (fun _ => RFits_ok (gN x.vals 0) (gN cols x.col.toNat)) trivial ?_ | refine caE_i (RFits_ok (gN x.vals 0) (gN cols x.col.toNat)) trivial ?_
      simp +contextual (maxSteps := 1000000) only [go_sem, ints, intRows, reduceAdd, Nat.reduceBEq, reduceEqDiff, reduceLeDiff, Nat.reduceLT, reduceIte, reduceLE, Int.reduceLT, reduceEq, reduceNeg, reduceToNat, ops, vals, dots]
      rw [hr]
      have e1 : decide (0 ≤ x.col ∧ x.col ≤ (cols.length : Int) - 1) = decide (0 ≤ x.col ∧ x.col < (cols.length : Int)) := by rw [decide_eq_decide]; omega
      rw [e1]
      have e2 : smallBs x.vals [gN cols x.col.toNat] = (decide ((x.vals.length : Int) = 1) && smallV (gN x.vals 0) && fitsV (gN x.vals 0) (gN cols x.col.toNat)) := by
        unfold smallBs allG
        match x.vals with
        | [] => simp
        | [v] => 
          have : decide ([v].length = [gN cols x.col.toNat].length ∧ ∀ i, i < [v].length → fitsV (gN [v] i) (gN [gN cols x.col.toNat] i) = true) = fitsV v (gN cols x.col.toNat) := by
            rw [Bool.eq_iff_iff, decide_eq_true_eq]
            exact ⟨fun h => h.2 0 (by simp), fun h => ⟨rfl, fun i hi => by have : i = 0 := by simp at hi; omega
                                                                           subst this; exact h⟩⟩
          rw [this]
          show (fitsV v (gN cols x.col.toNat) && !(!smallV v || false)) = (true && smallV v && fitsV v (gN cols x.col.toNat))
          generalize fitsV v (gN cols x.col.toNat) = a
          generalize smallV v = b
          cases a <;> cases b <;> rfl
        | v :: w :: l => 
          have : ¬ ((v :: w :: l).length = [gN cols x.col.toNat].length) := by simp
          rw [decide_eq_false (fun h => this h.1)]
          have : ¬ (((v :: w :: l).length : Int) = 1) := by simp; omega
          rw [decide_eq_false this]; rfl
      rw [e2]
      have e3 : decide ((x.dots.length : Int) = 0) = decide (x.dots.length = 0) := by rw [decide_eq_decide]; omega
      rw [e3]
      simp only [ite_and', Bool.and_assoc]
    have h2 : ¬ x.kind = 2 := by simpa using h2
    rw [if_neg h2] at hr
    simp +contextual (maxSteps := 1000000) only [go_sem, ints, intRows, reduceAdd, Nat.reduceBEq, reduceEqDiff, reduceLeDiff, Nat.reduceLT, reduceIte, reduceLE, Int.reduceLT, reduceEq, reduceNeg, reduceToNat, ops, vals, dots]
    refine ⟨fun h3 => ?_, fun h3 => ?_⟩
    · have h3 : x.kind = 3 := by simpa using h3
      rw [if_pos h3] at hr
      simp +contextual (maxSteps := 1000000) only [go_sem, ints, intRows, reduceAdd, Nat.reduceBEq, reduceEqDiff, reduceLeDiff, Nat.reduceLT, reduceIte, reduceLE, Int.reduceLT, reduceEq, reduceNeg, reduceToNat, ops, vals, dots]
      first | refine caS_i (inRef_ok (x.dots.length : Int) 1 64) trivial ?_ | refine caD_i (inRef_ok (x.dots.length : Int) 1 64) trivial ?_ | refine gC_i (fun _ => inRef_ok (x.dots.length : Int) 1 64) trivial ?_ | refine gCD_i (fun _ => inRef_ok (x.dots.length : Int) 1 64) trivial ?_ | refine caE_i (inRef_ok (x.dots.length : Int) 1 64) trivial ?_
      simp +contextual (maxSteps := 1000000) only [go_sem, ints, intRows, reduceAdd, Nat.reduceBEq, reduceEqDiff, reduceLeDiff, Nat.reduceLT, reduceIte, reduceLE, Int.reduceLT, reduceEq, reduceNeg, reduceToNat, ops, vals, dots]
      have hdl : x.deps.length ≤ maxLen := by
        unfold wholeB at hw; simp only [Bool.and_eq_true, decide_eq_true_eq] at hw; unfold maxLen; omega
      refine ⟨fun hb => ?_, fun hb => ?_⟩
      · simp +contextual (maxSteps := 1000000) only [go_sem, ints, intRows, reduceAdd, Nat.reduceBEq, reduceEqDiff, reduceLeDiff, Nat.reduceLT, reduceIte, reduceLE, Int.reduceLT, reduceEq, reduceNeg, reduceToNat, ops, vals, dots]
        rw [hr]
        have : (decide (1 ≤ x.dots.length ∧ x.dots.length ≤ 64) && (decide (x.col = 0) && decide (x.vals.length = 0))) = false := by
          rw [ite_or'] at hb
          simp only [Bool.or_eq_true, Bool.not_eq_true', decide_eq_true_eq, decide_eq_false_iff_not, Bool.and_eq_false_iff] at hb ⊢; omega
        rw [Bool.and_assoc, Bool.and_right_comm, this, Bool.false_and]
      obtain ⟨hl, hcol, hvl⟩ : (1 ≤ x.dots.length ∧ x.dots.length ≤ 64) ∧ x.col = 0 ∧ x.vals.length = 0 := by
        rw [ite_or'] at hb
        simp only [Bool.or_eq_false_iff, Bool.not_eq_false', decide_eq_true_eq, decide_eq_false_iff_not] at hb; omega
      have hr2 : rightX n f x = hadB x.deps x.dots := by rw [hr, decide_eq_true hl, hcol, hvl]; simp
      clear hr hb
      simp +contextual (maxSteps := 1000000) only [go_sem, ints, intRows, reduceAdd, Nat.reduceBEq, reduceEqDiff, reduceLeDiff, Nat.reduceLT, reduceIte, reduceLE, Int.reduceLT, reduceEq, reduceNeg, reduceToNat, ops, vals, dots]
      refine wpC_lp (fun env ob nn => env 5 = .pt 0 0 0 ∧ ob 0 = some ⟨12, [opV x], none⟩ ∧ ∃ i : Nat, env 9 = vi i ∧ i ≤ x.dots.length ∧ ∀ j, j < i → hasB x.deps (gN x.dots j) = true ∧ (0 < j → lessD (gN x.dots (j - 1)) (gN x.dots j) = true)) (fun env ob nn => (x.dots.length - iv (env 9)).toNat) ?_ ?_
      · simp +contextual (maxSteps := 1000000) only [go_sem, ints, intRows, reduceAdd, Nat.reduceBEq, reduceEqDiff, reduceLeDiff, Nat.reduceLT, reduceIte, reduceLE, Int.reduceLT, reduceEq, reduceNeg, reduceToNat, ops, vals, dots]
        exact ⟨0, rfl, Nat.zero_le _, fun j hj => by omega⟩
      rintro env ob nn ⟨h5, o0, i, h9, hi, he⟩
      have w1 : IntKind.i64.wrap ((i : Int) + 1) = ((i + 1 : Nat) : Int) := by rw [w64 (by omega)]; omega
      simp +contextual (maxSteps := 1000000) only [go_sem, ints, intRows, reduceAdd, Nat.reduceBEq, reduceEqDiff, reduceLeDiff, Nat.reduceLT, reduceIte, reduceLE, Int.reduceLT, reduceEq, reduceNeg, reduceToNat, ops, vals, dots, h5, o0, h9]
      refine ⟨fun hlt => ?_, fun hge => ?_⟩
      · simp at hlt
        simp +contextual (maxSteps := 1000000) only [go_sem, ints, intRows, reduceAdd, Nat.reduceBEq, reduceEqDiff, reduceLeDiff, Nat.reduceLT, reduceIte, reduceLE, Int.reduceLT, reduceEq, reduceNeg, reduceToNat, ops, vals, dots, h5, o0, h9]
        refine ⟨by omega, ?_⟩
        first | refine caS_i (RHas_ok x.deps (gN x.dots i) hdl) trivial ?_ | refine caD_i (RHas_ok x.deps (gN x.dots i) hdl) trivial ?_ | refine gC_i (fun _ => RHas_ok x.deps (gN x.dots i) hdl) trivial ?_ | refine gCD_i (fun _ => RHas_ok x.deps (gN x.dots i) hdl) trivial ?_ | refine caE_i (RHas_ok x.deps (gN x.dots i) hdl) trivial ?_
        simp +contextual (maxSteps := 1000000) only [go_sem, ints, intRows, reduceAdd, Nat.reduceBEq, reduceEqDiff, reduceLeDiff, Nat.reduceLT, reduceIte, reduceLE, Int.reduceLT, reduceEq, reduceNeg, reduceToNat, ops, vals, dots, h5, o0, h9]
        have hw0 : 0 < i → IntKind.i64.wrap ((i : Int) - 1) = ((i - 1 : Nat) : Int) := fun h => by rw [w64 (by omega)]; omega
        refine ⟨fun h => ?_, fun _ => by omega, ?_⟩
        · simp only [Bool.and_eq_true, decide_eq_true_eq] at h
          rw [hw0 (by omega)]; omega
        first | refine caS_i (RLess_ok (gN x.dots (IntKind.i64.wrap ((i : Int) - 1)).toNat) (gN x.dots i)) trivial ?_ | refine caD_i (RLess_ok (gN x.dots (IntKind.i64.wrap ((i : Int) - 1)).toNat) (gN x.dots i)) trivial ?_ | refine gC_i (fun _ => RLess_ok (gN x.dots (IntKind.i64.wrap ((i : Int) - 1)).toNat) (gN x.dots i)) trivial ?_ | refine gCD_i (fun _ => RLess_ok (gN x.dots (IntKind.i64.wrap ((i : Int) - 1)).toNat) (gN x.dots i)) trivial ?_ | refine caE_i (RLess_ok (gN x.dots (IntKind.i64.wrap ((i : Int) - 1)).toNat) (gN x.dots i)) trivial ?_
        simp +contextual (maxSteps := 1000000) only [go_sem, ints, intRows, reduceAdd, Nat.reduceBEq, reduceEqDiff, reduceLeDiff, Nat.reduceLT, reduceIte, reduceLE, Int.reduceLT, reduceEq, reduceNeg, reduceToNat, ops, vals, dots, h5, o0, h9]
        have hcond : (if hasB x.deps (gN x.dots i) = true then decide (0 < (i : Int)) && !lessD (gN x.dots (IntKind.i64.wrap ((i : Int) - 1)).toNat) (gN x.dots i) else true) = !decide (hasB x.deps (gN x.dots i) = true ∧ (0 < i → lessD (gN x.dots (i - 1)) (gN x.dots i) = true)) := by
          by_cases h0 : 0 < i
          · rw [hw0 h0, Int.toNat_natCast]
            cases hasB x.deps (gN x.dots i) <;> cases lessD (gN x.dots (i - 1)) (gN x.dots i) <;> simp [h0]
          · cases hasB x.deps (gN x.dots i) <;> simp [h0]
        rw [hcond]
        refine ⟨fun hb => ?_, fun hb => ?_⟩
        · simp +contextual (maxSteps := 1000000) only [go_sem, ints, intRows, reduceAdd, Nat.reduceBEq, reduceEqDiff, reduceLeDiff, Nat.reduceLT, reduceIte, reduceLE, Int.reduceLT, reduceEq, reduceNeg, reduceToNat, ops, vals, dots]
          rw [hr2, hadB, decide_eq_false fun h => by rw [decide_eq_true (h i hlt)] at hb; cases hb]
        · simp +contextual (maxSteps := 1000000) only [go_sem, ints, intRows, reduceAdd, Nat.reduceBEq, reduceEqDiff, reduceLeDiff, Nat.reduceLT, reduceIte, reduceLE, Int.reduceLT, reduceEq, reduceNeg, reduceToNat, ops, vals, dots, h5, o0, h9, w1]
          refine ⟨⟨i + 1, rfl, by omega, fun j hj => ?_⟩, by omega⟩
          by_cases hji : j = i
          · subst hji; simpa using hb
          · exact he j (by omega)
      · simp at hge
        simp +contextual (maxSteps := 1000000) only [go_sem, ints, intRows, reduceAdd, Nat.reduceBEq, reduceEqDiff, reduceLeDiff, Nat.reduceLT, reduceIte, reduceLE, Int.reduceLT, reduceEq, reduceNeg, reduceToNat, ops, vals, dots]
        have : i = x.dots.length := by omega
        subst this
        rw [hr2, hadB, decide_eq_true he]
    · have h3 : ¬ x.kind = 3 := by simpa using h3
      rw [if_neg h3] at hr
      simp +contextual (maxSteps := 1000000) only [go_sem, ints, intRows, reduceAdd, Nat.reduceBEq, reduceEqDiff, reduceLeDiff, Nat.reduceLT, reduceIte, reduceLE, Int.reduceLT, reduceEq, reduceNeg, reduceToNat, ops, vals, dots]
      rw [hr]
end Go.Proofs.YtbojpedklnmidaaGreat.D
end
section
set_option linter.unusedVariables false
set_option linter.unusedSimpArgs false
set_option linter.constructorNameAsVariable false
set_option maxRecDepth 100000

/- Forms of several tables, operations on them. No condition. -/
namespace Go.Proofs.YtbojpedklnmidaaGreat.D
open Go Go.Proofs
open Nat (reduceAdd reduceEqDiff reduceLeDiff)
open Int (reduceLE reduceEq reduceNeg reduceToNat)
def badN (cols : List Int) : Bool := decide ((cols.length : Int) < 1) || decide (4 < (cols.length : Int))
def badC (c : Int) : Bool := decide (c < 2) || decide (4 < c)
def formsG (f : List (List Int)) : Int := if (f.length : Int) < 1 ∨ 3 < (f.length : Int) then 2 else if f.any badN = true then 2 else if f.any (fun c => c.any badC) = true then 10 else 0
theorem AForms_ok {fl : Fl} (f : List (List Int)) : FnB Tryz.prog 44 [tbs fl f] (vi (formsG f)) := by
  refine fnB_intro cf44 (by simp) ?_
  simp +contextual (maxSteps := 1000000) only [go_sem, ints, intRows, reduceAdd, Nat.reduceBEq, reduceEqDiff, reduceLeDiff, Nat.reduceLT, reduceIte, reduceLE, Int.reduceLT, reduceEq, reduceNeg, reduceToNat, ops, vals, dots, c44, tbs]
  refine ⟨fun hb => ?_, fun hb => ?_⟩
  · have : formsG f = 2 := by unfold formsG; rw [if_pos (by simp at hb; omega)]
    rw [this]
  have hfl : 1 ≤ f.length ∧ f.length ≤ 3 := by simp at hb; omega
  have hfn : ¬ ((f.length : Int) < 1 ∨ 3 < (f.length : Int)) := by omega
  first | refine caS_i (ContainsTbs_ok f 87 [] badN (by unfold maxLen; omega) (fun _ => rfl) (fun _ => rfl) fun x _ => forms1_ok x) trivial ?_ | refine caD_i (ContainsTbs_ok f 87 [] badN (by unfold maxLen; omega) (fun _ => rfl) (fun _ => rfl) fun x _ => forms1_ok x) trivial ?_ | refine gC_i (fun _ => ContainsTbs_ok f 87 [] badN (by unfold maxLen; omega) (fun _ => rfl) (fun _ => rfl) fun x _ => forms1_ok x) trivial ?_ | refine gCD_i (fun _ => ContainsTbs_ok f 87 [] badN (by unfold maxLen; omega) (fun _ => rfl) (fun _ => rfl) fun x _ => forms1_ok x) trivial ?_ | refine caE_i (ContainsTbs_ok f 87 [] badN (by unfold maxLen; omega) (fun _ => rfl) (fun _ => rfl) fun x _ => forms1_ok x) trivial ?_
  simp +contextual (maxSteps := 1000000) only [go_sem, ints, intRows, reduceAdd, Nat.reduceBEq, reduceEqDiff, reduceLeDiff, Nat.reduceLT, reduceIte, reduceLE, Int.reduceLT, reduceEq, reduceNeg, reduceToNat, ops, vals, dots]
  refine ⟨fun hb1 => ?_, fun hb1 => ?_⟩
  · have : formsG f = 2 := by unfold formsG; rw [if_neg hfn, if_pos hb1]
    rw [this]
  have hbn : ∀ c ∈ f, c.length ≤ 4 := fun c hc => by
    have := List.any_eq_false.1 hb1 c hc
    simp [badN] at this; omega
  refine wpC_lp (fun env ob n => env 15 = tbs fl f ∧ env 16 = vi f.length ∧ ∃ i : Nat, env 17 = vi i ∧ i ≤ f.length ∧ ∀ c ∈ f.take i, c.any badC = false) (fun env ob n => (f.length - iv (env 17)).toNat) ?_ ?_
  · simp +contextual (maxSteps := 1000000) only [go_sem, ints, intRows, reduceAdd, Nat.reduceBEq, reduceEqDiff, reduceLeDiff, Nat.reduceLT, reduceIte, reduceLE, Int.reduceLT, reduceEq, reduceNeg, reduceToNat, ops, vals, dots, tbs]
    exact ⟨0, rfl, by omega, fun c hc => by simp at hc⟩
  rintro env ob n ⟨h15, h16, i, h17, hi, he⟩
  have w1 : IntKind.i64.wrap ((i : Int) + 1) = ((i + 1 : Nat) : Int) := by rw [w64 (by omega)]; omega
  simp +contextual (maxSteps := 1000000) only [go_sem, ints, intRows, reduceAdd, Nat.reduceBEq, reduceEqDiff, reduceLeDiff, Nat.reduceLT, reduceIte, reduceLE, Int.reduceLT, reduceEq, reduceNeg, reduceToNat, ops, vals, dots, h15, h16, h17, tbs]
  refine ⟨fun hlt => ?_, fun hge => ?_⟩
  · simp only [decide_eq_true_eq] at hlt
    repeat (refine And.intro (by omega) ?_)
    have hm := gN_mem (show i < f.length by omega)
    first | refine caS_i (ContainsInts_ok (fl := .b) (gN f i) 89 [] badC (by have := hbn _ hm; unfold maxLen; omega) (fun _ => rfl) (fun _ => rfl) fun x _ => forms2_ok x) trivial ?_ | refine caD_i (ContainsInts_ok (fl := .b) (gN f i) 89 [] badC (by have := hbn _ hm; unfold maxLen; omega) (fun _ => rfl) (fun _ => rfl) fun x _ => forms2_ok x) trivial ?_ | refine gC_i (fun _ => ContainsInts_ok (fl := .b) (gN f i) 89 [] badC (by have := hbn _ hm; unfold maxLen; omega) (fun _ => rfl) (fun _ => rfl) fun x _ => forms2_ok x) trivial ?_ | refine gCD_i (fun _ => ContainsInts_ok (fl := .b) (gN f i) 89 [] badC (by have := hbn _ hm; unfold maxLen; omega) (fun _ => rfl) (fun _ => rfl) fun x _ => forms2_ok x) trivial ?_ | refine caE_i (ContainsInts_ok (fl := .b) (gN f i) 89 [] badC (by have := hbn _ hm; unfold maxLen; omega) (fun _ => rfl) (fun _ => rfl) fun x _ => forms2_ok x) trivial ?_
    simp +contextual (maxSteps := 1000000) only [go_sem, ints, intRows, reduceAdd, Nat.reduceBEq, reduceEqDiff, reduceLeDiff, Nat.reduceLT, reduceIte, reduceLE, Int.reduceLT, reduceEq, reduceNeg, reduceToNat, ops, vals, dots, h15, h16, h17, tbs, w1]
    refine ⟨fun hb2 => ?_, fun hb2 => ⟨⟨i + 1, rfl, by omega, fun c hc => ?_⟩, by omega⟩⟩
    · have : formsG f = 10 := by unfold formsG; rw [if_neg hfn, if_neg (by rw [hb1]; simp), if_pos (List.any_eq_true.2 ⟨_, hm, hb2⟩)]
      rw [this]
    · rw [take_gN (by omega), List.mem_append, List.mem_singleton] at hc
      rcases hc with hc | rfl
      · exact he c hc
      · exact hb2
  · simp only [decide_eq_false_iff_not] at hge
    rw [List.take_of_length_le (by omega)] at he
    have : formsG f = 0 := by unfold formsG; rw [if_neg hfn, if_neg (by rw [hb1]; simp), if_neg (by rw [List.any_eq_false.2 (fun c hc => by rw [he c hc]; simp)]; simp)]
    rw [this]
def checkG (n : Int) (f : List (List Int)) (x : Opx) : Int := if formsG f ≠ 0 then formsG f else if n < 1 ∨ 5 < n ∨ rightX n f x = false then 1 else 0
theorem ARight_ok {fl : Fl} (n : Int) (f : List (List Int)) (x : Opx) (hv : x.vals.length ≤ maxLen) (hd : x.dots.length ≤ maxLen) (hc : ∀ c ∈ f, c.length ≤ 4) : FnB Tryz.prog 72 [vi n, tbs fl f, .ag (opV x)] (vb (rightX n f x)) := by
  refine fnB_intro cf72 (by simp) ?_
  simp +contextual (maxSteps := 1000000) only [go_sem, ints, intRows, reduceAdd, Nat.reduceBEq, reduceEqDiff, reduceLeDiff, Nat.reduceLT, reduceIte, reduceLE, Int.reduceLT, reduceEq, reduceNeg, reduceToNat, ops, vals, dots, c72, tbs]
  first | refine caS_i (whole_ok n ⟨x, false⟩) trivial ?_ | refine caD_i (whole_ok n ⟨x, false⟩) trivial ?_ | refine gC_i (fun _ => whole_ok n ⟨x, false⟩) trivial ?_ | refine gCD_i (fun _ => whole_ok n ⟨x, false⟩) trivial ?_ | refine caE_i (whole_ok n ⟨x, false⟩) trivial ?_
  simp +contextual (maxSteps := 1000000) only [go_sem, ints, intRows, reduceAdd, Nat.reduceBEq, reduceEqDiff, reduceLeDiff, Nat.reduceLT, reduceIte, reduceLE, Int.reduceLT, reduceEq, reduceNeg, reduceToNat, ops, vals, dots]
  first | refine caS_i (Key_ok x.key) trivial ?_ | refine caD_i (Key_ok x.key) trivial ?_ | refine gC_i (fun _ => Key_ok x.key) trivial ?_ | refine gCD_i (fun _ => Key_ok x.key) trivial ?_ | refine caE_i (Key_ok x.key) trivial ?_
  simp +contextual (maxSteps := 1000000) only [go_sem, ints, intRows, reduceAdd, Nat.reduceBEq, reduceEqDiff, reduceLeDiff, Nat.reduceLT, reduceIte, reduceLE, Int.reduceLT, reduceEq, reduceNeg, reduceToNat, ops, vals, dots]
  have hcl : ∀ i : Nat, i < f.length → (gN f i).length ≤ 4 := fun i hi => hc _ (gN_mem hi)
  refine ⟨fun hb => ?_, fun hb => ?_⟩
  · have : rightX n f x = false := by
      unfold rightX rightO
      have ht : wholeB n (tab0 ⟨x, false⟩) = wholeB n ⟨x, false⟩ := rfl
      have hk : keyB (tab0 ⟨x, false⟩).key = keyB x.key := rfl
      rw [ht, hk]
      cases h1 : wholeB n ⟨x, false⟩ <;> cases h2 : keyB x.key <;> simp_all
      omega
    rw [this]
  have hw : wholeB n ⟨x, false⟩ = true ∧ (0 ≤ x.table ∧ x.table < f.length) ∧ keyB x.key = true := by
    cases h1 : wholeB n ⟨x, false⟩ <;> cases h2 : keyB x.key <;> simp_all
  obtain ⟨hw1, hw2, hw3⟩ := hw
  have hr : rightX n f x = (if x.kind = 1 then smallBs x.vals (gN f x.table.toNat) && decide (x.col = 0) && decide (x.dots.length = 0)
   else if x.kind = 2 then decide (0 ≤ x.col ∧ x.col < (gN f x.table.toNat).length) && smallBs x.vals [gN (gN f x.table.toNat) x.col.toNat] && decide (x.dots.length = 0)
   else if x.kind = 3 then decide (1 ≤ x.dots.length ∧ x.dots.length ≤ 64) && hadB x.deps x.dots && decide (x.col = 0) && decide (x.vals.length = 0) else false) := by
    unfold rightX rightO
    have ht : wholeB n (tab0 ⟨x, false⟩) = true := hw1
    have hk : keyB (tab0 ⟨x, false⟩).key = true := hw3
    rw [ht, hk, decide_eq_true hw2]; rfl
  have hcols := hcl x.table.toNat (by omega)
  generalize gN f x.table.toNat = cols at *
  refine ⟨hw2, fun h1 => ?_, fun h1 => ⟨fun h2 => ?_, fun h2 => ⟨fun h3 => ?_, fun h3 => ?_⟩⟩⟩
  · first | refine caS_i (small_ok (fl := .b) (fm := .b) x.vals cols hv) trivial ?_ | refine caD_i (small_ok (fl := .b) (fm := .b) x.vals cols hv) trivial ?_ | refine gC_i (fun _ => small_ok (fl := .b) (fm := .b) x.vals cols hv) trivial ?_ | refine gCD_i (fun _ => small_ok (fl := .b) (fm := .b) x.vals cols hv) trivial ?_ | refine caE_i (small_ok (fl := .b) (fm := .b) x.vals cols hv) trivial ?_
    simp +contextual (maxSteps := 1000000) only [go_sem, ints, intRows, reduceAdd, Nat.reduceBEq, reduceEqDiff, reduceLeDiff, Nat.reduceLT, reduceIte, reduceLE, Int.reduceLT, reduceEq, reduceNeg, reduceToNat, ops, vals, dots]
    rw [hr, if_pos (by simpa using h1)]
    simp
  · have hR := hr
    rw [if_neg (by simpa using h1), if_pos (by simpa using h2)] at hR
    by_cases hcol : 0 ≤ x.col ∧ x.col < cols.length
    · obtain ⟨c, hc1⟩ : ∃ c : Nat, x.col = c := ⟨x.col.toNat, by omega⟩
      have hw : IntKind.i64.wrap (x.col + 1) = ((c + 1 : Nat) : Int) := by rw [w64 (by omega)]; omega
      refine ⟨fun _ => ⟨by decide, fun ch hch => by obtain ⟨_, _, rfl⟩ := List.mem_map.1 hch; rfl, hcol.1, by rw [hw]; omega, by rw [hw]; omega⟩, ?_⟩
      have harg : ∀ ob : OB, List.map (fun r => List.map (resV ob 5) r) (List.drop x.col.toNat (List.take (IntKind.i64.wrap (x.col + 1)).toNat (List.map (fun n => [vi n]) cols))) = [gN cols x.col.toNat].map fun n => [vi n] := fun ob => by
        rw [hw, hc1, Int.toNat_natCast, Int.toNat_natCast, ← List.map_take, ← List.map_drop, take_gN (by omega), List.drop_append_of_le_length (by simp; omega), List.drop_eq_nil_of_le (by simp; omega)]
        rfl
      rw [harg]
      first | refine caS_i (small_ok (fl := .b) (fm := .b) x.vals [gN cols x.col.toNat] hv) trivial ?_ | refine caD_i (small_ok (fl := .b) (fm := .b) x.vals [gN cols x.col.toNat] hv) trivial ?_ | refine gC_i (fun _ => small_ok (fl := .b) (fm := .b) x.vals [gN cols x.col.toNat] hv) trivial ?_ | refine gCD_i (fun _ => small_ok (fl := .b) (fm := .b) x.vals [gN cols x.col.toNat] hv) trivial ?_ | refine caE_i (small_ok (fl := .b) (fm := .b) x.vals [gN cols x.col.toNat] hv) trivial ?_
      simp +contextual (maxSteps := 1000000) only [go_sem, ints, intRows, reduceAdd, Nat.reduceBEq, reduceEqDiff, reduceLeDiff, Nat.reduceLT, reduceIte, reduceLE, Int.reduceLT, reduceEq, reduceNeg, reduceToNat, ops, vals, dots]
      rw [hR]; simp
    · have hf : (decide (0 ≤ x.col) && decide (x.col < (cols.length : Int))) = false := by simp; omega
      refine ⟨fun h => absurd h (by rw [hf]; simp), ?_⟩
      refine gCD_i (q := vb true) (fun h => absurd h (by rw [hf]; simp)) trivial ?_
      simp +contextual (maxSteps := 1000000) only [go_sem, ints, intRows, reduceAdd, Nat.reduceBEq, reduceEqDiff, reduceLeDiff, Nat.reduceLT, reduceIte, reduceLE, Int.reduceLT, reduceEq, reduceNeg, reduceToNat, ops, vals, dots]
      have hf2 : decide (0 ≤ x.col ∧ x.col < (cols.length : Int)) = false := by simp; omega
      rw [hR, hf, hf2]; simp
  · rw [if_neg (by simpa using h1), if_neg (by simpa using h2), if_pos (by simpa using h3)] at hr
    first | refine caS_i (had_ok (fl := .b) (fm := .b) x.deps x.dots hd) trivial ?_ | refine caD_i (had_ok (fl := .b) (fm := .b) x.deps x.dots hd) trivial ?_ | refine gC_i (fun _ => had_ok (fl := .b) (fm := .b) x.deps x.dots hd) trivial ?_ | refine gCD_i (fun _ => had_ok (fl := .b) (fm := .b) x.deps x.dots hd) trivial ?_ | refine caE_i (had_ok (fl := .b) (fm := .b) x.deps x.dots hd) trivial ?_
    simp +contextual (maxSteps := 1000000) only [go_sem, ints, intRows, reduceAdd, Nat.reduceBEq, reduceEqDiff, reduceLeDiff, Nat.reduceLT, reduceIte, reduceLE, Int.reduceLT, reduceEq, reduceNeg, reduceToNat, ops, vals, dots]
    have c1 : decide (1 ≤ (x.dots.length : Int)) = decide (1 ≤ x.dots.length) := by rw [decide_eq_decide]; omega
    have c2 : decide ((x.dots.length : Int) ≤ 64) = decide (x.dots.length ≤ 64) := by rw [decide_eq_decide]; omega
    rw [hr, c1, c2]; simp
  · rw [hr, if_neg (by simpa using h1), if_neg (by simpa using h2), if_neg (by simpa using h3)]
theorem formsG_cols {f : List (List Int)} (h : formsG f = 0) : (1 ≤ f.length ∧ f.length ≤ 3) ∧ ∀ c ∈ f, 1 ≤ c.length ∧ c.length ≤ 4 := by
  unfold formsG at h
  split at h
  · cases h
  split at h
  · cases h
  rename_i h1 h2
  refine ⟨by omega, fun c hc => ?_⟩
  have := List.any_eq_false.1 (by simpa using h2) c hc
  simp [badN] at this; omega
theorem ACheck_ok {fl : Fl} (n : Int) (f : List (List Int)) (x : Opx) (hv : x.vals.length ≤ maxLen) (hd : x.dots.length ≤ maxLen) : FnB Tryz.prog 36 [vi n, tbs fl f, .ag (opV x)] (vi (checkG n f x)) := by
  refine fnB_intro cf36 (by simp) ?_
  simp +contextual (maxSteps := 1000000) only [go_sem, ints, intRows, reduceAdd, Nat.reduceBEq, reduceEqDiff, reduceLeDiff, Nat.reduceLT, reduceIte, reduceLE, Int.reduceLT, reduceEq, reduceNeg, reduceToNat, ops, vals, dots, c36, tbs]
  first | refine caS_i (AForms_ok f) trivial ?_ | refine caD_i (AForms_ok f) trivial ?_ | refine gC_i (fun _ => AForms_ok f) trivial ?_ | refine gCD_i (fun _ => AForms_ok f) trivial ?_ | refine caE_i (AForms_ok f) trivial ?_
  simp +contextual (maxSteps := 1000000) only [go_sem, ints, intRows, reduceAdd, Nat.reduceBEq, reduceEqDiff, reduceLeDiff, Nat.reduceLT, reduceIte, reduceLE, Int.reduceLT, reduceEq, reduceNeg, reduceToNat, ops, vals, dots, tbs]
  refine ⟨fun h => ?_, fun h => ?_⟩
  · rw [checkG, if_pos (by simpa using h)]
  have hf : formsG f = 0 := by simpa using h
  first | refine caS_i (ARight_ok n f x hv hd fun c hc => ((formsG_cols hf).2 c hc).2) trivial ?_ | refine caD_i (ARight_ok n f x hv hd fun c hc => ((formsG_cols hf).2 c hc).2) trivial ?_ | refine gC_i (fun _ => ARight_ok n f x hv hd fun c hc => ((formsG_cols hf).2 c hc).2) trivial ?_ | refine gCD_i (fun _ => ARight_ok n f x hv hd fun c hc => ((formsG_cols hf).2 c hc).2) trivial ?_ | refine caE_i (ARight_ok n f x hv hd fun c hc => ((formsG_cols hf).2 c hc).2) trivial ?_
  simp +contextual (maxSteps := 1000000) only [go_sem, ints, intRows, reduceAdd, Nat.reduceBEq, reduceEqDiff, reduceLeDiff, Nat.reduceLT, reduceIte, reduceLE, Int.reduceLT, reduceEq, reduceNeg, reduceToNat, ops, vals, dots]
  refine ⟨fun hb => ?_, fun hb => ?_⟩
  · rw [checkG, if_neg (by simpa using hf), if_pos (by simpa [or_assoc] using hb)]
  · rw [checkG, if_neg (by simpa using hf), if_neg]
    simp at hb
    rintro (h1 | h1 | h1)
    · omega
    · omega
    · rw [hb.2] at h1; cases h1
end Go.Proofs.YtbojpedklnmidaaGreat.D
end
section
set_option linter.unusedVariables false
set_option linter.unusedSimpArgs false
set_option linter.constructorNameAsVariable false
set_option maxRecDepth 100000

/- What operations make: the store of audit.Made. No condition. -/
namespace Go.Proofs.YtbojpedklnmidaaGreat.D
open Go Go.Proofs
open Nat (reduceAdd reduceEqDiff reduceLeDiff)
open Int (reduceLE reduceEq reduceNeg reduceToNat)
def rowsM : List Mde → (Nat → Nat) → List (List V)
  | [], _ => []
  | M :: T, mid => [.c (.string M.key), .pt (mid 0) 0 0] :: rowsM T fun i => mid (i + 1)
def posKey (k : ByteArray) : List Mde → Option Nat
  | [] => none
  | M :: T => if k.toList = M.key.toList then some 0 else (posKey k T).map (· + 1)
theorem posM_made (k : ByteArray) : ∀ (T : List Mde) (mid : Nat → Nat), posM false [1] (.c (.string k)) (rowsM T mid) = some (posKey k T)
  | [], _ => rfl
  | M :: T, mid => by
    have ih := posM_made k T fun i => mid (i + 1)
    simp only [rowsM, posM, posKey, ih]
    by_cases h : k.toList = M.key.toList
    · simp [keyEq, keyC, eqS, eqCells, h]
    · simp [keyEq, keyC, eqS, eqCells, h]
theorem valM_made (k : ByteArray) : ∀ (T : List Mde) (mid : Nat → Nat) (i : Nat), posKey k T = some i → valM (.c (.pointer none)) (rowsM T mid) (some i) = .pt (mid i) 0 0
  | [], _, i, h => by cases h
  | M :: T, mid, i, h => by
    unfold posKey at h
    split at h
    · injection h with h; subst h; rfl
    · obtain ⟨j, h1, rfl⟩ := Option.map_eq_some_iff.1 h
      have := valM_made k T (fun i => mid (i + 1)) j h1
      simpa [valM, rowsM] using this
theorem posKey_lt {k : ByteArray} : ∀ {T : List Mde} {i : Nat}, posKey k T = some i → i < T.length ∧ k.toList = (gN T i).key.toList
  | [], i, h => by cases h
  | M :: T, i, h => by
    unfold posKey at h
    split at h
    · rename_i hk
      injection h with h; subst h; exact ⟨by simp, hk⟩
    · obtain ⟨j, h1, rfl⟩ := Option.map_eq_some_iff.1 h
      have := posKey_lt h1
      exact ⟨by simp; exact this.1, by simpa [gN] using this.2⟩
theorem rowsM_app : ∀ (T : List Mde) (M : Mde) (mid : Nat → Nat), rowsM (T ++ [M]) mid = rowsM T mid ++ [[.c (.string M.key), .pt (mid T.length) 0 0]]
  | [], M, mid => rfl
  | M' :: T, M, mid => by simp [rowsM, rowsM_app T M]
theorem rowsM_keys : ∀ (T T' : List Mde) (mid mid' : Nat → Nat), T.map (·.key) = T'.map (·.key) → (∀ i, i < T.length → mid i = mid' i) → rowsM T mid = rowsM T' mid'
  | [], [], _, _, _, _ => rfl
  | [], _ :: _, _, _, h, _ => by simp at h
  | _ :: _, [], _, _, h, _ => by simp at h
  | M :: T, M' :: T', mid, mid', h, hm => by
    simp at h
    rw [rowsM, rowsM, h.1, hm 0 (by simp), rowsM_keys T T' _ _ h.2 fun i hi => hm (i + 1) (by simp; omega)]
theorem rowsM_len : ∀ (T : List Mde) (mid : Nat → Nat), (rowsM T mid).length = T.length
  | [], _ => rfl
  | M :: T, mid => by simp [rowsM, rowsM_len T]
theorem MadeO.fr {ob ob' : OB} {n n' mid : Nat} {M : Mde} {inV outV laV : V} (h : MadeO ob n mid M inV outV laV) (hn : n ≤ n') (hf : ∀ j, j < n → (j = mid ∨ (∃ len, inV = .sl j 0 len) ∨ (∃ len, outV = .sl j 0 len) ∨ ∃ len, laV = .sl j 0 len) → ob' j = ob j) : MadeO ob' n' mid M inV outV laV where
  m := (hf mid h.lt (.inl rfl)).trans h.m
  i := own_fr h.i hn fun id h1 h2 => hf id h1 (.inr (.inl ⟨_, h2⟩))
  o := own_fr h.o hn fun id h1 h2 => hf id h1 (.inr (.inr (.inl ⟨_, h2⟩)))
  l := h.l.fr hn fun id len h2 h1 => hf id h1 (.inr (.inr (.inr ⟨_, h2⟩)))
  d := h.d
  lt := Nat.lt_of_lt_of_le h.lt hn
structure InvM (F : Nat) (S : Nat → List Mde) (maps : Nat → Nat) (mid : Nat → Nat → Nat) (lab : Nat → Nat × Nat) (ob : OB) (n : Nat) : Prop where
  a : ob 17 = some ⟨1, (List.range F).map (fun t => [.mp (maps t)]), none⟩
  la : lab 17 = (F, 0)
  n17 : 17 < n
  m : ∀ t, t < F → ob (maps t) = some ⟨0, rowsM (S t) (mid t), none⟩ ∧ lab (maps t) = (t, 0) ∧ maps t < n
  d : ∀ t, t < F → ∀ i, i < (S t).length → ∃ inV outV laV, MadeO ob n (mid t i) (gN (S t) i) inV outV laV ∧ lab (mid t i) = (t, i + 1) ∧ (∀ id len, inV = .sl id 0 len → lab id = (t, i + 1)) ∧ (∀ id len, outV = .sl id 0 len → lab id = (t, i + 1)) ∧ ∀ id len, laV = .sl id 0 len → lab id = (t, i + 1)
section
variable {F : Nat} {S : Nat → List Mde} {maps : Nat → Nat} {mid : Nat → Nat → Nat} {lab : Nat → Nat × Nat} {ob ob' : OB} {n n' : Nat}
theorem InvM.fr (h : InvM F S maps mid lab ob n) (hn : n ≤ n') (hf : ∀ j, j < n → ob' j = ob j) : InvM F S maps mid lab ob' n' where
  a := (hf 17 h.n17).trans h.a
  la := h.la
  n17 := Nat.lt_of_lt_of_le h.n17 hn
  m := fun t ht => ⟨(hf _ (h.m t ht).2.2).trans (h.m t ht).1, (h.m t ht).2.1, Nat.lt_of_lt_of_le (h.m t ht).2.2 hn⟩
  d := fun t ht i hi => by
    obtain ⟨a, b, c, h1, h2⟩ := h.d t ht i hi
    exact ⟨a, b, c, h1.fr hn fun j hj _ => hf j hj, h2⟩
def labN (lab : Nat → Nat × Nat) (n : Nat) (q : Nat × Nat) : Nat → Nat × Nat := fun j => if j < n then lab j else q
theorem labN_lt {q : Nat × Nat} {j : Nat} (h : j < n) : labN lab n q j = lab j := if_pos h
theorem labN_ge {q : Nat × Nat} {j : Nat} (h : n ≤ j) : labN lab n q j = q := if_neg (by omega)
theorem InvM.note (h : InvM F S maps mid lab ob n) {t i : Nat} (ht : t < F) (hi : i < (S t).length) {M' : Mde} (hk : M'.key = (gN (S t) i).key) {inV outV laV inV' outV' : V} (hn : n ≤ n')
    (hl : lab (mid t i) = (t, i + 1) ∧ (∀ id len, inV = .sl id 0 len → lab id = (t, i + 1)) ∧ (∀ id len, outV = .sl id 0 len → lab id = (t, i + 1)) ∧ ∀ id len, laV = .sl id 0 len → lab id = (t, i + 1))
    (ho : MadeO ob n (mid t i) (gN (S t) i) inV outV laV)
    (hM : MadeO ob' n' (mid t i) M' inV' outV' laV) (hf : ∀ j, j < n → j ≠ mid t i → (∀ len, inV ≠ .sl j 0 len) → (∀ len, outV ≠ .sl j 0 len) → (∀ len, laV ≠ .sl j 0 len) → ob' j = ob j)
    (h1 : ∀ id len, inV' = .sl id 0 len → (∃ len', inV = .sl id 0 len') ∨ n ≤ id) (h2 : ∀ id len, outV' = .sl id 0 len → (∃ len', outV = .sl id 0 len') ∨ n ≤ id) :
    InvM F (fun s => if s = t then (S t).set i M' else S s) maps mid (labN lab n (t, i + 1)) ob' n' := by
  have hfr : ∀ j, j < n → lab j ≠ (t, i + 1) → ob' j = ob j := fun j hj hne => by
    refine hf j hj (fun e => hne (e ▸ hl.1)) (fun len e => hne (hl.2.1 _ _ e)) (fun len e => hne (hl.2.2.1 _ _ e)) (fun len e => hne (hl.2.2.2 _ _ e))
  have hlt : ∀ {v : V} {k : Nat} {rows : List (List V)}, Own n ob v k rows → ∀ id len, v = .sl id 0 len → id < n := fun ho id len e => by
    rcases ho with ⟨_, h5⟩ | ⟨_, i, c, h4, h5, _⟩
    · rw [h5] at e; cases e
    · rw [e] at h5; injection h5 with h5; omega
  have hltE : ∀ {v : V} {k : Nat} {rows : List (List V)}, OwnE n ob v k rows → ∀ id len, v = .sl id 0 len → id < n := fun ho id len e => by
    rcases ho with ⟨_, h5⟩ | ⟨i, c, h4, h5, _⟩
    · rw [h5] at e; cases e
    · rw [e] at h5; injection h5 with h5; omega
  refine ⟨(hfr 17 h.n17 (by rw [h.la]; intro e; injection e; omega)).trans h.a, (labN_lt h.n17).trans h.la, Nat.lt_of_lt_of_le h.n17 hn, fun s hs => ?_, fun s hs j hj => ?_⟩
  · obtain ⟨m1, m2, m3⟩ := h.m s hs
    refine ⟨?_, (labN_lt m3).trans m2, Nat.lt_of_lt_of_le m3 hn⟩
    rw [hfr _ m3 (by rw [m2]; intro e; injection e with _ e; omega), m1]
    by_cases e : s = t
    · subst e
      rw [if_pos rfl, rowsM_keys (S s) ((S s).set i M') (mid s) (mid s) ?_ fun _ _ => rfl]
      refine List.ext_getElem (by simp) fun j h5 h6 => ?_
      simp only [List.getElem_map, List.getElem_set]
      split
      · rename_i e; subst e; rw [hk, gN_eq hi]
      · rfl
    · rw [if_neg e]
  · by_cases e : s = t ∧ j = i
    · obtain ⟨rfl, rfl⟩ := e
      simp only [if_true] at hj ⊢
      refine ⟨inV', outV', laV, ?_, (labN_lt ho.lt).trans hl.1, fun id len e => ?_, fun id len e => ?_, fun id len e => ?_⟩
      · rw [gN_eq (by simpa using hi)]; simpa using hM
      · rcases h1 id len e with ⟨len', e'⟩ | e'
        · exact (labN_lt (hlt ho.i _ _ e')).trans (hl.2.1 _ _ e')
        · exact labN_ge e'
      · rcases h2 id len e with ⟨len', e'⟩ | e'
        · exact (labN_lt (hlt ho.o _ _ e')).trans (hl.2.2.1 _ _ e')
        · exact labN_ge e'
      · exact (labN_lt (hltE ho.l _ _ e)).trans (hl.2.2.2 _ _ e)
    · have hj' : j < (S s).length := by
        by_cases e2 : s = t
        · subst e2; simpa using hj
        · simpa [e2] using hj
      obtain ⟨a, b, c, d1, d2, d3, d4, d5⟩ := h.d s hs j hj'
      have hg : gN (if s = t then (S t).set i M' else S s) j = gN (S s) j := by
        by_cases e2 : s = t
        · subst e2
          rw [if_pos rfl, gN_eq (by simpa using hj'), gN_eq hj', List.getElem_set, if_neg fun e3 => e ⟨rfl, e3.symm⟩]
        · rw [if_neg e2]
      have hne : ∀ q, lab q = (s, j + 1) → lab q ≠ (t, i + 1) := fun q hq e2 => by
        rw [hq] at e2; injection e2 with e3 e4; exact e ⟨e3, by omega⟩
      rw [hg]
      refine ⟨a, b, c, d1.fr hn fun q hq hc => hfr q hq ?_, (labN_lt d1.lt).trans d2, fun id len e => (labN_lt (hlt d1.i _ _ e)).trans (d3 _ _ e), fun id len e => (labN_lt (hlt d1.o _ _ e)).trans (d4 _ _ e), fun id len e => (labN_lt (hltE d1.l _ _ e)).trans (d5 _ _ e)⟩
      rcases hc with rfl | ⟨len, e2⟩ | ⟨len, e2⟩ | ⟨len, e2⟩
      · exact hne _ d2
      · exact hne _ (d3 _ _ e2)
      · exact hne _ (d4 _ _ e2)
      · exact hne _ (d5 _ _ e2)
theorem InvM.add (h : InvM F S maps mid lab ob n) {t : Nat} (ht : t < F) {M' : Mde} {B : Nat} {inV outV laV : V} (hn : n ≤ n') (hB : n ≤ B) (hM : MadeO ob' n' B M' inV outV laV)
    (hmap : ob' (maps t) = some ⟨0, rowsM (S t) (mid t) ++ [[.c (.string M'.key), .pt B 0 0]], none⟩) (hf : ∀ j, j < n → j ≠ maps t → ob' j = ob j)
    (h1 : ∀ id len, inV = .sl id 0 len → n ≤ id) (h2 : ∀ id len, outV = .sl id 0 len → n ≤ id) (h3 : ∀ id len, laV = .sl id 0 len → n ≤ id) :
    InvM F (fun s => if s = t then S t ++ [M'] else S s) maps (fun s i => if s = t ∧ i = (S t).length then B else mid s i) (labN lab n (t, (S t).length + 1)) ob' n' := by
  have hfr : ∀ j, j < n → lab j ≠ (t, 0) → ob' j = ob j := fun j hj hne => hf j hj fun e => hne (e ▸ (h.m t ht).2.1)
  have hlt : ∀ {v : V} {k : Nat} {rows : List (List V)}, Own n ob v k rows → ∀ id len, v = .sl id 0 len → id < n := fun ho id len e => by
    rcases ho with ⟨_, h5⟩ | ⟨_, i, c, h4, h5, _⟩
    · rw [h5] at e; cases e
    · rw [e] at h5; injection h5 with h5; omega
  have hltE : ∀ {v : V} {k : Nat} {rows : List (List V)}, OwnE n ob v k rows → ∀ id len, v = .sl id 0 len → id < n := fun ho id len e => by
    rcases ho with ⟨_, h5⟩ | ⟨i, c, h4, h5, _⟩
    · rw [h5] at e; cases e
    · rw [e] at h5; injection h5 with h5; omega
  refine ⟨(hfr 17 h.n17 (by rw [h.la]; intro e; injection e; omega)).trans h.a, (labN_lt h.n17).trans h.la, Nat.lt_of_lt_of_le h.n17 hn, fun s hs => ?_, fun s hs j hj => ?_⟩
  · obtain ⟨m1, m2, m3⟩ := h.m s hs
    refine ⟨?_, (labN_lt m3).trans m2, Nat.lt_of_lt_of_le m3 hn⟩
    by_cases e : s = t
    · subst e
      have e3 : rowsM (S s) (fun i => if i = (S s).length then B else mid s i) = rowsM (S s) (mid s) := rowsM_keys _ _ _ _ rfl fun i hi => if_neg (by omega)
      rw [hmap, if_pos rfl, rowsM_app]
      simp only [true_and, if_true]
      rw [e3]
    · rw [hfr _ m3 (by rw [m2]; intro e2; injection e2 with e2; exact e e2), m1, if_neg e]
      have e3 : rowsM (S s) (fun i => if s = t ∧ i = (S t).length then B else mid s i) = rowsM (S s) (mid s) := rowsM_keys _ _ _ _ rfl fun i hi => if_neg fun e2 => e e2.1
      rw [e3]
  · by_cases e : s = t ∧ j = (S t).length
    · obtain ⟨rfl, rfl⟩ := e
      simp only [if_true, and_self] at hj ⊢
      refine ⟨inV, outV, laV, ?_, labN_ge hB, fun id len e => labN_ge (h1 _ _ e), fun id len e => labN_ge (h2 _ _ e), fun id len e => labN_ge (h3 _ _ e)⟩
      rw [gN_eq (by simp)]; simpa using hM
    · have hj' : j < (S s).length := by
        by_cases e2 : s = t
        · subst e2
          simp at hj
          have : j ≠ (S s).length := fun e3 => e ⟨rfl, e3⟩
          omega
        · simpa [e2] using hj
      obtain ⟨a, b, c, d1, d2, d3, d4, d5⟩ := h.d s hs j hj'
      have hg : gN (if s = t then S t ++ [M'] else S s) j = gN (S s) j := by
        by_cases e2 : s = t
        · subst e2
          rw [if_pos rfl, gN_eq (by simp; omega), gN_eq hj', List.getElem_append_left hj']
        · rw [if_neg e2]
      have hne : ∀ q, lab q = (s, j + 1) → lab q ≠ (t, 0) := fun q hq e2 => by
        rw [hq] at e2; injection e2 with e3 e4; omega
      have hmd : (if s = t ∧ j = (S t).length then B else mid s j) = mid s j := if_neg e
      rw [hg]
      simp only [hmd]
      refine ⟨a, b, c, d1.fr hn fun q hq hc => hfr q hq ?_, (labN_lt d1.lt).trans d2, fun id len e => (labN_lt (hlt d1.i _ _ e)).trans (d3 _ _ e), fun id len e => (labN_lt (hlt d1.o _ _ e)).trans (d4 _ _ e), fun id len e => (labN_lt (hltE d1.l _ _ e)).trans (d5 _ _ e)⟩
      rcases hc with rfl | ⟨len, e2⟩ | ⟨len, e2⟩ | ⟨len, e2⟩
      · exact hne _ d2
      · exact hne _ (d3 _ _ e2)
      · exact hne _ (d4 _ _ e2)
      · exact hne _ (d5 _ _ e2)
end
end Go.Proofs.YtbojpedklnmidaaGreat.D
end
section
set_option linter.unusedVariables false
set_option linter.unusedSimpArgs false
set_option linter.constructorNameAsVariable false
set_option maxRecDepth 100000

/- What operations make: the walk of audit.Made. No condition. -/
namespace Go.Proofs.YtbojpedklnmidaaGreat.D
open Go Go.Proofs
open Nat (reduceAdd reduceEqDiff reduceLeDiff)
open Int (reduceLE reduceEq reduceNeg reduceToNat)
def freshM (key : ByteArray) (c : Nat) : Mde := ⟨key, [], [], List.replicate c none⟩
def putT (c : Nat) (T : List Mde) (x : Opx) : List Mde := match posKey x.key T with
  | some i => T.set i (noteM (gN T i) x)
  | none => T ++ [noteM (freshM x.key c) x]
def mdesS (f : List (List Int)) (l : List Opx) (s : Nat) : List Mde := (l.filter fun x => decide (x.table = (s : Int))).foldl (putT (gN f s).length) []
def madeE (n : Int) (f : List (List Int)) (l : List Opx) : Int := if formsG f ≠ 0 then formsG f else if n < 1 ∨ 5 < n then 1 else if l.all (rightX n f) = true then 0 else 1
def seeK (T : List Mde) (k : ByteArray) : Option (List Vl) := match posKey k T with
  | some i => if thereM (gN T i) = true then some (rowM (gN T i)) else none
  | none => none
def seenM (T : List Mde) : List (List Vl) := (sortB (T.map (·.key))).filterMap (seeK T)
def madeT (n : Int) (f : List (List Int)) (l : List Opx) : List (List (List Vl)) := if madeE n f l = 0 then (List.range f.length).map fun t => seenM (mdesS f l t) else []
theorem mdesS_take {f : List (List Int)} {l : List Opx} {i s : Nat} (h : i < l.length) : mdesS f (l.take (i + 1)) s = if (gN l i).table = (s : Int) then putT (gN f s).length (mdesS f (l.take i) s) (gN l i) else mdesS f (l.take i) s := by
  unfold mdesS
  rw [take_gN h, List.filter_append, List.foldl_append]
  by_cases h : (gN l i).table = (s : Int) <;> simp [h]
def smallM (k c : Nat) (M : Mde) : Prop := M.ins.length ≤ k ∧ M.outs.length ≤ 100 * k ∧ M.last.length = c
theorem small_put {k c : Nat} {T : List Mde} {x : Opx} (h : ∀ M ∈ T, smallM k c M) (hx : x.dots.length ≤ 100) : ∀ M ∈ putT c T x, smallM (k + 1) c M := by
  have hn : ∀ M, smallM k c M → smallM (k + 1) c (noteM M x) := fun M hM => by
    obtain ⟨h1, h2, h3⟩ := hM
    unfold noteM smallM
    refine ⟨?_, ?_, by simpa using h3⟩
    · show (if x.kind = 1 then M.ins ++ [x.dot] else M.ins).length ≤ k + 1
      split
      · rw [List.length_append]; simp; omega
      · omega
    · show (if x.kind = 3 then M.outs ++ x.dots else M.outs).length ≤ 100 * (k + 1)
      split
      · rw [List.length_append]; omega
      · omega
  have hw : ∀ M, smallM k c M → smallM (k + 1) c M := fun M ⟨h1, h2, h3⟩ => ⟨by omega, by omega, h3⟩
  intro M hM
  unfold putT at hM
  split at hM
  · rename_i i hi
    rcases List.mem_or_eq_of_mem_set hM with hM | rfl
    · exact hw _ (h M hM)
    · exact hn _ (h _ (gN_mem (posKey_lt hi).1))
  · rcases List.mem_append.1 hM with hM | hM
    · exact hw _ (h M hM)
    · rw [List.mem_singleton.1 hM]
      exact hn _ ⟨by simp [freshM], by simp [freshM], by simp [freshM]⟩
theorem small_mdes {f : List (List Int)} {l : List Opx} (hx : ∀ x ∈ l, x.dots.length ≤ 100) (s : Nat) : ∀ i, i ≤ l.length → ∀ M ∈ mdesS f (l.take i) s, smallM i (gN f s).length M
  | 0, _, M, hM => by simp [mdesS] at hM
  | i + 1, hi, M, hM => by
    have ih := small_mdes (f := f) hx s i (by omega)
    rw [mdesS_take (by omega)] at hM
    split at hM
    · exact small_put ih (hx _ (gN_mem (by omega))) M hM
    · obtain ⟨h1, h2, h3⟩ := ih M hM
      exact ⟨by omega, by omega, h3⟩
def OwnR (n : Nat) (ob : OB) (v : V) (L : List (List Vl)) : Prop :=
  ∃ cells, Own n ob v 1 cells ∧ cells.length = L.length ∧ ∀ k, k < L.length → ∃ rv, cells[k]? = some [rv] ∧ Own n ob rv 3 ((gN L k).map vlV)
theorem OwnR.fr {n n' : Nat} {ob ob' : OB} {v : V} {L : List (List Vl)} (h : OwnR n ob v L) (hn : n ≤ n') (hf : ∀ j, j < n → ob' j = ob j) : OwnR n' ob' v L := by
  obtain ⟨cells, h1, h2, h3⟩ := h
  refine ⟨cells, own_fr h1 hn fun j hj _ => hf j hj, h2, fun k hk => ?_⟩
  obtain ⟨rv, r1, r2⟩ := h3 k hk
  exact ⟨rv, r1, own_fr r2 hn fun j hj _ => hf j hj⟩
theorem OwnR.fr2 {n n' : Nat} {ob ob' : OB} {v : V} {L : List (List Vl)} (h : OwnR n ob v L) (hn : n ≤ n') (hf : ∀ j, j < n → ((∃ len, v = .sl j 0 len) ∨ ∃ r c, ob j = some ⟨3, r, c⟩) → ob' j = ob j) : OwnR n' ob' v L := by
  obtain ⟨cells, h1, h2, h3⟩ := h
  refine ⟨cells, own_fr h1 hn fun j hj e => hf j hj (.inl ⟨_, e⟩), h2, fun k hk => ?_⟩
  obtain ⟨rv, r1, r2⟩ := h3 k hk
  refine ⟨rv, r1, ?_⟩
  rcases r2 with r2 | ⟨g1, id, c, g2, g3, g4⟩
  · exact .inl r2
  · exact .inr ⟨g1, id, c, by omega, g3, (hf id g2 (.inr ⟨_, _, g4⟩)).trans g4⟩
theorem gOwn3 {n : Nat} {ob : OB} {v : V} {r : List Vl} (h : Own n ob v 3 (r.map vlV)) (m : Nat) : gV ob (m + 2) v = vals .b r := by
  rcases h with ⟨h1, rfl⟩ | ⟨_, id, c, _, rfl, h4⟩
  · have : r = [] := by simpa using h1
    subst this; rfl
  · simp only [gV, rowsOf, h4, Option.bind_some, List.length_map]
    rw [if_pos (by simp), List.drop_zero, List.take_of_length_le (by simp)]
    show V.im Fl.b (List.map (fun r => List.map (gV ob (m + 1)) r) (r.map vlV)) = _
    rw [List.map_map]; rfl
theorem gOwnR {n : Nat} {ob : OB} {v : V} {L : List (List Vl)} (h : OwnR n ob v L) (m : Nat) : gV ob (m + 3) v = .im .b (L.map fun r => [vals .b r]) := by
  obtain ⟨cells, h1, h4, h5⟩ := h
  rcases h1 with ⟨rfl, rfl⟩ | ⟨_, id, c, _, rfl, h3⟩
  · have : L = [] := List.eq_nil_of_length_eq_zero (by simpa using h4.symm)
    subst this; rfl
  · simp only [gV, rowsOf, h3, Option.bind_some]
    rw [if_pos (by omega), List.drop_zero, List.take_of_length_le (by omega)]
    show V.im Fl.b (List.map (fun r => List.map (gV ob (m + 2)) r) cells) = _
    congr 1
    refine List.ext_getElem (by simp [h4]) fun k h6 h7 => ?_
    simp only [List.getElem_map]
    have hk : k < L.length := by simpa using h7
    obtain ⟨rv, r1, r2⟩ := h5 k hk
    have : cells[k] = [rv] := by
      rw [List.getElem?_eq_getElem (by omega)] at r1; exact Option.some.inj r1
    rw [this, List.map_cons, List.map_nil, gOwn3 r2, gN_eq hk]
theorem rowsM_at : ∀ (T : List Mde) (mid : Nat → Nat) {q : Nat}, q < T.length → (rowsM T mid)[q]? = some [.c (.string (gN T q).key), .pt (mid q) 0 0]
  | [], _, q, h => by simp at h
  | M :: T, mid, 0, h => rfl
  | M :: T, mid, q + 1, h => by
    have := rowsM_at T (fun i => mid (i + 1)) (q := q) (by simpa using h)
    simpa [rowsM, gN] using this
theorem nodup_len : ∀ (m : Nat) (l : List Nat), l.Nodup → (∀ q ∈ l, q < m) → l.length ≤ m
  | 0, [], _, _ => Nat.le_refl _
  | 0, q :: _, _, h => absurd (h q (List.mem_cons_self ..)) (by omega)
  | m + 1, l, h1, h2 => by
    have ih := nodup_len m (l.erase m) (h1.erase m) fun q hq => by
      have := (h1.mem_erase_iff).1 hq
      have := h2 q this.2
      omega
    rw [List.length_erase] at ih
    split at ih <;> omega
theorem nxS_any {P : Program} {n k nid : Nat} {env : Env} {ob : OB} {J : Env → OB → Nat → Prop} {l : List RO} {d : Option Nat} {v x : V} {rows xs : List (List V)} (h : Own n ob v k rows) (hn : n ≤ nid) (hx : rowsOf ob x = some xs) (hk : xs.all (okRow k) = true) (hlen : rows.length + xs.length ≤ maxLen)
    (hK : ∀ v' ob', Own (nid + 1) ob' v' k (rows ++ xs) → (∀ id, id ≠ nid → (∀ len, v ≠ .sl id 0 len) → ob' id = ob id) → (v' = v ∨ ∃ len, v' = .sl nid 0 len) → wpS P l (nid + 1) (put env d v') ob' J) : nxS P d l nid env ob J (opF (.app k) [v, x] ob nid) := by
  obtain ⟨v', us, u1, u2, u3, u4, _⟩ := app_any (nid := nid) h hn hx hk hlen
  rw [u1, nxS_s]; exact hK _ _ u2 u3 u4
theorem put_len (c : Nat) (T : List Mde) (x : Opx) : (putT c T x).length ≤ T.length + 1 := by
  unfold putT; split <;> simp
theorem mdes_len (f : List (List Int)) (l : List Opx) (s : Nat) : (mdesS f l s).length ≤ l.length := by
  unfold mdesS
  refine Nat.le_trans ?_ (List.length_filter_le (fun x => decide (x.table = (s : Int))) l)
  generalize l.filter _ = m
  suffices ∀ (m : List Opx) (T : List Mde), (m.foldl (putT (gN f s).length) T).length ≤ T.length + m.length by simpa using this m []
  intro m
  induction m with
  | nil => intro T; simp
  | cons x m ih =>
    intro T
    rw [List.foldl_cons]
    have := ih (putT (gN f s).length T x)
    have := put_len (gN f s).length T x
    simp; omega
theorem sort_told {T : List Mde} {told : List Nat} (h1 : told.Nodup) (h2 : ∀ q ∈ told, q < T.length) (h3 : ∀ i, i < T.length → i ∈ told) : sortB (told.map fun q => (gN T q).key) = sortB (T.map (·.key)) := by
  have hp : told.Perm (List.range T.length) := (List.perm_ext_iff_of_nodup h1 List.nodup_range).2 fun a => ⟨fun h => List.mem_range.2 (h2 a h), fun h => h3 a (List.mem_range.1 h)⟩
  have hT : T.map (·.key) = (List.range T.length).map fun q => (gN T q).key := by
    refine List.ext_getElem (by simp) fun j j1 j2 => ?_
    simp only [List.getElem_map, List.getElem_range]
    rw [gN_eq (by simpa using j1)]
  rw [hT]
  unfold sortB
  congr 1
  have hq := (hp.map fun q => (gN T q).key).map fun s : ByteArray => s.data.toList
  have htr : ∀ a b c : List UInt8, decide (a ≤ b) = true → decide (b ≤ c) = true → decide (a ≤ c) = true := fun a b c p q => decide_eq_true (List.le_trans (of_decide_eq_true p) (of_decide_eq_true q))
  have hto : ∀ a b : List UInt8, (decide (a ≤ b) || decide (b ≤ a)) = true := fun a b => by rcases List.le_total a b with h | h <;> simp [h]
  have has : ∀ a b : List UInt8, decide (a ≤ b) = true → decide (b ≤ a) = true → a = b := fun a b p q => List.le_antisymm (of_decide_eq_true p) (of_decide_eq_true q)
  exact List.Perm.eq_of_pairwise (le := fun x y : List UInt8 => decide (x ≤ y) = true) (fun x y _ _ => has x y) (List.pairwise_mergeSort htr hto _) (List.pairwise_mergeSort htr hto _) ((List.mergeSort_perm _ _).trans (hq.trans (List.mergeSort_perm _ _).symm))
theorem sortB_mem {l : List ByteArray} {k : ByteArray} (h : k ∈ sortB l) : k ∈ l := by
  unfold sortB at h
  obtain ⟨x, h1, rfl⟩ := List.mem_map.1 h
  rw [List.mem_mergeSort] at h1
  obtain ⟨s, h2, rfl⟩ := List.mem_map.1 h1
  have : (⟨s.data.toList.toArray⟩ : ByteArray) = s := by cases s; simp
  rw [this]; exact h2
theorem posKey_mem {k : ByteArray} : ∀ {T : List Mde}, k ∈ T.map (·.key) → ∃ q, posKey k T = some q
  | [], h => by simp at h
  | M :: T, h => by
    unfold posKey
    split
    · exact ⟨0, rfl⟩
    · rename_i hne
      rw [List.map_cons, List.mem_cons] at h
      rcases h with h | h
      · exact absurd (by rw [h]) hne
      · obtain ⟨q, hq⟩ := posKey_mem h
        exact ⟨q + 1, by rw [hq]; rfl⟩
def valdM (M : Mde) : Prop := (M.ins ≠ [] → ∀ c, c < M.last.length → gN M.last c ≠ none) ∧ ∀ c, c < M.last.length → ∀ y, gN M.last c = some y → 0 ≤ atX y c ∧ atX y c < y.vals.length
theorem right_val {n : Int} {f : List (List Int)} {x : Opx} {c : Nat} (hr : rightX n f x = true) (hc : c < (gN f x.table.toNat).length) (ha : 0 ≤ atX x c) : atX x c < x.vals.length := by
  unfold rightX rightO at hr
  simp only [Bool.and_eq_true] at hr
  obtain ⟨_, _, hr⟩ := hr
  unfold atX at *
  by_cases h1 : x.kind = 1
  · rw [if_pos h1]
    have h1' : (tab0 ⟨x, false⟩).kind = 1 := h1
    rw [if_pos h1'] at hr
    simp only [Bool.and_eq_true] at hr
    have := hr.1.1
    unfold smallBs allG at this
    rw [Bool.and_eq_true] at this
    have h2 : x.vals.length = (gN f x.table.toNat).length := (of_decide_eq_true this.1).1
    omega
  · rw [if_neg h1] at ha ⊢
    by_cases h2 : x.kind = 2 ∧ x.col = c
    · rw [if_pos h2]
      have h1' : ¬ (tab0 ⟨x, false⟩).kind = 1 := h1
      have h2' : (tab0 ⟨x, false⟩).kind = 2 := h2.1
      rw [if_neg h1', if_pos h2'] at hr
      simp only [Bool.and_eq_true] at hr
      have := hr.1.2
      unfold smallBs allG at this
      rw [Bool.and_eq_true] at this
      have h3 := (of_decide_eq_true this.1).1
      have h4 : x.vals.length = 1 := h3
      omega
    · rw [if_neg h2] at ha; omega
theorem note_last {M : Mde} {x : Opx} {c : Nat} (hc : c < M.last.length) : gN (noteM M x).last c = if 0 ≤ atX x c ∧ lateB (gN M.last c) x = true then some x else gN M.last c := by
  unfold noteM
  rw [gN_eq (by simpa using hc), gN_eq hc]
  simp
theorem note_val {n : Int} {f : List (List Int)} {M : Mde} {x : Opx} (hr : rightX n f x = true) (hl : M.last.length = (gN f x.table.toNat).length) (h : valdM M) : valdM (noteM M x) := by
  have hll : (noteM M x).last.length = M.last.length := by simp [noteM]
  refine ⟨fun hi c hc => ?_, fun c hc y hy => ?_⟩
  · rw [hll] at hc
    rw [note_last hc]
    split
    · simp
    · rename_i hn
      by_cases h1 : x.kind = 1
      · intro hz
        apply hn
        rw [hz]
        exact ⟨by unfold atX; rw [if_pos h1]; omega, rfl⟩
      · have : M.ins ≠ [] := by
          intro e; apply hi; unfold noteM; simp [h1, e]
        exact h.1 this c hc
  · rw [hll] at hc
    rw [note_last hc] at hy
    split at hy
    · rename_i hn
      injection hy with hy; subst hy
      exact ⟨hn.1, right_val hr (by omega) hn.1⟩
    · exact h.2 c hc y hy
theorem vald_mdes {n : Int} {f : List (List Int)} {l : List Opx} (he : ∀ x ∈ l, rightX n f x = true) (hx : ∀ x ∈ l, x.dots.length ≤ 100) (s : Nat) : ∀ i, i ≤ l.length → ∀ M ∈ mdesS f (l.take i) s, valdM M
  | 0, _, M, hM => by simp [mdesS] at hM
  | i + 1, hi, M, hM => by
    have ih := vald_mdes (f := f) he hx s i (by omega)
    have hsm := small_mdes (f := f) hx s i (by omega)
    rw [mdesS_take (by omega)] at hM
    split at hM
    · rename_i hts
      have hr := he _ (gN_mem (show i < l.length by omega))
      have htn : (gN l i).table.toNat = s := by omega
      unfold putT at hM
      split at hM
      · rename_i q hq
        rcases List.mem_or_eq_of_mem_set hM with hM | rfl
        · exact ih M hM
        · exact note_val hr (by rw [htn]; exact (hsm _ (gN_mem (posKey_lt hq).1)).2.2) (ih _ (gN_mem (posKey_lt hq).1))
      · rcases List.mem_append.1 hM with hM | hM
        · exact ih M hM
        · rw [List.mem_singleton.1 hM]
          refine note_val hr (by rw [htn]; simp [freshM]) ⟨fun h => absurd rfl h, fun c hc y hy => ?_⟩
          have hc2 : c < (freshM (gN l i).key (gN f s).length).last.length := hc
          rw [gN_eq hc2] at hy
          simp [freshM] at hy
    · exact ih M hM
theorem made_val {n : Int} {f : List (List Int)} {l : List Opx} {s : Nat} {M : Mde} (he : ∀ x ∈ l, rightX n f x = true) (hx : ∀ x ∈ l, x.dots.length ≤ 100) (hM : M ∈ mdesS f l s) : thereM M = true → ∀ c, c < M.last.length → ∃ y, gN M.last c = some y ∧ 0 ≤ atX y c ∧ atX y c < y.vals.length := fun ht c hc => by
  have hv := vald_mdes he hx s l.length (Nat.le_refl _) M (by rw [List.take_length]; exact hM)
  have hne : M.ins ≠ [] := fun e => by unfold thereM at ht; rw [e] at ht; simp at ht
  cases hy : gN M.last c with
  | none => exact absurd hy (hv.1 hne c hc)
  | some y => exact ⟨y, rfl, hv.2 c hc y hy⟩
theorem ACheckN_ok {fl : Fl} (n : Int) (f : List (List Int)) (x : Opx) (hv : x.vals.length ≤ maxLen) (hd : x.dots.length ≤ maxLen) : FnB Tryz.prog 36 [vi n, tbs fl f, .ag (opN x)] (vi (checkG n f x)) := FnB_nb (ACheck_ok n f x hv hd) ⟨.r _, .r _, op_toB x, trivial⟩
set_option maxHeartbeats 4000000 in
theorem AMadeN_ok {fl fm : Fl} (n : Int) (f : List (List Int)) (l : List Opx) (hl : l.length ≤ 200) (hx : ∀ x ∈ l, OkO x ∧ x.dots.length ≤ 100) :
    FnB Tryz.prog 13 [vi n, tbs fl f, opsN fm l] (.tp [.im .o ((madeT n f l).map fun rows => [.im .b (rows.map fun r => [vals .b r])]), vi (madeE n f l)]) := by
  refine fnB_intro cf13 (by simp) ?_
  simp +contextual (maxSteps := 1000000) only [go_sem, ints, intRows, reduceAdd, Nat.reduceBEq, reduceEqDiff, reduceLeDiff, Nat.reduceLT, reduceIte, reduceLE, Int.reduceLT, reduceEq, reduceNeg, reduceToNat, ops, vals, dots, c13, tbs]
  first | refine caS_i (AForms_ok f) trivial ?_ | refine caD_i (AForms_ok f) trivial ?_ | refine gC_i (fun _ => AForms_ok f) trivial ?_ | refine gCD_i (fun _ => AForms_ok f) trivial ?_ | refine caE_i (AForms_ok f) trivial ?_
  simp +contextual (maxSteps := 1000000) only [go_sem, ints, intRows, reduceAdd, Nat.reduceBEq, reduceEqDiff, reduceLeDiff, Nat.reduceLT, reduceIte, reduceLE, Int.reduceLT, reduceEq, reduceNeg, reduceToNat, ops, vals, dots, tbs]
  refine ⟨fun hb => ?_, fun hb => ?_⟩
  · have hne : formsG f ≠ 0 := by simpa using hb
    have e1 : madeE n f l = formsG f := if_pos hne
    have e2 : madeT n f l = [] := by unfold madeT; rw [if_neg (by rw [e1]; exact hne)]
    rw [e1, e2]; rfl
  have hf0 : formsG f = 0 := by simpa using hb
  obtain ⟨⟨hF1, hF3⟩, hcols⟩ := formsG_cols hf0
  refine ⟨fun hb2 => ?_, fun hb2 => ?_⟩
  · have e1 : madeE n f l = 1 := by
      unfold madeE; rw [if_neg (by simpa using hf0), if_pos (by simp at hb2; omega)]
    have e2 : madeT n f l = [] := by unfold madeT; rw [if_neg (by rw [e1]; simp)]
    rw [e1, e2]; rfl
  have hn5 : ¬ (n < 1 ∨ 5 < n) := by simp at hb2; omega
  refine ⟨by unfold maxLen; omega, ?_⟩
  refine wpC_lp (fun env ob n' => env 0 = vi n ∧ env 1 = tbs fl f ∧ env 2 = opsN fm l ∧ env 9 = .sl 17 0 f.length ∧ env 40 = .sl 17 0 f.length ∧ env 41 = vi f.length ∧ 17 < n' ∧ ∃ (i : Nat) (maps : Nat → Nat) (lab : Nat → Nat × Nat), env 42 = vi i ∧ i ≤ f.length ∧ ob 17 = some ⟨1, (List.range f.length).map (fun t => [if t < i then .mp (maps t) else .c (.map none)]), none⟩ ∧ lab 17 = (f.length, 0) ∧ ∀ t, t < i → ob (maps t) = some ⟨0, [], none⟩ ∧ lab (maps t) = (t, 0) ∧ maps t < n') (fun env ob _ => (f.length - iv (env 42)).toNat) ?_ ?_
  · simp +contextual (maxSteps := 1000000) only [go_sem, ints, intRows, reduceAdd, Nat.reduceBEq, reduceEqDiff, reduceLeDiff, Nat.reduceLT, reduceIte, reduceLE, Int.reduceLT, reduceEq, reduceNeg, reduceToNat, ops, vals, dots, tbs]
    refine ⟨0, fun _ => 0, fun _ => (f.length, 0), rfl, by omega, ?_, rfl, fun t ht => by omega⟩
    have : List.replicate f.length [V.c (Value.map none)] = (List.range f.length).map (fun t => [if t < 0 then .mp 0 else .c (.map none)]) := by
      refine List.ext_getElem (by simp) fun j h1 h2 => by simp
    rw [this]
  rintro env ob n' ⟨h0, h1, h2, h9, h40, h41, hn', i, maps, lab, h42, hi, o17, hl17, hmp⟩
  have w1 : IntKind.i64.wrap ((i : Int) + 1) = ((i + 1 : Nat) : Int) := by rw [w64 (by omega)]; omega
  have g17 : ∀ k, (17 == n' + k) = false := fun k => by simp; omega
  simp +contextual (maxSteps := 1000000) only [go_sem, ints, intRows, reduceAdd, Nat.reduceBEq, reduceEqDiff, reduceLeDiff, Nat.reduceLT, reduceIte, reduceLE, Int.reduceLT, reduceEq, reduceNeg, reduceToNat, ops, vals, dots, h0, h1, h2, h9, h40, h41, h42, o17, tbs]
  refine ⟨fun hlt => ?_, fun hge => ?_⟩
  · simp only [decide_eq_true_eq] at hlt
    simp +contextual (maxSteps := 1000000) only [go_sem, ints, intRows, reduceAdd, Nat.reduceBEq, reduceEqDiff, reduceLeDiff, Nat.reduceLT, reduceIte, reduceLE, Int.reduceLT, reduceEq, reduceNeg, reduceToNat, ops, vals, dots, wpC_bl, h0, h1, h2, h9, h40, h41, h42, o17, g17, tbs, w1, Nat.add_assoc]
    refine ⟨by omega, by simp; omega, ⟨rfl, rfl⟩, ⟨by omega, i + 1, fun t => if t = i then n' + 5 else maps t, labN lab n' (i, 0), rfl, by omega, ?_, (labN_lt hn').trans hl17, fun t ht => ?_⟩, by omega⟩
    · congr 2
      refine List.ext_getElem (by simp) fun j j1 j2 => ?_
      simp only [List.getElem_set, List.getElem_map, List.getElem_range]
      by_cases e : i = j
      · subst e; simp [cellsV]
      · by_cases e2 : j < i
        · rw [if_neg e, if_pos e2, if_pos (by omega), if_neg (by omega)]
        · rw [if_neg e, if_neg e2, if_neg (by omega)]
    · dsimp only
      by_cases e : t = i
      · subst e
        rw [if_pos rfl]
        refine ⟨?_, labN_ge (by omega), by omega⟩
        rw [updO, if_neg (by omega), updO_s]
      · obtain ⟨p1, p2, p3⟩ := hmp t (by omega)
        rw [if_neg e]
        refine ⟨?_, (labN_lt p3).trans p2, by omega⟩
        have hne : maps t ≠ 17 := fun e2 => by rw [e2, hl17] at p2; injection p2; omega
        rw [updO, if_neg hne, updO, if_neg (by omega), p1]
  · simp only [decide_eq_false_iff_not] at hge
    obtain rfl : i = f.length := by omega
    have hInv : InvM f.length (fun _ => []) maps (fun _ _ => 0) lab ob n' := by
      refine ⟨?_, hl17, hn', fun t ht => hmp t ht, fun t ht j hj => by simp at hj⟩
      rw [o17]; congr 2
      exact List.map_congr_left fun t ht => by rw [if_pos (List.mem_range.1 ht)]
    clear o17 hl17 hmp h40 h41 h42 g17 w1 hge hi
    refine wpC_lp (fun env ob' n' => env 0 = vi n ∧ env 1 = tbs fl f ∧ env 9 = .sl 17 0 f.length ∧ env 50 = opsN fm l ∧ env 51 = vi l.length ∧ ∃ (i : Nat) (mid : Nat → Nat → Nat) (lab : Nat → Nat × Nat), env 52 = vi i ∧ i ≤ l.length ∧ InvM f.length (mdesS f (l.take i)) maps mid lab ob' n' ∧ ∀ x ∈ l.take i, rightX n f x = true) (fun env ob _ => (l.length - iv (env 52)).toNat) ?_ ?_
    · simp +contextual (maxSteps := 1000000) only [go_sem, ints, intRows, reduceAdd, Nat.reduceBEq, reduceEqDiff, reduceLeDiff, Nat.reduceLT, reduceIte, reduceLE, Int.reduceLT, reduceEq, reduceNeg, reduceToNat, ops, vals, dots, h0, h1, h2, h9, tbs]
      exact ⟨0, fun _ _ => 0, lab, rfl, by omega, hInv.fr (by omega) fun _ _ => rfl, fun x hx => by simp at hx⟩
    clear h0 h1 h2 h9 hInv hn' env ob n' lab
    rintro env ob n' ⟨h0, h1, h9, h50, h51, i, mid, lab, h52, hi, hI, he⟩
    have w1 : IntKind.i64.wrap ((i : Int) + 1) = ((i + 1 : Nat) : Int) := by rw [w64 (by omega)]; omega
    have o17 := hI.a
    have hn' := hI.n17
    have g17 : ∀ k, (17 == n' + k) = false := fun k => by simp; omega
    simp +contextual (maxSteps := 1000000) only [go_sem, ints, intRows, reduceAdd, Nat.reduceBEq, reduceEqDiff, reduceLeDiff, Nat.reduceLT, reduceIte, reduceLE, Int.reduceLT, reduceEq, reduceNeg, reduceToNat, ops, vals, dots, h0, h1, h9, h50, h51, h52, tbs]
    refine ⟨fun hlt => ?_, fun hge => ?_⟩
    · simp only [decide_eq_true_eq] at hlt
      obtain ⟨hxo, hxd⟩ := hx _ (gN_mem (show i < l.length by omega))
      simp +contextual (maxSteps := 1000000) only [go_sem, ints, intRows, reduceAdd, Nat.reduceBEq, reduceEqDiff, reduceLeDiff, Nat.reduceLT, reduceIte, reduceLE, Int.reduceLT, reduceEq, reduceNeg, reduceToNat, ops, vals, dots, wpC_bl, h0, h1, h9, h50, h51, h52, o17, g17, tbs, w1, Nat.add_assoc]
      refine ⟨by omega, ?_⟩
      first | refine caS_i (ACheckN_ok n f (gN l i) hxo.v hxo.s) trivial ?_ | refine caD_i (ACheckN_ok n f (gN l i) hxo.v hxo.s) trivial ?_ | refine gC_i (fun _ => ACheckN_ok n f (gN l i) hxo.v hxo.s) trivial ?_ | refine gCD_i (fun _ => ACheckN_ok n f (gN l i) hxo.v hxo.s) trivial ?_ | refine caE_i (ACheckN_ok n f (gN l i) hxo.v hxo.s) trivial ?_
      simp +contextual (maxSteps := 1000000) only [go_sem, ints, intRows, reduceAdd, Nat.reduceBEq, reduceEqDiff, reduceLeDiff, Nat.reduceLT, reduceIte, reduceLE, Int.reduceLT, reduceEq, reduceNeg, reduceToNat, ops, vals, dots, wpC_bl, h0, h1, h9, h50, h51, h52, o17, g17, tbs, w1, Nat.add_assoc]
      have hck : checkG n f (gN l i) = if rightX n f (gN l i) = true then 0 else 1 := by
        unfold checkG
        rw [if_neg (by simpa using hf0)]
        cases hr : rightX n f (gN l i) with
        | true => rw [if_neg (by rintro (h | h | h); · omega
                                 · omega
                                 · cases h)]; rfl
        | false => rw [if_pos (.inr (.inr rfl))]; rfl
      refine ⟨fun hc => ?_, fun hc => ?_⟩
      · have hr : rightX n f (gN l i) = false := by
          cases hr : rightX n f (gN l i) with
          | false => rfl
          | true => rw [hck, if_pos hr] at hc; simp at hc
        have e0 : checkG n f (gN l i) = 1 := by rw [hck, if_neg (by rw [hr]; simp)]
        have e1 : madeE n f l = 1 := by
          unfold madeE; rw [if_neg (by simpa using hf0), if_neg hn5, if_neg]
          intro h; rw [List.all_eq_true.1 h _ (gN_mem (by omega))] at hr; cases hr
        have e2 : madeT n f l = [] := by unfold madeT; rw [if_neg (by rw [e1]; simp)]
        rw [e0, e1, e2]; rfl
      have hr : rightX n f (gN l i) = true := by
        cases hr : rightX n f (gN l i) with
        | true => rfl
        | false => rw [hck, if_neg (by rw [hr]; simp)] at hc; simp at hc
      have htb : 0 ≤ (gN l i).table ∧ (gN l i).table < f.length := by
        unfold rightX at hr
        rw [Bool.and_eq_true] at hr
        exact of_decide_eq_true hr.1
      obtain ⟨T, hT⟩ := Int.eq_ofNat_of_zero_le htb.1
      have hTF : T < f.length := by omega
      have hTt : (gN l i).table.toNat = T := by omega
      have hgr : gN (List.range f.length) T = T := by rw [gN_eq (by simpa using hTF)]; simp
      refine ⟨htb, by simp; omega, ?_⟩
      rw [hTt]
      generalize hob1 : updO (updO ob (n' + 3) _) (n' + 3) _ = ob1
      have hfr1 : ∀ j, j < n' → ob1 j = ob j := fun j hj => by rw [← hob1, updO, if_neg (by omega), updO, if_neg (by omega)]
      have hbx : ob1 (n' + 3) = some ⟨12, [opN (gN l i)], none⟩ := by rw [← hob1, updO_s]
      have hI1 := hI.fr (n' := n' + 4) (by omega) hfr1
      clear hob1 hI o17
      generalize hxe : gN l i = x at *
      obtain ⟨m1, m2, m3⟩ := hI1.m T hTF
      have hpk := posM_made x.key (mdesS f (l.take i) T) (mid T)
      have hko : keyOk false [1] (.c (.string x.key)) = true := rfl
      have hsm : ∀ M ∈ mdesS f (l.take i) T, smallM i (gN f T).length M := small_mdes (f := f) (fun y hy => (hx y hy).2) T i (by omega)
      have hc4 : (gN f T).length ≤ 4 := (hcols _ (gN_mem hTF)).2
      have hsm2 : ∀ M, smallM i (gN f T).length M → M.ins.length + 1 ≤ maxLen ∧ M.outs.length + x.dots.length ≤ maxLen ∧ M.last.length ≤ maxLen := fun M ⟨q1, q2, q3⟩ => by
        unfold maxLen; omega
      have hgx : ∀ y ∈ l.take (i + 1), rightX n f y = true := fun y hy => by
        rw [take_gN (by omega), List.mem_append, List.mem_singleton, hxe] at hy
        rcases hy with hy | rfl
        · exact he y hy
        · exact hr
      have hSt : ∀ s : Nat, mdesS f (l.take (i + 1)) s = if s = T then putT (gN f T).length (mdesS f (l.take i) T) x else mdesS f (l.take i) s := fun s => by
        rw [mdesS_take (by omega), hxe, hT]
        by_cases e : s = T
        · subst e; rw [if_pos rfl, if_pos rfl]
        · rw [if_neg (by omega), if_neg e]
      simp +contextual (maxSteps := 1000000) only [go_sem, ints, intRows, reduceAdd, Nat.reduceBEq, reduceEqDiff, reduceLeDiff, Nat.reduceLT, reduceIte, reduceLE, Int.reduceLT, reduceEq, reduceNeg, reduceToNat, ops, vals, dots, hgr, m1, hpk, hko]
      cases hj : posKey x.key (mdesS f (l.take i) T) with
      | some j =>
        have hjl := (posKey_lt hj).1
        obtain ⟨inV, outV, laV, hM, hlab⟩ := hI1.d T hTF j hjl
        have hMm := hM.m
        rw [valM_made x.key _ (mid T) j hj]
        simp +contextual (maxSteps := 1000000) only [go_sem, ints, intRows, reduceAdd, Nat.reduceBEq, reduceEqDiff, reduceLeDiff, Nat.reduceLT, reduceIte, reduceLE, Int.reduceLT, reduceEq, reduceNeg, reduceToNat, ops, vals, dots, hMm, hbx]
        obtain ⟨s1, s2, s3⟩ := hsm2 _ (hsm _ (gN_mem hjl))
        refine rcS_i (note_ok hM (by omega) s1 s2 s3 fun inV' outV' ob2 n2 hn2 hM2 hfr2 hin hout => ?_)
        simp +contextual (maxSteps := 1000000) only [go_sem, ints, intRows, reduceAdd, Nat.reduceBEq, reduceEqDiff, reduceLeDiff, Nat.reduceLT, reduceIte, reduceLE, Int.reduceLT, reduceEq, reduceNeg, reduceToNat, ops, vals, dots, h0, h1, h9, h50, h51, h52, w1, tbs]
        refine ⟨⟨i + 1, mid, labN lab (n' + 4) (T, j + 1), rfl, by omega, ?_, hgx⟩, by omega⟩
        have hI2 := hI1.note hTF hjl (M' := noteM (gN (mdesS f (l.take i) T) j) x) rfl (by omega) hlab hM hM2 (fun q h1 h2 h3 h4 h5 => hfr2 q (by omega) h2 h3 h4 h5) (fun id len e => (hin id len e).imp (fun h => h) fun h => by omega) (fun id len e => (hout id len e).imp (fun h => h) fun h => by omega)
        have hS : (fun s => if s = T then (mdesS f (l.take i) T).set j (noteM (gN (mdesS f (l.take i) T) j) x) else mdesS f (l.take i) s) = mdesS f (l.take (i + 1)) := funext fun s => by
          rw [hSt]; unfold putT; rw [hj]
        rw [← hS]
        exact hI2.fr (by omega) fun _ _ => rfl
      | none =>
        have hvn : valM (.c (.pointer none)) (rowsM (mdesS f (l.take i) T) (mid T)) none = .c (.pointer none) := rfl
        rw [hvn]
        have g17' := hI1.a
        have gm : ∀ k, (maps T == n' + (k + 4)) = false := fun k => by simp; omega
        have hne3 : maps T ≠ n' + 3 := fun e => by rw [e, hbx] at m1; cases m1
        have gb : (n' + 3 == maps T) = false := by simp; omega
        have g3 : ∀ k, (n' + 3 == n' + (k + 4)) = false := fun k => by simp
        simp +contextual (maxSteps := 1000000) only [go_sem, ints, intRows, reduceAdd, Nat.reduceBEq, reduceEqDiff, reduceLeDiff, Nat.reduceLT, reduceIte, reduceLE, Int.reduceLT, reduceEq, reduceNeg, reduceToNat, ops, vals, dots, h0, h1, h9, h50, h51, h52, w1, tbs, hbx, hgr, hTt, hT, g17', g17, m1, hpk, hj, hko, gm, g3, gb, Nat.add_assoc]
        have hmx : ((gN f T).length : Int) ≤ maxLen := by unfold maxLen; omega
        refine ⟨by omega, hmx, by omega, by simp; omega, ?_⟩
        generalize hobN : updO (updO (updO ob1 _ _) _ _) _ _ = obN
        have hM0 : MadeO obN (n' + 35) (n' + 34) (freshM x.key (gN f T).length) .z .z (.sl (n' + 32) 0 (gN f T).length) := by
          refine ⟨?_, Own.nil, Own.nil, .inr ⟨n' + 32, none, by omega, by simp [freshM], ?_⟩, (fun _ _ _ e => by cases e), by omega⟩
          · rw [← hobN, updO, if_neg (by omega), updO_s]; rfl
          · rw [← hobN, updO, if_neg (by omega), updO, if_neg (by omega), updO_s]
            simp [freshM, lastV, zOpV]
        have hmapN : obN (maps T) = some ⟨0, rowsM (mdesS f (l.take i) T) (mid T) ++ [[.c (.string x.key), .pt (n' + 34) 0 0]], none⟩ := by
          rw [← hobN, updO_s]; rfl
        have hfrN : ∀ j, j < n' + 4 → j ≠ maps T → obN j = ob1 j := fun j h1 h2 => by
          rw [← hobN, updO, if_neg h2, updO, if_neg (by omega), updO, if_neg (by omega)]
        have hIN := hI1.add hTF (M' := freshM x.key (gN f T).length) (B := n' + 34) (n' := n' + 35) (by omega) (by omega) hM0 hmapN hfrN (fun _ _ e => by cases e) (fun _ _ e => by cases e) (fun id len e => by injection e; omega)
        have hfs : smallM i (gN f T).length (freshM x.key (gN f T).length) := ⟨by simp [freshM], by simp [freshM], by simp [freshM]⟩
        obtain ⟨s1, s2, s3⟩ := hsm2 _ hfs
        refine rcS_i (note_ok hM0 (by omega) s1 s2 s3 fun inV' outV' ob2 n2 hn2 hM2 hfr2 hin hout => ?_)
        simp +contextual (maxSteps := 1000000) only [go_sem, ints, intRows, reduceAdd, Nat.reduceBEq, reduceEqDiff, reduceLeDiff, Nat.reduceLT, reduceIte, reduceLE, Int.reduceLT, reduceEq, reduceNeg, reduceToNat, ops, vals, dots, h0, h1, h9, h50, h51, h52, w1, tbs]
        obtain ⟨S1, hS1⟩ : ∃ S1, S1 = (fun s => if s = T then mdesS f (l.take i) T ++ [freshM x.key (gN f T).length] else mdesS f (l.take i) s) := ⟨_, rfl⟩
        obtain ⟨mid1, hm1⟩ : ∃ mid1, mid1 = (fun s i_1 => if s = T ∧ i_1 = (mdesS f (l.take i) T).length then n' + 34 else mid s i_1) := ⟨_, rfl⟩
        rw [← hS1, ← hm1] at hIN
        have e1 : mid1 T (mdesS f (l.take i) T).length = n' + 34 := by rw [hm1]; exact if_pos ⟨rfl, rfl⟩
        have e3 : S1 T = mdesS f (l.take i) T ++ [freshM x.key (gN f T).length] := by rw [hS1]; exact if_pos rfl
        have e2 : gN (S1 T) (mdesS f (l.take i) T).length = freshM x.key (gN f T).length := by
          rw [e3, gN_eq (by simp)]; simp
        have hI2 := hIN.note hTF (i := (mdesS f (l.take i) T).length) (by rw [e3]; simp) (M' := noteM (freshM x.key (gN f T).length) x) (n' := n2) (by rw [e2]; rfl) (inV := .z) (outV := .z) (laV := .sl (n' + 32) 0 (gN f T).length) (inV' := inV') (outV' := outV') (ob' := ob2) (by omega)
          ⟨by rw [e1]; exact labN_ge (by omega), (fun _ _ e => by cases e), (fun _ _ e => by cases e), (fun id len e => by injection e with e; subst e; exact labN_ge (by omega))⟩
          (by rw [e1, e2]; exact hM0) (by rw [e1]; exact hM2) (fun q h1 h2 h3 h4 h5 => hfr2 q (by omega) (by rw [e1] at h2; exact h2) h3 h4 h5) (fun id len e => (hin id len e).imp (fun h => h) fun h => by omega) (fun id len e => (hout id len e).imp (fun h => h) fun h => by omega)
        have hS : mdesS f (l.take (i + 1)) = (fun s => if s = T then (S1 T).set (mdesS f (l.take i) T).length (noteM (freshM x.key (gN f T).length) x) else S1 s) := funext fun s => by
          rw [hSt, e3, hS1]; unfold putT; rw [hj]
          by_cases e : s = T
          · subst e; simp
          · simp [e]
        refine ⟨⟨i + 1, _, _, rfl, by omega, hS ▸ hI2.fr (by omega) fun _ _ => rfl, hgx⟩, by omega⟩
    · simp only [decide_eq_false_iff_not] at hge
      obtain rfl : i = l.length := by omega
      rw [List.take_length] at hI he
      have hme : madeE n f l = 0 := by
        unfold madeE; rw [if_neg (by simpa using hf0), if_neg hn5, if_pos (List.all_eq_true.2 he)]
      have hmt : madeT n f l = (List.range f.length).map fun t => seenM (mdesS f l t) := by unfold madeT; rw [if_pos hme]
      have hn0 := hI.n17
      rw [hme, hmt]
      generalize hS0 : mdesS f l = S0 at *
      refine wpC_lp (fun env ob' n2 => env 97 = .sl 17 0 f.length ∧ env 98 = vi f.length ∧ n' ≤ n2 ∧ (∀ j, j < n' → ob' j = ob j) ∧ ∃ (i : Nat) (cells : List (List V)), env 99 = vi i ∧ i ≤ f.length ∧ Own n2 ob' (env 15) 1 cells ∧ cells.length = i ∧ (∀ t, t < i → ∃ sv, cells[t]? = some [sv] ∧ OwnR n2 ob' sv (seenM (S0 t)) ∧ (∀ id len len', sv = .sl id 0 len → env 15 ≠ .sl id 0 len')) ∧ ∀ id len, env 15 = .sl id 0 len → n' ≤ id) (fun env ob _ => (f.length - iv (env 99)).toNat) ?_ ?_
      · simp +contextual (maxSteps := 1000000) only [go_sem, ints, intRows, reduceAdd, Nat.reduceBEq, reduceEqDiff, reduceLeDiff, Nat.reduceLT, reduceIte, reduceLE, Int.reduceLT, reduceEq, reduceNeg, reduceToNat, ops, vals, dots]
        exact ⟨by omega, 0, [], rfl, by omega, Own.nil, rfl, fun t ht => by omega, fun id len e => by cases e⟩
      clear h0 h1 h9 h50 h51 h52 w1 g17 o17 hn' env
      rintro env ob2 n2 ⟨e97, e98, hn2, hfr, i, cells, e99, hi, hout, hcl, hsv, hoid⟩
      have hI2 := hI.fr (Nat.le_refl _) hfr
      have o17 := hI2.a
      have w1 : IntKind.i64.wrap ((i : Int) + 1) = ((i + 1 : Nat) : Int) := by rw [w64 (by omega)]; omega
      simp +contextual (maxSteps := 1000000) only [go_sem, ints, intRows, reduceAdd, Nat.reduceBEq, reduceEqDiff, reduceLeDiff, Nat.reduceLT, reduceIte, reduceLE, Int.reduceLT, reduceEq, reduceNeg, reduceToNat, ops, vals, dots, e97, e98, e99]
      refine ⟨fun hlt => ?_, fun hge => ?_⟩
      · simp only [decide_eq_true_eq] at hlt
        have hiF : i < f.length := by omega
        have hgr : gN (List.range f.length) i = i := by rw [gN_eq (by simpa using hiF)]; simp
        obtain ⟨m1, m2, m3⟩ := hI2.m i hiF
        generalize houtV : env 15 = outV at *
        simp +contextual (maxSteps := 1000000) only [go_sem, ints, intRows, reduceAdd, Nat.reduceBEq, reduceEqDiff, reduceLeDiff, Nat.reduceLT, reduceIte, reduceLE, Int.reduceLT, reduceEq, reduceNeg, reduceToNat, ops, vals, dots, wpC_bl, e97, e98, e99, o17, hgr, m1]
        refine ⟨by omega, by simp; omega, ?_⟩
        obtain ⟨I, hI'⟩ : ∃ I, I = n2 + 1 + 1 + 1 + 1 + 1 + 1 := ⟨_, rfl⟩
        rw [← hI', rowsM_len]
        have hTl : (S0 i).length ≤ 200 := by rw [← hS0]; exact Nat.le_trans (mdes_len f l i) hl
        generalize hTi : S0 i = T at *
        refine wpC_lp (fun env ob' n3 => env 97 = .sl 17 0 f.length ∧ env 98 = vi f.length ∧ env 99 = vi i ∧ env 15 = outV ∧ env 17 = .mp (maps i) ∧ env 104 = .mi I ∧ I < n3 ∧ (∀ j, j < n2 → ob' j = ob2 j) ∧ ∃ told : List Nat, told.Nodup ∧ (∀ q ∈ told, q < T.length) ∧ ob' I = some ⟨0, itRows (maps i) T.length told, none⟩ ∧ Own n3 ob' (env 18) 1 ((told.map fun q => (gN T q).key).map strV) ∧ (∀ id len, env 18 = .sl id 0 len → n2 ≤ id ∧ id ≠ I)) (fun env ob' _ => T.length + 1 - ((ob' I).map fun o => o.l.length).getD 0) ?_ ?_
        · simp +contextual (maxSteps := 1000000) only [go_sem, ints, intRows, reduceAdd, Nat.reduceBEq, reduceEqDiff, reduceLeDiff, Nat.reduceLT, reduceIte, reduceLE, Int.reduceLT, reduceEq, reduceNeg, reduceToNat, ops, vals, dots, e97, e98, e99, houtV]
          refine ⟨by omega, fun j hj => by rw [updO, if_neg (by omega)], [], by simp, fun q hq => by simp at hq, rfl, Own.nil, fun id len e => by cases e⟩
        rintro env3 ob3 n3 ⟨c97, c98, c99, c15, c17, c104, hn3, hfr3, told, ht1, ht2, hit, hks, hkid⟩
        have m1' : ob3 (maps i) = some ⟨0, rowsM T (mid i), none⟩ := (hfr3 _ (by omega)).trans m1
        have hrl := rowsM_len T (mid i)
        simp +contextual (maxSteps := 1000000) only [go_sem, ints, intRows, reduceAdd, Nat.reduceBEq, reduceEqDiff, reduceLeDiff, Nat.reduceLT, reduceIte, reduceLE, Int.reduceLT, reduceEq, reduceNeg, reduceToNat, ops, vals, dots, c97, c98, c99, c15, c17, c104]
        refine nxt_i (it := I) (id := maps i) (seen := told) (rows := rowsM T (mid i)) (cap := none) (cap' := none) (by rw [hrl]; exact hit) m1' (fun hall => ?_) (fun q kv vv hq hqn hqr => ?_)
        · rw [hrl] at hall
          simp +contextual (maxSteps := 1000000) only [go_sem, ints, intRows, reduceAdd, Nat.reduceBEq, reduceEqDiff, reduceLeDiff, Nat.reduceLT, reduceIte, reduceLE, Int.reduceLT, reduceEq, reduceNeg, reduceToNat, ops, vals, dots, wpC_bl, c97, c98, c99, c15, c17, c104]
          have htlen := nodup_len T.length told ht1 ht2
          refine rcS_i (SortStr_ok hks (by omega) (by simp; unfold maxLen; omega) fun ob4 hks4 hfr4 => ?_)
          have hsort : sortB (told.map fun q => (gN T q).key) = sortB (T.map (·.key)) := sort_told ht1 ht2 hall
          rw [hsort] at hks4
          have hfr4' : ∀ j, j < n2 → ob4 j = ob2 j := fun j hj => by
            rw [hfr4 j fun len e => by have := (hkid _ _ e).1; omega, hfr3 j hj]
          generalize hksV : env3 18 = ksV at *
          clear hfr4 hks hit hsort m1' hall hfr3
          have hkl : (sortB (T.map (·.key))).length = T.length := by rw [sortB_len, List.length_map]
          generalize hKs : sortB (T.map (·.key)) = Ks at *
          have hlK : lenOf ksV = some Ks.length := by
            rcases hks4 with ⟨h3, h4⟩ | ⟨_, id, c, _, h4, _⟩
            · have : Ks = [] := by simpa using h3
              rw [this, h4]; rfl
            · rw [h4]; simp [lenOf]
          simp +contextual (maxSteps := 1000000) only [go_sem, ints, intRows, reduceAdd, Nat.reduceBEq, reduceEqDiff, reduceLeDiff, Nat.reduceLT, reduceIte, reduceLE, Int.reduceLT, reduceEq, reduceNeg, reduceToNat, ops, vals, dots, wpC_bl, c97, c98, c99, c15, c17, c104, hlK, hksV]
          obtain ⟨n4, hn4⟩ : ∃ n4, n4 = n3 + 2 := ⟨_, rfl⟩
          refine wpC_lp (fun env ob' n5 => env 97 = .sl 17 0 f.length ∧ env 98 = vi f.length ∧ env 99 = vi i ∧ env 15 = outV ∧ env 17 = .mp (maps i) ∧ env 115 = ksV ∧ env 116 = vi Ks.length ∧ n4 ≤ n5 ∧ (∀ j, j < n4 → ob' j = ob4 j) ∧ ∃ k : Nat, env 117 = vi k ∧ k ≤ Ks.length ∧ OwnR n5 ob' (env 20) ((Ks.take k).filterMap (seeK T)) ∧ (∀ id len, env 20 = .sl id 0 len → n4 ≤ id)) (fun env ob' _ => (Ks.length - iv (env 117)).toNat) ?_ ?_
          · simp +contextual (maxSteps := 1000000) only [go_sem, ints, intRows, reduceAdd, Nat.reduceBEq, reduceEqDiff, reduceLeDiff, Nat.reduceLT, reduceIte, reduceLE, Int.reduceLT, reduceEq, reduceNeg, reduceToNat, ops, vals, dots, c97, c98, c99, c15, c17, c104, hksV]
            exact ⟨by omega, 0, rfl, by omega, ⟨[], Own.nil, rfl, fun k hk => by simp at hk⟩, fun id len e => by cases e⟩
          rintro env5 ob5 n5 ⟨d97, d98, d99, d15, d17, d115, d116, hn5', hfr5, k, d117, hk, hR, hRid⟩
          have w1k : IntKind.i64.wrap ((k : Int) + 1) = ((k + 1 : Nat) : Int) := by rw [w64 (by omega)]; omega
          simp +contextual (maxSteps := 1000000) only [go_sem, ints, intRows, reduceAdd, Nat.reduceBEq, reduceEqDiff, reduceLeDiff, Nat.reduceLT, reduceIte, reduceLE, Int.reduceLT, reduceEq, reduceNeg, reduceToNat, ops, vals, dots, d97, d98, d99, d15, d17, d115, d116, d117]
          refine ⟨fun hltk => ?_, fun hgek => ?_⟩
          · simp only [decide_eq_true_eq] at hltk
            obtain ⟨kid, c, hkid1, rfl, hobk⟩ : ∃ kid c, kid < n3 ∧ ksV = .sl kid 0 (Ks.map strV).length ∧ ob4 kid = some ⟨1, Ks.map strV, c⟩ := by
              rcases hks4 with ⟨h3, _⟩ | ⟨_, id, c, h4, h5, h6⟩
              · have : Ks = [] := by simpa using h3
                rw [this] at hltk; simp at hltk; omega
              · exact ⟨id, c, h4, h5, h6⟩
            have hobk5 := (hfr5 kid (by omega)).trans hobk
            have hI5 : InvM f.length S0 maps mid lab ob5 n' := hI2.fr (Nat.le_refl _) fun j hj => by rw [hfr5 j (by omega), hfr4' j (by omega)]
            have hkm : gN Ks k ∈ T.map (·.key) := by
              exact sortB_mem (by rw [hKs]; exact gN_mem (show k < Ks.length by omega))
            obtain ⟨q, hq⟩ := posKey_mem hkm
            have hql := (posKey_lt hq).1
            have m5 := (hI5.m i hiF).1
            rw [hTi] at m5
            have hpk5 := posM_made (gN Ks k) T (mid i)
            rw [hq] at hpk5
            have hko5 : keyOk false [1] (.c (.string (gN Ks k))) = true := rfl
            have hvm5 := valM_made (gN Ks k) T (mid i) q hq
            obtain ⟨inV, outV2, laV, hM, _⟩ := hI5.d i hiF q (by rw [hTi]; exact hql)
            rw [hTi] at hM
            simp +contextual (maxSteps := 1000000) only [go_sem, ints, intRows, reduceAdd, Nat.reduceBEq, reduceEqDiff, reduceLeDiff, Nat.reduceLT, reduceIte, reduceLE, Int.reduceLT, reduceEq, reduceNeg, reduceToNat, ops, vals, dots, d97, d98, d99, d15, d17, d115, d116, d117, hobk5, m5, hpk5, hko5, hvm5, strV]
            have hqT : gN T q ∈ mdesS f l i := by rw [hS0, hTi]; exact gN_mem hql
            have hsmq := small_mdes (f := f) (fun y hy => (hx y hy).2) i l.length (Nat.le_refl _) (gN T q) (by rw [List.take_length]; exact hqT)
            obtain ⟨z1, z2, z3⟩ := hsmq
            have hc4 := (hcols _ (gN_mem hiF)).2
            refine ⟨by omega, by omega, rcS_i (row_ok hM (by omega) (by unfold maxLen; omega) (by unfold maxLen; omega) (by unfold maxLen; omega) (made_val he (fun y hy => (hx y hy).2) hqT) fun rV ob6 n6 hn6 hrv hrid hfr6 => ?_)⟩
            have hR6 : OwnR n6 ob6 (env5 20) ((Ks.take k).filterMap (seeK T)) := hR.fr (by omega) fun j hj => hfr6 j (by omega)
            have hTk : (Ks.take (k + 1)).filterMap (seeK T) = (Ks.take k).filterMap (seeK T) ++ (if thereM (gN T q) = true then [rowM (gN T q)] else []) := by
              rw [take_gN (by omega), List.filterMap_append]
              congr 1
              simp only [List.filterMap_cons, List.filterMap_nil, seeK, hq]
              split <;> simp_all
            cases hth : thereM (gN T q) with
            | false =>
              have hrz : rV = .z := by
                have : rowM (gN T q) = [] := by unfold rowM; rw [hth]; rfl
                rw [this] at hrv
                rcases hrv with ⟨_, h4⟩ | ⟨h4, _⟩
                · exact h4
                · exact absurd rfl h4
              subst hrz
              simp +contextual (maxSteps := 1000000) only [go_sem, ints, intRows, reduceAdd, Nat.reduceBEq, reduceEqDiff, reduceLeDiff, Nat.reduceLT, reduceIte, reduceLE, Int.reduceLT, reduceEq, reduceNeg, reduceToNat, ops, vals, dots, d97, d98, d99, d15, d17, d115, d116, d117, w1k]
              refine ⟨⟨by omega, fun j hj => by rw [hfr6 j (by omega), hfr5 j hj], k + 1, rfl, by omega, ?_, hRid⟩, by omega⟩
              rw [hTk, hth, if_neg (by simp), List.append_nil]
              exact hR6.fr (by omega) fun _ _ => rfl
            | true =>
              obtain ⟨rid, c6, hr1, hr2, hr3⟩ : ∃ rid c6, rid < n6 ∧ rV = .sl rid 0 (rowM (gN T q)).length ∧ ob6 rid = some ⟨3, (rowM (gN T q)).map vlV, c6⟩ := by
                have hne : rowM (gN T q) ≠ [] := by unfold rowM; rw [hth]; simp
                rcases hrv with ⟨h4, _⟩ | ⟨_, id, c6, h4, h5, h6⟩
                · exact absurd (by simpa using h4) hne
                · rw [List.length_map] at h5; exact ⟨id, c6, h4, h5, h6⟩
              subst hr2
              simp +contextual (maxSteps := 1000000) only [go_sem, ints, intRows, reduceAdd, Nat.reduceBEq, reduceEqDiff, reduceLeDiff, Nat.reduceLT, reduceIte, reduceLE, Int.reduceLT, reduceEq, reduceNeg, reduceToNat, ops, vals, dots, d97, d98, d99, d15, d17, d115, d116, d117, w1k]
              obtain ⟨cells6, q1, q2, q3⟩ := hR6
              have hfm : ((Ks.take k).filterMap (seeK T)).length ≤ k := Nat.le_trans (List.length_filterMap_le _ _) (by simp; omega)
              have hrl0 : 0 < (rowM (gN T q)).length := by unfold rowM; rw [hth]; simp
              have hmx7 : cells6.length + 1 ≤ maxLen := by
                have hk2 : Ks.length ≤ 200 := by rw [hkl]; exact hTl
                rw [q2]; unfold maxLen; omega
              refine ⟨fun _ => nxS_any (xs := [[.sl rid 0 (rowM (gN T q)).length]]) q1 (by omega) rfl rfl hmx7 fun v' ob7 u2 u3 u4 => ?_, fun h0 => by have := of_decide_eq_false h0; omega⟩
              have hu : ∀ {w : V} {r : List (List V)}, Own n6 ob6 w 3 r → Own n6 ob7 w 3 r := fun {w r} ho => own_fr ho (Nat.le_refl _) fun id g1 g2 => u3 id (by omega) fun len => by
                rcases ho with ⟨_, h4⟩ | ⟨_, id2, c2, _, h5, h6⟩
                · rw [h4] at g2; cases g2
                · rw [g2] at h5; injection h5 with h5; subst h5; exact q1.e.ne h6 (by omega)
              simp +contextual (maxSteps := 1000000) only [go_sem, ints, intRows, reduceAdd, Nat.reduceBEq, reduceEqDiff, reduceLeDiff, Nat.reduceLT, reduceIte, reduceLE, Int.reduceLT, reduceEq, reduceNeg, reduceToNat, ops, vals, dots, d97, d98, d99, d15, d17, d115, d116, d117, w1k]
              refine ⟨⟨by omega, fun j hj => ?_, k + 1, rfl, by omega, ⟨_, u2.mono (by omega), ?_, fun z hz => ?_⟩, fun id len e => ?_⟩, by omega⟩
              · rw [u3 j (by omega) fun len e => by have := hRid _ _ e; omega, hfr6 j (by omega), hfr5 j hj]
              · rw [hTk, hth, if_pos rfl]; simp [q2]
              · rw [hTk, hth, if_pos rfl] at hz ⊢
                by_cases hz2 : z < ((Ks.take k).filterMap (seeK T)).length
                · obtain ⟨rv, r1, r2⟩ := q3 z hz2
                  refine ⟨rv, by rw [List.getElem?_append_left (by omega)]; exact r1, ?_⟩
                  rw [gN_eq hz, List.getElem_append_left hz2, ← gN_eq hz2]
                  exact (hu r2).mono (by omega)
                · have hz3 : z = ((Ks.take k).filterMap (seeK T)).length := by simp at hz; omega
                  subst hz3
                  refine ⟨_, by rw [List.getElem?_append_right (by omega), q2, Nat.sub_self]; rfl, ?_⟩
                  rw [gN_eq hz, List.getElem_append_right (by omega)]
                  simp only [Nat.sub_self, List.getElem_cons_zero]
                  exact (hu hrv).mono (by omega)
              · rcases u4 with rfl | ⟨len', rfl⟩
                · exact hRid _ _ e
                · injection e; omega
          · simp only [decide_eq_false_iff_not] at hgek
            obtain rfl : k = Ks.length := by omega
            rw [List.take_length] at hR
            have hLs : Ks.filterMap (seeK T) = seenM T := by unfold seenM; rw [hKs]
            rw [hLs] at hR
            have hfr5' : ∀ j, j < n2 → ob5 j = ob2 j := fun j hj => by rw [hfr5 j (by omega), hfr4' j hj]
            have ho5 : Own n2 ob5 outV 1 cells := own_fr hout (Nat.le_refl _) fun id g1 _ => hfr5' id g1
            have hb20 : ∀ ob i, opF (.bsl 1 [.z] [0] 1 true) [env5 20] ob i = some (.im .b [[env5 20]], []) := fun ob i => by
              obtain ⟨_, g1, _⟩ := hR
              rcases g1 with ⟨_, e⟩ | ⟨_, id, c, _, e, _⟩ <;> rw [e] <;> rfl
            have hRl : okRow 1 [env5 20] = true := by
              obtain ⟨_, g1, _⟩ := hR
              rcases g1 with ⟨_, e⟩ | ⟨_, id, c, _, e, _⟩ <;> rw [e] <;> rfl
            have hRlt : ∀ id len, env5 20 = .sl id 0 len → id < n5 := fun id len e => by
              obtain ⟨_, g1, _⟩ := hR
              rcases g1 with ⟨_, e2⟩ | ⟨_, id2, c, g2, e2, _⟩
              · rw [e2] at e; cases e
              · rw [e2] at e; injection e with e; omega
            simp +contextual (maxSteps := 1000000) only [go_sem, ints, intRows, reduceAdd, Nat.reduceBEq, reduceEqDiff, reduceLeDiff, Nat.reduceLT, reduceIte, reduceLE, Int.reduceLT, reduceEq, reduceNeg, reduceToNat, ops, vals, dots, d97, d98, d99, d15, d17, d115, d116, d117, hb20]
            refine nxS_any (xs := [[env5 20]]) ho5 (by omega) rfl (by simp [hRl]) (by show cells.length + 1 ≤ maxLen; rw [hcl]; unfold maxLen; omega) fun v' ob7 u2 u3 u4 => ?_
            simp +contextual (maxSteps := 1000000) only [go_sem, ints, intRows, reduceAdd, Nat.reduceBEq, reduceEqDiff, reduceLeDiff, Nat.reduceLT, reduceIte, reduceLE, Int.reduceLT, reduceEq, reduceNeg, reduceToNat, ops, vals, dots, d97, d98, d99, d15, d17, d115, d116, d117, w1]
            have hlt1 : ∀ {m : Nat} {obx : OB} {v : V} {r : List (List V)}, Own m obx v 1 r → ∀ id len, v = .sl id 0 len → id < m := fun ho id len e => by
              rcases ho with ⟨_, e2⟩ | ⟨_, id2, c, g2, e2, _⟩
              · rw [e2] at e; cases e
              · rw [e2] at e; injection e with e; omega
            refine ⟨⟨by omega, fun j hj => ?_, i + 1, _, rfl, by omega, u2.mono (by omega), by simp [hcl], fun t ht => ?_, fun id len e => ?_⟩, by omega⟩
            · rw [u3 j (by omega) (fun len e => by have := hoid _ _ e; omega), hfr5' j (by omega), hfr j hj]
            · by_cases hti : t < i
              · obtain ⟨sv, s1, s2, s3⟩ := hsv t hti
                refine ⟨sv, by rw [List.getElem?_append_left (by omega)]; exact s1, ?_, fun id len len' e e2 => ?_⟩
                · exact (s2.fr (Nat.le_refl _) hfr5').fr2 (by omega) fun j g1 g2 => u3 j (by omega) fun len e => by
                    rcases g2 with ⟨len', g2⟩ | ⟨r, c, g2⟩
                    · exact s3 _ _ _ g2 e
                    · exact ho5.e.ne g2 (by omega) e
                · obtain ⟨_, g1, _⟩ := s2
                  have := hlt1 g1 _ _ e
                  rcases u4 with rfl | ⟨_, rfl⟩
                  · exact s3 _ _ _ e e2
                  · injection e2; omega
              · have hti2 : t = i := by omega
                subst hti2
                refine ⟨env5 20, by rw [List.getElem?_append_right (by omega), hcl, Nat.sub_self]; rfl, ?_, fun id len len' e e2 => ?_⟩
                · rw [hTi]
                  exact hR.fr2 (by omega) fun j g1 g2 => u3 j (by omega) fun len e => by
                    rcases g2 with ⟨len', g2⟩ | ⟨r, c, g2⟩
                    · have := hRid _ _ g2
                      have := hlt1 ho5 _ _ e
                      omega
                    · exact ho5.e.ne g2 (by omega) e
                · have g1 := hRid _ _ e
                  have g3 := hRlt _ _ e
                  rcases u4 with rfl | ⟨_, rfl⟩
                  · have := hlt1 ho5 _ _ e2; omega
                  · injection e2; omega
            · rcases u4 with rfl | ⟨_, rfl⟩
              · exact hoid _ _ e
              · injection e; omega
        · rw [hrl] at hq
          obtain ⟨r1, r2⟩ : kv = .c (.string (gN T q).key) ∧ vv = .pt (mid i q) 0 0 := by
            have := rowsM_at T (mid i) hq
            rw [this] at hqr
            injection hqr with hqr
            injection hqr with a b
            injection b with b _
            exact ⟨a.symm, b.symm⟩
          subst r1; subst r2
          have he3 : ∀ nid, opF .ent [.mi I] (updO ob3 I (some ⟨0, itRows (maps i) (rowsM T (mid i)).length (told ++ [q]), none⟩)) nid = some (.tp [.c (.string (gN T q).key), .pt (mid i q) 0 0], []) := fun nid => ent_i (seen := told) (i := q) (rows := rowsM T (mid i)) (cap' := none) (updO_s _ _ _) (by rw [updO, if_neg (by omega)]; exact m1') (rowsM_at T (mid i) hq)
          simp +contextual (maxSteps := 1000000) only [go_sem, ints, intRows, reduceAdd, Nat.reduceBEq, reduceEqDiff, reduceLeDiff, Nat.reduceLT, reduceIte, reduceLE, Int.reduceLT, reduceEq, reduceNeg, reduceToNat, ops, vals, dots, wpC_bl, c97, c98, c99, c15, c17, c104, he3]
          have htn : (told ++ [q]).Nodup := by
            rw [List.nodup_append]
            exact ⟨ht1, by simp, fun a ha b hb e => by simp at hb; subst hb; subst e; exact hqn ha⟩
          have htl : ∀ a ∈ told ++ [q], a < T.length := fun a ha => by
            rcases List.mem_append.1 ha with ha | ha
            · exact ht2 a ha
            · rw [List.mem_singleton.1 ha]; exact hq
          have htlen := nodup_len T.length _ htn htl
          rw [List.length_append, List.length_singleton] at htlen
          have hks1 : Own n3 (updO ob3 I (some ⟨0, itRows (maps i) (rowsM T (mid i)).length (told ++ [q]), none⟩)) (env3 18) 1 ((told.map fun q => (gN T q).key).map strV) := own_up hks fun len e => (hkid _ _ e).2 rfl
          refine nxS_any (xs := [strV (gN T q).key]) hks1 (by omega) rfl rfl (by simp; unfold maxLen; omega) fun v' ob4 u2 u3 u4 => ?_
          simp +contextual (maxSteps := 1000000) only [go_sem, ints, intRows, reduceAdd, Nat.reduceBEq, reduceEqDiff, reduceLeDiff, Nat.reduceLT, reduceIte, reduceLE, Int.reduceLT, reduceEq, reduceNeg, reduceToNat, ops, vals, dots, wpC_bl, c97, c98, c99, c15, c17, c104]
          have hit4 : ob4 I = some ⟨0, itRows (maps i) T.length (told ++ [q]), none⟩ := by
            rw [u3 I (by omega) fun len e => (hkid _ _ e).2 rfl, updO_s, hrl]
          rw [hit4, hit]
          refine ⟨⟨by omega, fun j hj => ?_, told ++ [q], htn, htl, rfl, ?_, fun id len e => ?_⟩, ?_⟩
          · rw [u3 j (by omega) fun len e => by have := (hkid _ _ e).1; omega, updO, if_neg (by omega), hfr3 j hj]
          · have u2' := u2.mono (n' := n3 + 1 + 1 + 1 + 1 + 1 + 1 + 1 + 1 + 1) (by omega)
            rw [List.map_map] at u2'
            rw [List.map_append]; exact u2'
          · rcases u4 with rfl | ⟨len', rfl⟩
            · exact hkid _ _ e
            · injection e; omega
          · simp; omega
      · obtain rfl : i = f.length := by simp only [decide_eq_false_iff_not] at hge; omega
        obtain ⟨o, c, ho2, e15, hoo⟩ : ∃ o c, o < n2 ∧ env 15 = .sl o 0 cells.length ∧ ob2 o = some ⟨1, cells, c⟩ := by
          rcases hout with ⟨h3, _⟩ | ⟨_, o, c, h4, h5, h6⟩
          · rw [h3] at hcl; simp at hcl; omega
          · exact ⟨o, c, h4, h5, h6⟩
        rw [e15]
        have hro : rowsOf ob2 (.sl o 0 cells.length) = some cells := by
          simp only [rowsOf, hoo, Option.bind_some]
          rw [if_pos (by omega)]; simp
        have hcz : ¬ cells.length = 0 := by omega
        simp only [outL, hro, hcz, if_false, retV, List.map_cons, List.map_nil]
        congr 2
        · congr 1
          refine List.ext_getElem (by simp [hcl]) fun t t1 t2 => ?_
          simp only [List.getElem_map, List.getElem_range]
          obtain ⟨sv, s1, s2, s3⟩ := hsv t (by simpa using t2)
          have : cells[t]'(by simpa using t1) = [sv] := by
            rw [List.getElem?_eq_getElem (by simpa using t1)] at s1; exact Option.some.inj s1
          rw [this, List.map_cons, List.map_nil]
          have hk := gOwnR (s2.fr2 (ob' := kill ob2 o) (Nat.le_refl _) fun j g1 g2 => by
            have : j ≠ o := fun e => by
              subst e
              rcases g2 with ⟨len', g2⟩ | ⟨r, c', g2⟩
              · exact s3 _ _ _ g2 e15
              · rw [hoo] at g2; cases g2
            simp [kill, this]) 3
          rw [hk]; rfl
theorem AMade_ok {fl fm : Fl} (n : Int) (f : List (List Int)) (l : List Opx) (hl : l.length ≤ 200) (hx : ∀ x ∈ l, OkO x ∧ x.dots.length ≤ 100) :
    FnB Tryz.prog 13 [vi n, tbs fl f, ops fm l] (.tp [.im .o ((madeT n f l).map fun rows => [.im .b (rows.map fun r => [vals .b r])]), vi (madeE n f l)]) := FnB_weak (AMadeN_ok n f l hl hx) ⟨.r _, .r _, ops_toN fm l, trivial⟩
end Go.Proofs.YtbojpedklnmidaaGreat.D
end
section
set_option linter.unusedVariables false
set_option linter.unusedSimpArgs false
set_option linter.constructorNameAsVariable false
set_option maxRecDepth 100000

/- Tables that came about by operations. No condition. -/
namespace Go.Proofs.YtbojpedklnmidaaGreat.D
open Go Go.Proofs
open Nat (reduceAdd reduceEqDiff reduceLeDiff)
open Int (reduceLE reduceEq reduceNeg reduceToNat)
end Go.Proofs.YtbojpedklnmidaaGreat.D
end
section
set_option linter.unusedVariables false
set_option linter.unusedSimpArgs false
set_option linter.constructorNameAsVariable false
set_option maxRecDepth 100000

/- Tables that came about by operations: the walk. No condition. -/
namespace Go.Proofs.YtbojpedklnmidaaGreat.D
open Go Go.Proofs
open Nat (reduceAdd reduceEqDiff reduceLeDiff)
open Int (reduceLE reduceEq reduceNeg reduceToNat)
def livS (cols : List Int) (s : Option (List Rwx)) (x : Opx) : Option (List Rwx) := if (applyT cols (s.getD []) (oz x)).2.2.2 = 0 then some (applyT cols (s.getD []) (oz x)).1 else s
def ovO : Option (List Rwx) → V
  | none => rws .o []
  | some l => rws .b l
@[go_sem] theorem frz_ovO (s : Option (List Rwx)) : frz1 (ovO s) = rws .b (s.getD []) := by cases s <;> rfl
@[go_sem] theorem res_rwsb (ob : OB) (l : List Rwx) : resV ob 6 (rws .b l) = rws .b l := RZ.res (.inl rfl) ob 2
@[go_sem] theorem frz1_rws (f : Fl) (l : List Rwx) : frz1 (rws .o l) = rws .b l := rfl
@[go_sem] theorem frz1_rwsb (f : Fl) (l : List Rwx) : frz1 (rws .b l) = rws .b l := rfl
def LivI (cols : List Int) (i : Nat) (s : Option (List Rwx)) : Prop := (formE cols ≠ 0 → s = none) ∧ (formE cols = 0 → ∃ D, D.length ≤ i ∧ ThI cols D (s.getD []))
theorem LivI.step {cols : List Int} {i : Nat} {s : Option (List Rwx)} (h : LivI cols i s) (x : Opx) : LivI cols (i + 1) (livS cols s x) := by
  refine ⟨fun hf => ?_, fun hf => ?_⟩
  · have hs := h.1 hf
    subst hs
    unfold livS
    have : (applyT cols (Option.getD none []) (oz x)).2.2.2 = 10 := by
      have hk : checkT cols [] = 10 := by rw [checkT, if_pos hf]
      show (applyT cols [] (oz x)).2.2.2 = 10
      rw [applyT, if_pos (by rw [hk]; decide)]
      exact hk
    rw [if_neg (by rw [this]; decide)]
  · obtain ⟨D, hD, hT⟩ := h.2 hf
    unfold livS
    rcases apply_code hT.chk (x := oz x) with ⟨q1, q2⟩ | ⟨q1, q2⟩
    · rw [if_pos q2]
      exact ⟨D ++ [x], by simp; omega, hT.step q1⟩
    · rw [q2, if_neg (by decide)]
      exact ⟨D, by omega, hT⟩
end Go.Proofs.YtbojpedklnmidaaGreat.D
end
section
set_option linter.unusedVariables false
set_option linter.unusedSimpArgs false
set_option linter.constructorNameAsVariable false
set_option maxRecDepth 100000

/- What tables are, row by row. No condition. -/
namespace Go.Proofs.YtbojpedklnmidaaGreat.D
open Go Go.Proofs
open Nat (reduceAdd reduceEqDiff reduceLeDiff)
open Int (reduceLE reduceEq reduceNeg reduceToNat)
theorem pw_ext {α : Type} {lt : α → α → Bool} (irr : ∀ a, lt a a = false) (tr : ∀ a b c, lt a b = true → lt b c = true → lt a c = true) : ∀ {l m : List α}, l.Pairwise (fun a b => lt a b = true) → m.Pairwise (fun a b => lt a b = true) → (∀ a, a ∈ l ↔ a ∈ m) → l = m
  | [], [], _, _, _ => rfl
  | [], b :: m, _, _, h => by have := (h b).2 (List.mem_cons_self ..); cases this
  | a :: l, [], _, _, h => by have := (h a).1 (List.mem_cons_self ..); cases this
  | a :: l, b :: m, hl, hm, h => by
    obtain ⟨l1, l2⟩ := List.pairwise_cons.1 hl
    obtain ⟨m1, m2⟩ := List.pairwise_cons.1 hm
    have hab : a = b := by
      rcases List.mem_cons.1 ((h a).1 (List.mem_cons_self ..)) with e | e
      · exact e
      · rcases List.mem_cons.1 ((h b).2 (List.mem_cons_self ..)) with e2 | e2
        · exact e2.symm
        · have := tr _ _ _ (l1 _ e2) (m1 _ e)
          rw [irr] at this; cases this
    subst hab
    rw [pw_ext irr tr l2 m2 fun c => ⟨fun hc => ?_, fun hc => ?_⟩]
    · rcases List.mem_cons.1 ((h c).1 (List.mem_cons_of_mem _ hc)) with e | e
      · subst e; have := l1 _ hc; rw [irr] at this; cases this
      · exact e
    · rcases List.mem_cons.1 ((h c).2 (List.mem_cons_of_mem _ hc)) with e | e
      · subst e; have := m1 _ hc; rw [irr] at this; cases this
      · exact e
end Go.Proofs.YtbojpedklnmidaaGreat.D
end
section
set_option linter.unusedVariables false
set_option linter.unusedSimpArgs false
set_option linter.constructorNameAsVariable false
set_option maxRecDepth 100000

/- Two operations may be applied in either order: plain law. No condition. -/
namespace Go.Proofs.YtbojpedklnmidaaGreat.D
open Go Go.Proofs
open Nat (reduceAdd reduceEqDiff reduceLeDiff)
open Int (reduceLE reduceEq reduceNeg reduceToNat)
instance ltTd (a b : St3) : Decidable (ltT a b) := by unfold ltT; infer_instance
theorem op_name {cols : List Int} {x : Opz} (ho : opE cols (tab0 x) = 0) : nameB x.dot = true ∧ okS x.st = true := by
  obtain ⟨n, hn, o⟩ := opR ho
  exact whole_name o.whole hn
end Go.Proofs.YtbojpedklnmidaaGreat.D
end
section
set_option linter.unusedVariables false
set_option linter.unusedSimpArgs false
set_option linter.constructorNameAsVariable false
set_option maxRecDepth 100000

/- Which forms are not played. No condition. -/
namespace Go.Proofs.YtbojpedklnmidaaGreat.D
open Go Go.Proofs
open Nat (reduceAdd reduceEqDiff reduceLeDiff)
open Int (reduceLE reduceEq reduceNeg reduceToNat)
def heavyF (f : List (List Int)) : Bool := decide (30 < (f.length : Int)) || f.any fun c => decide (30 < (c.length : Int))
theorem HeavyForms_ok {fl : Fl} (f : List (List Int)) : FnB Tryz.prog 5 [tbs fl f] (vb (heavyF f)) := by
  refine fnB_intro cf5 (by simp) ?_
  simp +contextual (maxSteps := 1000000) only [go_sem, ints, intRows, reduceAdd, Nat.reduceBEq, reduceEqDiff, reduceLeDiff, Nat.reduceLT, reduceIte, reduceLE, Int.reduceLT, reduceEq, reduceNeg, reduceToNat, ops, vals, dots, c5, tbs]
  refine ⟨fun hb => ?_, fun hb => ?_⟩
  · unfold heavyF; rw [hb, Bool.true_or]
  have hl : f.length ≤ 30 := by have := of_decide_eq_false hb; omega
  refine wpC_lp (fun env ob n => env 0 = tbs fl f ∧ ∃ i : Nat, env 3 = vi i ∧ i ≤ f.length ∧ ∀ c ∈ f.take i, decide (30 < (c.length : Int)) = false) (fun env ob n => (f.length - iv (env 3)).toNat) ?_ ?_
  · simp +contextual (maxSteps := 1000000) only [go_sem, ints, intRows, reduceAdd, Nat.reduceBEq, reduceEqDiff, reduceLeDiff, Nat.reduceLT, reduceIte, reduceLE, Int.reduceLT, reduceEq, reduceNeg, reduceToNat, ops, vals, dots, tbs]
    exact ⟨0, rfl, by omega, fun c hc => by simp at hc⟩
  rintro env ob n ⟨h0, i, h2, hi, he⟩
  have w1 : IntKind.i64.wrap ((i : Int) + 1) = ((i + 1 : Nat) : Int) := by rw [w64 (by omega)]; omega
  simp +contextual (maxSteps := 1000000) only [go_sem, ints, intRows, reduceAdd, Nat.reduceBEq, reduceEqDiff, reduceLeDiff, Nat.reduceLT, reduceIte, reduceLE, Int.reduceLT, reduceEq, reduceNeg, reduceToNat, ops, vals, dots, h0, h2, tbs, w1]
  refine ⟨fun hlt => ?_, fun hge => ?_⟩
  · simp only [decide_eq_true_eq] at hlt
    repeat (refine And.intro (by omega) ?_)
    refine ⟨fun hc => ?_, fun hc => ⟨⟨i + 1, rfl, by omega, fun c hcm => ?_⟩, by omega⟩⟩
    · have : f.any (fun c => decide (30 < (c.length : Int))) = true := List.any_eq_true.2 ⟨_, gN_mem (show i < f.length by omega), hc⟩
      unfold heavyF; rw [this, Bool.or_true]
    · rw [take_gN (by omega), List.mem_append, List.mem_singleton] at hcm
      rcases hcm with hcm | rfl
      · exact he c hcm
      · exact hc
  · simp only [decide_eq_false_iff_not] at hge
    rw [List.take_of_length_le (by omega)] at he
    unfold heavyF
    rw [hb, List.any_eq_false.2 (fun c hc => by rw [he c hc]; simp)]
    rfl
theorem RForms_ok {fl : Fl} (f : List (List Int)) (hfl : f.length ≤ 1000) (hcl : ∀ c ∈ f, c.length ≤ 1000) : FnB Tryz.prog 7 [tbs fl f] (vi (formsG f)) := by
  refine fnB_intro cf7 (by simp) ?_
  simp +contextual (maxSteps := 1000000) only [go_sem, ints, intRows, reduceAdd, Nat.reduceBEq, reduceEqDiff, reduceLeDiff, Nat.reduceLT, reduceIte, reduceLE, Int.reduceLT, reduceEq, reduceNeg, reduceToNat, ops, vals, dots, c7, tbs]
  first | refine caS_i (inRef_ok (f.length : Int) 1 3) trivial ?_ | refine caD_i (inRef_ok (f.length : Int) 1 3) trivial ?_ | refine gC_i (fun _ => inRef_ok (f.length : Int) 1 3) trivial ?_ | refine gCD_i (fun _ => inRef_ok (f.length : Int) 1 3) trivial ?_ | refine caE_i (inRef_ok (f.length : Int) 1 3) trivial ?_
  simp +contextual (maxSteps := 1000000) only [go_sem, ints, intRows, reduceAdd, Nat.reduceBEq, reduceEqDiff, reduceLeDiff, Nat.reduceLT, reduceIte, reduceLE, Int.reduceLT, reduceEq, reduceNeg, reduceToNat, ops, vals, dots, tbs]
  refine ⟨fun hb => ?_, fun hb => ?_⟩
  · have : formsG f = 2 := by unfold formsG; rw [if_pos (by have := of_decide_eq_false hb; omega)]
    rw [this]
  have hfl2 : 1 ≤ f.length ∧ f.length ≤ 3 := by simp at hb; omega
  have hfn : ¬ ((f.length : Int) < 1 ∨ 3 < (f.length : Int)) := by omega
  refine wpC_lp (fun env ob n => env 0 = tbs fl f ∧ ∃ i : Nat, env 3 = vi i ∧ i ≤ f.length ∧ ∀ c ∈ f.take i, badN c = false) (fun env ob n => (f.length - iv (env 3)).toNat) ?_ ?_
  · simp +contextual (maxSteps := 1000000) only [go_sem, ints, intRows, reduceAdd, Nat.reduceBEq, reduceEqDiff, reduceLeDiff, Nat.reduceLT, reduceIte, reduceLE, Int.reduceLT, reduceEq, reduceNeg, reduceToNat, ops, vals, dots, tbs]
    exact ⟨0, rfl, by omega, fun c hc => by simp at hc⟩
  rintro env ob n ⟨h0, i, h3, hi, he⟩
  have w1 : IntKind.i64.wrap ((i : Int) + 1) = ((i + 1 : Nat) : Int) := by rw [w64 (by omega)]; omega
  simp +contextual (maxSteps := 1000000) only [go_sem, ints, intRows, reduceAdd, Nat.reduceBEq, reduceEqDiff, reduceLeDiff, Nat.reduceLT, reduceIte, reduceLE, Int.reduceLT, reduceEq, reduceNeg, reduceToNat, ops, vals, dots, h0, h3, tbs, w1]
  refine ⟨fun hlt => ?_, fun hge => ?_⟩
  · simp only [decide_eq_true_eq] at hlt
    refine ⟨by omega, ?_⟩
    first | refine caS_i (inRef_ok ((gN f i).length : Int) 1 4) trivial ?_ | refine caD_i (inRef_ok ((gN f i).length : Int) 1 4) trivial ?_ | refine gC_i (fun _ => inRef_ok ((gN f i).length : Int) 1 4) trivial ?_ | refine gCD_i (fun _ => inRef_ok ((gN f i).length : Int) 1 4) trivial ?_ | refine caE_i (inRef_ok ((gN f i).length : Int) 1 4) trivial ?_
    simp +contextual (maxSteps := 1000000) only [go_sem, ints, intRows, reduceAdd, Nat.reduceBEq, reduceEqDiff, reduceLeDiff, Nat.reduceLT, reduceIte, reduceLE, Int.reduceLT, reduceEq, reduceNeg, reduceToNat, ops, vals, dots, h0, h3, tbs, w1]
    refine ⟨fun hc => ?_, fun hc => ⟨⟨i + 1, rfl, by omega, fun c hcm => ?_⟩, by omega⟩⟩
    · have h9 := of_decide_eq_false hc
      have : f.any badN = true := List.any_eq_true.2 ⟨_, gN_mem (show i < f.length by omega), by unfold badN; simp; omega⟩
      have e : formsG f = 2 := by unfold formsG; rw [if_neg hfn, if_pos this]
      rw [e]
    · rw [take_gN (by omega), List.mem_append, List.mem_singleton] at hcm
      rcases hcm with hcm | rfl
      · exact he c hcm
      · simp at hc; unfold badN; simp; omega
  simp only [decide_eq_false_iff_not] at hge
  rw [List.take_of_length_le (by omega)] at he
  have hbn : f.any badN = false := List.any_eq_false.2 fun c hc => by rw [he c hc]; simp
  clear w1 h3
  refine wpC_lp (fun env ob n => env 0 = tbs fl f ∧ ∃ i : Nat, env 4 = vi i ∧ i ≤ f.length ∧ ∀ c ∈ f.take i, c.any badC = false) (fun env ob n => (f.length - iv (env 4)).toNat) ?_ ?_
  · simp +contextual (maxSteps := 1000000) only [go_sem, ints, intRows, reduceAdd, Nat.reduceBEq, reduceEqDiff, reduceLeDiff, Nat.reduceLT, reduceIte, reduceLE, Int.reduceLT, reduceEq, reduceNeg, reduceToNat, ops, vals, dots, h0, tbs]
    exact ⟨0, rfl, by omega, fun c hc => by simp at hc⟩
  clear h0 hi hge env i
  rintro env ob n ⟨h0, i, h4, hi, he2⟩
  have w1 : IntKind.i64.wrap ((i : Int) + 1) = ((i + 1 : Nat) : Int) := by rw [w64 (by omega)]; omega
  simp +contextual (maxSteps := 1000000) only [go_sem, ints, intRows, reduceAdd, Nat.reduceBEq, reduceEqDiff, reduceLeDiff, Nat.reduceLT, reduceIte, reduceLE, Int.reduceLT, reduceEq, reduceNeg, reduceToNat, ops, vals, dots, h0, h4, tbs, w1]
  refine ⟨fun hlt => ?_, fun hge => ?_⟩
  · simp only [decide_eq_true_eq] at hlt
    have hci := hcl _ (gN_mem (show i < f.length by omega))
    refine wpC_lp (fun env ob n => env 0 = tbs fl f ∧ env 4 = vi i ∧ ∃ k : Nat, env 5 = vi k ∧ k ≤ (gN f i).length ∧ ∀ j, j < k → badC (gN (gN f i) j) = false) (fun env ob n => ((gN f i).length - iv (env 5)).toNat) ?_ ?_
    · simp +contextual (maxSteps := 1000000) only [go_sem, ints, intRows, reduceAdd, Nat.reduceBEq, reduceEqDiff, reduceLeDiff, Nat.reduceLT, reduceIte, reduceLE, Int.reduceLT, reduceEq, reduceNeg, reduceToNat, ops, vals, dots, tbs, h0, h4]
      exact ⟨0, rfl, Nat.zero_le _, fun j hj => by omega⟩
    clear h0 h4 env
    rintro env ob'' n'' ⟨h0, h4, k, h5, hk, hj⟩
    simp +contextual (maxSteps := 1000000) only [go_sem, ints, intRows, reduceAdd, Nat.reduceBEq, reduceEqDiff, reduceLeDiff, Nat.reduceLT, reduceIte, reduceLE, Int.reduceLT, reduceEq, reduceNeg, reduceToNat, ops, vals, dots, h0, h4, h5, tbs]
    have w2 : IntKind.i64.wrap ((k : Int) + 1) = ((k + 1 : Nat) : Int) := by rw [w64 (by omega)]; omega
    refine ⟨by omega, fun hltk => ?_, fun hgek => ?_⟩
    · simp only [decide_eq_true_eq] at hltk
      refine ⟨by omega, by omega, ?_⟩
      first | refine caS_i (TypeR_ok (gN (gN f i) k)) trivial ?_ | refine caD_i (TypeR_ok (gN (gN f i) k)) trivial ?_ | refine gC_i (fun _ => TypeR_ok (gN (gN f i) k)) trivial ?_ | refine gCD_i (fun _ => TypeR_ok (gN (gN f i) k)) trivial ?_ | refine caE_i (TypeR_ok (gN (gN f i) k)) trivial ?_
      simp +contextual (maxSteps := 1000000) only [go_sem, ints, intRows, reduceAdd, Nat.reduceBEq, reduceEqDiff, reduceLeDiff, Nat.reduceLT, reduceIte, reduceLE, Int.reduceLT, reduceEq, reduceNeg, reduceToNat, ops, vals, dots, h0, h4, h5, tbs, w2]
      refine ⟨fun hc => ?_, fun hc => ⟨⟨k + 1, rfl, by omega, fun j hj2 => ?_⟩, by omega⟩⟩
      · have h9 := of_decide_eq_false hc
        have h8 : (gN f i).any badC = true := List.any_eq_true.2 ⟨gN (gN f i) k, gN_mem (by omega), by unfold badC; simp; omega⟩
        have : f.any (fun c => c.any badC) = true := List.any_eq_true.2 ⟨_, gN_mem (show i < f.length by omega), h8⟩
        have e : formsG f = 10 := by unfold formsG; rw [if_neg hfn, if_neg (by rw [hbn]; simp), if_pos this]
        rw [e]
      · by_cases hjk : j = k
        · subst hjk; simp at hc; unfold badC; simp; omega
        · exact hj j (by omega)
    · simp only [decide_eq_false_iff_not] at hgek
      simp +contextual (maxSteps := 1000000) only [go_sem, ints, intRows, reduceAdd, Nat.reduceBEq, reduceEqDiff, reduceLeDiff, Nat.reduceLT, reduceIte, reduceLE, Int.reduceLT, reduceEq, reduceNeg, reduceToNat, ops, vals, dots, h0, h4, h5, tbs, w1]
      refine ⟨⟨i + 1, rfl, by omega, fun c hcm => ?_⟩, by omega⟩
      rw [take_gN (by omega), List.mem_append, List.mem_singleton] at hcm
      rcases hcm with hcm | rfl
      · exact he2 c hcm
      · exact any_no fun j hj2 => hj j (by omega)
  · simp only [decide_eq_false_iff_not] at hge
    rw [List.take_of_length_le (by omega)] at he2
    have : formsG f = 0 := by unfold formsG; rw [if_neg hfn, if_neg (by rw [hbn]; simp), if_neg (by rw [List.any_eq_false.2 (fun c hc => by rw [he2 c hc]; simp)]; simp)]
    rw [this]
end Go.Proofs.YtbojpedklnmidaaGreat.D
end
section
set_option linter.unusedVariables false
set_option linter.unusedSimpArgs false
set_option linter.constructorNameAsVariable false
set_option maxRecDepth 100000

/- Whether an operation may be: the statements' guard. No condition. -/
namespace Go.Proofs.YtbojpedklnmidaaGreat.D
open Go Go.Proofs
open Nat (reduceAdd reduceEqDiff reduceLeDiff)
open Int (reduceLE reduceEq reduceNeg reduceToNat)
theorem LCheck_ok (n : Int) (f : List (List Int)) (x : Opx) (hfl : f.length ≤ 1000) (hcl : ∀ c ∈ f, c.length ≤ 1000) (hv : x.vals.length ≤ maxLen) (hd : x.dots.length ≤ maxLen) : FnB Tryz.prog 8 [vi n, tbs .b f, .ag (opV x)] (vi (checkG n f x)) := by
  refine fnB_intro cf8 (by simp) ?_
  simp +contextual (maxSteps := 1000000) only [go_sem, ints, intRows, reduceAdd, Nat.reduceBEq, reduceEqDiff, reduceLeDiff, Nat.reduceLT, reduceIte, reduceLE, Int.reduceLT, reduceEq, reduceNeg, reduceToNat, ops, vals, dots, c8, tbs]
  first | refine caS_i (RForms_ok (fl := .b) f hfl hcl) trivial ?_ | refine caD_i (RForms_ok (fl := .b) f hfl hcl) trivial ?_ | refine gC_i (fun _ => RForms_ok (fl := .b) f hfl hcl) trivial ?_ | refine gCD_i (fun _ => RForms_ok (fl := .b) f hfl hcl) trivial ?_ | refine caE_i (RForms_ok (fl := .b) f hfl hcl) trivial ?_
  simp +contextual (maxSteps := 1000000) only [go_sem, ints, intRows, reduceAdd, Nat.reduceBEq, reduceEqDiff, reduceLeDiff, Nat.reduceLT, reduceIte, reduceLE, Int.reduceLT, reduceEq, reduceNeg, reduceToNat, ops, vals, dots, tbs]
  refine ⟨fun h => ?_, fun h => ?_⟩
  · rw [checkG, if_pos (by simpa using h)]
  have hf : formsG f = 0 := by simpa using h
  obtain ⟨⟨g1, g2⟩, g3⟩ := formsG_cols hf
  by_cases hn : 1 ≤ n ∧ n ≤ 5
  · first | refine caS_i (ROp_ok n f x hn ⟨g1, by unfold maxLen; omega⟩ (fun c hc => (g3 c hc).2) hv hd) trivial ?_ | refine caD_i (ROp_ok n f x hn ⟨g1, by unfold maxLen; omega⟩ (fun c hc => (g3 c hc).2) hv hd) trivial ?_ | refine gC_i (fun _ => ROp_ok n f x hn ⟨g1, by unfold maxLen; omega⟩ (fun c hc => (g3 c hc).2) hv hd) trivial ?_ | refine gCD_i (fun _ => ROp_ok n f x hn ⟨g1, by unfold maxLen; omega⟩ (fun c hc => (g3 c hc).2) hv hd) trivial ?_ | refine caE_i (ROp_ok n f x hn ⟨g1, by unfold maxLen; omega⟩ (fun c hc => (g3 c hc).2) hv hd) trivial ?_
    simp +contextual (maxSteps := 1000000) only [go_sem, ints, intRows, reduceAdd, Nat.reduceBEq, reduceEqDiff, reduceLeDiff, Nat.reduceLT, reduceIte, reduceLE, Int.reduceLT, reduceEq, reduceNeg, reduceToNat, ops, vals, dots]
    refine ⟨fun hb => ?_, fun hb => ?_⟩
    · have : rightX n f x = false := by
        cases hr : rightX n f x with
        | false => rfl
        | true => rw [hr] at hb; simp at hb; omega
      rw [checkG, if_neg (by simpa using hf), if_pos (.inr (.inr this))]
    · have : rightX n f x = true := by
        cases hr : rightX n f x with
        | true => rfl
        | false => rw [hr] at hb; simp at hb
      rw [checkG, if_neg (by simpa using hf), if_neg (by rw [this]; rintro (h | h | h); · omega
                                                         · omega
                                                         · cases h)]
  · have hb : (decide (n < 1) || decide (5 < n)) = true := by simp; omega
    refine gC_i (q := vb true) (fun h => absurd h (by rw [hb]; simp)) trivial ?_
    simp +contextual (maxSteps := 1000000) only [go_sem, ints, intRows, reduceAdd, Nat.reduceBEq, reduceEqDiff, reduceLeDiff, Nat.reduceLT, reduceIte, reduceLE, Int.reduceLT, reduceEq, reduceNeg, reduceToNat, ops, vals, dots, hb]
    rw [checkG, if_neg (by simpa using hf), if_pos (by omega)]
end Go.Proofs.YtbojpedklnmidaaGreat.D
end
section
set_option linter.unusedVariables false
set_option linter.unusedSimpArgs false
set_option linter.constructorNameAsVariable false
set_option maxRecDepth 100000

/- Comparing tables. No condition. -/
namespace Go.Proofs.YtbojpedklnmidaaGreat.D
open Go Go.Proofs
open Nat (reduceAdd reduceEqDiff reduceLeDiff)
open Int (reduceLE reduceEq reduceNeg reduceToNat)
theorem KRows_ok {fl fm : Fl} (a b : List (List Vl)) (ha : a.length ≤ maxLen) (hs : ∀ r ∈ a, r.length ≤ maxLen) : FnB Tryz.prog 17 [valRows fl a, valRows fm b] (vb (sameL (sameL eqV) a b)) := by
  unfold maxLen at ha
  refine fnB_intro cf17 (by simp) ?_
  simp +contextual (maxSteps := 1000000) only [go_sem, ints, intRows, reduceAdd, Nat.reduceBEq, reduceEqDiff, reduceLeDiff, Nat.reduceLT, reduceIte, reduceLE, Int.reduceLT, reduceEq, reduceNeg, reduceToNat, ops, vals, dots, c17, valRows]
  refine ⟨fun h => ?_, fun h => ?_⟩
  · simp at h; rw [sameL_no (by omega)]
  simp at h
  have hab : a.length = b.length := by omega
  refine wpC_lp (fun env ob n => env 0 = valRows fl a ∧ env 1 = valRows fm b ∧ ∃ i : Nat, env 5 = vi i ∧ i ≤ a.length ∧ ∀ j, j < i → sameL eqV (gN a j) (gN b j) = true) (fun env ob n => (a.length - iv (env 5)).toNat) ?_ ?_
  · simp +contextual (maxSteps := 1000000) only [go_sem, ints, intRows, reduceAdd, Nat.reduceBEq, reduceEqDiff, reduceLeDiff, Nat.reduceLT, reduceIte, reduceLE, Int.reduceLT, reduceEq, reduceNeg, reduceToNat, ops, vals, dots, valRows]
    exact ⟨0, rfl, by omega, fun j hj => by omega⟩
  rintro env ob n ⟨h0, h1, i, h5, hi, he⟩
  simp +contextual (maxSteps := 1000000) only [go_sem, ints, intRows, reduceAdd, Nat.reduceBEq, reduceEqDiff, reduceLeDiff, Nat.reduceLT, reduceIte, reduceLE, Int.reduceLT, reduceEq, reduceNeg, reduceToNat, ops, vals, dots, h0, h1, h5, valRows, List.length_map]
  refine ⟨fun hlt => ?_, fun hge => ?_⟩
  · simp at hlt
    repeat (refine And.intro (by omega) ?_)
    first | refine caS_i (KRow_ok (fl := .b) (fm := .b) (gN a i) (gN b i) (hs _ (gN_mem hlt))) trivial ?_ | refine caD_i (KRow_ok (fl := .b) (fm := .b) (gN a i) (gN b i) (hs _ (gN_mem hlt))) trivial ?_ | refine gC_i (fun _ => KRow_ok (fl := .b) (fm := .b) (gN a i) (gN b i) (hs _ (gN_mem hlt))) trivial ?_ | refine gCD_i (fun _ => KRow_ok (fl := .b) (fm := .b) (gN a i) (gN b i) (hs _ (gN_mem hlt))) trivial ?_ | refine caE_i (KRow_ok (fl := .b) (fm := .b) (gN a i) (gN b i) (hs _ (gN_mem hlt))) trivial ?_
    simp +contextual (maxSteps := 1000000) only [go_sem, ints, intRows, reduceAdd, Nat.reduceBEq, reduceEqDiff, reduceLeDiff, Nat.reduceLT, reduceIte, reduceLE, Int.reduceLT, reduceEq, reduceNeg, reduceToNat, ops, vals, dots, h0, h1, h5, valRows]
    refine ⟨fun hn => ?_, fun hy => ⟨⟨i + 1, ?_, by omega, fun j hj => ?_⟩, ?_⟩⟩
    · rw [sameL_bad hlt (by simpa using hn)]
    · rw [w64 (by omega)]; simp
    · by_cases hji : j = i
      · subst hji; simpa using hy
      · exact he j (by omega)
    · rw [w64 (by omega)]; omega
  · simp at hge
    have : sameL (sameL eqV) a b = true := sameL_iff.2 ⟨hab, fun j hj => he j (by omega)⟩
    rw [this]
end Go.Proofs.YtbojpedklnmidaaGreat.D
end
section
set_option linter.unusedVariables false
set_option linter.unusedSimpArgs false
set_option linter.constructorNameAsVariable false
set_option maxRecDepth 100000

/- Comparing what is seen of several tables. No condition. -/
namespace Go.Proofs.YtbojpedklnmidaaGreat.D
open Go Go.Proofs
open Nat (reduceAdd reduceEqDiff reduceLeDiff)
open Int (reduceLE reduceEq reduceNeg reduceToNat)
def valTabs (f : Fl) (l : List (List (List Vl))) : V := .im f (l.map fun x => [valRows .b x])
theorem KTables_ok {fl fm : Fl} (a b : List (List (List Vl))) (ha : a.length ≤ maxLen) (hs : ∀ t ∈ a, t.length ≤ maxLen ∧ ∀ r ∈ t, r.length ≤ maxLen) : FnB Tryz.prog 28 [valTabs fl a, valTabs fm b] (vb (sameL (sameL (sameL eqV)) a b)) := by
  unfold maxLen at ha
  refine fnB_intro cf28 (by simp) ?_
  simp +contextual (maxSteps := 1000000) only [go_sem, ints, intRows, reduceAdd, Nat.reduceBEq, reduceEqDiff, reduceLeDiff, Nat.reduceLT, reduceIte, reduceLE, Int.reduceLT, reduceEq, reduceNeg, reduceToNat, ops, vals, dots, c28, valTabs, valRows]
  refine ⟨fun h => ?_, fun h => ?_⟩
  · simp at h; rw [sameL_no (by omega)]
  simp at h
  have hab : a.length = b.length := by omega
  refine wpC_lp (fun env ob n => env 0 = valTabs fl a ∧ env 1 = valTabs fm b ∧ ∃ i : Nat, env 5 = vi i ∧ i ≤ a.length ∧ ∀ j, j < i → sameL (sameL eqV) (gN a j) (gN b j) = true) (fun env ob n => (a.length - iv (env 5)).toNat) ?_ ?_
  · simp +contextual (maxSteps := 1000000) only [go_sem, ints, intRows, reduceAdd, Nat.reduceBEq, reduceEqDiff, reduceLeDiff, Nat.reduceLT, reduceIte, reduceLE, Int.reduceLT, reduceEq, reduceNeg, reduceToNat, ops, vals, dots, valTabs, valRows]
    exact ⟨0, rfl, by omega, fun j hj => by omega⟩
  rintro env ob n ⟨h0, h1, i, h5, hi, he⟩
  simp +contextual (maxSteps := 1000000) only [go_sem, ints, intRows, reduceAdd, Nat.reduceBEq, reduceEqDiff, reduceLeDiff, Nat.reduceLT, reduceIte, reduceLE, Int.reduceLT, reduceEq, reduceNeg, reduceToNat, ops, vals, dots, h0, h1, h5, valTabs, valRows, List.length_map]
  refine ⟨fun hlt => ?_, fun hge => ?_⟩
  · simp at hlt
    repeat (refine And.intro (by omega) ?_)
    first | refine caS_i (KRows_ok (fl := .b) (fm := .b) (gN a i) (gN b i) (hs _ (gN_mem hlt)).1 (hs _ (gN_mem hlt)).2) trivial ?_ | refine caD_i (KRows_ok (fl := .b) (fm := .b) (gN a i) (gN b i) (hs _ (gN_mem hlt)).1 (hs _ (gN_mem hlt)).2) trivial ?_ | refine gC_i (fun _ => KRows_ok (fl := .b) (fm := .b) (gN a i) (gN b i) (hs _ (gN_mem hlt)).1 (hs _ (gN_mem hlt)).2) trivial ?_ | refine gCD_i (fun _ => KRows_ok (fl := .b) (fm := .b) (gN a i) (gN b i) (hs _ (gN_mem hlt)).1 (hs _ (gN_mem hlt)).2) trivial ?_ | refine caE_i (KRows_ok (fl := .b) (fm := .b) (gN a i) (gN b i) (hs _ (gN_mem hlt)).1 (hs _ (gN_mem hlt)).2) trivial ?_
    simp +contextual (maxSteps := 1000000) only [go_sem, ints, intRows, reduceAdd, Nat.reduceBEq, reduceEqDiff, reduceLeDiff, Nat.reduceLT, reduceIte, reduceLE, Int.reduceLT, reduceEq, reduceNeg, reduceToNat, ops, vals, dots, h0, h1, h5, valTabs, valRows]
    refine ⟨fun hn => ?_, fun hy => ⟨⟨i + 1, ?_, by omega, fun j hj => ?_⟩, ?_⟩⟩
    · rw [sameL_bad hlt (by simpa using hn)]
    · rw [w64 (by omega)]; simp
    · by_cases hji : j = i
      · subst hji; simpa using hy
      · exact he j (by omega)
    · rw [w64 (by omega)]; omega
  · simp at hge
    have : sameL (sameL (sameL eqV)) a b = true := sameL_iff.2 ⟨hab, fun j hj => he j (by omega)⟩
    rw [this]
end Go.Proofs.YtbojpedklnmidaaGreat.D
end
section
set_option linter.unusedVariables false
set_option linter.unusedSimpArgs false
set_option linter.constructorNameAsVariable false
set_option maxRecDepth 100000

/- What operations make, key by key: plain facts. No condition. -/
namespace Go.Proofs.YtbojpedklnmidaaGreat.D
open Go Go.Proofs
open Nat (reduceAdd reduceEqDiff reduceLeDiff)
open Int (reduceLE reduceEq reduceNeg reduceToNat)
def putR (c : Nat) : List Mde → Opx → List Mde
  | [], x => [noteM (freshM x.key c) x]
  | M :: T, x => if x.key.toList = M.key.toList then noteM M x :: T else M :: putR c T x
theorem putT_R (c : Nat) (x : Opx) : ∀ T : List Mde, putT c T x = putR c T x
  | [] => rfl
  | M :: T => by
    have ih := putT_R c x T
    unfold putT at ih
    unfold putT putR posKey
    split
    · rename_i i hi
      split at hi
      · rename_i hk
        injection hi with hi; subst hi
        rw [if_pos hk]; rfl
      · rename_i hk
        rw [if_neg hk]
        obtain ⟨j, h1, rfl⟩ := Option.map_eq_some_iff.1 hi
        rw [h1] at ih
        rw [← ih]; rfl
    · rename_i hi
      split at hi
      · cases hi
      · rename_i hk
        rw [if_neg hk]
        have h1 : posKey x.key T = none := by simpa using hi
        rw [h1] at ih
        rw [← ih]; rfl
def atK (T : List Mde) (k : ByteArray) : Option Mde := T.find? fun M => decide (M.key = k)
theorem atK_pos (k : ByteArray) : ∀ T : List Mde, (posKey k T).map (gN T) = atK T k
  | [] => rfl
  | M :: T => by
    have ih := atK_pos k T
    unfold posKey atK
    rw [List.find?_cons]
    by_cases h : k.toList = M.key.toList
    · rw [if_pos h, decide_eq_true (toList_inj h).symm]; rfl
    · rw [if_neg h, decide_eq_false (fun e => h (by rw [e]))]
      rw [Option.map_map]
      exact ih
theorem seeK_at (T : List Mde) (k : ByteArray) : seeK T k = (atK T k).bind fun M => if thereM M = true then some (rowM M) else none := by
  rw [← atK_pos]; unfold seeK
  cases posKey k T <;> rfl
theorem atK_put (c : Nat) (x : Opx) (k : ByteArray) : ∀ T : List Mde, atK (putR c T x) k = if x.key = k then some (noteM ((atK T k).getD (freshM k c)) x) else atK T k
  | [] => by
    unfold putR atK
    rw [List.find?_cons]
    by_cases h : x.key = k
    · rw [if_pos h, decide_eq_true (show (noteM (freshM x.key c) x).key = k from h)]
      subst h; rfl
    · rw [if_neg h, decide_eq_false (show ¬ (noteM (freshM x.key c) x).key = k from h)]
  | M :: T => by
    have ih := atK_put c x k T
    unfold putR
    unfold atK at ih ⊢
    by_cases h : x.key.toList = M.key.toList
    · have h2 := toList_inj h
      rw [if_pos h, List.find?_cons, List.find?_cons]
      by_cases hk : x.key = k
      · rw [if_pos hk, decide_eq_true (show (noteM M x).key = k from h2 ▸ hk), decide_eq_true (show M.key = k from h2 ▸ hk)]; rfl
      · rw [if_neg hk, decide_eq_false (show ¬ (noteM M x).key = k from fun e => hk (h2.trans e)), decide_eq_false (show ¬ M.key = k from fun e => hk (h2.trans e))]
    · rw [if_neg h, List.find?_cons, List.find?_cons]
      by_cases hk : M.key = k
      · rw [decide_eq_true hk, if_neg fun e => h (by rw [e, hk])]
      · rw [decide_eq_false hk]; exact ih
theorem atK_fold (c : Nat) (k : ByteArray) : ∀ (L : List Opx) (T : List Mde), atK (L.foldl (putT c) T) k = if (L.filter fun x => decide (x.key = k)) = [] then atK T k else some ((L.filter fun x => decide (x.key = k)).foldl noteM ((atK T k).getD (freshM k c)))
  | [], T => by simp
  | x :: L, T => by
    rw [List.foldl_cons, atK_fold c k L, putT_R, atK_put]
    by_cases h : x.key = k
    · rw [if_pos h, List.filter_cons_of_pos (by simpa using h), if_neg (List.cons_ne_nil _ _), List.foldl_cons]
      split
      · rename_i he; rw [he]; rfl
      · rfl
    · rw [if_neg h, List.filter_cons_of_neg (by simpa using h)]
def ofK (l : List Opx) (s : Nat) (k : ByteArray) : List Opx := (l.filter fun x => decide (x.table = (s : Int))).filter fun x => decide (x.key = k)
theorem mem_ofK {l : List Opx} {s : Nat} {k : ByteArray} {x : Opx} : x ∈ ofK l s k ↔ x ∈ l ∧ x.table = (s : Int) ∧ x.key = k := by
  unfold ofK; simp only [List.mem_filter, decide_eq_true_eq, and_assoc]
theorem atK_mdes (f : List (List Int)) (l : List Opx) (s : Nat) (k : ByteArray) : atK (mdesS f l s) k = if ofK l s k = [] then none else some ((ofK l s k).foldl noteM (freshM k (gN f s).length)) := by
  unfold mdesS
  rw [atK_fold]; rfl
theorem putR_keys (c : Nat) (x : Opx) : ∀ T : List Mde, (x.key ∈ T.map (·.key) ∧ (putR c T x).map (·.key) = T.map (·.key)) ∨ (x.key ∉ T.map (·.key) ∧ (putR c T x).map (·.key) = T.map (·.key) ++ [x.key])
  | [] => .inr ⟨by simp, rfl⟩
  | M :: T => by
    have ih := putR_keys c x T
    unfold putR
    by_cases h : x.key.toList = M.key.toList
    · rw [if_pos h]
      exact .inl ⟨by rw [List.map_cons, toList_inj h]; exact List.mem_cons_self .., rfl⟩
    · have h2 : x.key ≠ M.key := fun e => h (by rw [e])
      rw [if_neg h, List.map_cons, List.map_cons]
      rcases ih with ⟨h3, h4⟩ | ⟨h3, h4⟩
      · exact .inl ⟨List.mem_cons_of_mem _ h3, by rw [h4]⟩
      · exact .inr ⟨fun h => (List.mem_cons.1 h).elim h2 h3, by rw [h4]; rfl⟩
theorem fold_keys (c : Nat) : ∀ (L : List Opx) (T : List Mde), (T.map (·.key)).Nodup → ((L.foldl (putT c) T).map (·.key)).Nodup ∧ ∀ k, k ∈ (L.foldl (putT c) T).map (·.key) ↔ k ∈ T.map (·.key) ∨ ∃ x ∈ L, x.key = k
  | [], T, h => ⟨h, fun k => by simp⟩
  | x :: L, T, h => by
    have hp : ((putT c T x).map (·.key)).Nodup := by
      rw [putT_R]
      rcases putR_keys c x T with ⟨hx, e⟩ | ⟨hx, e⟩
      · rw [e]; exact h
      · rw [e]
        exact List.nodup_append.2 ⟨h, by simp, fun a ha b hb => by rw [List.mem_singleton.1 hb]; exact fun e => hx (e ▸ ha)⟩
    have ih := fold_keys c L (putT c T x) hp
    refine ⟨ih.1, fun k => ?_⟩
    rw [List.foldl_cons, ih.2 k, putT_R]
    rcases putR_keys c x T with ⟨hx, e⟩ | ⟨hx, e⟩
    · rw [e]
      constructor
      · rintro (h | ⟨y, h1, h2⟩)
        · exact .inl h
        · exact .inr ⟨y, List.mem_cons_of_mem _ h1, h2⟩
      · rintro (h | ⟨y, h1, h2⟩)
        · exact .inl h
        · rcases List.mem_cons.1 h1 with rfl | h1
          · exact .inl (h2 ▸ hx)
          · exact .inr ⟨y, h1, h2⟩
    · rw [e, List.mem_append, List.mem_singleton]
      constructor
      · rintro ((h | h) | ⟨y, h1, h2⟩)
        · exact .inl h
        · exact .inr ⟨x, List.mem_cons_self .., h.symm⟩
        · exact .inr ⟨y, List.mem_cons_of_mem _ h1, h2⟩
      · rintro (h | ⟨y, h1, h2⟩)
        · exact .inl (.inl h)
        · rcases List.mem_cons.1 h1 with rfl | h1
          · exact .inl (.inr h2.symm)
          · exact .inr ⟨y, h1, h2⟩
theorem mdes_keys (f : List (List Int)) (l : List Opx) (s : Nat) : ((mdesS f l s).map (·.key)).Nodup ∧ ∀ k, k ∈ (mdesS f l s).map (·.key) ↔ ∃ x ∈ l, x.table = (s : Int) ∧ x.key = k := by
  have h := fold_keys (gN f s).length (l.filter fun x => decide (x.table = (s : Int))) [] (by simp)
  refine ⟨h.1, fun k => (h.2 k).trans ?_⟩
  simp [List.mem_filter, and_assoc]
theorem sortB_self (l : List ByteArray) : (sortB l).Perm l := by
  unfold sortB
  refine ((List.mergeSort_perm _ _).map _).trans ?_
  rw [List.map_map]
  have : ((fun x : List UInt8 => (⟨x.toArray⟩ : ByteArray)) ∘ fun s : ByteArray => s.data.toList) = id := by
    funext s; cases s; simp
  rw [this, List.map_id]
def lastS (j : Nat) (o : Option Opx) (x : Opx) : Option Opx := if 0 ≤ atX x j ∧ lateB o x = true then some x else o
def MaxO (j : Nat) (L : List Opx) (o : Option Opx) : Prop := (o = none ∧ ∀ x ∈ L, ¬ 0 ≤ atX x j) ∨ ∃ y, o = some y ∧ y ∈ L ∧ 0 ≤ atX y j ∧ ∀ x ∈ L, 0 ≤ atX x j → ¬ ltT y.st x.st
theorem atX_kind {x : Opx} {j : Int} (h : 0 ≤ atX x j) : x.kind = 1 ∨ x.kind = 2 := by
  unfold atX at h
  split at h
  · exact .inl ‹_›
  · split at h
    · rename_i h2; exact .inr h2.1
    · omega
theorem max_step {j : Nat} {L : List Opx} {o : Option Opx} (h : MaxO j L o) (x : Opx) : MaxO j (L ++ [x]) (lastS j o x) := by
  unfold lastS
  by_cases hx : 0 ≤ atX x j
  · rcases h with ⟨rfl, h⟩ | ⟨y, rfl, hy, h1, h2⟩
    · rw [if_pos ⟨hx, rfl⟩]
      refine .inr ⟨x, rfl, by simp, hx, fun z hz hz2 => ?_⟩
      rcases List.mem_append.1 hz with hz | hz
      · exact (h z hz hz2).elim
      · rw [List.mem_singleton.1 hz]; exact ltT_irr _
    · have hl : lateB (some y) x = true ↔ ltT y.st x.st := by
        have : y.kind ≠ 0 := by rcases atX_kind h1 with h | h <;> omega
        show (decide (y.kind = 0) || decide (cmpT y.st x.st < 0)) = true ↔ _
        rw [decide_eq_false this, Bool.false_or, decide_eq_true_eq]
        exact cmpT_neg
      by_cases hlt : ltT y.st x.st
      · rw [if_pos ⟨hx, hl.2 hlt⟩]
        refine .inr ⟨x, rfl, by simp, hx, fun z hz hz2 => ?_⟩
        rcases List.mem_append.1 hz with hz | hz
        · exact fun h => h2 z hz hz2 (ltT_trans hlt h)
        · rw [List.mem_singleton.1 hz]; exact ltT_irr _
      · rw [if_neg fun h => hlt (hl.1 h.2)]
        refine .inr ⟨y, rfl, by simp [hy], h1, fun z hz hz2 => ?_⟩
        rcases List.mem_append.1 hz with hz | hz
        · exact h2 z hz hz2
        · rw [List.mem_singleton.1 hz]; exact hlt
  · rw [if_neg fun h => hx h.1]
    rcases h with ⟨rfl, h⟩ | ⟨y, rfl, hy, h1, h2⟩
    · refine .inl ⟨rfl, fun z hz => ?_⟩
      rcases List.mem_append.1 hz with hz | hz
      · exact h z hz
      · rw [List.mem_singleton.1 hz]; exact hx
    · refine .inr ⟨y, rfl, by simp [hy], h1, fun z hz hz2 => ?_⟩
      rcases List.mem_append.1 hz with hz | hz
      · exact h2 z hz hz2
      · rw [List.mem_singleton.1 hz] at hz2; exact (hx hz2).elim
theorem max_fold (j : Nat) : ∀ (L P : List Opx) (o : Option Opx), MaxO j P o → MaxO j (P ++ L) (L.foldl (lastS j) o)
  | [], P, o, h => by simpa using h
  | x :: L, P, o, h => by
    have := max_fold j L (P ++ [x]) _ (max_step h x)
    rw [List.append_assoc] at this
    exact this
theorem note_key : ∀ (L : List Opx) (M : Mde), (L.foldl noteM M).key = M.key
  | [], _ => rfl
  | x :: L, M => by rw [List.foldl_cons, note_key L]; rfl
theorem note_ins (d : Dt) : ∀ (L : List Opx) (M : Mde), d ∈ (L.foldl noteM M).ins ↔ d ∈ M.ins ∨ ∃ x ∈ L, x.kind = 1 ∧ x.dot = d
  | [], _ => by simp
  | x :: L, M => by
    rw [List.foldl_cons, note_ins d L]
    have : d ∈ (noteM M x).ins ↔ d ∈ M.ins ∨ (x.kind = 1 ∧ x.dot = d) := by
      show d ∈ (if x.kind = 1 then M.ins ++ [x.dot] else M.ins) ↔ _
      split
      · rename_i h; simp [h, eq_comm]
      · rename_i h; simp [h]
    rw [this]; simp [or_assoc]
theorem note_outs (d : Dt) : ∀ (L : List Opx) (M : Mde), d ∈ (L.foldl noteM M).outs ↔ d ∈ M.outs ∨ ∃ x ∈ L, x.kind = 3 ∧ d ∈ x.dots
  | [], _ => by simp
  | x :: L, M => by
    rw [List.foldl_cons, note_outs d L]
    have : d ∈ (noteM M x).outs ↔ d ∈ M.outs ∨ (x.kind = 3 ∧ d ∈ x.dots) := by
      show d ∈ (if x.kind = 3 then M.outs ++ x.dots else M.outs) ↔ _
      split
      · rename_i h; simp [h]
      · rename_i h; simp [h]
    rw [this]; simp [or_assoc]
theorem note_lastL : ∀ (L : List Opx) (M : Mde), (L.foldl noteM M).last = M.last.mapIdx fun j o => L.foldl (lastS j) o
  | [], M => by
    refine List.ext_getElem (by simp) fun i h1 h2 => ?_
    rw [List.getElem_mapIdx]; rfl
  | x :: L, M => by
    rw [List.foldl_cons, note_lastL L]
    show (M.last.mapIdx fun c o => lastS c o x).mapIdx _ = _
    rw [List.mapIdx_mapIdx]; rfl
theorem thereM_iff (M : Mde) : thereM M = true ↔ ∃ d ∈ M.ins, d ∉ M.outs := by
  unfold thereM
  rw [List.any_eq_true]
  refine exists_congr fun d => and_congr_right fun _ => ?_
  rw [Bool.not_eq_true', inD_no]
def mdeK (k : ByteArray) (c : Nat) (L : List Opx) : Mde := L.foldl noteM (freshM k c)
theorem there_mdeK {k : ByteArray} {c : Nat} {L : List Opx} : thereM (mdeK k c L) = true ↔ ∃ x ∈ L, x.kind = 1 ∧ ∀ y ∈ L, y.kind = 3 → x.dot ∉ y.dots := by
  rw [thereM_iff]; unfold mdeK
  constructor
  · rintro ⟨d, h1, h2⟩
    rw [note_ins] at h1; rw [note_outs] at h2
    rcases h1 with h1 | ⟨x, h3, h4, rfl⟩
    · cases h1
    · exact ⟨x, h3, h4, fun y h5 h6 h7 => h2 (.inr ⟨y, h5, h6, h7⟩)⟩
  · rintro ⟨x, h1, h2, h3⟩
    refine ⟨x.dot, (note_ins ..).2 (.inr ⟨x, h1, h2, rfl⟩), fun h => ?_⟩
    rcases (note_outs ..).1 h with h | ⟨y, h5, h6, h7⟩
    · cases h
    · exact h3 y h5 h6 h7
theorem atK_mdeK (f : List (List Int)) (l : List Opx) (s : Nat) (k : ByteArray) : atK (mdesS f l s) k = if ofK l s k = [] then none else some (mdeK k (gN f s).length (ofK l s k)) := atK_mdes f l s k
theorem seen_row {T : List Mde} {r : List Vl} (h : r ∈ seenM T) : ∃ M, M ∈ T ∧ thereM M = true ∧ r = rowM M := by
  unfold seenM at h
  obtain ⟨k, h1, h2⟩ := List.mem_filterMap.1 h
  rw [seeK_at] at h2
  obtain ⟨M, h3, h4⟩ := Option.bind_eq_some_iff.1 h2
  split at h4
  · rename_i h5
    injection h4 with h4
    exact ⟨M, List.mem_of_find?_eq_some h3, h5, h4.symm⟩
  · cases h4
theorem seenM_len (T : List Mde) : (seenM T).length ≤ T.length := by
  unfold seenM
  refine Nat.le_trans (List.length_filterMap_le _ _) ?_
  rw [sortB_len, List.length_map]; exact Nat.le_refl _
theorem rowM_len (M : Mde) : (rowM M).length ≤ M.last.length + 1 := by
  unfold rowM; split <;> simp
theorem made_small {n : Int} {f : List (List Int)} {l : List Opx} (hf : f.length ≤ 1000 ∧ ∀ c ∈ f, c.length ≤ 1000) (hl : l.length ≤ 1000) (hx : ∀ x ∈ l, x.dots.length ≤ 100) : (madeT n f l).length ≤ maxLen ∧ ∀ t ∈ madeT n f l, t.length ≤ maxLen ∧ ∀ r ∈ t, r.length ≤ maxLen := by
  unfold madeT
  split
  · refine ⟨by simp; unfold maxLen; omega, fun t ht => ?_⟩
    obtain ⟨s, h1, rfl⟩ := List.mem_map.1 ht
    have hs := List.mem_range.1 h1
    refine ⟨?_, fun r hr => ?_⟩
    · have := seenM_len (mdesS f l s)
      have := mdes_len f l s
      unfold maxLen; omega
    · obtain ⟨M, h2, _, rfl⟩ := seen_row hr
      have h3 := small_mdes (f := f) hx s l.length (Nat.le_refl _) M (by rw [List.take_length]; exact h2)
      have h4 := hf.2 _ (gN_mem hs)
      have h5 := rowM_len M
      rw [h3.2.2] at h5
      unfold maxLen; omega
  · exact ⟨Nat.zero_le _, fun t h => by cases h⟩
end Go.Proofs.YtbojpedklnmidaaGreat.D
end
section
set_option linter.unusedVariables false
set_option linter.unusedSimpArgs false
set_option linter.constructorNameAsVariable false
set_option maxRecDepth 100000

/- Another order of operations: plain facts. No condition. -/
namespace Go.Proofs.YtbojpedklnmidaaGreat.D
open Go Go.Proofs
open Nat (reduceAdd reduceEqDiff reduceLeDiff)
open Int (reduceLE reduceEq reduceNeg reduceToNat)
theorem checkG_0 {n : Int} {f : List (List Int)} {x : Opx} (h : checkG n f x = 0) : formsG f = 0 ∧ (1 ≤ n ∧ n ≤ 5) ∧ rightX n f x = true := by
  unfold checkG at h
  split at h
  · rename_i h2; exact (h2 h).elim
  · rename_i h2
    split at h
    · cases h
    · rename_i h3
      refine ⟨Decidable.of_not_not h2, by omega, ?_⟩
      cases hr : rightX n f x
      · exact (h3 (.inr (.inr hr))).elim
      · rfl
end Go.Proofs.YtbojpedklnmidaaGreat.D
end
section
set_option linter.unusedVariables false
set_option linter.unusedSimpArgs false
set_option linter.constructorNameAsVariable false
set_option maxRecDepth 100000

/- The operations of one key: plain facts. No condition. -/
namespace Go.Proofs.YtbojpedklnmidaaGreat.D
open Go Go.Proofs
open Nat (reduceAdd reduceEqDiff reduceLeDiff)
open Int (reduceLE reduceEq reduceNeg reduceToNat)
end Go.Proofs.YtbojpedklnmidaaGreat.D
end
section
set_option linter.unusedVariables false
set_option linter.unusedSimpArgs false
set_option linter.constructorNameAsVariable false
set_option maxRecDepth 100000

/- Operations applied one by one: plain facts. No condition. -/
namespace Go.Proofs.YtbojpedklnmidaaGreat.D
open Go Go.Proofs
open Nat (reduceAdd reduceEqDiff reduceLeDiff)
open Int (reduceLE reduceEq reduceNeg reduceToNat)
def cellO (o : Option Opx) (j : Nat) : Cel := match o with
  | none => zCel
  | some y => ⟨gN y.vals (atX y j).toNat, y.st, y.dot⟩
structure GoodA (c : Nat) (x : Opx) : Prop where
  name : nameB x.dot = true
  vals : x.kind = 1 → x.vals.length = c
  col : x.kind = 2 → 0 ≤ x.col
theorem sortB_lt {l : List ByteArray} (hn : l.Nodup) : (sortB l).Pairwise fun a b => keyLt a b = true := by
  have hto : ∀ a b : List UInt8, (decide (a ≤ b) || decide (b ≤ a)) = true := fun a b => by rcases List.le_total a b with h | h <;> simp [h]
  have htr : ∀ a b c : List UInt8, decide (a ≤ b) = true → decide (b ≤ c) = true → decide (a ≤ c) = true := fun a b c p q => decide_eq_true (List.le_trans (of_decide_eq_true p) (of_decide_eq_true q))
  have h1 : (sortB l).Pairwise fun a b => a.data.toList ≤ b.data.toList := by
    unfold sortB
    refine List.pairwise_map.2 ((List.pairwise_mergeSort htr hto _).imp fun {a b} h => ?_)
    simpa using of_decide_eq_true h
  have h2 : (sortB l).Pairwise fun a b => a ≠ b := (sortB_self l).nodup_iff.2 hn
  refine (h1.and h2).imp fun {a b} h => ?_
  rw [keyLt_iff]
  rcases List.le_iff_lt_or_eq.1 h.1 with q | q
  · exact q
  · exact (h.2 (by cases a; cases b; simp at q; simpa using q)).elim
end Go.Proofs.YtbojpedklnmidaaGreat.D
end
section
set_option linter.unusedVariables false
set_option linter.unusedSimpArgs false
set_option linter.constructorNameAsVariable false
set_option maxRecDepth 100000

/- Keys in order: plain facts. No condition. -/
namespace Go.Proofs.YtbojpedklnmidaaGreat.D
open Go Go.Proofs
open Nat (reduceAdd reduceEqDiff reduceLeDiff)
open Int (reduceLE reduceEq reduceNeg reduceToNat)
theorem tw_len {α : Type} [Inhabited α] {p : α → Bool} : ∀ {l : List α} {k : Nat}, k ≤ l.length → (∀ j, j < k → p (gN l j) = true) → (k < l.length → p (gN l k) = false) → (l.takeWhile p).length = k
  | [], k, hk, _, _ => by simp at hk; subst hk; rfl
  | a :: l, 0, _, _, h2 => by
    have : p a = false := h2 (by simp)
    rw [List.takeWhile_cons, this]; rfl
  | a :: l, k + 1, hk, h1, h2 => by
    have h0 : p a = true := h1 0 (by omega)
    rw [List.takeWhile_cons, h0]
    have := tw_len (p := p) (l := l) (k := k) (by simpa using hk) (fun j hj => h1 (j + 1) (by omega)) fun h => h2 (by simp; omega)
    simp [this]
def keyPos (l : List ByteArray) (s : ByteArray) : Nat := (l.takeWhile fun k => keyLt k s).length
def keyIns (l : List ByteArray) (s : ByteArray) : List ByteArray := if keyPos l s < l.length ∧ gN l (keyPos l s) = s then l else l.take (keyPos l s) ++ s :: l.drop (keyPos l s)
theorem keyLt_tri {a b : ByteArray} (h1 : keyLt a b = false) (h2 : a ≠ b) : keyLt b a = true := by
  rw [keyLt_iff]
  have h3 : ¬ a.data.toList < b.data.toList := fun h => by rw [(keyLt_iff a b).2 h] at h1; cases h1
  have h4 : a.data.toList ≠ b.data.toList := fun e => h2 (by cases a; cases b; simp at e; simpa using e)
  rcases List.le_total a.data.toList b.data.toList with h | h
  · rcases List.le_iff_lt_or_eq.1 h with q | q
    · exact (h3 q).elim
    · exact (h4 q).elim
  · rcases List.le_iff_lt_or_eq.1 h with q | q
    · exact q
    · exact (h4 q.symm).elim
theorem keyIns_spec {l : List ByteArray} (s : ByteArray) (h : l.Pairwise fun a b => keyLt a b = true) : (keyIns l s).Pairwise (fun a b => keyLt a b = true) ∧ ∀ k, k ∈ keyIns l s ↔ k = s ∨ k ∈ l := by
  have hp : keyPos l s ≤ l.length := tw_le l
  have h1 : ∀ j, j < keyPos l s → keyLt (gN l j) s = true := fun j hj => tw_at (p := fun k => keyLt k s) hj
  have h2 : keyPos l s < l.length → keyLt (gN l (keyPos l s)) s = false := fun hj => tw_stop (p := fun k => keyLt k s) hj
  unfold keyIns
  generalize keyPos l s = p at *
  by_cases hc : p < l.length ∧ gN l p = s
  · rw [if_pos hc]
    refine ⟨h, fun k => ⟨.inr, ?_⟩⟩
    rintro (rfl | h3)
    · rw [← hc.2]; exact gN_mem hc.1
    · exact h3
  · rw [if_neg hc]
    have hmem : ∀ x ∈ l.take p, keyLt x s = true := fun x hx => by
      obtain ⟨j, hj, rfl⟩ := List.mem_take_iff_getElem.1 hx
      have := h1 j (by omega)
      rw [gN_eq (by omega)] at this; exact this
    have hdrop : ∀ x ∈ l.drop p, keyLt s x = true := fun x hx => by
      obtain ⟨j, hj, rfl⟩ := List.mem_drop_iff_getElem.1 hx
      have hpl : p < l.length := by omega
      have h3 : keyLt s (gN l p) = true := keyLt_tri (h2 hpl) fun e => hc ⟨hpl, e⟩
      by_cases e : j = 0
      · subst e
        rw [gN_eq hpl] at h3
        simpa using h3
      · have h4 := List.pairwise_iff_getElem.1 h p (p + j) hpl (by omega) (by omega)
        rw [gN_eq hpl] at h3
        exact keyLt_trans h3 h4
    refine ⟨?_, fun k => ?_⟩
    · refine List.pairwise_append.2 ⟨h.sublist (List.take_sublist _ _), List.pairwise_cons.2 ⟨hdrop, h.sublist (List.drop_sublist _ _)⟩, fun a ha b hb => ?_⟩
      rcases List.mem_cons.1 hb with rfl | hb
      · exact hmem a ha
      · exact keyLt_trans (hmem a ha) (hdrop b hb)
    · rw [List.mem_append, List.mem_cons]
      constructor
      · rintro (h3 | h3 | h3)
        · exact .inr (List.mem_of_mem_take h3)
        · exact .inl h3
        · exact .inr (List.mem_of_mem_drop h3)
      · rintro (h3 | h3)
        · exact .inr (.inl h3)
        · rw [← List.take_append_drop p l] at h3
          rcases List.mem_append.1 h3 with h3 | h3
          · exact .inl h3
          · exact .inr (.inr h3)
def keysT (t : Nat) (l : List Opx) : List ByteArray := l.foldl (fun K x => if x.table = (t : Int) then keyIns K x.key else K) []
theorem keysT_from (t : Nat) : ∀ (l : List Opx) (K : List ByteArray), K.Pairwise (fun a b => keyLt a b = true) → (l.foldl (fun K x => if x.table = (t : Int) then keyIns K x.key else K) K).Pairwise (fun a b => keyLt a b = true) ∧ ∀ k, k ∈ l.foldl (fun K x => if x.table = (t : Int) then keyIns K x.key else K) K ↔ k ∈ K ∨ ∃ x ∈ l, x.table = (t : Int) ∧ x.key = k
  | [], K, h => ⟨h, fun k => by simp⟩
  | x :: l, K, h => by
    rw [List.foldl_cons]
    by_cases hx : x.table = (t : Int)
    · rw [if_pos hx]
      obtain ⟨a1, a2⟩ := keyIns_spec x.key h
      obtain ⟨b1, b2⟩ := keysT_from t l _ a1
      refine ⟨b1, fun k => ?_⟩
      rw [b2, a2]
      constructor
      · rintro ((h | h) | ⟨y, h1, h2⟩)
        · exact .inr ⟨x, List.mem_cons_self .., hx, h.symm⟩
        · exact .inl h
        · exact .inr ⟨y, List.mem_cons_of_mem _ h1, h2⟩
      · rintro (h | ⟨y, h1, h2, h3⟩)
        · exact .inl (.inr h)
        · rcases List.mem_cons.1 h1 with rfl | h1
          · exact .inl (.inl h3.symm)
          · exact .inr ⟨y, h1, h2, h3⟩
    · rw [if_neg hx]
      obtain ⟨b1, b2⟩ := keysT_from t l _ h
      refine ⟨b1, fun k => ?_⟩
      rw [b2]
      constructor
      · rintro (h | ⟨y, h1, h2⟩)
        · exact .inl h
        · exact .inr ⟨y, List.mem_cons_of_mem _ h1, h2⟩
      · rintro (h | ⟨y, h1, h2, h3⟩)
        · exact .inl h
        · rcases List.mem_cons.1 h1 with rfl | h1
          · exact (hx h2).elim
          · exact .inr ⟨y, h1, h2, h3⟩
theorem keysT_sort (f : List (List Int)) (t : Nat) (l : List Opx) : keysT t l = sortB ((mdesS f l t).map (·.key)) := by
  obtain ⟨h1, h2⟩ := keysT_from t l [] List.Pairwise.nil
  refine pw_ext (lt := keyLt) keyLt_irr (fun a b c => keyLt_trans) h1 (sortB_lt (mdes_keys f l t).1) fun k => ?_
  rw [(sortB_self _).mem_iff, (mdes_keys f l t).2]
  exact (h2 k).trans (by simp)
end Go.Proofs.YtbojpedklnmidaaGreat.D
end
section
set_option linter.unusedVariables false
set_option linter.unusedSimpArgs false
set_option linter.constructorNameAsVariable false
set_option maxRecDepth 100000

/- Copies of tables' forms, their comparing, a dot among operations, a key at its place. No condition. -/
namespace Go.Proofs.YtbojpedklnmidaaGreat.D
open Go Go.Proofs
open Nat (reduceAdd reduceEqDiff reduceLeDiff)
open Int (reduceLE reduceEq reduceNeg reduceToNat)
theorem TwinInts_ok2 {fl : Fl} (l : List Int) (hl : l.length ≤ maxLen) : FnB Tryz.prog 55 [ints fl l] (ints .o l) := by
  refine fnB_intro cf55 (by simp) ?_
  simp +contextual (maxSteps := 1000000) only [go_sem, ints, intRows, reduceAdd, Nat.reduceBEq, reduceEqDiff, reduceLeDiff, Nat.reduceLT, reduceIte, reduceLE, Int.reduceLT, reduceEq, reduceNeg, reduceToNat, ops, vals, dots, c55]
  refine nxS_app Own.nil (Nat.zero_le _) rfl (allInts l) (by simpa using hl) fun v' ob' ho _ => ?_
  simp +contextual (maxSteps := 1000000) only [go_sem, ints, intRows, reduceAdd, Nat.reduceBEq, reduceEqDiff, reduceLeDiff, Nat.reduceLT, reduceIte, reduceLE, Int.reduceLT, reduceEq, reduceNeg, reduceToNat, ops, vals, dots]
  rw [List.nil_append] at ho
  rw [out_own ho (fun ob' => gInts ob' l) [] (fun _ => rfl)]; rfl
theorem gTbs2 (ob' : OB) (l : List (List Int)) : ∀ r ∈ l.map tbV, r.map (gV ob' 6) = r := g_map _ (fun ob' a => by simp [tbV, ints, gV, Function.comp_def]) ob' l
theorem TwinForms_ok {fl : Fl} (f : List (List Int)) (hf : f.length ≤ 1000) (hc : ∀ c ∈ f, c.length ≤ 1000) : FnB Tryz.prog 23 [tbs fl f] (tbs .o f) := by
  refine fnB_intro cf23 (by simp) ?_
  simp +contextual (maxSteps := 1000000) only [go_sem, ints, intRows, reduceAdd, Nat.reduceBEq, reduceEqDiff, reduceLeDiff, Nat.reduceLT, reduceIte, reduceLE, Int.reduceLT, reduceEq, reduceNeg, reduceToNat, ops, vals, dots, c23, tbs]
  refine wpC_lp (fun env ob n' => env 0 = tbs fl f ∧ ∃ i : Nat, env 4 = vi i ∧ i ≤ f.length ∧ Own n' ob (env 3) 1 ((f.take i).map tbV)) (fun env ob _ => (f.length - iv (env 4)).toNat) ?_ ?_
  · simp +contextual (maxSteps := 1000000) only [go_sem, ints, intRows, reduceAdd, Nat.reduceBEq, reduceEqDiff, reduceLeDiff, Nat.reduceLT, reduceIte, reduceLE, Int.reduceLT, reduceEq, reduceNeg, reduceToNat, ops, vals, dots, tbs]
    exact ⟨0, rfl, by omega, Own.nil⟩
  rintro env ob n' ⟨h0, i, h4, hi, ho⟩
  have w1 : IntKind.i64.wrap ((i : Int) + 1) = ((i + 1 : Nat) : Int) := by rw [w64 (by omega)]; omega
  simp +contextual (maxSteps := 1000000) only [go_sem, ints, intRows, reduceAdd, Nat.reduceBEq, reduceEqDiff, reduceLeDiff, Nat.reduceLT, reduceIte, reduceLE, Int.reduceLT, reduceEq, reduceNeg, reduceToNat, ops, vals, dots, h0, h4, tbs, w1]
  refine ⟨fun hlt => ?_, fun hge => ?_⟩
  · simp only [decide_eq_true_eq] at hlt
    refine ⟨by omega, ?_⟩
    first | refine caS_i (TwinInts_ok2 (fl := .b) (gN f i) (by have := hc _ (gN_mem (show i < f.length by omega)); unfold maxLen; omega)) trivial ?_ | refine caD_i (TwinInts_ok2 (fl := .b) (gN f i) (by have := hc _ (gN_mem (show i < f.length by omega)); unfold maxLen; omega)) trivial ?_ | refine gC_i (fun _ => TwinInts_ok2 (fl := .b) (gN f i) (by have := hc _ (gN_mem (show i < f.length by omega)); unfold maxLen; omega)) trivial ?_ | refine gCD_i (fun _ => TwinInts_ok2 (fl := .b) (gN f i) (by have := hc _ (gN_mem (show i < f.length by omega)); unfold maxLen; omega)) trivial ?_ | refine caE_i (TwinInts_ok2 (fl := .b) (gN f i) (by have := hc _ (gN_mem (show i < f.length by omega)); unfold maxLen; omega)) trivial ?_
    simp +contextual (maxSteps := 1000000) only [go_sem, ints, intRows, reduceAdd, Nat.reduceBEq, reduceEqDiff, reduceLeDiff, Nat.reduceLT, reduceIte, reduceLE, Int.reduceLT, reduceEq, reduceNeg, reduceToNat, ops, vals, dots, h0, h4, tbs, w1, tbV]
    refine nxS_any (xs := [tbV (gN f i)]) ho (by omega) rfl rfl (by rw [List.length_map, List.length_take]; simp [maxLen]; omega) fun v' ob3 u2 u3 u4 => ?_
    simp +contextual (maxSteps := 1000000) only [go_sem, ints, intRows, reduceAdd, Nat.reduceBEq, reduceEqDiff, reduceLeDiff, Nat.reduceLT, reduceIte, reduceLE, Int.reduceLT, reduceEq, reduceNeg, reduceToNat, ops, vals, dots, h0, h4, tbs, w1, tbV]
    refine ⟨⟨i + 1, rfl, by omega, ?_⟩, by omega⟩
    rw [take_gN (by omega), List.map_append]
    exact u2.mono (by omega)
  · simp only [decide_eq_false_iff_not] at hge
    obtain rfl : i = f.length := by omega
    rw [List.take_length] at ho
    rw [out_own ho (fun ob' => gTbs2 ob' f) [] (fun _ => rfl)]; rfl
theorem KForms_ok {fl fm : Fl} (f g : List (List Int)) (hf : f.length ≤ 1000) (hc : ∀ c ∈ f, c.length ≤ 1000) : FnB Tryz.prog 24 [tbs fl f, tbs fm g] (vb (decide (f = g))) := by
  refine fnB_intro cf24 (by simp) ?_
  simp +contextual (maxSteps := 1000000) only [go_sem, ints, intRows, reduceAdd, Nat.reduceBEq, reduceEqDiff, reduceLeDiff, Nat.reduceLT, reduceIte, reduceLE, Int.reduceLT, reduceEq, reduceNeg, reduceToNat, ops, vals, dots, c24, tbs]
  refine ⟨fun h => ?_, fun h => ?_⟩
  · simp at h
    rw [decide_eq_false fun e => h (by rw [e])]
  simp at h
  refine wpC_lp (fun env ob n' => env 0 = tbs fl f ∧ env 1 = tbs fm g ∧ ∃ i : Nat, env 5 = vi i ∧ i ≤ f.length ∧ ∀ j, j < i → gN f j = gN g j) (fun env ob _ => (f.length - iv (env 5)).toNat) ?_ ?_
  · simp +contextual (maxSteps := 1000000) only [go_sem, ints, intRows, reduceAdd, Nat.reduceBEq, reduceEqDiff, reduceLeDiff, Nat.reduceLT, reduceIte, reduceLE, Int.reduceLT, reduceEq, reduceNeg, reduceToNat, ops, vals, dots, tbs]
    exact ⟨0, rfl, by omega, fun j hj => by omega⟩
  rintro env ob n' ⟨h0, h1, i, h5, hi, he⟩
  have w1 : IntKind.i64.wrap ((i : Int) + 1) = ((i + 1 : Nat) : Int) := by rw [w64 (by omega)]; omega
  simp +contextual (maxSteps := 1000000) only [go_sem, ints, intRows, reduceAdd, Nat.reduceBEq, reduceEqDiff, reduceLeDiff, Nat.reduceLT, reduceIte, reduceLE, Int.reduceLT, reduceEq, reduceNeg, reduceToNat, ops, vals, dots, h0, h1, h5, tbs, w1]
  refine ⟨fun hlt => ?_, fun hge => ?_⟩
  · simp only [decide_eq_true_eq] at hlt
    refine ⟨by omega, by omega, ?_⟩
    first | refine caS_i (Ints_ok (fl := .b) (fm := .b) (gN f i) (gN g i) (by have := hc _ (gN_mem (show i < f.length by omega)); unfold maxLen; omega)) trivial ?_ | refine caD_i (Ints_ok (fl := .b) (fm := .b) (gN f i) (gN g i) (by have := hc _ (gN_mem (show i < f.length by omega)); unfold maxLen; omega)) trivial ?_ | refine gC_i (fun _ => Ints_ok (fl := .b) (fm := .b) (gN f i) (gN g i) (by have := hc _ (gN_mem (show i < f.length by omega)); unfold maxLen; omega)) trivial ?_ | refine gCD_i (fun _ => Ints_ok (fl := .b) (fm := .b) (gN f i) (gN g i) (by have := hc _ (gN_mem (show i < f.length by omega)); unfold maxLen; omega)) trivial ?_ | refine caE_i (Ints_ok (fl := .b) (fm := .b) (gN f i) (gN g i) (by have := hc _ (gN_mem (show i < f.length by omega)); unfold maxLen; omega)) trivial ?_
    simp +contextual (maxSteps := 1000000) only [go_sem, ints, intRows, reduceAdd, Nat.reduceBEq, reduceEqDiff, reduceLeDiff, Nat.reduceLT, reduceIte, reduceLE, Int.reduceLT, reduceEq, reduceNeg, reduceToNat, ops, vals, dots, h0, h1, h5, tbs, w1]
    refine ⟨fun hne => ?_, fun heq => ⟨⟨i + 1, rfl, by omega, fun j hj => ?_⟩, by omega⟩⟩
    · have : f ≠ g := fun e => by simp at hne; exact hne (by rw [e])
      rw [decide_eq_false this]
    · by_cases hji : j = i
      · subst hji; simpa using heq
      · exact he j (by omega)
  · simp only [decide_eq_false_iff_not] at hge
    have : f = g := List.ext_getElem (by omega) fun j h1 h2 => by rw [← gN_eq h1, ← gN_eq h2]; exact he j (by omega)
    rw [decide_eq_true this]
theorem There14_ok {fl : Fl} (l : List Opx) (d : Dt) (hl : l.length ≤ 1000) : FnB Tryz.prog 59 [ops fl l, .ag (dotV d)] (vb (inD (l.map (·.dot)) d)) := by
  refine fnB_intro cf59 (by simp) ?_
  simp +contextual (maxSteps := 1000000) only [go_sem, ints, intRows, reduceAdd, Nat.reduceBEq, reduceEqDiff, reduceLeDiff, Nat.reduceLT, reduceIte, reduceLE, Int.reduceLT, reduceEq, reduceNeg, reduceToNat, ops, vals, dots, c59, dotV]
  refine wpC_lp (fun env ob n' => env 0 = ops fl l ∧ env 3 = .pt 0 0 0 ∧ ob 0 = some ⟨2, [dotV d], none⟩ ∧ ∃ i : Nat, env 5 = vi i ∧ i ≤ l.length ∧ ∀ j, j < i → (gN l j).dot ≠ d) (fun env ob _ => (l.length - iv (env 5)).toNat) ?_ ?_
  · simp +contextual (maxSteps := 1000000) only [go_sem, ints, intRows, reduceAdd, Nat.reduceBEq, reduceEqDiff, reduceLeDiff, Nat.reduceLT, reduceIte, reduceLE, Int.reduceLT, reduceEq, reduceNeg, reduceToNat, ops, vals, dots, dotV]
    exact ⟨0, rfl, by omega, fun j hj => by omega⟩
  rintro env ob n' ⟨h0, h3, hob, i, h5, hi, he⟩
  have w1 : IntKind.i64.wrap ((i : Int) + 1) = ((i + 1 : Nat) : Int) := by rw [w64 (by omega)]; omega
  simp +contextual (maxSteps := 1000000) only [go_sem, ints, intRows, reduceAdd, Nat.reduceBEq, reduceEqDiff, reduceLeDiff, Nat.reduceLT, reduceIte, reduceLE, Int.reduceLT, reduceEq, reduceNeg, reduceToNat, ops, vals, dots, h0, h3, h5, hob, w1]
  refine ⟨fun hlt => ?_, fun hge => ?_⟩
  · simp only [decide_eq_true_eq] at hlt
    refine ⟨by omega, ?_⟩
    first | refine caS_i (KDot_ok (gN l i).dot d) trivial ?_ | refine caD_i (KDot_ok (gN l i).dot d) trivial ?_ | refine gC_i (fun _ => KDot_ok (gN l i).dot d) trivial ?_ | refine gCD_i (fun _ => KDot_ok (gN l i).dot d) trivial ?_ | refine caE_i (KDot_ok (gN l i).dot d) trivial ?_
    simp +contextual (maxSteps := 1000000) only [go_sem, ints, intRows, reduceAdd, Nat.reduceBEq, reduceEqDiff, reduceLeDiff, Nat.reduceLT, reduceIte, reduceLE, Int.reduceLT, reduceEq, reduceNeg, reduceToNat, ops, vals, dots, h0, h3, h5, hob, w1]
    refine ⟨fun h => ?_, fun h => ⟨⟨i + 1, rfl, by omega, fun j hj => ?_⟩, by omega⟩⟩
    · have : inD (l.map (·.dot)) d = true := inD_mem.2 (List.mem_map.2 ⟨_, gN_mem (show i < l.length by omega), (sameD_iff _ _).1 h⟩)
      rw [this]
    · by_cases hji : j = i
      · subst hji; intro e; rw [(sameD_iff _ _).2 e] at h; cases h
      · exact he j (by omega)
  · simp only [decide_eq_false_iff_not] at hge
    obtain rfl : i = l.length := by omega
    have : inD (l.map (·.dot)) d = false := inD_no.2 fun h => by
      obtain ⟨x, h1, h2⟩ := List.mem_map.1 h
      obtain ⟨j, hj, rfl⟩ := gN_mem_iff.1 h1
      exact he j hj h2
    rw [this]
@[go_sem] theorem so_lssB (a b : ByteArray) : strsOp .lss a b = some (.bool (keyLt a b)) := (rfl)
def strs (fl : Fl) (l : List ByteArray) : V := .im fl (l.map strV)
def keyF (l : List ByteArray) (s : ByteArray) : Fl := if keyPos l s < l.length ∧ gN l (keyPos l s) = s then .b else .o
theorem keyF_bo (l : List ByteArray) (s : ByteArray) : keyF l s = .b ∨ keyF l s = .o := by unfold keyF; split <;> simp
theorem Key14_ok (l : List ByteArray) (s : ByteArray) (hl : l.length ≤ 1000) : FnB Tryz.prog 63 [strs .b l, .c (.string s)] (strs (keyF l s) (keyIns l s)) := by
  refine fnB_intro cf63 (by simp) ?_
  simp +contextual (maxSteps := 1000000) only [go_sem, ints, intRows, reduceAdd, Nat.reduceBEq, reduceEqDiff, reduceLeDiff, Nat.reduceLT, reduceIte, reduceLE, Int.reduceLT, reduceEq, reduceNeg, reduceToNat, ops, vals, dots, c63, strs]
  refine wpC_lp (fun env ob n' => env 0 = strs .b l ∧ env 1 = .c (.string s) ∧ ∃ k : Nat, env 5 = vi k ∧ k ≤ l.length ∧ ∀ j, j < k → keyLt (gN l j) s = true) (fun env ob _ => (l.length - iv (env 5)).toNat) ?_ ?_
  · simp +contextual (maxSteps := 1000000) only [go_sem, ints, intRows, reduceAdd, Nat.reduceBEq, reduceEqDiff, reduceLeDiff, Nat.reduceLT, reduceIte, reduceLE, Int.reduceLT, reduceEq, reduceNeg, reduceToNat, ops, vals, dots, strs]
    exact ⟨0, rfl, by omega, fun j hj => by omega⟩
  rintro env ob n' ⟨h0, h1, k, h5, hk, he⟩
  have w1 : IntKind.i64.wrap ((k : Int) + 1) = ((k + 1 : Nat) : Int) := by rw [w64 (by omega)]; omega
  simp +contextual (maxSteps := 1000000) only [go_sem, ints, intRows, reduceAdd, Nat.reduceBEq, reduceEqDiff, reduceLeDiff, Nat.reduceLT, reduceIte, reduceLE, Int.reduceLT, reduceEq, reduceNeg, reduceToNat, ops, vals, dots, h0, h1, h5, strs, w1, eqStr]
  refine ⟨fun h => by simpa using h, fun hc => ?_, fun hc => ?_⟩
  · rw [Bool.and_eq_true, decide_eq_true_eq] at hc
    refine ⟨⟨k + 1, rfl, by omega, fun j hj => ?_⟩, by omega⟩
    by_cases hjk : j = k
    · subst hjk; exact hc.2
    · exact he j (by omega)
  · have hkp : keyPos l s = k := tw_len (p := fun k => keyLt k s) hk he fun h => by
      rw [Bool.and_eq_false_iff] at hc
      rcases hc with hc | hc
      · simp at hc; omega
      · exact hc
    refine ⟨fun h => by simpa using h, fun hf => ?_, fun hf => ?_⟩
    · rw [Bool.and_eq_true, decide_eq_true_eq, decide_eq_true_eq] at hf
      have hif : keyPos l s < l.length ∧ gN l (keyPos l s) = s := by rw [hkp]; exact ⟨by omega, hf.2⟩
      unfold keyF keyIns
      rw [if_pos hif, if_pos hif]
    · have hif : ¬ (keyPos l s < l.length ∧ gN l (keyPos l s) = s) := by
        rw [hkp]; rintro ⟨a, b⟩
        rw [Bool.and_eq_false_iff] at hf
        rcases hf with hf | hf
        · simp at hf; omega
        · simp at hf; exact hf b
      have hF : keyF l s = .o := if_neg hif
      have hI : keyIns l s = l.take k ++ s :: l.drop k := by unfold keyIns; rw [if_neg hif, hkp]
      rw [hF, hI]
      have hvl : ∀ (m : List ByteArray), ∀ ch ∈ List.map strV m, ch.length = 1 := fun m ch hch => by obtain ⟨_, _, rfl⟩ := List.mem_map.1 hch; rfl
      have hst : ∀ m : List ByteArray, (m.map strV).all (okRow 1) = true := fun m => all_map _ _ (fun _ => rfl) m
      refine ⟨⟨by simp, hvl l, by omega⟩, ?_⟩
      rw [← List.map_take]
      refine nxS_any (xs := (l.take k).map strV) Own.nil (Nat.zero_le _) rfl (hst _) (by simp [maxLen]; omega) fun v1 ob1 u2 u3 u4 => ?_
      simp +contextual (maxSteps := 1000000) only [go_sem, ints, intRows, reduceAdd, Nat.reduceBEq, reduceEqDiff, reduceLeDiff, Nat.reduceLT, reduceIte, reduceLE, Int.reduceLT, reduceEq, reduceNeg, reduceToNat, ops, vals, dots, h0, h1, h5]
      refine nxS_any (xs := [strV s]) u2 (by omega) rfl rfl (by simp [maxLen]; omega) fun v2 ob2 u5 u6 u7 => ?_
      simp +contextual (maxSteps := 1000000) only [go_sem, ints, intRows, reduceAdd, Nat.reduceBEq, reduceEqDiff, reduceLeDiff, Nat.reduceLT, reduceIte, reduceLE, Int.reduceLT, reduceEq, reduceNeg, reduceToNat, ops, vals, dots, h0, h1, h5, strs]
      refine ⟨⟨by simp, hvl l, by omega, by omega⟩, ?_⟩
      rw [← List.map_drop]
      refine nxS_any (xs := (l.drop k).map strV) u5 (by omega) rfl (hst _) (by simp [maxLen]; omega) fun v3 ob3 u8 u9 u10 => ?_
      simp +contextual (maxSteps := 1000000) only [go_sem, ints, intRows, reduceAdd, Nat.reduceBEq, reduceEqDiff, reduceLeDiff, Nat.reduceLT, reduceIte, reduceLE, Int.reduceLT, reduceEq, reduceNeg, reduceToNat, ops, vals, dots, h0, h1, h5]
      have e : [] ++ (l.take k).map strV ++ [strV s] ++ (l.drop k).map strV = (l.take k ++ s :: l.drop k).map strV := by simp
      rw [e] at u8
      rw [out_own u8 (fun ob' => g_map _ (fun _ _ => rfl) ob' _) [] (fun _ => rfl)]; rfl
end Go.Proofs.YtbojpedklnmidaaGreat.D
end
section
set_option linter.unusedVariables false
set_option linter.unusedSimpArgs false
set_option linter.constructorNameAsVariable false
set_option maxRecDepth 100000

/- Operations that can be applied, one by one: plain facts. No condition. -/
namespace Go.Proofs.YtbojpedklnmidaaGreat.D
open Go Go.Proofs
open Nat (reduceAdd reduceEqDiff reduceLeDiff)
open Int (reduceLE reduceEq reduceNeg reduceToNat)
theorem formsG_colA {f : List (List Int)} (h : formsG f = 0) {c : List Int} (hc : c ∈ f) {t : Int} (ht : t ∈ c) : 2 ≤ t ∧ t ≤ 4 := by
  unfold formsG at h
  split at h
  · cases h
  · split at h
    · cases h
    · split at h
      · cases h
      · rename_i h3
        rw [Bool.not_eq_true, List.any_eq_false] at h3
        have := h3 c hc
        rw [Bool.not_eq_true, List.any_eq_false] at this
        have := this t ht
        simp [badC] at this
        omega
theorem formE_of {f : List (List Int)} (h : formsG f = 0) {t : Nat} (ht : t < f.length) : formE (gN f t) = 0 := by
  have h1 := (formsG_cols h).2 _ (gN_mem ht)
  unfold formE
  rw [if_neg (by omega), if_neg]
  rw [Bool.not_eq_true, List.any_eq_false]
  intro c hc
  have := formsG_colA h (gN_mem ht) hc
  simp; omega
structure ChkA (n : Int) (f : List (List Int)) (x : Opx) (t : Nat) : Prop where
  tab : x.table = (t : Int)
  lt : t < f.length
  op : opE (gN f t) (tab0 (oz x)) = 0
  good : GoodA (gN f t).length x
  deps : (x.deps.length : Int) = n
  vec : vecE x.deps = 0
  had : x.kind = 3 → hadB x.deps x.dots = true
  big : x.dot.n ≤ 1073741824
  dots : x.dots.length ≤ 64
theorem check_apply {n : Int} {f : List (List Int)} {x : Opx} (hck : checkG n f x = 0) : ∃ t, ChkA n f x t := by
  obtain ⟨h1, h2, h3⟩ := checkG_0 hck
  unfold rightX at h3
  rw [Bool.and_eq_true, decide_eq_true_eq] at h3
  obtain ⟨hb, h3⟩ := h3
  obtain ⟨t, ht⟩ := Int.eq_ofNat_of_zero_le hb.1
  have htn : x.table.toNat = t := by omega
  rw [htn] at h3
  have hw : wholeB n (tab0 (oz x)) = true := by
    unfold rightO at h3
    simp only [Bool.and_eq_true] at h3
    exact h3.1.1.1
  have hd : (x.deps.length : Int) = n := by
    unfold wholeB at hw
    simp only [Bool.and_eq_true, decide_eq_true_eq] at hw
    exact hw.1.1.1.1.2
  have hv : vecE x.deps = 0 := by
    unfold wholeB at hw
    simp only [Bool.and_eq_true, decide_eq_true_eq] at hw
    exact hw.1.1.1.2
  have hbig : x.dot.n ≤ 1073741824 := by
    unfold wholeB at hw
    simp only [Bool.and_eq_true, decide_eq_true_eq] at hw
    exact hw.1.1.1.1.1.2
  have hf := formE_of h1 (show t < f.length by omega)
  have ho : opE (gN f t) (tab0 (oz x)) = 0 := by
    unfold opE
    have e : ((tab0 (oz x)).deps.length : Int) = n := hd
    rw [if_neg (by rw [hf]; simp), if_neg]
    rintro (h | h | h)
    · omega
    · omega
    · rw [show (((tab0 (oz x)).deps.length : Nat) : Int) = n from hd] at h; rw [h3] at h; cases h
  have hk : ∀ (b : Bool), (if x.kind = 1 then smallBs x.vals (gN f t) && decide (x.col = 0) && decide (x.dots.length = 0)
      else if x.kind = 2 then decide (0 ≤ x.col ∧ x.col < (gN f t).length) && smallBs x.vals [gN (gN f t) x.col.toNat] && decide (x.dots.length = 0)
      else if x.kind = 3 then decide (1 ≤ x.dots.length ∧ x.dots.length ≤ 64) && hadB x.deps x.dots && decide (x.col = 0) && decide (x.vals.length = 0) else false) = true := fun _ => by
    unfold rightO at h3
    rw [Bool.and_eq_true] at h3
    exact h3.2
  have hk := hk true
  refine ⟨t, ht, by omega, ho, ⟨(op_name ho).1, fun h => ?_, fun h => ?_⟩, hd, hv, fun h => ?_, hbig, ?_⟩
  · rw [if_pos h] at hk
    simp only [Bool.and_eq_true] at hk
    exact small_len hk.1.1
  · rw [if_neg (by omega), if_pos h] at hk
    simp only [Bool.and_eq_true, decide_eq_true_eq] at hk
    exact hk.1.1.1
  · rw [if_neg (by omega), if_neg (by omega), if_pos h] at hk
    simp only [Bool.and_eq_true] at hk
    exact hk.1.1.2
  · by_cases a : x.kind = 1
    · rw [if_pos a] at hk
      simp only [Bool.and_eq_true, decide_eq_true_eq] at hk
      omega
    · rw [if_neg a] at hk
      by_cases b : x.kind = 2
      · rw [if_pos b] at hk
        simp only [Bool.and_eq_true, decide_eq_true_eq] at hk
        omega
      · rw [if_neg b] at hk
        by_cases c : x.kind = 3
        · rw [if_pos c] at hk
          simp only [Bool.and_eq_true, decide_eq_true_eq] at hk
          omega
        · rw [if_neg c] at hk; cases hk
end Go.Proofs.YtbojpedklnmidaaGreat.D
end
section
set_option linter.unusedVariables false
set_option linter.unusedSimpArgs false
set_option linter.constructorNameAsVariable false
set_option maxRecDepth 100000

/- The page's rows: what operations make of a key. No condition. -/
namespace Go.Proofs.YtbojpedklnmidaaGreat.D
open Go Go.Proofs
open Nat (reduceAdd reduceEqDiff reduceLeDiff)
open Int (reduceLE reduceEq reduceNeg reduceToNat)
@[go_sem] theorem celV_d7 (c : Cel) : (celV c).drop 7 = [vi c.d.n] := (rfl)
def laterC (c : Cel) (v : Vl) (x : Opx) : Cel := if c.d.n = 0 ∨ 0 < cmpT x.st c.st then ⟨v, x.st, x.dot⟩ else c
theorem later14_ok {cells : List Cel} {v : Vl} {x : Opx} {A k nid : Nat} {cap : Option Nat} {ob : OB} {C : V → OB → Nat → Prop} (hk : k < cells.length) (hob : ob A = some ⟨8, cells.map celV, cap⟩) (hA : A < nid)
    (hC : ∀ ob' n', nid ≤ n' → (∀ j, j ≠ A → j < nid → ob' j = ob j) → ob' A = some ⟨8, (cells.set k (laterC (gN cells k) v x)).map celV, cap⟩ → C (.tp []) ob' n') :
    FnS Tryz.prog 104 [.pt A k 0, .ag (vlV v), .ag (opV x)] ob nid C := by
  refine fnS_intro cf104 (by simp) ?_
  have ha : ∀ k, (A == nid + k) = false := fun k => by simp; omega
  have ha0 : (A == nid) = false := by simp; omega
  have hz1 : (nid == nid + 1) = false := beq_0s nid 0
  have hz2 : (nid + 1 == nid) = false := beq_s0 nid 0
  simp +contextual (maxSteps := 1000000) only [go_sem, ints, intRows, reduceAdd, Nat.reduceBEq, reduceEqDiff, reduceLeDiff, Nat.reduceLT, reduceIte, reduceLE, Int.reduceLT, reduceEq, reduceNeg, reduceToNat, ops, vals, dots, c104, hob, ha, ha0, hz1, hz2, Nat.add_assoc, beq_add, Nat.zero_add, Nat.add_zero]
  repeat (refine And.intro (by omega) ?_)
  refine gCD_i (fun _ => CompareStamps_ok x.st (gN cells k).st) trivial ?_
  simp +contextual (maxSteps := 1000000) only [go_sem, ints, intRows, reduceAdd, Nat.reduceBEq, reduceEqDiff, reduceLeDiff, Nat.reduceLT, reduceIte, reduceLE, Int.reduceLT, reduceEq, reduceNeg, reduceToNat, ops, vals, dots, vlV, hob, ha, ha0, hz1, hz2, Nat.add_assoc, beq_add, Nat.zero_add, Nat.add_zero]
  have hfr2 : ∀ o1 o2 : Option Ob, ∀ j, j < nid → updO (updO ob nid o1) (nid + 1) o2 j = ob j := fun o1 o2 j hj => by rw [updO, if_neg (by omega), updO, if_neg (by omega)]
  refine ⟨fun h => ?_, fun h => ?_⟩
  · have hl : laterC (gN cells k) v x = ⟨v, x.st, x.dot⟩ := if_pos (by
      rw [Bool.or_eq_true, decide_eq_true_eq, decide_eq_true_eq] at h; exact h)
    refine ⟨hk, hC _ _ (by omega) (fun j h1 h2 => by rw [updO, if_neg h1]; exact hfr2 _ _ j h2) ?_⟩
    rw [updO_s, hl, List.map_set]; rfl
  · refine hC _ _ (by omega) (fun j h1 h2 => hfr2 _ _ j h2) ?_
    have hl : laterC (gN cells k) v x = gN cells k := if_neg (by
      rw [Bool.or_eq_false_iff, decide_eq_false_iff_not, decide_eq_false_iff_not] at h
      rintro (e | e)
      · exact h.1 e
      · exact h.2 e)
    rw [hfr2 _ _ _ hA, hob, hl, set_same hk]
theorem later_cell {o : Option Opx} {x : Opx} {j : Nat} (ho : ∀ y, o = some y → nameB y.dot = true ∧ y.kind ≠ 0) (ha : 0 ≤ atX x j) : laterC (cellO o j) (gN x.vals (atX x j).toNat) x = cellO (lastS j o x) j := by
  unfold laterC lastS
  cases o with
  | none =>
    rw [if_pos (.inl rfl), if_pos ⟨ha, rfl⟩]; rfl
  | some y =>
    obtain ⟨h1, h2⟩ := ho y rfl
    have hn : ¬ y.dot.n = 0 := by
      unfold nameB at h1
      simp only [Bool.and_eq_true, decide_eq_true_eq] at h1; omega
    have hlb : lateB (some y) x = true ↔ ltT y.st x.st := by
      show (decide (y.kind = 0) || decide (cmpT y.st x.st < 0)) = true ↔ _
      rw [decide_eq_false h2, Bool.false_or, decide_eq_true_eq]
      exact cmpT_neg
    have hgt : 0 < cmpT x.st y.st ↔ ltT y.st x.st := by
      rcases cmpT_r x.st y.st with ⟨e, h⟩ | ⟨e, h⟩ | ⟨e, h⟩
      · exact ⟨fun h3 => by omega, fun h3 => (ltT_irr _ (ltT_trans h h3)).elim⟩
      · exact ⟨fun h3 => by omega, fun h3 => by rw [h] at h3; exact (ltT_irr _ h3).elim⟩
      · exact ⟨fun _ => h, fun _ => by omega⟩
    by_cases hlt : ltT y.st x.st
    · rw [if_pos (.inr (hgt.2 hlt)), if_pos ⟨ha, hlb.2 hlt⟩]; rfl
    · rw [if_neg (by
        rintro (e | e)
        · exact hn e
        · exact hlt (hgt.1 e)), if_neg fun h => hlt (hlb.1 h.2)]
def cellsP (c : Nat) (L : List Opx) : List Cel := (List.range c).map fun j => cellO (L.foldl (lastS j) none) j
def goneD (L : List Opx) (x : Opx) : Bool := L.any fun y => decide (y.kind = 3) && y.dots.any fun d => sameD d x.dot
def thereP (L P : List Opx) : Bool := P.any fun x => decide (x.kind = 1) && !goneD L x
theorem goneD_iff {L : List Opx} {x : Opx} : goneD L x = true ↔ ∃ y ∈ L, y.kind = 3 ∧ x.dot ∈ y.dots := by
  unfold goneD
  rw [List.any_eq_true]
  refine exists_congr fun y => and_congr Iff.rfl ?_
  rw [Bool.and_eq_true, decide_eq_true_eq, List.any_eq_true]
  refine and_congr Iff.rfl ⟨?_, fun h => ⟨_, h, (sameD_iff _ _).2 rfl⟩⟩
  rintro ⟨d, h1, h2⟩
  rw [← (sameD_iff _ _).1 h2]; exact h1
theorem thereP_all {k : ByteArray} {c : Nat} {L : List Opx} : thereP L L = thereM (mdeK k c L) := by
  rw [Bool.eq_iff_iff, there_mdeK]
  unfold thereP
  rw [List.any_eq_true]
  refine exists_congr fun x => and_congr Iff.rfl ?_
  rw [Bool.and_eq_true, decide_eq_true_eq, Bool.not_eq_true', ← Bool.not_eq_true, goneD_iff]
  refine and_congr Iff.rfl ⟨fun h y h1 h2 h3 => h ⟨y, h1, h2, h3⟩, ?_⟩
  rintro h ⟨y, h1, h2, h3⟩; exact h y h1 h2 h3
theorem fold_good {c j : Nat} {L : List Opx} (h : ∀ x ∈ L, nameB x.dot = true) : ∀ y, L.foldl (lastS j) none = some y → nameB y.dot = true ∧ y.kind ≠ 0 := by
  have hm := max_fold j L [] none (.inl ⟨rfl, fun x hx => by cases hx⟩)
  rw [List.nil_append] at hm
  intro y hy
  rw [hy] at hm
  rcases hm with ⟨e, _⟩ | ⟨z, e, hz, ha, _⟩
  · cases e
  · injection e with e; subst e
    exact ⟨h y hz, by rcases atX_kind ha with q | q <;> omega⟩
theorem ofK_appX (l l' : List Opx) (s : Nat) (k : ByteArray) : ofK (l ++ l') s k = ofK l s k ++ ofK l' s k := by
  unfold ofK; rw [List.filter_append, List.filter_append]
theorem ofK_s {l : List Opx} {i t : Nat} {s : ByteArray} (h : i < l.length) : ofK (l.take (i + 1)) t s = if (gN l i).table = (t : Int) ∧ (gN l i).key = s then ofK (l.take i) t s ++ [gN l i] else ofK (l.take i) t s := by
  rw [take_gN h, ofK_appX]
  by_cases hc : (gN l i).table = (t : Int) ∧ (gN l i).key = s
  · rw [if_pos hc]
    congr 1
    unfold ofK
    rw [List.filter_cons_of_pos (by simpa using hc.1), List.filter_nil, List.filter_cons_of_pos (by simpa using hc.2)]; rfl
  · rw [if_neg hc]
    have : ofK [gN l i] t s = [] := by
      unfold ofK
      rw [List.filter_filter, List.filter_eq_nil_iff]
      intro x hx
      rw [List.mem_singleton.1 hx]
      simp
      intro h1 h2; exact hc ⟨h2, h1⟩
    rw [this, List.append_nil]
end Go.Proofs.YtbojpedklnmidaaGreat.D
end
