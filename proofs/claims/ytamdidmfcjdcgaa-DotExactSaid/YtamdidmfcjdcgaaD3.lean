/- How the store's changes lie in memory. No condition. -/
import Derived.Test.YtamdidmfcjdcgaaD2
import Derived.Laws.CopyRow
set_option linter.unusedVariables false
set_option linter.unusedSectionVars false
set_option linter.unusedSimpArgs false
set_option linter.constructorNameAsVariable false
namespace Go.Proofs.Ytamdidmfcjdcgaa.D
open Go Go.RowKit

def apps (ob : OB) : Ups → OB
  | [] => ob
  | (i, o) :: l => apps (fun j => if j = i then o else ob j) l

theorem el_some {l : List (List V)} {i j : Nat} {v : V} (h : el l i j = some v) : ∃ r, l[i]? = some r ∧ r[j]? = some v := by
  unfold el at h
  cases hl : l[i]? with
  | none => rw [hl] at h; cases h
  | some r => rw [hl] at h; exact ⟨r, rfl, h⟩

theorem el_mk {l : List (List V)} {i j : Nat} {v : V} {r : List V} (h : l[i]? = some r) (h' : r[j]? = some v) : el l i j = some v := by
  unfold el; rw [h]; exact h'

theorem el_lt {l : List (List V)} {i j : Nat} {v : V} {k : Nat} (hk : ∀ ch ∈ l, ch.length = k) (h : el l i j = some v) : i < l.length ∧ j < k := by
  obtain ⟨r, h1, h2⟩ := el_some h
  obtain ⟨a, b⟩ := List.getElem?_eq_some_iff.1 h1
  obtain ⟨c, d⟩ := List.getElem?_eq_some_iff.1 h2
  have hr := hk r (b ▸ List.getElem_mem a)
  omega

theorem flat_at : ∀ (l : List (List V)) (k i j : Nat), (∀ ch ∈ l, ch.length = k) → j < k → l.flatten[i * k + j]? = el l i j
  | [], k, i, j, _, _ => by simp [el]
  | r :: l, k, 0, j, hk, hj => by
    have hr := hk r (by simp)
    simp [el, List.getElem?_append, hr, hj]
  | r :: l, k, i + 1, j, hk, hj => by
    have hr := hk r (by simp)
    have e : (i + 1) * k + j = r.length + (i * k + j) := by rw [hr, Nat.add_mul]; omega
    have ih := flat_at l k i j (fun ch h => hk ch (by simp [h])) hj
    rw [e, List.flatten_cons, List.getElem?_append_right (Nat.le_add_right _ _), Nat.add_sub_cancel_left, ih]
    simp [el]

theorem flat_len : ∀ (l : List (List V)) (k : Nat), (∀ ch ∈ l, ch.length = k) → l.flatten.length = l.length * k
  | [], k, _ => by simp
  | r :: l, k, hk => by
    have hr := hk r (by simp)
    have ih := flat_len l k (fun ch h => hk ch (by simp [h]))
    simp only [List.flatten_cons, List.length_append, List.length_cons, ih, hr, Nat.add_mul]
    omega

theorem pos_eq {k i j i' j' : Nat} (hj : j < k) (hj' : j' < k) (h : i * k + j = i' * k + j') : i = i' ∧ j = j' := by
  have h1 : (i * k + j) / k = i := by
    rw [Nat.mul_comm, Nat.mul_add_div (by omega), Nat.div_eq_of_lt hj, Nat.add_zero]
  have h2 : (i' * k + j') / k = i' := by
    rw [Nat.mul_comm, Nat.mul_add_div (by omega), Nat.div_eq_of_lt hj', Nat.add_zero]
  have : i = i' := by rw [← h1, ← h2, h]
  subst this
  exact ⟨rfl, by omega⟩

theorem setRow_far (w : World) (g b : Nat) (cs : Array Value) (h : b ≠ g) : (w.setRow g cs).heap[b]? = w.heap[b]? := by
  simp only [World.setRow, Array.getElem?_modify]
  rw [if_neg (by omega)]

theorem setRow_size (w : World) (g : Nat) (cs : Array Value) : (w.setRow g cs).heap.size = w.heap.size := by simp [World.setRow]

section
variable {n0 : Nat} {w : World} {own : Nat → Option Nat} {loc : Loc} {ob : OB} [Bk]

theorem alloc_heap (o : Obj) (b : Nat) (h : b < w.heap.size) : (w.alloc o).heap[b]? = w.heap[b]? := Below.heap_alloc w o b h

theorem alloc_new (w : World) (o : Obj) : (w.alloc o).heap[w.heap.size]? = some o := by
  show (w.heap.push o)[w.heap.size]? = _
  simp

/-- A new object. -/
theorem new_ob (hwf : WF n0 w own loc ob) {nid : Nat} (hnid : loc nid = none) (cs : Array Value) (t : TypeId) (k C : Nat) (rows : List (List V)) (cap : Option Nat)
    (hC : C * k ≤ cs.size) (hlen : rows.length ≤ C) (hk : ∀ ch ∈ rows, ch.length = k) (hcap : ∀ c, cap = some c → c = C)
    (hc : ∀ i j v, el rows i j = some v → ∃ x, cs[i * k + j]? = some x ∧ RV w (okf own n0 w.heap.size) loc v x) :
    WF n0 (w.alloc (.cells cs t)) (fun b => if b = w.heap.size then some nid else own b) (fun id => if id = nid then some (some ⟨w.heap.size, 0, k, C⟩) else loc id) (fun j => if j = nid then some ⟨k, rows, cap⟩ else ob j) ∧
    Stp w own loc (w.alloc (.cells cs t)) (fun b => if b = w.heap.size then some nid else own b) (fun id => if id = nid then some (some ⟨w.heap.size, 0, k, C⟩) else loc id) := by
  have hs : Stp w own loc (w.alloc (.cells cs t)) (fun b => if b = w.heap.size then some nid else own b) (fun id => if id = nid then some (some ⟨w.heap.size, 0, k, C⟩) else loc id) := by
    refine ⟨rfl, rfl, rfl, by simp, fun b hb ho => ⟨by rw [if_neg (by omega)]; exact ho, alloc_heap _ _ hb⟩, fun id hid => ?_⟩
    by_cases h : id = nid
    · subst h; exact absurd hnid hid
    · left; simp [h]
  refine ⟨⟨fun id o h => ?_, fun id p h => ?_, fun b id h => ?_⟩, hs⟩
  · by_cases hid : id = nid
    · subst hid
      simp only [if_true] at h
      cases h
      refine ⟨⟨w.heap.size, 0, k, C⟩, by simp, ⟨⟨cs, t, alloc_new _ _, by simpa using hC⟩, rfl, hlen, hk, fun i j v hv => ?_, hcap⟩⟩
      obtain ⟨x, h1, h2⟩ := hc i j v hv
      exact ⟨x, by simpa using h1, h2.stp hs⟩
    · simp only [hid, if_false] at h
      obtain ⟨p, h1, h2⟩ := hwf.has id o h
      have hb := (hwf.owns id p h1).2
      exact ⟨p, by simp only [hid, if_false]; exact h1, h2.stp hs (alloc_heap _ _ hb)⟩
  · by_cases hid : id = nid
    · subst hid
      simp only [if_true, Option.some.injEq] at h
      subst h
      simp
    · simp only [hid, if_false] at h
      have := hwf.owns id p h
      exact ⟨by rw [if_neg (by omega)]; exact this.1, by simp; omega⟩
  · by_cases hb : b = w.heap.size
    · subst hb; simp
    · simp only [hb, if_false] at h
      have := hwf.lt b id h
      simp; omega

/-- A new block that no object has. -/
theorem new_blk (hwf : WF n0 w own loc ob) (o : Obj) :
    WF n0 (w.alloc o) own loc ob ∧ Stp w own loc (w.alloc o) own loc := by
  have hs : Stp w own loc (w.alloc o) own loc :=
    ⟨rfl, rfl, rfl, by simp, fun b hb ho => ⟨ho, alloc_heap _ _ hb⟩, fun id hid => .inl rfl⟩
  refine ⟨⟨fun id o h => ?_, fun id p h => ?_, fun b id h => ?_⟩, hs⟩
  · obtain ⟨p, h1, h2⟩ := hwf.has id o h
    exact ⟨p, h1, h2.stp hs (alloc_heap _ _ (hwf.owns id p h1).2)⟩
  · have := hwf.owns id p h
    exact ⟨this.1, by simp; omega⟩
  · have := hwf.lt b id h
    simp; omega

/-- An object written. -/
theorem upd_ob (hwf : WF n0 w own loc ob) {id : Nat} {p : Pl} (hl : loc id = some (some p)) (o' : Ob) (cs cs' : Array Value) (t : TypeId)
    (hold : w.heap[p.b]? = some (.cells cs t (0, 0))) (hsz : cs'.size = cs.size) (hbig : p.base + p.cap * p.k ≤ cs.size)
    (hk : o'.k = p.k) (hlen : o'.l.length ≤ p.cap) (hr : ∀ ch ∈ o'.l, ch.length = p.k) (hcap : ∀ c, o'.cap = some c → c = p.cap)
    (hc : ∀ i j v, el o'.l i j = some v → ∃ x, cs'[p.base + i * p.k + j]? = some x ∧ RV w (okf own n0 w.heap.size) loc v x) :
    WF n0 (w.setRow p.b cs') own loc (fun j => if j = id then some o' else ob j) ∧ Stp w own loc (w.setRow p.b cs') own loc := by
  have ho := (hwf.owns id p hl).1
  have hs : Stp w own loc (w.setRow p.b cs') own loc := by
    refine ⟨rfl, rfl, rfl, by simp [setRow_size], fun b hb hb' => ⟨hb', setRow_far _ _ _ _ ?_⟩, fun id hid => .inl rfl⟩
    rintro rfl
    rw [ho] at hb'
    cases hb'
  have hnew := setRow_heap w p.b cs cs' t (0, 0) hold
  refine ⟨⟨fun i o h => ?_, fun i q h => ?_, fun b i h => ?_⟩, hs⟩
  · by_cases hi : i = id
    · subst hi
      simp only [if_true] at h
      cases h
      refine ⟨p, hl, ⟨⟨cs', t, hnew, by rw [hsz]; exact hbig⟩, hk, hlen, hr, fun a j v hv => ?_, hcap⟩⟩
      obtain ⟨x, h1, h2⟩ := hc a j v hv
      exact ⟨x, by simp [World.cell?, hnew, h1], h2.stp hs⟩
    · simp only [hi, if_false] at h
      obtain ⟨q, h1, h2⟩ := hwf.has i o h
      refine ⟨q, h1, h2.stp hs (setRow_far _ _ _ _ ?_)⟩
      intro e
      have := (hwf.owns i q h1).1
      rw [e, ho] at this
      cases this
      exact hi rfl
  · rw [setRow_size]; exact hwf.owns i q h
  · rw [setRow_size]; exact hwf.lt b i h

/-- An object given up: its number is dead. -/
theorem kill_ob (hwf : WF n0 w own loc ob) {id : Nat} (hid : loc id ≠ none) :
    WF n0 w (fun b => own b) (fun j => if j = id then some none else loc j) (fun j => if j = id then none else ob j) ∧
    Stp w own loc w (fun b => own b) (fun j => if j = id then some none else loc j) := by
  have hs : Stp w own loc w (fun b => own b) (fun j => if j = id then some none else loc j) := by
    refine ⟨rfl, rfl, rfl, Nat.le_refl _, fun b hb ho => ⟨ho, rfl⟩, fun j hj => ?_⟩
    by_cases h : j = id
    · right; simp [h]
    · left; simp [h]
  refine ⟨⟨fun i o h => ?_, fun i p h => ?_, fun b i h => hwf.lt b i h⟩, hs⟩
  · by_cases hi : i = id
    · simp [hi] at h
    · simp only [hi, if_false] at h
      obtain ⟨p, h1, h2⟩ := hwf.has i o h
      exact ⟨p, by simp only [hi, if_false]; exact h1, h2.stp hs rfl⟩
  · by_cases hi : i = id
    · simp [hi] at h
    · simp only [hi, if_false] at h
      exact hwf.owns i p h

/-- An object's block handed on to another number. -/
theorem move_ob (hwf : WF n0 w own loc ob) {id nid : Nat} {p : Pl} (hl : loc id = some (some p)) (hnid : loc nid = none) (o' : Ob) (cs cs' : Array Value) (t : TypeId)
    (hold : w.heap[p.b]? = some (.cells cs t (0, 0))) (hsz : cs'.size = cs.size) (hbig : p.base + p.cap * p.k ≤ cs.size)
    (hk : o'.k = p.k) (hlen : o'.l.length ≤ p.cap) (hr : ∀ ch ∈ o'.l, ch.length = p.k) (hcap : ∀ c, o'.cap = some c → c = p.cap)
    (hc : ∀ i j v, el o'.l i j = some v → ∃ x, cs'[p.base + i * p.k + j]? = some x ∧ RV w (okf own n0 w.heap.size) loc v x) :
    WF n0 (w.setRow p.b cs') (fun b => if b = p.b then some nid else own b) (fun j => if j = nid then some (some p) else if j = id then some none else loc j)
      (fun j => if j = nid then some o' else if j = id then none else ob j) ∧
    Stp w own loc (w.setRow p.b cs') (fun b => if b = p.b then some nid else own b) (fun j => if j = nid then some (some p) else if j = id then some none else loc j) := by
  have ho := (hwf.owns id p hl).1
  have hne : id ≠ nid := by rintro rfl; rw [hl] at hnid; cases hnid
  have hs : Stp w own loc (w.setRow p.b cs') (fun b => if b = p.b then some nid else own b) (fun j => if j = nid then some (some p) else if j = id then some none else loc j) := by
    refine ⟨rfl, rfl, rfl, by simp [setRow_size], fun b hb hb' => ?_, fun j hj => ?_⟩
    · have hbp : b ≠ p.b := by rintro rfl; rw [ho] at hb'; cases hb'
      exact ⟨by simp [hbp, hb'], setRow_far _ _ _ _ hbp⟩
    · have : j ≠ nid := by rintro rfl; exact hj hnid
      by_cases h : j = id
      · right; simp [h, hne]
      · left; simp [h, this]
  have hnew := setRow_heap w p.b cs cs' t (0, 0) hold
  refine ⟨⟨fun i o h => ?_, fun i q h => ?_, fun b i h => ?_⟩, hs⟩
  · by_cases hi : i = nid
    · subst hi
      simp only [if_true] at h
      cases h
      refine ⟨p, by simp, ⟨⟨cs', t, hnew, by rw [hsz]; exact hbig⟩, hk, hlen, hr, fun a j v hv => ?_, hcap⟩⟩
      obtain ⟨x, h1, h2⟩ := hc a j v hv
      exact ⟨x, by simp [World.cell?, hnew, h1], h2.stp hs⟩
    · by_cases hi2 : i = id
      · simp [hi, hi2, hne] at h
      · simp only [hi, hi2, if_false] at h
        obtain ⟨q, h1, h2⟩ := hwf.has i o h
        refine ⟨q, by simp only [hi, hi2, if_false]; exact h1, h2.stp hs (setRow_far _ _ _ _ ?_)⟩
        intro e
        have := (hwf.owns i q h1).1
        rw [e, ho] at this
        cases this
        exact hi2 rfl
  · rw [setRow_size]
    by_cases hi : i = nid
    · subst hi
      simp only [if_true, Option.some.injEq] at h
      subst h
      exact ⟨by simp, (hwf.owns id p hl).2⟩
    · by_cases hi2 : i = id
      · simp [hi, hi2, hne] at h
      · simp only [hi, hi2, if_false] at h
        have hq := hwf.owns i q h
        refine ⟨?_, hq.2⟩
        have : q.b ≠ p.b := by
          intro e
          have := hq.1
          rw [e, ho] at this
          cases this
          exact hi2 rfl
        simp [this, hq.1]
  · rw [setRow_size]
    by_cases hb : b = p.b
    · subst hb; exact (hwf.owns id p hl).2
    · simp only [hb, if_false] at h
      exact hwf.lt b i h
end
end Go.Proofs.Ytamdidmfcjdcgaa.D
