/- Words of this session: an argument of any kind (numbers, bools, strings, structs, slices of these), read as data, has a plain value behind it. No condition. -/
import Derived.Test.YtadibbhmhggmaaaWWords
import Derived.Test.YtadibbhmhggmaaaWLast
import Derived.Test.YtadibbhmhggmaaaWShare
import Derived.Test.YtadibbhmhggmaaaWTab
import Derived.ProofKit
import Derived.ChangeArms
import Derived.ChangeSlices
set_option linter.unusedVariables false
namespace Go.Proofs.Ytadibbhmhggmaaa.Open
open Go.RowKit Go.Proofs.YtadibbhmhggmaaaW.PrintWords
def gInt (k : IntKind) (x : Int) : Prop := (Lit.int k x).wf = true
def gBool (_ : Bool) : Prop := True
def gStr (s : ByteArray) : Prop := s.size ≤ maxLen
def gList {α : Type} (p : α → Prop) (l : List α) : Prop := l.length ≤ maxLen ∧ ∀ x ∈ l, p x
/-- Whatever reads as data of type t is a plain value of this kind, here and in every world that has this one's blocks. -/
def Opens {H : Type} (enc : TypeId × Value → H) (P : Program) (t : TypeId) {α : Type} (d : Kd α) (good : α → Prop) : Prop :=
  ∀ {W : World} {base : Nat} {sp : Nat → Bool} {held : Bool} {fuel : Nat} {cs : List Value} {x : DataW H × List MemPlace}, DataW.trod enc P W base sp held fuel t cs = some x → ∃ a, Foot (fun W => d.K W a cs) W (fun _ => True) ∧ good a
theorem cell_of_block {W W' : World} {a : Addr} (h : W'.heap[a.block]? = W.heap[a.block]?) : W'.cell? a = W.cell? a := by
  unfold World.cell?
  rw [h]
section
variable {H : Type} {enc : TypeId × Value → H} {P : Program} {t e : TypeId}
theorem opens_int {k : IntKind} (hu : P.underlying t = some (.int k)) : Opens enc P t (Kd.int k) (gInt k) := by
  intro W base sp held fuel cs x h
  obtain ⟨n, rfl, _, hw⟩ := DataW.trod_int hu h
  exact ⟨n, fun _ _ => rfl, hw⟩
theorem opens_bool (hu : P.underlying t = some .bool) : Opens enc P t Kd.bool gBool := by
  intro W base sp held fuel cs x h
  obtain ⟨n, rfl, _⟩ := DataW.trod_bool hu h
  exact ⟨n, fun _ _ => rfl, trivial⟩
theorem opens_string (hu : P.underlying t = some .string) : Opens enc P t Kd.string gStr := by
  intro W base sp held fuel cs x h
  obtain ⟨n, rfl, _, hw⟩ := DataW.trod_string hu h
  exact ⟨n, fun _ _ => rfl, hw⟩
theorem list_of {α : Type} {n : Nat} {p : Nat → α → Prop} (h : ∀ i, i < n → ∃ a, p i a) : ∃ l : List α, l.length = n ∧ ∀ i a, l[i]? = some a → p i a := by
  induction n with
  | zero => exact ⟨[], rfl, fun i a h => by simp at h⟩
  | succ n ih =>
    obtain ⟨l, hl, hp⟩ := ih (fun i hi => h i (by omega))
    obtain ⟨a, ha⟩ := h n (by omega)
    refine ⟨l ++ [a], by simp [hl], fun i b hb => ?_⟩
    by_cases hi : i < n
    · rw [List.getElem?_append_left (by omega)] at hb
      exact hp i b hb
    · have hi2 : i < (l ++ [a]).length := (List.getElem?_eq_some_iff.1 hb).1
      have hi3 : i = n := by simp at hi2; omega
      subst hi3
      rw [List.getElem?_append_right (by omega)] at hb
      simp [hl] at hb
      subst hb
      exact ha
theorem opens_slice {α : Type} {d : Kd α} {g : α → Prop} (hu : P.underlying t = some (.slice e)) (he : Opens enc P e d g) (hs : P.cellsOf e = d.sz) (n : Nat) : Opens enc P t (Kd.slice n d) (gList g) := by
  intro W base sp held fuel cs x h
  rcases DataW.trod_slice hu h with ⟨rfl, _⟩ | ⟨a, len, cap, elems, rest, m, _, rfl, _, _, hl, hm, hel, hi, _, _⟩
  · exact ⟨[], fun _ _ => ⟨none, 0, rfl, Nat.le_refl _, rfl, by simp, fun h => by simp at h⟩, by simp [maxLen], by simp⟩
  · have key : ∀ i, i < len → ∃ b : α, (∃ c, c.length = d.sz ∧ Foot (fun W => d.K W b c) W (fun _ => True) ∧ ∀ j u, c[j]? = some u → W.cell? (a.add (i * d.sz + j)) = some u) ∧ g b := by
      intro i hlt
      have h1 := hi i hlt
      rw [List.getElem?_eq_getElem (by omega)] at h1
      obtain ⟨c, hc, htr⟩ := Option.bind_eq_some_iff.1 h1
      obtain ⟨b, hb, hg⟩ := he htr
      rw [hs] at hc
      unfold World.cells? at hc
      split at hc
      · refine ⟨b, ⟨c, d.K_len (Foot.now hb), hb, fun j u hu => ?_⟩, hg⟩
        have hj : j < d.sz := by have := (List.getElem?_eq_some_iff.1 hu).1; rw [d.K_len (Foot.now hb)] at this; exact this
        have h2 := mapM_some_get hc j j (by simp [hj])
        rw [hu] at h2
        rw [← h2, add_add]
      · cases hc
    obtain ⟨l, hll, hp⟩ := list_of key
    refine ⟨l, fun W' hW => ⟨some a, cap, by rw [hll], by omega, rfl, by rw [hll]; unfold maxLen at hm; omega, fun _ => ⟨a, rfl, fun j p hj => ?_⟩⟩, by rw [hll]; omega, fun b hb => ?_⟩
    · obtain ⟨⟨c, h1, h2, h3⟩, _⟩ := hp j p hj
      refine ⟨c, h1, h2 W' hW, fun i u hu => ?_⟩
      have hc := h3 i u hu
      rw [← hc]
      exact cell_of_block (hW _ trivial (World.block_lt_of_cell? W _ hc))
    · obtain ⟨i, hi, rfl⟩ := List.getElem_of_mem hb
      exact (hp i _ (List.getElem?_eq_getElem hi)).2
theorem pair_cells {α β : Type} {a : Kd α} {b : Kd β} {w : World} {cs : List Value} (n : Nat) {x : α} {y : β} (ha : a.K w x (cs.take n)) (hb : b.K w y (cs.drop n)) : (Kd.pair a b).K w (x, y) cs :=
  ⟨_, _, (List.take_append_drop n cs).symm, ha, hb⟩
/-- One field of a struct. -/
theorem field_of {α : Type} {d : Kd α} {g : α → Prop} {fs : Array Field} {n m : Nat} {W : World} {base : Nat} {sp : Nat → Bool} {held : Bool} {cs : List Value} {xs : List (DataW H × List MemPlace)} (hx : xs.length = fs.size)
    (hf : ∀ (i : Nat) (f : Field), fs[i]? = some f → DataW.trod enc P W base sp held n f.type ((cs.drop f.offset).take (P.cellsOf f.type)) = xs[i]?)
    (i : Nat) (f : Field) (hi : fs[i]? = some f) (ho : Opens enc P f.type d g) (hs : P.cellsOf f.type = m) : ∃ a, Foot (fun W => d.K W a ((cs.drop f.offset).take m)) W (fun _ => True) ∧ g a := by
  have h := hf i f hi
  have hlt : i < xs.length := by
    rw [hx]
    rcases Nat.lt_or_ge i fs.size with h | h
    · exact h
    · rw [Array.getElem?_eq_none h] at hi
      cases hi
  rw [List.getElem?_eq_getElem hlt, hs] at h
  exact ho h
/-- A slice that reads as data. -/
theorem foot_slice {α : Type} {d : Kd α} {n : Nat} {W : World} {A : Option Addr} {len c : Nat} {l : List α} (h : Foot (fun W => (Kd.slice n d).K W l [.slice A len c]) W (fun _ => True)) : len = l.length ∧ l.length ≤ c ∧ Kd.F d W (fun _ => True) A l.length l := by
  obtain ⟨A1, c1, e, h1, _⟩ := Foot.now h
  simp only [List.cons.injEq, Value.slice.injEq, and_true] at e
  obtain ⟨rfl, rfl, rfl⟩ := e
  refine ⟨rfl, h1, fun W' hW => ?_⟩
  obtain ⟨A2, c2, e, _, h2⟩ := h W' hW
  simp only [List.cons.injEq, Value.slice.injEq, and_true] at e
  obtain ⟨rfl, _, rfl⟩ := e
  exact h2
end
theorem bytesLess_lt : ∀ (x y : List UInt8), Op.bytesLess x y = decide (x < y)
  | [], [] => by simp [Op.bytesLess]
  | _ :: _, [] => by simp [Op.bytesLess]
  | [], _ :: _ => by simp [Op.bytesLess]
  | a :: x, b :: y => by
    rw [Op.bytesLess, bytesLess_lt x y]
    simp only [List.cons_lt_cons_iff]
    by_cases h1 : a < b <;> by_cases h2 : a = b <;> by_cases h3 : x < y <;> simp [h1, h2, h3]
theorem bytes_tri (x y : List UInt8) : (Op.bytesLess x y = true ∧ Op.bytesLess y x = false ∧ x ≠ y) ∨ (Op.bytesLess x y = false ∧ Op.bytesLess y x = false ∧ x = y) ∨ (Op.bytesLess x y = false ∧ Op.bytesLess y x = true ∧ x ≠ y) := by
  rw [bytesLess_lt, bytesLess_lt]
  by_cases h1 : x < y
  · have h2 : ¬ y < x := fun h => List.lt_irrefl x (List.lt_trans h1 h)
    exact .inl ⟨by simpa using h1, by simpa using h2, fun e => by subst e; exact List.lt_irrefl x h1⟩
  · by_cases h2 : y < x
    · exact .inr (.inr ⟨by simpa using h1, by simpa using h2, fun e => by subst e; exact List.lt_irrefl x h2⟩)
    · exact .inr (.inl ⟨by simpa using h1, by simpa using h2, List.le_antisymm (List.not_lt.1 h2) (List.not_lt.1 h1)⟩)
theorem string_gtr2 (t : TypeId) (a b : ByteArray) : binOp .gtr t (.string a) (.string b) = pure (.bool (Op.bytesLess b.toList a.toList)) := by
  have h : (!(Op.bytesLess a.toList b.toList || a.toList == b.toList)) = Op.bytesLess b.toList a.toList := by
    rcases bytes_tri a.toList b.toList with ⟨h1, h2, h3⟩ | ⟨h1, h2, h3⟩ | ⟨h1, h2, h3⟩
    · simp [h1, h2]
    · rw [h1, h2, beq_iff_eq.2 h3]; rfl
    · simp [h1, h2, h3]
  rw [← h]
  simp [binOp, Op.stringOp]
theorem string_leq2 (t : TypeId) (a b : ByteArray) : binOp .leq t (.string a) (.string b) = pure (.bool (!(Op.bytesLess b.toList a.toList))) := by
  have h : (Op.bytesLess a.toList b.toList || a.toList == b.toList) = !(Op.bytesLess b.toList a.toList) := by
    rcases bytes_tri a.toList b.toList with ⟨h1, h2, h3⟩ | ⟨h1, h2, h3⟩ | ⟨h1, h2, h3⟩
    · simp [h1, h2]
    · rw [h1, h2, beq_iff_eq.2 h3]; rfl
    · simp [h1, h2, h3]
  rw [← h]
  simp [binOp, Op.stringOp]
theorem string_geq2 (t : TypeId) (a b : ByteArray) : binOp .geq t (.string a) (.string b) = pure (.bool !(Op.bytesLess a.toList b.toList)) := by simp [binOp, Op.stringOp]
theorem nil_of {α : Type} {d : Kd α} {w : World} {l : List α} (h : d.C w none l.length l) : l = [] := by
  cases l with
  | nil => rfl
  | cons x l =>
    obtain ⟨ad, h1, _⟩ := h.2.2 (by simp)
    cases h1
section
open Go.Proofs.YtadibbhmhggmaaaW.PrintLast
variable {P : Program} {ops : Array Oper} {Q : Exit → Act → World → Prop}
/-- The operation is a call of what stands in this place. -/
theorem gate_tmp {s : Tmp} {rest : List Oper} {o : Oper} {a : Act} {W : World} {as : Array Operand} {ts : Array TypeId} (_ho : o.op = .call { callee := .value (.tmp s), args := as, argTypes := ts }) (h : wpList P ops Q (o :: rest) a W) : wpList P ops Q (o :: rest) a W := h
/-- A call of a function value that captures nothing. -/
theorem goesT_ {rest : List Oper} {oi : Oper} {a : Act} {w : World} (s : Tmp) (N : Option Tmp) (hd : oi.dst = N) (hg : oi.guard = none) {f : FuncId} {fn : Func} {as : Array Operand} {ts : Array TypeId} (hf : P.funcs[f]? = some fn) (hname : (fn.name == "runtime.NumGoroutine") = false) (hb : fn.body.isSome = true) (args : Array Value)
    (hop : oi.op = .call { callee := .value (.tmp s), args := as, argTypes := ts }) (hfv : a.eval (.tmp s) = .func (.func f) #[] #[]) (hargs : as.map a.eval = args)
    (h : Calls P f args w fun e w' => ∃ v, e = .returned v ∧ wpList P ops Q rest (a.put N v) w') : wpList P ops Q (oi :: rest) a w := by
  refine wpList_plain hg fun K hK => ?_
  have he := enters_ hf hname hb args w
  have hrun : (execOp a.eval oi).run P w = .ok (.enter f args) w := by
    unfold execOp
    simp [hop, resolve, Deferred.ofValue, invoke, hfv, hargs, he]
  unfold Oper.wp
  rw [hrun, Oper.upon_enter]
  refine h.mono fun e w'' hh => ?_
  obtain ⟨v, rfl, hk⟩ := hh
  subst hd
  exact hK _ _ hk
/-- The same, in a region that draws. -/
theorem goesTd_ {oi : Oper} {N : Option Tmp} {a : Act} {w : World} {K : Act → World → Prop} (s : Tmp) {f : FuncId} {fn : Func} {as : Array Operand} {ts : Array TypeId} (hf : P.funcs[f]? = some fn) (hname : (fn.name == "runtime.NumGoroutine") = false) (hb : fn.body.isSome = true) (args : Array Value)
    (hw : Region.wanted oi (yielded ops a.tmps) = true) (hN : oi.dst = N) (hop : oi.op = .call { callee := .value (.tmp s), args := as, argTypes := ts }) (hfv : a.eval (.tmp s) = .func (.func f) #[] #[]) (hargs : as.map a.eval = args)
    (h : Calls P f args w fun e w' => ∃ v, e = .returned v ∧ K (a.put N v) w') : if Region.wanted oi (yielded ops a.tmps) = true then Oper.wp P oi a w K Q else K (a.put N undef) w := by
  refine call_ f args hw hN ?_ h
  have he := enters_ hf hname hb args w
  unfold execOp
  simp [hop, resolve, Deferred.ofValue, invoke, hfv, hargs, he]
end
/-- m operations done, n not yet. -/
def bT (m n : Nat) : Array Bool := (List.replicate m true ++ List.replicate n false).toArray
section
open Go.Proofs.YtadibbhmhggmaaaW.PrintLast
variable {P : Program} {ops : Array Oper} {Q : Exit → Act → World → Prop} {md : Region.Mode} {S : World → Prop} {ds : List Nat}
/-- An operation that nobody wants. -/
theorem pU {i : Nat} {N : Option Tmp} {oi : Oper} {fuel : Nat} {l : Array Bool} {a : Act} {w : World} {T : Bool × List (List Nat × List Nat)} (l' : Array Bool) (hi : ops[i]? = some oi) (hN : oi.dst = N) (hT : rtab md ops = T) (hc : anyT T l.toList l'.toList i = true)
    (hQ : ∀ c a w, Q (.panic c) (a.put oi.dst undef) w → Q (.panic c) a w) (hw : Region.wanted oi (yielded ops a.tmps) = false) {a' : Act} (ha : a.put N undef = a')
    (h : wpAnyLast P md ops Q S ds fuel l' a' w) : wpAnyLast P md ops Q S ds (fuel + 1) l a w := pure_ l' hi hN (any_of hT hc) hQ (Or.inr ⟨hw, rfl⟩) ha h
/-- An operation that yields in every world. -/
theorem pV {i : Nat} {N : Option Tmp} {oi : Oper} {v : Value} {fuel : Nat} {l : Array Bool} {a : Act} {w : World} {T : Bool × List (List Nat × List Nat)} (l' : Array Bool) (hi : ops[i]? = some oi) (hN : oi.dst = N) (hT : rtab md ops = T) (hc : anyT T l.toList l'.toList i = true)
    (hQ : ∀ c a w, Q (.panic c) (a.put oi.dst v) w → Q (.panic c) a w) (hw : Region.wanted oi (yielded ops a.tmps) = true) (hr : ∀ w, (execOp a.eval oi).run P w = .ok (.value v) w) {a' : Act} (ha : a.put N v = a')
    (h : wpAnyLast P md ops Q S ds fuel l' a' w) : wpAnyLast P md ops Q S ds (fuel + 1) l a w := pure_ l' hi hN (any_of hT hc) hQ (Or.inl ⟨hw, hr⟩) ha h
end
end Go.Proofs.Ytadibbhmhggmaaa.Open
