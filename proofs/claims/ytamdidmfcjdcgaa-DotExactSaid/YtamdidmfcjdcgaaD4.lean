/- The machine's operations, as those over plain values. No condition. -/
import Derived.Test.YtamdidmfcjdcgaaD3
import Derived.Laws.Small
set_option linter.unusedVariables false
set_option linter.unusedSectionVars false
set_option linter.unusedSimpArgs false
set_option linter.constructorNameAsVariable false
namespace Go.Proofs.Ytamdidmfcjdcgaa.D
open Go Go.RowKit

def toV : Value → Option V
  | .slice none 0 0 => some .z
  | .bool b => some (.c (.bool b))
  | .int k n => some (.c (.int k n))
  | .string s => some (.c (.string s))
  | .pointer none => some (.c (.pointer none))
  | .nilFunc => some (.c .nilFunc)
  | .map none => some (.c (.map none))
  | _ => none
def toVs : List Value → Option (List V)
  | [] => some []
  | x :: l => match toV x, toVs l with
    | some v, some m => some (v :: m)
    | _, _ => none
def constV : Value → Option V
  | .agg cs => (toVs cs.toList).map .ag
  | v => toV v
def comOd (nt : Nat) : Operand → Option Od
  | .tmp t => if t < nt then some (.t t) else none
  | .const v => (constV v).map .k
  | .func f => some (.k (.fn f []))
  | .global _ => none

/-- The size of an aggregate's type; none: one cell. -/
def tySz (P : Program) (t : TypeId) : Option (Option Nat) :=
  match P.underlying t, P.info? t with
  | some (.struct _), some i | some (.array _ _), some i => some (some i.size)
  | some _, some i => if i.size = 1 then some none else none
  | _, _ => none
def sliceEl (P : Program) (t : TypeId) : Option TypeId :=
  match P.underlying t with
  | some (.slice e) => some e
  | _ => none
def zeroOf (P : Program) (t : TypeId) : Option (List V) := (P.info? t).bind fun i => i.zero.bind fun z => (toVs z.cells.toList).bind fun l => if l.length = i.size then some l else none

theorem RV.c_inv {w : World} {ok : Fl → Nat → Prop} {loc : Loc} {v x : Value} (h : RV w ok loc (.c v) x) : x = v := by cases h; rfl
theorem RV.z_inv {w : World} {ok : Fl → Nat → Prop} {loc : Loc} {x : Value} (h : RV w ok loc .z x) : ∃ a, x = .slice a 0 0 := by cases h; exact ⟨_, rfl⟩
theorem RV.ag_inv {w : World} {ok : Fl → Nat → Prop} {loc : Loc} {l : List V} {x : Value} (h : RV w ok loc (.ag l) x) : ∃ xs, x = .agg xs.toArray ∧ RVs w ok loc l xs := by
  cases h with | ag l xs hn h => exact ⟨xs, rfl, hn, h⟩
theorem RV.tp_inv {w : World} {ok : Fl → Nat → Prop} {loc : Loc} {l : List V} {x : Value} (h : RV w ok loc (.tp l) x) : ∃ xs, x = .tuple xs.toArray ∧ RVs w ok loc l xs := by
  cases h with | tp l xs hn h => exact ⟨xs, rfl, hn, h⟩

theorem toV_rv {w : World} {ok : Fl → Nat → Prop} {loc : Loc} {x : Value} {v : V} (h : toV x = some v) : RV w ok loc v x ∧ leaf v = true := by
  unfold toV at h
  split at h <;> first | (cases h; done) | (injection h with h; subst h; exact ⟨by constructor, rfl⟩)

theorem toVs_rv {w : World} {ok : Fl → Nat → Prop} {loc : Loc} : ∀ {xs : List Value} {l : List V}, toVs xs = some l → RVs w ok loc l xs ∧ l.all leaf = true
  | [], l, h => by simp only [toVs] at h; cases h; exact ⟨⟨rfl, fun i v x h => by cases h⟩, rfl⟩
  | x :: xs, l, h => by
    simp only [toVs] at h
    split at h
    · rename_i v m h1 h2
      injection h with h; subst h
      have a := toV_rv (w := w) (ok := ok) (loc := loc) h1
      have b := toVs_rv (w := w) (ok := ok) (loc := loc) h2
      refine ⟨⟨by simp [b.1.1], fun i v' x' h3 h4 => ?_⟩, by simp only [List.all_cons, a.2, b.2, Bool.and_true]⟩
      cases i with
      | zero => simp at h3 h4; subst h3; subst h4; exact a.1
      | succ i => exact b.1.2 i v' x' (by simpa using h3) (by simpa using h4)
    · cases h

theorem constV_rv {w : World} {ok : Fl → Nat → Prop} {loc : Loc} {x : Value} {v : V} (h : constV x = some v) : RV w ok loc v x := by
  unfold constV at h
  split at h
  · rename_i cs
    cases h1 : toVs cs.toList with
    | none => rw [h1] at h; cases h
    | some l =>
      rw [h1] at h; injection h with h; subst h
      have := (toVs_rv (w := w) (ok := ok) (loc := loc) h1).1
      have e : cs = cs.toList.toArray := by simp
      rw [e]
      exact .ag l cs.toList this.1 this.2
  · exact (toV_rv h).1

theorem leaf_one {w : World} {ok : Fl → Nat → Prop} {loc : Loc} {v : V} {x : Value} (h : RV w ok loc v x) (hl : leaf v = true) : x.oneCell' = true := by
  cases h with
  | c v => exact hl
  | u | ag | tp | q => simp [leaf] at hl
  | _ => rfl

section
variable {P : Program} {n0 : Nat} {w : World} {own : Nat → Option Nat} {loc : Loc} {ob : OB} {nid : Nat} [Bk]

/-- What an operation does. -/
def Does (P : Program) (n0 : Nat) (w : World) (own : Nat → Option Nat) (loc : Loc) (ob : OB) (nid : Nat) (s : Sem Next) (r : V) (us : Ups) : Prop :=
  ∃ x w' own' loc', (s.run P w = .ok (.value x) w' ∨ (s.run P w = .ok .skip w' ∧ x = undef)) ∧ RV w' (okf own' n0 w'.heap.size) loc' r x ∧
    WF n0 w' own' loc' (apps ob us) ∧ Stp w own loc w' own' loc' ∧ ∀ id, id ≠ nid → loc id = none → loc' id = none

theorem Does.same {s : Sem Next} {r : V} {x : Value} (hwf : WF n0 w own loc ob) (hs : s.run P w = .ok (.value x) w) (hr : RV w (okf own n0 w.heap.size) loc r x) : Does P n0 w own loc ob nid s r [] :=
  ⟨x, w, own, loc, .inl hs, hr, hwf, .refl _ _ _, fun _ _ h => h⟩

theorem cellsV_one {v : V} (h : leaf v = true) : cellsV v = [v] := by
  cases v <;> first | rfl | simp [leaf] at h

/-- The cells of what may be stored. -/
theorem cells_rv {ok : Fl → Nat → Prop} {v : V} {x : Value} (h : RV w ok loc v x) (hl : (cellsV v).all leaf = true) :
    RVs w ok loc (cellsV v) x.cells.toList ∧ ∀ y ∈ x.cells.toList, y.oneCell' = true := by
  have key : RVs w ok loc (cellsV v) x.cells.toList := by
    by_cases hag : ∃ l, v = .ag l
    · obtain ⟨l, rfl⟩ := hag
      obtain ⟨xs, rfl, h1⟩ := h.ag_inv
      simpa [cellsV, Value.cells] using h1
    · have hc : cellsV v = [v] := by cases v <;> first | rfl | exact absurd ⟨_, rfl⟩ hag
      rw [hc] at hl ⊢
      have h1 := leaf_one h (by simpa using hl)
      have hx : x.cells.toList = [x] := by cases x <;> first | rfl | simp [Value.oneCell'] at h1
      rw [hx]
      refine ⟨rfl, fun i v' x' h2 h3 => ?_⟩
      cases i with
      | zero => simp at h2 h3; subst h2; subst h3; exact h
      | succ i => simp at h2
  refine ⟨key, fun y hy => ?_⟩
  obtain ⟨i, hi, rfl⟩ := List.getElem_of_mem hy
  have hi' : i < (cellsV v).length := by rw [← key.1]; exact hi
  exact leaf_one (key.2 i _ _ (List.getElem?_eq_getElem hi') (List.getElem?_eq_getElem hi)) (by
    have := List.all_eq_true.1 hl _ (List.getElem_mem hi')
    exact this)

theorem pack_cells {n : Option Nat} {l : List V} {v : V} (h : pack n l = some v) (hl : l.all leaf = true) : cellsV v = l ∧ l.length = n.getD 1 := by
  unfold pack at h
  split at h
  · injection h with h; subst h
    exact ⟨cellsV_one (by simpa using hl), rfl⟩
  · cases h
  · split at h
    · rename_i n _ hn
      injection h with h; subst h
      exact ⟨rfl, by simpa using hn⟩
    · cases h

end
end Go.Proofs.Ytamdidmfcjdcgaa.D
