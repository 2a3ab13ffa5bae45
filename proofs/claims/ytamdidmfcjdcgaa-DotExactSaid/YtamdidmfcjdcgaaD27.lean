/- An argument of any kind that reads as data has a plain value behind it. No condition. -/
import Derived.Test.YtamdidmfcjdcgaaD26
import Derived.ProofKit
import Derived.ChangeArms
import Derived.ChangeSlices
set_option linter.unusedVariables false
set_option linter.unusedSimpArgs false
set_option linter.constructorNameAsVariable false
namespace Go.Proofs.Ytamdidmfcjdcgaa.D
open Go Go.RowKit

def gInt (k : IntKind) (x : Int) : Prop := (Lit.int k x).wf = true
def gTrue {α : Type} (_ : α) : Prop := True
def gStr (s : ByteArray) : Prop := s.size ≤ Go.maxLen
def gList {α : Type} (p : α → Prop) (l : List α) : Prop := l.length ≤ Go.maxLen ∧ ∀ x ∈ l, p x

/-- All may be handed back. -/
@[reducible] def bkA : Bk := ⟨fun _ => True⟩
abbrev okA (W : World) := @okf bkA (fun _ => none) W.heap.size W.heap.size
abbrev RVa (W : World) := RVs W (okA W) (fun _ => none)

/-- Whatever reads as data of type t is a plain value of this kind. -/
def Opn {H : Type} (enc : TypeId × Value → H) (P : Program) (t : TypeId) {α : Type} (m : α → List V) (good : α → Prop) : Prop :=
  ∀ {W : World} {base : Nat} {sp : Nat → Bool} {held : Bool} {fuel : Nat} {cs : List Value} {x : DataW H × List MemPlace}, DataW.trod enc P W base sp held fuel t cs = some x → ∃ a, RVa W (m a) cs ∧ good a

theorem RVs_one {w : World} {ok : Fl → Nat → Prop} {loc : Loc} {v : V} {x : Value} (h : RV w ok loc v x) : RVs w ok loc [v] [x] :=
  ⟨rfl, fun i v' x' hv hx => by
    cases i with
    | zero => simp at hv hx; subst hv hx; exact h
    | succ i => simp at hv⟩
theorem RVs_nil {w : World} {ok : Fl → Nat → Prop} {loc : Loc} : RVs w ok loc [] [] := ⟨rfl, fun i v x hv => by simp at hv⟩
theorem RVs_app {w : World} {ok : Fl → Nat → Prop} {loc : Loc} {l m : List V} {xs ys : List Value} (h : RVs w ok loc l xs) (k : RVs w ok loc m ys) : RVs w ok loc (l ++ m) (xs ++ ys) := by
  refine ⟨by simp [h.1, k.1], fun i v x hv hx => ?_⟩
  by_cases hi : i < l.length
  · rw [List.getElem?_append_left hi] at hv
    rw [List.getElem?_append_left (by rw [h.1]; exact hi)] at hx
    exact h.2 i v x hv hx
  · rw [List.getElem?_append_right (by omega)] at hv
    rw [List.getElem?_append_right (by rw [h.1]; omega), h.1] at hx
    exact k.2 _ v x hv hx
theorem RVs_cons {w : World} {ok : Fl → Nat → Prop} {loc : Loc} {v : V} {x : Value} {m : List V} {ys : List Value} (h : RV w ok loc v x) (k : RVs w ok loc m ys) : RVs w ok loc (v :: m) (x :: ys) := RVs_app (RVs_one h) k
theorem RVs_head {w : World} {ok : Fl → Nat → Prop} {loc : Loc} {v : V} {x : Value} (h : RVs w ok loc [v] [x]) : RV w ok loc v x := h.2 0 v x rfl rfl
theorem RVs_ag {w : World} {ok : Fl → Nat → Prop} {loc : Loc} {l : List V} {xs : Array Value} (h : RVs w ok loc l xs.toList) : RV w ok loc (.ag l) (.agg xs) := by
  have := RV.ag (w := w) (ok := ok) (loc := loc) l xs.toList h.1 h.2
  simpa using this

section
variable {H : Type} {enc : TypeId × Value → H} {P : Program} {t e : TypeId}

theorem opn_int {k : IntKind} (hu : P.underlying t = some (.int k)) : Opn enc P t (fun n => [.c (.int k n)]) (gInt k) := by
  intro W base sp held fuel cs x h
  obtain ⟨n, rfl, _, hw⟩ := DataW.trod_int hu h
  exact ⟨n, RVs_one (.c _), hw⟩
theorem opn_bool (hu : P.underlying t = some .bool) : Opn enc P t (fun n => [.c (.bool n)]) gTrue := by
  intro W base sp held fuel cs x h
  obtain ⟨n, rfl, _⟩ := DataW.trod_bool hu h
  exact ⟨n, RVs_one (.c _), trivial⟩
theorem opn_string (hu : P.underlying t = some .string) : Opn enc P t (fun n => [.c (.string n)]) gStr := by
  intro W base sp held fuel cs x h
  obtain ⟨n, rfl, _, hw⟩ := DataW.trod_string hu h
  exact ⟨n, RVs_one (.c _), hw⟩

theorem list_of {α : Type} {n : Nat} {p : Nat → α → Prop} (h : ∀ i, i < n → ∃ a, p i a) : ∃ l : List α, l.length = n ∧ ∀ i a, l[i]? = some a → p i a := by
  induction n with
  | zero => exact ⟨[], rfl, fun i a h => by simp at h⟩
  | succ n ih =>
    obtain ⟨l, hl, hp⟩ := ih (fun i hi => h i (by omega))
    obtain ⟨a, ha⟩ := h n (by omega)
    refine ⟨l ++ [a], by simp [hl], fun i b hb => ?_⟩
    by_cases hi : i < n
    · rw [List.getElem?_append_left (by omega)] at hb
      exact hp i b hb
    · have hi2 : i < (l ++ [a]).length := (List.getElem?_eq_some_iff.1 hb).1
      have hi3 : i = n := by simp at hi2; omega
      subst hi3
      rw [List.getElem?_append_right (by omega)] at hb
      simp [hl] at hb
      subst hb
      exact ha
theorem mapM_get {α β : Type} {f : α → Option β} : ∀ {l : List α} {r : List β}, l.mapM f = some r → ∀ (i : Nat) (a : α), l[i]? = some a → f a = r[i]?
  | [], r, h, i, a, ha => by simp at ha
  | x :: l, r, h, i, a, ha => by
    simp only [List.mapM_cons, Option.bind_eq_bind, Option.bind_eq_some_iff, Option.pure_def, Option.some.injEq] at h
    obtain ⟨y, h1, ys, h2, rfl⟩ := h
    cases i with
    | zero => simp at ha; subst ha; simpa using h1
    | succ i => simpa using mapM_get h2 i a (by simpa using ha)
theorem cell_lt {w : World} {a : Addr} {v : Value} (h : w.cell? a = some v) : a.block < w.heap.size ∧ a.spot = none := by
  unfold World.cell? at h
  split at h
  · rename_i c _ _ he
    refine ⟨(Array.getElem?_eq_some_iff.1 he).1, ?_⟩
    cases hs : a.spot with
    | none => rfl
    | some x => rw [hs] at h; simp at h
  · cases h

theorem add_of {a : Addr} (hs : a.spot = none) (n : Nat) : a.add n = ⟨a.block, a.off + n, none⟩ := by
  obtain ⟨b, o, s⟩ := a
  simp at hs; subst hs
  unfold Addr.add
  split
  · rename_i h; subst h; rfl
  · rfl

theorem opn_slice {α : Type} {m : α → List V} {g : α → Prop} {sz : Nat} (hu : P.underlying t = some (.slice e)) (he : Opn enc P e m g) (hs : P.cellsOf e = sz) (h0 : 0 < sz) (hm : ∀ a, (m a).length = sz) :
    Opn enc P t (fun l => [.im .b (l.map m)]) (gList g) := by
  intro W base sp held fuel cs x h
  rcases DataW.trod_slice hu h with ⟨rfl, _⟩ | ⟨a, len, cap, elems, rest, fl, _, rfl, _, _, hl, hc, hel, hi, _, _⟩
  · exact ⟨[], RVs_one (.e _ _ _ (fun h => by cases h)), by simp, by simp⟩
  · have key : ∀ i, i < len → ∃ b : α, (∃ c, RVa W (m b) c ∧ ∀ j u, c[j]? = some u → W.cell? ((a.add (i * sz)).add j) = some u) ∧ g b := by
      intro i hlt
      have h1 := hi i hlt
      rw [List.getElem?_eq_getElem (by omega)] at h1
      obtain ⟨c, hc, htr⟩ := Option.bind_eq_some_iff.1 h1
      obtain ⟨b, hb, hg⟩ := he htr
      rw [hs] at hc
      unfold World.cells? at hc
      split at hc
      · refine ⟨b, ⟨c, hb, fun j u hu => ?_⟩, hg⟩
        have hj : j < sz := by have := (List.getElem?_eq_some_iff.1 hu).1; rw [hb.1, hm] at this; exact this
        have h2 := mapM_get hc j j (by simp [hj])
        rw [hu] at h2
        exact h2
      · cases hc
    obtain ⟨l, hll, hp⟩ := list_of key
    refine ⟨l, RVs_one ?_, by rw [hll]; omega, fun b hb => ?_⟩
    · cases l with
      | nil => simp at hll; subst hll; exact .e _ _ _ (fun h => by cases h)
      | cons b0 l0 =>
        have hl0 : 0 < len := by rw [← hll]; simp
        obtain ⟨⟨c0, hb0, hc0⟩, _⟩ := hp 0 b0 rfl
        have hlen0 : c0.length = sz := by rw [hb0.1, hm]
        have hx := hc0 0 _ (List.getElem?_eq_getElem (by omega))
        simp only [Nat.zero_mul] at hx
        have ha0 : (a.add 0).add 0 = a := rfl
        rw [ha0] at hx
        obtain ⟨hblk, hspot⟩ := cell_lt hx
        have hadd : ∀ i j, (a.add (i * sz)).add j = ⟨a.block, a.off + i * sz + j, none⟩ := fun i j => by
          rw [add_of hspot, add_of rfl]
        have hcell : ∀ i j v, el ((b0 :: l0).map m) i j = some v → ∃ u, W.cell? ⟨a.block, a.off + i * sz + j, none⟩ = some u ∧ RV W (okA W) (fun _ => none) v u := by
          intro i j v hv
          unfold el at hv
          rw [List.getElem?_map] at hv
          cases hb : (b0 :: l0)[i]? with
          | none => rw [hb] at hv; simp at hv
          | some b =>
            rw [hb] at hv
            simp at hv
            obtain ⟨⟨c, hr, hcc⟩, _⟩ := hp i b hb
            have hj : j < c.length := by rw [hr.1]; exact (List.getElem?_eq_some_iff.1 hv).1
            refine ⟨c[j], by rw [← hadd]; exact hcc j _ (List.getElem?_eq_getElem hj), hr.2 j v _ hv (List.getElem?_eq_getElem hj)⟩
        have hae : a = ⟨a.block, a.off, none⟩ := by obtain ⟨_, _, s⟩ := a; simp at hspot; subst hspot; rfl
        rw [hae]
        refine RV.im _ _ sz _ _ _ _ (fun i j => (W.cell? ⟨a.block, a.off + i * sz + j, none⟩).getD (.bool false)) (by rw [← hll]; simp) ?_ hl ⟨rfl, hblk, .inr (.inl ⟨rfl, trivial⟩)⟩ ?_ ?_
        · intro ch hch
          obtain ⟨b, _, rfl⟩ := List.mem_map.1 hch
          exact hm b
        · intro i j v hv
          obtain ⟨u, hu, _⟩ := hcell i j v hv
          simp only [hu, Option.getD_some]
        · intro i j v hv
          obtain ⟨u, hu, hr⟩ := hcell i j v hv
          simp only [hu, Option.getD_some]
          exact hr
    · obtain ⟨i, hi, rfl⟩ := List.getElem_of_mem hb
      exact (hp i _ (List.getElem?_eq_getElem hi)).2

/-- One field of a struct. -/
theorem opn_field {α : Type} {m : α → List V} {g : α → Prop} {fs : Array Field} {n sz : Nat} {W : World} {base : Nat} {sp : Nat → Bool} {held : Bool} {cs : List Value} {xs : List (DataW H × List MemPlace)} (hx : xs.length = fs.size)
    (hf : ∀ (i : Nat) (f : Field), fs[i]? = some f → DataW.trod enc P W base sp held n f.type ((cs.drop f.offset).take (P.cellsOf f.type)) = xs[i]?)
    (i : Nat) (f : Field) (hi : fs[i]? = some f) (ho : Opn enc P f.type m g) (hs : P.cellsOf f.type = sz) : ∃ a, RVa W (m a) ((cs.drop f.offset).take sz) ∧ g a := by
  have h := hf i f hi
  have hlt : i < xs.length := by
    rw [hx]
    rcases Nat.lt_or_ge i fs.size with h | h
    · exact h
    · rw [Array.getElem?_eq_none h] at hi
      cases hi
  rw [List.getElem?_eq_getElem hlt, hs] at h
  exact ho h
/-- Fields side by side. -/
theorem rv_fields {W : World} {l m : List V} {cs : List Value} {o n : Nat} (h : RVa W l ((cs.drop o).take n)) (k : RVa W m (cs.drop (o + n))) : RVa W (l ++ m) (cs.drop o) := by
  have := RVs_app h k
  rw [← List.drop_drop, List.take_append_drop] at this
  exact this
theorem rv_last {W : World} {l : List V} {cs : List Value} {o n : Nat} (h : RVa W l ((cs.drop o).take n)) (hl : cs.length = o + n) : RVa W l (cs.drop o) := by
  rw [List.take_of_length_le (by simp [hl])] at h
  exact h

/-- An argument that is one cell; one that is a struct. -/
theorem arg_one {α : Type} {m : α → V} {g : α → Prop} (ho : Opn enc P t (fun a => [m a]) g) {W : World} {sp : Nat → Bool} {held : Bool} {v : Value} {d : DataW H} {p : List MemPlace} {base : Nat} (hv : v.cells = #[v])
    (h : DataW.Trod enc P W base sp held t v d p) : ∃ a, RV W (okA W) (fun _ => none) (m a) v ∧ g a := by
  obtain ⟨fuel, hf⟩ := h
  rw [hv] at hf
  obtain ⟨a, h1, h2⟩ := ho hf
  exact ⟨a, RVs_head h1, h2⟩
theorem arg_ag {α : Type} {m : α → List V} {g : α → Prop} (ho : Opn enc P t m g) {W : World} {sp : Nat → Bool} {held : Bool} {cs : Array Value} {d : DataW H} {p : List MemPlace} {base : Nat}
    (h : DataW.Trod enc P W base sp held t (.agg cs) d p) : ∃ a, RV W (okA W) (fun _ => none) (.ag (m a)) (.agg cs) ∧ g a := by
  obtain ⟨fuel, hf⟩ := h
  have : (Value.agg cs).cells = cs := by simp [Value.cells]
  rw [this] at hf
  obtain ⟨a, h1, h2⟩ := ho hf
  exact ⟨a, RVs_ag h1, h2⟩
end
/-- A law that answers true. -/
theorem res_true {B : Nat → Prop} {w : World} {n : Nat} {x : Value} (h : ResV B w n (vb true) x) : x = .bool true := by
  obtain ⟨_, _, h, _⟩ := h
  obtain ⟨_, h⟩ := h 0 (vb true) x rfl rfl
  cases h; rfl
end Go.Proofs.Ytamdidmfcjdcgaa.D
