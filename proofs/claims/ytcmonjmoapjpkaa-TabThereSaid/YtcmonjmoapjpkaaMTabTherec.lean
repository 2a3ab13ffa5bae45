/- TabThere, packed. No condition beyond the statement's own. -/
import Derived.Test.YtcmonjmoapjpkaaMTabThereb
import Derived.ProofKit
import Derived.ChangeArms
import Derived.ChangeSlices
import Derived.Test.YtcmonjmoapjpkaaProg
section
set_option linter.unusedVariables false
set_option linter.unusedSimpArgs false
set_option linter.constructorNameAsVariable false
/- An argument of any kind that reads as data has a plain value behind it. No condition. -/
namespace Go.Proofs.Ytcmonjmoapjpkaa.D
open Go Go.RowKit

def gInt (k : IntKind) (x : Int) : Prop := (Lit.int k x).wf = true
def gTrue {α : Type} (_ : α) : Prop := True
def gStr (s : ByteArray) : Prop := s.size ≤ Go.maxLen
def gList {α : Type} (p : α → Prop) (l : List α) : Prop := l.length ≤ Go.maxLen ∧ ∀ x ∈ l, p x

/-- All may be handed back. -/
@[reducible] def bkA : Bk := ⟨fun _ => True⟩
abbrev okA (W : World) := @okf bkA (fun _ => none) W.heap.size W.heap.size
abbrev RVa (W : World) := RVs W (okA W) (fun _ => none)

/-- Whatever reads as data of type t is a plain value of this kind. -/
def Opn {H : Type} (enc : TypeId × Value → H) (P : Program) (t : TypeId) {α : Type} (m : α → List V) (good : α → Prop) : Prop :=
  ∀ {W : World} {base : Nat} {sp : Nat → Bool} {held : Bool} {fuel : Nat} {cs : List Value} {x : DataW H × List MemPlace}, DataW.trod enc P W base sp held fuel t cs = some x → ∃ a, RVa W (m a) cs ∧ good a

theorem RVs_one {w : World} {ok : Fl → Nat → Prop} {loc : Loc} {v : V} {x : Value} (h : RV w ok loc v x) : RVs w ok loc [v] [x] :=
  ⟨rfl, fun i v' x' hv hx => by
    cases i with
    | zero => simp at hv hx; subst hv hx; exact h
    | succ i => simp at hv⟩
theorem RVs_nil {w : World} {ok : Fl → Nat → Prop} {loc : Loc} : RVs w ok loc [] [] := ⟨rfl, fun i v x hv => by simp at hv⟩
theorem RVs_app {w : World} {ok : Fl → Nat → Prop} {loc : Loc} {l m : List V} {xs ys : List Value} (h : RVs w ok loc l xs) (k : RVs w ok loc m ys) : RVs w ok loc (l ++ m) (xs ++ ys) := by
  refine ⟨by simp [h.1, k.1], fun i v x hv hx => ?_⟩
  by_cases hi : i < l.length
  · rw [List.getElem?_append_left hi] at hv
    rw [List.getElem?_append_left (by rw [h.1]; exact hi)] at hx
    exact h.2 i v x hv hx
  · rw [List.getElem?_append_right (by omega)] at hv
    rw [List.getElem?_append_right (by rw [h.1]; omega), h.1] at hx
    exact k.2 _ v x hv hx
theorem RVs_cons {w : World} {ok : Fl → Nat → Prop} {loc : Loc} {v : V} {x : Value} {m : List V} {ys : List Value} (h : RV w ok loc v x) (k : RVs w ok loc m ys) : RVs w ok loc (v :: m) (x :: ys) := RVs_app (RVs_one h) k
theorem RVs_head {w : World} {ok : Fl → Nat → Prop} {loc : Loc} {v : V} {x : Value} (h : RVs w ok loc [v] [x]) : RV w ok loc v x := h.2 0 v x rfl rfl
theorem RVs_ag {w : World} {ok : Fl → Nat → Prop} {loc : Loc} {l : List V} {xs : Array Value} (h : RVs w ok loc l xs.toList) : RV w ok loc (.ag l) (.agg xs) := by
  have := RV.ag (w := w) (ok := ok) (loc := loc) l xs.toList h.1 h.2
  simpa using this

section
variable {H : Type} {enc : TypeId × Value → H} {P : Program} {t e : TypeId}

theorem opn_int {k : IntKind} (hu : P.underlying t = some (.int k)) : Opn enc P t (fun n => [.c (.int k n)]) (gInt k) := by
  intro W base sp held fuel cs x h
  obtain ⟨n, rfl, _, hw⟩ := DataW.trod_int hu h
  exact ⟨n, RVs_one (.c _), hw⟩
theorem opn_bool (hu : P.underlying t = some .bool) : Opn enc P t (fun n => [.c (.bool n)]) gTrue := by
  intro W base sp held fuel cs x h
  obtain ⟨n, rfl, _⟩ := DataW.trod_bool hu h
  exact ⟨n, RVs_one (.c _), trivial⟩
theorem opn_string (hu : P.underlying t = some .string) : Opn enc P t (fun n => [.c (.string n)]) gStr := by
  intro W base sp held fuel cs x h
  obtain ⟨n, rfl, _, hw⟩ := DataW.trod_string hu h
  exact ⟨n, RVs_one (.c _), hw⟩

theorem list_of {α : Type} {n : Nat} {p : Nat → α → Prop} (h : ∀ i, i < n → ∃ a, p i a) : ∃ l : List α, l.length = n ∧ ∀ i a, l[i]? = some a → p i a := by
  induction n with
  | zero => exact ⟨[], rfl, fun i a h => by simp at h⟩
  | succ n ih =>
    obtain ⟨l, hl, hp⟩ := ih (fun i hi => h i (by omega))
    obtain ⟨a, ha⟩ := h n (by omega)
    refine ⟨l ++ [a], by simp [hl], fun i b hb => ?_⟩
    by_cases hi : i < n
    · rw [List.getElem?_append_left (by omega)] at hb
      exact hp i b hb
    · have hi2 : i < (l ++ [a]).length := (List.getElem?_eq_some_iff.1 hb).1
      have hi3 : i = n := by simp at hi2; omega
      subst hi3
      rw [List.getElem?_append_right (by omega)] at hb
      simp [hl] at hb
      subst hb
      exact ha
theorem mapM_get {α β : Type} {f : α → Option β} : ∀ {l : List α} {r : List β}, l.mapM f = some r → ∀ (i : Nat) (a : α), l[i]? = some a → f a = r[i]?
  | [], r, h, i, a, ha => by simp at ha
  | x :: l, r, h, i, a, ha => by
    simp only [List.mapM_cons, Option.bind_eq_bind, Option.bind_eq_some_iff, Option.pure_def, Option.some.injEq] at h
    obtain ⟨y, h1, ys, h2, rfl⟩ := h
    cases i with
    | zero => simp at ha; subst ha; simpa using h1
    | succ i => simpa using mapM_get h2 i a (by simpa using ha)
theorem cell_lt {w : World} {a : Addr} {v : Value} (h : w.cell? a = some v) : a.block < w.heap.size ∧ a.spot = none := by
  unfold World.cell? at h
  split at h
  · rename_i c _ _ he
    refine ⟨(Array.getElem?_eq_some_iff.1 he).1, ?_⟩
    cases hs : a.spot with
    | none => rfl
    | some x => rw [hs] at h; simp at h
  · cases h

theorem add_of {a : Addr} (hs : a.spot = none) (n : Nat) : a.add n = ⟨a.block, a.off + n, none⟩ := by
  obtain ⟨b, o, s⟩ := a
  simp at hs; subst hs
  unfold Addr.add
  split
  · rename_i h; subst h; rfl
  · rfl

theorem opn_slice {α : Type} {m : α → List V} {g : α → Prop} {sz : Nat} (hu : P.underlying t = some (.slice e)) (he : Opn enc P e m g) (hs : P.cellsOf e = sz) (h0 : 0 < sz) (hm : ∀ a, (m a).length = sz) :
    Opn enc P t (fun l => [.im .b (l.map m)]) (gList g) := by
  intro W base sp held fuel cs x h
  rcases DataW.trod_slice hu h with ⟨rfl, _⟩ | ⟨a, len, cap, elems, rest, fl, _, rfl, _, _, hl, hc, hel, hi, _, _⟩
  · exact ⟨[], RVs_one (.e _ _ _ (fun h => by cases h)), by simp, by simp⟩
  · have key : ∀ i, i < len → ∃ b : α, (∃ c, RVa W (m b) c ∧ ∀ j u, c[j]? = some u → W.cell? ((a.add (i * sz)).add j) = some u) ∧ g b := by
      intro i hlt
      have h1 := hi i hlt
      rw [List.getElem?_eq_getElem (by omega)] at h1
      obtain ⟨c, hc, htr⟩ := Option.bind_eq_some_iff.1 h1
      obtain ⟨b, hb, hg⟩ := he htr
      rw [hs] at hc
      unfold World.cells? at hc
      split at hc
      · refine ⟨b, ⟨c, hb, fun j u hu => ?_⟩, hg⟩
        have hj : j < sz := by have := (List.getElem?_eq_some_iff.1 hu).1; rw [hb.1, hm] at this; exact this
        have h2 := mapM_get hc j j (by simp [hj])
        rw [hu] at h2
        exact h2
      · cases hc
    obtain ⟨l, hll, hp⟩ := list_of key
    refine ⟨l, RVs_one ?_, by rw [hll]; omega, fun b hb => ?_⟩
    · cases l with
      | nil => simp at hll; subst hll; exact .e _ _ _ (fun h => by cases h)
      | cons b0 l0 =>
        have hl0 : 0 < len := by rw [← hll]; simp
        obtain ⟨⟨c0, hb0, hc0⟩, _⟩ := hp 0 b0 rfl
        have hlen0 : c0.length = sz := by rw [hb0.1, hm]
        have hx := hc0 0 _ (List.getElem?_eq_getElem (by omega))
        simp only [Nat.zero_mul] at hx
        have ha0 : (a.add 0).add 0 = a := rfl
        rw [ha0] at hx
        obtain ⟨hblk, hspot⟩ := cell_lt hx
        have hadd : ∀ i j, (a.add (i * sz)).add j = ⟨a.block, a.off + i * sz + j, none⟩ := fun i j => by
          rw [add_of hspot, add_of rfl]
        have hcell : ∀ i j v, el ((b0 :: l0).map m) i j = some v → ∃ u, W.cell? ⟨a.block, a.off + i * sz + j, none⟩ = some u ∧ RV W (okA W) (fun _ => none) v u := by
          intro i j v hv
          unfold el at hv
          rw [List.getElem?_map] at hv
          cases hb : (b0 :: l0)[i]? with
          | none => rw [hb] at hv; simp at hv
          | some b =>
            rw [hb] at hv
            simp at hv
            obtain ⟨⟨c, hr, hcc⟩, _⟩ := hp i b hb
            have hj : j < c.length := by rw [hr.1]; exact (List.getElem?_eq_some_iff.1 hv).1
            refine ⟨c[j], by rw [← hadd]; exact hcc j _ (List.getElem?_eq_getElem hj), hr.2 j v _ hv (List.getElem?_eq_getElem hj)⟩
        have hae : a = ⟨a.block, a.off, none⟩ := by obtain ⟨_, _, s⟩ := a; simp at hspot; subst hspot; rfl
        rw [hae]
        refine RV.im _ _ sz _ _ _ _ (fun i j => (W.cell? ⟨a.block, a.off + i * sz + j, none⟩).getD (.bool false)) (by rw [← hll]; simp) ?_ hl ⟨rfl, hblk, .inr (.inl ⟨rfl, trivial⟩)⟩ ?_ ?_
        · intro ch hch
          obtain ⟨b, _, rfl⟩ := List.mem_map.1 hch
          exact hm b
        · intro i j v hv
          obtain ⟨u, hu, _⟩ := hcell i j v hv
          simp only [hu, Option.getD_some]
        · intro i j v hv
          obtain ⟨u, hu, hr⟩ := hcell i j v hv
          simp only [hu, Option.getD_some]
          exact hr
    · obtain ⟨i, hi, rfl⟩ := List.getElem_of_mem hb
      exact (hp i _ (List.getElem?_eq_getElem hi)).2

/-- One field of a struct. -/
theorem opn_field {α : Type} {m : α → List V} {g : α → Prop} {fs : Array Field} {n sz : Nat} {W : World} {base : Nat} {sp : Nat → Bool} {held : Bool} {cs : List Value} {xs : List (DataW H × List MemPlace)} (hx : xs.length = fs.size)
    (hf : ∀ (i : Nat) (f : Field), fs[i]? = some f → DataW.trod enc P W base sp held n f.type ((cs.drop f.offset).take (P.cellsOf f.type)) = xs[i]?)
    (i : Nat) (f : Field) (hi : fs[i]? = some f) (ho : Opn enc P f.type m g) (hs : P.cellsOf f.type = sz) : ∃ a, RVa W (m a) ((cs.drop f.offset).take sz) ∧ g a := by
  have h := hf i f hi
  have hlt : i < xs.length := by
    rw [hx]
    rcases Nat.lt_or_ge i fs.size with h | h
    · exact h
    · rw [Array.getElem?_eq_none h] at hi
      cases hi
  rw [List.getElem?_eq_getElem hlt, hs] at h
  exact ho h
/-- Fields side by side. -/
theorem rv_fields {W : World} {l m : List V} {cs : List Value} {o n : Nat} (h : RVa W l ((cs.drop o).take n)) (k : RVa W m (cs.drop (o + n))) : RVa W (l ++ m) (cs.drop o) := by
  have := RVs_app h k
  rw [← List.drop_drop, List.take_append_drop] at this
  exact this
theorem rv_last {W : World} {l : List V} {cs : List Value} {o n : Nat} (h : RVa W l ((cs.drop o).take n)) (hl : cs.length = o + n) : RVa W l (cs.drop o) := by
  rw [List.take_of_length_le (by simp [hl])] at h
  exact h

/-- An argument that is one cell; one that is a struct. -/
theorem arg_one {α : Type} {m : α → V} {g : α → Prop} (ho : Opn enc P t (fun a => [m a]) g) {W : World} {sp : Nat → Bool} {held : Bool} {v : Value} {d : DataW H} {p : List MemPlace} {base : Nat} (hv : v.cells = #[v])
    (h : DataW.Trod enc P W base sp held t v d p) : ∃ a, RV W (okA W) (fun _ => none) (m a) v ∧ g a := by
  obtain ⟨fuel, hf⟩ := h
  rw [hv] at hf
  obtain ⟨a, h1, h2⟩ := ho hf
  exact ⟨a, RVs_head h1, h2⟩
theorem arg_ag {α : Type} {m : α → List V} {g : α → Prop} (ho : Opn enc P t m g) {W : World} {sp : Nat → Bool} {held : Bool} {cs : Array Value} {d : DataW H} {p : List MemPlace} {base : Nat}
    (h : DataW.Trod enc P W base sp held t (.agg cs) d p) : ∃ a, RV W (okA W) (fun _ => none) (.ag (m a)) (.agg cs) ∧ g a := by
  obtain ⟨fuel, hf⟩ := h
  have : (Value.agg cs).cells = cs := by simp [Value.cells]
  rw [this] at hf
  obtain ⟨a, h1, h2⟩ := ho hf
  exact ⟨a, RVs_ag h1, h2⟩
end
/-- A law that answers true. -/
theorem res_true {B : Nat → Prop} {w : World} {n : Nat} {x : Value} (h : ResV B w n (vb true) x) : x = .bool true := by
  obtain ⟨_, _, h, _⟩ := h
  obtain ⟨_, h⟩ := h 0 (vb true) x rfl rfl
  cases h; rfl
end Go.Proofs.Ytcmonjmoapjpkaa.D
end
section
set_option linter.unusedVariables false
set_option linter.unusedSimpArgs false
set_option linter.constructorNameAsVariable false
/- Walking over plain values: joins, and functions that share the store. No condition. -/
namespace Go.Proofs.Ytcmonjmoapjpkaa.D
open Go Go.RowKit

section
variable {P : Program}
theorem gd_mono {g : Option (Nat × Bool)} {env : Env} {A B A' B' : Prop} (hA : A → A') (hB : B → B') (h : gd g env A B) : gd g env A' B' := by
  unfold gd at *
  split
  · exact hA h
  · obtain ⟨b, h1, h2, h3⟩ := h
    exact ⟨b, h1, fun e => hA (h2 e), fun e => hB (h3 e)⟩
theorem FnS_mono {f : FuncId} {args : List V} {ob : OB} {nid : Nat} {C C' : V → OB → Nat → Prop} (hC : ∀ r ob' n, C r ob' n → C' r ob' n) (h : FnS P f args ob nid C) : FnS P f args ob nid C' :=
  ⟨h.1, fun B n0 w own loc xs h1 h2 h3 h4 => (h.2 B n0 w own loc xs h1 h2 h3 h4).mono fun e w' ⟨x, r, ob', nid', own', loc', a1, a2, a3, a4, a5, a6⟩ => ⟨x, r, ob', nid', own', loc', a1, a2, a3, a4, a5, hC _ _ _ a6⟩⟩
theorem FnX_mono {f : FuncId} {args : List V} {ob : OB} {nid : Nat} {C C' : V → OB → Nat → Prop} (hC : ∀ r ob' n, C r ob' n → C' r ob' n) (h : FnX P f args ob nid C) : FnX P f args ob nid C' :=
  fun B n0 w own loc xs h1 h2 h3 h4 => let ⟨x, w', r, ob', nid', own', loc', a1, a2, a3, a4, a5, a6⟩ := h B n0 w own loc xs h1 h2 h3 h4; ⟨x, w', r, ob', nid', own', loc', a1, a2, a3, a4, a5, hC _ _ _ a6⟩
theorem stpR_mono {op : Ok} {vs : List V} {ob : OB} {nid : Nat} {C C' : V → OB → Nat → Prop} (hC : ∀ r ob' n, C r ob' n → C' r ob' n) (h : stpR P op vs ob nid C) : stpR P op vs ob nid C' := by
  cases op <;> first
    | exact h.imp (FnS_mono hC) (FnX_mono hC)
    | (obtain ⟨r, us, h1, h2⟩ := h; exact ⟨r, us, h1, hC _ _ _ h2⟩)
theorem wpS_mono : ∀ {l : List RO} {nid : Nat} {env : Env} {ob : OB} {J J' : Env → OB → Nat → Prop} (hJ : ∀ env ob n, J env ob n → J' env ob n), wpS P l nid env ob J → wpS P l nid env ob J'
  | [], nid, env, ob, J, J', hJ, h => hJ _ _ _ h
  | o :: l, nid, env, ob, J, J', hJ, h => by
    simp only [wpS] at h ⊢
    exact gd_mono (stpR_mono fun r ob' n h => wpS_mono hJ h) (wpS_mono hJ) h
theorem wpD_mono : ∀ {l : List RO} {nid : Nat} {env : Env} {ob : OB} {dl : Ups} {K K' : Env → OB → Prop} (hK : ∀ env ob, K env ob → K' env ob), wpD P l nid env ob dl K → wpD P l nid env ob dl K'
  | [], nid, env, ob, dl, K, K', hK, h => hK _ _ h
  | o :: l, nid, env, ob, dl, K, K', hK, h => by
    simp only [wpD] at h ⊢
    exact gd_mono (fun ⟨r, us, h1, h2⟩ => ⟨r, us, h1, wpD_mono hK h2⟩) (wpD_mono hK) h
theorem wpE_mono : ∀ {l : List RO} {nps : List (List Nat)} {nid : Nat} {env : Env} {ob : OB} {past : List (List Nat × Option (List Nat))} {K K' : Env → OB → Prop} (hK : ∀ env ob, K env ob → K' env ob), wpE P l nps nid env ob past K → wpE P l nps nid env ob past K'
  | [], nps, nid, env, ob, past, K, K', hK, h => hK _ _ h
  | o :: l, nps, nid, env, ob, past, K, K', hK, h => by
    simp only [wpE] at h ⊢
    exact gd_mono (fun ⟨r, us, h1, h2, h3⟩ => ⟨r, us, h1, h2, wpE_mono hK h3⟩) (wpE_mono hK) h
theorem wpC_mono : ∀ {c : IC} {Q Q' : Post} (hQ : ∀ e env ob n, Q e env ob n → Q' e env ob n) {env : Env} {ob : OB} {n : Nat}, wpC P c Q env ob n → wpC P c Q' env ob n := by
  intro c
  induction c with
  | skip => intro Q Q' hQ env ob n h; exact hQ _ _ _ _ h
  | rg l d =>
    intro Q Q' hQ env ob n h
    cases d with
    | false => exact wpS_mono (fun env ob n h => hQ _ _ _ _ h) h
    | true => exact wpD_mono (fun env ob h => hQ _ _ _ _ h) h
  | rb a o b =>
    intro Q Q' hQ env ob n h
    exact wpD_mono (fun env ob h => wpS_mono (fun env ob n h => wpD_mono (fun env ob h => hQ _ _ _ _ h) h) h) h
  | re m np =>
    intro Q Q' hQ env ob n h
    exact wpE_mono (fun env ob h => hQ _ _ _ _ h) h
  | sq a b iha ihb =>
    intro Q Q' hQ env ob n h
    refine iha (fun e env ob n h => ?_) h
    cases e with
    | nrm => exact ihb hQ h
    | ex i => exact hQ _ _ _ _ h
    | rt => exact hQ _ _ _ _ h
  | cn c a b iha ihb =>
    intro Q Q' hQ env ob n h
    simp only [wpC, cnd] at h ⊢
    split
    · rename_i t heq; rw [heq] at h; exact ⟨fun e => iha hQ (h.1 e), fun e => ihb hQ (h.2 e)⟩
    · rename_i heq; rw [heq] at h; exact ⟨iha hQ h.1, ihb hQ h.2⟩
    · rename_i h1 h2
      split at h
      · rename_i t heq; exact h1 t heq
      · rename_i heq; exact h2 heq
      · exact h
  | bl i a ih =>
    intro Q Q' hQ env ob n h
    refine ih (fun e env ob n h => ?_) h
    cases e with
    | ex j => simp only [blQ] at h ⊢; split <;> rename_i hj <;> simp only [hj, if_true, if_false] at h <;> exact hQ _ _ _ _ h
    | nrm => exact hQ _ _ _ _ h
    | rt => exact hQ _ _ _ _ h
  | lp a ih =>
    intro Q Q' hQ env ob n h
    obtain ⟨I, μ, h0, h1⟩ := h
    refine ⟨I, μ, h0, fun env ob n hI => ih (fun e env ob n h => ?_) (h1 env ob n hI)⟩
    cases e with
    | nrm => exact h
    | ex j => exact hQ _ _ _ _ h
    | rt => exact hQ _ _ _ _ h
  | ex i => intro Q Q' hQ env ob n h; exact hQ _ _ _ _ h
  | rt => intro Q Q' hQ env ob n h; exact hQ _ _ _ _ h

/-- A join: what holds behind the next piece of code. -/
def nJ (I : Env → OB → Nat → Prop) (Q : Post) : Post := thenQ I Q
theorem cut_C {A B : IC} {Q : Post} {env : Env} {ob : OB} {n : Nat} (I : Env → OB → Nat → Prop) (h1 : wpC P A (thenQ I Q) env ob n) (h2 : ∀ env ob n, I env ob n → wpC P B Q env ob n) : wpC P A (thenQ (wpC P B Q) Q) env ob n := by
  refine wpC_mono (fun e env ob n h => ?_) h1
  cases e with
  | nrm => exact h2 _ _ _ h
  | ex i => exact h
  | rt => exact h
theorem cut_S {A B : IC} {Q R : Post} {l : List RO} {env : Env} {ob : OB} {n : Nat} (I : Env → OB → Nat → Prop) (h1 : wpS P l n env ob (kS (thenQ (wpC P A (thenQ I Q)) R))) (h2 : ∀ env ob n, I env ob n → wpC P B Q env ob n) : wpS P l n env ob (kS (thenQ (wpC P (.sq A B) Q) R)) :=
  wpS_mono (fun env ob n h => cut_C I h h2) h1
/-- A join behind a call. -/
theorem cut_ca {A B : IC} {Q R : Post} {l : List RO} {f : Nat} {vs : List V} {m : Md} {d : Option Nat} {env : Env} {ob : OB} {n : Nat} (I : Env → OB → Nat → Prop) (h1 : caS P f vs m d l n env ob (kS (thenQ (wpC P A (thenQ I Q)) R))) (h2 : ∀ env ob n, I env ob n → wpC P B Q env ob n) : caS P f vs m d l n env ob (kS (thenQ (wpC P (.sq A B) Q) R)) := by
  obtain ⟨q, a1, a2, a3⟩ := h1
  exact ⟨q, a1, a2, cut_S I a3 h2⟩
theorem rcS_i {f : Nat} {vs : List V} {d : Option Nat} {l : List RO} {n : Nat} {env : Env} {ob : OB} {J : Env → OB → Nat → Prop} (h : FnS P f vs ob n fun r ob' n' => wpS P l n' (put env d r) ob' J) : rcS P f vs d l n env ob J := .inl h
theorem rcS_x {f : Nat} {vs : List V} {d : Option Nat} {l : List RO} {n : Nat} {env : Env} {ob : OB} {J : Env → OB → Nat → Prop} (h : FnX P f vs ob n fun r ob' n' => wpS P l n' (put env d r) ob' J) : rcS P f vs d l n env ob J := .inr h
end

section
variable {P : Program}
/-- What is behind the elements that are known: cells of whatever content. -/
theorem WF.grow [Bk] {n0 : Nat} {w : World} {own : Nat → Option Nat} {loc : Loc} {ob : OB} (hwf : WF n0 w own loc ob) {id : Nat} {o : Ob} (hob : ob id = some o) :
    ∃ c, o.l.length ≤ c ∧ (∀ c0, o.cap = some c0 → c0 = c) ∧ WF n0 w own loc (updO ob id (some ⟨o.k, o.l ++ List.replicate (c - o.l.length) (List.replicate o.k .u), some c⟩)) := by
  obtain ⟨p, hp, hor⟩ := hwf.has id o hob
  refine ⟨p.cap, hor.len, hor.cap, ⟨fun j x hx => ?_, hwf.owns, hwf.lt⟩⟩
  by_cases hj : j = id
  · subst hj
    rw [updO_s] at hx
    injection hx with hx; subst hx
    obtain ⟨cs, t, hm1, hm2⟩ := hor.mem
    refine ⟨p, hp, ⟨⟨cs, t, hm1, hm2⟩, hor.k, by simp; have := hor.len; omega, fun ch hch => ?_, fun i q v hv => ?_, fun c hc => by injection hc with hc; exact hc.symm⟩⟩
    · rcases List.mem_append.1 hch with h | h
      · exact hor.rows ch h
      · rw [List.eq_of_mem_replicate h]; simpa using hor.k
    · obtain ⟨r, h1, h2⟩ := el_some hv
      by_cases hi : i < o.l.length
      · rw [List.getElem?_append_left hi] at h1
        exact hor.cells i q v (el_mk h1 h2)
      · rw [List.getElem?_append_right (by omega)] at h1
        have hi2 : i - o.l.length < p.cap - o.l.length := by have := (List.getElem?_eq_some_iff.1 h1).1; simpa using this
        rw [List.getElem?_replicate, if_pos hi2] at h1
        injection h1 with h1; subst h1
        have hq : q < o.k := by have := (List.getElem?_eq_some_iff.1 h2).1; simpa using this
        rw [List.getElem?_replicate, if_pos hq] at h2
        injection h2 with h2; subst h2
        have hlt : p.base + i * p.k + q < cs.size := by
          have h3 : (i + 1) * p.k ≤ p.cap * p.k := Nat.mul_le_mul_right _ (by omega)
          rw [Nat.add_mul] at h3
          have := hor.k; omega
        exact ⟨cs[p.base + i * p.k + q], by simp [World.cell?, hm1, hlt], .u _⟩
  · rw [updO, if_neg hj] at hx
    exact hwf.has j x hx
theorem FnS_grow {f : FuncId} {args : List V} {ob : OB} {nid : Nat} {C : V → OB → Nat → Prop} {id : Nat} {o : Ob} (hob : ob id = some o)
    (h : ∀ c, o.l.length ≤ c → (∀ c0, o.cap = some c0 → c0 = c) → FnS P f args (updO ob id (some ⟨o.k, o.l ++ List.replicate (c - o.l.length) (List.replicate o.k .u), some c⟩)) nid C) (hcl : callable P f = true) : FnS P f args ob nid C := by
  refine ⟨hcl, fun B n0 w own loc xs h1 h2 h3 h4 => ?_⟩
  obtain ⟨c, hc1, hc2, hwf⟩ := h1.grow hob
  exact (h c hc1 hc2).2 B n0 w own loc xs hwf h2 h3 h4
/-- Less is known. -/
def Less (ob'' ob' : OB) : Prop := ∀ id o, ob'' id = some o → ∃ o', ob' id = some o' ∧ o.k = o'.k ∧ (∃ m, o.l = o'.l.take m) ∧ ∀ c, o.cap = some c → o'.cap = some c
theorem WF.less [Bk] {n0 : Nat} {w : World} {own : Nat → Option Nat} {loc : Loc} {ob' ob'' : OB} (hwf : WF n0 w own loc ob') (h : Less ob'' ob') : WF n0 w own loc ob'' := by
  refine ⟨fun id o ho => ?_, hwf.owns, hwf.lt⟩
  obtain ⟨o', h1, h2, ⟨m, h3⟩, h4⟩ := h id o ho
  obtain ⟨p, hp, hor⟩ := hwf.has id o' h1
  refine ⟨p, hp, ⟨hor.mem, by rw [h2]; exact hor.k, by rw [h3]; have := hor.len; simp; omega, fun ch hch => hor.rows ch (by rw [h3] at hch; exact List.mem_of_mem_take hch), fun i j v hv => hor.cells i j v ?_, fun c hc => hor.cap c (h4 c hc)⟩⟩
  rw [h3] at hv
  have := el_take_drop (l := o'.l) (a := 0) (n := m) (i := i) (j := j) (v := v) (by simpa using hv)
  simpa using this
theorem FnS_less {f : FuncId} {args : List V} {ob : OB} {nid : Nat} {C : V → OB → Nat → Prop} (h : FnS P f args ob nid fun r ob' n => ∃ ob'', Less ob'' ob' ∧ C r ob'' n) : FnS P f args ob nid C :=
  ⟨h.1, fun B n0 w own loc xs h1 h2 h3 h4 => (h.2 B n0 w own loc xs h1 h2 h3 h4).mono fun e w' ⟨x, r, ob', nid', own', loc', a1, a2, a3, a4, a5, ob'', a6, a7⟩ => ⟨x, r, ob'', nid', own', loc', a1, a2, a3.less a6, a4, a5, a7⟩⟩
end

end Go.Proofs.Ytcmonjmoapjpkaa.D
end
section
set_option linter.unusedVariables false
set_option maxRecDepth 100000
set_option linter.constructorNameAsVariable false
/- The functions, told over by a program of this session; Lean checks that they are the program's own. No condition. -/
namespace Go.Proofs.Ytcmonjmoapjpkaa.D
open Go Go.Proofs
-- raddle/raddlelaw13.TabThere
def c3 : IC := .sq (.rg [⟨(some 2), none, (.box (some 1)), [.t 0]⟩, ⟨(some 4), none, .mv, [.k (.c (.bool false))]⟩] false) (.sq (.sq (.rg [⟨(some 21), none, (.ld (some 1)), [.t 2]⟩, ⟨(some 22), none, (.call 8 .fz), [.t 21]⟩, ⟨(some 23), none, .mv, [.t 22]⟩, ⟨(some 24), (some (23, false)), .mv, [.t 1]⟩, ⟨(some 25), (some (23, false)), (.call 9 .fz), [.t 24]⟩, ⟨(some 26), none, .pick, [.t 23, .k (.c (.bool true)), .t 25]⟩, ⟨(some 27), none, .mv, [.t 26]⟩, ⟨(some 28), (some (27, false)), (.ld (some 1)), [.t 2]⟩, ⟨(some 29), (some (27, false)), (.bsl 1 [.z] [0] 1 true), [.t 28]⟩, ⟨(some 30), (some (27, false)), (.call 10 .fz), [.t 29]⟩, ⟨(some 31), (some (27, false)), (.bin .neq), [.t 30, .k (.c (.int .i64 0))]⟩, ⟨(some 32), none, .pick, [.t 27, .k (.c (.bool true)), .t 31]⟩] false) (.cn (.t 32) (.sq (.rg [⟨(some 4), none, .mv, [.k (.c (.bool true))]⟩] false) (.rt)) (.skip))) (.sq (.rg [⟨(some 5), none, .mv, [.k .z]⟩] false) (.sq (.rg [⟨(some 6), none, .mv, [.k .z]⟩] false) (.sq (.sq (.rg [⟨(some 7), none, .mv, [.k (.c (.int .i64 0))]⟩] false) (.bl 0 (.lp (.sq (.sq (.rg [⟨(some 33), none, .mv, [.t 7]⟩, ⟨(some 34), none, .mv, [.t 1]⟩, ⟨(some 35), none, .len, [.t 34]⟩, ⟨(some 36), none, (.bin .lss), [.t 33, .t 35]⟩, ⟨(some 37), none, .mv, [.t 36]⟩, ⟨(some 38), (some (37, true)), .mv, [.t 7]⟩, ⟨(some 39), (some (37, true)), (.bin .lss), [.t 38, .k (.c (.int .i64 40))]⟩, ⟨(some 40), none, .pick, [.t 37, .t 39, .k (.c (.bool false))]⟩] false) (.cn (.t 40) (.skip) (.ex 0))) (.sq (.bl 1 (.sq (.rg [⟨(some 44), none, (.ld (some 1)), [.t 2]⟩, ⟨(some 45), none, .mv, [.t 5]⟩, ⟨(some 46), none, .mv, [.t 1]⟩, ⟨(some 47), none, .mv, [.t 7]⟩, ⟨(some 48), none, (.ia 12), [.t 46, .t 47]⟩, ⟨(some 49), none, (.ld (some 12)), [.t 48]⟩, ⟨(some 50), none, (.call 11 .fz), [.t 44, .t 45, .t 49]⟩, ⟨(some 43), none, .mv, [.t 50]⟩, ⟨(some 51), none, (.ext 0), [.t 43]⟩, ⟨(some 52), none, (.ext 1), [.t 43]⟩, ⟨(some 53), none, (.ext 2), [.t 43]⟩, ⟨(some 54), none, (.ext 3), [.t 43]⟩, ⟨(some 8), none, .mv, [.t 51]⟩, ⟨(some 9), none, .mv, [.t 52]⟩, ⟨(some 10), none, .mv, [.t 53]⟩, ⟨(some 11), none, .mv, [.t 54]⟩] true) (.sq (.rg [⟨(some 55), none, .mv, [.t 11]⟩, ⟨(some 56), none, (.bin .eql), [.t 55, .k (.c (.int .i64 0))]⟩] false) (.cn (.t 56) (.rg [⟨(some 57), none, .mv, [.t 8]⟩, ⟨(some 58), none, .mv, [.t 6]⟩, ⟨(some 59), none, .mv, [.t 1]⟩, ⟨(some 60), none, .mv, [.t 7]⟩, ⟨(some 61), none, (.ia 12), [.t 59, .t 60]⟩, ⟨(some 62), none, (.ld (some 12)), [.t 61]⟩, ⟨(some 63), none, (.bsl 12 [(.c (.int .i64 0)), (.c (.int .i64 0)), .z, (.c (.int .i64 0)), (.c (.int .i64 0)), (.c (.int .i64 0)), (.c (.int .i64 0)), (.c (.int .i64 0)), (.c (.string ⟨#[]⟩)), (.c (.int .i64 0)), .z, .z] [0] 1 true), [.t 62]⟩, ⟨(some 64), none, (.app 12), [.t 58, .t 63]⟩, ⟨(some 5), none, .mv, [.t 57]⟩, ⟨(some 6), none, .mv, [.t 64]⟩] false) (.skip))))) (.rg [⟨(some 41), none, .mv, [.t 7]⟩, ⟨(some 42), none, (.bin .add), [.t 41, .k (.c (.int .i64 1))]⟩, ⟨(some 7), none, .mv, [.t 42]⟩] false)))))) (.sq (.rg [⟨(some 12), none, .mv, [.k (.c (.int .i64 0))]⟩] false) (.sq (.sq (.rg [⟨(some 13), none, .mv, [.k (.c (.int .i64 0))]⟩] false) (.bl 2 (.lp (.sq (.sq (.rg [⟨(some 65), none, .mv, [.t 13]⟩, ⟨(some 66), none, .mv, [.t 5]⟩, ⟨(some 67), none, .len, [.t 66]⟩, ⟨(some 68), none, (.bin .lss), [.t 65, .t 67]⟩] false) (.cn (.t 68) (.skip) (.ex 2))) (.sq (.bl 3 (.sq (.sq (.rg [⟨(some 71), none, .mv, [.t 5]⟩, ⟨(some 72), none, .mv, [.t 13]⟩, ⟨(some 73), none, (.ia 3), [.t 71, .t 72]⟩, ⟨(some 74), none, (.fa 1), [.t 73]⟩, ⟨(some 75), none, (.ld none), [.t 74]⟩, ⟨(some 76), none, .len, [.t 75]⟩, ⟨(some 77), none, (.bin .gtr), [.t 76, .k (.c (.int .i64 0))]⟩] false) (.cn (.t 77) (.rg [⟨(some 78), none, .mv, [.t 12]⟩, ⟨(some 79), none, (.bin .add), [.t 78, .k (.c (.int .i64 1))]⟩, ⟨(some 12), none, .mv, [.t 79]⟩] false) (.skip))) (.sq (.sq (.rg [⟨(some 14), none, .mv, [.k (.c (.int .i64 0))]⟩] false) (.bl 4 (.lp (.sq (.sq (.rg [⟨(some 80), none, .mv, [.t 14]⟩, ⟨(some 81), none, .mv, [.t 5]⟩, ⟨(some 82), none, .mv, [.t 13]⟩, ⟨(some 83), none, (.ia 3), [.t 81, .t 82]⟩, ⟨(some 84), none, (.fa 1), [.t 83]⟩, ⟨(some 85), none, (.ld none), [.t 84]⟩, ⟨(some 86), none, .len, [.t 85]⟩, ⟨(some 87), none, (.bin .lss), [.t 80, .t 86]⟩] false) (.cn (.t 87) (.skip) (.ex 4))) (.sq (.bl 5 (.sq (.rg [⟨(some 15), none, .mv, [.k (.c (.bool false))]⟩] false) (.sq (.sq (.rg [⟨(some 16), none, .mv, [.k (.c (.int .i64 0))]⟩] false) (.bl 6 (.lp (.sq (.sq (.rg [⟨(some 90), none, .mv, [.t 16]⟩, ⟨(some 91), none, .mv, [.t 6]⟩, ⟨(some 92), none, .len, [.t 91]⟩, ⟨(some 93), none, (.bin .lss), [.t 90, .t 92]⟩] false) (.cn (.t 93) (.skip) (.ex 6))) (.sq (.bl 7 (.sq (.sq (.rg [⟨(some 96), none, .mv, [.t 6]⟩, ⟨(some 97), none, .mv, [.t 16]⟩, ⟨(some 98), none, (.ia 12), [.t 96, .t 97]⟩, ⟨(some 99), none, (.fa 8), [.t 98]⟩, ⟨(some 100), none, (.ld none), [.t 99]⟩, ⟨(some 101), none, .mv, [.t 5]⟩, ⟨(some 102), none, .mv, [.t 13]⟩, ⟨(some 103), none, (.ia 3), [.t 101, .t 102]⟩, ⟨(some 104), none, (.fa 0), [.t 103]⟩, ⟨(some 105), none, (.ld none), [.t 104]⟩, ⟨(some 106), none, (.bin .neq), [.t 100, .t 105]⟩] true) (.cn (.t 106) (.ex 7) (.skip))) (.sq (.sq (.rg [⟨(some 107), none, .mv, [.t 6]⟩, ⟨(some 108), none, .mv, [.t 16]⟩, ⟨(some 109), none, (.ia 12), [.t 107, .t 108]⟩, ⟨(some 110), none, (.fa 6), [.t 109]⟩, ⟨(some 111), none, (.ld none), [.t 110]⟩, ⟨(some 112), none, (.bin .eql), [.t 111, .k (.c (.int .i64 1))]⟩, ⟨(some 113), none, .mv, [.t 112]⟩, ⟨(some 114), (some (113, true)), .mv, [.t 6]⟩, ⟨(some 115), (some (113, true)), .mv, [.t 16]⟩, ⟨(some 116), (some (113, true)), (.ia 12), [.t 114, .t 115]⟩, ⟨(some 117), (some (113, true)), (.fa 0), [.t 116]⟩, ⟨(some 118), (some (113, true)), (.ld (some 2)), [.t 117]⟩, ⟨(some 119), (some (113, true)), .mv, [.t 5]⟩, ⟨(some 120), (some (113, true)), .mv, [.t 13]⟩, ⟨(some 121), (some (113, true)), (.ia 3), [.t 119, .t 120]⟩, ⟨(some 122), (some (113, true)), (.fa 1), [.t 121]⟩, ⟨(some 123), (some (113, true)), (.ld none), [.t 122]⟩, ⟨(some 124), (some (113, true)), .mv, [.t 14]⟩, ⟨(some 125), (some (113, true)), (.ia 2), [.t 123, .t 124]⟩, ⟨(some 126), (some (113, true)), (.ld (some 2)), [.t 125]⟩, ⟨(some 127), (some (113, true)), (.call 12 .fz), [.t 118, .t 126]⟩, ⟨(some 128), none, .pick, [.t 113, .t 127, .k (.c (.bool false))]⟩] true) (.cn (.t 128) (.rg [⟨(some 15), none, .mv, [.k (.c (.bool true))]⟩] false) (.skip))) (.sq (.rg [⟨(some 17), none, .mv, [.k (.c (.int .i64 0))]⟩] false) (.bl 8 (.lp (.sq (.sq (.rg [⟨(some 129), none, .mv, [.t 17]⟩, ⟨(some 130), none, .mv, [.t 6]⟩, ⟨(some 131), none, .mv, [.t 16]⟩, ⟨(some 132), none, (.ia 12), [.t 130, .t 131]⟩, ⟨(some 133), none, (.fa 11), [.t 132]⟩, ⟨(some 134), none, (.ld none), [.t 133]⟩, ⟨(some 135), none, .len, [.t 134]⟩, ⟨(some 136), none, (.bin .lss), [.t 129, .t 135]⟩, ⟨(some 137), none, .mv, [.t 136]⟩, ⟨(some 138), (some (137, true)), .mv, [.t 6]⟩, ⟨(some 139), (some (137, true)), .mv, [.t 16]⟩, ⟨(some 140), (some (137, true)), (.ia 12), [.t 138, .t 139]⟩, ⟨(some 141), (some (137, true)), (.fa 6), [.t 140]⟩, ⟨(some 142), (some (137, true)), (.ld none), [.t 141]⟩, ⟨(some 143), (some (137, true)), (.bin .eql), [.t 142, .k (.c (.int .i64 3))]⟩, ⟨(some 144), none, .pick, [.t 137, .t 143, .k (.c (.bool false))]⟩] false) (.cn (.t 144) (.skip) (.ex 8))) (.sq (.bl 9 (.rg [⟨(some 147), none, .mv, [.t 15]⟩, ⟨(some 148), none, .mv, [.t 147]⟩, ⟨(some 149), (some (148, true)), .mv, [.t 6]⟩, ⟨(some 150), (some (148, true)), .mv, [.t 16]⟩, ⟨(some 151), (some (148, true)), (.ia 12), [.t 149, .t 150]⟩, ⟨(some 152), (some (148, true)), (.fa 11), [.t 151]⟩, ⟨(some 153), (some (148, true)), (.ld none), [.t 152]⟩, ⟨(some 154), (some (148, true)), .mv, [.t 17]⟩, ⟨(some 155), (some (148, true)), (.ia 2), [.t 153, .t 154]⟩, ⟨(some 156), (some (148, true)), (.ld (some 2)), [.t 155]⟩, ⟨(some 157), (some (148, true)), .mv, [.t 5]⟩, ⟨(some 158), (some (148, true)), .mv, [.t 13]⟩, ⟨(some 159), (some (148, true)), (.ia 3), [.t 157, .t 158]⟩, ⟨(some 160), (some (148, true)), (.fa 1), [.t 159]⟩, ⟨(some 161), (some (148, true)), (.ld none), [.t 160]⟩, ⟨(some 162), (some (148, true)), .mv, [.t 14]⟩, ⟨(some 163), (some (148, true)), (.ia 2), [.t 161, .t 162]⟩, ⟨(some 164), (some (148, true)), (.ld (some 2)), [.t 163]⟩, ⟨(some 165), (some (148, true)), (.call 12 .fz), [.t 156, .t 164]⟩, ⟨(some 166), (some (148, true)), (.un .not), [.t 165]⟩, ⟨(some 167), none, .pick, [.t 148, .t 166, .k (.c (.bool false))]⟩, ⟨(some 15), none, .mv, [.t 167]⟩] true)) (.rg [⟨(some 145), none, .mv, [.t 17]⟩, ⟨(some 146), none, (.bin .add), [.t 145, .k (.c (.int .i64 1))]⟩, ⟨(some 17), none, .mv, [.t 146]⟩] false))))))))) (.rg [⟨(some 94), none, .mv, [.t 16]⟩, ⟨(some 95), none, (.bin .add), [.t 94, .k (.c (.int .i64 1))]⟩, ⟨(some 16), none, .mv, [.t 95]⟩] false)))))) (.sq (.rg [⟨(some 168), none, .mv, [.t 15]⟩, ⟨(some 169), none, (.un .not), [.t 168]⟩] false) (.cn (.t 169) (.sq (.rg [⟨(some 4), none, .mv, [.k (.c (.bool false))]⟩] false) (.rt)) (.skip)))))) (.rg [⟨(some 88), none, .mv, [.t 14]⟩, ⟨(some 89), none, (.bin .add), [.t 88, .k (.c (.int .i64 1))]⟩, ⟨(some 14), none, .mv, [.t 89]⟩] false)))))) (.sq (.sq (.rg [⟨(some 170), none, .mv, [.t 5]⟩, ⟨(some 171), none, .mv, [.t 13]⟩, ⟨(some 172), none, (.ia 3), [.t 170, .t 171]⟩, ⟨(some 173), none, (.fa 2), [.t 172]⟩, ⟨(some 174), none, (.ld none), [.t 173]⟩, ⟨(some 175), none, .len, [.t 174]⟩, ⟨(some 176), none, (.fa 0), [.t 2]⟩, ⟨(some 177), none, (.ld none), [.t 176]⟩, ⟨(some 178), none, .len, [.t 177]⟩, ⟨(some 179), none, (.bin .neq), [.t 175, .t 178]⟩] true) (.cn (.t 179) (.sq (.rg [⟨(some 4), none, .mv, [.k (.c (.bool false))]⟩] false) (.rt)) (.skip))) (.sq (.rg [⟨(some 18), none, .mv, [.k (.c (.int .i64 0))]⟩] false) (.bl 10 (.lp (.sq (.sq (.rg [⟨(some 180), none, .mv, [.t 18]⟩, ⟨(some 181), none, .mv, [.t 5]⟩, ⟨(some 182), none, .mv, [.t 13]⟩, ⟨(some 183), none, (.ia 3), [.t 181, .t 182]⟩, ⟨(some 184), none, (.fa 2), [.t 183]⟩, ⟨(some 185), none, (.ld none), [.t 184]⟩, ⟨(some 186), none, .len, [.t 185]⟩, ⟨(some 187), none, (.bin .lss), [.t 180, .t 186]⟩] false) (.cn (.t 187) (.skip) (.ex 10))) (.sq (.bl 11 (.sq (.rg [⟨(some 19), none, .mv, [.k (.c (.int .i64 0))]⟩] false) (.bl 12 (.lp (.sq (.sq (.rg [⟨(some 190), none, .mv, [.t 19]⟩, ⟨(some 191), none, .mv, [.t 6]⟩, ⟨(some 192), none, .len, [.t 191]⟩, ⟨(some 193), none, (.bin .lss), [.t 190, .t 192]⟩] false) (.cn (.t 193) (.skip) (.ex 12))) (.sq (.bl 13 (.sq (.rg [⟨(some 196), none, .mv, [.t 6]⟩, ⟨(some 197), none, .mv, [.t 19]⟩, ⟨(some 198), none, (.ia 12), [.t 196, .t 197]⟩, ⟨(some 199), none, (.ld (some 12)), [.t 198]⟩, ⟨(some 20), none, (.alloc [(.c (.int .i64 0)), (.c (.int .i64 0)), .z, (.c (.int .i64 0)), (.c (.int .i64 0)), (.c (.int .i64 0)), (.c (.int .i64 0)), (.c (.int .i64 0)), (.c (.string ⟨#[]⟩)), (.c (.int .i64 0)), .z, .z]), []⟩, ⟨none, none, (.st 12), [.t 20, .t 199]⟩] false) (.sq (.rg [⟨(some 200), none, (.fa 8), [.t 20]⟩, ⟨(some 201), none, (.ld none), [.t 200]⟩, ⟨(some 202), none, .mv, [.t 5]⟩, ⟨(some 203), none, .mv, [.t 13]⟩, ⟨(some 204), none, (.ia 3), [.t 202, .t 203]⟩, ⟨(some 205), none, (.fa 0), [.t 204]⟩, ⟨(some 206), none, (.ld none), [.t 205]⟩, ⟨(some 207), none, (.bin .eql), [.t 201, .t 206]⟩, ⟨(some 208), none, .mv, [.t 207]⟩, ⟨(some 209), (some (208, true)), (.fa 6), [.t 20]⟩, ⟨(some 210), (some (208, true)), (.ld none), [.t 209]⟩, ⟨(some 211), (some (208, true)), (.bin .eql), [.t 210, .k (.c (.int .i64 1))]⟩, ⟨(some 212), (some (208, true)), .mv, [.t 211]⟩, ⟨(some 213), (some (212, false)), (.fa 6), [.t 20]⟩, ⟨(some 214), (some (212, false)), (.ld none), [.t 213]⟩, ⟨(some 215), (some (212, false)), (.bin .eql), [.t 214, .k (.c (.int .i64 2))]⟩, ⟨(some 216), (some (212, false)), .mv, [.t 215]⟩, ⟨(some 217), (some (216, true)), (.fa 9), [.t 20]⟩, ⟨(some 218), (some (216, true)), (.ld none), [.t 217]⟩, ⟨(some 219), (some (216, true)), .mv, [.t 18]⟩, ⟨(some 220), (some (216, true)), (.bin .eql), [.t 218, .t 219]⟩, ⟨(some 221), (some (212, false)), .pick, [.t 216, .t 220, .k (.c (.bool false))]⟩, ⟨(some 222), (some (208, true)), .pick, [.t 212, .k (.c (.bool true)), .t 221]⟩, ⟨(some 223), none, .pick, [.t 208, .t 222, .k (.c (.bool false))]⟩, ⟨(some 224), none, .mv, [.t 223]⟩, ⟨(some 225), (some (224, true)), (.fa 3), [.t 20]⟩, ⟨(some 226), (some (224, true)), (.ld (some 3)), [.t 225]⟩, ⟨(some 227), (some (224, true)), .mv, [.t 5]⟩, ⟨(some 228), (some (224, true)), .mv, [.t 13]⟩, ⟨(some 229), (some (224, true)), (.ia 3), [.t 227, .t 228]⟩, ⟨(some 230), (some (224, true)), (.fa 2), [.t 229]⟩, ⟨(some 231), (some (224, true)), (.ld none), [.t 230]⟩, ⟨(some 232), (some (224, true)), .mv, [.t 18]⟩, ⟨(some 233), (some (224, true)), (.ia 8), [.t 231, .t 232]⟩, ⟨(some 234), (some (224, true)), (.fa 3), [.t 233]⟩, ⟨(some 235), (some (224, true)), (.ld (some 3)), [.t 234]⟩, ⟨(some 236), (some (224, true)), (.call 13 .fz), [.t 226, .t 235]⟩, ⟨(some 237), (some (224, true)), (.bin .gtr), [.t 236, .k (.c (.int .i64 0))]⟩, ⟨(some 238), none, .pick, [.t 224, .t 237, .k (.c (.bool false))]⟩] true) (.cn (.t 238) (.sq (.rg [⟨(some 4), none, .mv, [.k (.c (.bool false))]⟩] false) (.rt)) (.skip))))) (.rg [⟨(some 194), none, .mv, [.t 19]⟩, ⟨(some 195), none, (.bin .add), [.t 194, .k (.c (.int .i64 1))]⟩, ⟨(some 19), none, .mv, [.t 195]⟩] false))))))) (.rg [⟨(some 188), none, .mv, [.t 18]⟩, ⟨(some 189), none, (.bin .add), [.t 188, .k (.c (.int .i64 1))]⟩, ⟨(some 18), none, .mv, [.t 189]⟩] false)))))))))) (.rg [⟨(some 69), none, .mv, [.t 13]⟩, ⟨(some 70), none, (.bin .add), [.t 69, .k (.c (.int .i64 1))]⟩, ⟨(some 13), none, .mv, [.t 70]⟩] false)))))) (.sq (.rg [⟨(some 239), none, (.ld (some 1)), [.t 2]⟩, ⟨(some 240), none, .mv, [.t 5]⟩, ⟨(some 241), none, (.call 14 .fz), [.t 239, .t 240]⟩, ⟨(some 242), none, .len, [.t 241]⟩, ⟨(some 243), none, .mv, [.t 12]⟩, ⟨(some 244), none, (.bin .eql), [.t 242, .t 243]⟩, ⟨(some 245), none, .mv, [.t 244]⟩, ⟨(some 246), (some (245, true)), .mv, [.t 5]⟩, ⟨(some 247), (some (245, true)), (.call 15 .fz), [.t 246]⟩, ⟨(some 248), (some (245, true)), .mv, [.t 5]⟩, ⟨(some 249), (some (245, true)), .len, [.t 248]⟩, ⟨(some 250), (some (245, true)), .mv, [.t 12]⟩, ⟨(some 251), (some (245, true)), (.bin .sub), [.t 249, .t 250]⟩, ⟨(some 252), (some (245, true)), (.bin .eql), [.t 247, .t 251]⟩, ⟨(some 253), none, .pick, [.t 245, .t 252, .k (.c (.bool false))]⟩, ⟨(some 254), none, .mv, [.t 253]⟩, ⟨(some 255), (some (254, true)), (.call 16 .fz), []⟩, ⟨(some 256), none, .pick, [.t 254, .t 255, .k (.c (.bool false))]⟩, ⟨(some 4), none, .mv, [.t 256]⟩] false) (.rt))))))))
theorem cf3 : compF Try.prog 3 c3 = some ⟨c3, [.t 4], 257⟩ := by kernel_rfl

-- raddle/raddlelaw13.TabLatest
def c4 : IC := .sq (.rg [⟨(some 4), none, .mv, [.k (.c (.bool false))]⟩] false) (.sq (.sq (.rg [⟨(some 17), none, .mv, [.t 0]⟩, ⟨(some 18), none, .len, [.t 17]⟩, ⟨(some 19), none, (.bin .lss), [.t 18, .k (.c (.int .i64 1))]⟩, ⟨(some 20), none, .mv, [.t 19]⟩, ⟨(some 21), (some (20, false)), .mv, [.t 0]⟩, ⟨(some 22), (some (20, false)), .len, [.t 21]⟩, ⟨(some 23), (some (20, false)), (.bin .gtr), [.t 22, .k (.c (.int .i64 20))]⟩, ⟨(some 24), none, .pick, [.t 20, .k (.c (.bool true)), .t 23]⟩] false) (.cn (.t 24) (.sq (.rg [⟨(some 4), none, .mv, [.k (.c (.bool true))]⟩] false) (.rt)) (.skip))) (.sq (.rg [⟨(some 25), none, (.bsl 1 [(.c (.int .i64 0))] [0] 1 true), [.k (.c (.int .i64 3))]⟩, ⟨(some 26), none, (.bld [.z] [(0, 1)]), [.t 25]⟩, ⟨(some 5), none, (.alloc [.z]), []⟩, ⟨none, none, (.st 1), [.t 5, .t 26]⟩] false) (.sq (.rg [⟨(some 6), none, .mv, [.k (.c (.int .i64 0))]⟩] false) (.sq (.rg [⟨(some 7), none, .mv, [.k .z]⟩] false) (.sq (.sq (.rg [⟨(some 8), none, .mv, [.k (.c (.int .i64 0))]⟩] false) (.bl 0 (.lp (.sq (.sq (.rg [⟨(some 27), none, .mv, [.t 8]⟩, ⟨(some 28), none, .mv, [.t 0]⟩, ⟨(some 29), none, .len, [.t 28]⟩, ⟨(some 30), none, (.bin .lss), [.t 27, .t 29]⟩] false) (.cn (.t 30) (.skip) (.ex 0))) (.sq (.bl 1 (.sq (.rg [⟨(some 33), none, .mv, [.t 0]⟩, ⟨(some 34), none, .mv, [.t 8]⟩, ⟨(some 35), none, (.ia 1), [.t 33, .t 34]⟩, ⟨(some 36), none, (.ld none), [.t 35]⟩, ⟨(some 37), none, (.conv .u64), [.t 36]⟩, ⟨(some 38), none, (.bin .rem), [.t 37, .k (.c (.int .u64 1000))]⟩, ⟨(some 39), none, (.conv .i64), [.t 38]⟩, ⟨(some 40), none, (.bin .mul), [.t 39, .k (.c (.int .i64 20))]⟩, ⟨(some 41), none, .mv, [.t 8]⟩, ⟨(some 42), none, (.bin .add), [.t 40, .t 41]⟩, ⟨(some 9), none, .mv, [.t 42]⟩] false) (.sq (.sq (.rg [⟨(some 43), none, .mv, [.t 9]⟩, ⟨(some 44), none, .mv, [.t 0]⟩, ⟨(some 45), none, .mv, [.t 6]⟩, ⟨(some 46), none, (.ia 1), [.t 44, .t 45]⟩, ⟨(some 47), none, (.ld none), [.t 46]⟩, ⟨(some 48), none, (.conv .u64), [.t 47]⟩, ⟨(some 49), none, (.bin .rem), [.t 48, .k (.c (.int .u64 1000))]⟩, ⟨(some 50), none, (.conv .i64), [.t 49]⟩, ⟨(some 51), none, (.bin .mul), [.t 50, .k (.c (.int .i64 20))]⟩, ⟨(some 52), none, .mv, [.t 6]⟩, ⟨(some 53), none, (.bin .add), [.t 51, .t 52]⟩, ⟨(some 54), none, (.bin .gtr), [.t 43, .t 53]⟩] false) (.cn (.t 54) (.rg [⟨(some 55), none, .mv, [.t 8]⟩, ⟨(some 6), none, .mv, [.t 55]⟩] false) (.skip))) (.rg [⟨(some 56), none, .mv, [.t 7]⟩, ⟨(some 57), none, .mv, [.t 8]⟩, ⟨(some 58), none, (.bin .rem), [.t 57, .k (.c (.int .i64 3))]⟩, ⟨(some 59), none, .mv, [.t 8]⟩, ⟨(some 60), none, (.bin .quo), [.t 59, .k (.c (.int .i64 3))]⟩, ⟨(some 61), none, (.bin .add), [.t 60, .k (.c (.int .i64 1))]⟩, ⟨(some 62), none, .mv, [.t 9]⟩, ⟨(some 63), none, .mv, [.t 8]⟩, ⟨(some 64), none, (.call 17 .fz), [.k (.c (.string ⟨#[107]⟩)), .t 58, .t 61, .t 62, .t 63]⟩, ⟨(some 65), none, (.bsl 12 [(.c (.int .i64 0)), (.c (.int .i64 0)), .z, (.c (.int .i64 0)), (.c (.int .i64 0)), (.c (.int .i64 0)), (.c (.int .i64 0)), (.c (.int .i64 0)), (.c (.string ⟨#[]⟩)), (.c (.int .i64 0)), .z, .z] [0] 1 true), [.t 64]⟩, ⟨(some 66), none, (.app 12), [.t 56, .t 65]⟩, ⟨(some 7), none, .mv, [.t 66]⟩] false)))) (.rg [⟨(some 31), none, .mv, [.t 8]⟩, ⟨(some 32), none, (.bin .add), [.t 31, .k (.c (.int .i64 1))]⟩, ⟨(some 8), none, .mv, [.t 32]⟩] false)))))) (.sq (.rg [⟨(some 10), none, .mv, [.k .z]⟩] false) (.sq (.sq (.rg [⟨(some 11), none, .mv, [.k (.c (.int .i64 0))]⟩] false) (.bl 2 (.lp (.sq (.sq (.rg [⟨(some 67), none, .mv, [.t 11]⟩, ⟨(some 68), none, .mv, [.t 7]⟩, ⟨(some 69), none, .len, [.t 68]⟩, ⟨(some 70), none, (.bin .lss), [.t 67, .t 69]⟩] false) (.cn (.t 70) (.skip) (.ex 2))) (.sq (.bl 3 (.sq (.rg [⟨(some 74), none, (.ld (some 1)), [.t 5]⟩, ⟨(some 75), none, .mv, [.t 10]⟩, ⟨(some 76), none, .mv, [.t 7]⟩, ⟨(some 77), none, .mv, [.t 11]⟩, ⟨(some 78), none, .mv, [.t 1]⟩, ⟨(some 79), none, (.conv .u64), [.t 78]⟩, ⟨(some 80), none, .mv, [.t 7]⟩, ⟨(some 81), none, .len, [.t 80]⟩, ⟨(some 82), none, (.conv .u64), [.t 81]⟩, ⟨(some 83), none, (.bin .rem), [.t 79, .t 82]⟩, ⟨(some 84), none, (.conv .i64), [.t 83]⟩, ⟨(some 85), none, (.bin .add), [.t 77, .t 84]⟩, ⟨(some 86), none, .mv, [.t 7]⟩, ⟨(some 87), none, .len, [.t 86]⟩, ⟨(some 88), none, (.bin .rem), [.t 85, .t 87]⟩, ⟨(some 89), none, (.ia 12), [.t 76, .t 88]⟩, ⟨(some 90), none, (.ld (some 12)), [.t 89]⟩, ⟨(some 91), none, (.call 11 .fz), [.t 74, .t 75, .t 90]⟩, ⟨(some 73), none, .mv, [.t 91]⟩, ⟨(some 92), none, (.ext 0), [.t 73]⟩, ⟨(some 93), none, (.ext 1), [.t 73]⟩, ⟨(some 94), none, (.ext 2), [.t 73]⟩, ⟨(some 95), none, (.ext 3), [.t 73]⟩, ⟨(some 12), none, .mv, [.t 92]⟩, ⟨(some 13), none, .mv, [.t 93]⟩, ⟨(some 14), none, .mv, [.t 94]⟩, ⟨(some 15), none, .mv, [.t 95]⟩] true) (.sq (.sq (.rg [⟨(some 96), none, .mv, [.t 15]⟩, ⟨(some 97), none, (.bin .neq), [.t 96, .k (.c (.int .i64 0))]⟩] false) (.cn (.t 97) (.sq (.rg [⟨(some 4), none, .mv, [.k (.c (.bool false))]⟩] false) (.rt)) (.skip))) (.rg [⟨(some 98), none, .mv, [.t 12]⟩, ⟨(some 10), none, .mv, [.t 98]⟩] false)))) (.rg [⟨(some 71), none, .mv, [.t 11]⟩, ⟨(some 72), none, (.bin .add), [.t 71, .k (.c (.int .i64 1))]⟩, ⟨(some 11), none, .mv, [.t 72]⟩] false)))))) (.sq (.rg [⟨(some 99), none, (.ld (some 1)), [.t 5]⟩, ⟨(some 100), none, .mv, [.t 10]⟩, ⟨(some 101), none, (.call 14 .fz), [.t 99, .t 100]⟩, ⟨(some 16), none, .mv, [.t 101]⟩] false) (.sq (.rg [⟨(some 102), none, .mv, [.t 10]⟩, ⟨(some 103), none, .len, [.t 102]⟩, ⟨(some 104), none, (.bin .eql), [.t 103, .k (.c (.int .i64 1))]⟩, ⟨(some 105), none, .mv, [.t 104]⟩, ⟨(some 106), (some (105, true)), .mv, [.t 10]⟩, ⟨(some 107), (some (105, true)), (.ia 3), [.t 106, .k (.c (.int .i64 0))]⟩, ⟨(some 108), (some (105, true)), (.fa 1), [.t 107]⟩, ⟨(some 109), (some (105, true)), (.ld none), [.t 108]⟩, ⟨(some 110), (some (105, true)), .len, [.t 109]⟩, ⟨(some 111), (some (105, true)), .mv, [.t 7]⟩, ⟨(some 112), (some (105, true)), .len, [.t 111]⟩, ⟨(some 113), (some (105, true)), (.bin .eql), [.t 110, .t 112]⟩, ⟨(some 114), none, .pick, [.t 105, .t 113, .k (.c (.bool false))]⟩, ⟨(some 115), none, .mv, [.t 114]⟩, ⟨(some 116), (some (115, true)), .mv, [.t 16]⟩, ⟨(some 117), (some (115, true)), .len, [.t 116]⟩, ⟨(some 118), (some (115, true)), (.bin .eql), [.t 117, .k (.c (.int .i64 1))]⟩, ⟨(some 119), none, .pick, [.t 115, .t 118, .k (.c (.bool false))]⟩, ⟨(some 120), none, .mv, [.t 119]⟩, ⟨(some 121), (some (120, true)), .mv, [.t 16]⟩, ⟨(some 122), (some (120, true)), (.ia 1), [.t 121, .k (.c (.int .i64 0))]⟩, ⟨(some 123), (some (120, true)), (.ld none), [.t 122]⟩, ⟨(some 124), (some (120, true)), .len, [.t 123]⟩, ⟨(some 125), (some (120, true)), (.bin .eql), [.t 124, .k (.c (.int .i64 2))]⟩, ⟨(some 126), none, .pick, [.t 120, .t 125, .k (.c (.bool false))]⟩, ⟨(some 127), none, .mv, [.t 126]⟩, ⟨(some 128), (some (127, true)), .mv, [.t 16]⟩, ⟨(some 129), (some (127, true)), (.ia 1), [.t 128, .k (.c (.int .i64 0))]⟩, ⟨(some 130), (some (127, true)), (.ld none), [.t 129]⟩, ⟨(some 131), (some (127, true)), (.ia 3), [.t 130, .k (.c (.int .i64 0))]⟩, ⟨(some 132), (some (127, true)), (.fa 2), [.t 131]⟩, ⟨(some 133), (some (127, true)), (.ld none), [.t 132]⟩, ⟨(some 134), (some (127, true)), (.bin .eql), [.t 133, .k (.c (.string ⟨#[107]⟩))]⟩, ⟨(some 135), none, .pick, [.t 127, .t 134, .k (.c (.bool false))]⟩, ⟨(some 136), none, .mv, [.t 135]⟩, ⟨(some 137), (some (136, true)), .mv, [.t 16]⟩, ⟨(some 138), (some (136, true)), (.ia 1), [.t 137, .k (.c (.int .i64 0))]⟩, ⟨(some 139), (some (136, true)), (.ld none), [.t 138]⟩, ⟨(some 140), (some (136, true)), (.ia 3), [.t 139, .k (.c (.int .i64 1))]⟩, ⟨(some 141), (some (136, true)), (.fa 1), [.t 140]⟩, ⟨(some 142), (some (136, true)), (.ld none), [.t 141]⟩, ⟨(some 143), (some (136, true)), .mv, [.t 6]⟩, ⟨(some 144), (some (136, true)), (.bin .eql), [.t 142, .t 143]⟩, ⟨(some 145), none, .pick, [.t 136, .t 144, .k (.c (.bool false))]⟩, ⟨(some 146), none, .mv, [.t 145]⟩, ⟨(some 147), (some (146, true)), (.call 16 .fz), []⟩, ⟨(some 148), none, .pick, [.t 146, .t 147, .k (.c (.bool false))]⟩, ⟨(some 4), none, .mv, [.t 148]⟩] false) (.rt))))))))))
theorem cf4 : compF Try.prog 4 c4 = some ⟨c4, [.t 4], 149⟩ := by kernel_rfl

-- raddle/raddlelaw13.TabStays
def c5 : IC := .sq (.rg [⟨(some 6), none, .mv, [.k (.c (.bool false))]⟩] false) (.sq (.rg [⟨(some 19), none, (.bsl 1 [(.c (.int .i64 0))] [0] 1 true), [.k (.c (.int .i64 3))]⟩, ⟨(some 20), none, (.bld [.z] [(0, 1)]), [.t 19]⟩, ⟨(some 7), none, (.alloc [.z]), []⟩, ⟨none, none, (.st 1), [.t 7, .t 20]⟩] false) (.sq (.rg [⟨(some 21), none, .mv, [.t 2]⟩, ⟨(some 22), none, (.conv .u64), [.t 21]⟩, ⟨(some 23), none, (.bin .rem), [.t 22, .k (.c (.int .u64 1000))]⟩, ⟨(some 24), none, (.conv .i64), [.t 23]⟩, ⟨(some 2), none, .mv, [.t 24]⟩] false) (.sq (.rg [⟨(some 25), none, .mv, [.t 2]⟩, ⟨(some 26), none, (.call 17 .fz), [.k (.c (.string ⟨#[107]⟩)), .k (.c (.int .i64 0)), .k (.c (.int .i64 1)), .k (.c (.int .i64 5)), .t 25]⟩, ⟨(some 27), none, .mv, [.t 2]⟩, ⟨(some 28), none, (.bin .add), [.t 27, .k (.c (.int .i64 1))]⟩, ⟨(some 29), none, (.call 17 .fz), [.k (.c (.string ⟨#[107]⟩)), .k (.c (.int .i64 1)), .k (.c (.int .i64 1)), .k (.c (.int .i64 7)), .t 28]⟩, ⟨(some 8), none, (.alloc [(.c (.int .i64 0)), (.c (.int .i64 0)), .z, (.c (.int .i64 0)), (.c (.int .i64 0)), (.c (.int .i64 0)), (.c (.int .i64 0)), (.c (.int .i64 0)), (.c (.string ⟨#[]⟩)), (.c (.int .i64 0)), .z, .z]), []⟩, ⟨(some 9), none, (.alloc [(.c (.int .i64 0)), (.c (.int .i64 0)), .z, (.c (.int .i64 0)), (.c (.int .i64 0)), (.c (.int .i64 0)), (.c (.int .i64 0)), (.c (.int .i64 0)), (.c (.string ⟨#[]⟩)), (.c (.int .i64 0)), .z, .z]), []⟩, ⟨none, none, (.st 12), [.t 8, .t 26]⟩, ⟨none, none, (.st 12), [.t 9, .t 29]⟩] false) (.sq (.rg [⟨(some 30), none, (.bld [(.c (.int .i64 0)), (.c (.int .i64 0))] [(0, 1), (1, 1)]), [.k (.c (.int .i64 2)), .k (.c (.int .i64 1))]⟩, ⟨(some 31), none, (.bsl 1 [(.c (.int .i64 0))] [0, 1, 2] 3 true), [.k (.c (.int .i64 1)), .k (.c (.int .i64 1)), .k (.c (.int .i64 0))]⟩, ⟨(some 32), none, (.bld [(.c (.int .i64 0)), (.c (.int .i64 0)), (.c (.int .i64 0))] [(0, 1), (2, 1)]), [.k (.c (.int .i64 9)), .k (.c (.int .i64 2))]⟩, ⟨(some 33), none, (.bld [(.c (.int .i64 0)), (.c (.int .i64 0))] [(0, 1), (1, 1)]), [.k (.c (.int .i64 0)), .k (.c (.int .i64 1))]⟩, ⟨(some 34), none, (.bsl 2 [(.c (.int .i64 0)), (.c (.int .i64 0))] [0] 1 false), [.t 33]⟩, ⟨(some 35), none, (.bld [(.c (.int .i64 0)), (.c (.int .i64 0)), .z, (.c (.int .i64 0)), (.c (.int .i64 0)), (.c (.int .i64 0)), (.c (.int .i64 0)), (.c (.int .i64 0)), (.c (.string ⟨#[]⟩)), (.c (.int .i64 0)), .z, .z] [(0, 2), (2, 1), (3, 3), (6, 1), (8, 1), (11, 1)]), [.t 30, .t 31, .t 32, .k (.c (.int .i64 3)), .k (.c (.string ⟨#[107]⟩)), .t 34]⟩, ⟨(some 10), none, (.alloc [(.c (.int .i64 0)), (.c (.int .i64 0)), .z, (.c (.int .i64 0)), (.c (.int .i64 0)), (.c (.int .i64 0)), (.c (.int .i64 0)), (.c (.int .i64 0)), (.c (.string ⟨#[]⟩)), (.c (.int .i64 0)), .z, .z]), []⟩, ⟨none, none, (.st 12), [.t 10, .t 35]⟩] false) (.sq (.sq (.rg [⟨(some 36), none, .mv, [.t 1]⟩] false) (.cn (.t 36) (.rg [⟨(some 37), none, (.fa 11), [.t 10]⟩, ⟨(some 38), none, (.ld none), [.t 37]⟩, ⟨(some 39), none, (.bld [(.c (.int .i64 0)), (.c (.int .i64 0))] [(0, 1), (1, 1)]), [.k (.c (.int .i64 1)), .k (.c (.int .i64 1))]⟩, ⟨(some 40), none, (.bsl 2 [(.c (.int .i64 0)), (.c (.int .i64 0))] [0] 1 true), [.t 39]⟩, ⟨(some 41), none, (.app 2), [.t 38, .t 40]⟩, ⟨(some 42), none, (.fa 11), [.t 10]⟩, ⟨none, none, (.st 1), [.t 42, .t 41]⟩] false) (.skip))) (.sq (.rg [⟨(some 43), none, (.ld (some 12)), [.t 8]⟩, ⟨(some 44), none, (.ld (some 12)), [.t 9]⟩, ⟨(some 45), none, (.ld (some 12)), [.t 10]⟩, ⟨(some 46), none, (.bsl 12 [(.c (.int .i64 0)), (.c (.int .i64 0)), .z, (.c (.int .i64 0)), (.c (.int .i64 0)), (.c (.int .i64 0)), (.c (.int .i64 0)), (.c (.int .i64 0)), (.c (.string ⟨#[]⟩)), (.c (.int .i64 0)), .z, .z] [0, 1, 2] 3 true), [.t 43, .t 44, .t 45]⟩, ⟨(some 11), none, .mv, [.t 46]⟩] false) (.sq (.sq (.rg [⟨(some 47), none, .mv, [.t 0]⟩, ⟨(some 48), none, .mv, [.t 47]⟩, ⟨(some 49), (some (48, true)), .mv, [.t 1]⟩, ⟨(some 50), (some (48, true)), (.un .not), [.t 49]⟩, ⟨(some 51), none, .pick, [.t 48, .t 50, .k (.c (.bool false))]⟩] false) (.cn (.t 51) (.rg [⟨(some 52), none, (.ld (some 12)), [.t 8]⟩, ⟨(some 53), none, (.ld (some 12)), [.t 10]⟩, ⟨(some 54), none, (.ld (some 12)), [.t 9]⟩, ⟨(some 55), none, (.bsl 12 [(.c (.int .i64 0)), (.c (.int .i64 0)), .z, (.c (.int .i64 0)), (.c (.int .i64 0)), (.c (.int .i64 0)), (.c (.int .i64 0)), (.c (.int .i64 0)), (.c (.string ⟨#[]⟩)), (.c (.int .i64 0)), .z, .z] [0, 1, 2] 3 true), [.t 52, .t 53, .t 54]⟩, ⟨(some 11), none, .mv, [.t 55]⟩] false) (.skip))) (.sq (.rg [⟨(some 12), none, .mv, [.k .z]⟩] false) (.sq (.sq (.rg [⟨(some 13), none, .mv, [.k (.c (.int .i64 0))]⟩] false) (.bl 0 (.lp (.sq (.sq (.rg [⟨(some 56), none, .mv, [.t 13]⟩, ⟨(some 57), none, .mv, [.t 11]⟩, ⟨(some 58), none, .len, [.t 57]⟩, ⟨(some 59), none, (.bin .lss), [.t 56, .t 58]⟩] false) (.cn (.t 59) (.skip) (.ex 0))) (.sq (.bl 1 (.sq (.rg [⟨(some 63), none, (.ld (some 1)), [.t 7]⟩, ⟨(some 64), none, .mv, [.t 12]⟩, ⟨(some 65), none, .mv, [.t 11]⟩, ⟨(some 66), none, .mv, [.t 13]⟩, ⟨(some 67), none, (.ia 12), [.t 65, .t 66]⟩, ⟨(some 68), none, (.ld (some 12)), [.t 67]⟩, ⟨(some 69), none, (.call 11 .fz), [.t 63, .t 64, .t 68]⟩, ⟨(some 62), none, .mv, [.t 69]⟩, ⟨(some 70), none, (.ext 0), [.t 62]⟩, ⟨(some 71), none, (.ext 1), [.t 62]⟩, ⟨(some 72), none, (.ext 2), [.t 62]⟩, ⟨(some 73), none, (.ext 3), [.t 62]⟩, ⟨(some 14), none, .mv, [.t 70]⟩, ⟨(some 15), none, .mv, [.t 71]⟩, ⟨(some 16), none, .mv, [.t 72]⟩, ⟨(some 17), none, .mv, [.t 73]⟩] true) (.sq (.sq (.rg [⟨(some 74), none, .mv, [.t 17]⟩, ⟨(some 75), none, (.bin .neq), [.t 74, .k (.c (.int .i64 0))]⟩] false) (.cn (.t 75) (.sq (.rg [⟨(some 6), none, .mv, [.k (.c (.bool false))]⟩] false) (.rt)) (.skip))) (.rg [⟨(some 76), none, .mv, [.t 14]⟩, ⟨(some 12), none, .mv, [.t 76]⟩] false)))) (.rg [⟨(some 60), none, .mv, [.t 13]⟩, ⟨(some 61), none, (.bin .add), [.t 60, .k (.c (.int .i64 1))]⟩, ⟨(some 13), none, .mv, [.t 61]⟩] false)))))) (.sq (.rg [⟨(some 77), none, (.ld (some 1)), [.t 7]⟩, ⟨(some 78), none, .mv, [.t 12]⟩, ⟨(some 79), none, (.call 14 .fz), [.t 77, .t 78]⟩, ⟨(some 18), none, .mv, [.t 79]⟩] false) (.sq (.sq (.rg [⟨(some 80), none, .mv, [.t 1]⟩] false) (.cn (.t 80) (.sq (.rg [⟨(some 81), none, .mv, [.t 18]⟩, ⟨(some 82), none, .len, [.t 81]⟩, ⟨(some 83), none, (.bin .eql), [.t 82, .k (.c (.int .i64 0))]⟩, ⟨(some 84), none, .mv, [.t 83]⟩, ⟨(some 85), (some (84, true)), .mv, [.t 12]⟩, ⟨(some 86), (some (84, true)), (.call 15 .fz), [.t 85]⟩, ⟨(some 87), (some (84, true)), (.bin .eql), [.t 86, .k (.c (.int .i64 1))]⟩, ⟨(some 88), none, .pick, [.t 84, .t 87, .k (.c (.bool false))]⟩, ⟨(some 89), none, .mv, [.t 88]⟩, ⟨(some 90), (some (89, true)), (.call 16 .fz), []⟩, ⟨(some 91), none, .pick, [.t 89, .t 90, .k (.c (.bool false))]⟩, ⟨(some 6), none, .mv, [.t 91]⟩] false) (.rt)) (.skip))) (.sq (.rg [⟨(some 92), none, .mv, [.t 18]⟩, ⟨(some 93), none, .len, [.t 92]⟩, ⟨(some 94), none, (.bin .eql), [.t 93, .k (.c (.int .i64 1))]⟩, ⟨(some 95), none, .mv, [.t 94]⟩, ⟨(some 96), (some (95, true)), .mv, [.t 18]⟩, ⟨(some 97), (some (95, true)), (.ia 1), [.t 96, .k (.c (.int .i64 0))]⟩, ⟨(some 98), (some (95, true)), (.ld none), [.t 97]⟩, ⟨(some 99), (some (95, true)), .len, [.t 98]⟩, ⟨(some 100), (some (95, true)), (.bin .eql), [.t 99, .k (.c (.int .i64 2))]⟩, ⟨(some 101), none, .pick, [.t 95, .t 100, .k (.c (.bool false))]⟩, ⟨(some 102), none, .mv, [.t 101]⟩, ⟨(some 103), (some (102, true)), .mv, [.t 18]⟩, ⟨(some 104), (some (102, true)), (.ia 1), [.t 103, .k (.c (.int .i64 0))]⟩, ⟨(some 105), (some (102, true)), (.ld none), [.t 104]⟩, ⟨(some 106), (some (102, true)), (.ia 3), [.t 105, .k (.c (.int .i64 1))]⟩, ⟨(some 107), (some (102, true)), (.fa 1), [.t 106]⟩, ⟨(some 108), (some (102, true)), (.ld none), [.t 107]⟩, ⟨(some 109), (some (102, true)), .mv, [.t 2]⟩, ⟨(some 110), (some (102, true)), (.bin .add), [.t 109, .k (.c (.int .i64 1))]⟩, ⟨(some 111), (some (102, true)), (.bin .eql), [.t 108, .t 110]⟩, ⟨(some 112), none, .pick, [.t 102, .t 111, .k (.c (.bool false))]⟩, ⟨(some 113), none, .mv, [.t 112]⟩, ⟨(some 114), (some (113, true)), .mv, [.t 12]⟩, ⟨(some 115), (some (113, true)), (.call 15 .fz), [.t 114]⟩, ⟨(some 116), (some (113, true)), (.bin .eql), [.t 115, .k (.c (.int .i64 0))]⟩, ⟨(some 117), none, .pick, [.t 113, .t 116, .k (.c (.bool false))]⟩, ⟨(some 118), none, .mv, [.t 117]⟩, ⟨(some 119), (some (118, true)), (.call 16 .fz), []⟩, ⟨(some 120), none, .pick, [.t 118, .t 119, .k (.c (.bool false))]⟩, ⟨(some 6), none, .mv, [.t 120]⟩] false) (.rt)))))))))))))
theorem cf5 : compF Try.prog 5 c5 = some ⟨c5, [.t 6], 121⟩ := by kernel_rfl

-- raddle/raddlelaw13.TabKeys
def c6 : IC := .sq (.rg [⟨(some 2), none, .mv, [.k (.c (.bool false))]⟩] false) (.sq (.sq (.rg [⟨(some 13), none, .mv, [.t 0]⟩, ⟨(some 14), none, .len, [.t 13]⟩, ⟨(some 15), none, (.bin .gtr), [.t 14, .k (.c (.int .i64 40))]⟩] false) (.cn (.t 15) (.sq (.rg [⟨(some 2), none, .mv, [.k (.c (.bool true))]⟩] false) (.rt)) (.skip))) (.sq (.rg [⟨(some 16), none, (.bsl 1 [(.c (.int .i64 0))] [0] 1 true), [.k (.c (.int .i64 3))]⟩, ⟨(some 17), none, (.bld [.z] [(0, 1)]), [.t 16]⟩, ⟨(some 3), none, (.alloc [.z]), []⟩, ⟨none, none, (.st 1), [.t 3, .t 17]⟩] false) (.sq (.rg [⟨(some 4), none, .mv, [.k .z]⟩] false) (.sq (.rg [⟨(some 5), none, .mv, [.k (.c (.int .i64 0))]⟩] false) (.sq (.sq (.rg [⟨(some 6), none, .mv, [.k (.c (.int .i64 0))]⟩] false) (.bl 0 (.lp (.sq (.sq (.rg [⟨(some 18), none, .mv, [.t 6]⟩, ⟨(some 19), none, .mv, [.t 0]⟩, ⟨(some 20), none, .len, [.t 19]⟩, ⟨(some 21), none, (.bin .lss), [.t 18, .t 20]⟩] false) (.cn (.t 21) (.skip) (.ex 0))) (.sq (.bl 1 (.sq (.sq (.rg [⟨(some 24), none, .mv, [.t 0]⟩, ⟨(some 25), none, .mv, [.t 6]⟩, ⟨(some 26), none, (.ia 1), [.t 24, .t 25]⟩, ⟨(some 27), none, (.ld none), [.t 26]⟩, ⟨(some 28), none, .slen, [.t 27]⟩, ⟨(some 29), none, (.bin .lss), [.t 28, .k (.c (.int .i64 1))]⟩, ⟨(some 30), none, .mv, [.t 29]⟩, ⟨(some 31), (some (30, false)), .mv, [.t 0]⟩, ⟨(some 32), (some (30, false)), .mv, [.t 6]⟩, ⟨(some 33), (some (30, false)), (.ia 1), [.t 31, .t 32]⟩, ⟨(some 34), (some (30, false)), (.ld none), [.t 33]⟩, ⟨(some 35), (some (30, false)), .slen, [.t 34]⟩, ⟨(some 36), (some (30, false)), (.bin .gtr), [.t 35, .k (.c (.int .i64 12))]⟩, ⟨(some 37), none, .pick, [.t 30, .k (.c (.bool true)), .t 36]⟩] false) (.cn (.t 37) (.sq (.rg [⟨(some 2), none, .mv, [.k (.c (.bool true))]⟩] false) (.rt)) (.skip))) (.sq (.sq (.rg [⟨(some 38), none, .mv, [.t 4]⟩, ⟨(some 39), none, .mv, [.t 0]⟩, ⟨(some 40), none, .mv, [.t 6]⟩, ⟨(some 41), none, (.ia 1), [.t 39, .t 40]⟩, ⟨(some 42), none, (.ld none), [.t 41]⟩, ⟨(some 43), none, (.call 18 .fz), [.t 38, .t 42]⟩, ⟨(some 44), none, (.bin .lss), [.t 43, .k (.c (.int .i64 0))]⟩] false) (.cn (.t 44) (.rg [⟨(some 45), none, .mv, [.t 5]⟩, ⟨(some 46), none, (.bin .add), [.t 45, .k (.c (.int .i64 1))]⟩, ⟨(some 5), none, .mv, [.t 46]⟩] false) (.skip))) (.sq (.rg [⟨(some 48), none, (.ld (some 1)), [.t 3]⟩, ⟨(some 49), none, .mv, [.t 4]⟩, ⟨(some 50), none, .mv, [.t 0]⟩, ⟨(some 51), none, .mv, [.t 6]⟩, ⟨(some 52), none, (.ia 1), [.t 50, .t 51]⟩, ⟨(some 53), none, (.ld none), [.t 52]⟩, ⟨(some 54), none, .mv, [.t 6]⟩, ⟨(some 55), none, (.bin .add), [.t 54, .k (.c (.int .i64 1))]⟩, ⟨(some 56), none, .mv, [.t 6]⟩, ⟨(some 57), none, .mv, [.t 6]⟩, ⟨(some 58), none, (.call 17 .fz), [.t 53, .k (.c (.int .i64 0)), .t 55, .t 56, .t 57]⟩, ⟨(some 59), none, (.call 11 .fz), [.t 48, .t 49, .t 58]⟩, ⟨(some 47), none, .mv, [.t 59]⟩, ⟨(some 60), none, (.ext 0), [.t 47]⟩, ⟨(some 61), none, (.ext 1), [.t 47]⟩, ⟨(some 62), none, (.ext 2), [.t 47]⟩, ⟨(some 63), none, (.ext 3), [.t 47]⟩, ⟨(some 7), none, .mv, [.t 60]⟩, ⟨(some 8), none, .mv, [.t 61]⟩, ⟨(some 9), none, .mv, [.t 62]⟩, ⟨(some 10), none, .mv, [.t 63]⟩] true) (.sq (.sq (.rg [⟨(some 64), none, .mv, [.t 10]⟩, ⟨(some 65), none, (.bin .neq), [.t 64, .k (.c (.int .i64 0))]⟩, ⟨(some 66), none, .mv, [.t 65]⟩, ⟨(some 67), (some (66, false)), .mv, [.t 9]⟩, ⟨(some 68), (some (66, false)), .len, [.t 67]⟩, ⟨(some 69), (some (66, false)), (.bin .neq), [.t 68, .k (.c (.int .i64 2))]⟩, ⟨(some 70), none, .pick, [.t 66, .k (.c (.bool true)), .t 69]⟩, ⟨(some 71), none, .mv, [.t 70]⟩, ⟨(some 72), (some (71, false)), .mv, [.t 9]⟩, ⟨(some 73), (some (71, false)), (.ia 3), [.t 72, .k (.c (.int .i64 1))]⟩, ⟨(some 74), (some (71, false)), (.fa 1), [.t 73]⟩, ⟨(some 75), (some (71, false)), (.ld none), [.t 74]⟩, ⟨(some 76), (some (71, false)), .mv, [.t 6]⟩, ⟨(some 77), (some (71, false)), (.bin .neq), [.t 75, .t 76]⟩, ⟨(some 78), none, .pick, [.t 71, .k (.c (.bool true)), .t 77]⟩] false) (.cn (.t 78) (.sq (.rg [⟨(some 2), none, .mv, [.k (.c (.bool false))]⟩] false) (.rt)) (.skip))) (.rg [⟨(some 79), none, .mv, [.t 7]⟩, ⟨(some 4), none, .mv, [.t 79]⟩] false)))))) (.rg [⟨(some 22), none, .mv, [.t 6]⟩, ⟨(some 23), none, (.bin .add), [.t 22, .k (.c (.int .i64 1))]⟩, ⟨(some 6), none, .mv, [.t 23]⟩] false)))))) (.sq (.rg [⟨(some 80), none, (.ld (some 1)), [.t 3]⟩, ⟨(some 81), none, .mv, [.t 4]⟩, ⟨(some 82), none, (.call 14 .fz), [.t 80, .t 81]⟩, ⟨(some 11), none, .mv, [.t 82]⟩] false) (.sq (.sq (.rg [⟨(some 83), none, .mv, [.t 4]⟩, ⟨(some 84), none, .len, [.t 83]⟩, ⟨(some 85), none, .mv, [.t 5]⟩, ⟨(some 86), none, (.bin .neq), [.t 84, .t 85]⟩, ⟨(some 87), none, .mv, [.t 86]⟩, ⟨(some 88), (some (87, false)), .mv, [.t 11]⟩, ⟨(some 89), (some (87, false)), .len, [.t 88]⟩, ⟨(some 90), (some (87, false)), .mv, [.t 5]⟩, ⟨(some 91), (some (87, false)), (.bin .neq), [.t 89, .t 90]⟩, ⟨(some 92), none, .pick, [.t 87, .k (.c (.bool true)), .t 91]⟩] false) (.cn (.t 92) (.sq (.rg [⟨(some 2), none, .mv, [.k (.c (.bool false))]⟩] false) (.rt)) (.skip))) (.sq (.sq (.rg [⟨(some 12), none, .mv, [.k (.c (.int .i64 0))]⟩] false) (.bl 2 (.lp (.sq (.sq (.rg [⟨(some 93), none, .mv, [.t 12]⟩, ⟨(some 94), none, .mv, [.t 4]⟩, ⟨(some 95), none, .len, [.t 94]⟩, ⟨(some 96), none, (.bin .lss), [.t 93, .t 95]⟩] false) (.cn (.t 96) (.skip) (.ex 2))) (.sq (.bl 3 (.sq (.rg [⟨(some 99), none, .mv, [.t 12]⟩, ⟨(some 100), none, (.bin .gtr), [.t 99, .k (.c (.int .i64 0))]⟩, ⟨(some 101), none, .mv, [.t 100]⟩, ⟨(some 102), (some (101, true)), .mv, [.t 4]⟩, ⟨(some 103), (some (101, true)), .mv, [.t 12]⟩, ⟨(some 104), (some (101, true)), (.ia 3), [.t 102, .t 103]⟩, ⟨(some 105), (some (101, true)), (.fa 0), [.t 104]⟩, ⟨(some 106), (some (101, true)), (.ld none), [.t 105]⟩, ⟨(some 107), (some (101, true)), .mv, [.t 4]⟩, ⟨(some 108), (some (101, true)), .mv, [.t 12]⟩, ⟨(some 109), (some (101, true)), (.bin .sub), [.t 108, .k (.c (.int .i64 1))]⟩, ⟨(some 110), (some (101, true)), (.ia 3), [.t 107, .t 109]⟩, ⟨(some 111), (some (101, true)), (.fa 0), [.t 110]⟩, ⟨(some 112), (some (101, true)), (.ld none), [.t 111]⟩, ⟨(some 113), (some (101, true)), (.bin .leq), [.t 106, .t 112]⟩, ⟨(some 114), none, .pick, [.t 101, .t 113, .k (.c (.bool false))]⟩, ⟨(some 115), none, .mv, [.t 114]⟩, ⟨(some 116), (some (115, false)), .mv, [.t 4]⟩, ⟨(some 117), (some (115, false)), .mv, [.t 4]⟩, ⟨(some 118), (some (115, false)), .mv, [.t 12]⟩, ⟨(some 119), (some (115, false)), (.ia 3), [.t 117, .t 118]⟩, ⟨(some 120), (some (115, false)), (.fa 0), [.t 119]⟩, ⟨(some 121), (some (115, false)), (.ld none), [.t 120]⟩, ⟨(some 122), (some (115, false)), (.call 18 .fz), [.t 116, .t 121]⟩, ⟨(some 123), (some (115, false)), .mv, [.t 12]⟩, ⟨(some 124), (some (115, false)), (.bin .neq), [.t 122, .t 123]⟩, ⟨(some 125), none, .pick, [.t 115, .k (.c (.bool true)), .t 124]⟩, ⟨(some 126), none, .mv, [.t 125]⟩, ⟨(some 127), (some (126, false)), .mv, [.t 11]⟩, ⟨(some 128), (some (126, false)), .mv, [.t 12]⟩, ⟨(some 129), (some (126, false)), (.ia 1), [.t 127, .t 128]⟩, ⟨(some 130), (some (126, false)), (.ld none), [.t 129]⟩, ⟨(some 131), (some (126, false)), .len, [.t 130]⟩, ⟨(some 132), (some (126, false)), (.bin .neq), [.t 131, .k (.c (.int .i64 2))]⟩, ⟨(some 133), none, .pick, [.t 126, .k (.c (.bool true)), .t 132]⟩, ⟨(some 134), none, .mv, [.t 133]⟩, ⟨(some 135), (some (134, false)), .mv, [.t 11]⟩, ⟨(some 136), (some (134, false)), .mv, [.t 12]⟩, ⟨(some 137), (some (134, false)), (.ia 1), [.t 135, .t 136]⟩, ⟨(some 138), (some (134, false)), (.ld none), [.t 137]⟩, ⟨(some 139), (some (134, false)), (.ia 3), [.t 138, .k (.c (.int .i64 0))]⟩, ⟨(some 140), (some (134, false)), (.fa 2), [.t 139]⟩, ⟨(some 141), (some (134, false)), (.ld none), [.t 140]⟩, ⟨(some 142), (some (134, false)), .mv, [.t 4]⟩, ⟨(some 143), (some (134, false)), .mv, [.t 12]⟩, ⟨(some 144), (some (134, false)), (.ia 3), [.t 142, .t 143]⟩, ⟨(some 145), (some (134, false)), (.fa 0), [.t 144]⟩, ⟨(some 146), (some (134, false)), (.ld none), [.t 145]⟩, ⟨(some 147), (some (134, false)), (.bin .neq), [.t 141, .t 146]⟩, ⟨(some 148), none, .pick, [.t 134, .k (.c (.bool true)), .t 147]⟩, ⟨(some 149), none, .mv, [.t 148]⟩, ⟨(some 150), (some (149, false)), .mv, [.t 11]⟩, ⟨(some 151), (some (149, false)), .mv, [.t 12]⟩, ⟨(some 152), (some (149, false)), (.ia 1), [.t 150, .t 151]⟩, ⟨(some 153), (some (149, false)), (.ld none), [.t 152]⟩, ⟨(some 154), (some (149, false)), (.ia 3), [.t 153, .k (.c (.int .i64 0))]⟩, ⟨(some 155), (some (149, false)), (.ld (some 3)), [.t 154]⟩, ⟨(some 156), (some (149, false)), .mv, [.t 4]⟩, ⟨(some 157), (some (149, false)), .mv, [.t 12]⟩, ⟨(some 158), (some (149, false)), (.ia 3), [.t 156, .t 157]⟩, ⟨(some 159), (some (149, false)), (.fa 0), [.t 158]⟩, ⟨(some 160), (some (149, false)), (.ld none), [.t 159]⟩, ⟨(some 161), (some (149, false)), (.bld [(.c (.int .i64 0)), (.c (.int .i64 0)), (.c (.string ⟨#[]⟩))] [(0, 1), (2, 1)]), [.k (.c (.int .i64 4)), .t 160]⟩, ⟨(some 162), (some (149, false)), (.call 19 .fz), [.t 155, .t 161]⟩, ⟨(some 163), (some (149, false)), (.un .not), [.t 162]⟩, ⟨(some 164), none, .pick, [.t 149, .k (.c (.bool true)), .t 163]⟩] true) (.cn (.t 164) (.sq (.rg [⟨(some 2), none, .mv, [.k (.c (.bool false))]⟩] false) (.rt)) (.skip)))) (.rg [⟨(some 97), none, .mv, [.t 12]⟩, ⟨(some 98), none, (.bin .add), [.t 97, .k (.c (.int .i64 1))]⟩, ⟨(some 12), none, .mv, [.t 98]⟩] false)))))) (.sq (.rg [⟨(some 165), none, (.ld (some 1)), [.t 3]⟩, ⟨(some 166), none, .mv, [.t 4]⟩, ⟨(some 167), none, (.call 20 .fz), [.t 165, .t 166]⟩, ⟨(some 168), none, (.bin .eql), [.t 167, .k (.c (.int .i64 0))]⟩, ⟨(some 169), none, .mv, [.t 168]⟩, ⟨(some 170), (some (169, true)), (.call 16 .fz), []⟩, ⟨(some 171), none, .pick, [.t 169, .t 170, .k (.c (.bool false))]⟩, ⟨(some 2), none, .mv, [.t 171]⟩] false) (.rt))))))))))
theorem cf6 : compF Try.prog 6 c6 = some ⟨c6, [.t 2], 172⟩ := by kernel_rfl

-- raddle/raddlelaw13.TabRevives
def c7 : IC := .sq (.rg [⟨(some 8), none, .mv, [.k (.c (.bool false))]⟩] false) (.sq (.rg [⟨(some 24), none, (.bsl 1 [(.c (.int .i64 0))] [0] 1 true), [.k (.c (.int .i64 3))]⟩, ⟨(some 25), none, (.bld [.z] [(0, 1)]), [.t 24]⟩, ⟨(some 9), none, (.alloc [.z]), []⟩, ⟨none, none, (.st 1), [.t 9, .t 25]⟩] false) (.sq (.rg [⟨(some 26), none, .mv, [.t 0]⟩, ⟨(some 27), none, (.conv .u64), [.t 26]⟩, ⟨(some 28), none, (.bin .rem), [.t 27, .k (.c (.int .u64 1000))]⟩, ⟨(some 29), none, (.conv .i64), [.t 28]⟩, ⟨(some 30), none, .mv, [.t 1]⟩, ⟨(some 31), none, (.conv .u64), [.t 30]⟩, ⟨(some 32), none, (.bin .rem), [.t 31, .k (.c (.int .u64 1000))]⟩, ⟨(some 33), none, (.conv .i64), [.t 32]⟩, ⟨(some 0), none, .mv, [.t 29]⟩, ⟨(some 1), none, .mv, [.t 33]⟩] false) (.sq (.rg [⟨(some 35), none, (.ld (some 1)), [.t 9]⟩, ⟨(some 36), none, .mv, [.t 0]⟩, ⟨(some 37), none, (.call 17 .fz), [.k (.c (.string ⟨#[107]⟩)), .k (.c (.int .i64 0)), .k (.c (.int .i64 1)), .k (.c (.int .i64 1)), .t 36]⟩, ⟨(some 38), none, (.call 11 .fz), [.t 35, .k .z, .t 37]⟩, ⟨(some 34), none, .mv, [.t 38]⟩, ⟨(some 39), none, (.ext 0), [.t 34]⟩, ⟨(some 40), none, (.ext 1), [.t 34]⟩, ⟨(some 41), none, (.ext 2), [.t 34]⟩, ⟨(some 42), none, (.ext 3), [.t 34]⟩, ⟨(some 10), none, .mv, [.t 39]⟩, ⟨(some 11), none, .mv, [.t 40]⟩, ⟨(some 12), none, .mv, [.t 41]⟩, ⟨(some 13), none, .mv, [.t 42]⟩] true) (.sq (.sq (.rg [⟨(some 43), none, .mv, [.t 13]⟩, ⟨(some 44), none, (.bin .neq), [.t 43, .k (.c (.int .i64 0))]⟩, ⟨(some 45), none, .mv, [.t 44]⟩, ⟨(some 46), (some (45, false)), .mv, [.t 12]⟩, ⟨(some 47), (some (45, false)), .len, [.t 46]⟩, ⟨(some 48), (some (45, false)), (.bin .neq), [.t 47, .k (.c (.int .i64 2))]⟩, ⟨(some 49), none, .pick, [.t 45, .k (.c (.bool true)), .t 48]⟩] false) (.cn (.t 49) (.sq (.rg [⟨(some 8), none, .mv, [.k (.c (.bool false))]⟩] false) (.rt)) (.skip))) (.sq (.rg [⟨(some 50), none, (.bld [(.c (.int .i64 0)), (.c (.int .i64 0))] [(0, 1), (1, 1)]), [.k (.c (.int .i64 0)), .k (.c (.int .i64 2))]⟩, ⟨(some 51), none, (.bsl 1 [(.c (.int .i64 0))] [0, 1, 2] 3 true), [.k (.c (.int .i64 1)), .k (.c (.int .i64 9)), .k (.c (.int .i64 9))]⟩, ⟨(some 52), none, (.bld [(.c (.int .i64 0)), (.c (.int .i64 0)), (.c (.int .i64 0))] [(0, 1)]), [.k (.c (.int .i64 2))]⟩, ⟨(some 53), none, (.bld [(.c (.int .i64 0)), (.c (.int .i64 0))] [(0, 1), (1, 1)]), [.k (.c (.int .i64 0)), .k (.c (.int .i64 1))]⟩, ⟨(some 54), none, (.bsl 2 [(.c (.int .i64 0)), (.c (.int .i64 0))] [0] 1 true), [.t 53]⟩, ⟨(some 55), none, (.bld [(.c (.int .i64 0)), (.c (.int .i64 0)), .z, (.c (.int .i64 0)), (.c (.int .i64 0)), (.c (.int .i64 0)), (.c (.int .i64 0)), (.c (.int .i64 0)), (.c (.string ⟨#[]⟩)), (.c (.int .i64 0)), .z, .z] [(0, 2), (2, 1), (3, 3), (6, 1), (8, 1), (11, 1)]), [.t 50, .t 51, .t 52, .k (.c (.int .i64 3)), .k (.c (.string ⟨#[107]⟩)), .t 54]⟩, ⟨(some 14), none, (.alloc [(.c (.int .i64 0)), (.c (.int .i64 0)), .z, (.c (.int .i64 0)), (.c (.int .i64 0)), (.c (.int .i64 0)), (.c (.int .i64 0)), (.c (.int .i64 0)), (.c (.string ⟨#[]⟩)), (.c (.int .i64 0)), .z, .z]), []⟩, ⟨none, none, (.st 12), [.t 14, .t 55]⟩] false) (.sq (.rg [⟨(some 57), none, (.ld (some 1)), [.t 9]⟩, ⟨(some 58), none, .mv, [.t 10]⟩, ⟨(some 59), none, (.ld (some 12)), [.t 14]⟩, ⟨(some 60), none, (.call 11 .fz), [.t 57, .t 58, .t 59]⟩, ⟨(some 56), none, .mv, [.t 60]⟩, ⟨(some 61), none, (.ext 0), [.t 56]⟩, ⟨(some 62), none, (.ext 1), [.t 56]⟩, ⟨(some 63), none, (.ext 2), [.t 56]⟩, ⟨(some 64), none, (.ext 3), [.t 56]⟩, ⟨(some 10), none, .mv, [.t 61]⟩, ⟨(some 15), none, .mv, [.t 62]⟩, ⟨(some 12), none, .mv, [.t 63]⟩, ⟨(some 13), none, .mv, [.t 64]⟩] false) (.sq (.sq (.rg [⟨(some 65), none, .mv, [.t 13]⟩, ⟨(some 66), none, (.bin .neq), [.t 65, .k (.c (.int .i64 0))]⟩, ⟨(some 67), none, .mv, [.t 66]⟩, ⟨(some 68), (some (67, false)), .mv, [.t 15]⟩, ⟨(some 69), (some (67, false)), .len, [.t 68]⟩, ⟨(some 70), (some (67, false)), (.bin .neq), [.t 69, .k (.c (.int .i64 2))]⟩, ⟨(some 71), none, .pick, [.t 67, .k (.c (.bool true)), .t 70]⟩, ⟨(some 72), none, .mv, [.t 71]⟩, ⟨(some 73), (some (72, false)), .mv, [.t 12]⟩, ⟨(some 74), (some (72, false)), .len, [.t 73]⟩, ⟨(some 75), (some (72, false)), (.bin .neq), [.t 74, .k (.c (.int .i64 0))]⟩, ⟨(some 76), none, .pick, [.t 72, .k (.c (.bool true)), .t 75]⟩, ⟨(some 77), none, .mv, [.t 76]⟩, ⟨(some 78), (some (77, false)), .mv, [.t 10]⟩, ⟨(some 79), (some (77, false)), .len, [.t 78]⟩, ⟨(some 80), (some (77, false)), (.bin .neq), [.t 79, .k (.c (.int .i64 1))]⟩, ⟨(some 81), none, .pick, [.t 77, .k (.c (.bool true)), .t 80]⟩] false) (.cn (.t 81) (.sq (.rg [⟨(some 8), none, .mv, [.k (.c (.bool false))]⟩] false) (.rt)) (.skip))) (.sq (.sq (.rg [⟨(some 82), none, .mv, [.t 2]⟩] false) (.cn (.t 82) (.sq (.rg [⟨(some 84), none, (.ld (some 1)), [.t 9]⟩, ⟨(some 85), none, .mv, [.t 10]⟩, ⟨(some 86), none, (.bsl 1 [(.c (.int .i64 0))] [0, 1, 2] 3 true), [.k (.c (.int .i64 2)), .k (.c (.int .i64 2)), .k (.c (.int .i64 2))]⟩, ⟨(some 87), none, (.call 21 .fz), [.t 84, .t 85, .t 86]⟩, ⟨(some 83), none, .mv, [.t 87]⟩, ⟨(some 88), none, (.ext 0), [.t 83]⟩, ⟨(some 89), none, (.ext 1), [.t 83]⟩, ⟨(some 90), none, (.ext 2), [.t 83]⟩, ⟨(some 16), none, .mv, [.t 88]⟩, ⟨(some 17), none, .mv, [.t 89]⟩, ⟨(some 18), none, .mv, [.t 90]⟩] false) (.sq (.sq (.rg [⟨(some 91), none, .mv, [.t 18]⟩, ⟨(some 92), none, (.bin .neq), [.t 91, .k (.c (.int .i64 0))]⟩, ⟨(some 93), none, .mv, [.t 92]⟩, ⟨(some 94), (some (93, false)), .mv, [.t 17]⟩, ⟨(some 95), (some (93, false)), (.bin .neq), [.t 94, .k (.c (.int .i64 1))]⟩, ⟨(some 96), none, .pick, [.t 93, .k (.c (.bool true)), .t 95]⟩, ⟨(some 97), none, .mv, [.t 96]⟩, ⟨(some 98), (some (97, false)), .mv, [.t 16]⟩, ⟨(some 99), (some (97, false)), .len, [.t 98]⟩, ⟨(some 100), (some (97, false)), (.bin .neq), [.t 99, .k (.c (.int .i64 0))]⟩, ⟨(some 101), none, .pick, [.t 97, .k (.c (.bool true)), .t 100]⟩] false) (.cn (.t 101) (.sq (.rg [⟨(some 8), none, .mv, [.k (.c (.bool false))]⟩] false) (.rt)) (.skip))) (.rg [⟨(some 102), none, .mv, [.t 16]⟩, ⟨(some 10), none, .mv, [.t 102]⟩] false))) (.skip))) (.sq (.sq (.rg [⟨(some 103), none, .mv, [.t 3]⟩] false) (.cn (.t 103) (.sq (.rg [⟨(some 104), none, (.bld [(.c (.int .i64 0)), (.c (.int .i64 0))] [(0, 1), (1, 1)]), [.k (.c (.int .i64 1)), .k (.c (.int .i64 1))]⟩, ⟨(some 105), none, (.bsl 1 [(.c (.int .i64 0))] [0, 1, 2] 3 true), [.k (.c (.int .i64 1)), .k (.c (.int .i64 0)), .k (.c (.int .i64 9))]⟩, ⟨(some 106), none, (.bld [(.c (.int .i64 0)), (.c (.int .i64 0)), (.c (.int .i64 0))] [(0, 1), (2, 1)]), [.k (.c (.int .i64 3)), .k (.c (.int .i64 1))]⟩, ⟨(some 107), none, (.call 22 .fz), [.k (.c (.int .i64 7777))]⟩, ⟨(some 108), none, (.bsl 3 [(.c (.int .i64 0)), (.c (.int .i64 0)), (.c (.string ⟨#[]⟩))] [0] 1 true), [.t 107]⟩, ⟨(some 109), none, (.bld [(.c (.int .i64 0)), (.c (.int .i64 0)), .z, (.c (.int .i64 0)), (.c (.int .i64 0)), (.c (.int .i64 0)), (.c (.int .i64 0)), (.c (.int .i64 0)), (.c (.string ⟨#[]⟩)), (.c (.int .i64 0)), .z, .z] [(0, 2), (2, 1), (3, 3), (6, 1), (8, 1), (10, 1)]), [.t 104, .t 105, .t 106, .k (.c (.int .i64 2)), .k (.c (.string ⟨#[107]⟩)), .t 108]⟩, ⟨(some 19), none, (.alloc [(.c (.int .i64 0)), (.c (.int .i64 0)), .z, (.c (.int .i64 0)), (.c (.int .i64 0)), (.c (.int .i64 0)), (.c (.int .i64 0)), (.c (.int .i64 0)), (.c (.string ⟨#[]⟩)), (.c (.int .i64 0)), .z, .z]), []⟩, ⟨none, none, (.st 12), [.t 19, .t 109]⟩] false) (.sq (.rg [⟨(some 111), none, (.ld (some 1)), [.t 9]⟩, ⟨(some 112), none, .mv, [.t 10]⟩, ⟨(some 113), none, (.ld (some 12)), [.t 19]⟩, ⟨(some 114), none, (.call 11 .fz), [.t 111, .t 112, .t 113]⟩, ⟨(some 110), none, .mv, [.t 114]⟩, ⟨(some 115), none, (.ext 0), [.t 110]⟩, ⟨(some 116), none, (.ext 1), [.t 110]⟩, ⟨(some 117), none, (.ext 2), [.t 110]⟩, ⟨(some 118), none, (.ext 3), [.t 110]⟩, ⟨(some 20), none, .mv, [.t 115]⟩, ⟨(some 21), none, .mv, [.t 116]⟩, ⟨(some 22), none, .mv, [.t 117]⟩, ⟨(some 23), none, .mv, [.t 118]⟩] false) (.sq (.sq (.rg [⟨(some 119), none, .mv, [.t 23]⟩, ⟨(some 120), none, (.bin .neq), [.t 119, .k (.c (.int .i64 0))]⟩, ⟨(some 121), none, .mv, [.t 120]⟩, ⟨(some 122), (some (121, false)), .mv, [.t 21]⟩, ⟨(some 123), (some (121, false)), .len, [.t 122]⟩, ⟨(some 124), (some (121, false)), .mv, [.t 22]⟩, ⟨(some 125), (some (121, false)), .len, [.t 124]⟩, ⟨(some 126), (some (121, false)), (.bin .add), [.t 123, .t 125]⟩, ⟨(some 127), (some (121, false)), (.bin .neq), [.t 126, .k (.c (.int .i64 0))]⟩, ⟨(some 128), none, .pick, [.t 121, .k (.c (.bool true)), .t 127]⟩, ⟨(some 129), none, .mv, [.t 128]⟩, ⟨(some 130), (some (129, false)), .mv, [.t 20]⟩, ⟨(some 131), (some (129, false)), (.call 15 .fz), [.t 130]⟩, ⟨(some 132), (some (129, false)), (.bin .neq), [.t 131, .k (.c (.int .i64 1))]⟩, ⟨(some 133), none, .pick, [.t 129, .k (.c (.bool true)), .t 132]⟩] false) (.cn (.t 133) (.sq (.rg [⟨(some 8), none, .mv, [.k (.c (.bool false))]⟩] false) (.rt)) (.skip))) (.rg [⟨(some 134), none, .mv, [.t 20]⟩, ⟨(some 10), none, .mv, [.t 134]⟩] false)))) (.skip))) (.sq (.rg [⟨(some 136), none, (.ld (some 1)), [.t 9]⟩, ⟨(some 137), none, .mv, [.t 10]⟩, ⟨(some 138), none, .mv, [.t 1]⟩, ⟨(some 139), none, (.call 17 .fz), [.k (.c (.string ⟨#[107]⟩)), .k (.c (.int .i64 0)), .k (.c (.int .i64 3)), .k (.c (.int .i64 4)), .t 138]⟩, ⟨(some 140), none, (.call 11 .fz), [.t 136, .t 137, .t 139]⟩, ⟨(some 135), none, .mv, [.t 140]⟩, ⟨(some 141), none, (.ext 0), [.t 135]⟩, ⟨(some 142), none, (.ext 1), [.t 135]⟩, ⟨(some 143), none, (.ext 2), [.t 135]⟩, ⟨(some 144), none, (.ext 3), [.t 135]⟩, ⟨(some 10), none, .mv, [.t 141]⟩, ⟨(some 15), none, .mv, [.t 142]⟩, ⟨(some 12), none, .mv, [.t 143]⟩, ⟨(some 13), none, .mv, [.t 144]⟩] true) (.sq (.rg [⟨(some 145), none, .mv, [.t 13]⟩, ⟨(some 146), none, (.bin .eql), [.t 145, .k (.c (.int .i64 0))]⟩, ⟨(some 147), none, .mv, [.t 146]⟩, ⟨(some 148), (some (147, true)), .mv, [.t 15]⟩, ⟨(some 149), (some (147, true)), .len, [.t 148]⟩, ⟨(some 150), (some (147, true)), (.bin .eql), [.t 149, .k (.c (.int .i64 0))]⟩, ⟨(some 151), none, .pick, [.t 147, .t 150, .k (.c (.bool false))]⟩, ⟨(some 152), none, .mv, [.t 151]⟩, ⟨(some 153), (some (152, true)), .mv, [.t 12]⟩, ⟨(some 154), (some (152, true)), .len, [.t 153]⟩, ⟨(some 155), (some (152, true)), (.bin .eql), [.t 154, .k (.c (.int .i64 2))]⟩, ⟨(some 156), none, .pick, [.t 152, .t 155, .k (.c (.bool false))]⟩, ⟨(some 157), none, .mv, [.t 156]⟩, ⟨(some 158), (some (157, true)), .mv, [.t 12]⟩, ⟨(some 159), (some (157, true)), (.ia 3), [.t 158, .k (.c (.int .i64 1))]⟩, ⟨(some 160), (some (157, true)), (.fa 1), [.t 159]⟩, ⟨(some 161), (some (157, true)), (.ld none), [.t 160]⟩, ⟨(some 162), (some (157, true)), .mv, [.t 1]⟩, ⟨(some 163), (some (157, true)), (.bin .eql), [.t 161, .t 162]⟩, ⟨(some 164), none, .pick, [.t 157, .t 163, .k (.c (.bool false))]⟩, ⟨(some 165), none, .mv, [.t 164]⟩, ⟨(some 166), (some (165, true)), .mv, [.t 10]⟩, ⟨(some 167), (some (165, true)), .len, [.t 166]⟩, ⟨(some 168), (some (165, true)), (.bin .eql), [.t 167, .k (.c (.int .i64 1))]⟩, ⟨(some 169), none, .pick, [.t 165, .t 168, .k (.c (.bool false))]⟩, ⟨(some 170), none, .mv, [.t 169]⟩, ⟨(some 171), (some (170, true)), .mv, [.t 10]⟩, ⟨(some 172), (some (170, true)), (.call 18 .fz), [.t 171, .k (.c (.string ⟨#[107]⟩))]⟩, ⟨(some 173), (some (170, true)), (.bin .eql), [.t 172, .k (.c (.int .i64 0))]⟩, ⟨(some 174), none, .pick, [.t 170, .t 173, .k (.c (.bool false))]⟩, ⟨(some 175), none, .mv, [.t 174]⟩, ⟨(some 176), (some (175, true)), .mv, [.t 10]⟩, ⟨(some 177), (some (175, true)), (.call 18 .fz), [.t 176, .k (.c (.string ⟨#[108]⟩))]⟩, ⟨(some 178), (some (175, true)), (.bin .eql), [.t 177, .k (.c (.int .i64 (-1)))]⟩, ⟨(some 179), none, .pick, [.t 175, .t 178, .k (.c (.bool false))]⟩, ⟨(some 180), none, .mv, [.t 179]⟩, ⟨(some 181), (some (180, true)), (.call 16 .fz), []⟩, ⟨(some 182), none, .pick, [.t 180, .t 181, .k (.c (.bool false))]⟩, ⟨(some 8), none, .mv, [.t 182]⟩] false) (.rt))))))))))))
theorem cf7 : compF Try.prog 7 c7 = some ⟨c7, [.t 8], 183⟩ := by kernel_rfl

-- raddle/raddlelaw13.HeavyForm
def c8 : IC := .sq (.rg [⟨(some 1), none, (.box (some 1)), [.t 0]⟩, ⟨(some 2), none, .mv, [.k (.c (.bool false))]⟩] false) (.sq (.rg [⟨(some 3), none, (.fa 0), [.t 1]⟩, ⟨(some 4), none, (.ld none), [.t 3]⟩, ⟨(some 5), none, .len, [.t 4]⟩, ⟨(some 6), none, (.bin .gtr), [.t 5, .k (.c (.int .i64 30))]⟩, ⟨(some 2), none, .mv, [.t 6]⟩] false) (.rt))
theorem cf8 : compF Try.prog 8 c8 = some ⟨c8, [.t 2], 7⟩ := by kernel_rfl

-- raddle/raddlelaw07.Heavy
def c9 : IC := .sq (.rg [⟨(some 2), none, .mv, [.k (.c (.bool false))]⟩] false) (.sq (.sq (.rg [⟨(some 4), none, .mv, [.t 0]⟩, ⟨(some 5), none, .len, [.t 4]⟩, ⟨(some 6), none, (.bin .gtr), [.t 5, .k (.c (.int .i64 300))]⟩] false) (.cn (.t 6) (.sq (.rg [⟨(some 2), none, .mv, [.k (.c (.bool true))]⟩] false) (.rt)) (.skip))) (.sq (.sq (.rg [⟨(some 3), none, .mv, [.k (.c (.int .i64 0))]⟩] false) (.bl 0 (.lp (.sq (.sq (.rg [⟨(some 7), none, .mv, [.t 3]⟩, ⟨(some 8), none, .mv, [.t 0]⟩, ⟨(some 9), none, .len, [.t 8]⟩, ⟨(some 10), none, (.bin .lss), [.t 7, .t 9]⟩] false) (.cn (.t 10) (.skip) (.ex 0))) (.sq (.bl 1 (.sq (.rg [⟨(some 13), none, .mv, [.t 0]⟩, ⟨(some 14), none, .mv, [.t 3]⟩, ⟨(some 15), none, (.ia 12), [.t 13, .t 14]⟩, ⟨(some 16), none, (.fa 2), [.t 15]⟩, ⟨(some 17), none, (.ld none), [.t 16]⟩, ⟨(some 18), none, .len, [.t 17]⟩, ⟨(some 19), none, (.bin .gtr), [.t 18, .k (.c (.int .i64 30))]⟩, ⟨(some 20), none, .mv, [.t 19]⟩, ⟨(some 21), (some (20, false)), .mv, [.t 0]⟩, ⟨(some 22), (some (20, false)), .mv, [.t 3]⟩, ⟨(some 23), (some (20, false)), (.ia 12), [.t 21, .t 22]⟩, ⟨(some 24), (some (20, false)), (.fa 8), [.t 23]⟩, ⟨(some 25), (some (20, false)), (.ld none), [.t 24]⟩, ⟨(some 26), (some (20, false)), .slen, [.t 25]⟩, ⟨(some 27), (some (20, false)), (.bin .gtr), [.t 26, .k (.c (.int .i64 100))]⟩, ⟨(some 28), none, .pick, [.t 20, .k (.c (.bool true)), .t 27]⟩, ⟨(some 29), none, .mv, [.t 28]⟩, ⟨(some 30), (some (29, false)), .mv, [.t 0]⟩, ⟨(some 31), (some (29, false)), .mv, [.t 3]⟩, ⟨(some 32), (some (29, false)), (.ia 12), [.t 30, .t 31]⟩, ⟨(some 33), (some (29, false)), (.fa 10), [.t 32]⟩, ⟨(some 34), (some (29, false)), (.ld none), [.t 33]⟩, ⟨(some 35), (some (29, false)), (.call 23 .fz), [.t 34]⟩, ⟨(some 36), none, .pick, [.t 29, .k (.c (.bool true)), .t 35]⟩, ⟨(some 37), none, .mv, [.t 36]⟩, ⟨(some 38), (some (37, false)), .mv, [.t 0]⟩, ⟨(some 39), (some (37, false)), .mv, [.t 3]⟩, ⟨(some 40), (some (37, false)), (.ia 12), [.t 38, .t 39]⟩, ⟨(some 41), (some (37, false)), (.fa 11), [.t 40]⟩, ⟨(some 42), (some (37, false)), (.ld none), [.t 41]⟩, ⟨(some 43), (some (37, false)), .len, [.t 42]⟩, ⟨(some 44), (some (37, false)), (.bin .gtr), [.t 43, .k (.c (.int .i64 100))]⟩, ⟨(some 45), none, .pick, [.t 37, .k (.c (.bool true)), .t 44]⟩] false) (.cn (.t 45) (.sq (.rg [⟨(some 2), none, .mv, [.k (.c (.bool true))]⟩] false) (.rt)) (.skip)))) (.rg [⟨(some 11), none, .mv, [.t 3]⟩, ⟨(some 12), none, (.bin .add), [.t 11, .k (.c (.int .i64 1))]⟩, ⟨(some 3), none, .mv, [.t 12]⟩] false)))))) (.sq (.rg [⟨(some 2), none, .mv, [.k (.c (.bool false))]⟩] false) (.rt))))
theorem cf9 : compF Try.prog 9 c9 = some ⟨c9, [.t 2], 46⟩ := by kernel_rfl

-- raddle/raddleref01.Forms
def c10 : IC := .sq (.rg [⟨(some 2), none, .mv, [.k (.c (.int .i64 0))]⟩] false) (.sq (.sq (.rg [⟨(some 6), none, .mv, [.t 0]⟩, ⟨(some 7), none, .len, [.t 6]⟩, ⟨(some 8), none, (.call 24 .fz), [.t 7, .k (.c (.int .i64 1)), .k (.c (.int .i64 3))]⟩, ⟨(some 9), none, (.un .not), [.t 8]⟩] false) (.cn (.t 9) (.sq (.rg [⟨(some 2), none, .mv, [.k (.c (.int .i64 2))]⟩] false) (.rt)) (.skip))) (.sq (.sq (.rg [⟨(some 3), none, .mv, [.k (.c (.int .i64 0))]⟩] false) (.bl 0 (.lp (.sq (.sq (.rg [⟨(some 10), none, .mv, [.t 3]⟩, ⟨(some 11), none, .mv, [.t 0]⟩, ⟨(some 12), none, .len, [.t 11]⟩, ⟨(some 13), none, (.bin .lss), [.t 10, .t 12]⟩] false) (.cn (.t 13) (.skip) (.ex 0))) (.sq (.bl 1 (.sq (.rg [⟨(some 16), none, .mv, [.t 0]⟩, ⟨(some 17), none, .mv, [.t 3]⟩, ⟨(some 18), none, (.ia 1), [.t 16, .t 17]⟩, ⟨(some 19), none, (.fa 0), [.t 18]⟩, ⟨(some 20), none, (.ld none), [.t 19]⟩, ⟨(some 21), none, .len, [.t 20]⟩, ⟨(some 22), none, (.call 24 .fz), [.t 21, .k (.c (.int .i64 1)), .k (.c (.int .i64 4))]⟩, ⟨(some 23), none, (.un .not), [.t 22]⟩] false) (.cn (.t 23) (.sq (.rg [⟨(some 2), none, .mv, [.k (.c (.int .i64 2))]⟩] false) (.rt)) (.skip)))) (.rg [⟨(some 14), none, .mv, [.t 3]⟩, ⟨(some 15), none, (.bin .add), [.t 14, .k (.c (.int .i64 1))]⟩, ⟨(some 3), none, .mv, [.t 15]⟩] false)))))) (.sq (.sq (.rg [⟨(some 4), none, .mv, [.k (.c (.int .i64 0))]⟩] false) (.bl 2 (.lp (.sq (.sq (.rg [⟨(some 24), none, .mv, [.t 4]⟩, ⟨(some 25), none, .mv, [.t 0]⟩, ⟨(some 26), none, .len, [.t 25]⟩, ⟨(some 27), none, (.bin .lss), [.t 24, .t 26]⟩] false) (.cn (.t 27) (.skip) (.ex 2))) (.sq (.bl 3 (.sq (.rg [⟨(some 5), none, .mv, [.k (.c (.int .i64 0))]⟩] false) (.bl 4 (.lp (.sq (.sq (.rg [⟨(some 30), none, .mv, [.t 5]⟩, ⟨(some 31), none, .mv, [.t 0]⟩, ⟨(some 32), none, .mv, [.t 4]⟩, ⟨(some 33), none, (.ia 1), [.t 31, .t 32]⟩, ⟨(some 34), none, (.fa 0), [.t 33]⟩, ⟨(some 35), none, (.ld none), [.t 34]⟩, ⟨(some 36), none, .len, [.t 35]⟩, ⟨(some 37), none, (.bin .lss), [.t 30, .t 36]⟩] false) (.cn (.t 37) (.skip) (.ex 4))) (.sq (.bl 5 (.sq (.rg [⟨(some 40), none, .mv, [.t 0]⟩, ⟨(some 41), none, .mv, [.t 4]⟩, ⟨(some 42), none, (.ia 1), [.t 40, .t 41]⟩, ⟨(some 43), none, (.fa 0), [.t 42]⟩, ⟨(some 44), none, (.ld none), [.t 43]⟩, ⟨(some 45), none, .mv, [.t 5]⟩, ⟨(some 46), none, (.ia 1), [.t 44, .t 45]⟩, ⟨(some 47), none, (.ld none), [.t 46]⟩, ⟨(some 48), none, (.call 25 .fz), [.t 47]⟩, ⟨(some 49), none, (.un .not), [.t 48]⟩] false) (.cn (.t 49) (.sq (.rg [⟨(some 2), none, .mv, [.k (.c (.int .i64 10))]⟩] false) (.rt)) (.skip)))) (.rg [⟨(some 38), none, .mv, [.t 5]⟩, ⟨(some 39), none, (.bin .add), [.t 38, .k (.c (.int .i64 1))]⟩, ⟨(some 5), none, .mv, [.t 39]⟩] false))))))) (.rg [⟨(some 28), none, .mv, [.t 4]⟩, ⟨(some 29), none, (.bin .add), [.t 28, .k (.c (.int .i64 1))]⟩, ⟨(some 4), none, .mv, [.t 29]⟩] false)))))) (.sq (.rg [⟨(some 2), none, .mv, [.k (.c (.int .i64 0))]⟩] false) (.rt)))))
theorem cf10 : compF Try.prog 10 c10 = some ⟨c10, [.t 2], 50⟩ := by kernel_rfl

-- raddle/tab.Apply
def c11 : IC := .sq (.rg [⟨(some 3), none, (.box (some 1)), [.t 0]⟩, ⟨(some 5), none, (.box (some 12)), [.t 2]⟩, ⟨(some 6), none, .mv, [.k .z]⟩, ⟨(some 7), none, .mv, [.k .z]⟩, ⟨(some 8), none, .mv, [.k .z]⟩, ⟨(some 9), none, .mv, [.k (.c (.int .i64 0))]⟩] false) (.sq (.rg [⟨(some 13), none, (.ld (some 1)), [.t 3]⟩, ⟨(some 14), none, .mv, [.t 1]⟩, ⟨(some 15), none, (.call 20 .fz), [.t 13, .t 14]⟩, ⟨(some 9), none, .mv, [.t 15]⟩] false) (.sq (.sq (.rg [⟨(some 16), none, .mv, [.t 9]⟩, ⟨(some 17), none, (.bin .neq), [.t 16, .k (.c (.int .i64 0))]⟩] false) (.cn (.t 17) (.sq (.rg [⟨(some 18), none, .mv, [.t 9]⟩, ⟨(some 6), none, .mv, [.k .z]⟩, ⟨(some 7), none, .mv, [.k .z]⟩, ⟨(some 8), none, .mv, [.k .z]⟩, ⟨(some 9), none, .mv, [.t 18]⟩] false) (.rt)) (.skip))) (.sq (.rg [⟨(some 19), none, (.ld (some 12)), [.t 5]⟩, ⟨(some 10), none, (.alloc [(.c (.int .i64 0)), (.c (.int .i64 0)), .z, (.c (.int .i64 0)), (.c (.int .i64 0)), (.c (.int .i64 0)), (.c (.int .i64 0)), (.c (.int .i64 0)), (.c (.string ⟨#[]⟩)), (.c (.int .i64 0)), .z, .z]), []⟩, ⟨none, none, (.st 12), [.t 10, .t 19]⟩] false) (.sq (.rg [⟨(some 20), none, (.fa 7), [.t 10]⟩, ⟨none, none, (.st 1), [.t 20, .k (.c (.int .i64 0))]⟩] false) (.sq (.sq (.rg [⟨(some 21), none, (.fa 2), [.t 5]⟩, ⟨(some 22), none, (.ld none), [.t 21]⟩, ⟨(some 23), none, .len, [.t 22]⟩, ⟨(some 24), none, (.ld (some 1)), [.t 3]⟩, ⟨(some 25), none, (.bsl 1 [.z] [0] 1 true), [.t 24]⟩, ⟨(some 26), none, (.ld (some 12)), [.t 10]⟩, ⟨(some 27), none, (.call 26 .fz), [.t 23, .t 25, .t 26]⟩, ⟨(some 28), none, (.bin .neq), [.t 27, .k (.c (.int .i64 0))]⟩] false) (.cn (.t 28) (.sq (.rg [⟨(some 6), none, .mv, [.k .z]⟩, ⟨(some 7), none, .mv, [.k .z]⟩, ⟨(some 8), none, .mv, [.k .z]⟩, ⟨(some 9), none, .mv, [.k (.c (.int .i64 1))]⟩] false) (.rt)) (.skip))) (.sq (.rg [⟨(some 29), none, .mv, [.t 1]⟩, ⟨(some 30), none, (.rcall 27), [.t 29]⟩, ⟨(some 6), none, .mv, [.t 30]⟩] false) (.sq (.rg [⟨(some 32), none, .mv, [.t 6]⟩, ⟨(some 33), none, (.fa 8), [.t 5]⟩, ⟨(some 34), none, (.ld none), [.t 33]⟩, ⟨(some 35), none, (.call 28 .fz), [.t 32, .t 34, .k (.fn 29 [])]⟩, ⟨(some 31), none, .mv, [.t 35]⟩, ⟨(some 36), none, (.ext 0), [.t 31]⟩, ⟨(some 37), none, (.ext 1), [.t 31]⟩, ⟨(some 11), none, .mv, [.t 36]⟩, ⟨(some 12), none, .mv, [.t 37]⟩] false) (.sq (.sq (.rg [⟨(some 38), none, .mv, [.t 12]⟩, ⟨(some 39), none, (.un .not), [.t 38]⟩] false) (.cn (.t 39) (.rb [⟨(some 40), none, .mv, [.t 6]⟩, ⟨(some 41), none, .mv, [.t 11]⟩, ⟨(some 42), none, (.fa 8), [.t 5]⟩, ⟨(some 43), none, (.ld none), [.t 42]⟩, ⟨(some 44), none, (.fa 0), [.t 3]⟩, ⟨(some 45), none, (.ld none), [.t 44]⟩, ⟨(some 46), none, .len, [.t 45]⟩, ⟨(some 47), none, (.mks 8 [(.c (.int .i64 0)), (.c (.int .i64 0)), (.c (.string ⟨#[]⟩)), (.c (.int .i64 0)), (.c (.int .i64 0)), (.c (.int .i64 0)), (.c (.int .i64 0)), (.c (.int .i64 0))] false), [.t 46, .t 46]⟩, ⟨(some 48), none, (.bld [(.c (.string ⟨#[]⟩)), .z, .z] [(0, 1), (2, 1)]), [.t 43, .t 47]⟩, ⟨(some 49), none, (.bsl 3 [(.c (.string ⟨#[]⟩)), .z, .z] [0] 1 false), [.t 48]⟩] ⟨(some 50), none, (.rcall 31), [.t 40, .t 41, .t 49]⟩ [⟨(some 6), none, .mv, [.t 50]⟩]) (.skip))) (.sq (.rg [⟨(some 51), none, .mv, [.t 6]⟩, ⟨(some 52), none, .mv, [.t 11]⟩, ⟨(some 53), none, (.ia 3), [.t 51, .t 52]⟩, ⟨(some 54), none, (.ld (some 3)), [.t 53]⟩, ⟨(some 55), none, (.call 32 .fz), [.t 54]⟩, ⟨(some 7), none, .mv, [.t 55]⟩] false) (.sq (.rb [⟨(some 56), none, .mv, [.t 6]⟩, ⟨(some 57), none, .mv, [.t 11]⟩, ⟨(some 58), none, (.ia 3), [.t 56, .t 57]⟩, ⟨(some 59), none, (.ld (some 12)), [.t 5]⟩] ⟨(some 60), none, (.rcall 33), [.t 58, .t 59]⟩ []) (.sq (.rg [⟨(some 61), none, .mv, [.t 6]⟩, ⟨(some 62), none, .mv, [.t 7]⟩, ⟨(some 63), none, .mv, [.t 6]⟩, ⟨(some 64), none, .mv, [.t 11]⟩, ⟨(some 65), none, (.ia 3), [.t 63, .t 64]⟩, ⟨(some 66), none, (.ld (some 3)), [.t 65]⟩, ⟨(some 67), none, (.call 32 .fz), [.t 66]⟩, ⟨(some 6), none, .mv, [.t 61]⟩, ⟨(some 7), none, .mv, [.t 62]⟩, ⟨(some 8), none, .mv, [.t 67]⟩, ⟨(some 9), none, .mv, [.k (.c (.int .i64 0))]⟩] false) (.rt))))))))))))
theorem cf11 : compF Try.prog 11 c11 = some ⟨c11, [.t 6, .t 7, .t 8, .t 9], 68⟩ := by kernel_rfl

-- raddle/raddlekeep.Dot
def c12 : IC := .sq (.rg [⟨(some 2), none, (.box (some 2)), [.t 0]⟩, ⟨(some 3), none, (.box (some 2)), [.t 1]⟩, ⟨(some 4), none, .mv, [.k (.c (.bool false))]⟩] false) (.sq (.rg [⟨(some 5), none, (.fa 0), [.t 2]⟩, ⟨(some 6), none, (.ld none), [.t 5]⟩, ⟨(some 7), none, (.fa 0), [.t 3]⟩, ⟨(some 8), none, (.ld none), [.t 7]⟩, ⟨(some 9), none, (.bin .eql), [.t 6, .t 8]⟩, ⟨(some 10), none, .mv, [.t 9]⟩, ⟨(some 11), (some (10, true)), (.fa 1), [.t 2]⟩, ⟨(some 12), (some (10, true)), (.ld none), [.t 11]⟩, ⟨(some 13), (some (10, true)), (.fa 1), [.t 3]⟩, ⟨(some 14), (some (10, true)), (.ld none), [.t 13]⟩, ⟨(some 15), (some (10, true)), (.bin .eql), [.t 12, .t 14]⟩, ⟨(some 16), none, .pick, [.t 10, .t 15, .k (.c (.bool false))]⟩, ⟨(some 4), none, .mv, [.t 16]⟩] false) (.rt))
theorem cf12 : compF Try.prog 12 c12 = some ⟨c12, [.t 4], 17⟩ := by kernel_rfl

-- raddle/raddleref01.CompareStamps
def c13 : IC := .sq (.rg [⟨(some 2), none, (.box (some 3)), [.t 0]⟩, ⟨(some 3), none, (.box (some 3)), [.t 1]⟩, ⟨(some 4), none, .mv, [.k (.c (.int .i64 0))]⟩] false) (.sq (.sq (.rg [⟨(some 5), none, (.fa 0), [.t 2]⟩, ⟨(some 6), none, (.ld none), [.t 5]⟩, ⟨(some 7), none, (.fa 0), [.t 3]⟩, ⟨(some 8), none, (.ld none), [.t 7]⟩, ⟨(some 9), none, (.bin .neq), [.t 6, .t 8]⟩] false) (.cn (.t 9) (.sq (.rg [⟨(some 10), none, (.fa 0), [.t 2]⟩, ⟨(some 11), none, (.ld none), [.t 10]⟩, ⟨(some 12), none, (.fa 0), [.t 3]⟩, ⟨(some 13), none, (.ld none), [.t 12]⟩, ⟨(some 14), none, (.bin .lss), [.t 11, .t 13]⟩, ⟨(some 15), none, (.call 34 .fz), [.t 14]⟩, ⟨(some 4), none, .mv, [.t 15]⟩] false) (.rt)) (.skip))) (.sq (.sq (.rg [⟨(some 16), none, (.fa 1), [.t 2]⟩, ⟨(some 17), none, (.ld none), [.t 16]⟩, ⟨(some 18), none, (.fa 1), [.t 3]⟩, ⟨(some 19), none, (.ld none), [.t 18]⟩, ⟨(some 20), none, (.bin .neq), [.t 17, .t 19]⟩] false) (.cn (.t 20) (.sq (.rg [⟨(some 21), none, (.fa 1), [.t 2]⟩, ⟨(some 22), none, (.ld none), [.t 21]⟩, ⟨(some 23), none, (.fa 1), [.t 3]⟩, ⟨(some 24), none, (.ld none), [.t 23]⟩, ⟨(some 25), none, (.bin .lss), [.t 22, .t 24]⟩, ⟨(some 26), none, (.call 34 .fz), [.t 25]⟩, ⟨(some 4), none, .mv, [.t 26]⟩] false) (.rt)) (.skip))) (.sq (.sq (.rg [⟨(some 27), none, (.fa 2), [.t 2]⟩, ⟨(some 28), none, (.ld none), [.t 27]⟩, ⟨(some 29), none, (.fa 2), [.t 3]⟩, ⟨(some 30), none, (.ld none), [.t 29]⟩, ⟨(some 31), none, (.bin .neq), [.t 28, .t 30]⟩] false) (.cn (.t 31) (.sq (.rg [⟨(some 32), none, (.fa 2), [.t 2]⟩, ⟨(some 33), none, (.ld none), [.t 32]⟩, ⟨(some 34), none, (.fa 2), [.t 3]⟩, ⟨(some 35), none, (.ld none), [.t 34]⟩, ⟨(some 36), none, (.bin .lss), [.t 33, .t 35]⟩, ⟨(some 37), none, (.call 34 .fz), [.t 36]⟩, ⟨(some 4), none, .mv, [.t 37]⟩] false) (.rt)) (.skip))) (.sq (.rg [⟨(some 4), none, .mv, [.k (.c (.int .i64 0))]⟩] false) (.rt)))))
theorem cf13 : compF Try.prog 13 c13 = some ⟨c13, [.t 4], 38⟩ := by kernel_rfl

-- raddle/tab.Seen
def c14 : IC := .sq (.rg [⟨(some 2), none, (.box (some 1)), [.t 0]⟩, ⟨(some 4), none, .mv, [.k .z]⟩] false) (.sq (.sq (.rg [⟨(some 8), none, (.ld (some 1)), [.t 2]⟩, ⟨(some 9), none, .mv, [.t 1]⟩, ⟨(some 10), none, (.call 20 .fz), [.t 8, .t 9]⟩, ⟨(some 11), none, (.bin .neq), [.t 10, .k (.c (.int .i64 0))]⟩] false) (.cn (.t 11) (.sq (.rg [⟨(some 4), none, .mv, [.k .z]⟩] false) (.rt)) (.skip))) (.sq (.rg [⟨(some 5), none, .mv, [.k .z]⟩] false) (.sq (.sq (.rg [⟨(some 12), none, .mv, [.t 1]⟩, ⟨(some 13), none, .len, [.t 12]⟩, ⟨(some 14), none, .mv, [.k (.c (.int .i64 0))]⟩] false) (.bl 0 (.lp (.sq (.rg [⟨(some 15), none, (.bin .lss), [.t 14, .t 13]⟩] false) (.sq (.cn (.t 15) (.skip) (.ex 0)) (.sq (.bl 1 (.sq (.rg [⟨(some 16), none, (.ia 3), [.t 12, .t 14]⟩, ⟨(some 17), none, (.ld (some 3)), [.t 16]⟩, ⟨(some 7), none, (.alloc [(.c (.string ⟨#[]⟩)), .z, .z]), []⟩, ⟨none, none, (.st 3), [.t 7, .t 17]⟩] false) (.sq (.rg [⟨(some 18), none, (.fa 1), [.t 7]⟩, ⟨(some 19), none, (.ld none), [.t 18]⟩, ⟨(some 20), none, .len, [.t 19]⟩, ⟨(some 21), none, (.bin .gtr), [.t 20, .k (.c (.int .i64 0))]⟩] false) (.cn (.t 21) (.rg [⟨(some 22), none, .mv, [.t 5]⟩, ⟨(some 23), none, (.ld (some 3)), [.t 7]⟩, ⟨(some 24), none, (.call 32 .fz), [.t 23]⟩, ⟨(some 25), none, (.bsl 1 [.z] [0] 1 true), [.t 24]⟩, ⟨(some 26), none, (.app 1), [.t 22, .t 25]⟩, ⟨(some 5), none, .mv, [.t 26]⟩] false) (.skip))))) (.rg [⟨(some 27), none, (.bin .add), [.t 14, .k (.c (.int .i64 1))]⟩, ⟨(some 14), none, .mv, [.t 27]⟩] false))))))) (.sq (.rg [⟨(some 28), none, .mv, [.t 5]⟩, ⟨(some 4), none, .mv, [.t 28]⟩] false) (.rt)))))
theorem cf14 : compF Try.prog 14 c14 = some ⟨c14, [.t 4], 29⟩ := by kernel_rfl

-- raddle/tab.Dead
def c15 : IC := .sq (.rg [⟨(some 2), none, .mv, [.k (.c (.int .i64 0))]⟩] false) (.sq (.rg [⟨(some 3), none, .mv, [.k (.c (.int .i64 0))]⟩] false) (.sq (.sq (.rg [⟨(some 6), none, .mv, [.t 0]⟩, ⟨(some 7), none, .len, [.t 6]⟩, ⟨(some 8), none, .mv, [.k (.c (.int .i64 0))]⟩] false) (.bl 0 (.lp (.sq (.rg [⟨(some 9), none, (.bin .lss), [.t 8, .t 7]⟩] false) (.sq (.cn (.t 9) (.skip) (.ex 0)) (.sq (.bl 1 (.sq (.rg [⟨(some 10), none, (.ia 3), [.t 6, .t 8]⟩, ⟨(some 11), none, (.ld (some 3)), [.t 10]⟩, ⟨(some 5), none, (.alloc [(.c (.string ⟨#[]⟩)), .z, .z]), []⟩, ⟨none, none, (.st 3), [.t 5, .t 11]⟩] false) (.sq (.rg [⟨(some 12), none, (.fa 1), [.t 5]⟩, ⟨(some 13), none, (.ld none), [.t 12]⟩, ⟨(some 14), none, .len, [.t 13]⟩, ⟨(some 15), none, (.bin .eql), [.t 14, .k (.c (.int .i64 0))]⟩] false) (.cn (.t 15) (.rg [⟨(some 16), none, .mv, [.t 3]⟩, ⟨(some 17), none, (.bin .add), [.t 16, .k (.c (.int .i64 1))]⟩, ⟨(some 3), none, .mv, [.t 17]⟩] false) (.skip))))) (.rg [⟨(some 18), none, (.bin .add), [.t 8, .k (.c (.int .i64 1))]⟩, ⟨(some 8), none, .mv, [.t 18]⟩] false))))))) (.sq (.rg [⟨(some 19), none, .mv, [.t 3]⟩, ⟨(some 2), none, .mv, [.t 19]⟩] false) (.rt))))
theorem cf15 : compF Try.prog 15 c15 = some ⟨c15, [.t 2], 20⟩ := by kernel_rfl

-- raddle/raddlelaw13.wakes
def c16 : IC := .sq (.rg [⟨(some 0), none, .mv, [.k (.c (.bool false))]⟩] false) (.sq (.rg [⟨(some 8), none, (.bsl 1 [(.c (.int .i64 0))] [0] 1 true), [.k (.c (.int .i64 3))]⟩, ⟨(some 9), none, (.bld [.z] [(0, 1)]), [.t 8]⟩, ⟨(some 1), none, (.alloc [.z]), []⟩, ⟨none, none, (.st 1), [.t 1, .t 9]⟩] false) (.sq (.rg [⟨(some 11), none, (.ld (some 1)), [.t 1]⟩, ⟨(some 12), none, (.bld [(.c (.int .i64 0)), (.c (.int .i64 0))] [(1, 1)]), [.k (.c (.int .i64 1))]⟩, ⟨(some 13), none, (.bsl 1 [(.c (.int .i64 0))] [0] 1 true), [.k (.c (.int .i64 0))]⟩, ⟨(some 14), none, (.bld [(.c (.int .i64 0)), (.c (.int .i64 0)), (.c (.string ⟨#[]⟩))] [(0, 1), (1, 1)]), [.k (.c (.int .i64 3)), .k (.c (.int .i64 3))]⟩, ⟨(some 15), none, (.bsl 3 [(.c (.int .i64 0)), (.c (.int .i64 0)), (.c (.string ⟨#[]⟩))] [0] 1 true), [.t 14]⟩, ⟨(some 16), none, (.bld [(.c (.int .i64 0)), (.c (.int .i64 0)), .z, (.c (.int .i64 0)), (.c (.int .i64 0)), (.c (.int .i64 0)), (.c (.int .i64 0)), (.c (.int .i64 0)), (.c (.string ⟨#[]⟩)), (.c (.int .i64 0)), .z, .z] [(0, 2), (2, 1), (6, 1), (8, 1), (10, 1)]), [.t 12, .t 13, .k (.c (.int .i64 1)), .k (.c (.string ⟨#[107]⟩)), .t 15]⟩, ⟨(some 17), none, (.call 11 .fz), [.t 11, .k .z, .t 16]⟩, ⟨(some 10), none, .mv, [.t 17]⟩, ⟨(some 18), none, (.ext 0), [.t 10]⟩, ⟨(some 19), none, (.ext 1), [.t 10]⟩, ⟨(some 20), none, (.ext 2), [.t 10]⟩, ⟨(some 21), none, (.ext 3), [.t 10]⟩, ⟨(some 2), none, .mv, [.t 18]⟩, ⟨(some 3), none, .mv, [.t 19]⟩, ⟨(some 4), none, .mv, [.t 20]⟩, ⟨(some 5), none, .mv, [.t 21]⟩] false) (.sq (.sq (.rg [⟨(some 22), none, .mv, [.t 5]⟩, ⟨(some 23), none, (.bin .neq), [.t 22, .k (.c (.int .i64 0))]⟩, ⟨(some 24), none, .mv, [.t 23]⟩, ⟨(some 25), (some (24, false)), .mv, [.t 4]⟩, ⟨(some 26), (some (24, false)), .len, [.t 25]⟩, ⟨(some 27), (some (24, false)), (.bin .neq), [.t 26, .k (.c (.int .i64 2))]⟩, ⟨(some 28), none, .pick, [.t 24, .k (.c (.bool true)), .t 27]⟩, ⟨(some 29), none, .mv, [.t 28]⟩, ⟨(some 30), (some (29, false)), .mv, [.t 4]⟩, ⟨(some 31), (some (29, false)), (.ia 3), [.t 30, .k (.c (.int .i64 0))]⟩, ⟨(some 32), (some (29, false)), (.fa 2), [.t 31]⟩, ⟨(some 33), (some (29, false)), (.ld none), [.t 32]⟩, ⟨(some 34), (some (29, false)), (.bin .neq), [.t 33, .k (.c (.string ⟨#[107]⟩))]⟩, ⟨(some 35), none, .pick, [.t 29, .k (.c (.bool true)), .t 34]⟩, ⟨(some 36), none, .mv, [.t 35]⟩, ⟨(some 37), (some (36, false)), .mv, [.t 4]⟩, ⟨(some 38), (some (36, false)), (.ia 3), [.t 37, .k (.c (.int .i64 1))]⟩, ⟨(some 39), (some (36, false)), (.fa 1), [.t 38]⟩, ⟨(some 40), (some (36, false)), (.ld none), [.t 39]⟩, ⟨(some 41), (some (36, false)), (.bin .neq), [.t 40, .k (.c (.int .i64 3))]⟩, ⟨(some 42), none, .pick, [.t 36, .k (.c (.bool true)), .t 41]⟩] false) (.cn (.t 42) (.sq (.rg [⟨(some 0), none, .mv, [.k (.c (.bool false))]⟩] false) (.rt)) (.skip))) (.sq (.rg [⟨(some 44), none, (.ld (some 1)), [.t 1]⟩, ⟨(some 45), none, .mv, [.t 2]⟩, ⟨(some 46), none, (.bld [(.c (.int .i64 0)), (.c (.int .i64 0))] [(1, 1)]), [.k (.c (.int .i64 2))]⟩, ⟨(some 47), none, (.bsl 1 [(.c (.int .i64 0))] [0] 1 true), [.k (.c (.int .i64 1))]⟩, ⟨(some 48), none, (.bld [(.c (.int .i64 0)), (.c (.int .i64 0))] [(1, 1)]), [.k (.c (.int .i64 1))]⟩, ⟨(some 49), none, (.bsl 2 [(.c (.int .i64 0)), (.c (.int .i64 0))] [0] 1 true), [.t 48]⟩, ⟨(some 50), none, (.bld [(.c (.int .i64 0)), (.c (.int .i64 0)), .z, (.c (.int .i64 0)), (.c (.int .i64 0)), (.c (.int .i64 0)), (.c (.int .i64 0)), (.c (.int .i64 0)), (.c (.string ⟨#[]⟩)), (.c (.int .i64 0)), .z, .z] [(0, 2), (2, 1), (6, 1), (8, 1), (11, 1)]), [.t 46, .t 47, .k (.c (.int .i64 3)), .k (.c (.string ⟨#[107]⟩)), .t 49]⟩, ⟨(some 51), none, (.call 11 .fz), [.t 44, .t 45, .t 50]⟩, ⟨(some 43), none, .mv, [.t 51]⟩, ⟨(some 52), none, (.ext 0), [.t 43]⟩, ⟨(some 53), none, (.ext 1), [.t 43]⟩, ⟨(some 54), none, (.ext 2), [.t 43]⟩, ⟨(some 55), none, (.ext 3), [.t 43]⟩, ⟨(some 2), none, .mv, [.t 52]⟩, ⟨(some 6), none, .mv, [.t 53]⟩, ⟨(some 7), none, .mv, [.t 54]⟩, ⟨(some 5), none, .mv, [.t 55]⟩] false) (.sq (.rg [⟨(some 56), none, .mv, [.t 5]⟩, ⟨(some 57), none, (.bin .eql), [.t 56, .k (.c (.int .i64 0))]⟩, ⟨(some 58), none, .mv, [.t 57]⟩, ⟨(some 59), (some (58, true)), .mv, [.t 6]⟩, ⟨(some 60), (some (58, true)), .len, [.t 59]⟩, ⟨(some 61), (some (58, true)), (.bin .eql), [.t 60, .k (.c (.int .i64 2))]⟩, ⟨(some 62), none, .pick, [.t 58, .t 61, .k (.c (.bool false))]⟩, ⟨(some 63), none, .mv, [.t 62]⟩, ⟨(some 64), (some (63, true)), .mv, [.t 2]⟩, ⟨(some 65), (some (63, true)), (.call 15 .fz), [.t 64]⟩, ⟨(some 66), (some (63, true)), (.bin .eql), [.t 65, .k (.c (.int .i64 1))]⟩, ⟨(some 67), none, .pick, [.t 63, .t 66, .k (.c (.bool false))]⟩, ⟨(some 68), none, .mv, [.t 67]⟩, ⟨(some 69), (some (68, true)), (.ld (some 1)), [.t 1]⟩, ⟨(some 70), (some (68, true)), .mv, [.t 2]⟩, ⟨(some 71), (some (68, true)), (.call 14 .fz), [.t 69, .t 70]⟩, ⟨(some 72), (some (68, true)), .len, [.t 71]⟩, ⟨(some 73), (some (68, true)), (.bin .eql), [.t 72, .k (.c (.int .i64 0))]⟩, ⟨(some 74), none, .pick, [.t 68, .t 73, .k (.c (.bool false))]⟩, ⟨(some 0), none, .mv, [.t 74]⟩] false) (.rt))))))
theorem cf16 : compF Try.prog 16 c16 = some ⟨c16, [.t 0], 75⟩ := by kernel_rfl

-- raddle/raddlelaw13.ins
def c17 : IC := .sq (.rg [⟨(some 10), none, (.alloc [(.c (.int .i64 0)), (.c (.int .i64 0)), .z, (.c (.int .i64 0)), (.c (.int .i64 0)), (.c (.int .i64 0)), (.c (.int .i64 0)), (.c (.int .i64 0)), (.c (.string ⟨#[]⟩)), (.c (.int .i64 0)), .z, .z]), []⟩] false) (.sq (.rg [⟨(some 12), none, (.bsl 1 [(.c (.int .i64 0))] [0, 1, 2] 3 false), [.k (.c (.int .i64 9)), .k (.c (.int .i64 9)), .k (.c (.int .i64 9))]⟩, ⟨(some 11), none, .mv, [.t 12]⟩] false) (.sq (.rg [⟨(some 13), none, .mv, [.t 11]⟩, ⟨(some 14), none, .mv, [.t 1]⟩, ⟨(some 15), none, .mv, [.t 2]⟩, ⟨(some 16), none, (.bin .sub), [.t 15, .k (.c (.int .i64 1))]⟩, ⟨(some 17), none, (.ia 1), [.t 13, .t 14]⟩, ⟨none, none, (.st 1), [.t 17, .t 16]⟩] false) (.sq (.rg [⟨(some 18), none, .mv, [.t 1]⟩, ⟨(some 19), none, .mv, [.t 2]⟩, ⟨(some 20), none, (.bld [(.c (.int .i64 0)), (.c (.int .i64 0))] [(0, 1), (1, 1)]), [.t 18, .t 19]⟩, ⟨(some 21), none, .mv, [.t 11]⟩, ⟨(some 22), none, .mv, [.t 3]⟩, ⟨(some 23), none, .mv, [.t 1]⟩, ⟨(some 24), none, (.bld [(.c (.int .i64 0)), (.c (.int .i64 0)), (.c (.int .i64 0))] [(0, 1), (2, 1)]), [.t 22, .t 23]⟩, ⟨(some 25), none, .mv, [.t 0]⟩, ⟨(some 26), none, .mv, [.t 4]⟩, ⟨(some 27), none, (.call 22 .fz), [.t 26]⟩, ⟨(some 28), none, (.bsl 3 [(.c (.int .i64 0)), (.c (.int .i64 0)), (.c (.string ⟨#[]⟩))] [0] 1 true), [.t 27]⟩, ⟨(some 29), none, (.bld [(.c (.int .i64 0)), (.c (.int .i64 0)), .z, (.c (.int .i64 0)), (.c (.int .i64 0)), (.c (.int .i64 0)), (.c (.int .i64 0)), (.c (.int .i64 0)), (.c (.string ⟨#[]⟩)), (.c (.int .i64 0)), .z, .z] [(0, 2), (2, 1), (3, 3), (6, 1), (8, 1), (10, 1)]), [.t 20, .t 21, .t 24, .k (.c (.int .i64 1)), .t 25, .t 28]⟩, ⟨none, none, (.st 12), [.t 10, .t 29]⟩] false) (.rt))))
theorem cf17 : compF Try.prog 17 c17 = some ⟨c17, [.c 10 (some 12)], 30⟩ := by kernel_rfl

-- raddle/tab.Find
def c18 : IC := .sq (.rg [⟨(some 3), none, (.box none), [.t 1]⟩, ⟨(some 4), none, .mv, [.k (.c (.int .i64 0))]⟩] false) (.sq (.rg [⟨(some 5), none, .mv, [.t 0]⟩, ⟨(some 6), none, (.mkf 36), [.t 3]⟩, ⟨(some 7), none, (.call 35 .fz), [.t 5, .t 6]⟩, ⟨(some 4), none, .mv, [.t 7]⟩] false) (.rt))
theorem cf18 : compF Try.prog 18 c18 = some ⟨c18, [.t 4], 8⟩ := by kernel_rfl

-- raddle/raddlekeep.Value
def c19 : IC := .sq (.rg [⟨(some 2), none, (.box (some 3)), [.t 0]⟩, ⟨(some 3), none, (.box (some 3)), [.t 1]⟩, ⟨(some 4), none, .mv, [.k (.c (.bool false))]⟩] false) (.sq (.rg [⟨(some 5), none, (.fa 0), [.t 2]⟩, ⟨(some 6), none, (.ld none), [.t 5]⟩, ⟨(some 7), none, (.fa 0), [.t 3]⟩, ⟨(some 8), none, (.ld none), [.t 7]⟩, ⟨(some 9), none, (.bin .eql), [.t 6, .t 8]⟩, ⟨(some 10), none, .mv, [.t 9]⟩, ⟨(some 11), (some (10, true)), (.fa 1), [.t 2]⟩, ⟨(some 12), (some (10, true)), (.ld none), [.t 11]⟩, ⟨(some 13), (some (10, true)), (.fa 1), [.t 3]⟩, ⟨(some 14), (some (10, true)), (.ld none), [.t 13]⟩, ⟨(some 15), (some (10, true)), (.bin .eql), [.t 12, .t 14]⟩, ⟨(some 16), none, .pick, [.t 10, .t 15, .k (.c (.bool false))]⟩, ⟨(some 17), none, .mv, [.t 16]⟩, ⟨(some 18), (some (17, true)), (.fa 2), [.t 2]⟩, ⟨(some 19), (some (17, true)), (.ld none), [.t 18]⟩, ⟨(some 20), (some (17, true)), (.fa 2), [.t 3]⟩, ⟨(some 21), (some (17, true)), (.ld none), [.t 20]⟩, ⟨(some 22), (some (17, true)), (.bin .eql), [.t 19, .t 21]⟩, ⟨(some 23), none, .pick, [.t 17, .t 22, .k (.c (.bool false))]⟩, ⟨(some 4), none, .mv, [.t 23]⟩] false) (.rt))
theorem cf19 : compF Try.prog 19 c19 = some ⟨c19, [.t 4], 24⟩ := by kernel_rfl

-- raddle/tab.Check
def c20 : IC := .sq (.rg [⟨(some 2), none, (.box (some 1)), [.t 0]⟩, ⟨(some 4), none, .mv, [.k (.c (.int .i64 0))]⟩] false) (.sq (.sq (.rg [⟨(some 7), none, (.ld (some 1)), [.t 2]⟩, ⟨(some 8), none, (.bsl 1 [.z] [0] 1 true), [.t 7]⟩, ⟨(some 9), none, (.call 37 .fz), [.t 8]⟩, ⟨(some 10), none, (.bin .neq), [.t 9, .k (.c (.int .i64 0))]⟩] false) (.cn (.t 10) (.sq (.rg [⟨(some 4), none, .mv, [.k (.c (.int .i64 10))]⟩] false) (.rt)) (.skip))) (.sq (.sq (.rg [⟨(some 11), none, .mv, [.t 1]⟩, ⟨(some 12), none, .len, [.t 11]⟩, ⟨(some 13), none, .mv, [.k (.c (.int .i64 0))]⟩] false) (.bl 0 (.lp (.sq (.rg [⟨(some 14), none, (.bin .lss), [.t 13, .t 12]⟩] false) (.sq (.cn (.t 14) (.skip) (.ex 0)) (.sq (.bl 1 (.sq (.rg [⟨(some 15), none, .mv, [.t 13]⟩, ⟨(some 16), none, (.ia 3), [.t 11, .t 13]⟩, ⟨(some 17), none, (.ld (some 3)), [.t 16]⟩, ⟨(some 6), none, (.alloc [(.c (.string ⟨#[]⟩)), .z, .z]), []⟩, ⟨(some 5), none, .mv, [.t 15]⟩, ⟨none, none, (.st 3), [.t 6, .t 17]⟩] false) (.sq (.rg [⟨(some 18), none, (.ld (some 1)), [.t 2]⟩, ⟨(some 19), none, (.ld (some 3)), [.t 6]⟩, ⟨(some 20), none, (.call 38 .fz), [.t 18, .t 19]⟩, ⟨(some 21), none, (.un .not), [.t 20]⟩, ⟨(some 22), none, .mv, [.t 21]⟩, ⟨(some 23), (some (22, false)), .mv, [.t 5]⟩, ⟨(some 24), (some (22, false)), (.bin .gtr), [.t 23, .k (.c (.int .i64 0))]⟩, ⟨(some 25), (some (22, false)), .mv, [.t 24]⟩, ⟨(some 26), (some (25, true)), .mv, [.t 1]⟩, ⟨(some 27), (some (25, true)), .mv, [.t 5]⟩, ⟨(some 28), (some (25, true)), (.bin .sub), [.t 27, .k (.c (.int .i64 1))]⟩, ⟨(some 29), (some (25, true)), (.ia 3), [.t 26, .t 28]⟩, ⟨(some 30), (some (25, true)), (.fa 0), [.t 29]⟩, ⟨(some 31), (some (25, true)), (.ld none), [.t 30]⟩, ⟨(some 32), (some (25, true)), (.fa 0), [.t 6]⟩, ⟨(some 33), (some (25, true)), (.ld none), [.t 32]⟩, ⟨(some 34), (some (25, true)), (.bin .geq), [.t 31, .t 33]⟩, ⟨(some 35), (some (22, false)), .pick, [.t 25, .t 34, .k (.c (.bool false))]⟩, ⟨(some 36), none, .pick, [.t 22, .k (.c (.bool true)), .t 35]⟩] true) (.cn (.t 36) (.sq (.rg [⟨(some 4), none, .mv, [.k (.c (.int .i64 1))]⟩] false) (.rt)) (.skip))))) (.rg [⟨(some 37), none, (.bin .add), [.t 13, .k (.c (.int .i64 1))]⟩, ⟨(some 13), none, .mv, [.t 37]⟩] false))))))) (.sq (.rg [⟨(some 4), none, .mv, [.k (.c (.int .i64 0))]⟩] false) (.rt))))
theorem cf20 : compF Try.prog 20 c20 = some ⟨c20, [.t 4], 38⟩ := by kernel_rfl

-- raddle/tab.Compact
def c21 : IC := .sq (.rg [⟨(some 3), none, (.box (some 1)), [.t 0]⟩, ⟨(some 5), none, (.box none), [.t 2]⟩, ⟨(some 6), none, .mv, [.k .z]⟩, ⟨(some 7), none, .mv, [.k (.c (.int .i64 0))]⟩, ⟨(some 8), none, .mv, [.k (.c (.int .i64 0))]⟩] false) (.sq (.rg [⟨(some 11), none, (.ld (some 1)), [.t 3]⟩, ⟨(some 12), none, .mv, [.t 1]⟩, ⟨(some 13), none, (.call 20 .fz), [.t 11, .t 12]⟩, ⟨(some 9), none, .mv, [.t 13]⟩] false) (.sq (.sq (.rg [⟨(some 14), none, .mv, [.t 9]⟩, ⟨(some 15), none, (.bin .neq), [.t 14, .k (.c (.int .i64 0))]⟩] false) (.cn (.t 15) (.sq (.rg [⟨(some 16), none, .mv, [.t 9]⟩, ⟨(some 6), none, .mv, [.k .z]⟩, ⟨(some 7), none, .mv, [.k (.c (.int .i64 0))]⟩, ⟨(some 8), none, .mv, [.t 16]⟩] false) (.rt)) (.skip))) (.sq (.rg [⟨(some 17), none, (.ld none), [.t 5]⟩, ⟨(some 18), none, (.call 39 .fz), [.t 17]⟩, ⟨(some 9), none, .mv, [.t 18]⟩] false) (.sq (.sq (.rg [⟨(some 19), none, .mv, [.t 9]⟩, ⟨(some 20), none, (.bin .neq), [.t 19, .k (.c (.int .i64 0))]⟩] false) (.cn (.t 20) (.sq (.rg [⟨(some 21), none, .mv, [.t 9]⟩, ⟨(some 6), none, .mv, [.k .z]⟩, ⟨(some 7), none, .mv, [.k (.c (.int .i64 0))]⟩, ⟨(some 8), none, .mv, [.t 21]⟩] false) (.rt)) (.skip))) (.sq (.rg [⟨(some 22), none, .mv, [.t 1]⟩, ⟨(some 23), none, (.rcall 27), [.t 22]⟩, ⟨(some 24), none, (.mkf 41), [.t 5]⟩, ⟨(some 25), none, (.rcall 40), [.t 23, .t 24]⟩, ⟨(some 10), none, .mv, [.t 25]⟩] false) (.sq (.rg [⟨(some 26), none, .mv, [.t 10]⟩, ⟨(some 27), none, (.rcall 46), [.t 26]⟩, ⟨(some 28), none, .mv, [.t 1]⟩, ⟨(some 29), none, .len, [.t 28]⟩, ⟨(some 30), none, .mv, [.t 10]⟩, ⟨(some 31), none, .len, [.t 30]⟩, ⟨(some 32), none, (.bin .sub), [.t 29, .t 31]⟩, ⟨(some 6), none, .mv, [.t 27]⟩, ⟨(some 7), none, .mv, [.t 32]⟩, ⟨(some 8), none, .mv, [.k (.c (.int .i64 0))]⟩] false) (.rt)))))))
theorem cf21 : compF Try.prog 21 c21 = some ⟨c21, [.t 6, .t 7, .t 8], 33⟩ := by kernel_rfl

-- raddle/raddlelaw13.num
def c22 : IC := .sq (.rg [⟨(some 2), none, (.alloc [(.c (.int .i64 0)), (.c (.int .i64 0)), (.c (.string ⟨#[]⟩))]), []⟩] false) (.sq (.rg [⟨(some 3), none, .mv, [.t 0]⟩, ⟨(some 4), none, (.bld [(.c (.int .i64 0)), (.c (.int .i64 0)), (.c (.string ⟨#[]⟩))] [(0, 1), (1, 1)]), [.k (.c (.int .i64 3)), .t 3]⟩, ⟨none, none, (.st 3), [.t 2, .t 4]⟩] false) (.rt))
theorem cf22 : compF Try.prog 22 c22 = some ⟨c22, [.c 2 (some 3)], 5⟩ := by kernel_rfl

-- raddle/raddlelaw04.Heavy
def c23 : IC := .sq (.rg [⟨(some 2), none, .mv, [.k (.c (.bool false))]⟩] false) (.sq (.rg [⟨(some 3), none, .mv, [.t 0]⟩, ⟨(some 4), none, .len, [.t 3]⟩, ⟨(some 5), none, (.bin .gtr), [.t 4, .k (.c (.int .i64 40))]⟩, ⟨(some 6), none, .mv, [.t 5]⟩, ⟨(some 7), (some (6, false)), .mv, [.t 0]⟩, ⟨(some 8), (some (6, false)), (.call 47 .fz), [.t 7]⟩, ⟨(some 9), none, .pick, [.t 6, .k (.c (.bool true)), .t 8]⟩, ⟨(some 2), none, .mv, [.t 9]⟩] false) (.rt))
theorem cf23 : compF Try.prog 23 c23 = some ⟨c23, [.t 2], 10⟩ := by kernel_rfl

-- raddle/raddleref01.in
def c24 : IC := .sq (.rg [⟨(some 6), none, .mv, [.k (.c (.bool false))]⟩] false) (.sq (.rg [⟨(some 7), none, .mv, [.t 0]⟩, ⟨(some 8), none, .mv, [.t 1]⟩, ⟨(some 9), none, (.bin .geq), [.t 7, .t 8]⟩, ⟨(some 10), none, .mv, [.t 9]⟩, ⟨(some 11), (some (10, true)), .mv, [.t 0]⟩, ⟨(some 12), (some (10, true)), .mv, [.t 2]⟩, ⟨(some 13), (some (10, true)), (.bin .leq), [.t 11, .t 12]⟩, ⟨(some 14), none, .pick, [.t 10, .t 13, .k (.c (.bool false))]⟩, ⟨(some 6), none, .mv, [.t 14]⟩] false) (.rt))
theorem cf24 : compF Try.prog 24 c24 = some ⟨c24, [.t 6], 15⟩ := by kernel_rfl

-- raddle/raddleref01.Type
def c25 : IC := .sq (.rg [⟨(some 2), none, .mv, [.k (.c (.bool false))]⟩] false) (.sq (.rg [⟨(some 3), none, .mv, [.t 0]⟩, ⟨(some 4), none, (.call 24 .fz), [.t 3, .k (.c (.int .i64 2)), .k (.c (.int .i64 4))]⟩, ⟨(some 2), none, .mv, [.t 4]⟩] false) (.rt))
theorem cf25 : compF Try.prog 25 c25 = some ⟨c25, [.t 2], 5⟩ := by kernel_rfl

-- raddle/op.Check
def c26 : IC := .sq (.rg [⟨(some 5), none, (.box (some 12)), [.t 2]⟩, ⟨(some 6), none, .mv, [.k (.c (.int .i64 0))]⟩] false) (.sq (.rg [⟨(some 8), none, .mv, [.t 1]⟩, ⟨(some 9), none, (.call 37 .fz), [.t 8]⟩, ⟨(some 7), none, .mv, [.t 9]⟩] false) (.sq (.bl 0 (.sq (.rg [⟨(some 11), none, .mv, [.t 7]⟩, ⟨(some 12), none, (.bin .neq), [.t 11, .k (.c (.int .i64 0))]⟩, ⟨(some 10), none, .mv, [.t 12]⟩] false) (.cn (.t 10) (.sq (.rg [⟨(some 13), none, .mv, [.t 7]⟩, ⟨(some 6), none, .mv, [.t 13]⟩] false) (.rt)) (.sq (.rg [⟨(some 15), none, .mv, [.t 0]⟩, ⟨(some 16), none, (.bin .lss), [.t 15, .k (.c (.int .i64 1))]⟩, ⟨(some 17), none, .mv, [.t 16]⟩, ⟨(some 18), (some (17, false)), .mv, [.t 0]⟩, ⟨(some 19), (some (17, false)), (.bin .gtr), [.t 18, .k (.c (.int .i64 5))]⟩, ⟨(some 20), none, .pick, [.t 17, .k (.c (.bool true)), .t 19]⟩, ⟨(some 21), none, .mv, [.t 20]⟩, ⟨(some 22), (some (21, false)), .mv, [.t 0]⟩, ⟨(some 23), (some (21, false)), .mv, [.t 1]⟩, ⟨(some 24), (some (21, false)), (.ld (some 12)), [.t 5]⟩, ⟨(some 25), (some (21, false)), (.call 48 .fz), [.t 22, .t 23, .t 24]⟩, ⟨(some 26), (some (21, false)), (.un .not), [.t 25]⟩, ⟨(some 27), none, .pick, [.t 21, .k (.c (.bool true)), .t 26]⟩, ⟨(some 14), none, .mv, [.t 27]⟩] false) (.cn (.t 14) (.sq (.rg [⟨(some 6), none, .mv, [.k (.c (.int .i64 1))]⟩] false) (.rt)) (.skip)))))) (.sq (.rg [⟨(some 6), none, .mv, [.k (.c (.int .i64 0))]⟩] false) (.rt))))
theorem cf26 : compF Try.prog 26 c26 = some ⟨c26, [.t 6], 28⟩ := by kernel_rfl

-- raddle/tab.Twin
def c27 : IC := .sq (.rg [⟨(some 2), none, .mv, [.k .z]⟩] false) (.sq (.rg [⟨(some 5), none, .mv, [.t 0]⟩, ⟨(some 6), none, (.call 46 (.own 3)), [.t 5]⟩, ⟨(some 3), none, .mv, [.t 6]⟩] false) (.sq (.sq (.rg [⟨(some 7), none, .mv, [.t 3]⟩, ⟨(some 8), none, .len, [.t 7]⟩, ⟨(some 9), none, .mv, [.k (.c (.int .i64 0))]⟩] false) (.bl 0 (.lp (.sq (.rg [⟨(some 10), none, (.bin .lss), [.t 9, .t 8]⟩] false) (.sq (.cn (.t 10) (.skip) (.ex 0)) (.sq (.bl 1 (.sq (.rg [⟨(some 11), none, .mv, [.t 9]⟩, ⟨(some 4), none, .mv, [.t 11]⟩] false) (.rg [⟨(some 12), none, .mv, [.t 3]⟩, ⟨(some 13), none, .mv, [.t 4]⟩, ⟨(some 14), none, .mv, [.t 3]⟩, ⟨(some 15), none, .mv, [.t 4]⟩, ⟨(some 16), none, .mv, [.t 3]⟩, ⟨(some 17), none, .mv, [.t 4]⟩, ⟨(some 18), none, (.ia 3), [.t 16, .t 17]⟩, ⟨(some 19), none, (.fa 1), [.t 18]⟩, ⟨(some 20), none, (.ld none), [.t 19]⟩, ⟨(some 21), none, (.call 49 (.own 2)), [.t 20]⟩, ⟨(some 22), none, .mv, [.t 3]⟩, ⟨(some 23), none, .mv, [.t 4]⟩, ⟨(some 24), none, (.ia 3), [.t 22, .t 23]⟩, ⟨(some 25), none, (.fa 2), [.t 24]⟩, ⟨(some 26), none, (.ld none), [.t 25]⟩, ⟨(some 27), none, (.call 50 (.own 8)), [.t 26]⟩, ⟨(some 28), none, (.ia 3), [.t 12, .t 13]⟩, ⟨(some 29), none, (.fa 1), [.t 28]⟩, ⟨none, none, (.st 1), [.t 29, .t 21]⟩, ⟨(some 30), none, (.ia 3), [.t 14, .t 15]⟩, ⟨(some 31), none, (.fa 2), [.t 30]⟩, ⟨none, none, (.st 1), [.t 31, .t 27]⟩] true))) (.rg [⟨(some 32), none, (.bin .add), [.t 9, .k (.c (.int .i64 1))]⟩, ⟨(some 9), none, .mv, [.t 32]⟩] false))))))) (.sq (.rg [⟨(some 33), none, .mv, [.t 3]⟩, ⟨(some 2), none, .mv, [.t 33]⟩] false) (.rt))))
theorem cf27 : compF Try.prog 27 c27 = some ⟨c27, [.t 2], 34⟩ := by kernel_rfl

-- slices.BinarySearchFunc[[]raddle/api.Row,raddle/api.Row,string]
def c28 : IC := .sq (.rg [⟨(some 6), none, .mv, [.k (.c (.int .i64 0))]⟩, ⟨(some 7), none, .mv, [.k (.c (.bool false))]⟩] false) (.sq (.rg [⟨(some 12), none, .mv, [.t 0]⟩, ⟨(some 13), none, .len, [.t 12]⟩, ⟨(some 8), none, .mv, [.t 13]⟩] false) (.sq (.rg [⟨(some 14), none, .mv, [.t 8]⟩, ⟨(some 9), none, .mv, [.k (.c (.int .i64 0))]⟩, ⟨(some 10), none, .mv, [.t 14]⟩] false) (.sq (.bl 0 (.lp (.sq (.sq (.rg [⟨(some 15), none, .mv, [.t 9]⟩, ⟨(some 16), none, .mv, [.t 10]⟩, ⟨(some 17), none, (.bin .lss), [.t 15, .t 16]⟩] false) (.cn (.t 17) (.skip) (.ex 0))) (.bl 1 (.sq (.rg [⟨(some 18), none, .mv, [.t 9]⟩, ⟨(some 19), none, .mv, [.t 10]⟩, ⟨(some 20), none, (.bin .add), [.t 18, .t 19]⟩, ⟨(some 21), none, (.conv .u64), [.t 20]⟩, ⟨(some 22), none, (.bin .shr), [.t 21, .k (.c (.int .u64 1))]⟩, ⟨(some 23), none, (.conv .i64), [.t 22]⟩, ⟨(some 11), none, .mv, [.t 23]⟩] false) (.sq (.rg [⟨(some 24), none, .mv, [.t 2]⟩, ⟨(some 25), none, .mv, [.t 0]⟩, ⟨(some 26), none, .mv, [.t 11]⟩, ⟨(some 27), none, (.ia 3), [.t 25, .t 26]⟩, ⟨(some 28), none, (.ld (some 3)), [.t 27]⟩, ⟨(some 29), none, .mv, [.t 1]⟩, ⟨(some 30), none, (.callv .fz), [.t 24, .t 28, .t 29]⟩, ⟨(some 31), none, (.bin .lss), [.t 30, .k (.c (.int .i64 0))]⟩] false) (.cn (.t 31) (.rg [⟨(some 32), none, .mv, [.t 11]⟩, ⟨(some 33), none, (.bin .add), [.t 32, .k (.c (.int .i64 1))]⟩, ⟨(some 9), none, .mv, [.t 33]⟩] false) (.rg [⟨(some 34), none, .mv, [.t 11]⟩, ⟨(some 10), none, .mv, [.t 34]⟩] false)))))))) (.sq (.rg [⟨(some 35), none, .mv, [.t 9]⟩, ⟨(some 36), none, .mv, [.t 9]⟩, ⟨(some 37), none, .mv, [.t 8]⟩, ⟨(some 38), none, (.bin .lss), [.t 36, .t 37]⟩, ⟨(some 39), none, .mv, [.t 38]⟩, ⟨(some 40), (some (39, true)), .mv, [.t 2]⟩, ⟨(some 41), (some (39, true)), .mv, [.t 0]⟩, ⟨(some 42), (some (39, true)), .mv, [.t 9]⟩, ⟨(some 43), (some (39, true)), (.ia 3), [.t 41, .t 42]⟩, ⟨(some 44), (some (39, true)), (.ld (some 3)), [.t 43]⟩, ⟨(some 45), (some (39, true)), .mv, [.t 1]⟩, ⟨(some 46), (some (39, true)), (.callv .fz), [.t 40, .t 44, .t 45]⟩, ⟨(some 47), (some (39, true)), (.bin .eql), [.t 46, .k (.c (.int .i64 0))]⟩, ⟨(some 48), none, .pick, [.t 39, .t 47, .k (.c (.bool false))]⟩, ⟨(some 6), none, .mv, [.t 35]⟩, ⟨(some 7), none, .mv, [.t 48]⟩] false) (.rt)))))
theorem cf28 : compF Try.prog 28 c28 = some ⟨c28, [.t 6, .t 7], 49⟩ := by kernel_rfl

-- raddle/tab.Apply$1
def c29 : IC := .sq (.rg [⟨(some 2), none, (.box (some 3)), [.t 0]⟩, ⟨(some 4), none, .mv, [.k (.c (.int .i64 0))]⟩] false) (.sq (.rg [⟨(some 5), none, (.fa 0), [.t 2]⟩, ⟨(some 6), none, (.ld none), [.t 5]⟩, ⟨(some 7), none, .mv, [.t 1]⟩, ⟨(some 8), none, (.call 30 .fz), [.t 6, .t 7]⟩, ⟨(some 4), none, .mv, [.t 8]⟩] false) (.rt))
theorem cf29 : compF Try.prog 29 c29 = some ⟨c29, [.t 4], 9⟩ := by kernel_rfl

-- strings.Compare
def c30 : IC := .sq (.rg [⟨(some 4), none, .mv, [.k (.c (.int .i64 0))]⟩] false) (.sq (.rg [⟨(some 5), none, .mv, [.t 0]⟩, ⟨(some 6), none, .mv, [.t 1]⟩, ⟨(some 7), none, (.call 51 .fz), [.t 5, .t 6]⟩, ⟨(some 4), none, .mv, [.t 7]⟩] false) (.rt))
theorem cf30 : compF Try.prog 30 c30 = some ⟨c30, [.t 4], 8⟩ := by kernel_rfl

-- slices.Insert[[]raddle/api.Row,raddle/api.Row]
def c31 : IC := .sq (.rg [⟨(some 6), none, .mv, [.k .z]⟩] false) (.sq (.rg [⟨(some 10), none, .mv, [.t 0]⟩, ⟨(some 11), none, .mv, [.t 1]⟩, ⟨(some 12), none, (.slc 3 true false), [.t 10, .t 11]⟩] false) (.sq (.rg [⟨(some 13), none, .mv, [.t 2]⟩, ⟨(some 14), none, .len, [.t 13]⟩, ⟨(some 7), none, .mv, [.t 14]⟩] false) (.sq (.sq (.rg [⟨(some 15), none, .mv, [.t 7]⟩, ⟨(some 16), none, (.bin .eql), [.t 15, .k (.c (.int .i64 0))]⟩] false) (.cn (.t 16) (.sq (.rg [⟨(some 17), none, .mv, [.t 0]⟩, ⟨(some 6), none, .mv, [.t 17]⟩] false) (.rt)) (.skip))) (.sq (.rg [⟨(some 18), none, .mv, [.t 0]⟩, ⟨(some 19), none, .len, [.t 18]⟩, ⟨(some 8), none, .mv, [.t 19]⟩] false) (.sq (.sq (.rg [⟨(some 20), none, .mv, [.t 1]⟩, ⟨(some 21), none, .mv, [.t 8]⟩, ⟨(some 22), none, (.bin .eql), [.t 20, .t 21]⟩] false) (.cn (.t 22) (.sq (.rg [⟨(some 23), none, .mv, [.t 0]⟩, ⟨(some 24), none, .mv, [.t 2]⟩, ⟨(some 25), none, (.app 3), [.t 23, .t 24]⟩, ⟨(some 6), none, .mv, [.t 25]⟩] false) (.rt)) (.skip))) (.sq (.sq (.rg [⟨(some 26), none, .mv, [.t 8]⟩, ⟨(some 27), none, .mv, [.t 7]⟩, ⟨(some 28), none, (.bin .add), [.t 26, .t 27]⟩, ⟨(some 29), none, .mv, [.t 0]⟩, ⟨(some 30), none, .capo, [.t 29]⟩, ⟨(some 31), none, (.bin .gtr), [.t 28, .t 30]⟩] false) (.cn (.t 31) (.sq (.rg [⟨(some 32), none, .mv, [.t 0]⟩, ⟨(some 33), none, .mv, [.t 1]⟩, ⟨(some 34), none, (.slc 3 false true), [.t 32, .t 33]⟩, ⟨(some 35), none, .mv, [.t 8]⟩, ⟨(some 36), none, .mv, [.t 7]⟩, ⟨(some 37), none, (.bin .add), [.t 35, .t 36]⟩, ⟨(some 38), none, .mv, [.t 1]⟩, ⟨(some 39), none, (.bin .sub), [.t 37, .t 38]⟩, ⟨(some 40), none, (.appz 3 [(.c (.string ⟨#[]⟩)), .z, .z]), [.t 34, .t 39]⟩, ⟨(some 9), none, .mv, [.t 40]⟩] false) (.sq (.rg [⟨(some 41), none, .mv, [.t 9]⟩, ⟨(some 42), none, .mv, [.t 1]⟩, ⟨(some 43), none, (.slc 3 true false), [.t 41, .t 42]⟩, ⟨(some 44), none, .mv, [.t 2]⟩, ⟨(some 45), none, (.cpy 3), [.t 43, .t 44]⟩] false) (.sq (.rg [⟨(some 46), none, .mv, [.t 9]⟩, ⟨(some 47), none, .mv, [.t 1]⟩, ⟨(some 48), none, .mv, [.t 7]⟩, ⟨(some 49), none, (.bin .add), [.t 47, .t 48]⟩, ⟨(some 50), none, (.slc 3 true false), [.t 46, .t 49]⟩, ⟨(some 51), none, .mv, [.t 0]⟩, ⟨(some 52), none, .mv, [.t 1]⟩, ⟨(some 53), none, (.slc 3 true false), [.t 51, .t 52]⟩, ⟨(some 54), none, (.cpy 3), [.t 50, .t 53]⟩] true) (.sq (.rg [⟨(some 55), none, .mv, [.t 9]⟩, ⟨(some 6), none, .mv, [.t 55]⟩] false) (.rt))))) (.skip))) (.sq (.rg [⟨(some 56), none, .mv, [.t 0]⟩, ⟨(some 57), none, .mv, [.t 8]⟩, ⟨(some 58), none, .mv, [.t 7]⟩, ⟨(some 59), none, (.bin .add), [.t 57, .t 58]⟩, ⟨(some 60), none, (.slc 3 false true), [.t 56, .t 59]⟩, ⟨(some 0), none, .mv, [.t 60]⟩] false) (.sq (.sq (.rg [⟨(some 61), none, .mv, [.t 2]⟩, ⟨(some 62), none, .mv, [.t 0]⟩, ⟨(some 63), none, .mv, [.t 1]⟩, ⟨(some 64), none, .mv, [.t 7]⟩, ⟨(some 65), none, (.bin .add), [.t 63, .t 64]⟩, ⟨(some 66), none, (.slc 3 true false), [.t 62, .t 65]⟩, ⟨(some 67), none, (.rcall 52), [.t 61, .t 66]⟩, ⟨(some 68), none, (.un .not), [.t 67]⟩] false) (.cn (.t 68) (.sq (.rg [⟨(some 69), none, .mv, [.t 0]⟩, ⟨(some 70), none, .mv, [.t 1]⟩, ⟨(some 71), none, .mv, [.t 7]⟩, ⟨(some 72), none, (.bin .add), [.t 70, .t 71]⟩, ⟨(some 73), none, (.slc 3 true false), [.t 69, .t 72]⟩, ⟨(some 74), none, .mv, [.t 0]⟩, ⟨(some 75), none, .mv, [.t 1]⟩, ⟨(some 76), none, (.slc 3 true false), [.t 74, .t 75]⟩, ⟨(some 77), none, (.cpy 3), [.t 73, .t 76]⟩] true) (.sq (.rg [⟨(some 78), none, .mv, [.t 0]⟩, ⟨(some 79), none, .mv, [.t 1]⟩, ⟨(some 80), none, (.slc 3 true false), [.t 78, .t 79]⟩, ⟨(some 81), none, .mv, [.t 2]⟩, ⟨(some 82), none, (.cpy 3), [.t 80, .t 81]⟩] false) (.sq (.rg [⟨(some 83), none, .mv, [.t 0]⟩, ⟨(some 6), none, .mv, [.t 83]⟩] false) (.rt)))) (.skip))) (.sq (.rg [⟨(some 84), none, .mv, [.t 0]⟩, ⟨(some 85), none, .mv, [.t 8]⟩, ⟨(some 86), none, (.slc 3 true false), [.t 84, .t 85]⟩, ⟨(some 87), none, .mv, [.t 2]⟩, ⟨(some 88), none, (.cpy 3), [.t 86, .t 87]⟩] false) (.sq (.rg [⟨(some 89), none, .mv, [.t 0]⟩, ⟨(some 90), none, .mv, [.t 1]⟩, ⟨(some 91), none, (.slc 3 true false), [.t 89, .t 90]⟩, ⟨(some 92), none, .mv, [.t 7]⟩, ⟨(some 93), none, (.call 53 .fz), [.t 91, .t 92]⟩] false) (.sq (.rg [⟨(some 94), none, .mv, [.t 0]⟩, ⟨(some 6), none, .mv, [.t 94]⟩] false) (.rt))))))))))))
theorem cf31 : compF Try.prog 31 c31 = some ⟨c31, [.t 6], 95⟩ := by kernel_rfl

-- raddle/tab.see
def c32 : IC := .sq (.rg [⟨(some 1), none, (.box (some 3)), [.t 0]⟩, ⟨(some 2), none, .mv, [.k .z]⟩] false) (.sq (.sq (.rg [⟨(some 6), none, (.fa 1), [.t 1]⟩, ⟨(some 7), none, (.ld none), [.t 6]⟩, ⟨(some 8), none, .len, [.t 7]⟩, ⟨(some 9), none, (.bin .eql), [.t 8, .k (.c (.int .i64 0))]⟩] false) (.cn (.t 9) (.sq (.rg [⟨(some 2), none, .mv, [.k .z]⟩] false) (.rt)) (.skip))) (.sq (.rg [⟨(some 10), none, (.fa 0), [.t 1]⟩, ⟨(some 11), none, (.ld none), [.t 10]⟩, ⟨(some 12), none, (.bld [(.c (.int .i64 0)), (.c (.int .i64 0)), (.c (.string ⟨#[]⟩))] [(0, 1), (2, 1)]), [.k (.c (.int .i64 4)), .t 11]⟩, ⟨(some 13), none, (.bsl 3 [(.c (.int .i64 0)), (.c (.int .i64 0)), (.c (.string ⟨#[]⟩))] [0] 1 false), [.t 12]⟩, ⟨(some 3), none, .mv, [.t 13]⟩] false) (.sq (.sq (.rg [⟨(some 14), none, (.fa 2), [.t 1]⟩, ⟨(some 15), none, (.ld none), [.t 14]⟩, ⟨(some 16), none, .len, [.t 15]⟩, ⟨(some 17), none, .mv, [.k (.c (.int .i64 0))]⟩] false) (.bl 0 (.lp (.sq (.rg [⟨(some 18), none, (.bin .lss), [.t 17, .t 16]⟩] false) (.sq (.cn (.t 18) (.skip) (.ex 0)) (.sq (.bl 1 (.sq (.rg [⟨(some 19), none, (.ia 8), [.t 15, .t 17]⟩, ⟨(some 20), none, (.ld (some 8)), [.t 19]⟩, ⟨(some 5), none, (.alloc [(.c (.int .i64 0)), (.c (.int .i64 0)), (.c (.string ⟨#[]⟩)), (.c (.int .i64 0)), (.c (.int .i64 0)), (.c (.int .i64 0)), (.c (.int .i64 0)), (.c (.int .i64 0))]), []⟩, ⟨none, none, (.st 8), [.t 5, .t 20]⟩] false) (.rg [⟨(some 21), none, .mv, [.t 3]⟩, ⟨(some 22), none, (.fa 0), [.t 5]⟩, ⟨(some 23), none, (.ld (some 3)), [.t 22]⟩, ⟨(some 24), none, (.bsl 3 [(.c (.int .i64 0)), (.c (.int .i64 0)), (.c (.string ⟨#[]⟩))] [0] 1 true), [.t 23]⟩, ⟨(some 25), none, (.app 3), [.t 21, .t 24]⟩, ⟨(some 3), none, .mv, [.t 25]⟩] false))) (.rg [⟨(some 26), none, (.bin .add), [.t 17, .k (.c (.int .i64 1))]⟩, ⟨(some 17), none, .mv, [.t 26]⟩] false))))))) (.sq (.rg [⟨(some 27), none, .mv, [.t 3]⟩, ⟨(some 2), none, .mv, [.t 27]⟩] false) (.rt)))))
theorem cf32 : compF Try.prog 32 c32 = some ⟨c32, [.t 2], 28⟩ := by kernel_rfl

-- raddle/tab.change
def c33 : IC := .sq (.rg [⟨(some 3), none, (.box (some 12)), [.t 1]⟩] false) (.sq (.rg [⟨(some 8), none, (.fa 6), [.t 3]⟩, ⟨(some 9), none, (.ld none), [.t 8]⟩] false) (.bl 0 (.sq (.rg [⟨(some 11), none, (.bin .eql), [.t 9, .k (.c (.int .i64 1))]⟩, ⟨(some 10), none, .mv, [.t 11]⟩] false) (.cn (.t 10) (.sq (.rg [⟨(some 13), none, .mv, [.t 0]⟩, ⟨(some 14), none, (.fa 0), [.t 13]⟩, ⟨(some 15), none, (.fa 1), [.t 14]⟩, ⟨(some 16), none, (.ld none), [.t 15]⟩, ⟨(some 17), none, (.fa 0), [.t 3]⟩, ⟨(some 18), none, (.ld (some 2)), [.t 17]⟩, ⟨(some 19), none, (.call 54 .fz), [.t 16, .t 18, .k (.fn 55 [])]⟩, ⟨(some 12), none, .mv, [.t 19]⟩, ⟨(some 20), none, (.ext 0), [.t 12]⟩, ⟨(some 21), none, (.ext 1), [.t 12]⟩, ⟨(some 4), none, .mv, [.t 20]⟩, ⟨(some 5), none, .mv, [.t 21]⟩] true) (.sq (.sq (.rg [⟨(some 22), none, .mv, [.t 5]⟩, ⟨(some 23), none, (.un .not), [.t 22]⟩] false) (.cn (.t 23) (.rb [⟨(some 24), none, .mv, [.t 0]⟩, ⟨(some 25), none, .mv, [.t 0]⟩, ⟨(some 26), none, (.fa 0), [.t 25]⟩, ⟨(some 27), none, (.fa 1), [.t 26]⟩, ⟨(some 28), none, (.ld none), [.t 27]⟩, ⟨(some 29), none, .mv, [.t 4]⟩, ⟨(some 30), none, (.fa 0), [.t 3]⟩, ⟨(some 31), none, (.ld (some 2)), [.t 30]⟩, ⟨(some 32), none, (.bsl 2 [(.c (.int .i64 0)), (.c (.int .i64 0))] [0] 1 false), [.t 31]⟩] ⟨(some 33), none, (.rcall 56), [.t 28, .t 29, .t 32]⟩ [⟨(some 34), none, (.fa 0), [.t 24]⟩, ⟨(some 35), none, (.fa 1), [.t 34]⟩, ⟨none, none, (.st 1), [.t 35, .t 33]⟩]) (.skip))) (.sq (.rg [⟨(some 36), none, (.fa 10), [.t 3]⟩, ⟨(some 37), none, (.ld none), [.t 36]⟩, ⟨(some 38), none, .len, [.t 37]⟩, ⟨(some 39), none, .mv, [.k (.c (.int .i64 0))]⟩] false) (.bl 1 (.lp (.sq (.rg [⟨(some 40), none, (.bin .lss), [.t 39, .t 38]⟩] false) (.sq (.cn (.t 40) (.skip) (.ex 1)) (.sq (.bl 2 (.sq (.rg [⟨(some 41), none, .mv, [.t 39]⟩, ⟨(some 42), none, (.ia 3), [.t 37, .t 39]⟩, ⟨(some 43), none, (.ld (some 3)), [.t 42]⟩, ⟨(some 7), none, (.alloc [(.c (.int .i64 0)), (.c (.int .i64 0)), (.c (.string ⟨#[]⟩))]), []⟩, ⟨(some 6), none, .mv, [.t 41]⟩, ⟨none, none, (.st 3), [.t 7, .t 43]⟩] false) (.rb [⟨(some 44), none, .mv, [.t 0]⟩, ⟨(some 45), none, (.fa 0), [.t 44]⟩, ⟨(some 46), none, (.fa 2), [.t 45]⟩, ⟨(some 47), none, (.ld none), [.t 46]⟩, ⟨(some 48), none, .mv, [.t 6]⟩, ⟨(some 49), none, (.ia 8), [.t 47, .t 48]⟩, ⟨(some 50), none, (.ld (some 3)), [.t 7]⟩, ⟨(some 51), none, (.ld (some 12)), [.t 3]⟩] ⟨(some 52), none, (.rcall 57), [.t 49, .t 50, .t 51]⟩ []))) (.rg [⟨(some 53), none, (.bin .add), [.t 39, .k (.c (.int .i64 1))]⟩, ⟨(some 39), none, .mv, [.t 53]⟩] false))))))))) (.sq (.rg [⟨(some 55), none, (.bin .eql), [.t 9, .k (.c (.int .i64 2))]⟩, ⟨(some 54), none, .mv, [.t 55]⟩] false) (.cn (.t 54) (.rb [⟨(some 56), none, .mv, [.t 0]⟩, ⟨(some 57), none, (.fa 0), [.t 56]⟩, ⟨(some 58), none, (.fa 2), [.t 57]⟩, ⟨(some 59), none, (.ld none), [.t 58]⟩, ⟨(some 60), none, (.fa 9), [.t 3]⟩, ⟨(some 61), none, (.ld none), [.t 60]⟩, ⟨(some 62), none, (.ia 8), [.t 59, .t 61]⟩, ⟨(some 63), none, (.fa 10), [.t 3]⟩, ⟨(some 64), none, (.ld none), [.t 63]⟩, ⟨(some 65), none, (.ia 3), [.t 64, .k (.c (.int .i64 0))]⟩, ⟨(some 66), none, (.ld (some 3)), [.t 65]⟩, ⟨(some 67), none, (.ld (some 12)), [.t 3]⟩] ⟨(some 68), none, (.rcall 57), [.t 62, .t 66, .t 67]⟩ []) (.sq (.rg [⟨(some 70), none, (.bin .eql), [.t 9, .k (.c (.int .i64 3))]⟩, ⟨(some 69), none, .mv, [.t 70]⟩] false) (.cn (.t 69) (.rg [⟨(some 71), none, .mv, [.t 0]⟩, ⟨(some 72), none, .mv, [.t 0]⟩, ⟨(some 73), none, (.fa 0), [.t 72]⟩, ⟨(some 74), none, (.fa 1), [.t 73]⟩, ⟨(some 75), none, (.ld none), [.t 74]⟩, ⟨(some 76), none, (.mkf 59), [.t 3]⟩, ⟨(some 77), none, (.rcall 58), [.t 75, .t 76]⟩, ⟨(some 78), none, (.fa 0), [.t 71]⟩, ⟨(some 79), none, (.fa 1), [.t 78]⟩, ⟨none, none, (.st 1), [.t 79, .t 77]⟩] false) (.skip)))))))))
theorem cf33 : compF Try.prog 33 c33 = some ⟨c33, [], 80⟩ := by kernel_rfl

-- raddle/raddleref01.sign
def c34 : IC := .sq (.rg [⟨(some 2), none, .mv, [.k (.c (.int .i64 0))]⟩] false) (.sq (.sq (.rg [⟨(some 3), none, .mv, [.t 0]⟩] false) (.cn (.t 3) (.sq (.rg [⟨(some 2), none, .mv, [.k (.c (.int .i64 (-1)))]⟩] false) (.rt)) (.skip))) (.sq (.rg [⟨(some 2), none, .mv, [.k (.c (.int .i64 1))]⟩] false) (.rt)))
theorem cf34 : compF Try.prog 34 c34 = some ⟨c34, [.t 2], 4⟩ := by kernel_rfl

-- slices.IndexFunc[[]raddle/api.Row,raddle/api.Row]
def c35 : IC := .sq (.rg [⟨(some 4), none, .mv, [.k (.c (.int .i64 0))]⟩] false) (.sq (.sq (.rg [⟨(some 6), none, .mv, [.t 0]⟩, ⟨(some 7), none, .len, [.t 6]⟩, ⟨(some 8), none, .mv, [.k (.c (.int .i64 0))]⟩] false) (.bl 0 (.lp (.sq (.rg [⟨(some 9), none, (.bin .lss), [.t 8, .t 7]⟩] false) (.sq (.cn (.t 9) (.skip) (.ex 0)) (.sq (.bl 1 (.sq (.rg [⟨(some 10), none, .mv, [.t 8]⟩, ⟨(some 5), none, .mv, [.t 10]⟩] false) (.sq (.rg [⟨(some 11), none, .mv, [.t 1]⟩, ⟨(some 12), none, .mv, [.t 0]⟩, ⟨(some 13), none, .mv, [.t 5]⟩, ⟨(some 14), none, (.ia 3), [.t 12, .t 13]⟩, ⟨(some 15), none, (.ld (some 3)), [.t 14]⟩, ⟨(some 16), none, (.callv .fz), [.t 11, .t 15]⟩] false) (.cn (.t 16) (.sq (.rg [⟨(some 17), none, .mv, [.t 5]⟩, ⟨(some 4), none, .mv, [.t 17]⟩] false) (.rt)) (.skip))))) (.rg [⟨(some 18), none, (.bin .add), [.t 8, .k (.c (.int .i64 1))]⟩, ⟨(some 8), none, .mv, [.t 18]⟩] false))))))) (.sq (.rg [⟨(some 4), none, .mv, [.k (.c (.int .i64 (-1)))]⟩] false) (.rt)))
theorem cf35 : compF Try.prog 35 c35 = some ⟨c35, [.t 4], 19⟩ := by kernel_rfl

-- raddle/tab.Find$1
def c36 : IC := .sq (.rg [⟨(some 2), none, (.box (some 3)), [.t 0]⟩, ⟨(some 3), none, .mv, [.k (.c (.bool false))]⟩] false) (.sq (.rg [⟨(some 4), none, (.fa 0), [.t 2]⟩, ⟨(some 5), none, (.ld none), [.t 4]⟩, ⟨(some 6), none, (.ld none), [.t 1]⟩, ⟨(some 7), none, (.bin .eql), [.t 5, .t 6]⟩, ⟨(some 3), none, .mv, [.t 7]⟩] false) (.rt))
theorem cf36 : compF Try.prog 36 c36 = some ⟨c36, [.t 3], 8⟩ := by kernel_rfl

-- raddle/op.Forms
def c37 : IC := .sq (.rg [⟨(some 2), none, .mv, [.k (.c (.int .i64 0))]⟩] false) (.sq (.sq (.rg [⟨(some 5), none, .mv, [.t 0]⟩, ⟨(some 6), none, .len, [.t 5]⟩, ⟨(some 7), none, (.bin .lss), [.t 6, .k (.c (.int .i64 1))]⟩, ⟨(some 8), none, .mv, [.t 7]⟩, ⟨(some 9), (some (8, false)), .mv, [.t 0]⟩, ⟨(some 10), (some (8, false)), .len, [.t 9]⟩, ⟨(some 11), (some (8, false)), (.bin .gtr), [.t 10, .k (.c (.int .i64 3))]⟩, ⟨(some 12), none, .pick, [.t 8, .k (.c (.bool true)), .t 11]⟩] false) (.cn (.t 12) (.sq (.rg [⟨(some 2), none, .mv, [.k (.c (.int .i64 2))]⟩] false) (.rt)) (.skip))) (.sq (.sq (.rg [⟨(some 13), none, .mv, [.t 0]⟩, ⟨(some 14), none, (.call 61 .fz), [.t 13, .k (.fn 62 [])]⟩] false) (.cn (.t 14) (.sq (.rg [⟨(some 2), none, .mv, [.k (.c (.int .i64 2))]⟩] false) (.rt)) (.skip))) (.sq (.sq (.rg [⟨(some 15), none, .mv, [.t 0]⟩, ⟨(some 16), none, .len, [.t 15]⟩, ⟨(some 17), none, .mv, [.k (.c (.int .i64 0))]⟩] false) (.bl 0 (.lp (.sq (.rg [⟨(some 18), none, (.bin .lss), [.t 17, .t 16]⟩] false) (.sq (.cn (.t 18) (.skip) (.ex 0)) (.sq (.bl 1 (.sq (.rg [⟨(some 19), none, (.ia 1), [.t 15, .t 17]⟩, ⟨(some 20), none, (.ld (some 1)), [.t 19]⟩, ⟨(some 4), none, (.alloc [.z]), []⟩, ⟨none, none, (.st 1), [.t 4, .t 20]⟩] false) (.sq (.rg [⟨(some 21), none, (.fa 0), [.t 4]⟩, ⟨(some 22), none, (.ld none), [.t 21]⟩, ⟨(some 23), none, (.call 63 .fz), [.t 22, .k (.fn 64 [])]⟩] false) (.cn (.t 23) (.sq (.rg [⟨(some 2), none, .mv, [.k (.c (.int .i64 10))]⟩] false) (.rt)) (.skip))))) (.rg [⟨(some 24), none, (.bin .add), [.t 17, .k (.c (.int .i64 1))]⟩, ⟨(some 17), none, .mv, [.t 24]⟩] false))))))) (.sq (.rg [⟨(some 2), none, .mv, [.k (.c (.int .i64 0))]⟩] false) (.rt)))))
theorem cf37 : compF Try.prog 37 c37 = some ⟨c37, [.t 2], 25⟩ := by kernel_rfl

-- raddle/tab.right
def c38 : IC := .sq (.rg [⟨(some 2), none, (.box (some 1)), [.t 0]⟩, ⟨(some 3), none, (.box (some 3)), [.t 1]⟩, ⟨(some 4), none, .mv, [.k (.c (.bool false))]⟩] false) (.sq (.sq (.rg [⟨(some 5), none, (.fa 0), [.t 3]⟩, ⟨(some 6), none, (.ld none), [.t 5]⟩, ⟨(some 7), none, (.call 65 .fz), [.t 6]⟩, ⟨(some 8), none, (.un .not), [.t 7]⟩, ⟨(some 9), none, .mv, [.t 8]⟩, ⟨(some 10), (some (9, false)), (.fa 1), [.t 3]⟩, ⟨(some 11), (some (9, false)), (.ld none), [.t 10]⟩, ⟨(some 12), (some (9, false)), (.call 66 .fz), [.t 11]⟩, ⟨(some 13), (some (9, false)), (.un .not), [.t 12]⟩, ⟨(some 14), none, .pick, [.t 9, .k (.c (.bool true)), .t 13]⟩, ⟨(some 15), none, .mv, [.t 14]⟩, ⟨(some 16), (some (15, false)), (.fa 2), [.t 3]⟩, ⟨(some 17), (some (15, false)), (.ld none), [.t 16]⟩, ⟨(some 18), (some (15, false)), (.fa 0), [.t 2]⟩, ⟨(some 19), (some (15, false)), (.ld none), [.t 18]⟩, ⟨(some 20), (some (15, false)), (.call 67 .fz), [.t 17, .t 19, .k (.fn 68 [])]⟩, ⟨(some 21), (some (15, false)), (.un .not), [.t 20]⟩, ⟨(some 22), none, .pick, [.t 15, .k (.c (.bool true)), .t 21]⟩] false) (.cn (.t 22) (.sq (.rg [⟨(some 4), none, .mv, [.k (.c (.bool false))]⟩] false) (.rt)) (.skip))) (.sq (.rg [⟨(some 23), none, (.fa 1), [.t 3]⟩, ⟨(some 24), none, (.ld none), [.t 23]⟩, ⟨(some 25), none, .len, [.t 24]⟩, ⟨(some 26), none, (.bin .eql), [.t 25, .k (.c (.int .i64 0))]⟩, ⟨(some 27), none, .mv, [.t 26]⟩, ⟨(some 28), (some (27, false)), (.fa 2), [.t 3]⟩, ⟨(some 29), (some (27, false)), (.ld none), [.t 28]⟩, ⟨(some 30), (some (27, false)), (.call 42 .fz), [.t 29, .k (.fn 69 [])]⟩, ⟨(some 31), (some (27, false)), (.un .not), [.t 30]⟩, ⟨(some 32), none, .pick, [.t 27, .k (.c (.bool true)), .t 31]⟩, ⟨(some 4), none, .mv, [.t 32]⟩] false) (.rt)))
theorem cf38 : compF Try.prog 38 c38 = some ⟨c38, [.t 4], 33⟩ := by kernel_rfl

-- raddle/dot.Check
def c39 : IC := .sq (.rg [⟨(some 2), none, .mv, [.k (.c (.int .i64 0))]⟩] false) (.sq (.bl 0 (.sq (.rg [⟨(some 4), none, .mv, [.t 0]⟩, ⟨(some 5), none, .len, [.t 4]⟩, ⟨(some 6), none, (.bin .lss), [.t 5, .k (.c (.int .i64 1))]⟩, ⟨(some 7), none, .mv, [.t 6]⟩, ⟨(some 8), (some (7, false)), .mv, [.t 0]⟩, ⟨(some 9), (some (7, false)), .len, [.t 8]⟩, ⟨(some 10), (some (7, false)), (.bin .gtr), [.t 9, .k (.c (.int .i64 5))]⟩, ⟨(some 11), none, .pick, [.t 7, .k (.c (.bool true)), .t 10]⟩, ⟨(some 3), none, .mv, [.t 11]⟩] false) (.cn (.t 3) (.sq (.rg [⟨(some 2), none, .mv, [.k (.c (.int .i64 2))]⟩] false) (.rt)) (.sq (.rg [⟨(some 13), none, .mv, [.t 0]⟩, ⟨(some 14), none, (.call 63 .fz), [.t 13, .k (.fn 70 [])]⟩, ⟨(some 12), none, .mv, [.t 14]⟩] false) (.cn (.t 12) (.sq (.rg [⟨(some 2), none, .mv, [.k (.c (.int .i64 1))]⟩] false) (.rt)) (.skip)))))) (.sq (.rg [⟨(some 2), none, .mv, [.k (.c (.int .i64 0))]⟩] false) (.rt)))
theorem cf39 : compF Try.prog 39 c39 = some ⟨c39, [.t 2], 15⟩ := by kernel_rfl

-- slices.DeleteFunc[[]raddle/api.Row,raddle/api.Row]
def c40 : IC := .sq (.rg [⟨(some 4), none, .mv, [.k .z]⟩] false) (.sq (.rg [⟨(some 8), none, .mv, [.t 0]⟩, ⟨(some 9), none, .mv, [.t 1]⟩, ⟨(some 10), none, (.call 35 .fz), [.t 8, .t 9]⟩, ⟨(some 5), none, .mv, [.t 10]⟩] false) (.sq (.sq (.rg [⟨(some 11), none, .mv, [.t 5]⟩, ⟨(some 12), none, (.bin .eql), [.t 11, .k (.c (.int .i64 (-1)))]⟩] false) (.cn (.t 12) (.sq (.rg [⟨(some 13), none, .mv, [.t 0]⟩, ⟨(some 4), none, .mv, [.t 13]⟩] false) (.rt)) (.skip))) (.sq (.sq (.rg [⟨(some 14), none, .mv, [.t 5]⟩, ⟨(some 15), none, (.bin .add), [.t 14, .k (.c (.int .i64 1))]⟩, ⟨(some 6), none, .mv, [.t 15]⟩] false) (.bl 0 (.lp (.sq (.sq (.rg [⟨(some 16), none, .mv, [.t 6]⟩, ⟨(some 17), none, .mv, [.t 0]⟩, ⟨(some 18), none, .len, [.t 17]⟩, ⟨(some 19), none, (.bin .lss), [.t 16, .t 18]⟩] false) (.cn (.t 19) (.skip) (.ex 0))) (.sq (.bl 1 (.sq (.rg [⟨(some 22), none, .mv, [.t 0]⟩, ⟨(some 23), none, .mv, [.t 6]⟩, ⟨(some 24), none, (.ia 3), [.t 22, .t 23]⟩, ⟨(some 25), none, (.ld (some 3)), [.t 24]⟩, ⟨(some 7), none, (.alloc [(.c (.string ⟨#[]⟩)), .z, .z]), []⟩, ⟨none, none, (.st 3), [.t 7, .t 25]⟩] false) (.sq (.rg [⟨(some 26), none, .mv, [.t 1]⟩, ⟨(some 27), none, (.ld (some 3)), [.t 7]⟩, ⟨(some 28), none, (.callv .fz), [.t 26, .t 27]⟩, ⟨(some 29), none, (.un .not), [.t 28]⟩] false) (.cn (.t 29) (.sq (.rg [⟨(some 30), none, .mv, [.t 0]⟩, ⟨(some 31), none, .mv, [.t 5]⟩, ⟨(some 32), none, (.ld (some 3)), [.t 7]⟩, ⟨(some 33), none, (.ia 3), [.t 30, .t 31]⟩, ⟨none, none, (.st 3), [.t 33, .t 32]⟩] false) (.rg [⟨(some 34), none, .mv, [.t 5]⟩, ⟨(some 35), none, (.bin .add), [.t 34, .k (.c (.int .i64 1))]⟩, ⟨(some 5), none, .mv, [.t 35]⟩] false)) (.skip))))) (.rg [⟨(some 20), none, .mv, [.t 6]⟩, ⟨(some 21), none, (.bin .add), [.t 20, .k (.c (.int .i64 1))]⟩, ⟨(some 6), none, .mv, [.t 21]⟩] false)))))) (.sq (.rg [⟨(some 36), none, .mv, [.t 0]⟩, ⟨(some 37), none, .mv, [.t 5]⟩, ⟨(some 38), none, (.slc 3 true false), [.t 36, .t 37]⟩, ⟨none, none, (.clr 3 [(.c (.string ⟨#[]⟩)), .z, .z]), [.t 38]⟩] false) (.sq (.rg [⟨(some 39), none, .mv, [.t 0]⟩, ⟨(some 40), none, .mv, [.t 5]⟩, ⟨(some 41), none, (.slc 3 false true), [.t 39, .t 40]⟩, ⟨(some 4), none, .mv, [.t 41]⟩] false) (.rt))))))
theorem cf40 : compF Try.prog 40 c40 = some ⟨c40, [.t 4], 42⟩ := by kernel_rfl

-- raddle/tab.Compact$1
def c41 : IC := .sq (.rg [⟨(some 2), none, (.box (some 3)), [.t 0]⟩, ⟨(some 3), none, .mv, [.k (.c (.bool false))]⟩] false) (.sq (.rg [⟨(some 4), none, (.fa 1), [.t 2]⟩, ⟨(some 5), none, (.ld none), [.t 4]⟩, ⟨(some 6), none, .len, [.t 5]⟩, ⟨(some 7), none, (.bin .eql), [.t 6, .k (.c (.int .i64 0))]⟩, ⟨(some 8), none, .mv, [.t 7]⟩, ⟨(some 9), (some (8, true)), (.fa 2), [.t 2]⟩, ⟨(some 10), (some (8, true)), (.ld none), [.t 9]⟩, ⟨(some 11), (some (8, true)), (.mkf 43), [.t 1]⟩, ⟨(some 12), (some (8, true)), (.call 42 .fz), [.t 10, .t 11]⟩, ⟨(some 13), (some (8, true)), (.un .not), [.t 12]⟩, ⟨(some 14), none, .pick, [.t 8, .t 13, .k (.c (.bool false))]⟩, ⟨(some 3), none, .mv, [.t 14]⟩] false) (.rt))
theorem cf41 : compF Try.prog 41 c41 = some ⟨c41, [.t 3], 15⟩ := by kernel_rfl

-- slices.ContainsFunc[[]raddle/api.Cell,raddle/api.Cell]
def c42 : IC := .sq (.rg [⟨(some 4), none, .mv, [.k (.c (.bool false))]⟩] false) (.sq (.rg [⟨(some 5), none, .mv, [.t 0]⟩, ⟨(some 6), none, .mv, [.t 1]⟩, ⟨(some 7), none, (.call 71 .fz), [.t 5, .t 6]⟩, ⟨(some 8), none, (.bin .geq), [.t 7, .k (.c (.int .i64 0))]⟩, ⟨(some 4), none, .mv, [.t 8]⟩] false) (.rt))
theorem cf42 : compF Try.prog 42 c42 = some ⟨c42, [.t 4], 9⟩ := by kernel_rfl

-- raddle/tab.Compact$1$1
def c43 : IC := .sq (.rg [⟨(some 2), none, (.box (some 8)), [.t 0]⟩, ⟨(some 3), none, .mv, [.k (.c (.bool false))]⟩] false) (.sq (.rg [⟨(some 4), none, (.ld (some 8)), [.t 2]⟩, ⟨(some 5), none, (.call 44 .fz), [.t 4]⟩, ⟨(some 6), none, .mv, [.t 5]⟩, ⟨(some 7), (some (6, true)), (.ld none), [.t 1]⟩, ⟨(some 8), (some (6, true)), (.fa 6), [.t 2]⟩, ⟨(some 9), (some (6, true)), (.ld (some 2)), [.t 8]⟩, ⟨(some 10), (some (6, true)), (.call 45 .fz), [.t 7, .t 9]⟩, ⟨(some 11), (some (6, true)), (.un .not), [.t 10]⟩, ⟨(some 12), none, .pick, [.t 6, .t 11, .k (.c (.bool false))]⟩, ⟨(some 3), none, .mv, [.t 12]⟩] false) (.rt))
theorem cf43 : compF Try.prog 43 c43 = some ⟨c43, [.t 3], 13⟩ := by kernel_rfl

-- raddle/tab.written
def c44 : IC := .sq (.rg [⟨(some 1), none, (.box (some 8)), [.t 0]⟩, ⟨(some 2), none, .mv, [.k (.c (.bool false))]⟩] false) (.sq (.rg [⟨(some 3), none, (.fa 6), [.t 1]⟩, ⟨(some 4), none, (.ld (some 2)), [.t 3]⟩, ⟨(some 5), none, (.bld [(.c (.int .i64 0)), (.c (.int .i64 0))] []), []⟩, ⟨(some 6), none, (.eqs true [0, 0]), [.t 4, .t 5]⟩, ⟨(some 2), none, .mv, [.t 6]⟩] false) (.rt))
theorem cf44 : compF Try.prog 44 c44 = some ⟨c44, [.t 2], 7⟩ := by kernel_rfl

-- raddle/dot.Has
def c45 : IC := .sq (.rg [⟨(some 3), none, (.box (some 2)), [.t 1]⟩, ⟨(some 4), none, .mv, [.k (.c (.bool false))]⟩] false) (.sq (.rg [⟨(some 5), none, .mv, [.t 0]⟩, ⟨(some 6), none, (.fa 0), [.t 3]⟩, ⟨(some 7), none, (.ld none), [.t 6]⟩, ⟨(some 8), none, (.call 72 .fz), [.t 5, .t 7]⟩, ⟨(some 9), none, .mv, [.t 8]⟩, ⟨(some 10), (some (9, true)), (.fa 1), [.t 3]⟩, ⟨(some 11), (some (9, true)), (.ld none), [.t 10]⟩, ⟨(some 12), (some (9, true)), (.bin .geq), [.t 11, .k (.c (.int .i64 1))]⟩, ⟨(some 13), none, .pick, [.t 9, .t 12, .k (.c (.bool false))]⟩, ⟨(some 14), none, .mv, [.t 13]⟩, ⟨(some 15), (some (14, true)), (.fa 1), [.t 3]⟩, ⟨(some 16), (some (14, true)), (.ld none), [.t 15]⟩, ⟨(some 17), (some (14, true)), .mv, [.t 0]⟩, ⟨(some 18), (some (14, true)), (.fa 0), [.t 3]⟩, ⟨(some 19), (some (14, true)), (.ld none), [.t 18]⟩, ⟨(some 20), (some (14, true)), (.ia 1), [.t 17, .t 19]⟩, ⟨(some 21), (some (14, true)), (.ld none), [.t 20]⟩, ⟨(some 22), (some (14, true)), (.bin .leq), [.t 16, .t 21]⟩, ⟨(some 23), none, .pick, [.t 14, .t 22, .k (.c (.bool false))]⟩, ⟨(some 4), none, .mv, [.t 23]⟩] true) (.rt))
theorem cf45 : compF Try.prog 45 c45 = some ⟨c45, [.t 4], 24⟩ := by kernel_rfl

-- slices.Clone[[]raddle/api.Row,raddle/api.Row]
def c46 : IC := .sq (.rg [⟨(some 2), none, .mv, [.k .z]⟩] false) (.sq (.sq (.rg [⟨(some 3), none, .mv, [.t 0]⟩, ⟨(some 4), none, (.nilq 0 false), [.t 3]⟩] false) (.cn (.t 4) (.sq (.rg [⟨(some 2), none, .mv, [.k .z]⟩] false) (.rt)) (.skip))) (.sq (.rg [⟨(some 5), none, (.bsl 3 [(.c (.string ⟨#[]⟩)), .z, .z] [] 0 true), []⟩, ⟨(some 6), none, .mv, [.t 0]⟩, ⟨(some 7), none, (.app 3), [.t 5, .t 6]⟩, ⟨(some 2), none, .mv, [.t 7]⟩] false) (.rt)))
theorem cf46 : compF Try.prog 46 c46 = some ⟨c46, [.t 2], 8⟩ := by kernel_rfl

-- raddle/raddlelaw03.Long
def c47 : IC := .sq (.rg [⟨(some 2), none, .mv, [.k (.c (.bool false))]⟩] false) (.sq (.sq (.rg [⟨(some 3), none, .mv, [.k (.c (.int .i64 0))]⟩] false) (.bl 0 (.lp (.sq (.sq (.rg [⟨(some 4), none, .mv, [.t 3]⟩, ⟨(some 5), none, .mv, [.t 0]⟩, ⟨(some 6), none, .len, [.t 5]⟩, ⟨(some 7), none, (.bin .lss), [.t 4, .t 6]⟩] false) (.cn (.t 7) (.skip) (.ex 0))) (.sq (.bl 1 (.sq (.rg [⟨(some 10), none, .mv, [.t 0]⟩, ⟨(some 11), none, .mv, [.t 3]⟩, ⟨(some 12), none, (.ia 3), [.t 10, .t 11]⟩, ⟨(some 13), none, (.fa 2), [.t 12]⟩, ⟨(some 14), none, (.ld none), [.t 13]⟩, ⟨(some 15), none, .slen, [.t 14]⟩, ⟨(some 16), none, (.bin .gtr), [.t 15, .k (.c (.int .i64 300))]⟩] false) (.cn (.t 16) (.sq (.rg [⟨(some 2), none, .mv, [.k (.c (.bool true))]⟩] false) (.rt)) (.skip)))) (.rg [⟨(some 8), none, .mv, [.t 3]⟩, ⟨(some 9), none, (.bin .add), [.t 8, .k (.c (.int .i64 1))]⟩, ⟨(some 3), none, .mv, [.t 9]⟩] false)))))) (.sq (.rg [⟨(some 2), none, .mv, [.k (.c (.bool false))]⟩] false) (.rt)))
theorem cf47 : compF Try.prog 47 c47 = some ⟨c47, [.t 2], 17⟩ := by kernel_rfl

-- raddle/op.right
def c48 : IC := .sq (.rg [⟨(some 5), none, (.box (some 12)), [.t 2]⟩, ⟨(some 6), none, .mv, [.k (.c (.bool false))]⟩] false) (.sq (.sq (.rg [⟨(some 8), none, .mv, [.t 0]⟩, ⟨(some 9), none, (.ld (some 12)), [.t 5]⟩, ⟨(some 10), none, (.call 73 .fz), [.t 8, .t 9]⟩, ⟨(some 11), none, (.un .not), [.t 10]⟩, ⟨(some 12), none, .mv, [.t 11]⟩, ⟨(some 13), (some (12, false)), (.fa 7), [.t 5]⟩, ⟨(some 14), (some (12, false)), (.ld none), [.t 13]⟩, ⟨(some 15), (some (12, false)), (.bin .lss), [.t 14, .k (.c (.int .i64 0))]⟩, ⟨(some 16), none, .pick, [.t 12, .k (.c (.bool true)), .t 15]⟩, ⟨(some 17), none, .mv, [.t 16]⟩, ⟨(some 18), (some (17, false)), (.fa 7), [.t 5]⟩, ⟨(some 19), (some (17, false)), (.ld none), [.t 18]⟩, ⟨(some 20), (some (17, false)), .mv, [.t 1]⟩, ⟨(some 21), (some (17, false)), .len, [.t 20]⟩, ⟨(some 22), (some (17, false)), (.bin .geq), [.t 19, .t 21]⟩, ⟨(some 23), none, .pick, [.t 17, .k (.c (.bool true)), .t 22]⟩, ⟨(some 24), none, .mv, [.t 23]⟩, ⟨(some 25), (some (24, false)), (.fa 8), [.t 5]⟩, ⟨(some 26), (some (24, false)), (.ld none), [.t 25]⟩, ⟨(some 27), (some (24, false)), (.call 65 .fz), [.t 26]⟩, ⟨(some 28), (some (24, false)), (.un .not), [.t 27]⟩, ⟨(some 29), none, .pick, [.t 24, .k (.c (.bool true)), .t 28]⟩] false) (.cn (.t 29) (.sq (.rg [⟨(some 6), none, .mv, [.k (.c (.bool false))]⟩] false) (.rt)) (.skip))) (.sq (.rg [⟨(some 30), none, .mv, [.t 1]⟩, ⟨(some 31), none, (.fa 7), [.t 5]⟩, ⟨(some 32), none, (.ld none), [.t 31]⟩, ⟨(some 33), none, (.ia 1), [.t 30, .t 32]⟩, ⟨(some 34), none, (.fa 0), [.t 33]⟩, ⟨(some 35), none, (.ld none), [.t 34]⟩, ⟨(some 7), none, .mv, [.t 35]⟩] false) (.sq (.sq (.rg [⟨(some 36), none, (.fa 6), [.t 5]⟩, ⟨(some 37), none, (.ld none), [.t 36]⟩] false) (.bl 0 (.sq (.rg [⟨(some 39), none, (.bin .eql), [.t 37, .k (.c (.int .i64 1))]⟩, ⟨(some 38), none, .mv, [.t 39]⟩] false) (.cn (.t 38) (.sq (.rg [⟨(some 40), none, (.fa 10), [.t 5]⟩, ⟨(some 41), none, (.ld none), [.t 40]⟩, ⟨(some 42), none, .mv, [.t 7]⟩, ⟨(some 43), none, (.call 74 .fz), [.t 41, .t 42]⟩, ⟨(some 44), none, .mv, [.t 43]⟩, ⟨(some 45), (some (44, true)), (.fa 9), [.t 5]⟩, ⟨(some 46), (some (44, true)), (.ld none), [.t 45]⟩, ⟨(some 47), (some (44, true)), (.bin .eql), [.t 46, .k (.c (.int .i64 0))]⟩, ⟨(some 48), none, .pick, [.t 44, .t 47, .k (.c (.bool false))]⟩, ⟨(some 49), none, .mv, [.t 48]⟩, ⟨(some 50), (some (49, true)), (.fa 11), [.t 5]⟩, ⟨(some 51), (some (49, true)), (.ld none), [.t 50]⟩, ⟨(some 52), (some (49, true)), .len, [.t 51]⟩, ⟨(some 53), (some (49, true)), (.bin .eql), [.t 52, .k (.c (.int .i64 0))]⟩, ⟨(some 54), none, .pick, [.t 49, .t 53, .k (.c (.bool false))]⟩, ⟨(some 6), none, .mv, [.t 54]⟩] false) (.rt)) (.sq (.rg [⟨(some 56), none, (.bin .eql), [.t 37, .k (.c (.int .i64 2))]⟩, ⟨(some 55), none, .mv, [.t 56]⟩] false) (.cn (.t 55) (.sq (.rg [⟨(some 57), none, (.fa 9), [.t 5]⟩, ⟨(some 58), none, (.ld none), [.t 57]⟩, ⟨(some 59), none, (.bin .geq), [.t 58, .k (.c (.int .i64 0))]⟩, ⟨(some 60), none, .mv, [.t 59]⟩, ⟨(some 61), (some (60, true)), (.fa 9), [.t 5]⟩, ⟨(some 62), (some (60, true)), (.ld none), [.t 61]⟩, ⟨(some 63), (some (60, true)), .mv, [.t 7]⟩, ⟨(some 64), (some (60, true)), .len, [.t 63]⟩, ⟨(some 65), (some (60, true)), (.bin .lss), [.t 62, .t 64]⟩, ⟨(some 66), none, .pick, [.t 60, .t 65, .k (.c (.bool false))]⟩, ⟨(some 67), none, .mv, [.t 66]⟩, ⟨(some 68), (some (67, true)), (.fa 10), [.t 5]⟩, ⟨(some 69), (some (67, true)), (.ld none), [.t 68]⟩, ⟨(some 70), (some (67, true)), .mv, [.t 7]⟩, ⟨(some 71), (some (67, true)), (.fa 9), [.t 5]⟩, ⟨(some 72), (some (67, true)), (.ld none), [.t 71]⟩, ⟨(some 73), (some (67, true)), (.fa 9), [.t 5]⟩, ⟨(some 74), (some (67, true)), (.ld none), [.t 73]⟩, ⟨(some 75), (some (67, true)), (.bin .add), [.t 74, .k (.c (.int .i64 1))]⟩, ⟨(some 76), (some (67, true)), (.slc 1 true true), [.t 70, .t 72, .t 75]⟩, ⟨(some 77), (some (67, true)), (.call 74 .fz), [.t 69, .t 76]⟩, ⟨(some 78), none, .pick, [.t 67, .t 77, .k (.c (.bool false))]⟩, ⟨(some 79), none, .mv, [.t 78]⟩, ⟨(some 80), (some (79, true)), (.fa 11), [.t 5]⟩, ⟨(some 81), (some (79, true)), (.ld none), [.t 80]⟩, ⟨(some 82), (some (79, true)), .len, [.t 81]⟩, ⟨(some 83), (some (79, true)), (.bin .eql), [.t 82, .k (.c (.int .i64 0))]⟩, ⟨(some 84), none, .pick, [.t 79, .t 83, .k (.c (.bool false))]⟩, ⟨(some 6), none, .mv, [.t 84]⟩] true) (.rt)) (.sq (.rg [⟨(some 86), none, (.bin .eql), [.t 37, .k (.c (.int .i64 3))]⟩, ⟨(some 85), none, .mv, [.t 86]⟩] false) (.cn (.t 85) (.sq (.rg [⟨(some 87), none, (.fa 11), [.t 5]⟩, ⟨(some 88), none, (.ld none), [.t 87]⟩, ⟨(some 89), none, .len, [.t 88]⟩, ⟨(some 90), none, (.bin .geq), [.t 89, .k (.c (.int .i64 1))]⟩, ⟨(some 91), none, .mv, [.t 90]⟩, ⟨(some 92), (some (91, true)), (.fa 11), [.t 5]⟩, ⟨(some 93), (some (91, true)), (.ld none), [.t 92]⟩, ⟨(some 94), (some (91, true)), .len, [.t 93]⟩, ⟨(some 95), (some (91, true)), (.bin .leq), [.t 94, .k (.c (.int .i64 64))]⟩, ⟨(some 96), none, .pick, [.t 91, .t 95, .k (.c (.bool false))]⟩, ⟨(some 97), none, .mv, [.t 96]⟩, ⟨(some 98), (some (97, true)), (.fa 2), [.t 5]⟩, ⟨(some 99), (some (97, true)), (.ld none), [.t 98]⟩, ⟨(some 100), (some (97, true)), (.fa 11), [.t 5]⟩, ⟨(some 101), (some (97, true)), (.ld none), [.t 100]⟩, ⟨(some 102), (some (97, true)), (.call 75 .fz), [.t 99, .t 101]⟩, ⟨(some 103), none, .pick, [.t 97, .t 102, .k (.c (.bool false))]⟩, ⟨(some 104), none, .mv, [.t 103]⟩, ⟨(some 105), (some (104, true)), (.fa 9), [.t 5]⟩, ⟨(some 106), (some (104, true)), (.ld none), [.t 105]⟩, ⟨(some 107), (some (104, true)), (.bin .eql), [.t 106, .k (.c (.int .i64 0))]⟩, ⟨(some 108), none, .pick, [.t 104, .t 107, .k (.c (.bool false))]⟩, ⟨(some 109), none, .mv, [.t 108]⟩, ⟨(some 110), (some (109, true)), (.fa 10), [.t 5]⟩, ⟨(some 111), (some (109, true)), (.ld none), [.t 110]⟩, ⟨(some 112), (some (109, true)), .len, [.t 111]⟩, ⟨(some 113), (some (109, true)), (.bin .eql), [.t 112, .k (.c (.int .i64 0))]⟩, ⟨(some 114), none, .pick, [.t 109, .t 113, .k (.c (.bool false))]⟩, ⟨(some 6), none, .mv, [.t 114]⟩] false) (.rt)) (.skip))))))))) (.sq (.rg [⟨(some 6), none, .mv, [.k (.c (.bool false))]⟩] false) (.rt)))))
theorem cf48 : compF Try.prog 48 c48 = some ⟨c48, [.t 6], 115⟩ := by kernel_rfl

-- slices.Clone[[]raddle/api.Dot,raddle/api.Dot]
def c49 : IC := .sq (.rg [⟨(some 2), none, .mv, [.k .z]⟩] false) (.sq (.sq (.rg [⟨(some 3), none, .mv, [.t 0]⟩, ⟨(some 4), none, (.nilq 0 false), [.t 3]⟩] false) (.cn (.t 4) (.sq (.rg [⟨(some 2), none, .mv, [.k .z]⟩] false) (.rt)) (.skip))) (.sq (.rg [⟨(some 5), none, (.bsl 2 [(.c (.int .i64 0)), (.c (.int .i64 0))] [] 0 true), []⟩, ⟨(some 6), none, .mv, [.t 0]⟩, ⟨(some 7), none, (.app 2), [.t 5, .t 6]⟩, ⟨(some 2), none, .mv, [.t 7]⟩] false) (.rt)))
theorem cf49 : compF Try.prog 49 c49 = some ⟨c49, [.t 2], 8⟩ := by kernel_rfl

-- slices.Clone[[]raddle/api.Cell,raddle/api.Cell]
def c50 : IC := .sq (.rg [⟨(some 2), none, .mv, [.k .z]⟩] false) (.sq (.sq (.rg [⟨(some 3), none, .mv, [.t 0]⟩, ⟨(some 4), none, (.nilq 0 false), [.t 3]⟩] false) (.cn (.t 4) (.sq (.rg [⟨(some 2), none, .mv, [.k .z]⟩] false) (.rt)) (.skip))) (.sq (.rg [⟨(some 5), none, (.bsl 8 [(.c (.int .i64 0)), (.c (.int .i64 0)), (.c (.string ⟨#[]⟩)), (.c (.int .i64 0)), (.c (.int .i64 0)), (.c (.int .i64 0)), (.c (.int .i64 0)), (.c (.int .i64 0))] [] 0 true), []⟩, ⟨(some 6), none, .mv, [.t 0]⟩, ⟨(some 7), none, (.app 8), [.t 5, .t 6]⟩, ⟨(some 2), none, .mv, [.t 7]⟩] false) (.rt)))
theorem cf50 : compF Try.prog 50 c50 = some ⟨c50, [.t 2], 8⟩ := by kernel_rfl

-- internal/bytealg.CompareString
def c51 : IC := .sq (.rg [⟨(some 4), none, .mv, [.k (.c (.int .i64 0))]⟩] false) (.sq (.rg [⟨(some 5), none, .mv, [.t 0]⟩, ⟨(some 6), none, .mv, [.t 1]⟩, ⟨(some 7), none, (.rcall 76), [.t 5, .t 6]⟩, ⟨(some 4), none, .mv, [.t 7]⟩] false) (.rt))
theorem cf51 : compF Try.prog 51 c51 = some ⟨c51, [.t 4], 8⟩ := by kernel_rfl

-- slices.rotateRight[raddle/api.Row]
def c53 : IC := .rg [⟨(some 4), none, .mv, [.t 0]⟩, ⟨(some 5), none, .mv, [.t 0]⟩, ⟨(some 6), none, .len, [.t 5]⟩, ⟨(some 7), none, .mv, [.t 1]⟩, ⟨(some 8), none, (.bin .sub), [.t 6, .t 7]⟩, ⟨(some 9), none, (.call 77 .fz), [.t 4, .t 8]⟩] false
theorem cf53 : compF Try.prog 53 c53 = some ⟨c53, [], 10⟩ := by kernel_rfl

-- slices.BinarySearchFunc[[]raddle/api.Dot,raddle/api.Dot,raddle/api.Dot]
def c54 : IC := .sq (.rg [⟨(some 4), none, (.box (some 2)), [.t 1]⟩, ⟨(some 6), none, .mv, [.k (.c (.int .i64 0))]⟩, ⟨(some 7), none, .mv, [.k (.c (.bool false))]⟩] false) (.sq (.rg [⟨(some 12), none, .mv, [.t 0]⟩, ⟨(some 13), none, .len, [.t 12]⟩, ⟨(some 8), none, .mv, [.t 13]⟩] false) (.sq (.rg [⟨(some 14), none, .mv, [.t 8]⟩, ⟨(some 9), none, .mv, [.k (.c (.int .i64 0))]⟩, ⟨(some 10), none, .mv, [.t 14]⟩] false) (.sq (.bl 0 (.lp (.sq (.sq (.rg [⟨(some 15), none, .mv, [.t 9]⟩, ⟨(some 16), none, .mv, [.t 10]⟩, ⟨(some 17), none, (.bin .lss), [.t 15, .t 16]⟩] false) (.cn (.t 17) (.skip) (.ex 0))) (.bl 1 (.sq (.rg [⟨(some 18), none, .mv, [.t 9]⟩, ⟨(some 19), none, .mv, [.t 10]⟩, ⟨(some 20), none, (.bin .add), [.t 18, .t 19]⟩, ⟨(some 21), none, (.conv .u64), [.t 20]⟩, ⟨(some 22), none, (.bin .shr), [.t 21, .k (.c (.int .u64 1))]⟩, ⟨(some 23), none, (.conv .i64), [.t 22]⟩, ⟨(some 11), none, .mv, [.t 23]⟩] false) (.sq (.rg [⟨(some 24), none, .mv, [.t 2]⟩, ⟨(some 25), none, .mv, [.t 0]⟩, ⟨(some 26), none, .mv, [.t 11]⟩, ⟨(some 27), none, (.ia 2), [.t 25, .t 26]⟩, ⟨(some 28), none, (.ld (some 2)), [.t 27]⟩, ⟨(some 29), none, (.ld (some 2)), [.t 4]⟩, ⟨(some 30), none, (.callv .fz), [.t 24, .t 28, .t 29]⟩, ⟨(some 31), none, (.bin .lss), [.t 30, .k (.c (.int .i64 0))]⟩] true) (.cn (.t 31) (.rg [⟨(some 32), none, .mv, [.t 11]⟩, ⟨(some 33), none, (.bin .add), [.t 32, .k (.c (.int .i64 1))]⟩, ⟨(some 9), none, .mv, [.t 33]⟩] false) (.rg [⟨(some 34), none, .mv, [.t 11]⟩, ⟨(some 10), none, .mv, [.t 34]⟩] false)))))))) (.sq (.rg [⟨(some 35), none, .mv, [.t 9]⟩, ⟨(some 36), none, .mv, [.t 9]⟩, ⟨(some 37), none, .mv, [.t 8]⟩, ⟨(some 38), none, (.bin .lss), [.t 36, .t 37]⟩, ⟨(some 39), none, .mv, [.t 38]⟩, ⟨(some 40), (some (39, true)), .mv, [.t 2]⟩, ⟨(some 41), (some (39, true)), .mv, [.t 0]⟩, ⟨(some 42), (some (39, true)), .mv, [.t 9]⟩, ⟨(some 43), (some (39, true)), (.ia 2), [.t 41, .t 42]⟩, ⟨(some 44), (some (39, true)), (.ld (some 2)), [.t 43]⟩, ⟨(some 45), (some (39, true)), (.ld (some 2)), [.t 4]⟩, ⟨(some 46), (some (39, true)), (.callv .fz), [.t 40, .t 44, .t 45]⟩, ⟨(some 47), (some (39, true)), (.bin .eql), [.t 46, .k (.c (.int .i64 0))]⟩, ⟨(some 48), none, .pick, [.t 39, .t 47, .k (.c (.bool false))]⟩, ⟨(some 6), none, .mv, [.t 35]⟩, ⟨(some 7), none, .mv, [.t 48]⟩] true) (.rt)))))
theorem cf54 : compF Try.prog 54 c54 = some ⟨c54, [.t 6, .t 7], 49⟩ := by kernel_rfl

-- raddle/dot.Compare
def c55 : IC := .sq (.rg [⟨(some 2), none, (.box (some 2)), [.t 0]⟩, ⟨(some 3), none, (.box (some 2)), [.t 1]⟩, ⟨(some 4), none, .mv, [.k (.c (.int .i64 0))]⟩] false) (.sq (.rg [⟨(some 5), none, (.fa 0), [.t 2]⟩, ⟨(some 6), none, (.ld none), [.t 5]⟩, ⟨(some 7), none, (.fa 0), [.t 3]⟩, ⟨(some 8), none, (.ld none), [.t 7]⟩, ⟨(some 9), none, (.call 79 .fz), [.t 6, .t 8]⟩, ⟨(some 10), none, (.fa 1), [.t 2]⟩, ⟨(some 11), none, (.ld none), [.t 10]⟩, ⟨(some 12), none, (.fa 1), [.t 3]⟩, ⟨(some 13), none, (.ld none), [.t 12]⟩, ⟨(some 14), none, (.call 79 .fz), [.t 11, .t 13]⟩, ⟨(some 15), none, (.bsl 1 [(.c (.int .i64 0))] [0, 1] 2 true), [.t 9, .t 14]⟩, ⟨(some 16), none, (.call 78 .fz), [.t 15]⟩, ⟨(some 4), none, .mv, [.t 16]⟩] true) (.rt))
theorem cf55 : compF Try.prog 55 c55 = some ⟨c55, [.t 4], 17⟩ := by kernel_rfl

-- slices.Insert[[]raddle/api.Dot,raddle/api.Dot]
def c56 : IC := .sq (.rg [⟨(some 6), none, .mv, [.k .z]⟩] false) (.sq (.rg [⟨(some 10), none, .mv, [.t 0]⟩, ⟨(some 11), none, .mv, [.t 1]⟩, ⟨(some 12), none, (.slc 2 true false), [.t 10, .t 11]⟩] false) (.sq (.rg [⟨(some 13), none, .mv, [.t 2]⟩, ⟨(some 14), none, .len, [.t 13]⟩, ⟨(some 7), none, .mv, [.t 14]⟩] false) (.sq (.sq (.rg [⟨(some 15), none, .mv, [.t 7]⟩, ⟨(some 16), none, (.bin .eql), [.t 15, .k (.c (.int .i64 0))]⟩] false) (.cn (.t 16) (.sq (.rg [⟨(some 17), none, .mv, [.t 0]⟩, ⟨(some 6), none, .mv, [.t 17]⟩] false) (.rt)) (.skip))) (.sq (.rg [⟨(some 18), none, .mv, [.t 0]⟩, ⟨(some 19), none, .len, [.t 18]⟩, ⟨(some 8), none, .mv, [.t 19]⟩] false) (.sq (.sq (.rg [⟨(some 20), none, .mv, [.t 1]⟩, ⟨(some 21), none, .mv, [.t 8]⟩, ⟨(some 22), none, (.bin .eql), [.t 20, .t 21]⟩] false) (.cn (.t 22) (.sq (.rg [⟨(some 23), none, .mv, [.t 0]⟩, ⟨(some 24), none, .mv, [.t 2]⟩, ⟨(some 25), none, (.app 2), [.t 23, .t 24]⟩, ⟨(some 6), none, .mv, [.t 25]⟩] false) (.rt)) (.skip))) (.sq (.sq (.rg [⟨(some 26), none, .mv, [.t 8]⟩, ⟨(some 27), none, .mv, [.t 7]⟩, ⟨(some 28), none, (.bin .add), [.t 26, .t 27]⟩, ⟨(some 29), none, .mv, [.t 0]⟩, ⟨(some 30), none, .capo, [.t 29]⟩, ⟨(some 31), none, (.bin .gtr), [.t 28, .t 30]⟩] false) (.cn (.t 31) (.sq (.rg [⟨(some 32), none, .mv, [.t 0]⟩, ⟨(some 33), none, .mv, [.t 1]⟩, ⟨(some 34), none, (.slc 2 false true), [.t 32, .t 33]⟩, ⟨(some 35), none, .mv, [.t 8]⟩, ⟨(some 36), none, .mv, [.t 7]⟩, ⟨(some 37), none, (.bin .add), [.t 35, .t 36]⟩, ⟨(some 38), none, .mv, [.t 1]⟩, ⟨(some 39), none, (.bin .sub), [.t 37, .t 38]⟩, ⟨(some 40), none, (.appz 2 [(.c (.int .i64 0)), (.c (.int .i64 0))]), [.t 34, .t 39]⟩, ⟨(some 9), none, .mv, [.t 40]⟩] false) (.sq (.rg [⟨(some 41), none, .mv, [.t 9]⟩, ⟨(some 42), none, .mv, [.t 1]⟩, ⟨(some 43), none, (.slc 2 true false), [.t 41, .t 42]⟩, ⟨(some 44), none, .mv, [.t 2]⟩, ⟨(some 45), none, (.cpy 2), [.t 43, .t 44]⟩] false) (.sq (.rg [⟨(some 46), none, .mv, [.t 9]⟩, ⟨(some 47), none, .mv, [.t 1]⟩, ⟨(some 48), none, .mv, [.t 7]⟩, ⟨(some 49), none, (.bin .add), [.t 47, .t 48]⟩, ⟨(some 50), none, (.slc 2 true false), [.t 46, .t 49]⟩, ⟨(some 51), none, .mv, [.t 0]⟩, ⟨(some 52), none, .mv, [.t 1]⟩, ⟨(some 53), none, (.slc 2 true false), [.t 51, .t 52]⟩, ⟨(some 54), none, (.cpy 2), [.t 50, .t 53]⟩] true) (.sq (.rg [⟨(some 55), none, .mv, [.t 9]⟩, ⟨(some 6), none, .mv, [.t 55]⟩] false) (.rt))))) (.skip))) (.sq (.rg [⟨(some 56), none, .mv, [.t 0]⟩, ⟨(some 57), none, .mv, [.t 8]⟩, ⟨(some 58), none, .mv, [.t 7]⟩, ⟨(some 59), none, (.bin .add), [.t 57, .t 58]⟩, ⟨(some 60), none, (.slc 2 false true), [.t 56, .t 59]⟩, ⟨(some 0), none, .mv, [.t 60]⟩] false) (.sq (.sq (.rg [⟨(some 61), none, .mv, [.t 2]⟩, ⟨(some 62), none, .mv, [.t 0]⟩, ⟨(some 63), none, .mv, [.t 1]⟩, ⟨(some 64), none, .mv, [.t 7]⟩, ⟨(some 65), none, (.bin .add), [.t 63, .t 64]⟩, ⟨(some 66), none, (.slc 2 true false), [.t 62, .t 65]⟩, ⟨(some 67), none, (.rcall 80), [.t 61, .t 66]⟩, ⟨(some 68), none, (.un .not), [.t 67]⟩] false) (.cn (.t 68) (.sq (.rg [⟨(some 69), none, .mv, [.t 0]⟩, ⟨(some 70), none, .mv, [.t 1]⟩, ⟨(some 71), none, .mv, [.t 7]⟩, ⟨(some 72), none, (.bin .add), [.t 70, .t 71]⟩, ⟨(some 73), none, (.slc 2 true false), [.t 69, .t 72]⟩, ⟨(some 74), none, .mv, [.t 0]⟩, ⟨(some 75), none, .mv, [.t 1]⟩, ⟨(some 76), none, (.slc 2 true false), [.t 74, .t 75]⟩, ⟨(some 77), none, (.cpy 2), [.t 73, .t 76]⟩] true) (.sq (.rg [⟨(some 78), none, .mv, [.t 0]⟩, ⟨(some 79), none, .mv, [.t 1]⟩, ⟨(some 80), none, (.slc 2 true false), [.t 78, .t 79]⟩, ⟨(some 81), none, .mv, [.t 2]⟩, ⟨(some 82), none, (.cpy 2), [.t 80, .t 81]⟩] false) (.sq (.rg [⟨(some 83), none, .mv, [.t 0]⟩, ⟨(some 6), none, .mv, [.t 83]⟩] false) (.rt)))) (.skip))) (.sq (.rg [⟨(some 84), none, .mv, [.t 0]⟩, ⟨(some 85), none, .mv, [.t 8]⟩, ⟨(some 86), none, (.slc 2 true false), [.t 84, .t 85]⟩, ⟨(some 87), none, .mv, [.t 2]⟩, ⟨(some 88), none, (.cpy 2), [.t 86, .t 87]⟩] false) (.sq (.rg [⟨(some 89), none, .mv, [.t 0]⟩, ⟨(some 90), none, .mv, [.t 1]⟩, ⟨(some 91), none, (.slc 2 true false), [.t 89, .t 90]⟩, ⟨(some 92), none, .mv, [.t 7]⟩, ⟨(some 93), none, (.call 81 .fz), [.t 91, .t 92]⟩] false) (.sq (.rg [⟨(some 94), none, .mv, [.t 0]⟩, ⟨(some 6), none, .mv, [.t 94]⟩] false) (.rt))))))))))))
theorem cf56 : compF Try.prog 56 c56 = some ⟨c56, [.t 6], 95⟩ := by kernel_rfl

-- raddle/tab.write
def c57 : IC := .sq (.rg [⟨(some 4), none, (.box (some 3)), [.t 1]⟩, ⟨(some 5), none, (.box (some 12)), [.t 2]⟩] false) (.sq (.rg [⟨(some 6), none, .mv, [.t 0]⟩, ⟨(some 7), none, (.fa 0), [.t 6]⟩, ⟨(some 8), none, (.ld (some 8)), [.t 7]⟩, ⟨(some 9), none, (.call 44 .fz), [.t 8]⟩, ⟨(some 10), none, (.un .not), [.t 9]⟩, ⟨(some 11), none, .mv, [.t 10]⟩, ⟨(some 12), (some (11, false)), .mv, [.t 0]⟩, ⟨(some 13), (some (11, false)), (.fa 0), [.t 12]⟩, ⟨(some 14), (some (11, false)), (.fa 3), [.t 13]⟩, ⟨(some 15), (some (11, false)), (.ld (some 3)), [.t 14]⟩, ⟨(some 16), (some (11, false)), (.fa 3), [.t 5]⟩, ⟨(some 17), (some (11, false)), (.ld (some 3)), [.t 16]⟩, ⟨(some 18), (some (11, false)), (.call 82 .fz), [.t 15, .t 17]⟩, ⟨(some 19), (some (11, false)), (.bin .lss), [.t 18, .k (.c (.int .i64 0))]⟩, ⟨(some 20), none, .pick, [.t 11, .k (.c (.bool true)), .t 19]⟩] true) (.cn (.t 20) (.rg [⟨(some 21), none, .mv, [.t 0]⟩, ⟨(some 22), none, (.ld (some 3)), [.t 4]⟩, ⟨(some 23), none, (.fa 3), [.t 5]⟩, ⟨(some 24), none, (.ld (some 3)), [.t 23]⟩, ⟨(some 25), none, (.fa 0), [.t 5]⟩, ⟨(some 26), none, (.ld (some 2)), [.t 25]⟩, ⟨(some 27), none, (.bld [(.c (.int .i64 0)), (.c (.int .i64 0)), (.c (.string ⟨#[]⟩)), (.c (.int .i64 0)), (.c (.int .i64 0)), (.c (.int .i64 0)), (.c (.int .i64 0)), (.c (.int .i64 0))] [(0, 3), (3, 3), (6, 2)]), [.t 22, .t 24, .t 26]⟩, ⟨(some 28), none, (.fa 0), [.t 21]⟩, ⟨none, none, (.st 8), [.t 28, .t 27]⟩] false) (.skip)))
theorem cf57 : compF Try.prog 57 c57 = some ⟨c57, [], 29⟩ := by kernel_rfl

-- slices.DeleteFunc[[]raddle/api.Dot,raddle/api.Dot]
def c58 : IC := .sq (.rg [⟨(some 4), none, .mv, [.k .z]⟩] false) (.sq (.rg [⟨(some 8), none, .mv, [.t 0]⟩, ⟨(some 9), none, .mv, [.t 1]⟩, ⟨(some 10), none, (.call 83 .fz), [.t 8, .t 9]⟩, ⟨(some 5), none, .mv, [.t 10]⟩] false) (.sq (.sq (.rg [⟨(some 11), none, .mv, [.t 5]⟩, ⟨(some 12), none, (.bin .eql), [.t 11, .k (.c (.int .i64 (-1)))]⟩] false) (.cn (.t 12) (.sq (.rg [⟨(some 13), none, .mv, [.t 0]⟩, ⟨(some 4), none, .mv, [.t 13]⟩] false) (.rt)) (.skip))) (.sq (.sq (.rg [⟨(some 14), none, .mv, [.t 5]⟩, ⟨(some 15), none, (.bin .add), [.t 14, .k (.c (.int .i64 1))]⟩, ⟨(some 6), none, .mv, [.t 15]⟩] false) (.bl 0 (.lp (.sq (.sq (.rg [⟨(some 16), none, .mv, [.t 6]⟩, ⟨(some 17), none, .mv, [.t 0]⟩, ⟨(some 18), none, .len, [.t 17]⟩, ⟨(some 19), none, (.bin .lss), [.t 16, .t 18]⟩] false) (.cn (.t 19) (.skip) (.ex 0))) (.sq (.bl 1 (.sq (.rg [⟨(some 22), none, .mv, [.t 0]⟩, ⟨(some 23), none, .mv, [.t 6]⟩, ⟨(some 24), none, (.ia 2), [.t 22, .t 23]⟩, ⟨(some 25), none, (.ld (some 2)), [.t 24]⟩, ⟨(some 7), none, (.alloc [(.c (.int .i64 0)), (.c (.int .i64 0))]), []⟩, ⟨none, none, (.st 2), [.t 7, .t 25]⟩] false) (.sq (.rg [⟨(some 26), none, .mv, [.t 1]⟩, ⟨(some 27), none, (.ld (some 2)), [.t 7]⟩, ⟨(some 28), none, (.callv .fz), [.t 26, .t 27]⟩, ⟨(some 29), none, (.un .not), [.t 28]⟩] false) (.cn (.t 29) (.sq (.rg [⟨(some 30), none, .mv, [.t 0]⟩, ⟨(some 31), none, .mv, [.t 5]⟩, ⟨(some 32), none, (.ld (some 2)), [.t 7]⟩, ⟨(some 33), none, (.ia 2), [.t 30, .t 31]⟩, ⟨none, none, (.st 2), [.t 33, .t 32]⟩] false) (.rg [⟨(some 34), none, .mv, [.t 5]⟩, ⟨(some 35), none, (.bin .add), [.t 34, .k (.c (.int .i64 1))]⟩, ⟨(some 5), none, .mv, [.t 35]⟩] false)) (.skip))))) (.rg [⟨(some 20), none, .mv, [.t 6]⟩, ⟨(some 21), none, (.bin .add), [.t 20, .k (.c (.int .i64 1))]⟩, ⟨(some 6), none, .mv, [.t 21]⟩] false)))))) (.sq (.rg [⟨(some 36), none, .mv, [.t 0]⟩, ⟨(some 37), none, .mv, [.t 5]⟩, ⟨(some 38), none, (.slc 2 true false), [.t 36, .t 37]⟩, ⟨none, none, (.clr 2 [(.c (.int .i64 0)), (.c (.int .i64 0))]), [.t 38]⟩] false) (.sq (.rg [⟨(some 39), none, .mv, [.t 0]⟩, ⟨(some 40), none, .mv, [.t 5]⟩, ⟨(some 41), none, (.slc 2 false true), [.t 39, .t 40]⟩, ⟨(some 4), none, .mv, [.t 41]⟩] false) (.rt))))))
theorem cf58 : compF Try.prog 58 c58 = some ⟨c58, [.t 4], 42⟩ := by kernel_rfl

-- raddle/tab.change$1
def c59 : IC := .sq (.rg [⟨(some 2), none, (.box (some 2)), [.t 0]⟩, ⟨(some 3), none, .mv, [.k (.c (.bool false))]⟩] false) (.sq (.rg [⟨(some 4), none, (.fa 11), [.t 1]⟩, ⟨(some 5), none, (.ld none), [.t 4]⟩, ⟨(some 6), none, (.ld (some 2)), [.t 2]⟩, ⟨(some 7), none, (.call 60 .fz), [.t 5, .t 6]⟩, ⟨(some 3), none, .mv, [.t 7]⟩] false) (.rt))
theorem cf59 : compF Try.prog 59 c59 = some ⟨c59, [.t 3], 8⟩ := by kernel_rfl

-- slices.Contains[[]raddle/api.Dot,raddle/api.Dot]
def c60 : IC := .sq (.rg [⟨(some 3), none, (.box (some 2)), [.t 1]⟩, ⟨(some 4), none, .mv, [.k (.c (.bool false))]⟩] false) (.sq (.rg [⟨(some 5), none, .mv, [.t 0]⟩, ⟨(some 6), none, (.ld (some 2)), [.t 3]⟩, ⟨(some 7), none, (.call 84 .fz), [.t 5, .t 6]⟩, ⟨(some 8), none, (.bin .geq), [.t 7, .k (.c (.int .i64 0))]⟩, ⟨(some 4), none, .mv, [.t 8]⟩] false) (.rt))
theorem cf60 : compF Try.prog 60 c60 = some ⟨c60, [.t 4], 9⟩ := by kernel_rfl

-- slices.ContainsFunc[[]raddle/api.Table,raddle/api.Table]
def c61 : IC := .sq (.rg [⟨(some 4), none, .mv, [.k (.c (.bool false))]⟩] false) (.sq (.rg [⟨(some 5), none, .mv, [.t 0]⟩, ⟨(some 6), none, .mv, [.t 1]⟩, ⟨(some 7), none, (.call 85 .fz), [.t 5, .t 6]⟩, ⟨(some 8), none, (.bin .geq), [.t 7, .k (.c (.int .i64 0))]⟩, ⟨(some 4), none, .mv, [.t 8]⟩] false) (.rt))
theorem cf61 : compF Try.prog 61 c61 = some ⟨c61, [.t 4], 9⟩ := by kernel_rfl

-- raddle/op.Forms$1
def c62 : IC := .sq (.rg [⟨(some 1), none, (.box (some 1)), [.t 0]⟩, ⟨(some 2), none, .mv, [.k (.c (.bool false))]⟩] false) (.sq (.rg [⟨(some 3), none, (.fa 0), [.t 1]⟩, ⟨(some 4), none, (.ld none), [.t 3]⟩, ⟨(some 5), none, .len, [.t 4]⟩, ⟨(some 6), none, (.bin .lss), [.t 5, .k (.c (.int .i64 1))]⟩, ⟨(some 7), none, .mv, [.t 6]⟩, ⟨(some 8), (some (7, false)), (.fa 0), [.t 1]⟩, ⟨(some 9), (some (7, false)), (.ld none), [.t 8]⟩, ⟨(some 10), (some (7, false)), .len, [.t 9]⟩, ⟨(some 11), (some (7, false)), (.bin .gtr), [.t 10, .k (.c (.int .i64 4))]⟩, ⟨(some 12), none, .pick, [.t 7, .k (.c (.bool true)), .t 11]⟩, ⟨(some 2), none, .mv, [.t 12]⟩] false) (.rt))
theorem cf62 : compF Try.prog 62 c62 = some ⟨c62, [.t 2], 13⟩ := by kernel_rfl

-- slices.ContainsFunc[[]int,int]
def c63 : IC := .sq (.rg [⟨(some 4), none, .mv, [.k (.c (.bool false))]⟩] false) (.sq (.rg [⟨(some 5), none, .mv, [.t 0]⟩, ⟨(some 6), none, .mv, [.t 1]⟩, ⟨(some 7), none, (.call 86 .fz), [.t 5, .t 6]⟩, ⟨(some 8), none, (.bin .geq), [.t 7, .k (.c (.int .i64 0))]⟩, ⟨(some 4), none, .mv, [.t 8]⟩] false) (.rt))
theorem cf63 : compF Try.prog 63 c63 = some ⟨c63, [.t 4], 9⟩ := by kernel_rfl

-- raddle/op.Forms$2
def c64 : IC := .sq (.rg [⟨(some 2), none, .mv, [.k (.c (.bool false))]⟩] false) (.sq (.rg [⟨(some 3), none, .mv, [.t 0]⟩, ⟨(some 4), none, (.bin .lss), [.t 3, .k (.c (.int .i64 2))]⟩, ⟨(some 5), none, .mv, [.t 4]⟩, ⟨(some 6), (some (5, false)), .mv, [.t 0]⟩, ⟨(some 7), (some (5, false)), (.bin .gtr), [.t 6, .k (.c (.int .i64 4))]⟩, ⟨(some 8), none, .pick, [.t 5, .k (.c (.bool true)), .t 7]⟩, ⟨(some 2), none, .mv, [.t 8]⟩] false) (.rt))
theorem cf64 : compF Try.prog 64 c64 = some ⟨c64, [.t 2], 9⟩ := by kernel_rfl

-- raddle/op.Key
def c65 : IC := .sq (.rg [⟨(some 2), none, .mv, [.k (.c (.bool false))]⟩] false) (.sq (.rg [⟨(some 3), none, .mv, [.t 0]⟩, ⟨(some 4), none, .slen, [.t 3]⟩, ⟨(some 5), none, (.bin .geq), [.t 4, .k (.c (.int .i64 1))]⟩, ⟨(some 6), none, .mv, [.t 5]⟩, ⟨(some 7), (some (6, true)), .mv, [.t 0]⟩, ⟨(some 8), (some (6, true)), .slen, [.t 7]⟩, ⟨(some 9), (some (6, true)), (.bin .leq), [.t 8, .k (.c (.int .i64 12))]⟩, ⟨(some 10), none, .pick, [.t 6, .t 9, .k (.c (.bool false))]⟩, ⟨(some 2), none, .mv, [.t 10]⟩] false) (.rt))
theorem cf65 : compF Try.prog 65 c65 = some ⟨c65, [.t 2], 11⟩ := by kernel_rfl

-- raddle/tab.dots
def c66 : IC := .sq (.rg [⟨(some 2), none, .mv, [.k (.c (.bool false))]⟩] false) (.sq (.sq (.rg [⟨(some 5), none, .mv, [.t 0]⟩, ⟨(some 6), none, .len, [.t 5]⟩, ⟨(some 7), none, .mv, [.k (.c (.int .i64 0))]⟩] false) (.bl 0 (.lp (.sq (.rg [⟨(some 8), none, (.bin .lss), [.t 7, .t 6]⟩] false) (.sq (.cn (.t 8) (.skip) (.ex 0)) (.sq (.bl 1 (.sq (.rg [⟨(some 9), none, .mv, [.t 7]⟩, ⟨(some 10), none, (.ia 2), [.t 5, .t 7]⟩, ⟨(some 11), none, (.ld (some 2)), [.t 10]⟩, ⟨(some 4), none, (.alloc [(.c (.int .i64 0)), (.c (.int .i64 0))]), []⟩, ⟨(some 3), none, .mv, [.t 9]⟩, ⟨none, none, (.st 2), [.t 4, .t 11]⟩] false) (.sq (.rg [⟨(some 12), none, (.ld (some 2)), [.t 4]⟩, ⟨(some 13), none, (.call 87 .fz), [.t 12]⟩, ⟨(some 14), none, (.un .not), [.t 13]⟩, ⟨(some 15), none, .mv, [.t 14]⟩, ⟨(some 16), (some (15, false)), .mv, [.t 3]⟩, ⟨(some 17), (some (15, false)), (.bin .gtr), [.t 16, .k (.c (.int .i64 0))]⟩, ⟨(some 18), (some (15, false)), .mv, [.t 17]⟩, ⟨(some 19), (some (18, true)), .mv, [.t 0]⟩, ⟨(some 20), (some (18, true)), .mv, [.t 3]⟩, ⟨(some 21), (some (18, true)), (.bin .sub), [.t 20, .k (.c (.int .i64 1))]⟩, ⟨(some 22), (some (18, true)), (.ia 2), [.t 19, .t 21]⟩, ⟨(some 23), (some (18, true)), (.ld (some 2)), [.t 22]⟩, ⟨(some 24), (some (18, true)), (.ld (some 2)), [.t 4]⟩, ⟨(some 25), (some (18, true)), (.call 88 .fz), [.t 23, .t 24]⟩, ⟨(some 26), (some (18, true)), (.un .not), [.t 25]⟩, ⟨(some 27), (some (15, false)), .pick, [.t 18, .t 26, .k (.c (.bool false))]⟩, ⟨(some 28), none, .pick, [.t 15, .k (.c (.bool true)), .t 27]⟩] true) (.cn (.t 28) (.sq (.rg [⟨(some 2), none, .mv, [.k (.c (.bool false))]⟩] false) (.rt)) (.skip))))) (.rg [⟨(some 29), none, (.bin .add), [.t 7, .k (.c (.int .i64 1))]⟩, ⟨(some 7), none, .mv, [.t 29]⟩] false))))))) (.sq (.rg [⟨(some 2), none, .mv, [.k (.c (.bool true))]⟩] false) (.rt)))
theorem cf66 : compF Try.prog 66 c66 = some ⟨c66, [.t 2], 30⟩ := by kernel_rfl

-- slices.EqualFunc[[]raddle/api.Cell,[]int,raddle/api.Cell,int]
def c67 : IC := .sq (.rg [⟨(some 6), none, .mv, [.k (.c (.bool false))]⟩] false) (.sq (.sq (.rg [⟨(some 10), none, .mv, [.t 0]⟩, ⟨(some 11), none, .len, [.t 10]⟩, ⟨(some 12), none, .mv, [.t 1]⟩, ⟨(some 13), none, .len, [.t 12]⟩, ⟨(some 14), none, (.bin .neq), [.t 11, .t 13]⟩] false) (.cn (.t 14) (.sq (.rg [⟨(some 6), none, .mv, [.k (.c (.bool false))]⟩] false) (.rt)) (.skip))) (.sq (.sq (.rg [⟨(some 15), none, .mv, [.t 0]⟩, ⟨(some 16), none, .len, [.t 15]⟩, ⟨(some 17), none, .mv, [.k (.c (.int .i64 0))]⟩] false) (.bl 0 (.lp (.sq (.rg [⟨(some 18), none, (.bin .lss), [.t 17, .t 16]⟩] false) (.sq (.cn (.t 18) (.skip) (.ex 0)) (.sq (.bl 1 (.sq (.rg [⟨(some 19), none, .mv, [.t 17]⟩, ⟨(some 20), none, (.ia 8), [.t 15, .t 17]⟩, ⟨(some 21), none, (.ld (some 8)), [.t 20]⟩, ⟨(some 8), none, (.alloc [(.c (.int .i64 0)), (.c (.int .i64 0)), (.c (.string ⟨#[]⟩)), (.c (.int .i64 0)), (.c (.int .i64 0)), (.c (.int .i64 0)), (.c (.int .i64 0)), (.c (.int .i64 0))]), []⟩, ⟨(some 7), none, .mv, [.t 19]⟩, ⟨none, none, (.st 8), [.t 8, .t 21]⟩] false) (.sq (.rg [⟨(some 22), none, .mv, [.t 1]⟩, ⟨(some 23), none, .mv, [.t 7]⟩, ⟨(some 24), none, (.ia 1), [.t 22, .t 23]⟩, ⟨(some 25), none, (.ld none), [.t 24]⟩, ⟨(some 9), none, .mv, [.t 25]⟩] false) (.sq (.rg [⟨(some 26), none, .mv, [.t 2]⟩, ⟨(some 27), none, (.ld (some 8)), [.t 8]⟩, ⟨(some 28), none, .mv, [.t 9]⟩, ⟨(some 29), none, (.callv .fz), [.t 26, .t 27, .t 28]⟩, ⟨(some 30), none, (.un .not), [.t 29]⟩] false) (.cn (.t 30) (.sq (.rg [⟨(some 6), none, .mv, [.k (.c (.bool false))]⟩] false) (.rt)) (.skip)))))) (.rg [⟨(some 31), none, (.bin .add), [.t 17, .k (.c (.int .i64 1))]⟩, ⟨(some 17), none, .mv, [.t 31]⟩] false))))))) (.sq (.rg [⟨(some 6), none, .mv, [.k (.c (.bool true))]⟩] false) (.rt))))
theorem cf67 : compF Try.prog 67 c67 = some ⟨c67, [.t 6], 32⟩ := by kernel_rfl

-- raddle/tab.cell
def c68 : IC := .sq (.rg [⟨(some 2), none, (.box (some 8)), [.t 0]⟩, ⟨(some 4), none, .mv, [.k (.c (.bool false))]⟩] false) (.sq (.sq (.rg [⟨(some 5), none, (.ld (some 8)), [.t 2]⟩, ⟨(some 6), none, (.call 44 .fz), [.t 5]⟩, ⟨(some 7), none, (.un .not), [.t 6]⟩] false) (.cn (.t 7) (.sq (.rg [⟨(some 8), none, (.ld (some 8)), [.t 2]⟩, ⟨(some 9), none, (.bld [(.c (.int .i64 0)), (.c (.int .i64 0)), (.c (.string ⟨#[]⟩)), (.c (.int .i64 0)), (.c (.int .i64 0)), (.c (.int .i64 0)), (.c (.int .i64 0)), (.c (.int .i64 0))] []), []⟩, ⟨(some 10), none, (.eqs false [0, 0, 1, 0, 0, 0, 0, 0]), [.t 8, .t 9]⟩, ⟨(some 4), none, .mv, [.t 10]⟩] false) (.rt)) (.skip))) (.sq (.rg [⟨(some 11), none, (.fa 6), [.t 2]⟩, ⟨(some 12), none, (.ld (some 2)), [.t 11]⟩, ⟨(some 13), none, (.call 87 .fz), [.t 12]⟩, ⟨(some 14), none, .mv, [.t 13]⟩, ⟨(some 15), (some (14, true)), (.fa 0), [.t 2]⟩, ⟨(some 16), (some (14, true)), (.ld (some 3)), [.t 15]⟩, ⟨(some 17), (some (14, true)), (.call 89 .fz), [.t 16]⟩, ⟨(some 18), none, .pick, [.t 14, .t 17, .k (.c (.bool false))]⟩, ⟨(some 19), none, .mv, [.t 18]⟩, ⟨(some 20), (some (19, true)), (.fa 0), [.t 2]⟩, ⟨(some 21), (some (19, true)), (.ld (some 3)), [.t 20]⟩, ⟨(some 22), (some (19, true)), .mv, [.t 1]⟩, ⟨(some 23), (some (19, true)), (.call 90 .fz), [.t 21, .t 22]⟩, ⟨(some 24), none, .pick, [.t 19, .t 23, .k (.c (.bool false))]⟩, ⟨(some 25), none, .mv, [.t 24]⟩, ⟨(some 26), (some (25, true)), (.fa 3), [.t 2]⟩, ⟨(some 27), (some (25, true)), (.ld (some 3)), [.t 26]⟩, ⟨(some 28), (some (25, true)), (.call 91 .fz), [.t 27]⟩, ⟨(some 29), (some (25, true)), (.bin .eql), [.t 28, .k (.c (.int .i64 0))]⟩, ⟨(some 30), none, .pick, [.t 25, .t 29, .k (.c (.bool false))]⟩, ⟨(some 4), none, .mv, [.t 30]⟩] false) (.rt)))
theorem cf68 : compF Try.prog 68 c68 = some ⟨c68, [.t 4], 31⟩ := by kernel_rfl

-- raddle/tab.right$1
def c69 : IC := .sq (.rg [⟨(some 1), none, (.box (some 8)), [.t 0]⟩, ⟨(some 2), none, .mv, [.k (.c (.bool false))]⟩] false) (.sq (.rg [⟨(some 3), none, (.ld (some 8)), [.t 1]⟩, ⟨(some 4), none, (.call 44 .fz), [.t 3]⟩, ⟨(some 5), none, (.un .not), [.t 4]⟩, ⟨(some 2), none, .mv, [.t 5]⟩] false) (.rt))
theorem cf69 : compF Try.prog 69 c69 = some ⟨c69, [.t 2], 6⟩ := by kernel_rfl

-- raddle/dot.Check$1
def c70 : IC := .sq (.rg [⟨(some 2), none, .mv, [.k (.c (.bool false))]⟩] false) (.sq (.rg [⟨(some 3), none, .mv, [.t 0]⟩, ⟨(some 4), none, (.bin .lss), [.t 3, .k (.c (.int .i64 0))]⟩, ⟨(some 5), none, .mv, [.t 4]⟩, ⟨(some 6), (some (5, false)), .mv, [.t 0]⟩, ⟨(some 7), (some (5, false)), (.bin .gtr), [.t 6, .k (.c (.int .i64 1073741824))]⟩, ⟨(some 8), none, .pick, [.t 5, .k (.c (.bool true)), .t 7]⟩, ⟨(some 2), none, .mv, [.t 8]⟩] false) (.rt))
theorem cf70 : compF Try.prog 70 c70 = some ⟨c70, [.t 2], 9⟩ := by kernel_rfl

-- slices.IndexFunc[[]raddle/api.Cell,raddle/api.Cell]
def c71 : IC := .sq (.rg [⟨(some 4), none, .mv, [.k (.c (.int .i64 0))]⟩] false) (.sq (.sq (.rg [⟨(some 6), none, .mv, [.t 0]⟩, ⟨(some 7), none, .len, [.t 6]⟩, ⟨(some 8), none, .mv, [.k (.c (.int .i64 0))]⟩] false) (.bl 0 (.lp (.sq (.rg [⟨(some 9), none, (.bin .lss), [.t 8, .t 7]⟩] false) (.sq (.cn (.t 9) (.skip) (.ex 0)) (.sq (.bl 1 (.sq (.rg [⟨(some 10), none, .mv, [.t 8]⟩, ⟨(some 5), none, .mv, [.t 10]⟩] false) (.sq (.rg [⟨(some 11), none, .mv, [.t 1]⟩, ⟨(some 12), none, .mv, [.t 0]⟩, ⟨(some 13), none, .mv, [.t 5]⟩, ⟨(some 14), none, (.ia 8), [.t 12, .t 13]⟩, ⟨(some 15), none, (.ld (some 8)), [.t 14]⟩, ⟨(some 16), none, (.callv .fz), [.t 11, .t 15]⟩] false) (.cn (.t 16) (.sq (.rg [⟨(some 17), none, .mv, [.t 5]⟩, ⟨(some 4), none, .mv, [.t 17]⟩] false) (.rt)) (.skip))))) (.rg [⟨(some 18), none, (.bin .add), [.t 8, .k (.c (.int .i64 1))]⟩, ⟨(some 8), none, .mv, [.t 18]⟩] false))))))) (.sq (.rg [⟨(some 4), none, .mv, [.k (.c (.int .i64 (-1)))]⟩] false) (.rt)))
theorem cf71 : compF Try.prog 71 c71 = some ⟨c71, [.t 4], 19⟩ := by kernel_rfl

-- raddle/dot.in
def c72 : IC := .sq (.rg [⟨(some 4), none, .mv, [.k (.c (.bool false))]⟩] false) (.sq (.rg [⟨(some 5), none, .mv, [.t 1]⟩, ⟨(some 6), none, (.bin .geq), [.t 5, .k (.c (.int .i64 0))]⟩, ⟨(some 7), none, .mv, [.t 6]⟩, ⟨(some 8), (some (7, true)), .mv, [.t 1]⟩, ⟨(some 9), (some (7, true)), .mv, [.t 0]⟩, ⟨(some 10), (some (7, true)), .len, [.t 9]⟩, ⟨(some 11), (some (7, true)), (.bin .lss), [.t 8, .t 10]⟩, ⟨(some 12), none, .pick, [.t 7, .t 11, .k (.c (.bool false))]⟩, ⟨(some 4), none, .mv, [.t 12]⟩] false) (.rt))
theorem cf72 : compF Try.prog 72 c72 = some ⟨c72, [.t 4], 13⟩ := by kernel_rfl

-- raddle/op.whole
def c73 : IC := .sq (.rg [⟨(some 3), none, (.box (some 12)), [.t 1]⟩, ⟨(some 4), none, .mv, [.k (.c (.bool false))]⟩] false) (.sq (.rg [⟨(some 6), none, (.fa 0), [.t 3]⟩, ⟨(some 7), none, (.ld (some 2)), [.t 6]⟩, ⟨(some 5), none, (.alloc [(.c (.int .i64 0)), (.c (.int .i64 0))]), []⟩, ⟨none, none, (.st 2), [.t 5, .t 7]⟩] false) (.sq (.rg [⟨(some 8), none, (.fa 0), [.t 5]⟩, ⟨(some 9), none, (.ld none), [.t 8]⟩, ⟨(some 10), none, (.bin .geq), [.t 9, .k (.c (.int .i64 0))]⟩, ⟨(some 11), none, .mv, [.t 10]⟩, ⟨(some 12), (some (11, true)), (.fa 0), [.t 5]⟩, ⟨(some 13), (some (11, true)), (.ld none), [.t 12]⟩, ⟨(some 14), (some (11, true)), .mv, [.t 0]⟩, ⟨(some 15), (some (11, true)), (.bin .lss), [.t 13, .t 14]⟩, ⟨(some 16), none, .pick, [.t 11, .t 15, .k (.c (.bool false))]⟩, ⟨(some 17), none, .mv, [.t 16]⟩, ⟨(some 18), (some (17, true)), (.fa 1), [.t 5]⟩, ⟨(some 19), (some (17, true)), (.ld none), [.t 18]⟩, ⟨(some 20), (some (17, true)), (.bin .geq), [.t 19, .k (.c (.int .i64 1))]⟩, ⟨(some 21), none, .pick, [.t 17, .t 20, .k (.c (.bool false))]⟩, ⟨(some 22), none, .mv, [.t 21]⟩, ⟨(some 23), (some (22, true)), (.fa 1), [.t 5]⟩, ⟨(some 24), (some (22, true)), (.ld none), [.t 23]⟩, ⟨(some 25), (some (22, true)), (.bin .leq), [.t 24, .k (.c (.int .i64 1073741824))]⟩, ⟨(some 26), none, .pick, [.t 22, .t 25, .k (.c (.bool false))]⟩, ⟨(some 27), none, .mv, [.t 26]⟩, ⟨(some 28), (some (27, true)), (.fa 2), [.t 3]⟩, ⟨(some 29), (some (27, true)), (.ld none), [.t 28]⟩, ⟨(some 30), (some (27, true)), .len, [.t 29]⟩, ⟨(some 31), (some (27, true)), .mv, [.t 0]⟩, ⟨(some 32), (some (27, true)), (.bin .eql), [.t 30, .t 31]⟩, ⟨(some 33), none, .pick, [.t 27, .t 32, .k (.c (.bool false))]⟩, ⟨(some 34), none, .mv, [.t 33]⟩, ⟨(some 35), (some (34, true)), (.fa 2), [.t 3]⟩, ⟨(some 36), (some (34, true)), (.ld none), [.t 35]⟩, ⟨(some 37), (some (34, true)), (.call 39 .fz), [.t 36]⟩, ⟨(some 38), (some (34, true)), (.bin .eql), [.t 37, .k (.c (.int .i64 0))]⟩, ⟨(some 39), none, .pick, [.t 34, .t 38, .k (.c (.bool false))]⟩, ⟨(some 40), none, .mv, [.t 39]⟩, ⟨(some 41), (some (40, true)), (.fa 2), [.t 3]⟩, ⟨(some 42), (some (40, true)), (.ld none), [.t 41]⟩, ⟨(some 43), (some (40, true)), (.fa 0), [.t 5]⟩, ⟨(some 44), (some (40, true)), (.ld none), [.t 43]⟩, ⟨(some 45), (some (40, true)), (.ia 1), [.t 42, .t 44]⟩, ⟨(some 46), (some (40, true)), (.ld none), [.t 45]⟩, ⟨(some 47), (some (40, true)), (.fa 1), [.t 5]⟩, ⟨(some 48), (some (40, true)), (.ld none), [.t 47]⟩, ⟨(some 49), (some (40, true)), (.bin .sub), [.t 48, .k (.c (.int .i64 1))]⟩, ⟨(some 50), (some (40, true)), (.bin .eql), [.t 46, .t 49]⟩, ⟨(some 51), none, .pick, [.t 40, .t 50, .k (.c (.bool false))]⟩, ⟨(some 52), none, .mv, [.t 51]⟩, ⟨(some 53), (some (52, true)), (.fa 3), [.t 3]⟩, ⟨(some 54), (some (52, true)), (.ld (some 3)), [.t 53]⟩, ⟨(some 55), (some (52, true)), (.call 91 .fz), [.t 54]⟩, ⟨(some 56), (some (52, true)), (.bin .eql), [.t 55, .k (.c (.int .i64 0))]⟩, ⟨(some 57), none, .pick, [.t 52, .t 56, .k (.c (.bool false))]⟩, ⟨(some 58), none, .mv, [.t 57]⟩, ⟨(some 59), (some (58, true)), (.fa 3), [.t 3]⟩, ⟨(some 60), (some (58, true)), (.fa 2), [.t 59]⟩, ⟨(some 61), (some (58, true)), (.ld none), [.t 60]⟩, ⟨(some 62), (some (58, true)), (.fa 0), [.t 5]⟩, ⟨(some 63), (some (58, true)), (.ld none), [.t 62]⟩, ⟨(some 64), (some (58, true)), (.bin .eql), [.t 61, .t 63]⟩, ⟨(some 65), none, .pick, [.t 58, .t 64, .k (.c (.bool false))]⟩, ⟨(some 4), none, .mv, [.t 65]⟩] true) (.rt)))
theorem cf73 : compF Try.prog 73 c73 = some ⟨c73, [.t 4], 66⟩ := by kernel_rfl

-- raddle/op.small
def c74 : IC := .sq (.rg [⟨(some 4), none, .mv, [.k (.c (.bool false))]⟩] false) (.sq (.rg [⟨(some 5), none, .mv, [.t 0]⟩, ⟨(some 6), none, .mv, [.t 1]⟩, ⟨(some 7), none, (.call 92 .fz), [.t 5, .t 6]⟩, ⟨(some 8), none, .mv, [.t 7]⟩, ⟨(some 9), (some (8, true)), .mv, [.t 0]⟩, ⟨(some 10), (some (8, true)), (.call 93 .fz), [.t 9, .k (.fn 94 [])]⟩, ⟨(some 11), (some (8, true)), (.un .not), [.t 10]⟩, ⟨(some 12), none, .pick, [.t 8, .t 11, .k (.c (.bool false))]⟩, ⟨(some 4), none, .mv, [.t 12]⟩] false) (.rt))
theorem cf74 : compF Try.prog 74 c74 = some ⟨c74, [.t 4], 13⟩ := by kernel_rfl

-- raddle/op.had
def c75 : IC := .sq (.rg [⟨(some 4), none, .mv, [.k (.c (.bool false))]⟩] false) (.sq (.sq (.rg [⟨(some 7), none, .mv, [.t 1]⟩, ⟨(some 8), none, .len, [.t 7]⟩, ⟨(some 9), none, .mv, [.k (.c (.int .i64 0))]⟩] false) (.bl 0 (.lp (.sq (.rg [⟨(some 10), none, (.bin .lss), [.t 9, .t 8]⟩] false) (.sq (.cn (.t 10) (.skip) (.ex 0)) (.sq (.bl 1 (.sq (.rg [⟨(some 11), none, .mv, [.t 9]⟩, ⟨(some 12), none, (.ia 2), [.t 7, .t 9]⟩, ⟨(some 13), none, (.ld (some 2)), [.t 12]⟩, ⟨(some 6), none, (.alloc [(.c (.int .i64 0)), (.c (.int .i64 0))]), []⟩, ⟨(some 5), none, .mv, [.t 11]⟩, ⟨none, none, (.st 2), [.t 6, .t 13]⟩] false) (.sq (.rg [⟨(some 14), none, .mv, [.t 0]⟩, ⟨(some 15), none, (.ld (some 2)), [.t 6]⟩, ⟨(some 16), none, (.call 45 .fz), [.t 14, .t 15]⟩, ⟨(some 17), none, (.un .not), [.t 16]⟩, ⟨(some 18), none, .mv, [.t 17]⟩, ⟨(some 19), (some (18, false)), .mv, [.t 5]⟩, ⟨(some 20), (some (18, false)), (.bin .gtr), [.t 19, .k (.c (.int .i64 0))]⟩, ⟨(some 21), (some (18, false)), .mv, [.t 20]⟩, ⟨(some 22), (some (21, true)), .mv, [.t 1]⟩, ⟨(some 23), (some (21, true)), .mv, [.t 5]⟩, ⟨(some 24), (some (21, true)), (.bin .sub), [.t 23, .k (.c (.int .i64 1))]⟩, ⟨(some 25), (some (21, true)), (.ia 2), [.t 22, .t 24]⟩, ⟨(some 26), (some (21, true)), (.ld (some 2)), [.t 25]⟩, ⟨(some 27), (some (21, true)), (.ld (some 2)), [.t 6]⟩, ⟨(some 28), (some (21, true)), (.call 88 .fz), [.t 26, .t 27]⟩, ⟨(some 29), (some (21, true)), (.un .not), [.t 28]⟩, ⟨(some 30), (some (18, false)), .pick, [.t 21, .t 29, .k (.c (.bool false))]⟩, ⟨(some 31), none, .pick, [.t 18, .k (.c (.bool true)), .t 30]⟩] true) (.cn (.t 31) (.sq (.rg [⟨(some 4), none, .mv, [.k (.c (.bool false))]⟩] false) (.rt)) (.skip))))) (.rg [⟨(some 32), none, (.bin .add), [.t 9, .k (.c (.int .i64 1))]⟩, ⟨(some 9), none, .mv, [.t 32]⟩] false))))))) (.sq (.rg [⟨(some 4), none, .mv, [.k (.c (.bool true))]⟩] false) (.rt)))
theorem cf75 : compF Try.prog 75 c75 = some ⟨c75, [.t 4], 33⟩ := by kernel_rfl

-- slices.rotateLeft[raddle/api.Row]
def c77 : IC := .sq (.rg [⟨(some 4), none, .mv, [.t 0]⟩, ⟨(some 5), none, .mv, [.t 1]⟩, ⟨(some 6), none, (.slc 3 false true), [.t 4, .t 5]⟩, ⟨(some 7), none, (.call 95 .fz), [.t 6]⟩] false) (.sq (.rg [⟨(some 8), none, .mv, [.t 0]⟩, ⟨(some 9), none, .mv, [.t 1]⟩, ⟨(some 10), none, (.slc 3 true false), [.t 8, .t 9]⟩, ⟨(some 11), none, (.call 95 .fz), [.t 10]⟩] false) (.rg [⟨(some 12), none, .mv, [.t 0]⟩, ⟨(some 13), none, (.call 95 .fz), [.t 12]⟩] false))
theorem cf77 : compF Try.prog 77 c77 = some ⟨c77, [], 14⟩ := by kernel_rfl

-- cmp.Or[int]
def c78 : IC := .sq (.rg [⟨(some 2), none, .mv, [.k (.c (.int .i64 0))]⟩] false) (.sq (.rg [⟨(some 3), none, .mv, [.k (.c (.int .i64 0))]⟩] false) (.sq (.sq (.rg [⟨(some 6), none, .mv, [.t 0]⟩, ⟨(some 7), none, .len, [.t 6]⟩, ⟨(some 8), none, .mv, [.k (.c (.int .i64 0))]⟩] false) (.bl 0 (.lp (.sq (.rg [⟨(some 9), none, (.bin .lss), [.t 8, .t 7]⟩] false) (.sq (.cn (.t 9) (.skip) (.ex 0)) (.sq (.bl 1 (.sq (.rg [⟨(some 10), none, (.ia 1), [.t 6, .t 8]⟩, ⟨(some 11), none, (.ld none), [.t 10]⟩, ⟨(some 5), none, .mv, [.t 11]⟩] false) (.sq (.rg [⟨(some 12), none, .mv, [.t 5]⟩, ⟨(some 13), none, .mv, [.t 3]⟩, ⟨(some 14), none, (.bin .neq), [.t 12, .t 13]⟩] false) (.cn (.t 14) (.sq (.rg [⟨(some 15), none, .mv, [.t 5]⟩, ⟨(some 2), none, .mv, [.t 15]⟩] false) (.rt)) (.skip))))) (.rg [⟨(some 16), none, (.bin .add), [.t 8, .k (.c (.int .i64 1))]⟩, ⟨(some 8), none, .mv, [.t 16]⟩] false))))))) (.sq (.rg [⟨(some 17), none, .mv, [.t 3]⟩, ⟨(some 2), none, .mv, [.t 17]⟩] false) (.rt))))
theorem cf78 : compF Try.prog 78 c78 = some ⟨c78, [.t 2], 18⟩ := by kernel_rfl

-- cmp.Compare[int]
def c79 : IC := .sq (.rg [⟨(some 4), none, .mv, [.k (.c (.int .i64 0))]⟩] false) (.sq (.rg [⟨(some 7), none, .mv, [.t 0]⟩, ⟨(some 8), none, (.call 96 .fz), [.t 7]⟩, ⟨(some 5), none, .mv, [.t 8]⟩] false) (.sq (.rg [⟨(some 9), none, .mv, [.t 1]⟩, ⟨(some 10), none, (.call 96 .fz), [.t 9]⟩, ⟨(some 6), none, .mv, [.t 10]⟩] false) (.sq (.sq (.rg [⟨(some 11), none, .mv, [.t 5]⟩] false) (.cn (.t 11) (.sq (.sq (.rg [⟨(some 12), none, .mv, [.t 6]⟩] false) (.cn (.t 12) (.sq (.rg [⟨(some 4), none, .mv, [.k (.c (.int .i64 0))]⟩] false) (.rt)) (.skip))) (.sq (.rg [⟨(some 4), none, .mv, [.k (.c (.int .i64 (-1)))]⟩] false) (.rt))) (.skip))) (.sq (.sq (.rg [⟨(some 13), none, .mv, [.t 6]⟩] false) (.cn (.t 13) (.sq (.rg [⟨(some 4), none, .mv, [.k (.c (.int .i64 1))]⟩] false) (.rt)) (.skip))) (.sq (.sq (.rg [⟨(some 14), none, .mv, [.t 0]⟩, ⟨(some 15), none, .mv, [.t 1]⟩, ⟨(some 16), none, (.bin .lss), [.t 14, .t 15]⟩] false) (.cn (.t 16) (.sq (.rg [⟨(some 4), none, .mv, [.k (.c (.int .i64 (-1)))]⟩] false) (.rt)) (.skip))) (.sq (.sq (.rg [⟨(some 17), none, .mv, [.t 0]⟩, ⟨(some 18), none, .mv, [.t 1]⟩, ⟨(some 19), none, (.bin .gtr), [.t 17, .t 18]⟩] false) (.cn (.t 19) (.sq (.rg [⟨(some 4), none, .mv, [.k (.c (.int .i64 1))]⟩] false) (.rt)) (.skip))) (.sq (.rg [⟨(some 4), none, .mv, [.k (.c (.int .i64 0))]⟩] false) (.rt))))))))
theorem cf79 : compF Try.prog 79 c79 = some ⟨c79, [.t 4], 20⟩ := by kernel_rfl

-- slices.rotateRight[raddle/api.Dot]
def c81 : IC := .rg [⟨(some 4), none, .mv, [.t 0]⟩, ⟨(some 5), none, .mv, [.t 0]⟩, ⟨(some 6), none, .len, [.t 5]⟩, ⟨(some 7), none, .mv, [.t 1]⟩, ⟨(some 8), none, (.bin .sub), [.t 6, .t 7]⟩, ⟨(some 9), none, (.call 97 .fz), [.t 4, .t 8]⟩] false
theorem cf81 : compF Try.prog 81 c81 = some ⟨c81, [], 10⟩ := by kernel_rfl

-- raddle/hlc.Compare
def c82 : IC := .sq (.rg [⟨(some 2), none, (.box (some 3)), [.t 0]⟩, ⟨(some 3), none, (.box (some 3)), [.t 1]⟩, ⟨(some 4), none, .mv, [.k (.c (.int .i64 0))]⟩] false) (.sq (.rg [⟨(some 5), none, (.fa 0), [.t 2]⟩, ⟨(some 6), none, (.ld none), [.t 5]⟩, ⟨(some 7), none, (.fa 0), [.t 3]⟩, ⟨(some 8), none, (.ld none), [.t 7]⟩, ⟨(some 9), none, (.call 79 .fz), [.t 6, .t 8]⟩, ⟨(some 10), none, (.fa 1), [.t 2]⟩, ⟨(some 11), none, (.ld none), [.t 10]⟩, ⟨(some 12), none, (.fa 1), [.t 3]⟩, ⟨(some 13), none, (.ld none), [.t 12]⟩, ⟨(some 14), none, (.call 79 .fz), [.t 11, .t 13]⟩, ⟨(some 15), none, (.fa 2), [.t 2]⟩, ⟨(some 16), none, (.ld none), [.t 15]⟩, ⟨(some 17), none, (.fa 2), [.t 3]⟩, ⟨(some 18), none, (.ld none), [.t 17]⟩, ⟨(some 19), none, (.call 79 .fz), [.t 16, .t 18]⟩, ⟨(some 20), none, (.bsl 1 [(.c (.int .i64 0))] [0, 1, 2] 3 true), [.t 9, .t 14, .t 19]⟩, ⟨(some 21), none, (.call 78 .fz), [.t 20]⟩, ⟨(some 4), none, .mv, [.t 21]⟩] true) (.rt))
theorem cf82 : compF Try.prog 82 c82 = some ⟨c82, [.t 4], 22⟩ := by kernel_rfl

-- slices.IndexFunc[[]raddle/api.Dot,raddle/api.Dot]
def c83 : IC := .sq (.rg [⟨(some 4), none, .mv, [.k (.c (.int .i64 0))]⟩] false) (.sq (.sq (.rg [⟨(some 6), none, .mv, [.t 0]⟩, ⟨(some 7), none, .len, [.t 6]⟩, ⟨(some 8), none, .mv, [.k (.c (.int .i64 0))]⟩] false) (.bl 0 (.lp (.sq (.rg [⟨(some 9), none, (.bin .lss), [.t 8, .t 7]⟩] false) (.sq (.cn (.t 9) (.skip) (.ex 0)) (.sq (.bl 1 (.sq (.rg [⟨(some 10), none, .mv, [.t 8]⟩, ⟨(some 5), none, .mv, [.t 10]⟩] false) (.sq (.rg [⟨(some 11), none, .mv, [.t 1]⟩, ⟨(some 12), none, .mv, [.t 0]⟩, ⟨(some 13), none, .mv, [.t 5]⟩, ⟨(some 14), none, (.ia 2), [.t 12, .t 13]⟩, ⟨(some 15), none, (.ld (some 2)), [.t 14]⟩, ⟨(some 16), none, (.callv .fz), [.t 11, .t 15]⟩] false) (.cn (.t 16) (.sq (.rg [⟨(some 17), none, .mv, [.t 5]⟩, ⟨(some 4), none, .mv, [.t 17]⟩] false) (.rt)) (.skip))))) (.rg [⟨(some 18), none, (.bin .add), [.t 8, .k (.c (.int .i64 1))]⟩, ⟨(some 8), none, .mv, [.t 18]⟩] false))))))) (.sq (.rg [⟨(some 4), none, .mv, [.k (.c (.int .i64 (-1)))]⟩] false) (.rt)))
theorem cf83 : compF Try.prog 83 c83 = some ⟨c83, [.t 4], 19⟩ := by kernel_rfl

-- slices.Index[[]raddle/api.Dot,raddle/api.Dot]
def c84 : IC := .sq (.rg [⟨(some 3), none, (.box (some 2)), [.t 1]⟩, ⟨(some 4), none, .mv, [.k (.c (.int .i64 0))]⟩] false) (.sq (.sq (.rg [⟨(some 6), none, .mv, [.t 0]⟩, ⟨(some 7), none, .len, [.t 6]⟩, ⟨(some 8), none, .mv, [.k (.c (.int .i64 0))]⟩] false) (.bl 0 (.lp (.sq (.rg [⟨(some 9), none, (.bin .lss), [.t 8, .t 7]⟩] false) (.sq (.cn (.t 9) (.skip) (.ex 0)) (.sq (.bl 1 (.sq (.rg [⟨(some 10), none, .mv, [.t 8]⟩, ⟨(some 5), none, .mv, [.t 10]⟩] false) (.sq (.rg [⟨(some 11), none, (.ld (some 2)), [.t 3]⟩, ⟨(some 12), none, .mv, [.t 0]⟩, ⟨(some 13), none, .mv, [.t 5]⟩, ⟨(some 14), none, (.ia 2), [.t 12, .t 13]⟩, ⟨(some 15), none, (.ld (some 2)), [.t 14]⟩, ⟨(some 16), none, (.eqs false [0, 0]), [.t 11, .t 15]⟩] true) (.cn (.t 16) (.sq (.rg [⟨(some 17), none, .mv, [.t 5]⟩, ⟨(some 4), none, .mv, [.t 17]⟩] false) (.rt)) (.skip))))) (.rg [⟨(some 18), none, (.bin .add), [.t 8, .k (.c (.int .i64 1))]⟩, ⟨(some 8), none, .mv, [.t 18]⟩] false))))))) (.sq (.rg [⟨(some 4), none, .mv, [.k (.c (.int .i64 (-1)))]⟩] false) (.rt)))
theorem cf84 : compF Try.prog 84 c84 = some ⟨c84, [.t 4], 19⟩ := by kernel_rfl

-- slices.IndexFunc[[]raddle/api.Table,raddle/api.Table]
def c85 : IC := .sq (.rg [⟨(some 4), none, .mv, [.k (.c (.int .i64 0))]⟩] false) (.sq (.sq (.rg [⟨(some 6), none, .mv, [.t 0]⟩, ⟨(some 7), none, .len, [.t 6]⟩, ⟨(some 8), none, .mv, [.k (.c (.int .i64 0))]⟩] false) (.bl 0 (.lp (.sq (.rg [⟨(some 9), none, (.bin .lss), [.t 8, .t 7]⟩] false) (.sq (.cn (.t 9) (.skip) (.ex 0)) (.sq (.bl 1 (.sq (.rg [⟨(some 10), none, .mv, [.t 8]⟩, ⟨(some 5), none, .mv, [.t 10]⟩] false) (.sq (.rg [⟨(some 11), none, .mv, [.t 1]⟩, ⟨(some 12), none, .mv, [.t 0]⟩, ⟨(some 13), none, .mv, [.t 5]⟩, ⟨(some 14), none, (.ia 1), [.t 12, .t 13]⟩, ⟨(some 15), none, (.ld (some 1)), [.t 14]⟩, ⟨(some 16), none, (.callv .fz), [.t 11, .t 15]⟩] false) (.cn (.t 16) (.sq (.rg [⟨(some 17), none, .mv, [.t 5]⟩, ⟨(some 4), none, .mv, [.t 17]⟩] false) (.rt)) (.skip))))) (.rg [⟨(some 18), none, (.bin .add), [.t 8, .k (.c (.int .i64 1))]⟩, ⟨(some 8), none, .mv, [.t 18]⟩] false))))))) (.sq (.rg [⟨(some 4), none, .mv, [.k (.c (.int .i64 (-1)))]⟩] false) (.rt)))
theorem cf85 : compF Try.prog 85 c85 = some ⟨c85, [.t 4], 19⟩ := by kernel_rfl

-- slices.IndexFunc[[]int,int]
def c86 : IC := .sq (.rg [⟨(some 4), none, .mv, [.k (.c (.int .i64 0))]⟩] false) (.sq (.sq (.rg [⟨(some 6), none, .mv, [.t 0]⟩, ⟨(some 7), none, .len, [.t 6]⟩, ⟨(some 8), none, .mv, [.k (.c (.int .i64 0))]⟩] false) (.bl 0 (.lp (.sq (.rg [⟨(some 9), none, (.bin .lss), [.t 8, .t 7]⟩] false) (.sq (.cn (.t 9) (.skip) (.ex 0)) (.sq (.bl 1 (.sq (.rg [⟨(some 10), none, .mv, [.t 8]⟩, ⟨(some 5), none, .mv, [.t 10]⟩] false) (.sq (.rg [⟨(some 11), none, .mv, [.t 1]⟩, ⟨(some 12), none, .mv, [.t 0]⟩, ⟨(some 13), none, .mv, [.t 5]⟩, ⟨(some 14), none, (.ia 1), [.t 12, .t 13]⟩, ⟨(some 15), none, (.ld none), [.t 14]⟩, ⟨(some 16), none, (.callv .fz), [.t 11, .t 15]⟩] false) (.cn (.t 16) (.sq (.rg [⟨(some 17), none, .mv, [.t 5]⟩, ⟨(some 4), none, .mv, [.t 17]⟩] false) (.rt)) (.skip))))) (.rg [⟨(some 18), none, (.bin .add), [.t 8, .k (.c (.int .i64 1))]⟩, ⟨(some 8), none, .mv, [.t 18]⟩] false))))))) (.sq (.rg [⟨(some 4), none, .mv, [.k (.c (.int .i64 (-1)))]⟩] false) (.rt)))
theorem cf86 : compF Try.prog 86 c86 = some ⟨c86, [.t 4], 19⟩ := by kernel_rfl

-- raddle/tab.name
def c87 : IC := .sq (.rg [⟨(some 1), none, (.box (some 2)), [.t 0]⟩, ⟨(some 2), none, .mv, [.k (.c (.bool false))]⟩] false) (.sq (.rg [⟨(some 3), none, (.fa 0), [.t 1]⟩, ⟨(some 4), none, (.ld none), [.t 3]⟩, ⟨(some 5), none, (.bin .geq), [.t 4, .k (.c (.int .i64 0))]⟩, ⟨(some 6), none, .mv, [.t 5]⟩, ⟨(some 7), (some (6, true)), (.fa 0), [.t 1]⟩, ⟨(some 8), (some (6, true)), (.ld none), [.t 7]⟩, ⟨(some 9), (some (6, true)), (.bin .lss), [.t 8, .k (.c (.int .i64 5))]⟩, ⟨(some 10), none, .pick, [.t 6, .t 9, .k (.c (.bool false))]⟩, ⟨(some 11), none, .mv, [.t 10]⟩, ⟨(some 12), (some (11, true)), (.fa 1), [.t 1]⟩, ⟨(some 13), (some (11, true)), (.ld none), [.t 12]⟩, ⟨(some 14), (some (11, true)), (.bin .geq), [.t 13, .k (.c (.int .i64 1))]⟩, ⟨(some 15), none, .pick, [.t 11, .t 14, .k (.c (.bool false))]⟩, ⟨(some 16), none, .mv, [.t 15]⟩, ⟨(some 17), (some (16, true)), (.fa 1), [.t 1]⟩, ⟨(some 18), (some (16, true)), (.ld none), [.t 17]⟩, ⟨(some 19), (some (16, true)), (.bin .leq), [.t 18, .k (.c (.int .i64 1073741824))]⟩, ⟨(some 20), none, .pick, [.t 16, .t 19, .k (.c (.bool false))]⟩, ⟨(some 2), none, .mv, [.t 20]⟩] false) (.rt))
theorem cf87 : compF Try.prog 87 c87 = some ⟨c87, [.t 2], 21⟩ := by kernel_rfl

-- raddle/dot.Less
def c88 : IC := .sq (.rg [⟨(some 2), none, (.box (some 2)), [.t 0]⟩, ⟨(some 3), none, (.box (some 2)), [.t 1]⟩, ⟨(some 4), none, .mv, [.k (.c (.bool false))]⟩] false) (.sq (.rg [⟨(some 5), none, (.ld (some 2)), [.t 2]⟩, ⟨(some 6), none, (.ld (some 2)), [.t 3]⟩, ⟨(some 7), none, (.call 55 .fz), [.t 5, .t 6]⟩, ⟨(some 8), none, (.bin .lss), [.t 7, .k (.c (.int .i64 0))]⟩, ⟨(some 4), none, .mv, [.t 8]⟩] false) (.rt))
theorem cf88 : compF Try.prog 88 c88 = some ⟨c88, [.t 4], 9⟩ := by kernel_rfl

-- raddle/value.Small
def c89 : IC := .sq (.rg [⟨(some 1), none, (.box (some 3)), [.t 0]⟩, ⟨(some 2), none, .mv, [.k (.c (.bool false))]⟩] false) (.sq (.rg [⟨(some 3), none, (.ld (some 3)), [.t 1]⟩, ⟨(some 4), none, (.call 98 .fz), [.t 3]⟩, ⟨(some 5), none, (.bin .eql), [.t 4, .k (.c (.int .i64 0))]⟩, ⟨(some 6), none, .mv, [.t 5]⟩, ⟨(some 7), (some (6, true)), (.fa 0), [.t 1]⟩, ⟨(some 8), (some (6, true)), (.ld none), [.t 7]⟩, ⟨(some 9), (some (6, true)), (.bin .neq), [.t 8, .k (.c (.int .i64 3))]⟩, ⟨(some 10), (some (6, true)), .mv, [.t 9]⟩, ⟨(some 11), (some (10, false)), (.fa 1), [.t 1]⟩, ⟨(some 12), (some (10, false)), (.ld none), [.t 11]⟩, ⟨(some 13), (some (10, false)), (.call 99 .fz), [.t 12, .k (.c (.int .i64 2147483648))]⟩, ⟨(some 14), (some (6, true)), .pick, [.t 10, .k (.c (.bool true)), .t 13]⟩, ⟨(some 15), none, .pick, [.t 6, .t 14, .k (.c (.bool false))]⟩, ⟨(some 2), none, .mv, [.t 15]⟩] false) (.rt))
theorem cf89 : compF Try.prog 89 c89 = some ⟨c89, [.t 2], 16⟩ := by kernel_rfl

-- raddle/value.Fits
def c90 : IC := .sq (.rg [⟨(some 2), none, (.box (some 3)), [.t 0]⟩, ⟨(some 4), none, .mv, [.k (.c (.bool false))]⟩] false) (.sq (.rg [⟨(some 5), none, .mv, [.t 1]⟩, ⟨(some 6), none, (.bin .eql), [.t 5, .k (.c (.int .i64 2))]⟩, ⟨(some 7), none, .mv, [.t 6]⟩, ⟨(some 8), (some (7, false)), .mv, [.t 1]⟩, ⟨(some 9), (some (7, false)), (.bin .eql), [.t 8, .k (.c (.int .i64 3))]⟩, ⟨(some 10), none, .pick, [.t 7, .k (.c (.bool true)), .t 9]⟩, ⟨(some 11), none, .mv, [.t 10]⟩, ⟨(some 12), (some (11, false)), .mv, [.t 1]⟩, ⟨(some 13), (some (11, false)), (.bin .eql), [.t 12, .k (.c (.int .i64 4))]⟩, ⟨(some 14), none, .pick, [.t 11, .k (.c (.bool true)), .t 13]⟩, ⟨(some 15), none, .mv, [.t 14]⟩, ⟨(some 16), (some (15, true)), (.ld (some 3)), [.t 2]⟩, ⟨(some 17), (some (15, true)), (.call 98 .fz), [.t 16]⟩, ⟨(some 18), (some (15, true)), (.bin .eql), [.t 17, .k (.c (.int .i64 0))]⟩, ⟨(some 19), none, .pick, [.t 15, .t 18, .k (.c (.bool false))]⟩, ⟨(some 20), none, .mv, [.t 19]⟩, ⟨(some 21), (some (20, true)), (.fa 0), [.t 2]⟩, ⟨(some 22), (some (20, true)), (.ld none), [.t 21]⟩, ⟨(some 23), (some (20, true)), .mv, [.t 1]⟩, ⟨(some 24), (some (20, true)), (.bin .eql), [.t 22, .t 23]⟩, ⟨(some 25), (some (20, true)), .mv, [.t 24]⟩, ⟨(some 26), (some (25, false)), (.fa 0), [.t 2]⟩, ⟨(some 27), (some (25, false)), (.ld none), [.t 26]⟩, ⟨(some 28), (some (25, false)), (.bin .eql), [.t 27, .k (.c (.int .i64 1))]⟩, ⟨(some 29), (some (20, true)), .pick, [.t 25, .k (.c (.bool true)), .t 28]⟩, ⟨(some 30), none, .pick, [.t 20, .t 29, .k (.c (.bool false))]⟩, ⟨(some 4), none, .mv, [.t 30]⟩] false) (.rt))
theorem cf90 : compF Try.prog 90 c90 = some ⟨c90, [.t 4], 31⟩ := by kernel_rfl

-- raddle/hlc.Check
def c91 : IC := .sq (.rg [⟨(some 1), none, (.box (some 3)), [.t 0]⟩, ⟨(some 2), none, .mv, [.k (.c (.int .i64 0))]⟩] false) (.sq (.sq (.rg [⟨(some 3), none, (.fa 0), [.t 1]⟩, ⟨(some 4), none, (.ld none), [.t 3]⟩, ⟨(some 5), none, (.call 100 .fz), [.t 4, .k (.c (.int .i64 1099511627776))]⟩, ⟨(some 6), none, .mv, [.t 5]⟩, ⟨(some 7), (some (6, true)), (.fa 1), [.t 1]⟩, ⟨(some 8), (some (6, true)), (.ld none), [.t 7]⟩, ⟨(some 9), (some (6, true)), (.call 100 .fz), [.t 8, .k (.c (.int .i64 65536))]⟩, ⟨(some 10), none, .pick, [.t 6, .t 9, .k (.c (.bool false))]⟩, ⟨(some 11), none, .mv, [.t 10]⟩, ⟨(some 12), (some (11, true)), (.fa 2), [.t 1]⟩, ⟨(some 13), (some (11, true)), (.ld none), [.t 12]⟩, ⟨(some 14), (some (11, true)), (.call 100 .fz), [.t 13, .k (.c (.int .i64 4))]⟩, ⟨(some 15), none, .pick, [.t 11, .t 14, .k (.c (.bool false))]⟩] false) (.cn (.t 15) (.sq (.rg [⟨(some 2), none, .mv, [.k (.c (.int .i64 0))]⟩] false) (.rt)) (.skip))) (.sq (.rg [⟨(some 2), none, .mv, [.k (.c (.int .i64 1))]⟩] false) (.rt)))
theorem cf91 : compF Try.prog 91 c91 = some ⟨c91, [.t 2], 16⟩ := by kernel_rfl

-- raddle/row.Fits
def c92 : IC := .sq (.rg [⟨(some 4), none, .mv, [.k (.c (.bool false))]⟩] false) (.sq (.rg [⟨(some 5), none, .mv, [.t 0]⟩, ⟨(some 6), none, .mv, [.t 1]⟩, ⟨(some 7), none, (.call 101 .fz), [.t 5, .t 6, .k (.fn 90 [])]⟩, ⟨(some 4), none, .mv, [.t 7]⟩] false) (.rt))
theorem cf92 : compF Try.prog 92 c92 = some ⟨c92, [.t 4], 8⟩ := by kernel_rfl

-- slices.ContainsFunc[[]raddle/api.Value,raddle/api.Value]
def c93 : IC := .sq (.rg [⟨(some 4), none, .mv, [.k (.c (.bool false))]⟩] false) (.sq (.rg [⟨(some 5), none, .mv, [.t 0]⟩, ⟨(some 6), none, .mv, [.t 1]⟩, ⟨(some 7), none, (.call 102 .fz), [.t 5, .t 6]⟩, ⟨(some 8), none, (.bin .geq), [.t 7, .k (.c (.int .i64 0))]⟩, ⟨(some 4), none, .mv, [.t 8]⟩] false) (.rt))
theorem cf93 : compF Try.prog 93 c93 = some ⟨c93, [.t 4], 9⟩ := by kernel_rfl

-- raddle/op.small$1
def c94 : IC := .sq (.rg [⟨(some 1), none, (.box (some 3)), [.t 0]⟩, ⟨(some 2), none, .mv, [.k (.c (.bool false))]⟩] false) (.sq (.rg [⟨(some 3), none, (.ld (some 3)), [.t 1]⟩, ⟨(some 4), none, (.call 89 .fz), [.t 3]⟩, ⟨(some 5), none, (.un .not), [.t 4]⟩, ⟨(some 2), none, .mv, [.t 5]⟩] false) (.rt))
theorem cf94 : compF Try.prog 94 c94 = some ⟨c94, [.t 2], 6⟩ := by kernel_rfl

-- slices.Reverse[[]raddle/api.Row,raddle/api.Row]
def c95 : IC := .sq (.rg [⟨(some 4), none, .mv, [.t 0]⟩, ⟨(some 5), none, .len, [.t 4]⟩, ⟨(some 6), none, (.bin .sub), [.t 5, .k (.c (.int .i64 1))]⟩, ⟨(some 2), none, .mv, [.k (.c (.int .i64 0))]⟩, ⟨(some 3), none, .mv, [.t 6]⟩] false) (.bl 0 (.lp (.sq (.sq (.rg [⟨(some 7), none, .mv, [.t 2]⟩, ⟨(some 8), none, .mv, [.t 3]⟩, ⟨(some 9), none, (.bin .lss), [.t 7, .t 8]⟩] false) (.cn (.t 9) (.skip) (.ex 0))) (.sq (.bl 1 (.rg [⟨(some 14), none, .mv, [.t 0]⟩, ⟨(some 15), none, .mv, [.t 2]⟩, ⟨(some 16), none, .mv, [.t 0]⟩, ⟨(some 17), none, .mv, [.t 3]⟩, ⟨(some 18), none, .mv, [.t 0]⟩, ⟨(some 19), none, .mv, [.t 3]⟩, ⟨(some 20), none, (.ia 3), [.t 18, .t 19]⟩, ⟨(some 21), none, (.ld (some 3)), [.t 20]⟩, ⟨(some 22), none, .mv, [.t 0]⟩, ⟨(some 23), none, .mv, [.t 2]⟩, ⟨(some 24), none, (.ia 3), [.t 22, .t 23]⟩, ⟨(some 25), none, (.ld (some 3)), [.t 24]⟩, ⟨(some 26), none, (.ia 3), [.t 14, .t 15]⟩, ⟨none, none, (.st 3), [.t 26, .t 21]⟩, ⟨(some 27), none, (.ia 3), [.t 16, .t 17]⟩, ⟨none, none, (.st 3), [.t 27, .t 25]⟩] true)) (.rg [⟨(some 10), none, .mv, [.t 2]⟩, ⟨(some 11), none, (.bin .add), [.t 10, .k (.c (.int .i64 1))]⟩, ⟨(some 12), none, .mv, [.t 3]⟩, ⟨(some 13), none, (.bin .sub), [.t 12, .k (.c (.int .i64 1))]⟩, ⟨(some 2), none, .mv, [.t 11]⟩, ⟨(some 3), none, .mv, [.t 13]⟩] false)))))
theorem cf95 : compF Try.prog 95 c95 = some ⟨c95, [], 28⟩ := by kernel_rfl

-- cmp.isNaN[int]
def c96 : IC := .sq (.rg [⟨(some 2), none, .mv, [.k (.c (.bool false))]⟩] false) (.sq (.rg [⟨(some 3), none, .mv, [.t 0]⟩, ⟨(some 4), none, .mv, [.t 0]⟩, ⟨(some 5), none, (.bin .neq), [.t 3, .t 4]⟩, ⟨(some 2), none, .mv, [.t 5]⟩] false) (.rt))
theorem cf96 : compF Try.prog 96 c96 = some ⟨c96, [.t 2], 6⟩ := by kernel_rfl

-- slices.rotateLeft[raddle/api.Dot]
def c97 : IC := .sq (.rg [⟨(some 4), none, .mv, [.t 0]⟩, ⟨(some 5), none, .mv, [.t 1]⟩, ⟨(some 6), none, (.slc 2 false true), [.t 4, .t 5]⟩, ⟨(some 7), none, (.call 103 .fz), [.t 6]⟩] false) (.sq (.rg [⟨(some 8), none, .mv, [.t 0]⟩, ⟨(some 9), none, .mv, [.t 1]⟩, ⟨(some 10), none, (.slc 2 true false), [.t 8, .t 9]⟩, ⟨(some 11), none, (.call 103 .fz), [.t 10]⟩] false) (.rg [⟨(some 12), none, .mv, [.t 0]⟩, ⟨(some 13), none, (.call 103 .fz), [.t 12]⟩] false))
theorem cf97 : compF Try.prog 97 c97 = some ⟨c97, [], 14⟩ := by kernel_rfl

-- raddle/value.Check
def c98 : IC := .sq (.rg [⟨(some 1), none, (.box (some 3)), [.t 0]⟩, ⟨(some 2), none, .mv, [.k (.c (.int .i64 0))]⟩] false) (.sq (.rg [⟨(some 3), none, .mv, [.k (.c (.bool false))]⟩] false) (.sq (.sq (.rg [⟨(some 4), none, (.fa 0), [.t 1]⟩, ⟨(some 5), none, (.ld none), [.t 4]⟩] false) (.bl 0 (.sq (.rg [⟨(some 7), none, (.bin .eql), [.t 5, .k (.c (.int .i64 1))]⟩, ⟨(some 6), none, .mv, [.t 7]⟩] false) (.cn (.t 6) (.rg [⟨(some 8), none, (.fa 1), [.t 1]⟩, ⟨(some 9), none, (.ld none), [.t 8]⟩, ⟨(some 10), none, (.bin .eql), [.t 9, .k (.c (.int .i64 0))]⟩, ⟨(some 11), none, .mv, [.t 10]⟩, ⟨(some 12), (some (11, true)), (.fa 2), [.t 1]⟩, ⟨(some 13), (some (11, true)), (.ld none), [.t 12]⟩, ⟨(some 14), (some (11, true)), (.bin .eql), [.t 13, .k (.c (.string ⟨#[]⟩))]⟩, ⟨(some 15), none, .pick, [.t 11, .t 14, .k (.c (.bool false))]⟩, ⟨(some 3), none, .mv, [.t 15]⟩] false) (.sq (.rg [⟨(some 17), none, (.bin .eql), [.t 5, .k (.c (.int .i64 2))]⟩, ⟨(some 16), none, .mv, [.t 17]⟩] false) (.cn (.t 16) (.rg [⟨(some 18), none, (.fa 1), [.t 1]⟩, ⟨(some 19), none, (.ld none), [.t 18]⟩, ⟨(some 20), none, (.bin .eql), [.t 19, .k (.c (.int .i64 0))]⟩, ⟨(some 21), none, .mv, [.t 20]⟩, ⟨(some 22), (some (21, false)), (.fa 1), [.t 1]⟩, ⟨(some 23), (some (21, false)), (.ld none), [.t 22]⟩, ⟨(some 24), (some (21, false)), (.bin .eql), [.t 23, .k (.c (.int .i64 1))]⟩, ⟨(some 25), none, .pick, [.t 21, .k (.c (.bool true)), .t 24]⟩, ⟨(some 26), none, .mv, [.t 25]⟩, ⟨(some 27), (some (26, true)), (.fa 2), [.t 1]⟩, ⟨(some 28), (some (26, true)), (.ld none), [.t 27]⟩, ⟨(some 29), (some (26, true)), (.bin .eql), [.t 28, .k (.c (.string ⟨#[]⟩))]⟩, ⟨(some 30), none, .pick, [.t 26, .t 29, .k (.c (.bool false))]⟩, ⟨(some 3), none, .mv, [.t 30]⟩] false) (.sq (.rg [⟨(some 32), none, (.bin .eql), [.t 5, .k (.c (.int .i64 3))]⟩, ⟨(some 31), none, .mv, [.t 32]⟩] false) (.cn (.t 31) (.rg [⟨(some 33), none, (.fa 1), [.t 1]⟩, ⟨(some 34), none, (.ld none), [.t 33]⟩, ⟨(some 35), none, (.call 99 .fz), [.t 34, .k (.c (.int .i64 1152921504606846976))]⟩, ⟨(some 36), none, .mv, [.t 35]⟩, ⟨(some 37), (some (36, true)), (.fa 2), [.t 1]⟩, ⟨(some 38), (some (36, true)), (.ld none), [.t 37]⟩, ⟨(some 39), (some (36, true)), (.bin .eql), [.t 38, .k (.c (.string ⟨#[]⟩))]⟩, ⟨(some 40), none, .pick, [.t 36, .t 39, .k (.c (.bool false))]⟩, ⟨(some 3), none, .mv, [.t 40]⟩] false) (.sq (.rg [⟨(some 42), none, (.bin .eql), [.t 5, .k (.c (.int .i64 4))]⟩, ⟨(some 41), none, .mv, [.t 42]⟩] false) (.cn (.t 41) (.rg [⟨(some 43), none, (.fa 1), [.t 1]⟩, ⟨(some 44), none, (.ld none), [.t 43]⟩, ⟨(some 45), none, (.bin .eql), [.t 44, .k (.c (.int .i64 0))]⟩, ⟨(some 46), none, .mv, [.t 45]⟩, ⟨(some 47), (some (46, true)), (.fa 2), [.t 1]⟩, ⟨(some 48), (some (46, true)), (.ld none), [.t 47]⟩, ⟨(some 49), (some (46, true)), .slen, [.t 48]⟩, ⟨(some 50), (some (46, true)), (.bin .leq), [.t 49, .k (.c (.int .i64 24))]⟩, ⟨(some 51), none, .pick, [.t 46, .t 50, .k (.c (.bool false))]⟩, ⟨(some 3), none, .mv, [.t 51]⟩] false) (.skip))))))))))) (.sq (.sq (.rg [⟨(some 52), none, .mv, [.t 3]⟩, ⟨(some 53), none, (.un .not), [.t 52]⟩] false) (.cn (.t 53) (.sq (.rg [⟨(some 2), none, .mv, [.k (.c (.int .i64 1))]⟩] false) (.rt)) (.skip))) (.sq (.rg [⟨(some 2), none, .mv, [.k (.c (.int .i64 0))]⟩] false) (.rt)))))
theorem cf98 : compF Try.prog 98 c98 = some ⟨c98, [.t 2], 54⟩ := by kernel_rfl

-- raddle/value.within
def c99 : IC := .sq (.rg [⟨(some 4), none, .mv, [.k (.c (.bool false))]⟩] false) (.sq (.rg [⟨(some 5), none, .mv, [.t 0]⟩, ⟨(some 6), none, .mv, [.t 1]⟩, ⟨(some 7), none, (.un .neg), [.t 6]⟩, ⟨(some 8), none, (.bin .geq), [.t 5, .t 7]⟩, ⟨(some 9), none, .mv, [.t 8]⟩, ⟨(some 10), (some (9, true)), .mv, [.t 0]⟩, ⟨(some 11), (some (9, true)), .mv, [.t 1]⟩, ⟨(some 12), (some (9, true)), (.bin .leq), [.t 10, .t 11]⟩, ⟨(some 13), none, .pick, [.t 9, .t 12, .k (.c (.bool false))]⟩, ⟨(some 4), none, .mv, [.t 13]⟩] false) (.rt))
theorem cf99 : compF Try.prog 99 c99 = some ⟨c99, [.t 4], 14⟩ := by kernel_rfl

-- raddle/hlc.in
def c100 : IC := .sq (.rg [⟨(some 4), none, .mv, [.k (.c (.bool false))]⟩] false) (.sq (.rg [⟨(some 5), none, .mv, [.t 0]⟩, ⟨(some 6), none, (.bin .geq), [.t 5, .k (.c (.int .i64 0))]⟩, ⟨(some 7), none, .mv, [.t 6]⟩, ⟨(some 8), (some (7, true)), .mv, [.t 0]⟩, ⟨(some 9), (some (7, true)), .mv, [.t 1]⟩, ⟨(some 10), (some (7, true)), (.bin .leq), [.t 8, .t 9]⟩, ⟨(some 11), none, .pick, [.t 7, .t 10, .k (.c (.bool false))]⟩, ⟨(some 4), none, .mv, [.t 11]⟩] false) (.rt))
theorem cf100 : compF Try.prog 100 c100 = some ⟨c100, [.t 4], 12⟩ := by kernel_rfl

-- slices.EqualFunc[[]raddle/api.Value,[]int,raddle/api.Value,int]
def c101 : IC := .sq (.rg [⟨(some 6), none, .mv, [.k (.c (.bool false))]⟩] false) (.sq (.sq (.rg [⟨(some 10), none, .mv, [.t 0]⟩, ⟨(some 11), none, .len, [.t 10]⟩, ⟨(some 12), none, .mv, [.t 1]⟩, ⟨(some 13), none, .len, [.t 12]⟩, ⟨(some 14), none, (.bin .neq), [.t 11, .t 13]⟩] false) (.cn (.t 14) (.sq (.rg [⟨(some 6), none, .mv, [.k (.c (.bool false))]⟩] false) (.rt)) (.skip))) (.sq (.sq (.rg [⟨(some 15), none, .mv, [.t 0]⟩, ⟨(some 16), none, .len, [.t 15]⟩, ⟨(some 17), none, .mv, [.k (.c (.int .i64 0))]⟩] false) (.bl 0 (.lp (.sq (.rg [⟨(some 18), none, (.bin .lss), [.t 17, .t 16]⟩] false) (.sq (.cn (.t 18) (.skip) (.ex 0)) (.sq (.bl 1 (.sq (.rg [⟨(some 19), none, .mv, [.t 17]⟩, ⟨(some 20), none, (.ia 3), [.t 15, .t 17]⟩, ⟨(some 21), none, (.ld (some 3)), [.t 20]⟩, ⟨(some 8), none, (.alloc [(.c (.int .i64 0)), (.c (.int .i64 0)), (.c (.string ⟨#[]⟩))]), []⟩, ⟨(some 7), none, .mv, [.t 19]⟩, ⟨none, none, (.st 3), [.t 8, .t 21]⟩] false) (.sq (.rg [⟨(some 22), none, .mv, [.t 1]⟩, ⟨(some 23), none, .mv, [.t 7]⟩, ⟨(some 24), none, (.ia 1), [.t 22, .t 23]⟩, ⟨(some 25), none, (.ld none), [.t 24]⟩, ⟨(some 9), none, .mv, [.t 25]⟩] false) (.sq (.rg [⟨(some 26), none, .mv, [.t 2]⟩, ⟨(some 27), none, (.ld (some 3)), [.t 8]⟩, ⟨(some 28), none, .mv, [.t 9]⟩, ⟨(some 29), none, (.callv .fz), [.t 26, .t 27, .t 28]⟩, ⟨(some 30), none, (.un .not), [.t 29]⟩] false) (.cn (.t 30) (.sq (.rg [⟨(some 6), none, .mv, [.k (.c (.bool false))]⟩] false) (.rt)) (.skip)))))) (.rg [⟨(some 31), none, (.bin .add), [.t 17, .k (.c (.int .i64 1))]⟩, ⟨(some 17), none, .mv, [.t 31]⟩] false))))))) (.sq (.rg [⟨(some 6), none, .mv, [.k (.c (.bool true))]⟩] false) (.rt))))
theorem cf101 : compF Try.prog 101 c101 = some ⟨c101, [.t 6], 32⟩ := by kernel_rfl

-- slices.IndexFunc[[]raddle/api.Value,raddle/api.Value]
def c102 : IC := .sq (.rg [⟨(some 4), none, .mv, [.k (.c (.int .i64 0))]⟩] false) (.sq (.sq (.rg [⟨(some 6), none, .mv, [.t 0]⟩, ⟨(some 7), none, .len, [.t 6]⟩, ⟨(some 8), none, .mv, [.k (.c (.int .i64 0))]⟩] false) (.bl 0 (.lp (.sq (.rg [⟨(some 9), none, (.bin .lss), [.t 8, .t 7]⟩] false) (.sq (.cn (.t 9) (.skip) (.ex 0)) (.sq (.bl 1 (.sq (.rg [⟨(some 10), none, .mv, [.t 8]⟩, ⟨(some 5), none, .mv, [.t 10]⟩] false) (.sq (.rg [⟨(some 11), none, .mv, [.t 1]⟩, ⟨(some 12), none, .mv, [.t 0]⟩, ⟨(some 13), none, .mv, [.t 5]⟩, ⟨(some 14), none, (.ia 3), [.t 12, .t 13]⟩, ⟨(some 15), none, (.ld (some 3)), [.t 14]⟩, ⟨(some 16), none, (.callv .fz), [.t 11, .t 15]⟩] false) (.cn (.t 16) (.sq (.rg [⟨(some 17), none, .mv, [.t 5]⟩, ⟨(some 4), none, .mv, [.t 17]⟩] false) (.rt)) (.skip))))) (.rg [⟨(some 18), none, (.bin .add), [.t 8, .k (.c (.int .i64 1))]⟩, ⟨(some 8), none, .mv, [.t 18]⟩] false))))))) (.sq (.rg [⟨(some 4), none, .mv, [.k (.c (.int .i64 (-1)))]⟩] false) (.rt)))
theorem cf102 : compF Try.prog 102 c102 = some ⟨c102, [.t 4], 19⟩ := by kernel_rfl

-- slices.Reverse[[]raddle/api.Dot,raddle/api.Dot]
def c103 : IC := .sq (.rg [⟨(some 4), none, .mv, [.t 0]⟩, ⟨(some 5), none, .len, [.t 4]⟩, ⟨(some 6), none, (.bin .sub), [.t 5, .k (.c (.int .i64 1))]⟩, ⟨(some 2), none, .mv, [.k (.c (.int .i64 0))]⟩, ⟨(some 3), none, .mv, [.t 6]⟩] false) (.bl 0 (.lp (.sq (.sq (.rg [⟨(some 7), none, .mv, [.t 2]⟩, ⟨(some 8), none, .mv, [.t 3]⟩, ⟨(some 9), none, (.bin .lss), [.t 7, .t 8]⟩] false) (.cn (.t 9) (.skip) (.ex 0))) (.sq (.bl 1 (.rg [⟨(some 14), none, .mv, [.t 0]⟩, ⟨(some 15), none, .mv, [.t 2]⟩, ⟨(some 16), none, .mv, [.t 0]⟩, ⟨(some 17), none, .mv, [.t 3]⟩, ⟨(some 18), none, .mv, [.t 0]⟩, ⟨(some 19), none, .mv, [.t 3]⟩, ⟨(some 20), none, (.ia 2), [.t 18, .t 19]⟩, ⟨(some 21), none, (.ld (some 2)), [.t 20]⟩, ⟨(some 22), none, .mv, [.t 0]⟩, ⟨(some 23), none, .mv, [.t 2]⟩, ⟨(some 24), none, (.ia 2), [.t 22, .t 23]⟩, ⟨(some 25), none, (.ld (some 2)), [.t 24]⟩, ⟨(some 26), none, (.ia 2), [.t 14, .t 15]⟩, ⟨none, none, (.st 2), [.t 26, .t 21]⟩, ⟨(some 27), none, (.ia 2), [.t 16, .t 17]⟩, ⟨none, none, (.st 2), [.t 27, .t 25]⟩] true)) (.rg [⟨(some 10), none, .mv, [.t 2]⟩, ⟨(some 11), none, (.bin .add), [.t 10, .k (.c (.int .i64 1))]⟩, ⟨(some 12), none, .mv, [.t 3]⟩, ⟨(some 13), none, (.bin .sub), [.t 12, .k (.c (.int .i64 1))]⟩, ⟨(some 2), none, .mv, [.t 11]⟩, ⟨(some 3), none, .mv, [.t 13]⟩] false)))))
theorem cf103 : compF Try.prog 103 c103 = some ⟨c103, [], 28⟩ := by kernel_rfl

end Go.Proofs.Ytcmonjmoapjpkaa.D
end
section
set_option linter.unusedVariables false
set_option linter.unusedSimpArgs false
set_option maxRecDepth 100000
set_option linter.constructorNameAsVariable false

/- What functions of raddlekeep, raddleref01 and dot answer. No condition. -/
namespace Go.Proofs.Ytcmonjmoapjpkaa.D
open Go Go.Proofs

theorem refIn_ok (n lo hi : Int) : FnB Try.prog 24 [vi n, vi lo, vi hi] (vb (decide (lo ≤ n ∧ n ≤ hi))) := by
  refine fnB_intro cf24 (by simp) ?_
  simp (config := {contextual := true, maxSteps := 1000000}) only [go_sem, ints, intRows, iv_c, Nat.reduceAdd, Nat.reduceBEq, Nat.reduceEqDiff, Nat.reduceLeDiff, Nat.reduceLT, reduceIte, Nat.le_refl, true_or, or_true, and_self, Int.reduceLE, Int.reduceLT, Int.reduceEq, Int.reduceNeg, Int.natCast_nonneg, Int.reduceToNat, c24]
  simp

theorem in_ok {fl : Fl} (l : List Int) (p : Int) : FnB Try.prog 72 [ints fl l, vi p] (vb (decide (0 ≤ p ∧ p < l.length))) := by
  refine fnB_intro cf72 (by simp) ?_
  simp (config := {contextual := true, maxSteps := 1000000}) only [go_sem, ints, intRows, iv_c, Nat.reduceAdd, Nat.reduceBEq, Nat.reduceEqDiff, Nat.reduceLeDiff, Nat.reduceLT, reduceIte, Nat.le_refl, true_or, or_true, and_self, Int.reduceLE, Int.reduceLT, Int.reduceEq, Int.reduceNeg, Int.natCast_nonneg, Int.reduceToNat, c72]
  simp

theorem take_succ_iff {α : Type} [Inhabited α] {p : α → Prop} {l : List α} {i : Nat} (h : i < l.length) : (∀ n ∈ l.take (i + 1), p n) ↔ (∀ n ∈ l.take i, p n) ∧ p (gN l i) := by
  rw [List.take_add_one, gN_at h]; simp [or_imp, forall_and]
theorem take_succ_eq {α : Type} [Inhabited α] {a b : List α} {i : Nat} (h : i < a.length) (h' : i < b.length) (e : a.take i = b.take i) (e' : gN a i = gN b i) : a.take (i + 1) = b.take (i + 1) := by
  rw [List.take_add_one, List.take_add_one, gN_at h, gN_at h', e, e']

/-- Whether a vector may be. -/
def vecE (v : List Int) : Int := if 1 ≤ v.length ∧ v.length ≤ 5 then (if ∀ n ∈ v, 0 ≤ n ∧ n ≤ 1073741824 then 0 else 1) else 2

end Go.Proofs.Ytcmonjmoapjpkaa.D
end
section
set_option linter.unusedVariables false
set_option linter.unusedSimpArgs false
set_option maxRecDepth 100000
set_option linter.constructorNameAsVariable false

/- What functions of slices and dot answer. No condition. -/
namespace Go.Proofs.Ytcmonjmoapjpkaa.D
open Go Go.Proofs

/-- Where the first stands, if any does. -/
def idxI {α : Type} (p : α → Bool) (l : List α) : Int := if l.any p then (l.findIdx p : Nat) else -1
theorem idxI_ge {α : Type} (p : α → Bool) (l : List α) : decide (0 ≤ idxI p l) = l.any p := by
  unfold idxI; split <;> simp_all
theorem idxI_at {α : Type} [Inhabited α] {p : α → Bool} {l : List α} {i : Nat} (h : i < l.length) (h1 : ∀ n ∈ l.take i, p n = false) (h2 : p (gN l i) = true) : idxI p l = i := by
  rw [gN_eq h] at h2
  have : l.any p = true := List.any_eq_true.2 ⟨l[i], List.getElem_mem _, h2⟩
  rw [idxI, if_pos this, (List.findIdx_eq h).2 ⟨h2, fun j hj => h1 _ (List.mem_take_iff_getElem.2 ⟨j, by omega, rfl⟩)⟩]
theorem idxI_no {α : Type} {p : α → Bool} {l : List α} (h1 : ∀ n ∈ l, p n = false) : idxI p l = -1 := by
  rw [idxI, if_neg]; simp; exact h1

theorem IndexInts_ok {fl : Fl} (l : List Int) (f : Nat) (caps : List V) (p : Int → Bool) (hl : l.length ≤ maxLen) (hc : ∀ ob, caps.map (resV ob 6) = caps) (hp : ∀ x ∈ l, FnB Try.prog f (vi x :: caps) (vb (p x))) :
    FnB Try.prog 86 [ints fl l, .fn f caps] (vi (idxI p l)) := by
  unfold maxLen at hl
  refine fnB_intro cf86 (by simp) ?_
  simp (config := {contextual := true, maxSteps := 1000000}) only [go_sem, ints, intRows, iv_c, Nat.reduceAdd, Nat.reduceBEq, Nat.reduceEqDiff, Nat.reduceLeDiff, Nat.reduceLT, reduceIte, Nat.le_refl, true_or, or_true, and_self, Int.reduceLE, Int.reduceLT, Int.reduceEq, Int.reduceNeg, Int.natCast_nonneg, Int.reduceToNat, c86]
  refine wpC_lp (fun env ob n => env 0 = ints fl l ∧ env 1 = .fn f caps ∧ env 7 = vi l.length ∧ ∃ i : Nat, env 8 = vi i ∧ i ≤ l.length ∧ ∀ n ∈ l.take i, p n = false) (fun env ob n => (l.length - iv (env 8)).toNat) ?_ ?_
  · simp (config := {contextual := true, maxSteps := 1000000}) only [go_sem, ints, intRows, iv_c, Nat.reduceAdd, Nat.reduceBEq, Nat.reduceEqDiff, Nat.reduceLeDiff, Nat.reduceLT, reduceIte, Nat.le_refl, true_or, or_true, and_self, Int.reduceLE, Int.reduceLT, Int.reduceEq, Int.reduceNeg, Int.natCast_nonneg, Int.reduceToNat]
    simp
    exact ⟨0, by simp⟩
  · rintro env ob n ⟨h0, h1, h7, i, h8, hi, he⟩
    simp (config := {contextual := true, maxSteps := 1000000}) only [go_sem, ints, intRows, iv_c, Nat.reduceAdd, Nat.reduceBEq, Nat.reduceEqDiff, Nat.reduceLeDiff, Nat.reduceLT, reduceIte, Nat.le_refl, true_or, or_true, and_self, Int.reduceLE, Int.reduceLT, Int.reduceEq, Int.reduceNeg, Int.natCast_nonneg, Int.reduceToNat, h0, h1, h7, h8, List.map_append, List.map_cons, hc]
    refine ⟨fun hlt => ?_, fun hge => ?_⟩
    · simp at hlt
      have hpi := hp (gN l i) (by rw [gN_eq hlt]; exact List.getElem_mem _)
      try simp only [ints] at hpi
      refine ⟨by omega, caS_i hpi trivial ?_⟩
      simp (config := {contextual := true, maxSteps := 1000000}) only [go_sem, ints, intRows, iv_c, Nat.reduceAdd, Nat.reduceBEq, Nat.reduceEqDiff, Nat.reduceLeDiff, Nat.reduceLT, reduceIte, Nat.le_refl, true_or, or_true, and_self, Int.reduceLE, Int.reduceLT, Int.reduceEq, Int.reduceNeg, Int.natCast_nonneg, Int.reduceToNat, h0, h1, h7, h8]
      refine ⟨fun hb => ?_, fun hg => ⟨⟨i + 1, ?_, by omega, (take_succ_iff hlt).2 ⟨he, hg⟩⟩, ?_⟩⟩
      · rw [idxI_at hlt he hb]
      · rw [w64 (by omega)]; simp
      · rw [w64 (by omega)]; omega
    · simp at hge
      rw [List.take_of_length_le (by omega)] at he
      rw [idxI_no he]
theorem ContainsInts_ok {fl : Fl} (l : List Int) (f : Nat) (caps : List V) (p : Int → Bool) (hl : l.length ≤ maxLen) (hc : ∀ ob, caps.map (resV ob 6) = caps) (hc' : ∀ ob, caps.map (resV ob 5) = caps) (hp : ∀ x ∈ l, FnB Try.prog f (vi x :: caps) (vb (p x))) :
    FnB Try.prog 63 [ints fl l, .fn f caps] (vb (l.any p)) := by
  refine fnB_intro cf63 (by simp) ?_
  simp (config := {contextual := true, maxSteps := 1000000}) only [go_sem, ints, intRows, iv_c, Nat.reduceAdd, Nat.reduceBEq, Nat.reduceEqDiff, Nat.reduceLeDiff, Nat.reduceLT, reduceIte, Nat.le_refl, true_or, or_true, and_self, Int.reduceLE, Int.reduceLT, Int.reduceEq, Int.reduceNeg, Int.natCast_nonneg, Int.reduceToNat, c63, hc']
  refine caS_i (IndexInts_ok l f caps p hl hc hp) trivial ?_
  simp (config := {contextual := true, maxSteps := 1000000}) only [go_sem, ints, intRows, iv_c, Nat.reduceAdd, Nat.reduceBEq, Nat.reduceEqDiff, Nat.reduceLeDiff, Nat.reduceLT, reduceIte, Nat.le_refl, true_or, or_true, and_self, Int.reduceLE, Int.reduceLT, Int.reduceEq, Int.reduceNeg, Int.natCast_nonneg, Int.reduceToNat, idxI_ge]
theorem okn_ok (n : Int) : FnB Try.prog 70 [vi n] (vb (decide (n < 0 ∨ 1073741824 < n))) := by
  refine fnB_intro cf70 (by simp) ?_
  simp (config := {contextual := true, maxSteps := 1000000}) only [go_sem, ints, intRows, iv_c, Nat.reduceAdd, Nat.reduceBEq, Nat.reduceEqDiff, Nat.reduceLeDiff, Nat.reduceLT, reduceIte, Nat.le_refl, true_or, or_true, and_self, Int.reduceLE, Int.reduceLT, Int.reduceEq, Int.reduceNeg, Int.natCast_nonneg, Int.reduceToNat, c70]
  simp

theorem Check_ok {fl : Fl} (v : List Int) : FnB Try.prog 39 [ints fl v] (vi (vecE v)) := by
  refine fnB_intro cf39 (by simp) ?_
  simp (config := {contextual := true, maxSteps := 1000000}) only [go_sem, ints, intRows, iv_c, Nat.reduceAdd, Nat.reduceBEq, Nat.reduceEqDiff, Nat.reduceLeDiff, Nat.reduceLT, reduceIte, Nat.le_refl, true_or, or_true, and_self, Int.reduceLE, Int.reduceLT, Int.reduceEq, Int.reduceNeg, Int.natCast_nonneg, Int.reduceToNat, c39]
  refine ⟨fun h => ?_, fun h => ?_⟩ <;> simp at h
  · rw [vecE, if_neg (by omega)]
  · have h2 := h.2
    refine caS_i (ContainsInts_ok v _ [] _ (by unfold maxLen; omega) (fun _ => rfl) (fun _ => rfl) (fun n _ => okn_ok n)) trivial ?_
    simp (config := {contextual := true, maxSteps := 1000000}) only [go_sem, ints, intRows, iv_c, Nat.reduceAdd, Nat.reduceBEq, Nat.reduceEqDiff, Nat.reduceLeDiff, Nat.reduceLT, reduceIte, Nat.le_refl, true_or, or_true, and_self, Int.reduceLE, Int.reduceLT, Int.reduceEq, Int.reduceNeg, Int.natCast_nonneg, Int.reduceToNat]
    refine ⟨fun h3 => ?_, fun h3 => ?_⟩
    · simp at h3
      obtain ⟨n, hn, h3⟩ := h3
      rw [vecE, if_pos (by omega), if_neg]
      intro hall; have := hall n hn; omega
    · simp at h3
      rw [vecE, if_pos (by omega), if_pos]
      intro n hn; exact h3 n hn
end Go.Proofs.Ytcmonjmoapjpkaa.D
end
section
set_option linter.unusedVariables false
set_option linter.unusedSimpArgs false
set_option maxRecDepth 100000
set_option linter.constructorNameAsVariable false

/- What functions of dot answer: dots. No condition. -/
namespace Go.Proofs.Ytcmonjmoapjpkaa.D
open Go Go.Proofs

structure Dt where
  p : Int
  n : Int
instance : Inhabited Dt := ⟨⟨0, 0⟩⟩
def dotV (d : Dt) : List V := [vi d.p, vi d.n]
def hasB (v : List Int) (d : Dt) : Bool := decide (0 ≤ d.p ∧ d.p < v.length ∧ 1 ≤ d.n ∧ d.n ≤ gN v d.p.toNat)
def nextB (v : List Int) (d : Dt) : Bool := decide (0 ≤ d.p ∧ d.p < v.length ∧ d.n = gN v d.p.toNat + 1)
def inI (n : Int) : Prop := -9223372036854775808 ≤ n ∧ n ≤ 9223372036854775807

theorem Has_ok {fl : Fl} (v : List Int) (d : Dt) : FnB Try.prog 45 [ints fl v, .ag (dotV d)] (vb (hasB v d)) := by
  refine fnB_intro cf45 (by simp) ?_
  simp (config := {contextual := true, maxSteps := 1000000}) only [go_sem, ints, intRows, iv_c, Nat.reduceAdd, Nat.reduceBEq, Nat.reduceEqDiff, Nat.reduceLeDiff, Nat.reduceLT, reduceIte, Nat.le_refl, true_or, or_true, and_self, Int.reduceLE, Int.reduceLT, Int.reduceEq, Int.reduceNeg, Int.natCast_nonneg, Int.reduceToNat, c45, dotV]
  refine caD_i (in_ok v d.p) trivial ?_
  simp (config := {contextual := true, maxSteps := 1000000}) only [go_sem, ints, intRows, iv_c, Nat.reduceAdd, Nat.reduceBEq, Nat.reduceEqDiff, Nat.reduceLeDiff, Nat.reduceLT, reduceIte, Nat.le_refl, true_or, or_true, and_self, Int.reduceLE, Int.reduceLT, Int.reduceEq, Int.reduceNeg, Int.natCast_nonneg, Int.reduceToNat, dotV]
  simp only [hasB]
  generalize gN v d.p.toNat = z
  by_cases h1 : 0 ≤ d.p ∧ d.p < v.length <;> by_cases h2 : 1 ≤ d.n <;> simp [h1, h2]
  · intro h3 h4; exact absurd ⟨h3, h4⟩ h1

end Go.Proofs.Ytcmonjmoapjpkaa.D
end
section
set_option linter.unusedVariables false
set_option linter.unusedSimpArgs false
set_option maxRecDepth 100000
set_option linter.constructorNameAsVariable false

/- What functions of dot answer: vectors. No condition. -/
namespace Go.Proofs.Ytcmonjmoapjpkaa.D
open Go Go.Proofs

/-- Place by place. -/
def allB (p : Int → Int → Bool) (a b : List Int) : Bool := decide (a.length = b.length ∧ ∀ i, i < a.length → p (gN a i) (gN b i) = true)

/-- No number is greater. -/
def leB (a b : List Int) : Bool := allB (fun x y => decide (x ≤ y)) a b
theorem vecE_range (v : List Int) : vecE v = 0 → 1 ≤ v.length ∧ v.length ≤ 5 ∧ ∀ n ∈ v, 0 ≤ n ∧ n ≤ 1073741824 := by
  unfold vecE; split
  · rename_i h; split
    · rename_i h2; exact fun _ => ⟨h.1, h.2, h2⟩
    · intro h; cases h
  · intro h; cases h

/-- With the next dot. -/
def addV (v : List Int) (d : Dt) : List Int × Int :=
  if vecE v ≠ 0 then ([], vecE v) else if nextB v d = false ∨ 1073741824 < d.n then ([], 1) else (v.set d.p.toNat d.n, 0)

/-- Of two, place by place. -/
def eachV (p : Int → Int → Int) (a b : List Int) : List Int × Int :=
  if vecE a ≠ 0 then ([], vecE a) else if vecE b ≠ 0 then ([], vecE b) else if a.length ≠ b.length then ([], 2) else (List.zipWith p a b, 0)

def mergeV (a b : List Int) : List Int × Int := eachV max a b
end Go.Proofs.Ytcmonjmoapjpkaa.D
end
section
set_option linter.unusedVariables false
set_option linter.unusedSimpArgs false
set_option maxRecDepth 100000
set_option linter.constructorNameAsVariable false

/- What functions of dot answer: the least of several. No condition. -/
namespace Go.Proofs.Ytcmonjmoapjpkaa.D
open Go Go.Proofs

def firstE : List (List Int) → Int
  | [] => 0
  | v :: l => if vecE v ≠ 0 then vecE v else firstE l
theorem firstE_at : ∀ {l : List (List Int)} {i : Nat}, i < l.length → (∀ v ∈ l.take i, vecE v = 0) → vecE (gN l i) ≠ 0 → firstE l = vecE (gN l i)
  | [], i, h, _, _ => by simp at h
  | v :: l, 0, h, h1, h2 => by simp [gN] at h2; simp [firstE, gN, h2]
  | v :: l, i + 1, h, h1, h2 => by
    have : vecE v = 0 := h1 v (by simp)
    simp only [firstE, this]
    simp
    have e : gN (v :: l) (i + 1) = gN l i := by simp [gN]
    rw [e] at h2 ⊢
    exact firstE_at (by simpa using h) (fun w hw => h1 w (by simp [hw])) h2
theorem firstE_no : ∀ {l : List (List Int)}, (∀ v ∈ l, vecE v = 0) → firstE l = 0
  | [], _ => rfl
  | v :: l, h => by simp only [firstE, h v (by simp)]; simp; exact firstE_no fun w hw => h w (by simp [hw])

def leastF : List Int → List (List Int) → List Int × Int
  | out, [] => (out, 0)
  | out, v :: l => if (eachV min out v).2 ≠ 0 then ([], (eachV min out v).2) else leastF (eachV min out v).1 l
/-- The least of several. -/
def leastV (l : List (List Int)) : List Int × Int :=
  if l = [] then ([], 2) else if firstE l ≠ 0 then ([], firstE l) else leastF (gN l 0) l

theorem eachV_len {p : Int → Int → Int} {a b : List Int} : ((eachV p a b).2 = 0 → (eachV p a b).1.length = a.length ∧ a.length ≠ 0) ∧ ((eachV p a b).2 ≠ 0 → (eachV p a b).1 = []) := by
  unfold eachV
  split
  · rename_i h; exact ⟨fun h2 => absurd h2 h, fun _ => rfl⟩
  · split
    · rename_i h; exact ⟨fun h2 => absurd h2 h, fun _ => rfl⟩
    · split
      · exact ⟨fun h2 => (by cases h2), fun _ => rfl⟩
      · rename_i h h1 h2
        have := vecE_range a (by simpa using h)
        exact ⟨fun _ => ⟨by simp; omega, by omega⟩, fun h => absurd rfl h⟩

theorem drop_gN {α : Type} [Inhabited α] {l : List α} {i : Nat} (h : i < l.length) : l.drop i = gN l i :: l.drop (i + 1) := by
  rw [gN_eq h]; exact List.drop_eq_getElem_cons h

end Go.Proofs.Ytcmonjmoapjpkaa.D
end
section
set_option linter.unusedVariables false
set_option linter.unusedSimpArgs false
set_option maxRecDepth 100000
set_option linter.constructorNameAsVariable false

/- What functions of raddlelaw05 answer. No condition. -/
namespace Go.Proofs.Ytcmonjmoapjpkaa.D
open Go Go.Proofs

/-- More than is played? -/
def heavyB (l : List (List Int)) : Bool := decide (30 < l.length ∨ ∃ v ∈ l, 30 < v.length)
end Go.Proofs.Ytcmonjmoapjpkaa.D
end
section
set_option linter.unusedVariables false
set_option linter.unusedSimpArgs false
set_option maxRecDepth 100000
set_option linter.constructorNameAsVariable false

/- The least of several, plainly. No condition. -/
namespace Go.Proofs.Ytcmonjmoapjpkaa.D
open Go Go.Proofs

theorem eachV_yes {p : Int → Int → Int} {a b : List Int} (ha : vecE a = 0) (hb : vecE b = 0) (hl : a.length = b.length) : eachV p a b = (List.zipWith p a b, 0) := by simp [eachV, ha, hb, hl]
theorem eachV_zero {p : Int → Int → Int} {a b : List Int} (h : (eachV p a b).2 = 0) : vecE a = 0 ∧ vecE b = 0 ∧ a.length = b.length ∧ (eachV p a b).1 = List.zipWith p a b := by
  unfold eachV at *
  by_cases h1 : vecE a = 0 <;> by_cases h2 : vecE b = 0 <;> by_cases h3 : a.length = b.length <;> simp [h1, h2, h3] at h ⊢
theorem zip_self (v : List Int) : List.zipWith min v v = v := List.ext_getElem (by simp) (by simp)
theorem gN_zip {p : Int → Int → Int} {a b : List Int} {i : Nat} (h1 : i < a.length) (h2 : i < b.length) : gN (List.zipWith p a b) i = p (gN a i) (gN b i) := by
  rw [gN_eq (by simp; omega), gN_eq h1, gN_eq h2]; simp
theorem leB_left {a b : List Int} (h : a.length = b.length) : leB (List.zipWith min a b) a = true := by
  simp only [leB, allB]; rw [decide_eq_true]
  refine ⟨by simp; omega, fun i hi => ?_⟩
  have : i < a.length := by simp at hi; omega
  rw [gN_zip this (by omega)]; simp; omega
theorem leB_right {a b : List Int} (h : a.length = b.length) : leB (List.zipWith min a b) b = true := by
  simp only [leB, allB]; rw [decide_eq_true]
  refine ⟨by simp; omega, fun i hi => ?_⟩
  have : i < a.length := by simp at hi; omega
  rw [gN_zip this (by omega)]; simp; omega
theorem leastF_app : ∀ (l : List (List Int)) (out v : List Int), leastF out (l ++ [v]) = if (leastF out l).2 ≠ 0 then ([], (leastF out l).2) else if (eachV min (leastF out l).1 v).2 ≠ 0 then ([], (eachV min (leastF out l).1 v).2) else ((eachV min (leastF out l).1 v).1, 0)
  | [], out, v => by by_cases h : (eachV min out v).2 = 0 <;> simp [leastF, h]
  | w :: l, out, v => by
    simp only [List.cons_append, leastF]
    by_cases h : (eachV min out w).2 = 0
    · simp [h]; simpa using leastF_app l (eachV min out w).1 v
    · simp [h]
theorem firstE_app {v : List Int} (hv : vecE v = 0) : ∀ l : List (List Int), firstE (l ++ [v]) = firstE l
  | [] => by simp [firstE, hv]
  | w :: l => by simp only [List.cons_append, firstE, firstE_app hv l]
theorem leastF_err : ∀ (l : List (List Int)) (out : List Int), (leastF out l).2 = 0 ∨ (leastF out l).1 = []
  | [], out => .inl rfl
  | w :: l, out => by
    simp only [leastF]; split
    · exact .inr rfl
    · exact leastF_err l _
theorem leastV_err (l : List (List Int)) : (leastV l).2 = 0 ∨ (leastV l).1 = [] := by
  unfold leastV; split
  · exact .inr rfl
  · split
    · exact .inr rfl
    · exact leastF_err _ _
theorem leastV_one {v : List Int} (hv : vecE v = 0) : leastV [v] = (v, 0) := by
  simp [leastV, firstE, hv, leastF, gN, eachV_yes hv hv rfl, zip_self]
theorem leastV_app {v : List Int} (hv : vecE v = 0) (l : List (List Int)) (h : (leastV l).2 = 0) (h2 : (leastV (l ++ [v])).2 = 0) : leB (leastV (l ++ [v])).1 (leastV l).1 = true ∧ leB (leastV (l ++ [v])).1 v = true := by
  have hl : l ≠ [] := by intro e; subst e; simp [leastV] at h
  have hf : firstE l = 0 := by
    by_cases h3 : firstE l = 0
    · exact h3
    · simp [leastV, hl, h3] at h
  have e1 : leastV l = leastF (gN l 0) l := by simp [leastV, hl, hf]
  have e2 : leastV (l ++ [v]) = leastF (gN l 0) (l ++ [v]) := by
    have : gN (l ++ [v]) 0 = gN l 0 := by obtain ⟨x, m, rfl⟩ := List.exists_cons_of_ne_nil hl; rfl
    simp [leastV, firstE_app hv, hf, this]
  rw [e1] at h ⊢
  rw [e2, leastF_app] at h2 ⊢
  simp [h] at h2 ⊢
  by_cases h3 : (eachV min (leastF (gN l 0) l).1 v).2 = 0
  · simp [h3]
    obtain ⟨k1, k2, k3, k4⟩ := eachV_zero h3
    rw [k4]
    exact ⟨leB_left k3, leB_right k3⟩
  · simp [h3] at h2
theorem leastV_two {v : List Int} (hv : vecE v = 0) : leastV [v, List.replicate v.length 0] = (List.replicate v.length 0, 0) := by
  obtain ⟨h1, h2, h3⟩ := vecE_range v hv
  have hz : vecE (List.replicate v.length 0) = 0 := by
    rw [vecE, if_pos (by simp; omega), if_pos]
    intro n hn; rw [List.eq_of_mem_replicate hn]; omega
  have e : List.zipWith min v (List.replicate v.length 0) = List.replicate v.length 0 := by
    refine List.ext_getElem (by simp) fun i h4 h5 => ?_
    simp
    have h6 : i < v.length := by simpa using h5
    have := h3 v[i] (List.getElem_mem _)
    omega
  simp [leastV, firstE, hv, hz, leastF, gN, eachV_yes hv hv rfl, zip_self, eachV_yes hv hz (by simp), e]

end Go.Proofs.Ytcmonjmoapjpkaa.D
end
section
set_option linter.unusedVariables false
set_option linter.unusedSimpArgs false
set_option maxRecDepth 100000
set_option linter.constructorNameAsVariable false

/- Merging and the least, plainly. No condition. -/
namespace Go.Proofs.Ytcmonjmoapjpkaa.D
open Go Go.Proofs

theorem vecE_mk {v : List Int} (h1 : 1 ≤ v.length) (h2 : v.length ≤ 5) (h3 : ∀ i, i < v.length → 0 ≤ gN v i ∧ gN v i ≤ 1073741824) : vecE v = 0 := by
  rw [vecE, if_pos ⟨h1, h2⟩, if_pos]
  intro n hn
  obtain ⟨i, hi, rfl⟩ := List.getElem_of_mem hn
  rw [← gN_eq hi]; exact h3 i hi
theorem vecE_at {v : List Int} (h : vecE v = 0) {i : Nat} (hi : i < v.length) : 0 ≤ gN v i ∧ gN v i ≤ 1073741824 := (vecE_range v h).2.2 _ (by rw [gN_eq hi]; exact List.getElem_mem _)
theorem vecE_zip {p : Int → Int → Int} (hp : ∀ x y, p x y = x ∨ p x y = y) {a b : List Int} (ha : vecE a = 0) (hb : vecE b = 0) (h : a.length = b.length) : vecE (List.zipWith p a b) = 0 := by
  obtain ⟨h1, h2, _⟩ := vecE_range a ha
  refine vecE_mk (by simp; omega) (by simp; omega) fun i hi => ?_
  have h3 : i < a.length := by simp at hi; omega
  rw [gN_zip h3 (by omega)]
  rcases hp (gN a i) (gN b i) with e | e <;> rw [e]
  · exact vecE_at ha h3
  · exact vecE_at hb (by omega)
theorem min_or (x y : Int) : min x y = x ∨ min x y = y := by omega
theorem max_or (x y : Int) : max x y = x ∨ max x y = y := by omega
theorem merge_yes {a b : List Int} (ha : vecE a = 0) (hb : vecE b = 0) (h : a.length = b.length) : mergeV a b = (List.zipWith max a b, 0) := eachV_yes ha hb h
theorem least3 {a b c : List Int} (ha : vecE a = 0) (hb : vecE b = 0) (hc : vecE c = 0) (h : a.length = b.length) (k : b.length = c.length) : leastV [a, b, c] = (List.zipWith min (List.zipWith min a b) c, 0) := by
  have e2 : eachV min a b = (List.zipWith min a b, 0) := eachV_yes ha hb h
  have e3 : eachV min (List.zipWith min a b) c = (List.zipWith min (List.zipWith min a b) c, 0) := eachV_yes (vecE_zip min_or ha hb h) hc (by simp; omega)
  simp [leastV, firstE, ha, hb, hc, leastF, gN, eachV_yes ha ha rfl, zip_self, e2, e3]
theorem zip_comm {p : Int → Int → Int} (hp : ∀ x y, p x y = p y x) (a b : List Int) : List.zipWith p a b = List.zipWith p b a := by
  refine List.ext_getElem (by simp; omega) fun i h1 h2 => ?_
  simp; exact hp _ _
theorem leB_iff {a b : List Int} : leB a b = true ↔ a.length = b.length ∧ ∀ i, i < a.length → gN a i ≤ gN b i := by
  simp [leB, allB]
theorem list_iff {a b : List Int} : a = b ↔ a.length = b.length ∧ ∀ i, i < a.length → gN a i = gN b i := by
  constructor
  · rintro rfl; exact ⟨rfl, fun _ _ => rfl⟩
  · rintro ⟨h1, h2⟩
    refine List.ext_getElem h1 fun i h3 h4 => ?_
    rw [← gN_eq h3, ← gN_eq h4]; exact h2 i h3
end Go.Proofs.Ytcmonjmoapjpkaa.D
end
section
set_option linter.unusedVariables false
set_option linter.unusedSimpArgs false
set_option maxRecDepth 100000
set_option linter.constructorNameAsVariable false

/- DotLattice. No condition. -/
namespace Go.Proofs.Ytcmonjmoapjpkaa.D
open Go Go.Proofs

theorem dec10 : decide ((1 : Int) = 0) = false := (rfl)
def gDt (d : Dt) : Prop := gInt .i64 d.p ∧ gInt .i64 d.n
end Go.Proofs.Ytcmonjmoapjpkaa.D
end
section
set_option linter.unusedVariables false
set_option linter.unusedSimpArgs false
set_option maxRecDepth 100000
set_option linter.constructorNameAsVariable false

/- What functions of raddlekeep and mat answer. No condition. -/
namespace Go.Proofs.Ytcmonjmoapjpkaa.D
open Go Go.Proofs

attribute [go_sem] List.set_cons_zero List.set_cons_succ
theorem set_gN {α : Type} [Inhabited α] {l : List α} {i : Nat} (h : i < l.length) : l.set i (gN l i) = l := by rw [gN_eq h]; simp
/-- A pointer, as a call sees it. -/
def resP (ob : OB) (n o : Nat) : Option (List V) → V
  | some r => .bp ((r.drop o).map (resV ob n))
  | none => .u
@[go_sem] theorem resP_s (ob : OB) (n o : Nat) (r : List V) : resP ob n o (some r) = .bp ((r.drop o).map (resV ob n)) := (rfl)
@[go_sem] theorem res_pt (ob : OB) (n id i o : Nat) : resV ob (n + 1) (.pt id i o) = resP ob n o ((ob id).bind fun x => x.l[i]?) := by
  simp only [resV]; cases (ob id).bind fun x => x.l[i]? <;> rfl
theorem Own.upd {n m k : Nat} {ob : OB} {v : V} {rows : List (List V)} {x : Option Ob} (h : Own n ob v k rows) (hm : n ≤ m) : Own n (updO ob m x) v k rows := by
  rcases h with h | ⟨h1, id, cap, hid, h2, h3⟩
  · exact .inl h
  · exact .inr ⟨h1, id, cap, hid, h2, by rw [updO, if_neg (by omega), h3]⟩
theorem Own.mono {n n' : Nat} {ob : OB} {v : V} {k : Nat} {rows : List (List V)} (h : Own n ob v k rows) (hn : n ≤ n') : Own n' ob v k rows := by
  rcases h with h | ⟨h1, id, cap, h2, h3, h4⟩
  · exact .inl h
  · exact .inr ⟨h1, id, cap, by omega, h3, h4⟩

/-- Whether a matrix may be. -/
def matE (m : List (List Int)) : Int := if 1 ≤ m.length ∧ m.length ≤ 5 ∧ ∀ v ∈ m, v.length = m.length then (if ∀ v ∈ m, vecE v = 0 then 0 else 1) else 2

/-- A matrix of noughts. -/
def newM (n : Nat) : List (List Int) := List.replicate n (List.replicate n 0)
def newV (n : Int) : List (List Int) × Int := if 1 ≤ n ∧ n ≤ 5 then (newM n.toNat, 0) else ([], 1)
def vecB (v : List Int) (n : Int) : Bool := decide ((v.length : Int) = n) && decide (vecE v = 0)
/-- What a matrix becomes. -/
def learnOk (m : List (List Int)) (have_ : List Int) (p : Int) (safe : List Int) : Bool := vecB have_ m.length && vecB safe m.length && (decide (0 ≤ p) && decide (p < m.length))
def learnV (m : List (List Int)) (have_ : List Int) (p : Int) (safe : List Int) : List (List Int) × Bool × Int :=
  if matE m ≠ 0 then ([], false, matE m) else if learnOk m have_ p safe = false then ([], false, 1)
  else if gN have_ p.toNat < gN safe p.toNat then (m, false, 0) else (m.set p.toNat (List.zipWith max (gN m p.toNat) safe), true, 0)
theorem matE_at {m : List (List Int)} (h : matE m = 0) : (1 ≤ m.length ∧ m.length ≤ 5) ∧ ∀ v ∈ m, v.length = m.length ∧ vecE v = 0 := by
  unfold matE at h
  split at h
  · rename_i h1; split at h
    · rename_i h2; exact ⟨⟨h1.1, h1.2.1⟩, fun v hv => ⟨h1.2.2 v hv, h2 v hv⟩⟩
    · cases h
  · cases h
theorem learn_n (m : List (List Int)) (have_ : List Int) (p : Int) (safe : List Int) : (((if vecB have_ m.length = true then !vecB safe m.length else true) || decide (p < 0)) || decide ((m.length : Int) ≤ p)) = !learnOk m have_ p safe := by
  have e1 : decide (p < 0) = !decide (0 ≤ p) := by rw [Bool.eq_iff_iff]; simp
  have e2 : decide ((m.length : Int) ≤ p) = !decide (p < m.length) := by rw [Bool.eq_iff_iff]; simp
  rw [learnOk, e1, e2]
  cases vecB have_ m.length <;> cases vecB safe m.length <;> cases decide (0 ≤ p) <;> cases decide (p < m.length) <;> rfl
theorem vecB_t {v : List Int} {n : Int} (h : vecB v n = true) : (v.length : Int) = n ∧ vecE v = 0 := by simpa [vecB] using h
theorem learn_y {m : List (List Int)} {have_ : List Int} {p : Int} {safe : List Int} (h : learnOk m have_ p safe = true) : (have_.length = m.length ∧ vecE have_ = 0) ∧ (safe.length = m.length ∧ vecE safe = 0) ∧ (0 ≤ p ∧ p < m.length) := by
  simp only [learnOk, Bool.and_eq_true, decide_eq_true_iff] at h
  obtain ⟨⟨h1, h2⟩, h3⟩ := h
  have h1 := vecB_t h1; have h2 := vecB_t h2
  exact ⟨⟨by omega, h1.2⟩, ⟨by omega, h2.2⟩, h3⟩
def frontV (m : List (List Int)) : List Int × Int := if matE m ≠ 0 then ([], matE m) else leastV m
end Go.Proofs.Ytcmonjmoapjpkaa.D
end
section
set_option linter.unusedVariables false
set_option linter.unusedSimpArgs false
set_option maxRecDepth 100000
set_option linter.constructorNameAsVariable false

/- MatLater. No condition. -/
namespace Go.Proofs.Ytcmonjmoapjpkaa.D
open Go Go.Proofs

theorem w1 : newV 2 = ([[0, 0], [0, 0]], 0) := by decide
theorem w2 : learnV [[0, 0], [0, 0]] [3, 2] 1 [1, 2] = ([[0, 0], [1, 2]], true, 0) := by decide
theorem w3 : frontV [[0, 0], [1, 2]] = ([0, 0], 0) := by decide
@[go_sem] theorem ia_1 (ob : OB) (f : Fl) (r : List V) (x : V) (l : List (List V)) : iaV ob 1 (.im f (r :: [x] :: l)) 1 = some (.bp [x]) := by simp [iaV]; omega
/-- What is over, of a whole number read without sign. -/
theorem u64_range (n : Int) : 0 ≤ IntKind.u64.wrap n ∧ IntKind.u64.wrap n < 18446744073709551616 := by
  unfold IntKind.wrap IntKind.signed IntKind.bits; simp; omega
theorem u64 {n : Int} (h : 0 ≤ n ∧ n < 18446744073709551616) : IntKind.u64.wrap n = n := by
  unfold IntKind.wrap IntKind.signed IntKind.bits; simp; omega
theorem modU (n : Int) {k : Int} (h : 0 < k ∧ k < 9223372036854775808) : ∃ x : Nat, IntKind.i64.wrap ((IntKind.u64.wrap n).tmod k) = x ∧ (x : Int) < k := by
  have h1 := u64_range n
  have h2 : (IntKind.u64.wrap n).tmod k = (IntKind.u64.wrap n) % k := Int.tmod_eq_emod_of_nonneg h1.1
  have h3 := Int.emod_nonneg (IntKind.u64.wrap n) (Int.ne_of_gt h.1)
  have h4 := Int.emod_lt_of_pos (IntKind.u64.wrap n) h.1
  refine ⟨(IntKind.u64.wrap n % k).toNat, ?_, by omega⟩
  rw [h2, w64 (by omega)]; omega

theorem vecE_rep {n : Nat} (h : 1 ≤ n ∧ n ≤ 5) : vecE (List.replicate n 0) = 0 :=
  vecE_mk (by simp; omega) (by simp; omega) fun i hi => by rw [gN_eq hi]; simp
theorem vecE_set {v : List Int} (h : vecE v = 0) (p : Nat) {x : Int} (hx : 0 ≤ x ∧ x ≤ 1073741824) : vecE (v.set p x) = 0 := by
  have h1 := vecE_range v h
  refine vecE_mk (by simp; omega) (by simp; omega) fun i hi => ?_
  rw [gN_eq hi, List.getElem_set]
  split
  · exact hx
  · exact h1.2.2 _ (List.getElem_mem _)
theorem matE_new {n : Nat} (h : 1 ≤ n ∧ n ≤ 5) : matE (newM n) = 0 := by
  rw [matE, if_pos, if_pos]
  · intro v hv; rw [List.eq_of_mem_replicate hv]; exact vecE_rep h
  · refine ⟨by simp [newM]; omega, by simp [newM]; omega, fun v hv => ?_⟩
    rw [List.eq_of_mem_replicate hv]; simp [newM]
theorem learnOk_y {m : List (List Int)} {h_ : List Int} {p : Nat} {safe : List Int} (h1 : h_.length = m.length) (h2 : vecE h_ = 0) (h3 : safe.length = m.length) (h4 : vecE safe = 0) (h5 : p < m.length) : learnOk m h_ (p : Int) safe = true := by
  simp [learnOk, vecB, h1, h2, h3, h4]; omega
theorem learn_no {m : List (List Int)} {h_ : List Int} {p : Nat} {safe : List Int} (h : matE m = 0) (h1 : h_.length = m.length) (h2 : vecE h_ = 0) (h3 : safe.length = m.length) (h4 : vecE safe = 0) (h5 : p < m.length) (h6 : gN h_ p < gN safe p) : learnV m h_ (p : Int) safe = (m, false, 0) := by
  rw [learnV, if_neg (by simpa using h), if_neg (by rw [learnOk_y h1 h2 h3 h4 h5]; simp), Int.toNat_natCast, if_pos h6]
theorem learn_yes {m : List (List Int)} {h_ : List Int} {p : Nat} {safe : List Int} (h : matE m = 0) (h1 : h_.length = m.length) (h2 : vecE h_ = 0) (h3 : safe.length = m.length) (h4 : vecE safe = 0) (h5 : p < m.length) (h6 : gN safe p ≤ gN h_ p) : learnV m h_ (p : Int) safe = (m.set p (List.zipWith max (gN m p) safe), true, 0) := by
  rw [learnV, if_neg (by simpa using h), if_neg (by rw [learnOk_y h1 h2 h3 h4 h5]; simp), Int.toNat_natCast, if_neg (by omega)]
theorem gN_set {α : Type} [Inhabited α] {l : List α} {i : Nat} (h : i < l.length) (x : α) : gN (l.set i x) i = x := by rw [gN_eq (by simpa using h)]; simp
theorem zip_rep {n : Nat} {v : List Int} (h : v.length = n) (h0 : ∀ x ∈ v, 0 ≤ x) : List.zipWith max (List.replicate n 0) v = v := by
  refine List.ext_getElem (by simp [h]) fun i h1 h2 => ?_
  have := h0 v[i] (List.getElem_mem _)
  simp; omega

end Go.Proofs.Ytcmonjmoapjpkaa.D
end
section
set_option linter.unusedVariables false
set_option linter.unusedSimpArgs false
set_option maxRecDepth 100000
set_option linter.constructorNameAsVariable false

/- MatAll. No condition. -/
namespace Go.Proofs.Ytcmonjmoapjpkaa.D
open Go Go.Proofs

/-- Appending to a slice of one's own, in a region of any order. -/
theorem nxD_app {P : Program} {nid : Nat} {env : Env} {ob : OB} {K : Env → OB → Prop} {l : List RO} {dl : Ups} {d : Option Nat} {n k : Nat} {v x : V} {rows xs : List (List V)} (h : Own n ob v k rows) (hn : n ≤ nid) (hx : rowsOf ob x = some xs) (hk : xs.all (okRow k) = true) (hlen : rows.length + xs.length ≤ maxLen)
    (hK : ∀ v' ob', Own (nid + 1) ob' v' k (rows ++ xs) → (∀ id, id < n → v ≠ .sl id 0 rows.length → ob' id = ob id) → wpD P l (nid + 1) (put env d v') ob' dl K) : nxD P true d l nid env ob dl K (opF (.app k) [v, x] ob nid) := by
  obtain ⟨v', us, e, h1, h2⟩ := app_own h hn hx hk hlen
  rw [e]
  exact hK _ _ h1 h2

theorem take_zip {a b : List Int} {p : Int → Int → Int} {i : Nat} (h : i < a.length) (h' : i < b.length) : (List.zipWith p a b).take (i + 1) = (List.zipWith p a b).take i ++ [p (gN a i) (gN b i)] := by
  rw [List.take_add_one, gN_eq h, gN_eq h']; congr 1
  rw [List.getElem?_eq_getElem (by simp; omega)]; simp

/-- The least of right vectors of one length. -/
theorem leastF_yes {n : Nat} : ∀ (l : List (List Int)) (out : List Int), vecE out = 0 → out.length = n → (∀ v ∈ l, vecE v = 0 ∧ v.length = n) →
    ∃ L, leastF out l = (L, 0) ∧ vecE L = 0 ∧ L.length = n ∧ ∀ k, k < n → (gN L k ≤ gN out k ∧ ∀ v ∈ l, gN L k ≤ gN v k) ∧ (gN L k = gN out k ∨ ∃ v ∈ l, gN L k = gN v k)
  | [], out, h1, h2, _ => ⟨out, rfl, h1, h2, fun k hk => ⟨⟨Int.le_refl _, fun v hv => (by simp at hv)⟩, .inl rfl⟩⟩
  | v :: l, out, h1, h2, h3 => by
    have hv := h3 v (by simp)
    have e : eachV min out v = (List.zipWith min out v, 0) := eachV_yes h1 hv.1 (by omega)
    obtain ⟨L, a1, a2, a3, a4⟩ := leastF_yes l (List.zipWith min out v) (vecE_zip min_or h1 hv.1 (by omega)) (by simp; omega) (fun w hw => h3 w (by simp [hw]))
    refine ⟨L, by rw [leastF, e]; simpa using a1, a2, a3, fun k hk => ?_⟩
    obtain ⟨⟨b1, b2⟩, b3⟩ := a4 k hk
    rw [gN_zip (by omega) (by omega)] at b1 b3
    refine ⟨⟨by omega, fun w hw => ?_⟩, ?_⟩
    · rcases List.mem_cons.1 hw with rfl | hw
      · omega
      · exact b2 w hw
    · rcases b3 with b3 | ⟨w, hw, b3⟩
      · rcases min_or (gN out k) (gN v k) with e | e
        · exact .inl (by omega)
        · exact .inr ⟨v, by simp, by omega⟩
      · exact .inr ⟨w, by simp [hw], b3⟩
theorem least_yes {n : Nat} {l : List (List Int)} (h0 : l ≠ []) (h : ∀ v ∈ l, vecE v = 0 ∧ v.length = n) :
    ∃ L, leastV l = (L, 0) ∧ vecE L = 0 ∧ L.length = n ∧ ∀ k, k < n → (∀ v ∈ l, gN L k ≤ gN v k) ∧ ∃ v ∈ l, gN L k = gN v k := by
  have hpos : 0 < l.length := List.length_pos_iff.2 h0
  have hm : gN l 0 ∈ l := by rw [gN_eq hpos]; exact List.getElem_mem _
  obtain ⟨L, a1, a2, a3, a4⟩ := leastF_yes (n := n) l (gN l 0) (h _ hm).1 (h _ hm).2 h
  refine ⟨L, by rw [leastV, if_neg h0, if_neg (by rw [firstE_no fun v hv => (h v hv).1]; simp), a1], a2, a3, fun k hk => ?_⟩
  obtain ⟨⟨b1, b2⟩, b3⟩ := a4 k hk
  refine ⟨b2, ?_⟩
  rcases b3 with b3 | b3
  · exact ⟨_, hm, b3⟩
  · exact b3
theorem list_iff' {α : Type} [Inhabited α] {a b : List α} : a = b ↔ a.length = b.length ∧ ∀ i, i < a.length → gN a i = gN b i :=
  ⟨fun h => by subst h; exact ⟨rfl, fun _ _ => rfl⟩, fun ⟨h1, h2⟩ => List.ext_getElem h1 fun i h3 h4 => by have := h2 i h3; rw [gN_eq h3, gN_eq h4] at this; exact this⟩
theorem matE_mk {m : List (List Int)} (h1 : 1 ≤ m.length ∧ m.length ≤ 5) (h : ∀ i, i < m.length → (gN m i).length = m.length ∧ vecE (gN m i) = 0) : matE m = 0 := by
  have h' : ∀ v ∈ m, v.length = m.length ∧ vecE v = 0 := fun v hv => by
    obtain ⟨i, hi, rfl⟩ := List.getElem_of_mem hv
    have := h i hi; rw [gN_eq hi] at this; exact this
  rw [matE, if_pos ⟨h1.1, h1.2, fun v hv => (h' v hv).1⟩, if_pos fun v hv => (h' v hv).2]
theorem gN_set2 {α : Type} [Inhabited α] {l : List α} {i j : Nat} (h : j ≠ i) (x : α) : gN (l.set i x) j = gN l j := by simp [gN, List.getElem?_set, Ne.symm h]
theorem gN_mem {α : Type} [Inhabited α] {l : List α} {i : Nat} (h : i < l.length) : gN l i ∈ l := by rw [gN_eq h]; exact List.getElem_mem _
theorem gN_rep {α : Type} [Inhabited α] {n i : Nat} {x : α} (h : i < n) : gN (List.replicate n x) i = x := by rw [gN_eq (by simpa using h)]; simp

end Go.Proofs.Ytcmonjmoapjpkaa.D
end
section
set_option linter.unusedVariables false
set_option linter.unusedSimpArgs false
set_option maxRecDepth 100000
set_option linter.constructorNameAsVariable false

/- What the reference's functions answer: twins, matrices, vectors. No condition. -/
namespace Go.Proofs.Ytcmonjmoapjpkaa.D
open Go Go.Proofs

theorem take_gN {α : Type} [Inhabited α] {l : List α} {i : Nat} (h : i < l.length) : l.take (i + 1) = l.take i ++ [gN l i] := by
  rw [List.take_add_one, gN_at h]; simp
/-- The least, of the reference. -/
theorem leastF_bad {n : Nat} : ∀ (l : List (List Int)) (out : List Int), vecE out = 0 → out.length = n → (∀ v ∈ l, vecE v = 0) → (∃ v ∈ l, v.length ≠ n) → leastF out l = ([], 2)
  | [], out, _, _, _, h => by obtain ⟨v, hv, _⟩ := h; simp at hv
  | v :: l, out, h1, h2, h3, h4 => by
    have hv := h3 v (by simp)
    by_cases e : v.length = n
    · have e : eachV min out v = (List.zipWith min out v, 0) := eachV_yes h1 hv (by omega)
      rw [leastF, e]
      simp only [ne_eq, not_true_eq_false, if_false]
      refine leastF_bad (n := n) l _ (vecE_zip min_or h1 hv (by omega)) (by simp; omega) (fun w hw => h3 w (by simp [hw])) ?_
      obtain ⟨w, hw, hn⟩ := h4
      rcases List.mem_cons.1 hw with rfl | hw
      · exact absurd ‹_› hn
      · exact ⟨w, hw, hn⟩
    · have e : eachV min out v = ([], 2) := by rw [eachV, if_neg (by simpa using h1), if_neg (by simpa using hv), if_pos (by omega)]
      rw [leastF, e]; simp

end Go.Proofs.Ytcmonjmoapjpkaa.D
end
section
set_option linter.unusedVariables false
set_option linter.unusedSimpArgs false
set_option maxRecDepth 100000
set_option linter.constructorNameAsVariable false

/- MatRises. No condition. -/
namespace Go.Proofs.Ytcmonjmoapjpkaa.D
open Go Go.Proofs

/-- What learning does. -/
theorem learn_all {m : List (List Int)} {h_ : List Int} {p : Nat} {safe : List Int} (h : matE m = 0) (h1 : h_.length = m.length) (h2 : vecE h_ = 0) (h3 : safe.length = m.length) (h4 : vecE safe = 0) (h5 : p < m.length) :
    ∃ x ok, learnV m h_ (p : Int) safe = (x, ok, 0) ∧ learnV x h_ (p : Int) safe = (x, ok, 0) ∧ ok = decide (gN safe p ≤ gN h_ p) ∧ x.length = m.length ∧ matE x = 0 ∧ (∀ k, k < m.length → leB (gN m k) (gN x k) = true) ∧ (∀ k, k < m.length → k ≠ p → gN m k = gN x k) ∧ (ok = true → leB safe (gN x p) = true) := by
  have hm := matE_at h
  have hr : ∀ k, k < m.length → (gN m k).length = m.length ∧ vecE (gN m k) = 0 := fun k hk => hm.2 _ (gN_mem hk)
  by_cases h6 : gN safe p ≤ gN h_ p
  · have hp := hr p h5
    have hz : ∀ k, k < m.length → gN (List.zipWith max (gN m p) safe) k = max (gN (gN m p) k) (gN safe k) := fun k hk => gN_zip (by omega) (by omega)
    have hzl : (List.zipWith max (gN m p) safe).length = m.length := by simp; omega
    have hE : matE (m.set p (List.zipWith max (gN m p) safe)) = 0 := by
      refine matE_mk (by simpa using hm.1) fun i hi => ?_
      simp at hi
      by_cases hip : i = p
      · subst hip; rw [gN_set hi]; exact ⟨by simpa using hzl, vecE_zip max_or hp.2 h4 (by omega)⟩
      · rw [gN_set2 hip]; simpa using hr i hi
    refine ⟨m.set p (List.zipWith max (gN m p) safe), true, learn_yes h h1 h2 h3 h4 h5 h6, ?_, by simp [h6], by simp, hE, fun k hk => ?_, fun k hk hkp => by rw [gN_set2 hkp], fun _ => ?_⟩
    · rw [learn_yes hE (by simpa using h1) h2 (by simpa using h3) h4 (by simpa using h5) h6, gN_set h5, List.set_set]
      have : List.zipWith max (List.zipWith max (gN m p) safe) safe = List.zipWith max (gN m p) safe := list_iff'.2 ⟨by simp <;> omega, fun k hk => by
        simp at hk; rw [gN_zip (by simp; omega) (by omega), gN_zip (by omega) (by omega)]; omega⟩
      rw [this]
    · by_cases hkp : k = p
      · subst hkp; rw [gN_set h5]; exact leB_iff.2 ⟨by omega, fun i hi => by rw [hz i (by omega)]; omega⟩
      · rw [gN_set2 hkp]; exact leB_iff.2 ⟨rfl, fun _ _ => Int.le_refl _⟩
    · rw [gN_set h5]; exact leB_iff.2 ⟨by omega, fun i hi => by rw [hz i (by omega)]; omega⟩
  · have e := learn_no h h1 h2 h3 h4 h5 (by omega)
    exact ⟨m, false, e, e, by simp; omega, rfl, h, fun k hk => leB_iff.2 ⟨rfl, fun _ _ => Int.le_refl _⟩, fun _ _ _ => rfl, fun h => by cases h⟩

theorem front_yes {m : List (List Int)} (h : matE m = 0) : ∃ L, frontV m = (L, 0) ∧ vecE L = 0 ∧ L.length = m.length ∧ ∀ k, k < m.length → (∀ j, j < m.length → gN L k ≤ gN (gN m j) k) ∧ ∃ j, j < m.length ∧ gN L k = gN (gN m j) k := by
  have hm := matE_at h
  obtain ⟨L, a1, a2, a3, a4⟩ := least_yes (n := m.length) (l := m) (by intro e; rw [e] at hm; simp at hm) fun v hv => ⟨(hm.2 v hv).2, (hm.2 v hv).1⟩
  refine ⟨L, by rw [frontV, if_neg (by simpa using h), a1], a2, a3, fun k hk => ?_⟩
  obtain ⟨b1, v, hv, b2⟩ := a4 k hk
  refine ⟨fun j hj => b1 _ (gN_mem hj), ?_⟩
  obtain ⟨j, hj, rfl⟩ := List.getElem_of_mem hv
  exact ⟨j, hj, by rw [b2, gN_eq hj]⟩

end Go.Proofs.Ytcmonjmoapjpkaa.D
end
section
set_option linter.unusedVariables false
set_option linter.unusedSimpArgs false
set_option maxRecDepth 100000
set_option linter.constructorNameAsVariable false

/- MatExact. No condition. -/
namespace Go.Proofs.Ytcmonjmoapjpkaa.D
open Go Go.Proofs

theorem heavy_no {l : List (List Int)} (h : heavyB l = false) : l.length ≤ 30 ∧ ∀ v ∈ l, v.length ≤ 30 := by
  simp only [heavyB, decide_eq_false_iff_not] at h
  refine ⟨by omega, fun v hv => ?_⟩
  rcases Nat.lt_or_ge 30 v.length with h2 | h2
  · exact absurd (.inr ⟨v, hv, h2⟩) h
  · exact h2

end Go.Proofs.Ytcmonjmoapjpkaa.D
end
section
set_option linter.unusedVariables false
set_option linter.unusedSimpArgs false
set_option maxRecDepth 100000
set_option linter.constructorNameAsVariable false

/- Comparing dots; spoiling; DotExact. No condition. -/
namespace Go.Proofs.Ytcmonjmoapjpkaa.D
open Go Go.Proofs

def cmpI (x y : Int) : Int := if x < y then -1 else if y < x then 1 else 0
theorem isNaN_ok (x : Int) : FnB Try.prog 96 [vi x] (vb false) := by
  refine fnB_intro cf96 (by simp) ?_
  simp (config := {contextual := true, maxSteps := 1000000}) only [go_sem, ints, intRows, iv_c, Nat.reduceAdd, Nat.reduceBEq, Nat.reduceEqDiff, Nat.reduceLeDiff, Nat.reduceLT, reduceIte, Nat.le_refl, true_or, or_true, and_self, Int.reduceLE, Int.reduceLT, Int.reduceEq, Int.reduceNeg, Int.natCast_nonneg, Int.reduceToNat, c96]
theorem cmpI_ok (x y : Int) : FnB Try.prog 79 [vi x, vi y] (vi (cmpI x y)) := by
  refine fnB_intro cf79 (by simp) ?_
  simp (config := {contextual := true, maxSteps := 1000000}) only [go_sem, ints, intRows, iv_c, Nat.reduceAdd, Nat.reduceBEq, Nat.reduceEqDiff, Nat.reduceLeDiff, Nat.reduceLT, reduceIte, Nat.le_refl, true_or, or_true, and_self, Int.reduceLE, Int.reduceLT, Int.reduceEq, Int.reduceNeg, Int.natCast_nonneg, Int.reduceToNat, c79]
  first | refine caS_i (isNaN_ok x) trivial ?_ | refine caD_i (isNaN_ok x) trivial ?_ | refine gC_i (fun _ => isNaN_ok x) trivial ?_ | refine gCD_i (fun _ => isNaN_ok x) trivial ?_ | refine caE_i (isNaN_ok x) trivial ?_
  simp (config := {contextual := true, maxSteps := 1000000}) only [go_sem, ints, intRows, iv_c, Nat.reduceAdd, Nat.reduceBEq, Nat.reduceEqDiff, Nat.reduceLeDiff, Nat.reduceLT, reduceIte, Nat.le_refl, true_or, or_true, and_self, Int.reduceLE, Int.reduceLT, Int.reduceEq, Int.reduceNeg, Int.natCast_nonneg, Int.reduceToNat]
  first | refine caS_i (isNaN_ok y) trivial ?_ | refine caD_i (isNaN_ok y) trivial ?_ | refine gC_i (fun _ => isNaN_ok y) trivial ?_ | refine gCD_i (fun _ => isNaN_ok y) trivial ?_ | refine caE_i (isNaN_ok y) trivial ?_
  simp (config := {contextual := true, maxSteps := 1000000}) only [go_sem, ints, intRows, iv_c, Nat.reduceAdd, Nat.reduceBEq, Nat.reduceEqDiff, Nat.reduceLeDiff, Nat.reduceLT, reduceIte, Nat.le_refl, true_or, or_true, and_self, Int.reduceLE, Int.reduceLT, Int.reduceEq, Int.reduceNeg, Int.natCast_nonneg, Int.reduceToNat]
  refine ⟨fun h => ?_, fun h => ⟨fun h2 => ?_, fun h2 => ?_⟩⟩ <;> simp at *
  · rw [cmpI, if_pos h]
  · rw [cmpI, if_neg (by omega), if_pos h2]
  · rw [cmpI, if_neg (by omega), if_neg (by omega)]
def orV : List Int → Int
  | [] => 0
  | x :: l => if x ≠ 0 then x else orV l
theorem cmpOr_ok {fl : Fl} (l : List Int) (hl : l.length ≤ maxLen) : FnB Try.prog 78 [ints fl l] (vi (orV l)) := by
  unfold maxLen at hl
  refine fnB_intro cf78 (by simp) ?_
  simp (config := {contextual := true, maxSteps := 1000000}) only [go_sem, ints, intRows, iv_c, Nat.reduceAdd, Nat.reduceBEq, Nat.reduceEqDiff, Nat.reduceLeDiff, Nat.reduceLT, reduceIte, Nat.le_refl, true_or, or_true, and_self, Int.reduceLE, Int.reduceLT, Int.reduceEq, Int.reduceNeg, Int.natCast_nonneg, Int.reduceToNat, c78]
  refine wpC_lp (fun env ob n' => env 3 = vi 0 ∧ env 6 = ints fl l ∧ env 7 = vi l.length ∧ ∃ i : Nat, env 8 = vi i ∧ i ≤ l.length ∧ orV l = orV (l.drop i)) (fun env ob _ => (l.length - iv (env 8)).toNat) ?_ ?_
  · simp (config := {contextual := true, maxSteps := 1000000}) only [go_sem, ints, intRows, iv_c, Nat.reduceAdd, Nat.reduceBEq, Nat.reduceEqDiff, Nat.reduceLeDiff, Nat.reduceLT, reduceIte, Nat.le_refl, true_or, or_true, and_self, Int.reduceLE, Int.reduceLT, Int.reduceEq, Int.reduceNeg, Int.natCast_nonneg, Int.reduceToNat]
    exact ⟨0, rfl, by omega, by simp⟩
  rintro env ob n' ⟨h3, h6, h7, i, h8, hi, he⟩
  simp (config := {contextual := true, maxSteps := 1000000}) only [go_sem, ints, intRows, iv_c, Nat.reduceAdd, Nat.reduceBEq, Nat.reduceEqDiff, Nat.reduceLeDiff, Nat.reduceLT, reduceIte, Nat.le_refl, true_or, or_true, and_self, Int.reduceLE, Int.reduceLT, Int.reduceEq, Int.reduceNeg, Int.natCast_nonneg, Int.reduceToNat, h3, h6, h7, h8]
  refine ⟨fun hlt => ?_, fun hge => ?_⟩
  · simp at hlt
    rw [drop_gN hlt, orV] at he
    refine ⟨by omega, fun hb => ?_, fun hg => ⟨⟨i + 1, ?_, by omega, ?_⟩, ?_⟩⟩
    · simp at hb; rw [if_pos hb] at he; rw [he]
    · rw [w64 (by omega)]; simp
    · simp at hg; rw [if_neg (by simpa using hg)] at he; exact he
    · rw [w64 (by omega)]; omega
  · simp at hge
    rw [List.drop_eq_nil_of_le (by omega), orV] at he
    rw [he]
def cmpD (a b : Dt) : Int := orV [cmpI a.p b.p, cmpI a.n b.n]
theorem cmpD_ok (a b : Dt) : FnB Try.prog 55 [.ag (dotV a), .ag (dotV b)] (vi (cmpD a b)) := by
  refine fnB_intro cf55 (by simp) ?_
  simp (config := {contextual := true, maxSteps := 1000000}) only [go_sem, ints, intRows, iv_c, Nat.reduceAdd, Nat.reduceBEq, Nat.reduceEqDiff, Nat.reduceLeDiff, Nat.reduceLT, reduceIte, Nat.le_refl, true_or, or_true, and_self, Int.reduceLE, Int.reduceLT, Int.reduceEq, Int.reduceNeg, Int.natCast_nonneg, Int.reduceToNat, c55, dotV]
  first | refine caS_i (cmpI_ok a.p b.p) trivial ?_ | refine caD_i (cmpI_ok a.p b.p) trivial ?_ | refine gC_i (fun _ => cmpI_ok a.p b.p) trivial ?_ | refine gCD_i (fun _ => cmpI_ok a.p b.p) trivial ?_ | refine caE_i (cmpI_ok a.p b.p) trivial ?_
  simp (config := {contextual := true, maxSteps := 1000000}) only [go_sem, ints, intRows, iv_c, Nat.reduceAdd, Nat.reduceBEq, Nat.reduceEqDiff, Nat.reduceLeDiff, Nat.reduceLT, reduceIte, Nat.le_refl, true_or, or_true, and_self, Int.reduceLE, Int.reduceLT, Int.reduceEq, Int.reduceNeg, Int.natCast_nonneg, Int.reduceToNat]
  first | refine caS_i (cmpI_ok a.n b.n) trivial ?_ | refine caD_i (cmpI_ok a.n b.n) trivial ?_ | refine gC_i (fun _ => cmpI_ok a.n b.n) trivial ?_ | refine gCD_i (fun _ => cmpI_ok a.n b.n) trivial ?_ | refine caE_i (cmpI_ok a.n b.n) trivial ?_
  simp (config := {contextual := true, maxSteps := 1000000}) only [go_sem, ints, intRows, iv_c, Nat.reduceAdd, Nat.reduceBEq, Nat.reduceEqDiff, Nat.reduceLeDiff, Nat.reduceLT, reduceIte, Nat.le_refl, true_or, or_true, and_self, Int.reduceLE, Int.reduceLT, Int.reduceEq, Int.reduceNeg, Int.natCast_nonneg, Int.reduceToNat]
  first | refine caS_i (cmpOr_ok [cmpI a.p b.p, cmpI a.n b.n] (by simp [maxLen])) trivial ?_ | refine caD_i (cmpOr_ok [cmpI a.p b.p, cmpI a.n b.n] (by simp [maxLen])) trivial ?_ | refine gC_i (fun _ => cmpOr_ok [cmpI a.p b.p, cmpI a.n b.n] (by simp [maxLen])) trivial ?_ | refine gCD_i (fun _ => cmpOr_ok [cmpI a.p b.p, cmpI a.n b.n] (by simp [maxLen])) trivial ?_ | refine caE_i (cmpOr_ok [cmpI a.p b.p, cmpI a.n b.n] (by simp [maxLen])) trivial ?_
  simp (config := {contextual := true, maxSteps := 1000000}) only [go_sem, ints, intRows, iv_c, Nat.reduceAdd, Nat.reduceBEq, Nat.reduceEqDiff, Nat.reduceLeDiff, Nat.reduceLT, reduceIte, Nat.le_refl, true_or, or_true, and_self, Int.reduceLE, Int.reduceLT, Int.reduceEq, Int.reduceNeg, Int.natCast_nonneg, Int.reduceToNat, cmpD]
def lessD (a b : Dt) : Bool := decide (a.p < b.p ∨ a.p = b.p ∧ a.n < b.n)
theorem cmpD_less (a b : Dt) : decide (cmpD a b < 0) = lessD a b := by
  unfold cmpD lessD orV orV orV cmpI
  rw [decide_eq_decide]
  repeat' split
  all_goals first | omega | simp_all | skip
theorem Less_ok (a b : Dt) : FnB Try.prog 88 [.ag (dotV a), .ag (dotV b)] (vb (lessD a b)) := by
  refine fnB_intro cf88 (by simp) ?_
  simp (config := {contextual := true, maxSteps := 1000000}) only [go_sem, ints, intRows, iv_c, Nat.reduceAdd, Nat.reduceBEq, Nat.reduceEqDiff, Nat.reduceLeDiff, Nat.reduceLT, reduceIte, Nat.le_refl, true_or, or_true, and_self, Int.reduceLE, Int.reduceLT, Int.reduceEq, Int.reduceNeg, Int.natCast_nonneg, Int.reduceToNat, c88, dotV]
  first | refine caS_i (cmpD_ok a b) trivial ?_ | refine caD_i (cmpD_ok a b) trivial ?_ | refine gC_i (fun _ => cmpD_ok a b) trivial ?_ | refine gCD_i (fun _ => cmpD_ok a b) trivial ?_ | refine caE_i (cmpD_ok a b) trivial ?_
  simp (config := {contextual := true, maxSteps := 1000000}) only [go_sem, ints, intRows, iv_c, Nat.reduceAdd, Nat.reduceBEq, Nat.reduceEqDiff, Nat.reduceLeDiff, Nat.reduceLT, reduceIte, Nat.le_refl, true_or, or_true, and_self, Int.reduceLE, Int.reduceLT, Int.reduceEq, Int.reduceNeg, Int.natCast_nonneg, Int.reduceToNat, cmpD_less]
theorem leastF_len : ∀ (l : List (List Int)) (out : List Int), vecE out = 0 → (leastF out l).1.length ≤ 5
  | [], out, h => by have := vecE_range _ h; simpa [leastF] using this.2.1
  | v :: l, out, h => by
    rw [leastF]
    split
    · simp
    · rename_i h1
      have h1 : (eachV min out v).2 = 0 := by simpa using h1
      have h2 := (@eachV_len min out v).1 h1
      refine leastF_len l _ ?_
      have h3 : vecE v = 0 ∧ out.length = v.length := by
        unfold eachV at h1
        split at h1
        · exact absurd h ‹_›
        · split at h1
          · exact absurd h1 ‹_›
          · rename_i h4; split at h1
            · cases h1
            · rename_i h5; exact ⟨by simpa using h4, by omega⟩
      rw [eachV_yes h h3.1 h3.2]
      exact vecE_zip min_or h h3.1 h3.2
theorem least_len (l : List (List Int)) : (leastV l).1.length ≤ 5 := by
  unfold leastV
  split
  · simp
  · split
    · simp
    · rename_i h1 h2
      refine leastF_len l _ ?_
      cases l with
      | nil => exact absurd rfl h1
      | cons v l =>
        have h2 : firstE (v :: l) = 0 := by simpa using h2
        simp only [firstE] at h2
        simp only [gN, List.getElem?_cons_zero, Option.getD_some]
        split at h2
        · exact h2
        · rename_i h3; simpa using h3
theorem gi {n : Int} (h : gInt .i64 n) : inI n := by simp [gInt, Lit.wf, IntKind.min, IntKind.max, IntKind.signed, IntKind.bits] at h; unfold inI; omega

end Go.Proofs.Ytcmonjmoapjpkaa.D
end
