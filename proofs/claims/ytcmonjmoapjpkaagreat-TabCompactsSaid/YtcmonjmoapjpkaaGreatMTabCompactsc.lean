/- TabCompacts, packed. No condition beyond the statement's own. -/
import Derived.Test.YtcmonjmoapjpkaaGreatMTabCompactsb
import Derived.ProofKit
import Derived.ChangeArms
import Derived.ChangeSlices
import Derived.Test.YtcmonjmoapjpkaaGreatProg
section
set_option linter.unusedVariables false
set_option linter.unusedSimpArgs false
set_option linter.constructorNameAsVariable false
/- An argument of any kind that reads as data has a plain value behind it. No condition. -/
namespace Go.Proofs.YtcmonjmoapjpkaaGreat.D
open Go Go.RowKit

def gInt (k : IntKind) (x : Int) : Prop := (Lit.int k x).wf = true
def gStr (s : ByteArray) : Prop := s.size ≤ Go.maxLen
def gList {α : Type} (p : α → Prop) (l : List α) : Prop := l.length ≤ Go.maxLen ∧ ∀ x ∈ l, p x

/-- All may be handed back. -/
@[reducible] def bkA : Bk := ⟨fun _ => True⟩
abbrev okA (W : World) := @okf bkA (fun _ => none) W.heap.size W.heap.size
abbrev RVa (W : World) := RVs W (okA W) (fun _ => none)

/-- Whatever reads as data of type t is a plain value of this kind. -/
def Opn {H : Type} (enc : TypeId × Value → H) (P : Program) (t : TypeId) {α : Type} (m : α → List V) (good : α → Prop) : Prop :=
  ∀ {W : World} {base : Nat} {sp : Nat → Bool} {held : Bool} {fuel : Nat} {cs : List Value} {x : DataW H × List MemPlace}, DataW.trod enc P W base sp held fuel t cs = some x → ∃ a, RVa W (m a) cs ∧ good a

theorem RVs_one {w : World} {ok : Fl → Nat → Prop} {loc : Loc} {v : V} {x : Value} (h : RV w ok loc v x) : RVs w ok loc [v] [x] :=
  ⟨rfl, fun i v' x' hv hx => by
    cases i with
    | zero => simp at hv hx; subst hv hx; exact h
    | succ i => simp at hv⟩
theorem RVs_nil {w : World} {ok : Fl → Nat → Prop} {loc : Loc} : RVs w ok loc [] [] := ⟨rfl, fun i v x hv => by simp at hv⟩
theorem RVs_app {w : World} {ok : Fl → Nat → Prop} {loc : Loc} {l m : List V} {xs ys : List Value} (h : RVs w ok loc l xs) (k : RVs w ok loc m ys) : RVs w ok loc (l ++ m) (xs ++ ys) := by
  refine ⟨by simp [h.1, k.1], fun i v x hv hx => ?_⟩
  by_cases hi : i < l.length
  · rw [List.getElem?_append_left hi] at hv
    rw [List.getElem?_append_left (by rw [h.1]; exact hi)] at hx
    exact h.2 i v x hv hx
  · rw [List.getElem?_append_right (by omega)] at hv
    rw [List.getElem?_append_right (by rw [h.1]; omega), h.1] at hx
    exact k.2 _ v x hv hx
theorem RVs_cons {w : World} {ok : Fl → Nat → Prop} {loc : Loc} {v : V} {x : Value} {m : List V} {ys : List Value} (h : RV w ok loc v x) (k : RVs w ok loc m ys) : RVs w ok loc (v :: m) (x :: ys) := RVs_app (RVs_one h) k
theorem RVs_head {w : World} {ok : Fl → Nat → Prop} {loc : Loc} {v : V} {x : Value} (h : RVs w ok loc [v] [x]) : RV w ok loc v x := h.2 0 v x rfl rfl
theorem RVs_ag {w : World} {ok : Fl → Nat → Prop} {loc : Loc} {l : List V} {xs : Array Value} (h : RVs w ok loc l xs.toList) : RV w ok loc (.ag l) (.agg xs) := by
  have := RV.ag (w := w) (ok := ok) (loc := loc) l xs.toList h.1 h.2
  simpa using this

section
variable {H : Type} {enc : TypeId × Value → H} {P : Program} {t e : TypeId}

theorem opn_int {k : IntKind} (hu : P.underlying t = some (.int k)) : Opn enc P t (fun n => [.c (.int k n)]) (gInt k) := by
  intro W base sp held fuel cs x h
  obtain ⟨n, rfl, _, hw⟩ := DataW.trod_int hu h
  exact ⟨n, RVs_one (.c _), hw⟩
theorem opn_string (hu : P.underlying t = some .string) : Opn enc P t (fun n => [.c (.string n)]) gStr := by
  intro W base sp held fuel cs x h
  obtain ⟨n, rfl, _, hw⟩ := DataW.trod_string hu h
  exact ⟨n, RVs_one (.c _), hw⟩

theorem list_of {α : Type} {n : Nat} {p : Nat → α → Prop} (h : ∀ i, i < n → ∃ a, p i a) : ∃ l : List α, l.length = n ∧ ∀ i a, l[i]? = some a → p i a := by
  induction n with
  | zero => exact ⟨[], rfl, fun i a h => by simp at h⟩
  | succ n ih =>
    obtain ⟨l, hl, hp⟩ := ih (fun i hi => h i (by omega))
    obtain ⟨a, ha⟩ := h n (by omega)
    refine ⟨l ++ [a], by simp [hl], fun i b hb => ?_⟩
    by_cases hi : i < n
    · rw [List.getElem?_append_left (by omega)] at hb
      exact hp i b hb
    · have hi2 : i < (l ++ [a]).length := (List.getElem?_eq_some_iff.1 hb).1
      have hi3 : i = n := by simp at hi2; omega
      subst hi3
      rw [List.getElem?_append_right (by omega)] at hb
      simp [hl] at hb
      subst hb
      exact ha
theorem mapM_get {α β : Type} {f : α → Option β} : ∀ {l : List α} {r : List β}, l.mapM f = some r → ∀ (i : Nat) (a : α), l[i]? = some a → f a = r[i]?
  | [], r, h, i, a, ha => by simp at ha
  | x :: l, r, h, i, a, ha => by
    simp only [List.mapM_cons, Option.bind_eq_bind, Option.bind_eq_some_iff, Option.pure_def, Option.some.injEq] at h
    obtain ⟨y, h1, ys, h2, rfl⟩ := h
    cases i with
    | zero => simp at ha; subst ha; simpa using h1
    | succ i => simpa using mapM_get h2 i a (by simpa using ha)
theorem cell_lt {w : World} {a : Addr} {v : Value} (h : w.cell? a = some v) : a.block < w.heap.size ∧ a.spot = none := by
  unfold World.cell? at h
  split at h
  · rename_i c _ _ he
    refine ⟨(Array.getElem?_eq_some_iff.1 he).1, ?_⟩
    cases hs : a.spot with
    | none => rfl
    | some x => rw [hs] at h; simp at h
  · cases h

theorem add_of {a : Addr} (hs : a.spot = none) (n : Nat) : a.add n = ⟨a.block, a.off + n, none⟩ := by
  obtain ⟨b, o, s⟩ := a
  simp at hs; subst hs
  unfold Addr.add
  split
  · rename_i h; subst h; rfl
  · rfl

theorem opn_slice {α : Type} {m : α → List V} {g : α → Prop} {sz : Nat} (hu : P.underlying t = some (.slice e)) (he : Opn enc P e m g) (hs : P.cellsOf e = sz) (h0 : 0 < sz) (hm : ∀ a, (m a).length = sz) :
    Opn enc P t (fun l => [.im .b (l.map m)]) (gList g) := by
  intro W base sp held fuel cs x h
  rcases DataW.trod_slice hu h with ⟨rfl, _⟩ | ⟨a, len, cap, elems, rest, fl, _, rfl, _, _, hl, hc, hel, hi, _, _⟩
  · exact ⟨[], RVs_one (.e _ _ _ (fun h => by cases h)), by simp, by simp⟩
  · have key : ∀ i, i < len → ∃ b : α, (∃ c, RVa W (m b) c ∧ ∀ j u, c[j]? = some u → W.cell? ((a.add (i * sz)).add j) = some u) ∧ g b := by
      intro i hlt
      have h1 := hi i hlt
      rw [List.getElem?_eq_getElem (by omega)] at h1
      obtain ⟨c, hc, htr⟩ := Option.bind_eq_some_iff.1 h1
      obtain ⟨b, hb, hg⟩ := he htr
      rw [hs] at hc
      unfold World.cells? at hc
      split at hc
      · refine ⟨b, ⟨c, hb, fun j u hu => ?_⟩, hg⟩
        have hj : j < sz := by have := (List.getElem?_eq_some_iff.1 hu).1; rw [hb.1, hm] at this; exact this
        have h2 := mapM_get hc j j (by simp [hj])
        rw [hu] at h2
        exact h2
      · cases hc
    obtain ⟨l, hll, hp⟩ := list_of key
    refine ⟨l, RVs_one ?_, by rw [hll]; omega, fun b hb => ?_⟩
    · cases l with
      | nil => simp at hll; subst hll; exact .e _ _ _ (fun h => by cases h)
      | cons b0 l0 =>
        have hl0 : 0 < len := by rw [← hll]; simp
        obtain ⟨⟨c0, hb0, hc0⟩, _⟩ := hp 0 b0 rfl
        have hlen0 : c0.length = sz := by rw [hb0.1, hm]
        have hx := hc0 0 _ (List.getElem?_eq_getElem (by omega))
        simp only [Nat.zero_mul] at hx
        have ha0 : (a.add 0).add 0 = a := rfl
        rw [ha0] at hx
        obtain ⟨hblk, hspot⟩ := cell_lt hx
        have hadd : ∀ i j, (a.add (i * sz)).add j = ⟨a.block, a.off + i * sz + j, none⟩ := fun i j => by
          rw [add_of hspot, add_of rfl]
        have hcell : ∀ i j v, el ((b0 :: l0).map m) i j = some v → ∃ u, W.cell? ⟨a.block, a.off + i * sz + j, none⟩ = some u ∧ RV W (okA W) (fun _ => none) v u := by
          intro i j v hv
          unfold el at hv
          rw [List.getElem?_map] at hv
          cases hb : (b0 :: l0)[i]? with
          | none => rw [hb] at hv; simp at hv
          | some b =>
            rw [hb] at hv
            simp at hv
            obtain ⟨⟨c, hr, hcc⟩, _⟩ := hp i b hb
            have hj : j < c.length := by rw [hr.1]; exact (List.getElem?_eq_some_iff.1 hv).1
            refine ⟨c[j], by rw [← hadd]; exact hcc j _ (List.getElem?_eq_getElem hj), hr.2 j v _ hv (List.getElem?_eq_getElem hj)⟩
        have hae : a = ⟨a.block, a.off, none⟩ := by obtain ⟨_, _, s⟩ := a; simp at hspot; subst hspot; rfl
        rw [hae]
        refine RV.im _ _ sz _ _ _ _ (fun i j => (W.cell? ⟨a.block, a.off + i * sz + j, none⟩).getD (.bool false)) (by rw [← hll]; simp) ?_ hl ⟨rfl, hblk, .inr (.inl ⟨rfl, trivial⟩)⟩ ?_ ?_
        · intro ch hch
          obtain ⟨b, _, rfl⟩ := List.mem_map.1 hch
          exact hm b
        · intro i j v hv
          obtain ⟨u, hu, _⟩ := hcell i j v hv
          simp only [hu, Option.getD_some]
        · intro i j v hv
          obtain ⟨u, hu, hr⟩ := hcell i j v hv
          simp only [hu, Option.getD_some]
          exact hr
    · obtain ⟨i, hi, rfl⟩ := List.getElem_of_mem hb
      exact (hp i _ (List.getElem?_eq_getElem hi)).2

/-- One field of a struct. -/
theorem opn_field {α : Type} {m : α → List V} {g : α → Prop} {fs : Array Field} {n sz : Nat} {W : World} {base : Nat} {sp : Nat → Bool} {held : Bool} {cs : List Value} {xs : List (DataW H × List MemPlace)} (hx : xs.length = fs.size)
    (hf : ∀ (i : Nat) (f : Field), fs[i]? = some f → DataW.trod enc P W base sp held n f.type ((cs.drop f.offset).take (P.cellsOf f.type)) = xs[i]?)
    (i : Nat) (f : Field) (hi : fs[i]? = some f) (ho : Opn enc P f.type m g) (hs : P.cellsOf f.type = sz) : ∃ a, RVa W (m a) ((cs.drop f.offset).take sz) ∧ g a := by
  have h := hf i f hi
  have hlt : i < xs.length := by
    rw [hx]
    rcases Nat.lt_or_ge i fs.size with h | h
    · exact h
    · rw [Array.getElem?_eq_none h] at hi
      cases hi
  rw [List.getElem?_eq_getElem hlt, hs] at h
  exact ho h
/-- Fields side by side. -/
theorem rv_fields {W : World} {l m : List V} {cs : List Value} {o n : Nat} (h : RVa W l ((cs.drop o).take n)) (k : RVa W m (cs.drop (o + n))) : RVa W (l ++ m) (cs.drop o) := by
  have := RVs_app h k
  rw [← List.drop_drop, List.take_append_drop] at this
  exact this
theorem rv_last {W : World} {l : List V} {cs : List Value} {o n : Nat} (h : RVa W l ((cs.drop o).take n)) (hl : cs.length = o + n) : RVa W l (cs.drop o) := by
  rw [List.take_of_length_le (by simp [hl])] at h
  exact h

/-- An argument that is one cell; one that is a struct. -/
theorem arg_one {α : Type} {m : α → V} {g : α → Prop} (ho : Opn enc P t (fun a => [m a]) g) {W : World} {sp : Nat → Bool} {held : Bool} {v : Value} {d : DataW H} {p : List MemPlace} {base : Nat} (hv : v.cells = #[v])
    (h : DataW.Trod enc P W base sp held t v d p) : ∃ a, RV W (okA W) (fun _ => none) (m a) v ∧ g a := by
  obtain ⟨fuel, hf⟩ := h
  rw [hv] at hf
  obtain ⟨a, h1, h2⟩ := ho hf
  exact ⟨a, RVs_head h1, h2⟩
theorem arg_ag {α : Type} {m : α → List V} {g : α → Prop} (ho : Opn enc P t m g) {W : World} {sp : Nat → Bool} {held : Bool} {cs : Array Value} {d : DataW H} {p : List MemPlace} {base : Nat}
    (h : DataW.Trod enc P W base sp held t (.agg cs) d p) : ∃ a, RV W (okA W) (fun _ => none) (.ag (m a)) (.agg cs) ∧ g a := by
  obtain ⟨fuel, hf⟩ := h
  have : (Value.agg cs).cells = cs := by simp [Value.cells]
  rw [this] at hf
  obtain ⟨a, h1, h2⟩ := ho hf
  exact ⟨a, RVs_ag h1, h2⟩
end
/-- A law that answers true. -/
theorem res_true {B : Nat → Prop} {w : World} {n : Nat} {x : Value} (h : ResV B w n (vb true) x) : x = .bool true := by
  obtain ⟨_, _, h, _⟩ := h
  obtain ⟨_, h⟩ := h 0 (vb true) x rfl rfl
  cases h; rfl
end Go.Proofs.YtcmonjmoapjpkaaGreat.D
end
section
set_option linter.unusedVariables false
set_option linter.unusedSimpArgs false
set_option linter.constructorNameAsVariable false
/- Walking over plain values: joins, and functions that share the store. No condition. -/
namespace Go.Proofs.YtcmonjmoapjpkaaGreat.D
open Go Go.RowKit

section
variable {P : Program}
theorem gd_mono {g : Option (Nat × Bool)} {env : Env} {A B A' B' : Prop} (hA : A → A') (hB : B → B') (h : gd g env A B) : gd g env A' B' := by
  unfold gd at *
  split
  · exact hA h
  · obtain ⟨b, h1, h2, h3⟩ := h
    exact ⟨b, h1, fun e => hA (h2 e), fun e => hB (h3 e)⟩
theorem FnS_mono {f : FuncId} {args : List V} {ob : OB} {nid : Nat} {C C' : V → OB → Nat → Prop} (hC : ∀ r ob' n, C r ob' n → C' r ob' n) (h : FnS P f args ob nid C) : FnS P f args ob nid C' :=
  ⟨h.1, fun B n0 w own loc xs h1 h2 h3 h4 => (h.2 B n0 w own loc xs h1 h2 h3 h4).mono fun e w' ⟨x, r, ob', nid', own', loc', a1, a2, a3, a4, a5, a6⟩ => ⟨x, r, ob', nid', own', loc', a1, a2, a3, a4, a5, hC _ _ _ a6⟩⟩
theorem FnX_mono {f : FuncId} {args : List V} {ob : OB} {nid : Nat} {C C' : V → OB → Nat → Prop} (hC : ∀ r ob' n, C r ob' n → C' r ob' n) (h : FnX P f args ob nid C) : FnX P f args ob nid C' :=
  fun B n0 w own loc xs h1 h2 h3 h4 => let ⟨x, w', r, ob', nid', own', loc', a1, a2, a3, a4, a5, a6⟩ := h B n0 w own loc xs h1 h2 h3 h4; ⟨x, w', r, ob', nid', own', loc', a1, a2, a3, a4, a5, hC _ _ _ a6⟩
theorem stpR_mono {op : Ok} {vs : List V} {ob : OB} {nid : Nat} {C C' : V → OB → Nat → Prop} (hC : ∀ r ob' n, C r ob' n → C' r ob' n) (h : stpR P op vs ob nid C) : stpR P op vs ob nid C' := by
  cases op <;> first
    | exact h.imp (FnS_mono hC) (FnX_mono hC)
    | (obtain ⟨r, us, h1, h2⟩ := h; exact ⟨r, us, h1, hC _ _ _ h2⟩)
theorem wpS_mono : ∀ {l : List RO} {nid : Nat} {env : Env} {ob : OB} {J J' : Env → OB → Nat → Prop} (hJ : ∀ env ob n, J env ob n → J' env ob n), wpS P l nid env ob J → wpS P l nid env ob J'
  | [], nid, env, ob, J, J', hJ, h => hJ _ _ _ h
  | o :: l, nid, env, ob, J, J', hJ, h => by
    simp only [wpS] at h ⊢
    exact gd_mono (stpR_mono fun r ob' n h => wpS_mono hJ h) (wpS_mono hJ) h
theorem wpD_mono : ∀ {l : List RO} {nid : Nat} {env : Env} {ob : OB} {dl : Ups} {K K' : Env → OB → Prop} (hK : ∀ env ob, K env ob → K' env ob), wpD P l nid env ob dl K → wpD P l nid env ob dl K'
  | [], nid, env, ob, dl, K, K', hK, h => hK _ _ h
  | o :: l, nid, env, ob, dl, K, K', hK, h => by
    simp only [wpD] at h ⊢
    exact gd_mono (fun ⟨r, us, h1, h2⟩ => ⟨r, us, h1, wpD_mono hK h2⟩) (wpD_mono hK) h
theorem wpE_mono : ∀ {l : List RO} {nps : List (List Nat)} {nid : Nat} {env : Env} {ob : OB} {past : List (List Nat × Option (List Nat))} {K K' : Env → OB → Prop} (hK : ∀ env ob, K env ob → K' env ob), wpE P l nps nid env ob past K → wpE P l nps nid env ob past K'
  | [], nps, nid, env, ob, past, K, K', hK, h => hK _ _ h
  | o :: l, nps, nid, env, ob, past, K, K', hK, h => by
    simp only [wpE] at h ⊢
    exact gd_mono (fun ⟨r, us, h1, h2, h3⟩ => ⟨r, us, h1, h2, wpE_mono hK h3⟩) (wpE_mono hK) h
theorem wpC_mono : ∀ {c : IC} {Q Q' : Post} (hQ : ∀ e env ob n, Q e env ob n → Q' e env ob n) {env : Env} {ob : OB} {n : Nat}, wpC P c Q env ob n → wpC P c Q' env ob n := by
  intro c
  induction c with
  | skip => intro Q Q' hQ env ob n h; exact hQ _ _ _ _ h
  | rg l d =>
    intro Q Q' hQ env ob n h
    cases d with
    | false => exact wpS_mono (fun env ob n h => hQ _ _ _ _ h) h
    | true => exact wpD_mono (fun env ob h => hQ _ _ _ _ h) h
  | rb a o b =>
    intro Q Q' hQ env ob n h
    exact wpD_mono (fun env ob h => wpS_mono (fun env ob n h => wpD_mono (fun env ob h => hQ _ _ _ _ h) h) h) h
  | re m np =>
    intro Q Q' hQ env ob n h
    exact wpE_mono (fun env ob h => hQ _ _ _ _ h) h
  | sq a b iha ihb =>
    intro Q Q' hQ env ob n h
    refine iha (fun e env ob n h => ?_) h
    cases e with
    | nrm => exact ihb hQ h
    | ex i => exact hQ _ _ _ _ h
    | rt => exact hQ _ _ _ _ h
  | cn c a b iha ihb =>
    intro Q Q' hQ env ob n h
    simp only [wpC, cnd] at h ⊢
    split
    · rename_i t heq; rw [heq] at h; exact ⟨fun e => iha hQ (h.1 e), fun e => ihb hQ (h.2 e)⟩
    · rename_i heq; rw [heq] at h; exact ⟨iha hQ h.1, ihb hQ h.2⟩
    · rename_i h1 h2
      split at h
      · rename_i t heq; exact h1 t heq
      · rename_i heq; exact h2 heq
      · exact h
  | bl i a ih =>
    intro Q Q' hQ env ob n h
    refine ih (fun e env ob n h => ?_) h
    cases e with
    | ex j => simp only [blQ] at h ⊢; split <;> rename_i hj <;> simp only [hj, if_true, if_false] at h <;> exact hQ _ _ _ _ h
    | nrm => exact hQ _ _ _ _ h
    | rt => exact hQ _ _ _ _ h
  | lp a ih =>
    intro Q Q' hQ env ob n h
    obtain ⟨I, μ, h0, h1⟩ := h
    refine ⟨I, μ, h0, fun env ob n hI => ih (fun e env ob n h => ?_) (h1 env ob n hI)⟩
    cases e with
    | nrm => exact h
    | ex j => exact hQ _ _ _ _ h
    | rt => exact hQ _ _ _ _ h
  | ex i => intro Q Q' hQ env ob n h; exact hQ _ _ _ _ h
  | rt => intro Q Q' hQ env ob n h; exact hQ _ _ _ _ h

theorem cut_C {A B : IC} {Q : Post} {env : Env} {ob : OB} {n : Nat} (I : Env → OB → Nat → Prop) (h1 : wpC P A (thenQ I Q) env ob n) (h2 : ∀ env ob n, I env ob n → wpC P B Q env ob n) : wpC P A (thenQ (wpC P B Q) Q) env ob n := by
  refine wpC_mono (fun e env ob n h => ?_) h1
  cases e with
  | nrm => exact h2 _ _ _ h
  | ex i => exact h
  | rt => exact h
theorem cut_S {A B : IC} {Q R : Post} {l : List RO} {env : Env} {ob : OB} {n : Nat} (I : Env → OB → Nat → Prop) (h1 : wpS P l n env ob (kS (thenQ (wpC P A (thenQ I Q)) R))) (h2 : ∀ env ob n, I env ob n → wpC P B Q env ob n) : wpS P l n env ob (kS (thenQ (wpC P (.sq A B) Q) R)) :=
  wpS_mono (fun env ob n h => cut_C I h h2) h1
/-- A join behind a call. -/
theorem cut_ca {A B : IC} {Q R : Post} {l : List RO} {f : Nat} {vs : List V} {m : Md} {d : Option Nat} {env : Env} {ob : OB} {n : Nat} (I : Env → OB → Nat → Prop) (h1 : caS P f vs m d l n env ob (kS (thenQ (wpC P A (thenQ I Q)) R))) (h2 : ∀ env ob n, I env ob n → wpC P B Q env ob n) : caS P f vs m d l n env ob (kS (thenQ (wpC P (.sq A B) Q) R)) := by
  obtain ⟨q, a1, a2, a3⟩ := h1
  exact ⟨q, a1, a2, cut_S I a3 h2⟩
theorem rcS_i {f : Nat} {vs : List V} {d : Option Nat} {l : List RO} {n : Nat} {env : Env} {ob : OB} {J : Env → OB → Nat → Prop} (h : FnS P f vs ob n fun r ob' n' => wpS P l n' (put env d r) ob' J) : rcS P f vs d l n env ob J := .inl h
theorem rcS_x {f : Nat} {vs : List V} {d : Option Nat} {l : List RO} {n : Nat} {env : Env} {ob : OB} {J : Env → OB → Nat → Prop} (h : FnX P f vs ob n fun r ob' n' => wpS P l n' (put env d r) ob' J) : rcS P f vs d l n env ob J := .inr h
end

section
variable {P : Program}
/-- What is behind the elements that are known: cells of whatever content. -/
theorem WF.grow [Bk] {n0 : Nat} {w : World} {own : Nat → Option Nat} {loc : Loc} {ob : OB} (hwf : WF n0 w own loc ob) {id : Nat} {o : Ob} (hob : ob id = some o) :
    ∃ c, o.l.length ≤ c ∧ (∀ c0, o.cap = some c0 → c0 = c) ∧ WF n0 w own loc (updO ob id (some ⟨o.k, o.l ++ List.replicate (c - o.l.length) (List.replicate o.k .u), some c⟩)) := by
  obtain ⟨p, hp, hor⟩ := hwf.has id o hob
  refine ⟨p.cap, hor.len, hor.cap, ⟨fun j x hx => ?_, hwf.owns, hwf.lt⟩⟩
  by_cases hj : j = id
  · subst hj
    rw [updO_s] at hx
    injection hx with hx; subst hx
    obtain ⟨cs, t, hm1, hm2⟩ := hor.mem
    refine ⟨p, hp, ⟨⟨cs, t, hm1, hm2⟩, hor.k, by simp; have := hor.len; omega, fun ch hch => ?_, fun i q v hv => ?_, fun c hc => by injection hc with hc; exact hc.symm⟩⟩
    · rcases List.mem_append.1 hch with h | h
      · exact hor.rows ch h
      · rw [List.eq_of_mem_replicate h]; simpa using hor.k
    · obtain ⟨r, h1, h2⟩ := el_some hv
      by_cases hi : i < o.l.length
      · rw [List.getElem?_append_left hi] at h1
        exact hor.cells i q v (el_mk h1 h2)
      · rw [List.getElem?_append_right (by omega)] at h1
        have hi2 : i - o.l.length < p.cap - o.l.length := by have := (List.getElem?_eq_some_iff.1 h1).1; simpa using this
        rw [List.getElem?_replicate, if_pos hi2] at h1
        injection h1 with h1; subst h1
        have hq : q < o.k := by have := (List.getElem?_eq_some_iff.1 h2).1; simpa using this
        rw [List.getElem?_replicate, if_pos hq] at h2
        injection h2 with h2; subst h2
        have hlt : p.base + i * p.k + q < cs.size := by
          have h3 : (i + 1) * p.k ≤ p.cap * p.k := Nat.mul_le_mul_right _ (by omega)
          rw [Nat.add_mul] at h3
          have := hor.k; omega
        exact ⟨cs[p.base + i * p.k + q], by simp [World.cell?, hm1, hlt], .u _⟩
  · rw [updO, if_neg hj] at hx
    exact hwf.has j x hx
theorem FnS_grow {f : FuncId} {args : List V} {ob : OB} {nid : Nat} {C : V → OB → Nat → Prop} {id : Nat} {o : Ob} (hob : ob id = some o)
    (h : ∀ c, o.l.length ≤ c → (∀ c0, o.cap = some c0 → c0 = c) → FnS P f args (updO ob id (some ⟨o.k, o.l ++ List.replicate (c - o.l.length) (List.replicate o.k .u), some c⟩)) nid C) (hcl : callable P f = true) : FnS P f args ob nid C := by
  refine ⟨hcl, fun B n0 w own loc xs h1 h2 h3 h4 => ?_⟩
  obtain ⟨c, hc1, hc2, hwf⟩ := h1.grow hob
  exact (h c hc1 hc2).2 B n0 w own loc xs hwf h2 h3 h4
/-- Less is known. -/
def Less (ob'' ob' : OB) : Prop := ∀ id o, ob'' id = some o → ∃ o', ob' id = some o' ∧ o.k = o'.k ∧ (∃ m, o.l = o'.l.take m) ∧ ∀ c, o.cap = some c → o'.cap = some c
theorem WF.less [Bk] {n0 : Nat} {w : World} {own : Nat → Option Nat} {loc : Loc} {ob' ob'' : OB} (hwf : WF n0 w own loc ob') (h : Less ob'' ob') : WF n0 w own loc ob'' := by
  refine ⟨fun id o ho => ?_, hwf.owns, hwf.lt⟩
  obtain ⟨o', h1, h2, ⟨m, h3⟩, h4⟩ := h id o ho
  obtain ⟨p, hp, hor⟩ := hwf.has id o' h1
  refine ⟨p, hp, ⟨hor.mem, by rw [h2]; exact hor.k, by rw [h3]; have := hor.len; simp; omega, fun ch hch => hor.rows ch (by rw [h3] at hch; exact List.mem_of_mem_take hch), fun i j v hv => hor.cells i j v ?_, fun c hc => hor.cap c (h4 c hc)⟩⟩
  rw [h3] at hv
  have := el_take_drop (l := o'.l) (a := 0) (n := m) (i := i) (j := j) (v := v) (by simpa using hv)
  simpa using this
theorem FnS_less {f : FuncId} {args : List V} {ob : OB} {nid : Nat} {C : V → OB → Nat → Prop} (h : FnS P f args ob nid fun r ob' n => ∃ ob'', Less ob'' ob' ∧ C r ob'' n) : FnS P f args ob nid C :=
  ⟨h.1, fun B n0 w own loc xs h1 h2 h3 h4 => (h.2 B n0 w own loc xs h1 h2 h3 h4).mono fun e w' ⟨x, r, ob', nid', own', loc', a1, a2, a3, a4, a5, ob'', a6, a7⟩ => ⟨x, r, ob'', nid', own', loc', a1, a2, a3.less a6, a4, a5, a7⟩⟩
end

end Go.Proofs.YtcmonjmoapjpkaaGreat.D
end
section
set_option linter.unusedVariables false
set_option maxRecDepth 100000
set_option linter.constructorNameAsVariable false
/- The functions, told over by a program of this session; Lean checks that they are the program's own. No condition. -/
namespace Go.Proofs.YtcmonjmoapjpkaaGreat.D
open Go Go.Proofs
-- raddle/raddlelaw13.TabSeen
def c3 : IC := .sq (.rg [⟨(some 3), none, (.box (some 1)), [.t 0]⟩, ⟨(some 5), none, (.box (some 12)), [.t 2]⟩, ⟨(some 6), none, .mv, [.k (.c (.bool false))]⟩] false) (.sq (.sq (.rg [⟨(some 21), none, (.ld (some 1)), [.t 3]⟩, ⟨(some 22), none, (.call 7 .fz), [.t 21]⟩, ⟨(some 23), none, .mv, [.t 22]⟩, ⟨(some 24), (some (23, false)), .mv, [.t 1]⟩, ⟨(some 25), (some (23, false)), (.call 8 .fz), [.t 24]⟩, ⟨(some 26), none, .pick, [.t 23, .k (.c (.bool true)), .t 25]⟩, ⟨(some 27), none, .mv, [.t 26]⟩, ⟨(some 28), (some (27, false)), (.ld (some 12)), [.t 5]⟩, ⟨(some 29), (some (27, false)), (.bsl 12 [(.c (.int .i64 0)), (.c (.int .i64 0)), .z, (.c (.int .i64 0)), (.c (.int .i64 0)), (.c (.int .i64 0)), (.c (.int .i64 0)), (.c (.int .i64 0)), (.c (.string ⟨#[]⟩)), (.c (.int .i64 0)), .z, .z] [0] 1 true), [.t 28]⟩, ⟨(some 30), (some (27, false)), (.call 8 .fz), [.t 29]⟩, ⟨(some 31), none, .pick, [.t 27, .k (.c (.bool true)), .t 30]⟩] false) (.cn (.t 31) (.sq (.rg [⟨(some 6), none, .mv, [.k (.c (.bool true))]⟩] false) (.rt)) (.skip))) (.sq (.rg [⟨(some 33), none, (.ld (some 1)), [.t 3]⟩, ⟨(some 34), none, .mv, [.t 1]⟩, ⟨(some 35), none, (.call 9 .fz), [.t 33, .t 34]⟩, ⟨(some 32), none, .mv, [.t 35]⟩, ⟨(some 36), none, (.ext 0), [.t 32]⟩, ⟨(some 37), none, (.ext 1), [.t 32]⟩, ⟨(some 7), none, .mv, [.t 36]⟩, ⟨(some 8), none, .mv, [.t 37]⟩] false) (.sq (.sq (.rg [⟨(some 38), none, (.ld (some 1)), [.t 3]⟩, ⟨(some 39), none, (.bsl 1 [.z] [0] 1 true), [.t 38]⟩, ⟨(some 40), none, (.call 10 .fz), [.t 39]⟩, ⟨(some 41), none, (.bin .neq), [.t 40, .k (.c (.int .i64 0))]⟩] false) (.cn (.t 41) (.sq (.rg [⟨(some 42), none, (.call 11 .fz), []⟩, ⟨(some 6), none, .mv, [.t 42]⟩] false) (.rt)) (.skip))) (.sq (.sq (.rg [⟨(some 43), none, .mv, [.t 8]⟩, ⟨(some 44), none, (.un .not), [.t 43]⟩, ⟨(some 45), none, .mv, [.t 44]⟩, ⟨(some 46), (some (45, false)), (.ld (some 1)), [.t 3]⟩, ⟨(some 47), (some (45, false)), .mv, [.t 7]⟩, ⟨(some 48), (some (45, false)), (.call 12 .fz), [.t 46, .t 47]⟩, ⟨(some 49), (some (45, false)), (.bin .neq), [.t 48, .k (.c (.int .i64 0))]⟩, ⟨(some 50), none, .pick, [.t 45, .k (.c (.bool true)), .t 49]⟩] false) (.cn (.t 50) (.sq (.rg [⟨(some 6), none, .mv, [.k (.c (.bool false))]⟩] false) (.rt)) (.skip))) (.sq (.rg [⟨(some 51), none, (.ld (some 1)), [.t 3]⟩, ⟨(some 52), none, .mv, [.t 7]⟩, ⟨(some 53), none, (.call 13 .fz), [.t 51, .t 52]⟩, ⟨(some 9), none, .mv, [.t 53]⟩] false) (.sq (.rg [⟨(some 55), none, (.ld (some 1)), [.t 3]⟩, ⟨(some 56), none, .mv, [.t 7]⟩, ⟨(some 57), none, (.ld (some 12)), [.t 5]⟩, ⟨(some 58), none, (.call 14 .fz), [.t 55, .t 56, .t 57]⟩, ⟨(some 54), none, .mv, [.t 58]⟩, ⟨(some 59), none, (.ext 0), [.t 54]⟩, ⟨(some 60), none, (.ext 1), [.t 54]⟩, ⟨(some 61), none, (.ext 2), [.t 54]⟩, ⟨(some 62), none, (.ext 3), [.t 54]⟩, ⟨(some 10), none, .mv, [.t 59]⟩, ⟨(some 11), none, .mv, [.t 60]⟩, ⟨(some 12), none, .mv, [.t 61]⟩, ⟨(some 13), none, .mv, [.t 62]⟩] false) (.sq (.sq (.rg [⟨(some 63), none, .mv, [.t 13]⟩, ⟨(some 64), none, (.bin .neq), [.t 63, .k (.c (.int .i64 0))]⟩] false) (.cn (.t 64) (.sq (.rg [⟨(some 65), none, .mv, [.t 13]⟩, ⟨(some 66), none, (.bin .eql), [.t 65, .k (.c (.int .i64 1))]⟩, ⟨(some 67), none, .mv, [.t 66]⟩, ⟨(some 68), (some (67, true)), .mv, [.t 10]⟩, ⟨(some 69), (some (67, true)), .len, [.t 68]⟩, ⟨(some 70), (some (67, true)), .mv, [.t 11]⟩, ⟨(some 71), (some (67, true)), .len, [.t 70]⟩, ⟨(some 72), (some (67, true)), (.bin .add), [.t 69, .t 71]⟩, ⟨(some 73), (some (67, true)), .mv, [.t 12]⟩, ⟨(some 74), (some (67, true)), .len, [.t 73]⟩, ⟨(some 75), (some (67, true)), (.bin .add), [.t 72, .t 74]⟩, ⟨(some 76), (some (67, true)), (.bin .eql), [.t 75, .k (.c (.int .i64 0))]⟩, ⟨(some 77), none, .pick, [.t 67, .t 76, .k (.c (.bool false))]⟩, ⟨(some 78), none, .mv, [.t 77]⟩, ⟨(some 79), (some (78, true)), (.call 11 .fz), []⟩, ⟨(some 80), none, .pick, [.t 78, .t 79, .k (.c (.bool false))]⟩, ⟨(some 6), none, .mv, [.t 80]⟩] false) (.rt)) (.skip))) (.sq (.rg [⟨(some 81), none, (.ld (some 1)), [.t 3]⟩, ⟨(some 82), none, .mv, [.t 10]⟩, ⟨(some 83), none, (.call 13 .fz), [.t 81, .t 82]⟩, ⟨(some 14), none, .mv, [.t 83]⟩] false) (.sq (.rg [⟨(some 15), none, .mv, [.k .z]⟩] false) (.sq (.rg [⟨(some 84), none, .mv, [.t 11]⟩, ⟨(some 85), none, .len, [.t 84]⟩, ⟨(some 86), none, (.bin .eql), [.t 85, .k (.c (.int .i64 0))]⟩, ⟨(some 16), none, .mv, [.t 86]⟩] false) (.sq (.sq (.rg [⟨(some 17), none, .mv, [.k (.c (.int .i64 0))]⟩] false) (.bl 0 (.lp (.sq (.sq (.rg [⟨(some 87), none, .mv, [.t 17]⟩, ⟨(some 88), none, .mv, [.t 9]⟩, ⟨(some 89), none, .len, [.t 88]⟩, ⟨(some 90), none, (.bin .lss), [.t 87, .t 89]⟩] false) (.cn (.t 90) (.skip) (.ex 0))) (.sq (.bl 1 (.sq (.sq (.rg [⟨(some 93), none, .mv, [.t 11]⟩, ⟨(some 94), none, .len, [.t 93]⟩, ⟨(some 95), none, (.bin .gtr), [.t 94, .k (.c (.int .i64 0))]⟩, ⟨(some 96), none, .mv, [.t 95]⟩, ⟨(some 97), (some (96, true)), .mv, [.t 9]⟩, ⟨(some 98), (some (96, true)), .mv, [.t 17]⟩, ⟨(some 99), (some (96, true)), (.ia 1), [.t 97, .t 98]⟩, ⟨(some 100), (some (96, true)), (.ld none), [.t 99]⟩, ⟨(some 101), (some (96, true)), .mv, [.t 11]⟩, ⟨(some 102), (some (96, true)), (.call 15 .fz), [.t 100, .t 101]⟩, ⟨(some 103), none, .pick, [.t 96, .t 102, .k (.c (.bool false))]⟩] false) (.cn (.t 103) (.sq (.rg [⟨(some 16), none, .mv, [.k (.c (.bool true))]⟩] false) (.ex 1)) (.skip))) (.rg [⟨(some 104), none, .mv, [.t 15]⟩, ⟨(some 105), none, .mv, [.t 9]⟩, ⟨(some 106), none, .mv, [.t 17]⟩, ⟨(some 107), none, (.ia 1), [.t 105, .t 106]⟩, ⟨(some 108), none, (.ld none), [.t 107]⟩, ⟨(some 109), none, (.bsl 1 [.z] [0] 1 true), [.t 108]⟩, ⟨(some 110), none, (.app 1), [.t 104, .t 109]⟩, ⟨(some 15), none, .mv, [.t 110]⟩] false))) (.rg [⟨(some 91), none, .mv, [.t 17]⟩, ⟨(some 92), none, (.bin .add), [.t 91, .k (.c (.int .i64 1))]⟩, ⟨(some 17), none, .mv, [.t 92]⟩] false)))))) (.sq (.rg [⟨(some 111), none, .mv, [.t 12]⟩, ⟨(some 112), none, .len, [.t 111]⟩, ⟨(some 113), none, (.bin .eql), [.t 112, .k (.c (.int .i64 0))]⟩, ⟨(some 18), none, .mv, [.t 113]⟩] false) (.sq (.rg [⟨(some 19), none, .mv, [.k (.c (.int .i64 0))]⟩] false) (.sq (.sq (.rg [⟨(some 20), none, .mv, [.k (.c (.int .i64 0))]⟩] false) (.bl 2 (.lp (.sq (.sq (.rg [⟨(some 114), none, .mv, [.t 20]⟩, ⟨(some 115), none, .mv, [.t 14]⟩, ⟨(some 116), none, .len, [.t 115]⟩, ⟨(some 117), none, (.bin .lss), [.t 114, .t 116]⟩] false) (.cn (.t 117) (.skip) (.ex 2))) (.sq (.bl 3 (.sq (.sq (.rg [⟨(some 120), none, .mv, [.t 12]⟩, ⟨(some 121), none, .len, [.t 120]⟩, ⟨(some 122), none, (.bin .gtr), [.t 121, .k (.c (.int .i64 0))]⟩, ⟨(some 123), none, .mv, [.t 122]⟩, ⟨(some 124), (some (123, true)), .mv, [.t 14]⟩, ⟨(some 125), (some (123, true)), .mv, [.t 20]⟩, ⟨(some 126), (some (123, true)), (.ia 1), [.t 124, .t 125]⟩, ⟨(some 127), (some (123, true)), (.ld none), [.t 126]⟩, ⟨(some 128), (some (123, true)), .mv, [.t 12]⟩, ⟨(some 129), (some (123, true)), (.call 15 .fz), [.t 127, .t 128]⟩, ⟨(some 130), none, .pick, [.t 123, .t 129, .k (.c (.bool false))]⟩] false) (.cn (.t 130) (.sq (.rg [⟨(some 18), none, .mv, [.k (.c (.bool true))]⟩] false) (.ex 3)) (.skip))) (.sq (.sq (.rg [⟨(some 131), none, .mv, [.t 19]⟩, ⟨(some 132), none, .mv, [.t 15]⟩, ⟨(some 133), none, .len, [.t 132]⟩, ⟨(some 134), none, (.bin .geq), [.t 131, .t 133]⟩, ⟨(some 135), none, .mv, [.t 134]⟩, ⟨(some 136), (some (135, false)), .mv, [.t 14]⟩, ⟨(some 137), (some (135, false)), .mv, [.t 20]⟩, ⟨(some 138), (some (135, false)), (.ia 1), [.t 136, .t 137]⟩, ⟨(some 139), (some (135, false)), (.ld none), [.t 138]⟩, ⟨(some 140), (some (135, false)), .mv, [.t 15]⟩, ⟨(some 141), (some (135, false)), .mv, [.t 19]⟩, ⟨(some 142), (some (135, false)), (.ia 1), [.t 140, .t 141]⟩, ⟨(some 143), (some (135, false)), (.ld none), [.t 142]⟩, ⟨(some 144), (some (135, false)), (.call 15 .fz), [.t 139, .t 143]⟩, ⟨(some 145), (some (135, false)), (.un .not), [.t 144]⟩, ⟨(some 146), none, .pick, [.t 135, .k (.c (.bool true)), .t 145]⟩] true) (.cn (.t 146) (.sq (.rg [⟨(some 6), none, .mv, [.k (.c (.bool false))]⟩] false) (.rt)) (.skip))) (.rg [⟨(some 147), none, .mv, [.t 19]⟩, ⟨(some 148), none, (.bin .add), [.t 147, .k (.c (.int .i64 1))]⟩, ⟨(some 19), none, .mv, [.t 148]⟩] false)))) (.rg [⟨(some 118), none, .mv, [.t 20]⟩, ⟨(some 119), none, (.bin .add), [.t 118, .k (.c (.int .i64 1))]⟩, ⟨(some 20), none, .mv, [.t 119]⟩] false)))))) (.sq (.sq (.rg [⟨(some 149), none, .mv, [.t 16]⟩, ⟨(some 150), none, (.un .not), [.t 149]⟩, ⟨(some 151), none, .mv, [.t 150]⟩, ⟨(some 152), (some (151, false)), .mv, [.t 18]⟩, ⟨(some 153), (some (151, false)), (.un .not), [.t 152]⟩, ⟨(some 154), none, .pick, [.t 151, .k (.c (.bool true)), .t 153]⟩, ⟨(some 155), none, .mv, [.t 154]⟩, ⟨(some 156), (some (155, false)), .mv, [.t 19]⟩, ⟨(some 157), (some (155, false)), .mv, [.t 15]⟩, ⟨(some 158), (some (155, false)), .len, [.t 157]⟩, ⟨(some 159), (some (155, false)), (.bin .neq), [.t 156, .t 158]⟩, ⟨(some 160), none, .pick, [.t 155, .k (.c (.bool true)), .t 159]⟩, ⟨(some 161), none, .mv, [.t 160]⟩, ⟨(some 162), (some (161, false)), .mv, [.t 11]⟩, ⟨(some 163), (some (161, false)), .len, [.t 162]⟩, ⟨(some 164), (some (161, false)), (.bin .gtr), [.t 163, .k (.c (.int .i64 0))]⟩, ⟨(some 165), (some (161, false)), .mv, [.t 164]⟩, ⟨(some 166), (some (165, true)), .mv, [.t 11]⟩, ⟨(some 167), (some (165, true)), (.ia 3), [.t 166, .k (.c (.int .i64 0))]⟩, ⟨(some 168), (some (165, true)), (.fa 2), [.t 167]⟩, ⟨(some 169), (some (165, true)), (.ld none), [.t 168]⟩, ⟨(some 170), (some (165, true)), (.fa 8), [.t 5]⟩, ⟨(some 171), (some (165, true)), (.ld none), [.t 170]⟩, ⟨(some 172), (some (165, true)), (.bin .neq), [.t 169, .t 171]⟩, ⟨(some 173), (some (161, false)), .pick, [.t 165, .t 172, .k (.c (.bool false))]⟩, ⟨(some 174), none, .pick, [.t 161, .k (.c (.bool true)), .t 173]⟩, ⟨(some 175), none, .mv, [.t 174]⟩, ⟨(some 176), (some (175, false)), .mv, [.t 12]⟩, ⟨(some 177), (some (175, false)), .len, [.t 176]⟩, ⟨(some 178), (some (175, false)), (.bin .gtr), [.t 177, .k (.c (.int .i64 0))]⟩, ⟨(some 179), (some (175, false)), .mv, [.t 178]⟩, ⟨(some 180), (some (179, true)), .mv, [.t 12]⟩, ⟨(some 181), (some (179, true)), (.ia 3), [.t 180, .k (.c (.int .i64 0))]⟩, ⟨(some 182), (some (179, true)), (.fa 2), [.t 181]⟩, ⟨(some 183), (some (179, true)), (.ld none), [.t 182]⟩, ⟨(some 184), (some (179, true)), (.fa 8), [.t 5]⟩, ⟨(some 185), (some (179, true)), (.ld none), [.t 184]⟩, ⟨(some 186), (some (179, true)), (.bin .neq), [.t 183, .t 185]⟩, ⟨(some 187), (some (175, false)), .pick, [.t 179, .t 186, .k (.c (.bool false))]⟩, ⟨(some 188), none, .pick, [.t 175, .k (.c (.bool true)), .t 187]⟩] true) (.cn (.t 188) (.sq (.rg [⟨(some 6), none, .mv, [.k (.c (.bool false))]⟩] false) (.rt)) (.skip))) (.sq (.rg [⟨(some 189), none, (.ld (some 1)), [.t 3]⟩, ⟨(some 190), none, .mv, [.t 10]⟩, ⟨(some 191), none, (.call 12 .fz), [.t 189, .t 190]⟩, ⟨(some 192), none, (.bin .eql), [.t 191, .k (.c (.int .i64 0))]⟩, ⟨(some 193), none, .mv, [.t 192]⟩, ⟨(some 194), (some (193, true)), (.call 11 .fz), []⟩, ⟨(some 195), none, .pick, [.t 193, .t 194, .k (.c (.bool false))]⟩, ⟨(some 6), none, .mv, [.t 195]⟩] false) (.rt)))))))))))))))))
-- raddle/raddlelaw13.TabSwaps
-- raddle/raddlelaw13.TabCompacts
def c5 : IC := .sq (.rg [⟨(some 3), none, (.box (some 1)), [.t 0]⟩, ⟨(some 6), none, .mv, [.k (.c (.bool false))]⟩] false) (.sq (.sq (.rg [⟨(some 18), none, (.ld (some 1)), [.t 3]⟩, ⟨(some 19), none, (.call 7 .fz), [.t 18]⟩, ⟨(some 20), none, .mv, [.t 19]⟩, ⟨(some 21), (some (20, false)), .mv, [.t 1]⟩, ⟨(some 22), (some (20, false)), (.call 8 .fz), [.t 21]⟩, ⟨(some 23), none, .pick, [.t 20, .k (.c (.bool true)), .t 22]⟩, ⟨(some 24), none, .mv, [.t 23]⟩, ⟨(some 25), (some (24, false)), .mv, [.t 2]⟩, ⟨(some 26), (some (24, false)), (.call 19 .fz), [.t 25]⟩, ⟨(some 27), (some (24, false)), (.bin .neq), [.t 26, .k (.c (.int .i64 0))]⟩, ⟨(some 28), none, .pick, [.t 24, .k (.c (.bool true)), .t 27]⟩] false) (.cn (.t 28) (.sq (.rg [⟨(some 6), none, .mv, [.k (.c (.bool true))]⟩] false) (.rt)) (.skip))) (.sq (.rg [⟨(some 30), none, (.ld (some 1)), [.t 3]⟩, ⟨(some 31), none, .mv, [.t 1]⟩, ⟨(some 32), none, (.call 9 .fz), [.t 30, .t 31]⟩, ⟨(some 29), none, .mv, [.t 32]⟩, ⟨(some 33), none, (.ext 0), [.t 29]⟩, ⟨(some 34), none, (.ext 1), [.t 29]⟩, ⟨(some 7), none, .mv, [.t 33]⟩, ⟨(some 8), none, .mv, [.t 34]⟩] false) (.sq (.sq (.rg [⟨(some 35), none, (.ld (some 1)), [.t 3]⟩, ⟨(some 36), none, (.bsl 1 [.z] [0] 1 true), [.t 35]⟩, ⟨(some 37), none, (.call 10 .fz), [.t 36]⟩, ⟨(some 38), none, (.bin .neq), [.t 37, .k (.c (.int .i64 0))]⟩] false) (.cn (.t 38) (.sq (.rg [⟨(some 39), none, (.call 11 .fz), []⟩, ⟨(some 6), none, .mv, [.t 39]⟩] false) (.rt)) (.skip))) (.sq (.sq (.rg [⟨(some 40), none, .mv, [.t 8]⟩, ⟨(some 41), none, (.un .not), [.t 40]⟩] false) (.cn (.t 41) (.sq (.rg [⟨(some 6), none, .mv, [.k (.c (.bool false))]⟩] false) (.rt)) (.skip))) (.sq (.rg [⟨(some 43), none, (.ld (some 1)), [.t 3]⟩, ⟨(some 44), none, .mv, [.t 7]⟩, ⟨(some 45), none, .mv, [.t 2]⟩, ⟨(some 46), none, (.call 20 .fz), [.t 43, .t 44, .t 45]⟩, ⟨(some 42), none, .mv, [.t 46]⟩, ⟨(some 47), none, (.ext 0), [.t 42]⟩, ⟨(some 48), none, (.ext 1), [.t 42]⟩, ⟨(some 49), none, (.ext 2), [.t 42]⟩, ⟨(some 9), none, .mv, [.t 47]⟩, ⟨(some 10), none, .mv, [.t 48]⟩, ⟨(some 11), none, .mv, [.t 49]⟩] false) (.sq (.rg [⟨(some 51), none, (.ld (some 1)), [.t 3]⟩, ⟨(some 52), none, .mv, [.t 9]⟩, ⟨(some 53), none, .mv, [.t 2]⟩, ⟨(some 54), none, (.call 20 .fz), [.t 51, .t 52, .t 53]⟩, ⟨(some 50), none, .mv, [.t 54]⟩, ⟨(some 55), none, (.ext 0), [.t 50]⟩, ⟨(some 56), none, (.ext 1), [.t 50]⟩, ⟨(some 57), none, (.ext 2), [.t 50]⟩, ⟨(some 12), none, .mv, [.t 55]⟩, ⟨(some 13), none, .mv, [.t 56]⟩, ⟨(some 14), none, .mv, [.t 57]⟩] false) (.sq (.sq (.rg [⟨(some 58), none, .mv, [.t 11]⟩, ⟨(some 59), none, (.bin .neq), [.t 58, .k (.c (.int .i64 0))]⟩, ⟨(some 60), none, .mv, [.t 59]⟩, ⟨(some 61), (some (60, false)), .mv, [.t 14]⟩, ⟨(some 62), (some (60, false)), (.bin .neq), [.t 61, .k (.c (.int .i64 0))]⟩, ⟨(some 63), none, .pick, [.t 60, .k (.c (.bool true)), .t 62]⟩, ⟨(some 64), none, .mv, [.t 63]⟩, ⟨(some 65), (some (64, false)), .mv, [.t 10]⟩, ⟨(some 66), (some (64, false)), .mv, [.t 7]⟩, ⟨(some 67), (some (64, false)), .len, [.t 66]⟩, ⟨(some 68), (some (64, false)), .mv, [.t 9]⟩, ⟨(some 69), (some (64, false)), .len, [.t 68]⟩, ⟨(some 70), (some (64, false)), (.bin .sub), [.t 67, .t 69]⟩, ⟨(some 71), (some (64, false)), (.bin .neq), [.t 65, .t 70]⟩, ⟨(some 72), none, .pick, [.t 64, .k (.c (.bool true)), .t 71]⟩, ⟨(some 73), none, .mv, [.t 72]⟩, ⟨(some 74), (some (73, false)), .mv, [.t 13]⟩, ⟨(some 75), (some (73, false)), (.bin .neq), [.t 74, .k (.c (.int .i64 0))]⟩, ⟨(some 76), none, .pick, [.t 73, .k (.c (.bool true)), .t 75]⟩, ⟨(some 77), none, .mv, [.t 76]⟩, ⟨(some 78), (some (77, false)), .mv, [.t 9]⟩, ⟨(some 79), (some (77, false)), .mv, [.t 12]⟩, ⟨(some 80), (some (77, false)), (.call 18 .fz), [.t 78, .t 79]⟩, ⟨(some 81), (some (77, false)), (.un .not), [.t 80]⟩, ⟨(some 82), none, .pick, [.t 77, .k (.c (.bool true)), .t 81]⟩, ⟨(some 83), none, .mv, [.t 82]⟩, ⟨(some 84), (some (83, false)), .mv, [.t 9]⟩, ⟨(some 85), (some (83, false)), (.call 21 .fz), [.t 84]⟩, ⟨(some 86), (some (83, false)), .mv, [.t 7]⟩, ⟨(some 87), (some (83, false)), (.call 21 .fz), [.t 86]⟩, ⟨(some 88), (some (83, false)), .mv, [.t 10]⟩, ⟨(some 89), (some (83, false)), (.bin .sub), [.t 87, .t 88]⟩, ⟨(some 90), (some (83, false)), (.bin .neq), [.t 85, .t 89]⟩, ⟨(some 91), none, .pick, [.t 83, .k (.c (.bool true)), .t 90]⟩, ⟨(some 92), none, .mv, [.t 91]⟩, ⟨(some 93), (some (92, false)), (.ld (some 1)), [.t 3]⟩, ⟨(some 94), (some (92, false)), .mv, [.t 9]⟩, ⟨(some 95), (some (92, false)), (.call 13 .fz), [.t 93, .t 94]⟩, ⟨(some 96), (some (92, false)), (.ld (some 1)), [.t 3]⟩, ⟨(some 97), (some (92, false)), .mv, [.t 7]⟩, ⟨(some 98), (some (92, false)), (.call 13 .fz), [.t 96, .t 97]⟩, ⟨(some 99), (some (92, false)), (.call 22 .fz), [.t 95, .t 98]⟩, ⟨(some 100), (some (92, false)), (.un .not), [.t 99]⟩, ⟨(some 101), none, .pick, [.t 92, .k (.c (.bool true)), .t 100]⟩, ⟨(some 102), none, .mv, [.t 101]⟩, ⟨(some 103), (some (102, false)), (.ld (some 1)), [.t 3]⟩, ⟨(some 104), (some (102, false)), .mv, [.t 9]⟩, ⟨(some 105), (some (102, false)), (.call 12 .fz), [.t 103, .t 104]⟩, ⟨(some 106), (some (102, false)), (.bin .neq), [.t 105, .k (.c (.int .i64 0))]⟩, ⟨(some 107), none, .pick, [.t 102, .k (.c (.bool true)), .t 106]⟩] true) (.cn (.t 107) (.sq (.rg [⟨(some 6), none, .mv, [.k (.c (.bool false))]⟩] false) (.rt)) (.skip))) (.sq (.rg [⟨(some 108), none, (.bsl 1 [(.c (.int .i64 0))] [0, 1, 2, 3, 4] 5 true), [.k (.c (.int .i64 1073741824)), .k (.c (.int .i64 1073741824)), .k (.c (.int .i64 1073741824)), .k (.c (.int .i64 1073741824)), .k (.c (.int .i64 1073741824))]⟩, ⟨(some 15), none, .mv, [.t 108]⟩] false) (.sq (.rg [⟨(some 110), none, (.ld (some 1)), [.t 3]⟩, ⟨(some 111), none, .mv, [.t 7]⟩, ⟨(some 112), none, .mv, [.t 15]⟩, ⟨(some 113), none, (.call 20 .fz), [.t 110, .t 111, .t 112]⟩, ⟨(some 109), none, .mv, [.t 113]⟩, ⟨(some 114), none, (.ext 0), [.t 109]⟩, ⟨(some 115), none, (.ext 1), [.t 109]⟩, ⟨(some 116), none, (.ext 2), [.t 109]⟩, ⟨(some 16), none, .mv, [.t 114]⟩, ⟨(some 17), none, .mv, [.t 115]⟩, ⟨(some 11), none, .mv, [.t 116]⟩] false) (.sq (.rg [⟨(some 117), none, .mv, [.t 11]⟩, ⟨(some 118), none, (.bin .eql), [.t 117, .k (.c (.int .i64 0))]⟩, ⟨(some 119), none, .mv, [.t 118]⟩, ⟨(some 120), (some (119, true)), .mv, [.t 16]⟩, ⟨(some 121), (some (119, true)), (.call 21 .fz), [.t 120]⟩, ⟨(some 122), (some (119, true)), (.bin .eql), [.t 121, .k (.c (.int .i64 0))]⟩, ⟨(some 123), none, .pick, [.t 119, .t 122, .k (.c (.bool false))]⟩, ⟨(some 124), none, .mv, [.t 123]⟩, ⟨(some 125), (some (124, true)), .mv, [.t 17]⟩, ⟨(some 126), (some (124, true)), .mv, [.t 7]⟩, ⟨(some 127), (some (124, true)), (.call 21 .fz), [.t 126]⟩, ⟨(some 128), (some (124, true)), (.bin .eql), [.t 125, .t 127]⟩, ⟨(some 129), none, .pick, [.t 124, .t 128, .k (.c (.bool false))]⟩, ⟨(some 130), none, .mv, [.t 129]⟩, ⟨(some 131), (some (130, true)), (.ld (some 1)), [.t 3]⟩, ⟨(some 132), (some (130, true)), .mv, [.t 16]⟩, ⟨(some 133), (some (130, true)), (.call 13 .fz), [.t 131, .t 132]⟩, ⟨(some 134), (some (130, true)), (.ld (some 1)), [.t 3]⟩, ⟨(some 135), (some (130, true)), .mv, [.t 7]⟩, ⟨(some 136), (some (130, true)), (.call 13 .fz), [.t 134, .t 135]⟩, ⟨(some 137), (some (130, true)), (.call 22 .fz), [.t 133, .t 136]⟩, ⟨(some 138), none, .pick, [.t 130, .t 137, .k (.c (.bool false))]⟩, ⟨(some 139), none, .mv, [.t 138]⟩, ⟨(some 140), (some (139, true)), (.call 11 .fz), []⟩, ⟨(some 141), none, .pick, [.t 139, .t 140, .k (.c (.bool false))]⟩, ⟨(some 6), none, .mv, [.t 141]⟩] true) (.rt)))))))))))
theorem cf5 : compF Tryz.prog 5 c5 = some ⟨c5, [.t 6], 142⟩ := by kernel_rfl

-- raddle/raddlelaw13.TabExact
-- raddle/raddlelaw13.HeavyForm
def c7 : IC := .sq (.rg [⟨(some 1), none, (.box (some 1)), [.t 0]⟩, ⟨(some 2), none, .mv, [.k (.c (.bool false))]⟩] false) (.sq (.rg [⟨(some 3), none, (.fa 0), [.t 1]⟩, ⟨(some 4), none, (.ld none), [.t 3]⟩, ⟨(some 5), none, .len, [.t 4]⟩, ⟨(some 6), none, (.bin .gtr), [.t 5, .k (.c (.int .i64 30))]⟩, ⟨(some 2), none, .mv, [.t 6]⟩] false) (.rt))
theorem cf7 : compF Tryz.prog 7 c7 = some ⟨c7, [.t 2], 7⟩ := by kernel_rfl

-- raddle/raddlelaw07.Heavy
def c8 : IC := .sq (.rg [⟨(some 2), none, .mv, [.k (.c (.bool false))]⟩] false) (.sq (.sq (.rg [⟨(some 4), none, .mv, [.t 0]⟩, ⟨(some 5), none, .len, [.t 4]⟩, ⟨(some 6), none, (.bin .gtr), [.t 5, .k (.c (.int .i64 300))]⟩] false) (.cn (.t 6) (.sq (.rg [⟨(some 2), none, .mv, [.k (.c (.bool true))]⟩] false) (.rt)) (.skip))) (.sq (.sq (.rg [⟨(some 3), none, .mv, [.k (.c (.int .i64 0))]⟩] false) (.bl 0 (.lp (.sq (.sq (.rg [⟨(some 7), none, .mv, [.t 3]⟩, ⟨(some 8), none, .mv, [.t 0]⟩, ⟨(some 9), none, .len, [.t 8]⟩, ⟨(some 10), none, (.bin .lss), [.t 7, .t 9]⟩] false) (.cn (.t 10) (.skip) (.ex 0))) (.sq (.bl 1 (.sq (.rg [⟨(some 13), none, .mv, [.t 0]⟩, ⟨(some 14), none, .mv, [.t 3]⟩, ⟨(some 15), none, (.ia 12), [.t 13, .t 14]⟩, ⟨(some 16), none, (.fa 2), [.t 15]⟩, ⟨(some 17), none, (.ld none), [.t 16]⟩, ⟨(some 18), none, .len, [.t 17]⟩, ⟨(some 19), none, (.bin .gtr), [.t 18, .k (.c (.int .i64 30))]⟩, ⟨(some 20), none, .mv, [.t 19]⟩, ⟨(some 21), (some (20, false)), .mv, [.t 0]⟩, ⟨(some 22), (some (20, false)), .mv, [.t 3]⟩, ⟨(some 23), (some (20, false)), (.ia 12), [.t 21, .t 22]⟩, ⟨(some 24), (some (20, false)), (.fa 8), [.t 23]⟩, ⟨(some 25), (some (20, false)), (.ld none), [.t 24]⟩, ⟨(some 26), (some (20, false)), .slen, [.t 25]⟩, ⟨(some 27), (some (20, false)), (.bin .gtr), [.t 26, .k (.c (.int .i64 100))]⟩, ⟨(some 28), none, .pick, [.t 20, .k (.c (.bool true)), .t 27]⟩, ⟨(some 29), none, .mv, [.t 28]⟩, ⟨(some 30), (some (29, false)), .mv, [.t 0]⟩, ⟨(some 31), (some (29, false)), .mv, [.t 3]⟩, ⟨(some 32), (some (29, false)), (.ia 12), [.t 30, .t 31]⟩, ⟨(some 33), (some (29, false)), (.fa 10), [.t 32]⟩, ⟨(some 34), (some (29, false)), (.ld none), [.t 33]⟩, ⟨(some 35), (some (29, false)), (.call 38 .fz), [.t 34]⟩, ⟨(some 36), none, .pick, [.t 29, .k (.c (.bool true)), .t 35]⟩, ⟨(some 37), none, .mv, [.t 36]⟩, ⟨(some 38), (some (37, false)), .mv, [.t 0]⟩, ⟨(some 39), (some (37, false)), .mv, [.t 3]⟩, ⟨(some 40), (some (37, false)), (.ia 12), [.t 38, .t 39]⟩, ⟨(some 41), (some (37, false)), (.fa 11), [.t 40]⟩, ⟨(some 42), (some (37, false)), (.ld none), [.t 41]⟩, ⟨(some 43), (some (37, false)), .len, [.t 42]⟩, ⟨(some 44), (some (37, false)), (.bin .gtr), [.t 43, .k (.c (.int .i64 100))]⟩, ⟨(some 45), none, .pick, [.t 37, .k (.c (.bool true)), .t 44]⟩] false) (.cn (.t 45) (.sq (.rg [⟨(some 2), none, .mv, [.k (.c (.bool true))]⟩] false) (.rt)) (.skip)))) (.rg [⟨(some 11), none, .mv, [.t 3]⟩, ⟨(some 12), none, (.bin .add), [.t 11, .k (.c (.int .i64 1))]⟩, ⟨(some 3), none, .mv, [.t 12]⟩] false)))))) (.sq (.rg [⟨(some 2), none, .mv, [.k (.c (.bool false))]⟩] false) (.rt))))
theorem cf8 : compF Tryz.prog 8 c8 = some ⟨c8, [.t 2], 46⟩ := by kernel_rfl

-- raddle/raddlelaw13.Lived
def c9 : IC := .sq (.rg [⟨(some 2), none, (.box (some 1)), [.t 0]⟩, ⟨(some 4), none, .mv, [.k .z]⟩, ⟨(some 5), none, .mv, [.k (.c (.bool false))]⟩] false) (.sq (.rg [⟨(some 6), none, .mv, [.k .z]⟩] false) (.sq (.sq (.rg [⟨(some 7), none, .mv, [.k (.c (.int .i64 0))]⟩] false) (.bl 0 (.lp (.sq (.sq (.rg [⟨(some 16), none, .mv, [.t 7]⟩, ⟨(some 17), none, .mv, [.t 1]⟩, ⟨(some 18), none, .len, [.t 17]⟩, ⟨(some 19), none, (.bin .lss), [.t 16, .t 18]⟩, ⟨(some 20), none, .mv, [.t 19]⟩, ⟨(some 21), (some (20, true)), .mv, [.t 7]⟩, ⟨(some 22), (some (20, true)), (.bin .lss), [.t 21, .k (.c (.int .i64 40))]⟩, ⟨(some 23), none, .pick, [.t 20, .t 22, .k (.c (.bool false))]⟩] false) (.cn (.t 23) (.skip) (.ex 0))) (.sq (.bl 1 (.sq (.rg [⟨(some 27), none, (.ld (some 1)), [.t 2]⟩, ⟨(some 28), none, .mv, [.t 6]⟩, ⟨(some 29), none, .mv, [.t 1]⟩, ⟨(some 30), none, .mv, [.t 7]⟩, ⟨(some 31), none, (.ia 12), [.t 29, .t 30]⟩, ⟨(some 32), none, (.ld (some 12)), [.t 31]⟩, ⟨(some 33), none, (.call 14 .fz), [.t 27, .t 28, .t 32]⟩, ⟨(some 26), none, .mv, [.t 33]⟩, ⟨(some 34), none, (.ext 0), [.t 26]⟩, ⟨(some 35), none, (.ext 1), [.t 26]⟩, ⟨(some 36), none, (.ext 2), [.t 26]⟩, ⟨(some 37), none, (.ext 3), [.t 26]⟩, ⟨(some 8), none, .mv, [.t 34]⟩, ⟨(some 9), none, .mv, [.t 35]⟩, ⟨(some 10), none, .mv, [.t 36]⟩, ⟨(some 11), none, .mv, [.t 37]⟩] true) (.sq (.sq (.rg [⟨(some 38), none, .mv, [.t 11]⟩, ⟨(some 39), none, (.bin .neq), [.t 38, .k (.c (.int .i64 0))]⟩] false) (.cn (.t 39) (.sq (.sq (.rg [⟨(some 41), none, (.ld (some 1)), [.t 2]⟩, ⟨(some 42), none, .mv, [.t 1]⟩, ⟨(some 43), none, .mv, [.t 7]⟩, ⟨(some 44), none, (.ia 12), [.t 42, .t 43]⟩, ⟨(some 45), none, (.ld (some 12)), [.t 44]⟩, ⟨(some 46), none, (.call 28 .fz), [.t 41, .k .z, .t 45]⟩, ⟨(some 40), none, .mv, [.t 46]⟩, ⟨(some 47), none, (.ext 0), [.t 40]⟩, ⟨(some 48), none, (.ext 1), [.t 40]⟩, ⟨(some 49), none, (.ext 2), [.t 40]⟩, ⟨(some 50), none, (.ext 3), [.t 40]⟩, ⟨(some 12), none, .mv, [.t 47]⟩, ⟨(some 13), none, .mv, [.t 48]⟩, ⟨(some 14), none, .mv, [.t 49]⟩, ⟨(some 15), none, .mv, [.t 50]⟩] true) (.sq (.rg [⟨(some 51), none, .mv, [.t 15]⟩, ⟨(some 52), none, (.bin .eql), [.t 51, .k (.c (.int .i64 0))]⟩] false) (.cn (.t 52) (.sq (.rg [⟨(some 4), none, .mv, [.k .z]⟩, ⟨(some 5), none, .mv, [.k (.c (.bool false))]⟩] false) (.rt)) (.skip)))) (.ex 1)) (.skip))) (.rg [⟨(some 53), none, .mv, [.t 8]⟩, ⟨(some 6), none, .mv, [.t 53]⟩] false)))) (.rg [⟨(some 24), none, .mv, [.t 7]⟩, ⟨(some 25), none, (.bin .add), [.t 24, .k (.c (.int .i64 1))]⟩, ⟨(some 7), none, .mv, [.t 25]⟩] false)))))) (.sq (.rg [⟨(some 54), none, .mv, [.t 6]⟩, ⟨(some 4), none, .mv, [.t 54]⟩, ⟨(some 5), none, .mv, [.k (.c (.bool true))]⟩] false) (.rt))))
theorem cf9 : compF Tryz.prog 9 c9 = some ⟨c9, [.t 4, .t 5], 55⟩ := by kernel_rfl

-- raddle/raddleref01.Forms
def c10 : IC := .sq (.rg [⟨(some 2), none, .mv, [.k (.c (.int .i64 0))]⟩] false) (.sq (.sq (.rg [⟨(some 6), none, .mv, [.t 0]⟩, ⟨(some 7), none, .len, [.t 6]⟩, ⟨(some 8), none, (.call 39 .fz), [.t 7, .k (.c (.int .i64 1)), .k (.c (.int .i64 3))]⟩, ⟨(some 9), none, (.un .not), [.t 8]⟩] false) (.cn (.t 9) (.sq (.rg [⟨(some 2), none, .mv, [.k (.c (.int .i64 2))]⟩] false) (.rt)) (.skip))) (.sq (.sq (.rg [⟨(some 3), none, .mv, [.k (.c (.int .i64 0))]⟩] false) (.bl 0 (.lp (.sq (.sq (.rg [⟨(some 10), none, .mv, [.t 3]⟩, ⟨(some 11), none, .mv, [.t 0]⟩, ⟨(some 12), none, .len, [.t 11]⟩, ⟨(some 13), none, (.bin .lss), [.t 10, .t 12]⟩] false) (.cn (.t 13) (.skip) (.ex 0))) (.sq (.bl 1 (.sq (.rg [⟨(some 16), none, .mv, [.t 0]⟩, ⟨(some 17), none, .mv, [.t 3]⟩, ⟨(some 18), none, (.ia 1), [.t 16, .t 17]⟩, ⟨(some 19), none, (.fa 0), [.t 18]⟩, ⟨(some 20), none, (.ld none), [.t 19]⟩, ⟨(some 21), none, .len, [.t 20]⟩, ⟨(some 22), none, (.call 39 .fz), [.t 21, .k (.c (.int .i64 1)), .k (.c (.int .i64 4))]⟩, ⟨(some 23), none, (.un .not), [.t 22]⟩] false) (.cn (.t 23) (.sq (.rg [⟨(some 2), none, .mv, [.k (.c (.int .i64 2))]⟩] false) (.rt)) (.skip)))) (.rg [⟨(some 14), none, .mv, [.t 3]⟩, ⟨(some 15), none, (.bin .add), [.t 14, .k (.c (.int .i64 1))]⟩, ⟨(some 3), none, .mv, [.t 15]⟩] false)))))) (.sq (.sq (.rg [⟨(some 4), none, .mv, [.k (.c (.int .i64 0))]⟩] false) (.bl 2 (.lp (.sq (.sq (.rg [⟨(some 24), none, .mv, [.t 4]⟩, ⟨(some 25), none, .mv, [.t 0]⟩, ⟨(some 26), none, .len, [.t 25]⟩, ⟨(some 27), none, (.bin .lss), [.t 24, .t 26]⟩] false) (.cn (.t 27) (.skip) (.ex 2))) (.sq (.bl 3 (.sq (.rg [⟨(some 5), none, .mv, [.k (.c (.int .i64 0))]⟩] false) (.bl 4 (.lp (.sq (.sq (.rg [⟨(some 30), none, .mv, [.t 5]⟩, ⟨(some 31), none, .mv, [.t 0]⟩, ⟨(some 32), none, .mv, [.t 4]⟩, ⟨(some 33), none, (.ia 1), [.t 31, .t 32]⟩, ⟨(some 34), none, (.fa 0), [.t 33]⟩, ⟨(some 35), none, (.ld none), [.t 34]⟩, ⟨(some 36), none, .len, [.t 35]⟩, ⟨(some 37), none, (.bin .lss), [.t 30, .t 36]⟩] false) (.cn (.t 37) (.skip) (.ex 4))) (.sq (.bl 5 (.sq (.rg [⟨(some 40), none, .mv, [.t 0]⟩, ⟨(some 41), none, .mv, [.t 4]⟩, ⟨(some 42), none, (.ia 1), [.t 40, .t 41]⟩, ⟨(some 43), none, (.fa 0), [.t 42]⟩, ⟨(some 44), none, (.ld none), [.t 43]⟩, ⟨(some 45), none, .mv, [.t 5]⟩, ⟨(some 46), none, (.ia 1), [.t 44, .t 45]⟩, ⟨(some 47), none, (.ld none), [.t 46]⟩, ⟨(some 48), none, (.call 40 .fz), [.t 47]⟩, ⟨(some 49), none, (.un .not), [.t 48]⟩] false) (.cn (.t 49) (.sq (.rg [⟨(some 2), none, .mv, [.k (.c (.int .i64 10))]⟩] false) (.rt)) (.skip)))) (.rg [⟨(some 38), none, .mv, [.t 5]⟩, ⟨(some 39), none, (.bin .add), [.t 38, .k (.c (.int .i64 1))]⟩, ⟨(some 5), none, .mv, [.t 39]⟩] false))))))) (.rg [⟨(some 28), none, .mv, [.t 4]⟩, ⟨(some 29), none, (.bin .add), [.t 28, .k (.c (.int .i64 1))]⟩, ⟨(some 4), none, .mv, [.t 29]⟩] false)))))) (.sq (.rg [⟨(some 2), none, .mv, [.k (.c (.int .i64 0))]⟩] false) (.rt)))))
theorem cf10 : compF Tryz.prog 10 c10 = some ⟨c10, [.t 2], 50⟩ := by kernel_rfl

-- raddle/raddlelaw13.wakes
def c11 : IC := .sq (.rg [⟨(some 0), none, .mv, [.k (.c (.bool false))]⟩] false) (.sq (.rg [⟨(some 8), none, (.bsl 1 [(.c (.int .i64 0))] [0] 1 true), [.k (.c (.int .i64 3))]⟩, ⟨(some 9), none, (.bld [.z] [(0, 1)]), [.t 8]⟩, ⟨(some 1), none, (.alloc [.z]), []⟩, ⟨none, none, (.st 1), [.t 1, .t 9]⟩] false) (.sq (.rg [⟨(some 11), none, (.ld (some 1)), [.t 1]⟩, ⟨(some 12), none, (.bld [(.c (.int .i64 0)), (.c (.int .i64 0))] [(1, 1)]), [.k (.c (.int .i64 1))]⟩, ⟨(some 13), none, (.bsl 1 [(.c (.int .i64 0))] [0] 1 true), [.k (.c (.int .i64 0))]⟩, ⟨(some 14), none, (.bld [(.c (.int .i64 0)), (.c (.int .i64 0)), (.c (.string ⟨#[]⟩))] [(0, 1), (1, 1)]), [.k (.c (.int .i64 3)), .k (.c (.int .i64 3))]⟩, ⟨(some 15), none, (.bsl 3 [(.c (.int .i64 0)), (.c (.int .i64 0)), (.c (.string ⟨#[]⟩))] [0] 1 true), [.t 14]⟩, ⟨(some 16), none, (.bld [(.c (.int .i64 0)), (.c (.int .i64 0)), .z, (.c (.int .i64 0)), (.c (.int .i64 0)), (.c (.int .i64 0)), (.c (.int .i64 0)), (.c (.int .i64 0)), (.c (.string ⟨#[]⟩)), (.c (.int .i64 0)), .z, .z] [(0, 2), (2, 1), (6, 1), (8, 1), (10, 1)]), [.t 12, .t 13, .k (.c (.int .i64 1)), .k (.c (.string ⟨#[107]⟩)), .t 15]⟩, ⟨(some 17), none, (.call 14 .fz), [.t 11, .k .z, .t 16]⟩, ⟨(some 10), none, .mv, [.t 17]⟩, ⟨(some 18), none, (.ext 0), [.t 10]⟩, ⟨(some 19), none, (.ext 1), [.t 10]⟩, ⟨(some 20), none, (.ext 2), [.t 10]⟩, ⟨(some 21), none, (.ext 3), [.t 10]⟩, ⟨(some 2), none, .mv, [.t 18]⟩, ⟨(some 3), none, .mv, [.t 19]⟩, ⟨(some 4), none, .mv, [.t 20]⟩, ⟨(some 5), none, .mv, [.t 21]⟩] false) (.sq (.sq (.rg [⟨(some 22), none, .mv, [.t 5]⟩, ⟨(some 23), none, (.bin .neq), [.t 22, .k (.c (.int .i64 0))]⟩, ⟨(some 24), none, .mv, [.t 23]⟩, ⟨(some 25), (some (24, false)), .mv, [.t 4]⟩, ⟨(some 26), (some (24, false)), .len, [.t 25]⟩, ⟨(some 27), (some (24, false)), (.bin .neq), [.t 26, .k (.c (.int .i64 2))]⟩, ⟨(some 28), none, .pick, [.t 24, .k (.c (.bool true)), .t 27]⟩, ⟨(some 29), none, .mv, [.t 28]⟩, ⟨(some 30), (some (29, false)), .mv, [.t 4]⟩, ⟨(some 31), (some (29, false)), (.ia 3), [.t 30, .k (.c (.int .i64 0))]⟩, ⟨(some 32), (some (29, false)), (.fa 2), [.t 31]⟩, ⟨(some 33), (some (29, false)), (.ld none), [.t 32]⟩, ⟨(some 34), (some (29, false)), (.bin .neq), [.t 33, .k (.c (.string ⟨#[107]⟩))]⟩, ⟨(some 35), none, .pick, [.t 29, .k (.c (.bool true)), .t 34]⟩, ⟨(some 36), none, .mv, [.t 35]⟩, ⟨(some 37), (some (36, false)), .mv, [.t 4]⟩, ⟨(some 38), (some (36, false)), (.ia 3), [.t 37, .k (.c (.int .i64 1))]⟩, ⟨(some 39), (some (36, false)), (.fa 1), [.t 38]⟩, ⟨(some 40), (some (36, false)), (.ld none), [.t 39]⟩, ⟨(some 41), (some (36, false)), (.bin .neq), [.t 40, .k (.c (.int .i64 3))]⟩, ⟨(some 42), none, .pick, [.t 36, .k (.c (.bool true)), .t 41]⟩] false) (.cn (.t 42) (.sq (.rg [⟨(some 0), none, .mv, [.k (.c (.bool false))]⟩] false) (.rt)) (.skip))) (.sq (.rg [⟨(some 44), none, (.ld (some 1)), [.t 1]⟩, ⟨(some 45), none, .mv, [.t 2]⟩, ⟨(some 46), none, (.bld [(.c (.int .i64 0)), (.c (.int .i64 0))] [(1, 1)]), [.k (.c (.int .i64 2))]⟩, ⟨(some 47), none, (.bsl 1 [(.c (.int .i64 0))] [0] 1 true), [.k (.c (.int .i64 1))]⟩, ⟨(some 48), none, (.bld [(.c (.int .i64 0)), (.c (.int .i64 0))] [(1, 1)]), [.k (.c (.int .i64 1))]⟩, ⟨(some 49), none, (.bsl 2 [(.c (.int .i64 0)), (.c (.int .i64 0))] [0] 1 true), [.t 48]⟩, ⟨(some 50), none, (.bld [(.c (.int .i64 0)), (.c (.int .i64 0)), .z, (.c (.int .i64 0)), (.c (.int .i64 0)), (.c (.int .i64 0)), (.c (.int .i64 0)), (.c (.int .i64 0)), (.c (.string ⟨#[]⟩)), (.c (.int .i64 0)), .z, .z] [(0, 2), (2, 1), (6, 1), (8, 1), (11, 1)]), [.t 46, .t 47, .k (.c (.int .i64 3)), .k (.c (.string ⟨#[107]⟩)), .t 49]⟩, ⟨(some 51), none, (.call 14 .fz), [.t 44, .t 45, .t 50]⟩, ⟨(some 43), none, .mv, [.t 51]⟩, ⟨(some 52), none, (.ext 0), [.t 43]⟩, ⟨(some 53), none, (.ext 1), [.t 43]⟩, ⟨(some 54), none, (.ext 2), [.t 43]⟩, ⟨(some 55), none, (.ext 3), [.t 43]⟩, ⟨(some 2), none, .mv, [.t 52]⟩, ⟨(some 6), none, .mv, [.t 53]⟩, ⟨(some 7), none, .mv, [.t 54]⟩, ⟨(some 5), none, .mv, [.t 55]⟩] false) (.sq (.rg [⟨(some 56), none, .mv, [.t 5]⟩, ⟨(some 57), none, (.bin .eql), [.t 56, .k (.c (.int .i64 0))]⟩, ⟨(some 58), none, .mv, [.t 57]⟩, ⟨(some 59), (some (58, true)), .mv, [.t 6]⟩, ⟨(some 60), (some (58, true)), .len, [.t 59]⟩, ⟨(some 61), (some (58, true)), (.bin .eql), [.t 60, .k (.c (.int .i64 2))]⟩, ⟨(some 62), none, .pick, [.t 58, .t 61, .k (.c (.bool false))]⟩, ⟨(some 63), none, .mv, [.t 62]⟩, ⟨(some 64), (some (63, true)), .mv, [.t 2]⟩, ⟨(some 65), (some (63, true)), (.call 21 .fz), [.t 64]⟩, ⟨(some 66), (some (63, true)), (.bin .eql), [.t 65, .k (.c (.int .i64 1))]⟩, ⟨(some 67), none, .pick, [.t 63, .t 66, .k (.c (.bool false))]⟩, ⟨(some 68), none, .mv, [.t 67]⟩, ⟨(some 69), (some (68, true)), (.ld (some 1)), [.t 1]⟩, ⟨(some 70), (some (68, true)), .mv, [.t 2]⟩, ⟨(some 71), (some (68, true)), (.call 13 .fz), [.t 69, .t 70]⟩, ⟨(some 72), (some (68, true)), .len, [.t 71]⟩, ⟨(some 73), (some (68, true)), (.bin .eql), [.t 72, .k (.c (.int .i64 0))]⟩, ⟨(some 74), none, .pick, [.t 68, .t 73, .k (.c (.bool false))]⟩, ⟨(some 0), none, .mv, [.t 74]⟩] false) (.rt))))))
theorem cf11 : compF Tryz.prog 11 c11 = some ⟨c11, [.t 0], 75⟩ := by kernel_rfl

-- raddle/tab.Check
def c12 : IC := .sq (.rg [⟨(some 2), none, (.box (some 1)), [.t 0]⟩, ⟨(some 4), none, .mv, [.k (.c (.int .i64 0))]⟩] false) (.sq (.sq (.rg [⟨(some 7), none, (.ld (some 1)), [.t 2]⟩, ⟨(some 8), none, (.bsl 1 [.z] [0] 1 true), [.t 7]⟩, ⟨(some 9), none, (.call 41 .fz), [.t 8]⟩, ⟨(some 10), none, (.bin .neq), [.t 9, .k (.c (.int .i64 0))]⟩] false) (.cn (.t 10) (.sq (.rg [⟨(some 4), none, .mv, [.k (.c (.int .i64 10))]⟩] false) (.rt)) (.skip))) (.sq (.sq (.rg [⟨(some 11), none, .mv, [.t 1]⟩, ⟨(some 12), none, .len, [.t 11]⟩, ⟨(some 13), none, .mv, [.k (.c (.int .i64 0))]⟩] false) (.bl 0 (.lp (.sq (.rg [⟨(some 14), none, (.bin .lss), [.t 13, .t 12]⟩] false) (.sq (.cn (.t 14) (.skip) (.ex 0)) (.sq (.bl 1 (.sq (.rg [⟨(some 15), none, .mv, [.t 13]⟩, ⟨(some 16), none, (.ia 3), [.t 11, .t 13]⟩, ⟨(some 17), none, (.ld (some 3)), [.t 16]⟩, ⟨(some 6), none, (.alloc [(.c (.string ⟨#[]⟩)), .z, .z]), []⟩, ⟨(some 5), none, .mv, [.t 15]⟩, ⟨none, none, (.st 3), [.t 6, .t 17]⟩] false) (.sq (.rg [⟨(some 18), none, (.ld (some 1)), [.t 2]⟩, ⟨(some 19), none, (.ld (some 3)), [.t 6]⟩, ⟨(some 20), none, (.call 42 .fz), [.t 18, .t 19]⟩, ⟨(some 21), none, (.un .not), [.t 20]⟩, ⟨(some 22), none, .mv, [.t 21]⟩, ⟨(some 23), (some (22, false)), .mv, [.t 5]⟩, ⟨(some 24), (some (22, false)), (.bin .gtr), [.t 23, .k (.c (.int .i64 0))]⟩, ⟨(some 25), (some (22, false)), .mv, [.t 24]⟩, ⟨(some 26), (some (25, true)), .mv, [.t 1]⟩, ⟨(some 27), (some (25, true)), .mv, [.t 5]⟩, ⟨(some 28), (some (25, true)), (.bin .sub), [.t 27, .k (.c (.int .i64 1))]⟩, ⟨(some 29), (some (25, true)), (.ia 3), [.t 26, .t 28]⟩, ⟨(some 30), (some (25, true)), (.fa 0), [.t 29]⟩, ⟨(some 31), (some (25, true)), (.ld none), [.t 30]⟩, ⟨(some 32), (some (25, true)), (.fa 0), [.t 6]⟩, ⟨(some 33), (some (25, true)), (.ld none), [.t 32]⟩, ⟨(some 34), (some (25, true)), (.bin .geq), [.t 31, .t 33]⟩, ⟨(some 35), (some (22, false)), .pick, [.t 25, .t 34, .k (.c (.bool false))]⟩, ⟨(some 36), none, .pick, [.t 22, .k (.c (.bool true)), .t 35]⟩] true) (.cn (.t 36) (.sq (.rg [⟨(some 4), none, .mv, [.k (.c (.int .i64 1))]⟩] false) (.rt)) (.skip))))) (.rg [⟨(some 37), none, (.bin .add), [.t 13, .k (.c (.int .i64 1))]⟩, ⟨(some 13), none, .mv, [.t 37]⟩] false))))))) (.sq (.rg [⟨(some 4), none, .mv, [.k (.c (.int .i64 0))]⟩] false) (.rt))))
theorem cf12 : compF Tryz.prog 12 c12 = some ⟨c12, [.t 4], 38⟩ := by kernel_rfl

-- raddle/tab.Seen
def c13 : IC := .sq (.rg [⟨(some 2), none, (.box (some 1)), [.t 0]⟩, ⟨(some 4), none, .mv, [.k .z]⟩] false) (.sq (.sq (.rg [⟨(some 8), none, (.ld (some 1)), [.t 2]⟩, ⟨(some 9), none, .mv, [.t 1]⟩, ⟨(some 10), none, (.call 12 .fz), [.t 8, .t 9]⟩, ⟨(some 11), none, (.bin .neq), [.t 10, .k (.c (.int .i64 0))]⟩] false) (.cn (.t 11) (.sq (.rg [⟨(some 4), none, .mv, [.k .z]⟩] false) (.rt)) (.skip))) (.sq (.rg [⟨(some 5), none, .mv, [.k .z]⟩] false) (.sq (.sq (.rg [⟨(some 12), none, .mv, [.t 1]⟩, ⟨(some 13), none, .len, [.t 12]⟩, ⟨(some 14), none, .mv, [.k (.c (.int .i64 0))]⟩] false) (.bl 0 (.lp (.sq (.rg [⟨(some 15), none, (.bin .lss), [.t 14, .t 13]⟩] false) (.sq (.cn (.t 15) (.skip) (.ex 0)) (.sq (.bl 1 (.sq (.rg [⟨(some 16), none, (.ia 3), [.t 12, .t 14]⟩, ⟨(some 17), none, (.ld (some 3)), [.t 16]⟩, ⟨(some 7), none, (.alloc [(.c (.string ⟨#[]⟩)), .z, .z]), []⟩, ⟨none, none, (.st 3), [.t 7, .t 17]⟩] false) (.sq (.rg [⟨(some 18), none, (.fa 1), [.t 7]⟩, ⟨(some 19), none, (.ld none), [.t 18]⟩, ⟨(some 20), none, .len, [.t 19]⟩, ⟨(some 21), none, (.bin .gtr), [.t 20, .k (.c (.int .i64 0))]⟩] false) (.cn (.t 21) (.rg [⟨(some 22), none, .mv, [.t 5]⟩, ⟨(some 23), none, (.ld (some 3)), [.t 7]⟩, ⟨(some 24), none, (.call 43 .fz), [.t 23]⟩, ⟨(some 25), none, (.bsl 1 [.z] [0] 1 true), [.t 24]⟩, ⟨(some 26), none, (.app 1), [.t 22, .t 25]⟩, ⟨(some 5), none, .mv, [.t 26]⟩] false) (.skip))))) (.rg [⟨(some 27), none, (.bin .add), [.t 14, .k (.c (.int .i64 1))]⟩, ⟨(some 14), none, .mv, [.t 27]⟩] false))))))) (.sq (.rg [⟨(some 28), none, .mv, [.t 5]⟩, ⟨(some 4), none, .mv, [.t 28]⟩] false) (.rt)))))
theorem cf13 : compF Tryz.prog 13 c13 = some ⟨c13, [.t 4], 29⟩ := by kernel_rfl

-- raddle/tab.Apply
def c14 : IC := .sq (.rg [⟨(some 3), none, (.box (some 1)), [.t 0]⟩, ⟨(some 5), none, (.box (some 12)), [.t 2]⟩, ⟨(some 6), none, .mv, [.k .z]⟩, ⟨(some 7), none, .mv, [.k .z]⟩, ⟨(some 8), none, .mv, [.k .z]⟩, ⟨(some 9), none, .mv, [.k (.c (.int .i64 0))]⟩] false) (.sq (.rg [⟨(some 13), none, (.ld (some 1)), [.t 3]⟩, ⟨(some 14), none, .mv, [.t 1]⟩, ⟨(some 15), none, (.call 12 .fz), [.t 13, .t 14]⟩, ⟨(some 9), none, .mv, [.t 15]⟩] false) (.sq (.sq (.rg [⟨(some 16), none, .mv, [.t 9]⟩, ⟨(some 17), none, (.bin .neq), [.t 16, .k (.c (.int .i64 0))]⟩] false) (.cn (.t 17) (.sq (.rg [⟨(some 18), none, .mv, [.t 9]⟩, ⟨(some 6), none, .mv, [.k .z]⟩, ⟨(some 7), none, .mv, [.k .z]⟩, ⟨(some 8), none, .mv, [.k .z]⟩, ⟨(some 9), none, .mv, [.t 18]⟩] false) (.rt)) (.skip))) (.sq (.rg [⟨(some 19), none, (.ld (some 12)), [.t 5]⟩, ⟨(some 10), none, (.alloc [(.c (.int .i64 0)), (.c (.int .i64 0)), .z, (.c (.int .i64 0)), (.c (.int .i64 0)), (.c (.int .i64 0)), (.c (.int .i64 0)), (.c (.int .i64 0)), (.c (.string ⟨#[]⟩)), (.c (.int .i64 0)), .z, .z]), []⟩, ⟨none, none, (.st 12), [.t 10, .t 19]⟩] false) (.sq (.rg [⟨(some 20), none, (.fa 7), [.t 10]⟩, ⟨none, none, (.st 1), [.t 20, .k (.c (.int .i64 0))]⟩] false) (.sq (.sq (.rg [⟨(some 21), none, (.fa 2), [.t 5]⟩, ⟨(some 22), none, (.ld none), [.t 21]⟩, ⟨(some 23), none, .len, [.t 22]⟩, ⟨(some 24), none, (.ld (some 1)), [.t 3]⟩, ⟨(some 25), none, (.bsl 1 [.z] [0] 1 true), [.t 24]⟩, ⟨(some 26), none, (.ld (some 12)), [.t 10]⟩, ⟨(some 27), none, (.call 44 .fz), [.t 23, .t 25, .t 26]⟩, ⟨(some 28), none, (.bin .neq), [.t 27, .k (.c (.int .i64 0))]⟩] false) (.cn (.t 28) (.sq (.rg [⟨(some 6), none, .mv, [.k .z]⟩, ⟨(some 7), none, .mv, [.k .z]⟩, ⟨(some 8), none, .mv, [.k .z]⟩, ⟨(some 9), none, .mv, [.k (.c (.int .i64 1))]⟩] false) (.rt)) (.skip))) (.sq (.rg [⟨(some 29), none, .mv, [.t 1]⟩, ⟨(some 30), none, (.rcall 45), [.t 29]⟩, ⟨(some 6), none, .mv, [.t 30]⟩] false) (.sq (.rg [⟨(some 32), none, .mv, [.t 6]⟩, ⟨(some 33), none, (.fa 8), [.t 5]⟩, ⟨(some 34), none, (.ld none), [.t 33]⟩, ⟨(some 35), none, (.call 46 .fz), [.t 32, .t 34, .k (.fn 47 [])]⟩, ⟨(some 31), none, .mv, [.t 35]⟩, ⟨(some 36), none, (.ext 0), [.t 31]⟩, ⟨(some 37), none, (.ext 1), [.t 31]⟩, ⟨(some 11), none, .mv, [.t 36]⟩, ⟨(some 12), none, .mv, [.t 37]⟩] false) (.sq (.sq (.rg [⟨(some 38), none, .mv, [.t 12]⟩, ⟨(some 39), none, (.un .not), [.t 38]⟩] false) (.cn (.t 39) (.rb [⟨(some 40), none, .mv, [.t 6]⟩, ⟨(some 41), none, .mv, [.t 11]⟩, ⟨(some 42), none, (.fa 8), [.t 5]⟩, ⟨(some 43), none, (.ld none), [.t 42]⟩, ⟨(some 44), none, (.fa 0), [.t 3]⟩, ⟨(some 45), none, (.ld none), [.t 44]⟩, ⟨(some 46), none, .len, [.t 45]⟩, ⟨(some 47), none, (.mks 8 [(.c (.int .i64 0)), (.c (.int .i64 0)), (.c (.string ⟨#[]⟩)), (.c (.int .i64 0)), (.c (.int .i64 0)), (.c (.int .i64 0)), (.c (.int .i64 0)), (.c (.int .i64 0))] false), [.t 46, .t 46]⟩, ⟨(some 48), none, (.bld [(.c (.string ⟨#[]⟩)), .z, .z] [(0, 1), (2, 1)]), [.t 43, .t 47]⟩, ⟨(some 49), none, (.bsl 3 [(.c (.string ⟨#[]⟩)), .z, .z] [0] 1 false), [.t 48]⟩] ⟨(some 50), none, (.rcall 49), [.t 40, .t 41, .t 49]⟩ [⟨(some 6), none, .mv, [.t 50]⟩]) (.skip))) (.sq (.rg [⟨(some 51), none, .mv, [.t 6]⟩, ⟨(some 52), none, .mv, [.t 11]⟩, ⟨(some 53), none, (.ia 3), [.t 51, .t 52]⟩, ⟨(some 54), none, (.ld (some 3)), [.t 53]⟩, ⟨(some 55), none, (.call 43 .fz), [.t 54]⟩, ⟨(some 7), none, .mv, [.t 55]⟩] false) (.sq (.rb [⟨(some 56), none, .mv, [.t 6]⟩, ⟨(some 57), none, .mv, [.t 11]⟩, ⟨(some 58), none, (.ia 3), [.t 56, .t 57]⟩, ⟨(some 59), none, (.ld (some 12)), [.t 5]⟩] ⟨(some 60), none, (.rcall 50), [.t 58, .t 59]⟩ []) (.sq (.rg [⟨(some 61), none, .mv, [.t 6]⟩, ⟨(some 62), none, .mv, [.t 7]⟩, ⟨(some 63), none, .mv, [.t 6]⟩, ⟨(some 64), none, .mv, [.t 11]⟩, ⟨(some 65), none, (.ia 3), [.t 63, .t 64]⟩, ⟨(some 66), none, (.ld (some 3)), [.t 65]⟩, ⟨(some 67), none, (.call 43 .fz), [.t 66]⟩, ⟨(some 6), none, .mv, [.t 61]⟩, ⟨(some 7), none, .mv, [.t 62]⟩, ⟨(some 8), none, .mv, [.t 67]⟩, ⟨(some 9), none, .mv, [.k (.c (.int .i64 0))]⟩] false) (.rt))))))))))))
theorem cf14 : compF Tryz.prog 14 c14 = some ⟨c14, [.t 6, .t 7, .t 8, .t 9], 68⟩ := by kernel_rfl

-- raddle/raddlekeep.Row
def c15 : IC := .sq (.rg [⟨(some 4), none, .mv, [.k (.c (.bool false))]⟩] false) (.sq (.sq (.rg [⟨(some 6), none, .mv, [.t 0]⟩, ⟨(some 7), none, .len, [.t 6]⟩, ⟨(some 8), none, .mv, [.t 1]⟩, ⟨(some 9), none, .len, [.t 8]⟩, ⟨(some 10), none, (.bin .neq), [.t 7, .t 9]⟩] false) (.cn (.t 10) (.sq (.rg [⟨(some 4), none, .mv, [.k (.c (.bool false))]⟩] false) (.rt)) (.skip))) (.sq (.sq (.rg [⟨(some 5), none, .mv, [.k (.c (.int .i64 0))]⟩] false) (.bl 0 (.lp (.sq (.sq (.rg [⟨(some 11), none, .mv, [.t 5]⟩, ⟨(some 12), none, .mv, [.t 0]⟩, ⟨(some 13), none, .len, [.t 12]⟩, ⟨(some 14), none, (.bin .lss), [.t 11, .t 13]⟩] false) (.cn (.t 14) (.skip) (.ex 0))) (.sq (.bl 1 (.sq (.rg [⟨(some 17), none, .mv, [.t 0]⟩, ⟨(some 18), none, .mv, [.t 5]⟩, ⟨(some 19), none, (.ia 3), [.t 17, .t 18]⟩, ⟨(some 20), none, (.ld (some 3)), [.t 19]⟩, ⟨(some 21), none, .mv, [.t 1]⟩, ⟨(some 22), none, .mv, [.t 5]⟩, ⟨(some 23), none, (.ia 3), [.t 21, .t 22]⟩, ⟨(some 24), none, (.ld (some 3)), [.t 23]⟩, ⟨(some 25), none, (.call 51 .fz), [.t 20, .t 24]⟩, ⟨(some 26), none, (.un .not), [.t 25]⟩] true) (.cn (.t 26) (.sq (.rg [⟨(some 4), none, .mv, [.k (.c (.bool false))]⟩] false) (.rt)) (.skip)))) (.rg [⟨(some 15), none, .mv, [.t 5]⟩, ⟨(some 16), none, (.bin .add), [.t 15, .k (.c (.int .i64 1))]⟩, ⟨(some 5), none, .mv, [.t 16]⟩] false)))))) (.sq (.rg [⟨(some 4), none, .mv, [.k (.c (.bool true))]⟩] false) (.rt))))
theorem cf15 : compF Tryz.prog 15 c15 = some ⟨c15, [.t 4], 27⟩ := by kernel_rfl

-- raddle/raddleref01.CompareStamps
-- raddle/raddlekeep.Dot
def c17 : IC := .sq (.rg [⟨(some 2), none, (.box (some 2)), [.t 0]⟩, ⟨(some 3), none, (.box (some 2)), [.t 1]⟩, ⟨(some 4), none, .mv, [.k (.c (.bool false))]⟩] false) (.sq (.rg [⟨(some 5), none, (.fa 0), [.t 2]⟩, ⟨(some 6), none, (.ld none), [.t 5]⟩, ⟨(some 7), none, (.fa 0), [.t 3]⟩, ⟨(some 8), none, (.ld none), [.t 7]⟩, ⟨(some 9), none, (.bin .eql), [.t 6, .t 8]⟩, ⟨(some 10), none, .mv, [.t 9]⟩, ⟨(some 11), (some (10, true)), (.fa 1), [.t 2]⟩, ⟨(some 12), (some (10, true)), (.ld none), [.t 11]⟩, ⟨(some 13), (some (10, true)), (.fa 1), [.t 3]⟩, ⟨(some 14), (some (10, true)), (.ld none), [.t 13]⟩, ⟨(some 15), (some (10, true)), (.bin .eql), [.t 12, .t 14]⟩, ⟨(some 16), none, .pick, [.t 10, .t 15, .k (.c (.bool false))]⟩, ⟨(some 4), none, .mv, [.t 16]⟩] false) (.rt))
theorem cf17 : compF Tryz.prog 17 c17 = some ⟨c17, [.t 4], 17⟩ := by kernel_rfl

-- raddle/raddlekeep.Table
def c18 : IC := .sq (.rg [⟨(some 4), none, .mv, [.k (.c (.bool false))]⟩] false) (.sq (.sq (.rg [⟨(some 6), none, .mv, [.t 0]⟩, ⟨(some 7), none, .len, [.t 6]⟩, ⟨(some 8), none, .mv, [.t 1]⟩, ⟨(some 9), none, .len, [.t 8]⟩, ⟨(some 10), none, (.bin .neq), [.t 7, .t 9]⟩] false) (.cn (.t 10) (.sq (.rg [⟨(some 4), none, .mv, [.k (.c (.bool false))]⟩] false) (.rt)) (.skip))) (.sq (.sq (.rg [⟨(some 5), none, .mv, [.k (.c (.int .i64 0))]⟩] false) (.bl 0 (.lp (.sq (.sq (.rg [⟨(some 11), none, .mv, [.t 5]⟩, ⟨(some 12), none, .mv, [.t 0]⟩, ⟨(some 13), none, .len, [.t 12]⟩, ⟨(some 14), none, (.bin .lss), [.t 11, .t 13]⟩] false) (.cn (.t 14) (.skip) (.ex 0))) (.sq (.bl 1 (.sq (.rg [⟨(some 17), none, .mv, [.t 0]⟩, ⟨(some 18), none, .mv, [.t 5]⟩, ⟨(some 19), none, (.ia 3), [.t 17, .t 18]⟩, ⟨(some 20), none, (.fa 0), [.t 19]⟩, ⟨(some 21), none, (.ld none), [.t 20]⟩, ⟨(some 22), none, .mv, [.t 1]⟩, ⟨(some 23), none, .mv, [.t 5]⟩, ⟨(some 24), none, (.ia 3), [.t 22, .t 23]⟩, ⟨(some 25), none, (.fa 0), [.t 24]⟩, ⟨(some 26), none, (.ld none), [.t 25]⟩, ⟨(some 27), none, (.bin .neq), [.t 21, .t 26]⟩, ⟨(some 28), none, .mv, [.t 27]⟩, ⟨(some 29), (some (28, false)), .mv, [.t 0]⟩, ⟨(some 30), (some (28, false)), .mv, [.t 5]⟩, ⟨(some 31), (some (28, false)), (.ia 3), [.t 29, .t 30]⟩, ⟨(some 32), (some (28, false)), (.fa 1), [.t 31]⟩, ⟨(some 33), (some (28, false)), (.ld none), [.t 32]⟩, ⟨(some 34), (some (28, false)), .mv, [.t 1]⟩, ⟨(some 35), (some (28, false)), .mv, [.t 5]⟩, ⟨(some 36), (some (28, false)), (.ia 3), [.t 34, .t 35]⟩, ⟨(some 37), (some (28, false)), (.fa 1), [.t 36]⟩, ⟨(some 38), (some (28, false)), (.ld none), [.t 37]⟩, ⟨(some 39), (some (28, false)), (.call 53 .fz), [.t 33, .t 38]⟩, ⟨(some 40), (some (28, false)), (.un .not), [.t 39]⟩, ⟨(some 41), none, .pick, [.t 28, .k (.c (.bool true)), .t 40]⟩, ⟨(some 42), none, .mv, [.t 41]⟩, ⟨(some 43), (some (42, false)), .mv, [.t 0]⟩, ⟨(some 44), (some (42, false)), .mv, [.t 5]⟩, ⟨(some 45), (some (42, false)), (.ia 3), [.t 43, .t 44]⟩, ⟨(some 46), (some (42, false)), (.fa 2), [.t 45]⟩, ⟨(some 47), (some (42, false)), (.ld none), [.t 46]⟩, ⟨(some 48), (some (42, false)), .mv, [.t 1]⟩, ⟨(some 49), (some (42, false)), .mv, [.t 5]⟩, ⟨(some 50), (some (42, false)), (.ia 3), [.t 48, .t 49]⟩, ⟨(some 51), (some (42, false)), (.fa 2), [.t 50]⟩, ⟨(some 52), (some (42, false)), (.ld none), [.t 51]⟩, ⟨(some 53), (some (42, false)), (.call 54 .fz), [.t 47, .t 52]⟩, ⟨(some 54), (some (42, false)), (.un .not), [.t 53]⟩, ⟨(some 55), none, .pick, [.t 42, .k (.c (.bool true)), .t 54]⟩] true) (.cn (.t 55) (.sq (.rg [⟨(some 4), none, .mv, [.k (.c (.bool false))]⟩] false) (.rt)) (.skip)))) (.rg [⟨(some 15), none, .mv, [.t 5]⟩, ⟨(some 16), none, (.bin .add), [.t 15, .k (.c (.int .i64 1))]⟩, ⟨(some 5), none, .mv, [.t 16]⟩] false)))))) (.sq (.rg [⟨(some 4), none, .mv, [.k (.c (.bool true))]⟩] false) (.rt))))
theorem cf18 : compF Tryz.prog 18 c18 = some ⟨c18, [.t 4], 56⟩ := by kernel_rfl

-- raddle/raddleref01.Vector
def c19 : IC := .sq (.rg [⟨(some 2), none, .mv, [.k (.c (.int .i64 0))]⟩] false) (.sq (.sq (.rg [⟨(some 4), none, .mv, [.t 0]⟩, ⟨(some 5), none, .len, [.t 4]⟩, ⟨(some 6), none, (.call 39 .fz), [.t 5, .k (.c (.int .i64 1)), .k (.c (.int .i64 5))]⟩, ⟨(some 7), none, (.un .not), [.t 6]⟩] false) (.cn (.t 7) (.sq (.rg [⟨(some 2), none, .mv, [.k (.c (.int .i64 2))]⟩] false) (.rt)) (.skip))) (.sq (.sq (.rg [⟨(some 3), none, .mv, [.k (.c (.int .i64 0))]⟩] false) (.bl 0 (.lp (.sq (.sq (.rg [⟨(some 8), none, .mv, [.t 3]⟩, ⟨(some 9), none, .mv, [.t 0]⟩, ⟨(some 10), none, .len, [.t 9]⟩, ⟨(some 11), none, (.bin .lss), [.t 8, .t 10]⟩] false) (.cn (.t 11) (.skip) (.ex 0))) (.sq (.bl 1 (.sq (.rg [⟨(some 14), none, .mv, [.t 0]⟩, ⟨(some 15), none, .mv, [.t 3]⟩, ⟨(some 16), none, (.ia 1), [.t 14, .t 15]⟩, ⟨(some 17), none, (.ld none), [.t 16]⟩, ⟨(some 18), none, (.call 39 .fz), [.t 17, .k (.c (.int .i64 0)), .k (.c (.int .i64 1073741824))]⟩, ⟨(some 19), none, (.un .not), [.t 18]⟩] false) (.cn (.t 19) (.sq (.rg [⟨(some 2), none, .mv, [.k (.c (.int .i64 1))]⟩] false) (.rt)) (.skip)))) (.rg [⟨(some 12), none, .mv, [.t 3]⟩, ⟨(some 13), none, (.bin .add), [.t 12, .k (.c (.int .i64 1))]⟩, ⟨(some 3), none, .mv, [.t 13]⟩] false)))))) (.sq (.rg [⟨(some 2), none, .mv, [.k (.c (.int .i64 0))]⟩] false) (.rt))))
theorem cf19 : compF Tryz.prog 19 c19 = some ⟨c19, [.t 2], 20⟩ := by kernel_rfl

-- raddle/tab.Compact
def c20 : IC := .sq (.rg [⟨(some 3), none, (.box (some 1)), [.t 0]⟩, ⟨(some 5), none, (.box none), [.t 2]⟩, ⟨(some 6), none, .mv, [.k .z]⟩, ⟨(some 7), none, .mv, [.k (.c (.int .i64 0))]⟩, ⟨(some 8), none, .mv, [.k (.c (.int .i64 0))]⟩] false) (.sq (.rg [⟨(some 11), none, (.ld (some 1)), [.t 3]⟩, ⟨(some 12), none, .mv, [.t 1]⟩, ⟨(some 13), none, (.call 12 .fz), [.t 11, .t 12]⟩, ⟨(some 9), none, .mv, [.t 13]⟩] false) (.sq (.sq (.rg [⟨(some 14), none, .mv, [.t 9]⟩, ⟨(some 15), none, (.bin .neq), [.t 14, .k (.c (.int .i64 0))]⟩] false) (.cn (.t 15) (.sq (.rg [⟨(some 16), none, .mv, [.t 9]⟩, ⟨(some 6), none, .mv, [.k .z]⟩, ⟨(some 7), none, .mv, [.k (.c (.int .i64 0))]⟩, ⟨(some 8), none, .mv, [.t 16]⟩] false) (.rt)) (.skip))) (.sq (.rg [⟨(some 17), none, (.ld none), [.t 5]⟩, ⟨(some 18), none, (.call 55 .fz), [.t 17]⟩, ⟨(some 9), none, .mv, [.t 18]⟩] false) (.sq (.sq (.rg [⟨(some 19), none, .mv, [.t 9]⟩, ⟨(some 20), none, (.bin .neq), [.t 19, .k (.c (.int .i64 0))]⟩] false) (.cn (.t 20) (.sq (.rg [⟨(some 21), none, .mv, [.t 9]⟩, ⟨(some 6), none, .mv, [.k .z]⟩, ⟨(some 7), none, .mv, [.k (.c (.int .i64 0))]⟩, ⟨(some 8), none, .mv, [.t 21]⟩] false) (.rt)) (.skip))) (.sq (.rg [⟨(some 22), none, .mv, [.t 1]⟩, ⟨(some 23), none, (.rcall 45), [.t 22]⟩, ⟨(some 24), none, (.mkf 57), [.t 5]⟩, ⟨(some 25), none, (.rcall 56), [.t 23, .t 24]⟩, ⟨(some 10), none, .mv, [.t 25]⟩] false) (.sq (.rg [⟨(some 26), none, .mv, [.t 10]⟩, ⟨(some 27), none, (.rcall 62), [.t 26]⟩, ⟨(some 28), none, .mv, [.t 1]⟩, ⟨(some 29), none, .len, [.t 28]⟩, ⟨(some 30), none, .mv, [.t 10]⟩, ⟨(some 31), none, .len, [.t 30]⟩, ⟨(some 32), none, (.bin .sub), [.t 29, .t 31]⟩, ⟨(some 6), none, .mv, [.t 27]⟩, ⟨(some 7), none, .mv, [.t 32]⟩, ⟨(some 8), none, .mv, [.k (.c (.int .i64 0))]⟩] false) (.rt)))))))
theorem cf20 : compF Tryz.prog 20 c20 = some ⟨c20, [.t 6, .t 7, .t 8], 33⟩ := by kernel_rfl

-- raddle/tab.Dead
def c21 : IC := .sq (.rg [⟨(some 2), none, .mv, [.k (.c (.int .i64 0))]⟩] false) (.sq (.rg [⟨(some 3), none, .mv, [.k (.c (.int .i64 0))]⟩] false) (.sq (.sq (.rg [⟨(some 6), none, .mv, [.t 0]⟩, ⟨(some 7), none, .len, [.t 6]⟩, ⟨(some 8), none, .mv, [.k (.c (.int .i64 0))]⟩] false) (.bl 0 (.lp (.sq (.rg [⟨(some 9), none, (.bin .lss), [.t 8, .t 7]⟩] false) (.sq (.cn (.t 9) (.skip) (.ex 0)) (.sq (.bl 1 (.sq (.rg [⟨(some 10), none, (.ia 3), [.t 6, .t 8]⟩, ⟨(some 11), none, (.ld (some 3)), [.t 10]⟩, ⟨(some 5), none, (.alloc [(.c (.string ⟨#[]⟩)), .z, .z]), []⟩, ⟨none, none, (.st 3), [.t 5, .t 11]⟩] false) (.sq (.rg [⟨(some 12), none, (.fa 1), [.t 5]⟩, ⟨(some 13), none, (.ld none), [.t 12]⟩, ⟨(some 14), none, .len, [.t 13]⟩, ⟨(some 15), none, (.bin .eql), [.t 14, .k (.c (.int .i64 0))]⟩] false) (.cn (.t 15) (.rg [⟨(some 16), none, .mv, [.t 3]⟩, ⟨(some 17), none, (.bin .add), [.t 16, .k (.c (.int .i64 1))]⟩, ⟨(some 3), none, .mv, [.t 17]⟩] false) (.skip))))) (.rg [⟨(some 18), none, (.bin .add), [.t 8, .k (.c (.int .i64 1))]⟩, ⟨(some 8), none, .mv, [.t 18]⟩] false))))))) (.sq (.rg [⟨(some 19), none, .mv, [.t 3]⟩, ⟨(some 2), none, .mv, [.t 19]⟩] false) (.rt))))
theorem cf21 : compF Tryz.prog 21 c21 = some ⟨c21, [.t 2], 20⟩ := by kernel_rfl

-- raddle/raddlekeep.Rows
def c22 : IC := .sq (.rg [⟨(some 4), none, .mv, [.k (.c (.bool false))]⟩] false) (.sq (.sq (.rg [⟨(some 6), none, .mv, [.t 0]⟩, ⟨(some 7), none, .len, [.t 6]⟩, ⟨(some 8), none, .mv, [.t 1]⟩, ⟨(some 9), none, .len, [.t 8]⟩, ⟨(some 10), none, (.bin .neq), [.t 7, .t 9]⟩] false) (.cn (.t 10) (.sq (.rg [⟨(some 4), none, .mv, [.k (.c (.bool false))]⟩] false) (.rt)) (.skip))) (.sq (.sq (.rg [⟨(some 5), none, .mv, [.k (.c (.int .i64 0))]⟩] false) (.bl 0 (.lp (.sq (.sq (.rg [⟨(some 11), none, .mv, [.t 5]⟩, ⟨(some 12), none, .mv, [.t 0]⟩, ⟨(some 13), none, .len, [.t 12]⟩, ⟨(some 14), none, (.bin .lss), [.t 11, .t 13]⟩] false) (.cn (.t 14) (.skip) (.ex 0))) (.sq (.bl 1 (.sq (.rg [⟨(some 17), none, .mv, [.t 0]⟩, ⟨(some 18), none, .mv, [.t 5]⟩, ⟨(some 19), none, (.ia 1), [.t 17, .t 18]⟩, ⟨(some 20), none, (.ld none), [.t 19]⟩, ⟨(some 21), none, .mv, [.t 1]⟩, ⟨(some 22), none, .mv, [.t 5]⟩, ⟨(some 23), none, (.ia 1), [.t 21, .t 22]⟩, ⟨(some 24), none, (.ld none), [.t 23]⟩, ⟨(some 25), none, (.call 15 .fz), [.t 20, .t 24]⟩, ⟨(some 26), none, (.un .not), [.t 25]⟩] true) (.cn (.t 26) (.sq (.rg [⟨(some 4), none, .mv, [.k (.c (.bool false))]⟩] false) (.rt)) (.skip)))) (.rg [⟨(some 15), none, .mv, [.t 5]⟩, ⟨(some 16), none, (.bin .add), [.t 15, .k (.c (.int .i64 1))]⟩, ⟨(some 5), none, .mv, [.t 16]⟩] false)))))) (.sq (.rg [⟨(some 4), none, .mv, [.k (.c (.bool true))]⟩] false) (.rt))))
theorem cf22 : compF Tryz.prog 22 c22 = some ⟨c22, [.t 4], 27⟩ := by kernel_rfl

-- raddle/raddlelaw10.HeavyTable
-- raddle/raddlekeep.TwinTable
-- raddle/raddlekeep.TwinOp
-- raddle/raddlekeep.TwinInts
-- raddle/raddleref09.Table
def c27 : IC := .sq (.rg [⟨(some 2), none, (.box (some 1)), [.t 0]⟩, ⟨(some 4), none, .mv, [.k (.c (.int .i64 0))]⟩] false) (.sq (.sq (.rg [⟨(some 10), none, (.ld (some 1)), [.t 2]⟩, ⟨(some 11), none, (.bsl 1 [.z] [0] 1 true), [.t 10]⟩, ⟨(some 12), none, (.call 10 .fz), [.t 11]⟩, ⟨(some 13), none, (.bin .neq), [.t 12, .k (.c (.int .i64 0))]⟩] false) (.cn (.t 13) (.sq (.rg [⟨(some 4), none, .mv, [.k (.c (.int .i64 10))]⟩] false) (.rt)) (.skip))) (.sq (.sq (.rg [⟨(some 5), none, .mv, [.k (.c (.int .i64 0))]⟩] false) (.bl 0 (.lp (.sq (.sq (.rg [⟨(some 14), none, .mv, [.t 5]⟩, ⟨(some 15), none, .mv, [.t 1]⟩, ⟨(some 16), none, .len, [.t 15]⟩, ⟨(some 17), none, (.bin .lss), [.t 14, .t 16]⟩] false) (.cn (.t 17) (.skip) (.ex 0))) (.sq (.bl 1 (.sq (.rg [⟨(some 20), none, .mv, [.t 1]⟩, ⟨(some 21), none, .mv, [.t 5]⟩, ⟨(some 22), none, (.ia 3), [.t 20, .t 21]⟩, ⟨(some 23), none, (.ld (some 3)), [.t 22]⟩, ⟨(some 6), none, (.alloc [(.c (.string ⟨#[]⟩)), .z, .z]), []⟩, ⟨none, none, (.st 3), [.t 6, .t 23]⟩] false) (.sq (.sq (.rg [⟨(some 24), none, (.fa 0), [.t 6]⟩, ⟨(some 25), none, (.ld none), [.t 24]⟩, ⟨(some 26), none, (.call 64 .fz), [.t 25]⟩, ⟨(some 27), none, (.un .not), [.t 26]⟩, ⟨(some 28), none, .mv, [.t 27]⟩, ⟨(some 29), (some (28, false)), .mv, [.t 5]⟩, ⟨(some 30), (some (28, false)), (.bin .gtr), [.t 29, .k (.c (.int .i64 0))]⟩, ⟨(some 31), (some (28, false)), .mv, [.t 30]⟩, ⟨(some 32), (some (31, true)), (.fa 0), [.t 6]⟩, ⟨(some 33), (some (31, true)), (.ld none), [.t 32]⟩, ⟨(some 34), (some (31, true)), .mv, [.t 1]⟩, ⟨(some 35), (some (31, true)), .mv, [.t 5]⟩, ⟨(some 36), (some (31, true)), (.bin .sub), [.t 35, .k (.c (.int .i64 1))]⟩, ⟨(some 37), (some (31, true)), (.ia 3), [.t 34, .t 36]⟩, ⟨(some 38), (some (31, true)), (.fa 0), [.t 37]⟩, ⟨(some 39), (some (31, true)), (.ld none), [.t 38]⟩, ⟨(some 40), (some (31, true)), (.bin .leq), [.t 33, .t 39]⟩, ⟨(some 41), (some (28, false)), .pick, [.t 31, .t 40, .k (.c (.bool false))]⟩, ⟨(some 42), none, .pick, [.t 28, .k (.c (.bool true)), .t 41]⟩, ⟨(some 43), none, .mv, [.t 42]⟩, ⟨(some 44), (some (43, false)), (.fa 2), [.t 6]⟩, ⟨(some 45), (some (43, false)), (.ld none), [.t 44]⟩, ⟨(some 46), (some (43, false)), .len, [.t 45]⟩, ⟨(some 47), (some (43, false)), (.fa 0), [.t 2]⟩, ⟨(some 48), (some (43, false)), (.ld none), [.t 47]⟩, ⟨(some 49), (some (43, false)), .len, [.t 48]⟩, ⟨(some 50), (some (43, false)), (.bin .neq), [.t 46, .t 49]⟩, ⟨(some 51), none, .pick, [.t 43, .k (.c (.bool true)), .t 50]⟩] true) (.cn (.t 51) (.sq (.rg [⟨(some 4), none, .mv, [.k (.c (.int .i64 1))]⟩] false) (.rt)) (.skip))) (.sq (.sq (.rg [⟨(some 7), none, .mv, [.k (.c (.int .i64 0))]⟩] false) (.bl 2 (.lp (.sq (.sq (.rg [⟨(some 52), none, .mv, [.t 7]⟩, ⟨(some 53), none, (.fa 1), [.t 6]⟩, ⟨(some 54), none, (.ld none), [.t 53]⟩, ⟨(some 55), none, .len, [.t 54]⟩, ⟨(some 56), none, (.bin .lss), [.t 52, .t 55]⟩] false) (.cn (.t 56) (.skip) (.ex 2))) (.sq (.bl 3 (.sq (.rg [⟨(some 59), none, (.fa 1), [.t 6]⟩, ⟨(some 60), none, (.ld none), [.t 59]⟩, ⟨(some 61), none, .mv, [.t 7]⟩, ⟨(some 62), none, (.ia 2), [.t 60, .t 61]⟩, ⟨(some 63), none, (.ld (some 2)), [.t 62]⟩, ⟨(some 64), none, (.call 65 .fz), [.t 63]⟩, ⟨(some 65), none, (.un .not), [.t 64]⟩, ⟨(some 66), none, .mv, [.t 65]⟩, ⟨(some 67), (some (66, false)), .mv, [.t 7]⟩, ⟨(some 68), (some (66, false)), (.bin .gtr), [.t 67, .k (.c (.int .i64 0))]⟩, ⟨(some 69), (some (66, false)), .mv, [.t 68]⟩, ⟨(some 70), (some (69, true)), (.fa 1), [.t 6]⟩, ⟨(some 71), (some (69, true)), (.ld none), [.t 70]⟩, ⟨(some 72), (some (69, true)), .mv, [.t 7]⟩, ⟨(some 73), (some (69, true)), (.bin .sub), [.t 72, .k (.c (.int .i64 1))]⟩, ⟨(some 74), (some (69, true)), (.ia 2), [.t 71, .t 73]⟩, ⟨(some 75), (some (69, true)), (.ld (some 2)), [.t 74]⟩, ⟨(some 76), (some (69, true)), (.fa 1), [.t 6]⟩, ⟨(some 77), (some (69, true)), (.ld none), [.t 76]⟩, ⟨(some 78), (some (69, true)), .mv, [.t 7]⟩, ⟨(some 79), (some (69, true)), (.ia 2), [.t 77, .t 78]⟩, ⟨(some 80), (some (69, true)), (.ld (some 2)), [.t 79]⟩, ⟨(some 81), (some (69, true)), (.call 66 .fz), [.t 75, .t 80]⟩, ⟨(some 82), (some (69, true)), (.un .not), [.t 81]⟩, ⟨(some 83), (some (66, false)), .pick, [.t 69, .t 82, .k (.c (.bool false))]⟩, ⟨(some 84), none, .pick, [.t 66, .k (.c (.bool true)), .t 83]⟩] true) (.cn (.t 84) (.sq (.rg [⟨(some 4), none, .mv, [.k (.c (.int .i64 1))]⟩] false) (.rt)) (.skip)))) (.rg [⟨(some 57), none, .mv, [.t 7]⟩, ⟨(some 58), none, (.bin .add), [.t 57, .k (.c (.int .i64 1))]⟩, ⟨(some 7), none, .mv, [.t 58]⟩] false)))))) (.sq (.rg [⟨(some 8), none, .mv, [.k (.c (.int .i64 0))]⟩] false) (.bl 4 (.lp (.sq (.sq (.rg [⟨(some 85), none, .mv, [.t 8]⟩, ⟨(some 86), none, (.fa 2), [.t 6]⟩, ⟨(some 87), none, (.ld none), [.t 86]⟩, ⟨(some 88), none, .len, [.t 87]⟩, ⟨(some 89), none, (.bin .lss), [.t 85, .t 88]⟩] false) (.cn (.t 89) (.skip) (.ex 4))) (.sq (.bl 5 (.sq (.rg [⟨(some 92), none, (.fa 2), [.t 6]⟩, ⟨(some 93), none, (.ld none), [.t 92]⟩, ⟨(some 94), none, .mv, [.t 8]⟩, ⟨(some 95), none, (.ia 8), [.t 93, .t 94]⟩, ⟨(some 96), none, (.ld (some 8)), [.t 95]⟩, ⟨(some 9), none, (.alloc [(.c (.int .i64 0)), (.c (.int .i64 0)), (.c (.string ⟨#[]⟩)), (.c (.int .i64 0)), (.c (.int .i64 0)), (.c (.int .i64 0)), (.c (.int .i64 0)), (.c (.int .i64 0))]), []⟩, ⟨none, none, (.st 8), [.t 9, .t 96]⟩] false) (.sq (.rg [⟨(some 97), none, (.ld (some 8)), [.t 9]⟩, ⟨(some 98), none, (.call 67 .fz), [.t 97]⟩] false) (.cn (.t 98) (.sq (.rg [⟨(some 99), none, (.fa 1), [.t 6]⟩, ⟨(some 100), none, (.ld none), [.t 99]⟩, ⟨(some 101), none, .len, [.t 100]⟩, ⟨(some 102), none, (.bin .gtr), [.t 101, .k (.c (.int .i64 0))]⟩, ⟨(some 103), none, .mv, [.t 102]⟩, ⟨(some 104), (some (103, false)), (.fa 0), [.t 9]⟩, ⟨(some 105), (some (103, false)), (.ld (some 3)), [.t 104]⟩, ⟨(some 106), (some (103, false)), (.bld [(.c (.int .i64 0)), (.c (.int .i64 0)), (.c (.string ⟨#[]⟩))] []), []⟩, ⟨(some 107), (some (103, false)), (.call 51 .fz), [.t 105, .t 106]⟩, ⟨(some 108), (some (103, false)), (.un .not), [.t 107]⟩, ⟨(some 109), none, .pick, [.t 103, .k (.c (.bool true)), .t 108]⟩, ⟨(some 110), none, .mv, [.t 109]⟩, ⟨(some 111), (some (110, false)), (.fa 3), [.t 9]⟩, ⟨(some 112), (some (110, false)), (.ld (some 3)), [.t 111]⟩, ⟨(some 113), (some (110, false)), (.bld [(.c (.int .i64 0)), (.c (.int .i64 0)), (.c (.int .i64 0))] []), []⟩, ⟨(some 114), (some (110, false)), (.call 68 .fz), [.t 112, .t 113]⟩, ⟨(some 115), (some (110, false)), (.un .not), [.t 114]⟩, ⟨(some 116), none, .pick, [.t 110, .k (.c (.bool true)), .t 115]⟩] false) (.cn (.t 116) (.sq (.rg [⟨(some 4), none, .mv, [.k (.c (.int .i64 1))]⟩] false) (.rt)) (.skip))) (.sq (.rg [⟨(some 117), none, (.fa 6), [.t 9]⟩, ⟨(some 118), none, (.ld (some 2)), [.t 117]⟩, ⟨(some 119), none, (.call 65 .fz), [.t 118]⟩, ⟨(some 120), none, (.un .not), [.t 119]⟩, ⟨(some 121), none, .mv, [.t 120]⟩, ⟨(some 122), (some (121, false)), (.fa 0), [.t 9]⟩, ⟨(some 123), (some (121, false)), (.ld (some 3)), [.t 122]⟩, ⟨(some 124), (some (121, false)), (.call 69 .fz), [.t 123]⟩, ⟨(some 125), (some (121, false)), (.un .not), [.t 124]⟩, ⟨(some 126), none, .pick, [.t 121, .k (.c (.bool true)), .t 125]⟩, ⟨(some 127), none, .mv, [.t 126]⟩, ⟨(some 128), (some (127, false)), (.fa 0), [.t 9]⟩, ⟨(some 129), (some (127, false)), (.ld (some 3)), [.t 128]⟩, ⟨(some 130), (some (127, false)), (.fa 0), [.t 2]⟩, ⟨(some 131), (some (127, false)), (.ld none), [.t 130]⟩, ⟨(some 132), (some (127, false)), .mv, [.t 8]⟩, ⟨(some 133), (some (127, false)), (.ia 1), [.t 131, .t 132]⟩, ⟨(some 134), (some (127, false)), (.ld none), [.t 133]⟩, ⟨(some 135), (some (127, false)), (.call 70 .fz), [.t 129, .t 134]⟩, ⟨(some 136), (some (127, false)), (.un .not), [.t 135]⟩, ⟨(some 137), none, .pick, [.t 127, .k (.c (.bool true)), .t 136]⟩, ⟨(some 138), none, .mv, [.t 137]⟩, ⟨(some 139), (some (138, false)), (.fa 3), [.t 9]⟩, ⟨(some 140), (some (138, false)), (.ld (some 3)), [.t 139]⟩, ⟨(some 141), (some (138, false)), (.call 71 .fz), [.t 140]⟩, ⟨(some 142), (some (138, false)), (.un .not), [.t 141]⟩, ⟨(some 143), none, .pick, [.t 138, .k (.c (.bool true)), .t 142]⟩] true) (.cn (.t 143) (.sq (.rg [⟨(some 4), none, .mv, [.k (.c (.int .i64 1))]⟩] false) (.rt)) (.skip))))))) (.rg [⟨(some 90), none, .mv, [.t 8]⟩, ⟨(some 91), none, (.bin .add), [.t 90, .k (.c (.int .i64 1))]⟩, ⟨(some 8), none, .mv, [.t 91]⟩] false)))))))))) (.rg [⟨(some 18), none, .mv, [.t 5]⟩, ⟨(some 19), none, (.bin .add), [.t 18, .k (.c (.int .i64 1))]⟩, ⟨(some 5), none, .mv, [.t 19]⟩] false)))))) (.sq (.rg [⟨(some 4), none, .mv, [.k (.c (.int .i64 0))]⟩] false) (.rt))))
theorem cf27 : compF Tryz.prog 27 c27 = some ⟨c27, [.t 4], 144⟩ := by kernel_rfl

-- raddle/raddleref09.Apply
def c28 : IC := .sq (.rg [⟨(some 3), none, (.box (some 1)), [.t 0]⟩, ⟨(some 5), none, (.box (some 12)), [.t 2]⟩, ⟨(some 6), none, .mv, [.k .z]⟩, ⟨(some 7), none, .mv, [.k .z]⟩, ⟨(some 8), none, .mv, [.k .z]⟩, ⟨(some 9), none, .mv, [.k (.c (.int .i64 0))]⟩] false) (.sq (.sq (.rg [⟨(some 23), none, (.ld (some 1)), [.t 3]⟩, ⟨(some 24), none, .mv, [.t 1]⟩, ⟨(some 25), none, (.call 27 .fz), [.t 23, .t 24]⟩, ⟨(some 10), none, .mv, [.t 25]⟩] false) (.sq (.rg [⟨(some 26), none, .mv, [.t 10]⟩, ⟨(some 27), none, (.bin .neq), [.t 26, .k (.c (.int .i64 0))]⟩] false) (.cn (.t 27) (.sq (.rg [⟨(some 28), none, .mv, [.t 10]⟩, ⟨(some 6), none, .mv, [.k .z]⟩, ⟨(some 7), none, .mv, [.k .z]⟩, ⟨(some 8), none, .mv, [.k .z]⟩, ⟨(some 9), none, .mv, [.t 28]⟩] false) (.rt)) (.skip)))) (.sq (.rg [⟨(some 29), none, (.ld (some 12)), [.t 5]⟩, ⟨(some 11), none, (.alloc [(.c (.int .i64 0)), (.c (.int .i64 0)), .z, (.c (.int .i64 0)), (.c (.int .i64 0)), (.c (.int .i64 0)), (.c (.int .i64 0)), (.c (.int .i64 0)), (.c (.string ⟨#[]⟩)), (.c (.int .i64 0)), .z, .z]), []⟩, ⟨none, none, (.st 12), [.t 11, .t 29]⟩] false) (.sq (.rg [⟨(some 30), none, (.fa 7), [.t 11]⟩, ⟨none, none, (.st 1), [.t 30, .k (.c (.int .i64 0))]⟩] false) (.sq (.sq (.rg [⟨(some 31), none, (.fa 2), [.t 5]⟩, ⟨(some 32), none, (.ld none), [.t 31]⟩, ⟨(some 33), none, .len, [.t 32]⟩, ⟨(some 34), none, (.call 72 .fz), [.t 33, .k (.c (.int .i64 1)), .k (.c (.int .i64 5))]⟩, ⟨(some 35), none, (.un .not), [.t 34]⟩, ⟨(some 36), none, .mv, [.t 35]⟩, ⟨(some 37), (some (36, false)), (.fa 2), [.t 5]⟩, ⟨(some 38), (some (36, false)), (.ld none), [.t 37]⟩, ⟨(some 39), (some (36, false)), .len, [.t 38]⟩, ⟨(some 40), (some (36, false)), (.ld (some 1)), [.t 3]⟩, ⟨(some 41), (some (36, false)), (.bsl 1 [.z] [0] 1 true), [.t 40]⟩, ⟨(some 42), (some (36, false)), (.ld (some 12)), [.t 11]⟩, ⟨(some 43), (some (36, false)), (.call 73 .fz), [.t 39, .t 41, .t 42]⟩, ⟨(some 44), (some (36, false)), (.un .not), [.t 43]⟩, ⟨(some 45), none, .pick, [.t 36, .k (.c (.bool true)), .t 44]⟩] false) (.cn (.t 45) (.sq (.rg [⟨(some 6), none, .mv, [.k .z]⟩, ⟨(some 7), none, .mv, [.k .z]⟩, ⟨(some 8), none, .mv, [.k .z]⟩, ⟨(some 9), none, .mv, [.k (.c (.int .i64 1))]⟩] false) (.rt)) (.skip))) (.sq (.rg [⟨(some 46), none, .mv, [.t 1]⟩, ⟨(some 47), none, (.call 24 .fz), [.t 46]⟩, ⟨(some 12), none, .mv, [.t 47]⟩] false) (.sq (.rg [⟨(some 48), none, .mv, [.t 12]⟩, ⟨(some 49), none, (.fa 8), [.t 5]⟩, ⟨(some 50), none, (.ld none), [.t 49]⟩, ⟨(some 51), none, (.call 30 .fz), [.t 48, .t 50]⟩, ⟨(some 13), none, .mv, [.t 51]⟩] false) (.sq (.sq (.rg [⟨(some 52), none, .mv, [.t 13]⟩, ⟨(some 53), none, (.bin .lss), [.t 52, .k (.c (.int .i64 0))]⟩] false) (.cn (.t 53) (.sq (.rg [⟨(some 13), none, .mv, [.k (.c (.int .i64 0))]⟩] false) (.sq (.bl 0 (.lp (.sq (.sq (.rg [⟨(some 54), none, .mv, [.t 13]⟩, ⟨(some 55), none, .mv, [.t 12]⟩, ⟨(some 56), none, .len, [.t 55]⟩, ⟨(some 57), none, (.bin .lss), [.t 54, .t 56]⟩, ⟨(some 58), none, .mv, [.t 57]⟩, ⟨(some 59), (some (58, true)), .mv, [.t 12]⟩, ⟨(some 60), (some (58, true)), .mv, [.t 13]⟩, ⟨(some 61), (some (58, true)), (.ia 3), [.t 59, .t 60]⟩, ⟨(some 62), (some (58, true)), (.fa 0), [.t 61]⟩, ⟨(some 63), (some (58, true)), (.ld none), [.t 62]⟩, ⟨(some 64), (some (58, true)), (.fa 8), [.t 5]⟩, ⟨(some 65), (some (58, true)), (.ld none), [.t 64]⟩, ⟨(some 66), (some (58, true)), (.bin .lss), [.t 63, .t 65]⟩, ⟨(some 67), none, .pick, [.t 58, .t 66, .k (.c (.bool false))]⟩] true) (.cn (.t 67) (.skip) (.ex 0))) (.bl 1 (.rg [⟨(some 68), none, .mv, [.t 13]⟩, ⟨(some 69), none, (.bin .add), [.t 68, .k (.c (.int .i64 1))]⟩, ⟨(some 13), none, .mv, [.t 69]⟩] false))))) (.sq (.rg [⟨(some 14), none, .mv, [.k .z]⟩] false) (.sq (.re [⟨(some 70), none, .mv, [.t 14]⟩, ⟨(some 71), none, .mv, [.t 12]⟩, ⟨(some 72), none, .mv, [.t 13]⟩, ⟨(some 73), none, (.slc 3 false true), [.t 71, .t 72]⟩, ⟨(some 74), none, (.app 3), [.t 70, .t 73]⟩, ⟨(some 75), none, (.fa 8), [.t 5]⟩, ⟨(some 76), none, (.ld none), [.t 75]⟩, ⟨(some 77), none, (.fa 0), [.t 3]⟩, ⟨(some 78), none, (.ld none), [.t 77]⟩, ⟨(some 79), none, .len, [.t 78]⟩, ⟨(some 80), none, (.mks 8 [(.c (.int .i64 0)), (.c (.int .i64 0)), (.c (.string ⟨#[]⟩)), (.c (.int .i64 0)), (.c (.int .i64 0)), (.c (.int .i64 0)), (.c (.int .i64 0)), (.c (.int .i64 0))] true), [.t 79, .t 79]⟩, ⟨(some 81), none, (.bld [(.c (.string ⟨#[]⟩)), .z, .z] [(0, 1), (2, 1)]), [.t 76, .t 80]⟩, ⟨(some 82), none, (.bsl 3 [(.c (.string ⟨#[]⟩)), .z, .z] [0] 1 true), [.t 81]⟩, ⟨(some 83), none, (.app 3), [.t 74, .t 82]⟩, ⟨(some 14), none, .mv, [.t 83]⟩] [[], [], [], [], [], [3, 4], [3, 4], [3, 4], [3, 4], [], [3, 4, 5, 6], [], [3, 4], [], []]) (.rg [⟨(some 84), none, .mv, [.t 14]⟩, ⟨(some 85), none, .mv, [.t 12]⟩, ⟨(some 86), none, .mv, [.t 13]⟩, ⟨(some 87), none, (.slc 3 true false), [.t 85, .t 86]⟩, ⟨(some 88), none, (.app 3), [.t 84, .t 87]⟩, ⟨(some 12), none, .mv, [.t 88]⟩] false))))) (.skip))) (.sq (.rg [⟨(some 89), none, .mv, [.t 12]⟩, ⟨(some 90), none, .mv, [.t 13]⟩, ⟨(some 91), none, (.ia 3), [.t 89, .t 90]⟩, ⟨(some 15), none, .mv, [.t 91]⟩] false) (.sq (.rg [⟨(some 92), none, .mv, [.t 15]⟩, ⟨(some 93), none, (.fa 0), [.t 92]⟩, ⟨(some 94), none, (.ld (some 3)), [.t 93]⟩, ⟨(some 95), none, (.call 74 .fz), [.t 94]⟩, ⟨(some 7), none, .mv, [.t 95]⟩] false) (.sq (.sq (.rg [⟨(some 96), none, (.fa 6), [.t 5]⟩, ⟨(some 97), none, (.ld none), [.t 96]⟩] false) (.bl 2 (.sq (.rg [⟨(some 99), none, (.bin .eql), [.t 97, .k (.c (.int .i64 1))]⟩, ⟨(some 98), none, .mv, [.t 99]⟩] false) (.cn (.t 98) (.sq (.rg [⟨(some 16), none, .mv, [.k (.c (.int .i64 0))]⟩] false) (.sq (.bl 3 (.lp (.sq (.sq (.rg [⟨(some 100), none, .mv, [.t 16]⟩, ⟨(some 101), none, .mv, [.t 15]⟩, ⟨(some 102), none, (.fa 0), [.t 101]⟩, ⟨(some 103), none, (.fa 1), [.t 102]⟩, ⟨(some 104), none, (.ld none), [.t 103]⟩, ⟨(some 105), none, .len, [.t 104]⟩, ⟨(some 106), none, (.bin .lss), [.t 100, .t 105]⟩, ⟨(some 107), none, .mv, [.t 106]⟩, ⟨(some 108), (some (107, true)), .mv, [.t 15]⟩, ⟨(some 109), (some (107, true)), (.fa 0), [.t 108]⟩, ⟨(some 110), (some (107, true)), (.fa 1), [.t 109]⟩, ⟨(some 111), (some (107, true)), (.ld none), [.t 110]⟩, ⟨(some 112), (some (107, true)), .mv, [.t 16]⟩, ⟨(some 113), (some (107, true)), (.ia 2), [.t 111, .t 112]⟩, ⟨(some 114), (some (107, true)), (.ld (some 2)), [.t 113]⟩, ⟨(some 115), (some (107, true)), (.fa 0), [.t 5]⟩, ⟨(some 116), (some (107, true)), (.ld (some 2)), [.t 115]⟩, ⟨(some 117), (some (107, true)), (.call 66 .fz), [.t 114, .t 116]⟩, ⟨(some 118), none, .pick, [.t 107, .t 117, .k (.c (.bool false))]⟩] true) (.cn (.t 118) (.skip) (.ex 3))) (.bl 4 (.rg [⟨(some 119), none, .mv, [.t 16]⟩, ⟨(some 120), none, (.bin .add), [.t 119, .k (.c (.int .i64 1))]⟩, ⟨(some 16), none, .mv, [.t 120]⟩] false))))) (.sq (.sq (.rg [⟨(some 121), none, .mv, [.t 16]⟩, ⟨(some 122), none, .mv, [.t 15]⟩, ⟨(some 123), none, (.fa 0), [.t 122]⟩, ⟨(some 124), none, (.fa 1), [.t 123]⟩, ⟨(some 125), none, (.ld none), [.t 124]⟩, ⟨(some 126), none, .len, [.t 125]⟩, ⟨(some 127), none, (.bin .eql), [.t 121, .t 126]⟩, ⟨(some 128), none, .mv, [.t 127]⟩, ⟨(some 129), (some (128, false)), .mv, [.t 15]⟩, ⟨(some 130), (some (128, false)), (.fa 0), [.t 129]⟩, ⟨(some 131), (some (128, false)), (.fa 1), [.t 130]⟩, ⟨(some 132), (some (128, false)), (.ld none), [.t 131]⟩, ⟨(some 133), (some (128, false)), .mv, [.t 16]⟩, ⟨(some 134), (some (128, false)), (.ia 2), [.t 132, .t 133]⟩, ⟨(some 135), (some (128, false)), (.ld (some 2)), [.t 134]⟩, ⟨(some 136), (some (128, false)), (.fa 0), [.t 5]⟩, ⟨(some 137), (some (128, false)), (.ld (some 2)), [.t 136]⟩, ⟨(some 138), (some (128, false)), (.call 17 .fz), [.t 135, .t 137]⟩, ⟨(some 139), (some (128, false)), (.un .not), [.t 138]⟩, ⟨(some 140), none, .pick, [.t 128, .k (.c (.bool true)), .t 139]⟩] true) (.cn (.t 140) (.sq (.rg [⟨(some 17), none, .mv, [.k .z]⟩] false) (.sq (.re [⟨(some 141), none, .mv, [.t 17]⟩, ⟨(some 142), none, .mv, [.t 15]⟩, ⟨(some 143), none, (.fa 0), [.t 142]⟩, ⟨(some 144), none, (.fa 1), [.t 143]⟩, ⟨(some 145), none, (.ld none), [.t 144]⟩, ⟨(some 146), none, .mv, [.t 16]⟩, ⟨(some 147), none, (.slc 2 false true), [.t 145, .t 146]⟩, ⟨(some 148), none, (.app 2), [.t 141, .t 147]⟩, ⟨(some 149), none, (.fa 0), [.t 5]⟩, ⟨(some 150), none, (.ld (some 2)), [.t 149]⟩, ⟨(some 151), none, (.bsl 2 [(.c (.int .i64 0)), (.c (.int .i64 0))] [0] 1 true), [.t 150]⟩, ⟨(some 152), none, (.app 2), [.t 148, .t 151]⟩, ⟨(some 17), none, .mv, [.t 152]⟩] [[], [], [], [], [], [], [], [], [6, 7], [6, 7], [2, 3, 4, 6, 7], [], []]) (.rg [⟨(some 153), none, .mv, [.t 15]⟩, ⟨(some 154), none, .mv, [.t 17]⟩, ⟨(some 155), none, .mv, [.t 15]⟩, ⟨(some 156), none, (.fa 0), [.t 155]⟩, ⟨(some 157), none, (.fa 1), [.t 156]⟩, ⟨(some 158), none, (.ld none), [.t 157]⟩, ⟨(some 159), none, .mv, [.t 16]⟩, ⟨(some 160), none, (.slc 2 true false), [.t 158, .t 159]⟩, ⟨(some 161), none, (.app 2), [.t 154, .t 160]⟩, ⟨(some 162), none, (.fa 0), [.t 153]⟩, ⟨(some 163), none, (.fa 1), [.t 162]⟩, ⟨none, none, (.st 1), [.t 163, .t 161]⟩] false))) (.skip))) (.sq (.rg [⟨(some 18), none, .mv, [.k (.c (.int .i64 0))]⟩] false) (.bl 5 (.lp (.sq (.sq (.rg [⟨(some 164), none, .mv, [.t 18]⟩, ⟨(some 165), none, .mv, [.t 15]⟩, ⟨(some 166), none, (.fa 0), [.t 165]⟩, ⟨(some 167), none, (.fa 2), [.t 166]⟩, ⟨(some 168), none, (.ld none), [.t 167]⟩, ⟨(some 169), none, .len, [.t 168]⟩, ⟨(some 170), none, (.bin .lss), [.t 164, .t 169]⟩] false) (.cn (.t 170) (.skip) (.ex 5))) (.sq (.bl 6 (.rg [⟨(some 173), none, .mv, [.t 15]⟩, ⟨(some 174), none, (.fa 0), [.t 173]⟩, ⟨(some 175), none, (.fa 2), [.t 174]⟩, ⟨(some 176), none, (.ld none), [.t 175]⟩, ⟨(some 177), none, .mv, [.t 18]⟩, ⟨(some 178), none, (.ia 8), [.t 176, .t 177]⟩, ⟨(some 179), none, (.fa 10), [.t 5]⟩, ⟨(some 180), none, (.ld none), [.t 179]⟩, ⟨(some 181), none, .mv, [.t 18]⟩, ⟨(some 182), none, (.ia 3), [.t 180, .t 181]⟩, ⟨(some 183), none, (.ld (some 3)), [.t 182]⟩, ⟨(some 184), none, (.ld (some 12)), [.t 5]⟩, ⟨(some 185), none, (.call 75 .fz), [.t 178, .t 183, .t 184]⟩] true)) (.rg [⟨(some 171), none, .mv, [.t 18]⟩, ⟨(some 172), none, (.bin .add), [.t 171, .k (.c (.int .i64 1))]⟩, ⟨(some 18), none, .mv, [.t 172]⟩] false))))))))) (.sq (.rg [⟨(some 187), none, (.bin .eql), [.t 97, .k (.c (.int .i64 2))]⟩, ⟨(some 186), none, .mv, [.t 187]⟩] false) (.cn (.t 186) (.rg [⟨(some 188), none, .mv, [.t 15]⟩, ⟨(some 189), none, (.fa 0), [.t 188]⟩, ⟨(some 190), none, (.fa 2), [.t 189]⟩, ⟨(some 191), none, (.ld none), [.t 190]⟩, ⟨(some 192), none, (.fa 9), [.t 5]⟩, ⟨(some 193), none, (.ld none), [.t 192]⟩, ⟨(some 194), none, (.ia 8), [.t 191, .t 193]⟩, ⟨(some 195), none, (.fa 10), [.t 5]⟩, ⟨(some 196), none, (.ld none), [.t 195]⟩, ⟨(some 197), none, (.ia 3), [.t 196, .k (.c (.int .i64 0))]⟩, ⟨(some 198), none, (.ld (some 3)), [.t 197]⟩, ⟨(some 199), none, (.ld (some 12)), [.t 5]⟩, ⟨(some 200), none, (.call 75 .fz), [.t 194, .t 198, .t 199]⟩] true) (.sq (.rg [⟨(some 202), none, (.bin .eql), [.t 97, .k (.c (.int .i64 3))]⟩, ⟨(some 201), none, .mv, [.t 202]⟩] false) (.cn (.t 201) (.sq (.rg [⟨(some 19), none, .mv, [.k .z]⟩] false) (.sq (.sq (.rg [⟨(some 20), none, .mv, [.k (.c (.int .i64 0))]⟩] false) (.bl 7 (.lp (.sq (.sq (.rg [⟨(some 203), none, .mv, [.t 20]⟩, ⟨(some 204), none, .mv, [.t 15]⟩, ⟨(some 205), none, (.fa 0), [.t 204]⟩, ⟨(some 206), none, (.fa 1), [.t 205]⟩, ⟨(some 207), none, (.ld none), [.t 206]⟩, ⟨(some 208), none, .len, [.t 207]⟩, ⟨(some 209), none, (.bin .lss), [.t 203, .t 208]⟩] false) (.cn (.t 209) (.skip) (.ex 7))) (.sq (.bl 8 (.sq (.rg [⟨(some 21), none, .mv, [.k (.c (.bool false))]⟩] false) (.sq (.sq (.rg [⟨(some 22), none, .mv, [.k (.c (.int .i64 0))]⟩] false) (.bl 9 (.lp (.sq (.sq (.rg [⟨(some 212), none, .mv, [.t 22]⟩, ⟨(some 213), none, (.fa 11), [.t 5]⟩, ⟨(some 214), none, (.ld none), [.t 213]⟩, ⟨(some 215), none, .len, [.t 214]⟩, ⟨(some 216), none, (.bin .lss), [.t 212, .t 215]⟩] false) (.cn (.t 216) (.skip) (.ex 9))) (.sq (.bl 10 (.rg [⟨(some 219), none, .mv, [.t 21]⟩, ⟨(some 220), none, .mv, [.t 219]⟩, ⟨(some 221), (some (220, false)), (.fa 11), [.t 5]⟩, ⟨(some 222), (some (220, false)), (.ld none), [.t 221]⟩, ⟨(some 223), (some (220, false)), .mv, [.t 22]⟩, ⟨(some 224), (some (220, false)), (.ia 2), [.t 222, .t 223]⟩, ⟨(some 225), (some (220, false)), (.ld (some 2)), [.t 224]⟩, ⟨(some 226), (some (220, false)), .mv, [.t 15]⟩, ⟨(some 227), (some (220, false)), (.fa 0), [.t 226]⟩, ⟨(some 228), (some (220, false)), (.fa 1), [.t 227]⟩, ⟨(some 229), (some (220, false)), (.ld none), [.t 228]⟩, ⟨(some 230), (some (220, false)), .mv, [.t 20]⟩, ⟨(some 231), (some (220, false)), (.ia 2), [.t 229, .t 230]⟩, ⟨(some 232), (some (220, false)), (.ld (some 2)), [.t 231]⟩, ⟨(some 233), (some (220, false)), (.call 17 .fz), [.t 225, .t 232]⟩, ⟨(some 234), none, .pick, [.t 220, .k (.c (.bool true)), .t 233]⟩, ⟨(some 21), none, .mv, [.t 234]⟩] true)) (.rg [⟨(some 217), none, .mv, [.t 22]⟩, ⟨(some 218), none, (.bin .add), [.t 217, .k (.c (.int .i64 1))]⟩, ⟨(some 22), none, .mv, [.t 218]⟩] false)))))) (.sq (.rg [⟨(some 235), none, .mv, [.t 21]⟩, ⟨(some 236), none, (.un .not), [.t 235]⟩] false) (.cn (.t 236) (.rg [⟨(some 237), none, .mv, [.t 19]⟩, ⟨(some 238), none, .mv, [.t 15]⟩, ⟨(some 239), none, (.fa 0), [.t 238]⟩, ⟨(some 240), none, (.fa 1), [.t 239]⟩, ⟨(some 241), none, (.ld none), [.t 240]⟩, ⟨(some 242), none, .mv, [.t 20]⟩, ⟨(some 243), none, (.ia 2), [.t 241, .t 242]⟩, ⟨(some 244), none, (.ld (some 2)), [.t 243]⟩, ⟨(some 245), none, (.bsl 2 [(.c (.int .i64 0)), (.c (.int .i64 0))] [0] 1 true), [.t 244]⟩, ⟨(some 246), none, (.app 2), [.t 237, .t 245]⟩, ⟨(some 19), none, .mv, [.t 246]⟩] false) (.skip)))))) (.rg [⟨(some 210), none, .mv, [.t 20]⟩, ⟨(some 211), none, (.bin .add), [.t 210, .k (.c (.int .i64 1))]⟩, ⟨(some 20), none, .mv, [.t 211]⟩] false)))))) (.rg [⟨(some 247), none, .mv, [.t 15]⟩, ⟨(some 248), none, .mv, [.t 19]⟩, ⟨(some 249), none, (.fa 0), [.t 247]⟩, ⟨(some 250), none, (.fa 1), [.t 249]⟩, ⟨none, none, (.st 1), [.t 250, .t 248]⟩] false))) (.skip))))))))) (.sq (.rg [⟨(some 251), none, .mv, [.t 12]⟩, ⟨(some 252), none, .mv, [.t 7]⟩, ⟨(some 253), none, .mv, [.t 15]⟩, ⟨(some 254), none, (.fa 0), [.t 253]⟩, ⟨(some 255), none, (.ld (some 3)), [.t 254]⟩, ⟨(some 256), none, (.call 74 .fz), [.t 255]⟩, ⟨(some 6), none, .mv, [.t 251]⟩, ⟨(some 7), none, .mv, [.t 252]⟩, ⟨(some 8), none, .mv, [.t 256]⟩, ⟨(some 9), none, .mv, [.k (.c (.int .i64 0))]⟩] false) (.rt))))))))))))
theorem cf28 : compF Tryz.prog 28 c28 = some ⟨c28, [.t 6, .t 7, .t 8, .t 9], 257⟩ := by kernel_rfl

-- raddle/tab.Find
-- raddle/raddleref09.Find
-- raddle/raddleref09.Dead
-- raddle/raddlekeep.Op
-- raddle/raddlekeep.SpoilTable
-- raddle/raddlekeep.SpoilRow
-- raddle/raddlekeep.Ints
-- raddle/raddleref09.Seen
-- raddle/raddleref09.Compact
-- raddle/raddlelaw04.Heavy
def c38 : IC := .sq (.rg [⟨(some 2), none, .mv, [.k (.c (.bool false))]⟩] false) (.sq (.rg [⟨(some 3), none, .mv, [.t 0]⟩, ⟨(some 4), none, .len, [.t 3]⟩, ⟨(some 5), none, (.bin .gtr), [.t 4, .k (.c (.int .i64 40))]⟩, ⟨(some 6), none, .mv, [.t 5]⟩, ⟨(some 7), (some (6, false)), .mv, [.t 0]⟩, ⟨(some 8), (some (6, false)), (.call 79 .fz), [.t 7]⟩, ⟨(some 9), none, .pick, [.t 6, .k (.c (.bool true)), .t 8]⟩, ⟨(some 2), none, .mv, [.t 9]⟩] false) (.rt))
theorem cf38 : compF Tryz.prog 38 c38 = some ⟨c38, [.t 2], 10⟩ := by kernel_rfl

-- raddle/raddleref01.in
def c39 : IC := .sq (.rg [⟨(some 6), none, .mv, [.k (.c (.bool false))]⟩] false) (.sq (.rg [⟨(some 7), none, .mv, [.t 0]⟩, ⟨(some 8), none, .mv, [.t 1]⟩, ⟨(some 9), none, (.bin .geq), [.t 7, .t 8]⟩, ⟨(some 10), none, .mv, [.t 9]⟩, ⟨(some 11), (some (10, true)), .mv, [.t 0]⟩, ⟨(some 12), (some (10, true)), .mv, [.t 2]⟩, ⟨(some 13), (some (10, true)), (.bin .leq), [.t 11, .t 12]⟩, ⟨(some 14), none, .pick, [.t 10, .t 13, .k (.c (.bool false))]⟩, ⟨(some 6), none, .mv, [.t 14]⟩] false) (.rt))
theorem cf39 : compF Tryz.prog 39 c39 = some ⟨c39, [.t 6], 15⟩ := by kernel_rfl

-- raddle/raddleref01.Type
def c40 : IC := .sq (.rg [⟨(some 2), none, .mv, [.k (.c (.bool false))]⟩] false) (.sq (.rg [⟨(some 3), none, .mv, [.t 0]⟩, ⟨(some 4), none, (.call 39 .fz), [.t 3, .k (.c (.int .i64 2)), .k (.c (.int .i64 4))]⟩, ⟨(some 2), none, .mv, [.t 4]⟩] false) (.rt))
theorem cf40 : compF Tryz.prog 40 c40 = some ⟨c40, [.t 2], 5⟩ := by kernel_rfl

-- raddle/op.Forms
def c41 : IC := .sq (.rg [⟨(some 2), none, .mv, [.k (.c (.int .i64 0))]⟩] false) (.sq (.sq (.rg [⟨(some 5), none, .mv, [.t 0]⟩, ⟨(some 6), none, .len, [.t 5]⟩, ⟨(some 7), none, (.bin .lss), [.t 6, .k (.c (.int .i64 1))]⟩, ⟨(some 8), none, .mv, [.t 7]⟩, ⟨(some 9), (some (8, false)), .mv, [.t 0]⟩, ⟨(some 10), (some (8, false)), .len, [.t 9]⟩, ⟨(some 11), (some (8, false)), (.bin .gtr), [.t 10, .k (.c (.int .i64 3))]⟩, ⟨(some 12), none, .pick, [.t 8, .k (.c (.bool true)), .t 11]⟩] false) (.cn (.t 12) (.sq (.rg [⟨(some 2), none, .mv, [.k (.c (.int .i64 2))]⟩] false) (.rt)) (.skip))) (.sq (.sq (.rg [⟨(some 13), none, .mv, [.t 0]⟩, ⟨(some 14), none, (.call 80 .fz), [.t 13, .k (.fn 81 [])]⟩] false) (.cn (.t 14) (.sq (.rg [⟨(some 2), none, .mv, [.k (.c (.int .i64 2))]⟩] false) (.rt)) (.skip))) (.sq (.sq (.rg [⟨(some 15), none, .mv, [.t 0]⟩, ⟨(some 16), none, .len, [.t 15]⟩, ⟨(some 17), none, .mv, [.k (.c (.int .i64 0))]⟩] false) (.bl 0 (.lp (.sq (.rg [⟨(some 18), none, (.bin .lss), [.t 17, .t 16]⟩] false) (.sq (.cn (.t 18) (.skip) (.ex 0)) (.sq (.bl 1 (.sq (.rg [⟨(some 19), none, (.ia 1), [.t 15, .t 17]⟩, ⟨(some 20), none, (.ld (some 1)), [.t 19]⟩, ⟨(some 4), none, (.alloc [.z]), []⟩, ⟨none, none, (.st 1), [.t 4, .t 20]⟩] false) (.sq (.rg [⟨(some 21), none, (.fa 0), [.t 4]⟩, ⟨(some 22), none, (.ld none), [.t 21]⟩, ⟨(some 23), none, (.call 82 .fz), [.t 22, .k (.fn 83 [])]⟩] false) (.cn (.t 23) (.sq (.rg [⟨(some 2), none, .mv, [.k (.c (.int .i64 10))]⟩] false) (.rt)) (.skip))))) (.rg [⟨(some 24), none, (.bin .add), [.t 17, .k (.c (.int .i64 1))]⟩, ⟨(some 17), none, .mv, [.t 24]⟩] false))))))) (.sq (.rg [⟨(some 2), none, .mv, [.k (.c (.int .i64 0))]⟩] false) (.rt)))))
theorem cf41 : compF Tryz.prog 41 c41 = some ⟨c41, [.t 2], 25⟩ := by kernel_rfl

-- raddle/tab.right
def c42 : IC := .sq (.rg [⟨(some 2), none, (.box (some 1)), [.t 0]⟩, ⟨(some 3), none, (.box (some 3)), [.t 1]⟩, ⟨(some 4), none, .mv, [.k (.c (.bool false))]⟩] false) (.sq (.sq (.rg [⟨(some 5), none, (.fa 0), [.t 3]⟩, ⟨(some 6), none, (.ld none), [.t 5]⟩, ⟨(some 7), none, (.call 84 .fz), [.t 6]⟩, ⟨(some 8), none, (.un .not), [.t 7]⟩, ⟨(some 9), none, .mv, [.t 8]⟩, ⟨(some 10), (some (9, false)), (.fa 1), [.t 3]⟩, ⟨(some 11), (some (9, false)), (.ld none), [.t 10]⟩, ⟨(some 12), (some (9, false)), (.call 85 .fz), [.t 11]⟩, ⟨(some 13), (some (9, false)), (.un .not), [.t 12]⟩, ⟨(some 14), none, .pick, [.t 9, .k (.c (.bool true)), .t 13]⟩, ⟨(some 15), none, .mv, [.t 14]⟩, ⟨(some 16), (some (15, false)), (.fa 2), [.t 3]⟩, ⟨(some 17), (some (15, false)), (.ld none), [.t 16]⟩, ⟨(some 18), (some (15, false)), (.fa 0), [.t 2]⟩, ⟨(some 19), (some (15, false)), (.ld none), [.t 18]⟩, ⟨(some 20), (some (15, false)), (.call 86 .fz), [.t 17, .t 19, .k (.fn 87 [])]⟩, ⟨(some 21), (some (15, false)), (.un .not), [.t 20]⟩, ⟨(some 22), none, .pick, [.t 15, .k (.c (.bool true)), .t 21]⟩] false) (.cn (.t 22) (.sq (.rg [⟨(some 4), none, .mv, [.k (.c (.bool false))]⟩] false) (.rt)) (.skip))) (.sq (.rg [⟨(some 23), none, (.fa 1), [.t 3]⟩, ⟨(some 24), none, (.ld none), [.t 23]⟩, ⟨(some 25), none, .len, [.t 24]⟩, ⟨(some 26), none, (.bin .eql), [.t 25, .k (.c (.int .i64 0))]⟩, ⟨(some 27), none, .mv, [.t 26]⟩, ⟨(some 28), (some (27, false)), (.fa 2), [.t 3]⟩, ⟨(some 29), (some (27, false)), (.ld none), [.t 28]⟩, ⟨(some 30), (some (27, false)), (.call 58 .fz), [.t 29, .k (.fn 88 [])]⟩, ⟨(some 31), (some (27, false)), (.un .not), [.t 30]⟩, ⟨(some 32), none, .pick, [.t 27, .k (.c (.bool true)), .t 31]⟩, ⟨(some 4), none, .mv, [.t 32]⟩] false) (.rt)))
theorem cf42 : compF Tryz.prog 42 c42 = some ⟨c42, [.t 4], 33⟩ := by kernel_rfl

-- raddle/tab.see
def c43 : IC := .sq (.rg [⟨(some 1), none, (.box (some 3)), [.t 0]⟩, ⟨(some 2), none, .mv, [.k .z]⟩] false) (.sq (.sq (.rg [⟨(some 6), none, (.fa 1), [.t 1]⟩, ⟨(some 7), none, (.ld none), [.t 6]⟩, ⟨(some 8), none, .len, [.t 7]⟩, ⟨(some 9), none, (.bin .eql), [.t 8, .k (.c (.int .i64 0))]⟩] false) (.cn (.t 9) (.sq (.rg [⟨(some 2), none, .mv, [.k .z]⟩] false) (.rt)) (.skip))) (.sq (.rg [⟨(some 10), none, (.fa 0), [.t 1]⟩, ⟨(some 11), none, (.ld none), [.t 10]⟩, ⟨(some 12), none, (.bld [(.c (.int .i64 0)), (.c (.int .i64 0)), (.c (.string ⟨#[]⟩))] [(0, 1), (2, 1)]), [.k (.c (.int .i64 4)), .t 11]⟩, ⟨(some 13), none, (.bsl 3 [(.c (.int .i64 0)), (.c (.int .i64 0)), (.c (.string ⟨#[]⟩))] [0] 1 false), [.t 12]⟩, ⟨(some 3), none, .mv, [.t 13]⟩] false) (.sq (.sq (.rg [⟨(some 14), none, (.fa 2), [.t 1]⟩, ⟨(some 15), none, (.ld none), [.t 14]⟩, ⟨(some 16), none, .len, [.t 15]⟩, ⟨(some 17), none, .mv, [.k (.c (.int .i64 0))]⟩] false) (.bl 0 (.lp (.sq (.rg [⟨(some 18), none, (.bin .lss), [.t 17, .t 16]⟩] false) (.sq (.cn (.t 18) (.skip) (.ex 0)) (.sq (.bl 1 (.sq (.rg [⟨(some 19), none, (.ia 8), [.t 15, .t 17]⟩, ⟨(some 20), none, (.ld (some 8)), [.t 19]⟩, ⟨(some 5), none, (.alloc [(.c (.int .i64 0)), (.c (.int .i64 0)), (.c (.string ⟨#[]⟩)), (.c (.int .i64 0)), (.c (.int .i64 0)), (.c (.int .i64 0)), (.c (.int .i64 0)), (.c (.int .i64 0))]), []⟩, ⟨none, none, (.st 8), [.t 5, .t 20]⟩] false) (.rg [⟨(some 21), none, .mv, [.t 3]⟩, ⟨(some 22), none, (.fa 0), [.t 5]⟩, ⟨(some 23), none, (.ld (some 3)), [.t 22]⟩, ⟨(some 24), none, (.bsl 3 [(.c (.int .i64 0)), (.c (.int .i64 0)), (.c (.string ⟨#[]⟩))] [0] 1 true), [.t 23]⟩, ⟨(some 25), none, (.app 3), [.t 21, .t 24]⟩, ⟨(some 3), none, .mv, [.t 25]⟩] false))) (.rg [⟨(some 26), none, (.bin .add), [.t 17, .k (.c (.int .i64 1))]⟩, ⟨(some 17), none, .mv, [.t 26]⟩] false))))))) (.sq (.rg [⟨(some 27), none, .mv, [.t 3]⟩, ⟨(some 2), none, .mv, [.t 27]⟩] false) (.rt)))))
theorem cf43 : compF Tryz.prog 43 c43 = some ⟨c43, [.t 2], 28⟩ := by kernel_rfl

-- raddle/op.Check
def c44 : IC := .sq (.rg [⟨(some 5), none, (.box (some 12)), [.t 2]⟩, ⟨(some 6), none, .mv, [.k (.c (.int .i64 0))]⟩] false) (.sq (.rg [⟨(some 8), none, .mv, [.t 1]⟩, ⟨(some 9), none, (.call 41 .fz), [.t 8]⟩, ⟨(some 7), none, .mv, [.t 9]⟩] false) (.sq (.bl 0 (.sq (.rg [⟨(some 11), none, .mv, [.t 7]⟩, ⟨(some 12), none, (.bin .neq), [.t 11, .k (.c (.int .i64 0))]⟩, ⟨(some 10), none, .mv, [.t 12]⟩] false) (.cn (.t 10) (.sq (.rg [⟨(some 13), none, .mv, [.t 7]⟩, ⟨(some 6), none, .mv, [.t 13]⟩] false) (.rt)) (.sq (.rg [⟨(some 15), none, .mv, [.t 0]⟩, ⟨(some 16), none, (.bin .lss), [.t 15, .k (.c (.int .i64 1))]⟩, ⟨(some 17), none, .mv, [.t 16]⟩, ⟨(some 18), (some (17, false)), .mv, [.t 0]⟩, ⟨(some 19), (some (17, false)), (.bin .gtr), [.t 18, .k (.c (.int .i64 5))]⟩, ⟨(some 20), none, .pick, [.t 17, .k (.c (.bool true)), .t 19]⟩, ⟨(some 21), none, .mv, [.t 20]⟩, ⟨(some 22), (some (21, false)), .mv, [.t 0]⟩, ⟨(some 23), (some (21, false)), .mv, [.t 1]⟩, ⟨(some 24), (some (21, false)), (.ld (some 12)), [.t 5]⟩, ⟨(some 25), (some (21, false)), (.call 89 .fz), [.t 22, .t 23, .t 24]⟩, ⟨(some 26), (some (21, false)), (.un .not), [.t 25]⟩, ⟨(some 27), none, .pick, [.t 21, .k (.c (.bool true)), .t 26]⟩, ⟨(some 14), none, .mv, [.t 27]⟩] false) (.cn (.t 14) (.sq (.rg [⟨(some 6), none, .mv, [.k (.c (.int .i64 1))]⟩] false) (.rt)) (.skip)))))) (.sq (.rg [⟨(some 6), none, .mv, [.k (.c (.int .i64 0))]⟩] false) (.rt))))
theorem cf44 : compF Tryz.prog 44 c44 = some ⟨c44, [.t 6], 28⟩ := by kernel_rfl

-- raddle/tab.Twin
def c45 : IC := .sq (.rg [⟨(some 2), none, .mv, [.k .z]⟩] false) (.sq (.rg [⟨(some 5), none, .mv, [.t 0]⟩, ⟨(some 6), none, (.call 62 (.own 3)), [.t 5]⟩, ⟨(some 3), none, .mv, [.t 6]⟩] false) (.sq (.sq (.rg [⟨(some 7), none, .mv, [.t 3]⟩, ⟨(some 8), none, .len, [.t 7]⟩, ⟨(some 9), none, .mv, [.k (.c (.int .i64 0))]⟩] false) (.bl 0 (.lp (.sq (.rg [⟨(some 10), none, (.bin .lss), [.t 9, .t 8]⟩] false) (.sq (.cn (.t 10) (.skip) (.ex 0)) (.sq (.bl 1 (.sq (.rg [⟨(some 11), none, .mv, [.t 9]⟩, ⟨(some 4), none, .mv, [.t 11]⟩] false) (.rg [⟨(some 12), none, .mv, [.t 3]⟩, ⟨(some 13), none, .mv, [.t 4]⟩, ⟨(some 14), none, .mv, [.t 3]⟩, ⟨(some 15), none, .mv, [.t 4]⟩, ⟨(some 16), none, .mv, [.t 3]⟩, ⟨(some 17), none, .mv, [.t 4]⟩, ⟨(some 18), none, (.ia 3), [.t 16, .t 17]⟩, ⟨(some 19), none, (.fa 1), [.t 18]⟩, ⟨(some 20), none, (.ld none), [.t 19]⟩, ⟨(some 21), none, (.call 90 (.own 2)), [.t 20]⟩, ⟨(some 22), none, .mv, [.t 3]⟩, ⟨(some 23), none, .mv, [.t 4]⟩, ⟨(some 24), none, (.ia 3), [.t 22, .t 23]⟩, ⟨(some 25), none, (.fa 2), [.t 24]⟩, ⟨(some 26), none, (.ld none), [.t 25]⟩, ⟨(some 27), none, (.call 91 (.own 8)), [.t 26]⟩, ⟨(some 28), none, (.ia 3), [.t 12, .t 13]⟩, ⟨(some 29), none, (.fa 1), [.t 28]⟩, ⟨none, none, (.st 1), [.t 29, .t 21]⟩, ⟨(some 30), none, (.ia 3), [.t 14, .t 15]⟩, ⟨(some 31), none, (.fa 2), [.t 30]⟩, ⟨none, none, (.st 1), [.t 31, .t 27]⟩] true))) (.rg [⟨(some 32), none, (.bin .add), [.t 9, .k (.c (.int .i64 1))]⟩, ⟨(some 9), none, .mv, [.t 32]⟩] false))))))) (.sq (.rg [⟨(some 33), none, .mv, [.t 3]⟩, ⟨(some 2), none, .mv, [.t 33]⟩] false) (.rt))))
theorem cf45 : compF Tryz.prog 45 c45 = some ⟨c45, [.t 2], 34⟩ := by kernel_rfl

-- slices.BinarySearchFunc[[]raddle/api.Row,raddle/api.Row,string]
def c46 : IC := .sq (.rg [⟨(some 6), none, .mv, [.k (.c (.int .i64 0))]⟩, ⟨(some 7), none, .mv, [.k (.c (.bool false))]⟩] false) (.sq (.rg [⟨(some 12), none, .mv, [.t 0]⟩, ⟨(some 13), none, .len, [.t 12]⟩, ⟨(some 8), none, .mv, [.t 13]⟩] false) (.sq (.rg [⟨(some 14), none, .mv, [.t 8]⟩, ⟨(some 9), none, .mv, [.k (.c (.int .i64 0))]⟩, ⟨(some 10), none, .mv, [.t 14]⟩] false) (.sq (.bl 0 (.lp (.sq (.sq (.rg [⟨(some 15), none, .mv, [.t 9]⟩, ⟨(some 16), none, .mv, [.t 10]⟩, ⟨(some 17), none, (.bin .lss), [.t 15, .t 16]⟩] false) (.cn (.t 17) (.skip) (.ex 0))) (.bl 1 (.sq (.rg [⟨(some 18), none, .mv, [.t 9]⟩, ⟨(some 19), none, .mv, [.t 10]⟩, ⟨(some 20), none, (.bin .add), [.t 18, .t 19]⟩, ⟨(some 21), none, (.conv .u64), [.t 20]⟩, ⟨(some 22), none, (.bin .shr), [.t 21, .k (.c (.int .u64 1))]⟩, ⟨(some 23), none, (.conv .i64), [.t 22]⟩, ⟨(some 11), none, .mv, [.t 23]⟩] false) (.sq (.rg [⟨(some 24), none, .mv, [.t 2]⟩, ⟨(some 25), none, .mv, [.t 0]⟩, ⟨(some 26), none, .mv, [.t 11]⟩, ⟨(some 27), none, (.ia 3), [.t 25, .t 26]⟩, ⟨(some 28), none, (.ld (some 3)), [.t 27]⟩, ⟨(some 29), none, .mv, [.t 1]⟩, ⟨(some 30), none, (.callv .fz), [.t 24, .t 28, .t 29]⟩, ⟨(some 31), none, (.bin .lss), [.t 30, .k (.c (.int .i64 0))]⟩] false) (.cn (.t 31) (.rg [⟨(some 32), none, .mv, [.t 11]⟩, ⟨(some 33), none, (.bin .add), [.t 32, .k (.c (.int .i64 1))]⟩, ⟨(some 9), none, .mv, [.t 33]⟩] false) (.rg [⟨(some 34), none, .mv, [.t 11]⟩, ⟨(some 10), none, .mv, [.t 34]⟩] false)))))))) (.sq (.rg [⟨(some 35), none, .mv, [.t 9]⟩, ⟨(some 36), none, .mv, [.t 9]⟩, ⟨(some 37), none, .mv, [.t 8]⟩, ⟨(some 38), none, (.bin .lss), [.t 36, .t 37]⟩, ⟨(some 39), none, .mv, [.t 38]⟩, ⟨(some 40), (some (39, true)), .mv, [.t 2]⟩, ⟨(some 41), (some (39, true)), .mv, [.t 0]⟩, ⟨(some 42), (some (39, true)), .mv, [.t 9]⟩, ⟨(some 43), (some (39, true)), (.ia 3), [.t 41, .t 42]⟩, ⟨(some 44), (some (39, true)), (.ld (some 3)), [.t 43]⟩, ⟨(some 45), (some (39, true)), .mv, [.t 1]⟩, ⟨(some 46), (some (39, true)), (.callv .fz), [.t 40, .t 44, .t 45]⟩, ⟨(some 47), (some (39, true)), (.bin .eql), [.t 46, .k (.c (.int .i64 0))]⟩, ⟨(some 48), none, .pick, [.t 39, .t 47, .k (.c (.bool false))]⟩, ⟨(some 6), none, .mv, [.t 35]⟩, ⟨(some 7), none, .mv, [.t 48]⟩] false) (.rt)))))
theorem cf46 : compF Tryz.prog 46 c46 = some ⟨c46, [.t 6, .t 7], 49⟩ := by kernel_rfl

-- raddle/tab.Apply$1
def c47 : IC := .sq (.rg [⟨(some 2), none, (.box (some 3)), [.t 0]⟩, ⟨(some 4), none, .mv, [.k (.c (.int .i64 0))]⟩] false) (.sq (.rg [⟨(some 5), none, (.fa 0), [.t 2]⟩, ⟨(some 6), none, (.ld none), [.t 5]⟩, ⟨(some 7), none, .mv, [.t 1]⟩, ⟨(some 8), none, (.call 48 .fz), [.t 6, .t 7]⟩, ⟨(some 4), none, .mv, [.t 8]⟩] false) (.rt))
theorem cf47 : compF Tryz.prog 47 c47 = some ⟨c47, [.t 4], 9⟩ := by kernel_rfl

-- strings.Compare
def c48 : IC := .sq (.rg [⟨(some 4), none, .mv, [.k (.c (.int .i64 0))]⟩] false) (.sq (.rg [⟨(some 5), none, .mv, [.t 0]⟩, ⟨(some 6), none, .mv, [.t 1]⟩, ⟨(some 7), none, (.call 92 .fz), [.t 5, .t 6]⟩, ⟨(some 4), none, .mv, [.t 7]⟩] false) (.rt))
theorem cf48 : compF Tryz.prog 48 c48 = some ⟨c48, [.t 4], 8⟩ := by kernel_rfl

-- slices.Insert[[]raddle/api.Row,raddle/api.Row]
def c49 : IC := .sq (.rg [⟨(some 6), none, .mv, [.k .z]⟩] false) (.sq (.rg [⟨(some 10), none, .mv, [.t 0]⟩, ⟨(some 11), none, .mv, [.t 1]⟩, ⟨(some 12), none, (.slc 3 true false), [.t 10, .t 11]⟩] false) (.sq (.rg [⟨(some 13), none, .mv, [.t 2]⟩, ⟨(some 14), none, .len, [.t 13]⟩, ⟨(some 7), none, .mv, [.t 14]⟩] false) (.sq (.sq (.rg [⟨(some 15), none, .mv, [.t 7]⟩, ⟨(some 16), none, (.bin .eql), [.t 15, .k (.c (.int .i64 0))]⟩] false) (.cn (.t 16) (.sq (.rg [⟨(some 17), none, .mv, [.t 0]⟩, ⟨(some 6), none, .mv, [.t 17]⟩] false) (.rt)) (.skip))) (.sq (.rg [⟨(some 18), none, .mv, [.t 0]⟩, ⟨(some 19), none, .len, [.t 18]⟩, ⟨(some 8), none, .mv, [.t 19]⟩] false) (.sq (.sq (.rg [⟨(some 20), none, .mv, [.t 1]⟩, ⟨(some 21), none, .mv, [.t 8]⟩, ⟨(some 22), none, (.bin .eql), [.t 20, .t 21]⟩] false) (.cn (.t 22) (.sq (.rg [⟨(some 23), none, .mv, [.t 0]⟩, ⟨(some 24), none, .mv, [.t 2]⟩, ⟨(some 25), none, (.app 3), [.t 23, .t 24]⟩, ⟨(some 6), none, .mv, [.t 25]⟩] false) (.rt)) (.skip))) (.sq (.sq (.rg [⟨(some 26), none, .mv, [.t 8]⟩, ⟨(some 27), none, .mv, [.t 7]⟩, ⟨(some 28), none, (.bin .add), [.t 26, .t 27]⟩, ⟨(some 29), none, .mv, [.t 0]⟩, ⟨(some 30), none, .capo, [.t 29]⟩, ⟨(some 31), none, (.bin .gtr), [.t 28, .t 30]⟩] false) (.cn (.t 31) (.sq (.rg [⟨(some 32), none, .mv, [.t 0]⟩, ⟨(some 33), none, .mv, [.t 1]⟩, ⟨(some 34), none, (.slc 3 false true), [.t 32, .t 33]⟩, ⟨(some 35), none, .mv, [.t 8]⟩, ⟨(some 36), none, .mv, [.t 7]⟩, ⟨(some 37), none, (.bin .add), [.t 35, .t 36]⟩, ⟨(some 38), none, .mv, [.t 1]⟩, ⟨(some 39), none, (.bin .sub), [.t 37, .t 38]⟩, ⟨(some 40), none, (.appz 3 [(.c (.string ⟨#[]⟩)), .z, .z]), [.t 34, .t 39]⟩, ⟨(some 9), none, .mv, [.t 40]⟩] false) (.sq (.rg [⟨(some 41), none, .mv, [.t 9]⟩, ⟨(some 42), none, .mv, [.t 1]⟩, ⟨(some 43), none, (.slc 3 true false), [.t 41, .t 42]⟩, ⟨(some 44), none, .mv, [.t 2]⟩, ⟨(some 45), none, (.cpy 3), [.t 43, .t 44]⟩] false) (.sq (.rg [⟨(some 46), none, .mv, [.t 9]⟩, ⟨(some 47), none, .mv, [.t 1]⟩, ⟨(some 48), none, .mv, [.t 7]⟩, ⟨(some 49), none, (.bin .add), [.t 47, .t 48]⟩, ⟨(some 50), none, (.slc 3 true false), [.t 46, .t 49]⟩, ⟨(some 51), none, .mv, [.t 0]⟩, ⟨(some 52), none, .mv, [.t 1]⟩, ⟨(some 53), none, (.slc 3 true false), [.t 51, .t 52]⟩, ⟨(some 54), none, (.cpy 3), [.t 50, .t 53]⟩] true) (.sq (.rg [⟨(some 55), none, .mv, [.t 9]⟩, ⟨(some 6), none, .mv, [.t 55]⟩] false) (.rt))))) (.skip))) (.sq (.rg [⟨(some 56), none, .mv, [.t 0]⟩, ⟨(some 57), none, .mv, [.t 8]⟩, ⟨(some 58), none, .mv, [.t 7]⟩, ⟨(some 59), none, (.bin .add), [.t 57, .t 58]⟩, ⟨(some 60), none, (.slc 3 false true), [.t 56, .t 59]⟩, ⟨(some 0), none, .mv, [.t 60]⟩] false) (.sq (.sq (.rg [⟨(some 61), none, .mv, [.t 2]⟩, ⟨(some 62), none, .mv, [.t 0]⟩, ⟨(some 63), none, .mv, [.t 1]⟩, ⟨(some 64), none, .mv, [.t 7]⟩, ⟨(some 65), none, (.bin .add), [.t 63, .t 64]⟩, ⟨(some 66), none, (.slc 3 true false), [.t 62, .t 65]⟩, ⟨(some 67), none, (.rcall 93), [.t 61, .t 66]⟩, ⟨(some 68), none, (.un .not), [.t 67]⟩] false) (.cn (.t 68) (.sq (.rg [⟨(some 69), none, .mv, [.t 0]⟩, ⟨(some 70), none, .mv, [.t 1]⟩, ⟨(some 71), none, .mv, [.t 7]⟩, ⟨(some 72), none, (.bin .add), [.t 70, .t 71]⟩, ⟨(some 73), none, (.slc 3 true false), [.t 69, .t 72]⟩, ⟨(some 74), none, .mv, [.t 0]⟩, ⟨(some 75), none, .mv, [.t 1]⟩, ⟨(some 76), none, (.slc 3 true false), [.t 74, .t 75]⟩, ⟨(some 77), none, (.cpy 3), [.t 73, .t 76]⟩] true) (.sq (.rg [⟨(some 78), none, .mv, [.t 0]⟩, ⟨(some 79), none, .mv, [.t 1]⟩, ⟨(some 80), none, (.slc 3 true false), [.t 78, .t 79]⟩, ⟨(some 81), none, .mv, [.t 2]⟩, ⟨(some 82), none, (.cpy 3), [.t 80, .t 81]⟩] false) (.sq (.rg [⟨(some 83), none, .mv, [.t 0]⟩, ⟨(some 6), none, .mv, [.t 83]⟩] false) (.rt)))) (.skip))) (.sq (.rg [⟨(some 84), none, .mv, [.t 0]⟩, ⟨(some 85), none, .mv, [.t 8]⟩, ⟨(some 86), none, (.slc 3 true false), [.t 84, .t 85]⟩, ⟨(some 87), none, .mv, [.t 2]⟩, ⟨(some 88), none, (.cpy 3), [.t 86, .t 87]⟩] false) (.sq (.rg [⟨(some 89), none, .mv, [.t 0]⟩, ⟨(some 90), none, .mv, [.t 1]⟩, ⟨(some 91), none, (.slc 3 true false), [.t 89, .t 90]⟩, ⟨(some 92), none, .mv, [.t 7]⟩, ⟨(some 93), none, (.call 94 .fz), [.t 91, .t 92]⟩] false) (.sq (.rg [⟨(some 94), none, .mv, [.t 0]⟩, ⟨(some 6), none, .mv, [.t 94]⟩] false) (.rt))))))))))))
theorem cf49 : compF Tryz.prog 49 c49 = some ⟨c49, [.t 6], 95⟩ := by kernel_rfl

-- raddle/tab.change
def c50 : IC := .sq (.rg [⟨(some 3), none, (.box (some 12)), [.t 1]⟩] false) (.sq (.rg [⟨(some 8), none, (.fa 6), [.t 3]⟩, ⟨(some 9), none, (.ld none), [.t 8]⟩] false) (.bl 0 (.sq (.rg [⟨(some 11), none, (.bin .eql), [.t 9, .k (.c (.int .i64 1))]⟩, ⟨(some 10), none, .mv, [.t 11]⟩] false) (.cn (.t 10) (.sq (.rg [⟨(some 13), none, .mv, [.t 0]⟩, ⟨(some 14), none, (.fa 0), [.t 13]⟩, ⟨(some 15), none, (.fa 1), [.t 14]⟩, ⟨(some 16), none, (.ld none), [.t 15]⟩, ⟨(some 17), none, (.fa 0), [.t 3]⟩, ⟨(some 18), none, (.ld (some 2)), [.t 17]⟩, ⟨(some 19), none, (.call 95 .fz), [.t 16, .t 18, .k (.fn 96 [])]⟩, ⟨(some 12), none, .mv, [.t 19]⟩, ⟨(some 20), none, (.ext 0), [.t 12]⟩, ⟨(some 21), none, (.ext 1), [.t 12]⟩, ⟨(some 4), none, .mv, [.t 20]⟩, ⟨(some 5), none, .mv, [.t 21]⟩] true) (.sq (.sq (.rg [⟨(some 22), none, .mv, [.t 5]⟩, ⟨(some 23), none, (.un .not), [.t 22]⟩] false) (.cn (.t 23) (.rb [⟨(some 24), none, .mv, [.t 0]⟩, ⟨(some 25), none, .mv, [.t 0]⟩, ⟨(some 26), none, (.fa 0), [.t 25]⟩, ⟨(some 27), none, (.fa 1), [.t 26]⟩, ⟨(some 28), none, (.ld none), [.t 27]⟩, ⟨(some 29), none, .mv, [.t 4]⟩, ⟨(some 30), none, (.fa 0), [.t 3]⟩, ⟨(some 31), none, (.ld (some 2)), [.t 30]⟩, ⟨(some 32), none, (.bsl 2 [(.c (.int .i64 0)), (.c (.int .i64 0))] [0] 1 false), [.t 31]⟩] ⟨(some 33), none, (.rcall 97), [.t 28, .t 29, .t 32]⟩ [⟨(some 34), none, (.fa 0), [.t 24]⟩, ⟨(some 35), none, (.fa 1), [.t 34]⟩, ⟨none, none, (.st 1), [.t 35, .t 33]⟩]) (.skip))) (.sq (.rg [⟨(some 36), none, (.fa 10), [.t 3]⟩, ⟨(some 37), none, (.ld none), [.t 36]⟩, ⟨(some 38), none, .len, [.t 37]⟩, ⟨(some 39), none, .mv, [.k (.c (.int .i64 0))]⟩] false) (.bl 1 (.lp (.sq (.rg [⟨(some 40), none, (.bin .lss), [.t 39, .t 38]⟩] false) (.sq (.cn (.t 40) (.skip) (.ex 1)) (.sq (.bl 2 (.sq (.rg [⟨(some 41), none, .mv, [.t 39]⟩, ⟨(some 42), none, (.ia 3), [.t 37, .t 39]⟩, ⟨(some 43), none, (.ld (some 3)), [.t 42]⟩, ⟨(some 7), none, (.alloc [(.c (.int .i64 0)), (.c (.int .i64 0)), (.c (.string ⟨#[]⟩))]), []⟩, ⟨(some 6), none, .mv, [.t 41]⟩, ⟨none, none, (.st 3), [.t 7, .t 43]⟩] false) (.rb [⟨(some 44), none, .mv, [.t 0]⟩, ⟨(some 45), none, (.fa 0), [.t 44]⟩, ⟨(some 46), none, (.fa 2), [.t 45]⟩, ⟨(some 47), none, (.ld none), [.t 46]⟩, ⟨(some 48), none, .mv, [.t 6]⟩, ⟨(some 49), none, (.ia 8), [.t 47, .t 48]⟩, ⟨(some 50), none, (.ld (some 3)), [.t 7]⟩, ⟨(some 51), none, (.ld (some 12)), [.t 3]⟩] ⟨(some 52), none, (.rcall 98), [.t 49, .t 50, .t 51]⟩ []))) (.rg [⟨(some 53), none, (.bin .add), [.t 39, .k (.c (.int .i64 1))]⟩, ⟨(some 39), none, .mv, [.t 53]⟩] false))))))))) (.sq (.rg [⟨(some 55), none, (.bin .eql), [.t 9, .k (.c (.int .i64 2))]⟩, ⟨(some 54), none, .mv, [.t 55]⟩] false) (.cn (.t 54) (.rb [⟨(some 56), none, .mv, [.t 0]⟩, ⟨(some 57), none, (.fa 0), [.t 56]⟩, ⟨(some 58), none, (.fa 2), [.t 57]⟩, ⟨(some 59), none, (.ld none), [.t 58]⟩, ⟨(some 60), none, (.fa 9), [.t 3]⟩, ⟨(some 61), none, (.ld none), [.t 60]⟩, ⟨(some 62), none, (.ia 8), [.t 59, .t 61]⟩, ⟨(some 63), none, (.fa 10), [.t 3]⟩, ⟨(some 64), none, (.ld none), [.t 63]⟩, ⟨(some 65), none, (.ia 3), [.t 64, .k (.c (.int .i64 0))]⟩, ⟨(some 66), none, (.ld (some 3)), [.t 65]⟩, ⟨(some 67), none, (.ld (some 12)), [.t 3]⟩] ⟨(some 68), none, (.rcall 98), [.t 62, .t 66, .t 67]⟩ []) (.sq (.rg [⟨(some 70), none, (.bin .eql), [.t 9, .k (.c (.int .i64 3))]⟩, ⟨(some 69), none, .mv, [.t 70]⟩] false) (.cn (.t 69) (.rg [⟨(some 71), none, .mv, [.t 0]⟩, ⟨(some 72), none, .mv, [.t 0]⟩, ⟨(some 73), none, (.fa 0), [.t 72]⟩, ⟨(some 74), none, (.fa 1), [.t 73]⟩, ⟨(some 75), none, (.ld none), [.t 74]⟩, ⟨(some 76), none, (.mkf 100), [.t 3]⟩, ⟨(some 77), none, (.rcall 99), [.t 75, .t 76]⟩, ⟨(some 78), none, (.fa 0), [.t 71]⟩, ⟨(some 79), none, (.fa 1), [.t 78]⟩, ⟨none, none, (.st 1), [.t 79, .t 77]⟩] false) (.skip)))))))))
theorem cf50 : compF Tryz.prog 50 c50 = some ⟨c50, [], 80⟩ := by kernel_rfl

-- raddle/raddlekeep.Value
def c51 : IC := .sq (.rg [⟨(some 2), none, (.box (some 3)), [.t 0]⟩, ⟨(some 3), none, (.box (some 3)), [.t 1]⟩, ⟨(some 4), none, .mv, [.k (.c (.bool false))]⟩] false) (.sq (.rg [⟨(some 5), none, (.fa 0), [.t 2]⟩, ⟨(some 6), none, (.ld none), [.t 5]⟩, ⟨(some 7), none, (.fa 0), [.t 3]⟩, ⟨(some 8), none, (.ld none), [.t 7]⟩, ⟨(some 9), none, (.bin .eql), [.t 6, .t 8]⟩, ⟨(some 10), none, .mv, [.t 9]⟩, ⟨(some 11), (some (10, true)), (.fa 1), [.t 2]⟩, ⟨(some 12), (some (10, true)), (.ld none), [.t 11]⟩, ⟨(some 13), (some (10, true)), (.fa 1), [.t 3]⟩, ⟨(some 14), (some (10, true)), (.ld none), [.t 13]⟩, ⟨(some 15), (some (10, true)), (.bin .eql), [.t 12, .t 14]⟩, ⟨(some 16), none, .pick, [.t 10, .t 15, .k (.c (.bool false))]⟩, ⟨(some 17), none, .mv, [.t 16]⟩, ⟨(some 18), (some (17, true)), (.fa 2), [.t 2]⟩, ⟨(some 19), (some (17, true)), (.ld none), [.t 18]⟩, ⟨(some 20), (some (17, true)), (.fa 2), [.t 3]⟩, ⟨(some 21), (some (17, true)), (.ld none), [.t 20]⟩, ⟨(some 22), (some (17, true)), (.bin .eql), [.t 19, .t 21]⟩, ⟨(some 23), none, .pick, [.t 17, .t 22, .k (.c (.bool false))]⟩, ⟨(some 4), none, .mv, [.t 23]⟩] false) (.rt))
theorem cf51 : compF Tryz.prog 51 c51 = some ⟨c51, [.t 4], 24⟩ := by kernel_rfl

-- raddle/raddleref01.sign
-- raddle/raddlekeep.Dots
def c53 : IC := .sq (.rg [⟨(some 4), none, .mv, [.k (.c (.bool false))]⟩] false) (.sq (.sq (.rg [⟨(some 6), none, .mv, [.t 0]⟩, ⟨(some 7), none, .len, [.t 6]⟩, ⟨(some 8), none, .mv, [.t 1]⟩, ⟨(some 9), none, .len, [.t 8]⟩, ⟨(some 10), none, (.bin .neq), [.t 7, .t 9]⟩] false) (.cn (.t 10) (.sq (.rg [⟨(some 4), none, .mv, [.k (.c (.bool false))]⟩] false) (.rt)) (.skip))) (.sq (.sq (.rg [⟨(some 5), none, .mv, [.k (.c (.int .i64 0))]⟩] false) (.bl 0 (.lp (.sq (.sq (.rg [⟨(some 11), none, .mv, [.t 5]⟩, ⟨(some 12), none, .mv, [.t 0]⟩, ⟨(some 13), none, .len, [.t 12]⟩, ⟨(some 14), none, (.bin .lss), [.t 11, .t 13]⟩] false) (.cn (.t 14) (.skip) (.ex 0))) (.sq (.bl 1 (.sq (.rg [⟨(some 17), none, .mv, [.t 0]⟩, ⟨(some 18), none, .mv, [.t 5]⟩, ⟨(some 19), none, (.ia 2), [.t 17, .t 18]⟩, ⟨(some 20), none, (.ld (some 2)), [.t 19]⟩, ⟨(some 21), none, .mv, [.t 1]⟩, ⟨(some 22), none, .mv, [.t 5]⟩, ⟨(some 23), none, (.ia 2), [.t 21, .t 22]⟩, ⟨(some 24), none, (.ld (some 2)), [.t 23]⟩, ⟨(some 25), none, (.call 17 .fz), [.t 20, .t 24]⟩, ⟨(some 26), none, (.un .not), [.t 25]⟩] true) (.cn (.t 26) (.sq (.rg [⟨(some 4), none, .mv, [.k (.c (.bool false))]⟩] false) (.rt)) (.skip)))) (.rg [⟨(some 15), none, .mv, [.t 5]⟩, ⟨(some 16), none, (.bin .add), [.t 15, .k (.c (.int .i64 1))]⟩, ⟨(some 5), none, .mv, [.t 16]⟩] false)))))) (.sq (.rg [⟨(some 4), none, .mv, [.k (.c (.bool true))]⟩] false) (.rt))))
theorem cf53 : compF Tryz.prog 53 c53 = some ⟨c53, [.t 4], 27⟩ := by kernel_rfl

-- raddle/raddlekeep.Cells
def c54 : IC := .sq (.rg [⟨(some 4), none, .mv, [.k (.c (.bool false))]⟩] false) (.sq (.sq (.rg [⟨(some 6), none, .mv, [.t 0]⟩, ⟨(some 7), none, .len, [.t 6]⟩, ⟨(some 8), none, .mv, [.t 1]⟩, ⟨(some 9), none, .len, [.t 8]⟩, ⟨(some 10), none, (.bin .neq), [.t 7, .t 9]⟩] false) (.cn (.t 10) (.sq (.rg [⟨(some 4), none, .mv, [.k (.c (.bool false))]⟩] false) (.rt)) (.skip))) (.sq (.sq (.rg [⟨(some 5), none, .mv, [.k (.c (.int .i64 0))]⟩] false) (.bl 0 (.lp (.sq (.sq (.rg [⟨(some 11), none, .mv, [.t 5]⟩, ⟨(some 12), none, .mv, [.t 0]⟩, ⟨(some 13), none, .len, [.t 12]⟩, ⟨(some 14), none, (.bin .lss), [.t 11, .t 13]⟩] false) (.cn (.t 14) (.skip) (.ex 0))) (.sq (.bl 1 (.sq (.rg [⟨(some 17), none, .mv, [.t 0]⟩, ⟨(some 18), none, .mv, [.t 5]⟩, ⟨(some 19), none, (.ia 8), [.t 17, .t 18]⟩, ⟨(some 20), none, (.fa 0), [.t 19]⟩, ⟨(some 21), none, (.ld (some 3)), [.t 20]⟩, ⟨(some 22), none, .mv, [.t 1]⟩, ⟨(some 23), none, .mv, [.t 5]⟩, ⟨(some 24), none, (.ia 8), [.t 22, .t 23]⟩, ⟨(some 25), none, (.fa 0), [.t 24]⟩, ⟨(some 26), none, (.ld (some 3)), [.t 25]⟩, ⟨(some 27), none, (.call 51 .fz), [.t 21, .t 26]⟩, ⟨(some 28), none, (.un .not), [.t 27]⟩, ⟨(some 29), none, .mv, [.t 28]⟩, ⟨(some 30), (some (29, false)), .mv, [.t 0]⟩, ⟨(some 31), (some (29, false)), .mv, [.t 5]⟩, ⟨(some 32), (some (29, false)), (.ia 8), [.t 30, .t 31]⟩, ⟨(some 33), (some (29, false)), (.fa 3), [.t 32]⟩, ⟨(some 34), (some (29, false)), (.ld (some 3)), [.t 33]⟩, ⟨(some 35), (some (29, false)), .mv, [.t 1]⟩, ⟨(some 36), (some (29, false)), .mv, [.t 5]⟩, ⟨(some 37), (some (29, false)), (.ia 8), [.t 35, .t 36]⟩, ⟨(some 38), (some (29, false)), (.fa 3), [.t 37]⟩, ⟨(some 39), (some (29, false)), (.ld (some 3)), [.t 38]⟩, ⟨(some 40), (some (29, false)), (.call 68 .fz), [.t 34, .t 39]⟩, ⟨(some 41), (some (29, false)), (.un .not), [.t 40]⟩, ⟨(some 42), none, .pick, [.t 29, .k (.c (.bool true)), .t 41]⟩, ⟨(some 43), none, .mv, [.t 42]⟩, ⟨(some 44), (some (43, false)), .mv, [.t 0]⟩, ⟨(some 45), (some (43, false)), .mv, [.t 5]⟩, ⟨(some 46), (some (43, false)), (.ia 8), [.t 44, .t 45]⟩, ⟨(some 47), (some (43, false)), (.fa 6), [.t 46]⟩, ⟨(some 48), (some (43, false)), (.ld (some 2)), [.t 47]⟩, ⟨(some 49), (some (43, false)), .mv, [.t 1]⟩, ⟨(some 50), (some (43, false)), .mv, [.t 5]⟩, ⟨(some 51), (some (43, false)), (.ia 8), [.t 49, .t 50]⟩, ⟨(some 52), (some (43, false)), (.fa 6), [.t 51]⟩, ⟨(some 53), (some (43, false)), (.ld (some 2)), [.t 52]⟩, ⟨(some 54), (some (43, false)), (.call 17 .fz), [.t 48, .t 53]⟩, ⟨(some 55), (some (43, false)), (.un .not), [.t 54]⟩, ⟨(some 56), none, .pick, [.t 43, .k (.c (.bool true)), .t 55]⟩] true) (.cn (.t 56) (.sq (.rg [⟨(some 4), none, .mv, [.k (.c (.bool false))]⟩] false) (.rt)) (.skip)))) (.rg [⟨(some 15), none, .mv, [.t 5]⟩, ⟨(some 16), none, (.bin .add), [.t 15, .k (.c (.int .i64 1))]⟩, ⟨(some 5), none, .mv, [.t 16]⟩] false)))))) (.sq (.rg [⟨(some 4), none, .mv, [.k (.c (.bool true))]⟩] false) (.rt))))
theorem cf54 : compF Tryz.prog 54 c54 = some ⟨c54, [.t 4], 57⟩ := by kernel_rfl

-- raddle/dot.Check
def c55 : IC := .sq (.rg [⟨(some 2), none, .mv, [.k (.c (.int .i64 0))]⟩] false) (.sq (.bl 0 (.sq (.rg [⟨(some 4), none, .mv, [.t 0]⟩, ⟨(some 5), none, .len, [.t 4]⟩, ⟨(some 6), none, (.bin .lss), [.t 5, .k (.c (.int .i64 1))]⟩, ⟨(some 7), none, .mv, [.t 6]⟩, ⟨(some 8), (some (7, false)), .mv, [.t 0]⟩, ⟨(some 9), (some (7, false)), .len, [.t 8]⟩, ⟨(some 10), (some (7, false)), (.bin .gtr), [.t 9, .k (.c (.int .i64 5))]⟩, ⟨(some 11), none, .pick, [.t 7, .k (.c (.bool true)), .t 10]⟩, ⟨(some 3), none, .mv, [.t 11]⟩] false) (.cn (.t 3) (.sq (.rg [⟨(some 2), none, .mv, [.k (.c (.int .i64 2))]⟩] false) (.rt)) (.sq (.rg [⟨(some 13), none, .mv, [.t 0]⟩, ⟨(some 14), none, (.call 82 .fz), [.t 13, .k (.fn 102 [])]⟩, ⟨(some 12), none, .mv, [.t 14]⟩] false) (.cn (.t 12) (.sq (.rg [⟨(some 2), none, .mv, [.k (.c (.int .i64 1))]⟩] false) (.rt)) (.skip)))))) (.sq (.rg [⟨(some 2), none, .mv, [.k (.c (.int .i64 0))]⟩] false) (.rt)))
theorem cf55 : compF Tryz.prog 55 c55 = some ⟨c55, [.t 2], 15⟩ := by kernel_rfl

-- slices.DeleteFunc[[]raddle/api.Row,raddle/api.Row]
def c56 : IC := .sq (.rg [⟨(some 4), none, .mv, [.k .z]⟩] false) (.sq (.rg [⟨(some 8), none, .mv, [.t 0]⟩, ⟨(some 9), none, .mv, [.t 1]⟩, ⟨(some 10), none, (.call 76 .fz), [.t 8, .t 9]⟩, ⟨(some 5), none, .mv, [.t 10]⟩] false) (.sq (.sq (.rg [⟨(some 11), none, .mv, [.t 5]⟩, ⟨(some 12), none, (.bin .eql), [.t 11, .k (.c (.int .i64 (-1)))]⟩] false) (.cn (.t 12) (.sq (.rg [⟨(some 13), none, .mv, [.t 0]⟩, ⟨(some 4), none, .mv, [.t 13]⟩] false) (.rt)) (.skip))) (.sq (.sq (.rg [⟨(some 14), none, .mv, [.t 5]⟩, ⟨(some 15), none, (.bin .add), [.t 14, .k (.c (.int .i64 1))]⟩, ⟨(some 6), none, .mv, [.t 15]⟩] false) (.bl 0 (.lp (.sq (.sq (.rg [⟨(some 16), none, .mv, [.t 6]⟩, ⟨(some 17), none, .mv, [.t 0]⟩, ⟨(some 18), none, .len, [.t 17]⟩, ⟨(some 19), none, (.bin .lss), [.t 16, .t 18]⟩] false) (.cn (.t 19) (.skip) (.ex 0))) (.sq (.bl 1 (.sq (.rg [⟨(some 22), none, .mv, [.t 0]⟩, ⟨(some 23), none, .mv, [.t 6]⟩, ⟨(some 24), none, (.ia 3), [.t 22, .t 23]⟩, ⟨(some 25), none, (.ld (some 3)), [.t 24]⟩, ⟨(some 7), none, (.alloc [(.c (.string ⟨#[]⟩)), .z, .z]), []⟩, ⟨none, none, (.st 3), [.t 7, .t 25]⟩] false) (.sq (.rg [⟨(some 26), none, .mv, [.t 1]⟩, ⟨(some 27), none, (.ld (some 3)), [.t 7]⟩, ⟨(some 28), none, (.callv .fz), [.t 26, .t 27]⟩, ⟨(some 29), none, (.un .not), [.t 28]⟩] false) (.cn (.t 29) (.sq (.rg [⟨(some 30), none, .mv, [.t 0]⟩, ⟨(some 31), none, .mv, [.t 5]⟩, ⟨(some 32), none, (.ld (some 3)), [.t 7]⟩, ⟨(some 33), none, (.ia 3), [.t 30, .t 31]⟩, ⟨none, none, (.st 3), [.t 33, .t 32]⟩] false) (.rg [⟨(some 34), none, .mv, [.t 5]⟩, ⟨(some 35), none, (.bin .add), [.t 34, .k (.c (.int .i64 1))]⟩, ⟨(some 5), none, .mv, [.t 35]⟩] false)) (.skip))))) (.rg [⟨(some 20), none, .mv, [.t 6]⟩, ⟨(some 21), none, (.bin .add), [.t 20, .k (.c (.int .i64 1))]⟩, ⟨(some 6), none, .mv, [.t 21]⟩] false)))))) (.sq (.rg [⟨(some 36), none, .mv, [.t 0]⟩, ⟨(some 37), none, .mv, [.t 5]⟩, ⟨(some 38), none, (.slc 3 true false), [.t 36, .t 37]⟩, ⟨none, none, (.clr 3 [(.c (.string ⟨#[]⟩)), .z, .z]), [.t 38]⟩] false) (.sq (.rg [⟨(some 39), none, .mv, [.t 0]⟩, ⟨(some 40), none, .mv, [.t 5]⟩, ⟨(some 41), none, (.slc 3 false true), [.t 39, .t 40]⟩, ⟨(some 4), none, .mv, [.t 41]⟩] false) (.rt))))))
theorem cf56 : compF Tryz.prog 56 c56 = some ⟨c56, [.t 4], 42⟩ := by kernel_rfl

-- raddle/tab.Compact$1
def c57 : IC := .sq (.rg [⟨(some 2), none, (.box (some 3)), [.t 0]⟩, ⟨(some 3), none, .mv, [.k (.c (.bool false))]⟩] false) (.sq (.rg [⟨(some 4), none, (.fa 1), [.t 2]⟩, ⟨(some 5), none, (.ld none), [.t 4]⟩, ⟨(some 6), none, .len, [.t 5]⟩, ⟨(some 7), none, (.bin .eql), [.t 6, .k (.c (.int .i64 0))]⟩, ⟨(some 8), none, .mv, [.t 7]⟩, ⟨(some 9), (some (8, true)), (.fa 2), [.t 2]⟩, ⟨(some 10), (some (8, true)), (.ld none), [.t 9]⟩, ⟨(some 11), (some (8, true)), (.mkf 59), [.t 1]⟩, ⟨(some 12), (some (8, true)), (.call 58 .fz), [.t 10, .t 11]⟩, ⟨(some 13), (some (8, true)), (.un .not), [.t 12]⟩, ⟨(some 14), none, .pick, [.t 8, .t 13, .k (.c (.bool false))]⟩, ⟨(some 3), none, .mv, [.t 14]⟩] false) (.rt))
theorem cf57 : compF Tryz.prog 57 c57 = some ⟨c57, [.t 3], 15⟩ := by kernel_rfl

-- slices.ContainsFunc[[]raddle/api.Cell,raddle/api.Cell]
def c58 : IC := .sq (.rg [⟨(some 4), none, .mv, [.k (.c (.bool false))]⟩] false) (.sq (.rg [⟨(some 5), none, .mv, [.t 0]⟩, ⟨(some 6), none, .mv, [.t 1]⟩, ⟨(some 7), none, (.call 103 .fz), [.t 5, .t 6]⟩, ⟨(some 8), none, (.bin .geq), [.t 7, .k (.c (.int .i64 0))]⟩, ⟨(some 4), none, .mv, [.t 8]⟩] false) (.rt))
theorem cf58 : compF Tryz.prog 58 c58 = some ⟨c58, [.t 4], 9⟩ := by kernel_rfl

-- raddle/tab.Compact$1$1
def c59 : IC := .sq (.rg [⟨(some 2), none, (.box (some 8)), [.t 0]⟩, ⟨(some 3), none, .mv, [.k (.c (.bool false))]⟩] false) (.sq (.rg [⟨(some 4), none, (.ld (some 8)), [.t 2]⟩, ⟨(some 5), none, (.call 60 .fz), [.t 4]⟩, ⟨(some 6), none, .mv, [.t 5]⟩, ⟨(some 7), (some (6, true)), (.ld none), [.t 1]⟩, ⟨(some 8), (some (6, true)), (.fa 6), [.t 2]⟩, ⟨(some 9), (some (6, true)), (.ld (some 2)), [.t 8]⟩, ⟨(some 10), (some (6, true)), (.call 61 .fz), [.t 7, .t 9]⟩, ⟨(some 11), (some (6, true)), (.un .not), [.t 10]⟩, ⟨(some 12), none, .pick, [.t 6, .t 11, .k (.c (.bool false))]⟩, ⟨(some 3), none, .mv, [.t 12]⟩] false) (.rt))
theorem cf59 : compF Tryz.prog 59 c59 = some ⟨c59, [.t 3], 13⟩ := by kernel_rfl

-- raddle/tab.written
def c60 : IC := .sq (.rg [⟨(some 1), none, (.box (some 8)), [.t 0]⟩, ⟨(some 2), none, .mv, [.k (.c (.bool false))]⟩] false) (.sq (.rg [⟨(some 3), none, (.fa 6), [.t 1]⟩, ⟨(some 4), none, (.ld (some 2)), [.t 3]⟩, ⟨(some 5), none, (.bld [(.c (.int .i64 0)), (.c (.int .i64 0))] []), []⟩, ⟨(some 6), none, (.eqs true [0, 0]), [.t 4, .t 5]⟩, ⟨(some 2), none, .mv, [.t 6]⟩] false) (.rt))
theorem cf60 : compF Tryz.prog 60 c60 = some ⟨c60, [.t 2], 7⟩ := by kernel_rfl

-- raddle/dot.Has
def c61 : IC := .sq (.rg [⟨(some 3), none, (.box (some 2)), [.t 1]⟩, ⟨(some 4), none, .mv, [.k (.c (.bool false))]⟩] false) (.sq (.rg [⟨(some 5), none, .mv, [.t 0]⟩, ⟨(some 6), none, (.fa 0), [.t 3]⟩, ⟨(some 7), none, (.ld none), [.t 6]⟩, ⟨(some 8), none, (.call 104 .fz), [.t 5, .t 7]⟩, ⟨(some 9), none, .mv, [.t 8]⟩, ⟨(some 10), (some (9, true)), (.fa 1), [.t 3]⟩, ⟨(some 11), (some (9, true)), (.ld none), [.t 10]⟩, ⟨(some 12), (some (9, true)), (.bin .geq), [.t 11, .k (.c (.int .i64 1))]⟩, ⟨(some 13), none, .pick, [.t 9, .t 12, .k (.c (.bool false))]⟩, ⟨(some 14), none, .mv, [.t 13]⟩, ⟨(some 15), (some (14, true)), (.fa 1), [.t 3]⟩, ⟨(some 16), (some (14, true)), (.ld none), [.t 15]⟩, ⟨(some 17), (some (14, true)), .mv, [.t 0]⟩, ⟨(some 18), (some (14, true)), (.fa 0), [.t 3]⟩, ⟨(some 19), (some (14, true)), (.ld none), [.t 18]⟩, ⟨(some 20), (some (14, true)), (.ia 1), [.t 17, .t 19]⟩, ⟨(some 21), (some (14, true)), (.ld none), [.t 20]⟩, ⟨(some 22), (some (14, true)), (.bin .leq), [.t 16, .t 21]⟩, ⟨(some 23), none, .pick, [.t 14, .t 22, .k (.c (.bool false))]⟩, ⟨(some 4), none, .mv, [.t 23]⟩] true) (.rt))
theorem cf61 : compF Tryz.prog 61 c61 = some ⟨c61, [.t 4], 24⟩ := by kernel_rfl

-- slices.Clone[[]raddle/api.Row,raddle/api.Row]
def c62 : IC := .sq (.rg [⟨(some 2), none, .mv, [.k .z]⟩] false) (.sq (.sq (.rg [⟨(some 3), none, .mv, [.t 0]⟩, ⟨(some 4), none, (.nilq 0 false), [.t 3]⟩] false) (.cn (.t 4) (.sq (.rg [⟨(some 2), none, .mv, [.k .z]⟩] false) (.rt)) (.skip))) (.sq (.rg [⟨(some 5), none, (.bsl 3 [(.c (.string ⟨#[]⟩)), .z, .z] [] 0 true), []⟩, ⟨(some 6), none, .mv, [.t 0]⟩, ⟨(some 7), none, (.app 3), [.t 5, .t 6]⟩, ⟨(some 2), none, .mv, [.t 7]⟩] false) (.rt)))
theorem cf62 : compF Tryz.prog 62 c62 = some ⟨c62, [.t 2], 8⟩ := by kernel_rfl

-- raddle/raddlekeep.TwinRow
-- raddle/raddleref01.Key
def c64 : IC := .sq (.rg [⟨(some 2), none, .mv, [.k (.c (.bool false))]⟩] false) (.sq (.rg [⟨(some 3), none, .mv, [.t 0]⟩, ⟨(some 4), none, .slen, [.t 3]⟩, ⟨(some 5), none, (.call 39 .fz), [.t 4, .k (.c (.int .i64 1)), .k (.c (.int .i64 12))]⟩, ⟨(some 2), none, .mv, [.t 5]⟩] false) (.rt))
theorem cf64 : compF Tryz.prog 64 c64 = some ⟨c64, [.t 2], 6⟩ := by kernel_rfl

-- raddle/raddleref09.dot
-- raddle/raddleref01.LessDot
def c66 : IC := .sq (.rg [⟨(some 2), none, (.box (some 2)), [.t 0]⟩, ⟨(some 3), none, (.box (some 2)), [.t 1]⟩, ⟨(some 4), none, .mv, [.k (.c (.bool false))]⟩] false) (.sq (.rg [⟨(some 5), none, (.fa 0), [.t 2]⟩, ⟨(some 6), none, (.ld none), [.t 5]⟩, ⟨(some 7), none, (.fa 0), [.t 3]⟩, ⟨(some 8), none, (.ld none), [.t 7]⟩, ⟨(some 9), none, (.bin .lss), [.t 6, .t 8]⟩, ⟨(some 10), none, .mv, [.t 9]⟩, ⟨(some 11), (some (10, false)), (.fa 0), [.t 2]⟩, ⟨(some 12), (some (10, false)), (.ld none), [.t 11]⟩, ⟨(some 13), (some (10, false)), (.fa 0), [.t 3]⟩, ⟨(some 14), (some (10, false)), (.ld none), [.t 13]⟩, ⟨(some 15), (some (10, false)), (.bin .eql), [.t 12, .t 14]⟩, ⟨(some 16), (some (10, false)), .mv, [.t 15]⟩, ⟨(some 17), (some (16, true)), (.fa 1), [.t 2]⟩, ⟨(some 18), (some (16, true)), (.ld none), [.t 17]⟩, ⟨(some 19), (some (16, true)), (.fa 1), [.t 3]⟩, ⟨(some 20), (some (16, true)), (.ld none), [.t 19]⟩, ⟨(some 21), (some (16, true)), (.bin .lss), [.t 18, .t 20]⟩, ⟨(some 22), (some (10, false)), .pick, [.t 16, .t 21, .k (.c (.bool false))]⟩, ⟨(some 23), none, .pick, [.t 10, .k (.c (.bool true)), .t 22]⟩, ⟨(some 4), none, .mv, [.t 23]⟩] false) (.rt))
theorem cf66 : compF Tryz.prog 66 c66 = some ⟨c66, [.t 4], 24⟩ := by kernel_rfl

-- raddle/raddleref09.never
-- raddle/raddlekeep.Stamp
def c68 : IC := .sq (.rg [⟨(some 2), none, (.box (some 3)), [.t 0]⟩, ⟨(some 3), none, (.box (some 3)), [.t 1]⟩, ⟨(some 4), none, .mv, [.k (.c (.bool false))]⟩] false) (.sq (.rg [⟨(some 5), none, (.fa 0), [.t 2]⟩, ⟨(some 6), none, (.ld none), [.t 5]⟩, ⟨(some 7), none, (.fa 0), [.t 3]⟩, ⟨(some 8), none, (.ld none), [.t 7]⟩, ⟨(some 9), none, (.bin .eql), [.t 6, .t 8]⟩, ⟨(some 10), none, .mv, [.t 9]⟩, ⟨(some 11), (some (10, true)), (.fa 1), [.t 2]⟩, ⟨(some 12), (some (10, true)), (.ld none), [.t 11]⟩, ⟨(some 13), (some (10, true)), (.fa 1), [.t 3]⟩, ⟨(some 14), (some (10, true)), (.ld none), [.t 13]⟩, ⟨(some 15), (some (10, true)), (.bin .eql), [.t 12, .t 14]⟩, ⟨(some 16), none, .pick, [.t 10, .t 15, .k (.c (.bool false))]⟩, ⟨(some 17), none, .mv, [.t 16]⟩, ⟨(some 18), (some (17, true)), (.fa 2), [.t 2]⟩, ⟨(some 19), (some (17, true)), (.ld none), [.t 18]⟩, ⟨(some 20), (some (17, true)), (.fa 2), [.t 3]⟩, ⟨(some 21), (some (17, true)), (.ld none), [.t 20]⟩, ⟨(some 22), (some (17, true)), (.bin .eql), [.t 19, .t 21]⟩, ⟨(some 23), none, .pick, [.t 17, .t 22, .k (.c (.bool false))]⟩, ⟨(some 4), none, .mv, [.t 23]⟩] false) (.rt))
theorem cf68 : compF Tryz.prog 68 c68 = some ⟨c68, [.t 4], 24⟩ := by kernel_rfl

-- raddle/raddleref01.Small
def c69 : IC := .sq (.rg [⟨(some 1), none, (.box (some 3)), [.t 0]⟩, ⟨(some 2), none, .mv, [.k (.c (.bool false))]⟩] false) (.sq (.rg [⟨(some 3), none, (.ld (some 3)), [.t 1]⟩, ⟨(some 4), none, (.call 105 .fz), [.t 3]⟩, ⟨(some 5), none, .mv, [.t 4]⟩, ⟨(some 6), (some (5, true)), (.fa 0), [.t 1]⟩, ⟨(some 7), (some (5, true)), (.ld none), [.t 6]⟩, ⟨(some 8), (some (5, true)), (.bin .neq), [.t 7, .k (.c (.int .i64 3))]⟩, ⟨(some 9), (some (5, true)), .mv, [.t 8]⟩, ⟨(some 10), (some (9, false)), (.fa 1), [.t 1]⟩, ⟨(some 11), (some (9, false)), (.ld none), [.t 10]⟩, ⟨(some 12), (some (9, false)), (.call 39 .fz), [.t 11, .k (.c (.int .i64 (-2147483648))), .k (.c (.int .i64 2147483648))]⟩, ⟨(some 13), (some (5, true)), .pick, [.t 9, .k (.c (.bool true)), .t 12]⟩, ⟨(some 14), none, .pick, [.t 5, .t 13, .k (.c (.bool false))]⟩, ⟨(some 2), none, .mv, [.t 14]⟩] false) (.rt))
theorem cf69 : compF Tryz.prog 69 c69 = some ⟨c69, [.t 2], 15⟩ := by kernel_rfl

-- raddle/raddleref01.Fits
def c70 : IC := .sq (.rg [⟨(some 2), none, (.box (some 3)), [.t 0]⟩, ⟨(some 4), none, .mv, [.k (.c (.bool false))]⟩] false) (.sq (.rg [⟨(some 5), none, .mv, [.t 1]⟩, ⟨(some 6), none, (.call 40 .fz), [.t 5]⟩, ⟨(some 7), none, .mv, [.t 6]⟩, ⟨(some 8), (some (7, true)), (.ld (some 3)), [.t 2]⟩, ⟨(some 9), (some (7, true)), (.call 105 .fz), [.t 8]⟩, ⟨(some 10), none, .pick, [.t 7, .t 9, .k (.c (.bool false))]⟩, ⟨(some 11), none, .mv, [.t 10]⟩, ⟨(some 12), (some (11, true)), (.fa 0), [.t 2]⟩, ⟨(some 13), (some (11, true)), (.ld none), [.t 12]⟩, ⟨(some 14), (some (11, true)), .mv, [.t 1]⟩, ⟨(some 15), (some (11, true)), (.bin .eql), [.t 13, .t 14]⟩, ⟨(some 16), (some (11, true)), .mv, [.t 15]⟩, ⟨(some 17), (some (16, false)), (.fa 0), [.t 2]⟩, ⟨(some 18), (some (16, false)), (.ld none), [.t 17]⟩, ⟨(some 19), (some (16, false)), (.bin .eql), [.t 18, .k (.c (.int .i64 1))]⟩, ⟨(some 20), (some (11, true)), .pick, [.t 16, .k (.c (.bool true)), .t 19]⟩, ⟨(some 21), none, .pick, [.t 11, .t 20, .k (.c (.bool false))]⟩, ⟨(some 4), none, .mv, [.t 21]⟩] false) (.rt))
theorem cf70 : compF Tryz.prog 70 c70 = some ⟨c70, [.t 4], 22⟩ := by kernel_rfl

-- raddle/raddleref01.Stamp
def c71 : IC := .sq (.rg [⟨(some 1), none, (.box (some 3)), [.t 0]⟩, ⟨(some 2), none, .mv, [.k (.c (.bool false))]⟩] false) (.sq (.rg [⟨(some 3), none, (.fa 0), [.t 1]⟩, ⟨(some 4), none, (.ld none), [.t 3]⟩, ⟨(some 5), none, (.call 39 .fz), [.t 4, .k (.c (.int .i64 0)), .k (.c (.int .i64 1099511627776))]⟩, ⟨(some 6), none, .mv, [.t 5]⟩, ⟨(some 7), (some (6, true)), (.fa 1), [.t 1]⟩, ⟨(some 8), (some (6, true)), (.ld none), [.t 7]⟩, ⟨(some 9), (some (6, true)), (.call 39 .fz), [.t 8, .k (.c (.int .i64 0)), .k (.c (.int .i64 65536))]⟩, ⟨(some 10), none, .pick, [.t 6, .t 9, .k (.c (.bool false))]⟩, ⟨(some 11), none, .mv, [.t 10]⟩, ⟨(some 12), (some (11, true)), (.fa 2), [.t 1]⟩, ⟨(some 13), (some (11, true)), (.ld none), [.t 12]⟩, ⟨(some 14), (some (11, true)), (.call 39 .fz), [.t 13, .k (.c (.int .i64 0)), .k (.c (.int .i64 4))]⟩, ⟨(some 15), none, .pick, [.t 11, .t 14, .k (.c (.bool false))]⟩, ⟨(some 2), none, .mv, [.t 15]⟩] false) (.rt))
theorem cf71 : compF Tryz.prog 71 c71 = some ⟨c71, [.t 2], 16⟩ := by kernel_rfl

-- raddle/raddleref09.in
def c72 : IC := .sq (.rg [⟨(some 6), none, .mv, [.k (.c (.bool false))]⟩] false) (.sq (.rg [⟨(some 7), none, .mv, [.t 0]⟩, ⟨(some 8), none, .mv, [.t 1]⟩, ⟨(some 9), none, (.bin .geq), [.t 7, .t 8]⟩, ⟨(some 10), none, .mv, [.t 9]⟩, ⟨(some 11), (some (10, true)), .mv, [.t 0]⟩, ⟨(some 12), (some (10, true)), .mv, [.t 2]⟩, ⟨(some 13), (some (10, true)), (.bin .leq), [.t 11, .t 12]⟩, ⟨(some 14), none, .pick, [.t 10, .t 13, .k (.c (.bool false))]⟩, ⟨(some 6), none, .mv, [.t 14]⟩] false) (.rt))
theorem cf72 : compF Tryz.prog 72 c72 = some ⟨c72, [.t 6], 15⟩ := by kernel_rfl

-- raddle/raddleref01.Op
def c73 : IC := .sq (.rg [⟨(some 5), none, (.box (some 12)), [.t 2]⟩, ⟨(some 6), none, .mv, [.k (.c (.bool false))]⟩] false) (.sq (.sq (.rg [⟨(some 10), none, (.fa 0), [.t 5]⟩, ⟨(some 11), none, (.fa 0), [.t 10]⟩, ⟨(some 12), none, (.ld none), [.t 11]⟩, ⟨(some 13), none, .mv, [.t 0]⟩, ⟨(some 14), none, (.bin .sub), [.t 13, .k (.c (.int .i64 1))]⟩, ⟨(some 15), none, (.call 39 .fz), [.t 12, .k (.c (.int .i64 0)), .t 14]⟩, ⟨(some 16), none, (.un .not), [.t 15]⟩, ⟨(some 17), none, .mv, [.t 16]⟩, ⟨(some 18), (some (17, false)), (.fa 0), [.t 5]⟩, ⟨(some 19), (some (17, false)), (.fa 1), [.t 18]⟩, ⟨(some 20), (some (17, false)), (.ld none), [.t 19]⟩, ⟨(some 21), (some (17, false)), (.call 39 .fz), [.t 20, .k (.c (.int .i64 1)), .k (.c (.int .i64 1073741824))]⟩, ⟨(some 22), (some (17, false)), (.un .not), [.t 21]⟩, ⟨(some 23), none, .pick, [.t 17, .k (.c (.bool true)), .t 22]⟩, ⟨(some 24), none, .mv, [.t 23]⟩, ⟨(some 25), (some (24, false)), (.fa 2), [.t 5]⟩, ⟨(some 26), (some (24, false)), (.ld none), [.t 25]⟩, ⟨(some 27), (some (24, false)), .len, [.t 26]⟩, ⟨(some 28), (some (24, false)), .mv, [.t 0]⟩, ⟨(some 29), (some (24, false)), (.bin .neq), [.t 27, .t 28]⟩, ⟨(some 30), none, .pick, [.t 24, .k (.c (.bool true)), .t 29]⟩, ⟨(some 31), none, .mv, [.t 30]⟩, ⟨(some 32), (some (31, false)), (.fa 2), [.t 5]⟩, ⟨(some 33), (some (31, false)), (.ld none), [.t 32]⟩, ⟨(some 34), (some (31, false)), (.call 19 .fz), [.t 33]⟩, ⟨(some 35), (some (31, false)), (.bin .neq), [.t 34, .k (.c (.int .i64 0))]⟩, ⟨(some 36), none, .pick, [.t 31, .k (.c (.bool true)), .t 35]⟩, ⟨(some 37), none, .mv, [.t 36]⟩, ⟨(some 38), (some (37, false)), (.fa 2), [.t 5]⟩, ⟨(some 39), (some (37, false)), (.ld none), [.t 38]⟩, ⟨(some 40), (some (37, false)), (.fa 0), [.t 5]⟩, ⟨(some 41), (some (37, false)), (.fa 0), [.t 40]⟩, ⟨(some 42), (some (37, false)), (.ld none), [.t 41]⟩, ⟨(some 43), (some (37, false)), (.ia 1), [.t 39, .t 42]⟩, ⟨(some 44), (some (37, false)), (.ld none), [.t 43]⟩, ⟨(some 45), (some (37, false)), (.fa 0), [.t 5]⟩, ⟨(some 46), (some (37, false)), (.fa 1), [.t 45]⟩, ⟨(some 47), (some (37, false)), (.ld none), [.t 46]⟩, ⟨(some 48), (some (37, false)), (.bin .sub), [.t 47, .k (.c (.int .i64 1))]⟩, ⟨(some 49), (some (37, false)), (.bin .neq), [.t 44, .t 48]⟩, ⟨(some 50), none, .pick, [.t 37, .k (.c (.bool true)), .t 49]⟩, ⟨(some 51), none, .mv, [.t 50]⟩, ⟨(some 52), (some (51, false)), (.fa 3), [.t 5]⟩, ⟨(some 53), (some (51, false)), (.ld (some 3)), [.t 52]⟩, ⟨(some 54), (some (51, false)), (.call 71 .fz), [.t 53]⟩, ⟨(some 55), (some (51, false)), (.un .not), [.t 54]⟩, ⟨(some 56), none, .pick, [.t 51, .k (.c (.bool true)), .t 55]⟩, ⟨(some 57), none, .mv, [.t 56]⟩, ⟨(some 58), (some (57, false)), (.fa 3), [.t 5]⟩, ⟨(some 59), (some (57, false)), (.fa 2), [.t 58]⟩, ⟨(some 60), (some (57, false)), (.ld none), [.t 59]⟩, ⟨(some 61), (some (57, false)), (.fa 0), [.t 5]⟩, ⟨(some 62), (some (57, false)), (.fa 0), [.t 61]⟩, ⟨(some 63), (some (57, false)), (.ld none), [.t 62]⟩, ⟨(some 64), (some (57, false)), (.bin .neq), [.t 60, .t 63]⟩, ⟨(some 65), none, .pick, [.t 57, .k (.c (.bool true)), .t 64]⟩, ⟨(some 66), none, .mv, [.t 65]⟩, ⟨(some 67), (some (66, false)), (.fa 7), [.t 5]⟩, ⟨(some 68), (some (66, false)), (.ld none), [.t 67]⟩, ⟨(some 69), (some (66, false)), .mv, [.t 1]⟩, ⟨(some 70), (some (66, false)), .len, [.t 69]⟩, ⟨(some 71), (some (66, false)), (.bin .sub), [.t 70, .k (.c (.int .i64 1))]⟩, ⟨(some 72), (some (66, false)), (.call 39 .fz), [.t 68, .k (.c (.int .i64 0)), .t 71]⟩, ⟨(some 73), (some (66, false)), (.un .not), [.t 72]⟩, ⟨(some 74), none, .pick, [.t 66, .k (.c (.bool true)), .t 73]⟩, ⟨(some 75), none, .mv, [.t 74]⟩, ⟨(some 76), (some (75, false)), (.fa 8), [.t 5]⟩, ⟨(some 77), (some (75, false)), (.ld none), [.t 76]⟩, ⟨(some 78), (some (75, false)), (.call 64 .fz), [.t 77]⟩, ⟨(some 79), (some (75, false)), (.un .not), [.t 78]⟩, ⟨(some 80), none, .pick, [.t 75, .k (.c (.bool true)), .t 79]⟩] true) (.cn (.t 80) (.sq (.rg [⟨(some 6), none, .mv, [.k (.c (.bool false))]⟩] false) (.rt)) (.skip))) (.sq (.rg [⟨(some 81), none, .mv, [.t 1]⟩, ⟨(some 82), none, (.fa 7), [.t 5]⟩, ⟨(some 83), none, (.ld none), [.t 82]⟩, ⟨(some 84), none, (.ia 1), [.t 81, .t 83]⟩, ⟨(some 85), none, (.fa 0), [.t 84]⟩, ⟨(some 86), none, (.ld none), [.t 85]⟩, ⟨(some 7), none, .mv, [.t 86]⟩] false) (.sq (.sq (.rg [⟨(some 87), none, (.fa 6), [.t 5]⟩, ⟨(some 88), none, (.ld none), [.t 87]⟩] false) (.bl 0 (.sq (.rg [⟨(some 90), none, (.bin .eql), [.t 88, .k (.c (.int .i64 1))]⟩, ⟨(some 89), none, .mv, [.t 90]⟩] false) (.cn (.t 89) (.sq (.sq (.rg [⟨(some 91), none, (.fa 10), [.t 5]⟩, ⟨(some 92), none, (.ld none), [.t 91]⟩, ⟨(some 93), none, .len, [.t 92]⟩, ⟨(some 94), none, .mv, [.t 7]⟩, ⟨(some 95), none, .len, [.t 94]⟩, ⟨(some 96), none, (.bin .neq), [.t 93, .t 95]⟩, ⟨(some 97), none, .mv, [.t 96]⟩, ⟨(some 98), (some (97, false)), (.fa 9), [.t 5]⟩, ⟨(some 99), (some (97, false)), (.ld none), [.t 98]⟩, ⟨(some 100), (some (97, false)), (.bin .neq), [.t 99, .k (.c (.int .i64 0))]⟩, ⟨(some 101), none, .pick, [.t 97, .k (.c (.bool true)), .t 100]⟩, ⟨(some 102), none, .mv, [.t 101]⟩, ⟨(some 103), (some (102, false)), (.fa 11), [.t 5]⟩, ⟨(some 104), (some (102, false)), (.ld none), [.t 103]⟩, ⟨(some 105), (some (102, false)), .len, [.t 104]⟩, ⟨(some 106), (some (102, false)), (.bin .gtr), [.t 105, .k (.c (.int .i64 0))]⟩, ⟨(some 107), none, .pick, [.t 102, .k (.c (.bool true)), .t 106]⟩] false) (.cn (.t 107) (.sq (.rg [⟨(some 6), none, .mv, [.k (.c (.bool false))]⟩] false) (.rt)) (.skip))) (.sq (.sq (.rg [⟨(some 8), none, .mv, [.k (.c (.int .i64 0))]⟩] false) (.bl 1 (.lp (.sq (.sq (.rg [⟨(some 108), none, .mv, [.t 8]⟩, ⟨(some 109), none, .mv, [.t 7]⟩, ⟨(some 110), none, .len, [.t 109]⟩, ⟨(some 111), none, (.bin .lss), [.t 108, .t 110]⟩] false) (.cn (.t 111) (.skip) (.ex 1))) (.sq (.bl 2 (.sq (.rg [⟨(some 114), none, (.fa 10), [.t 5]⟩, ⟨(some 115), none, (.ld none), [.t 114]⟩, ⟨(some 116), none, .mv, [.t 8]⟩, ⟨(some 117), none, (.ia 3), [.t 115, .t 116]⟩, ⟨(some 118), none, (.ld (some 3)), [.t 117]⟩, ⟨(some 119), none, (.call 69 .fz), [.t 118]⟩, ⟨(some 120), none, (.un .not), [.t 119]⟩, ⟨(some 121), none, .mv, [.t 120]⟩, ⟨(some 122), (some (121, false)), (.fa 10), [.t 5]⟩, ⟨(some 123), (some (121, false)), (.ld none), [.t 122]⟩, ⟨(some 124), (some (121, false)), .mv, [.t 8]⟩, ⟨(some 125), (some (121, false)), (.ia 3), [.t 123, .t 124]⟩, ⟨(some 126), (some (121, false)), (.ld (some 3)), [.t 125]⟩, ⟨(some 127), (some (121, false)), .mv, [.t 7]⟩, ⟨(some 128), (some (121, false)), .mv, [.t 8]⟩, ⟨(some 129), (some (121, false)), (.ia 1), [.t 127, .t 128]⟩, ⟨(some 130), (some (121, false)), (.ld none), [.t 129]⟩, ⟨(some 131), (some (121, false)), (.call 70 .fz), [.t 126, .t 130]⟩, ⟨(some 132), (some (121, false)), (.un .not), [.t 131]⟩, ⟨(some 133), none, .pick, [.t 121, .k (.c (.bool true)), .t 132]⟩] true) (.cn (.t 133) (.sq (.rg [⟨(some 6), none, .mv, [.k (.c (.bool false))]⟩] false) (.rt)) (.skip)))) (.rg [⟨(some 112), none, .mv, [.t 8]⟩, ⟨(some 113), none, (.bin .add), [.t 112, .k (.c (.int .i64 1))]⟩, ⟨(some 8), none, .mv, [.t 113]⟩] false)))))) (.sq (.rg [⟨(some 6), none, .mv, [.k (.c (.bool true))]⟩] false) (.rt)))) (.sq (.rg [⟨(some 135), none, (.bin .eql), [.t 88, .k (.c (.int .i64 2))]⟩, ⟨(some 134), none, .mv, [.t 135]⟩] false) (.cn (.t 134) (.sq (.rg [⟨(some 136), none, (.fa 9), [.t 5]⟩, ⟨(some 137), none, (.ld none), [.t 136]⟩, ⟨(some 138), none, .mv, [.t 7]⟩, ⟨(some 139), none, .len, [.t 138]⟩, ⟨(some 140), none, (.bin .sub), [.t 139, .k (.c (.int .i64 1))]⟩, ⟨(some 141), none, (.call 39 .fz), [.t 137, .k (.c (.int .i64 0)), .t 140]⟩, ⟨(some 142), none, .mv, [.t 141]⟩, ⟨(some 143), (some (142, true)), (.fa 10), [.t 5]⟩, ⟨(some 144), (some (142, true)), (.ld none), [.t 143]⟩, ⟨(some 145), (some (142, true)), .len, [.t 144]⟩, ⟨(some 146), (some (142, true)), (.bin .eql), [.t 145, .k (.c (.int .i64 1))]⟩, ⟨(some 147), none, .pick, [.t 142, .t 146, .k (.c (.bool false))]⟩, ⟨(some 148), none, .mv, [.t 147]⟩, ⟨(some 149), (some (148, true)), (.fa 10), [.t 5]⟩, ⟨(some 150), (some (148, true)), (.ld none), [.t 149]⟩, ⟨(some 151), (some (148, true)), (.ia 3), [.t 150, .k (.c (.int .i64 0))]⟩, ⟨(some 152), (some (148, true)), (.ld (some 3)), [.t 151]⟩, ⟨(some 153), (some (148, true)), (.call 69 .fz), [.t 152]⟩, ⟨(some 154), none, .pick, [.t 148, .t 153, .k (.c (.bool false))]⟩, ⟨(some 155), none, .mv, [.t 154]⟩, ⟨(some 156), (some (155, true)), (.fa 10), [.t 5]⟩, ⟨(some 157), (some (155, true)), (.ld none), [.t 156]⟩, ⟨(some 158), (some (155, true)), (.ia 3), [.t 157, .k (.c (.int .i64 0))]⟩, ⟨(some 159), (some (155, true)), (.ld (some 3)), [.t 158]⟩, ⟨(some 160), (some (155, true)), .mv, [.t 7]⟩, ⟨(some 161), (some (155, true)), (.fa 9), [.t 5]⟩, ⟨(some 162), (some (155, true)), (.ld none), [.t 161]⟩, ⟨(some 163), (some (155, true)), (.ia 1), [.t 160, .t 162]⟩, ⟨(some 164), (some (155, true)), (.ld none), [.t 163]⟩, ⟨(some 165), (some (155, true)), (.call 70 .fz), [.t 159, .t 164]⟩, ⟨(some 166), none, .pick, [.t 155, .t 165, .k (.c (.bool false))]⟩, ⟨(some 167), none, .mv, [.t 166]⟩, ⟨(some 168), (some (167, true)), (.fa 11), [.t 5]⟩, ⟨(some 169), (some (167, true)), (.ld none), [.t 168]⟩, ⟨(some 170), (some (167, true)), .len, [.t 169]⟩, ⟨(some 171), (some (167, true)), (.bin .eql), [.t 170, .k (.c (.int .i64 0))]⟩, ⟨(some 172), none, .pick, [.t 167, .t 171, .k (.c (.bool false))]⟩, ⟨(some 6), none, .mv, [.t 172]⟩] true) (.rt)) (.sq (.rg [⟨(some 174), none, (.bin .eql), [.t 88, .k (.c (.int .i64 3))]⟩, ⟨(some 173), none, .mv, [.t 174]⟩] false) (.cn (.t 173) (.sq (.sq (.rg [⟨(some 175), none, (.fa 11), [.t 5]⟩, ⟨(some 176), none, (.ld none), [.t 175]⟩, ⟨(some 177), none, .len, [.t 176]⟩, ⟨(some 178), none, (.call 39 .fz), [.t 177, .k (.c (.int .i64 1)), .k (.c (.int .i64 64))]⟩, ⟨(some 179), none, (.un .not), [.t 178]⟩, ⟨(some 180), none, .mv, [.t 179]⟩, ⟨(some 181), (some (180, false)), (.fa 9), [.t 5]⟩, ⟨(some 182), (some (180, false)), (.ld none), [.t 181]⟩, ⟨(some 183), (some (180, false)), (.bin .neq), [.t 182, .k (.c (.int .i64 0))]⟩, ⟨(some 184), none, .pick, [.t 180, .k (.c (.bool true)), .t 183]⟩, ⟨(some 185), none, .mv, [.t 184]⟩, ⟨(some 186), (some (185, false)), (.fa 10), [.t 5]⟩, ⟨(some 187), (some (185, false)), (.ld none), [.t 186]⟩, ⟨(some 188), (some (185, false)), .len, [.t 187]⟩, ⟨(some 189), (some (185, false)), (.bin .gtr), [.t 188, .k (.c (.int .i64 0))]⟩, ⟨(some 190), none, .pick, [.t 185, .k (.c (.bool true)), .t 189]⟩] false) (.cn (.t 190) (.sq (.rg [⟨(some 6), none, .mv, [.k (.c (.bool false))]⟩] false) (.rt)) (.skip))) (.sq (.sq (.rg [⟨(some 9), none, .mv, [.k (.c (.int .i64 0))]⟩] false) (.bl 3 (.lp (.sq (.sq (.rg [⟨(some 191), none, .mv, [.t 9]⟩, ⟨(some 192), none, (.fa 11), [.t 5]⟩, ⟨(some 193), none, (.ld none), [.t 192]⟩, ⟨(some 194), none, .len, [.t 193]⟩, ⟨(some 195), none, (.bin .lss), [.t 191, .t 194]⟩] false) (.cn (.t 195) (.skip) (.ex 3))) (.sq (.bl 4 (.sq (.rg [⟨(some 198), none, (.fa 2), [.t 5]⟩, ⟨(some 199), none, (.ld none), [.t 198]⟩, ⟨(some 200), none, (.fa 11), [.t 5]⟩, ⟨(some 201), none, (.ld none), [.t 200]⟩, ⟨(some 202), none, .mv, [.t 9]⟩, ⟨(some 203), none, (.ia 2), [.t 201, .t 202]⟩, ⟨(some 204), none, (.ld (some 2)), [.t 203]⟩, ⟨(some 205), none, (.call 78 .fz), [.t 199, .t 204]⟩, ⟨(some 206), none, (.un .not), [.t 205]⟩, ⟨(some 207), none, .mv, [.t 206]⟩, ⟨(some 208), (some (207, false)), .mv, [.t 9]⟩, ⟨(some 209), (some (207, false)), (.bin .gtr), [.t 208, .k (.c (.int .i64 0))]⟩, ⟨(some 210), (some (207, false)), .mv, [.t 209]⟩, ⟨(some 211), (some (210, true)), (.fa 11), [.t 5]⟩, ⟨(some 212), (some (210, true)), (.ld none), [.t 211]⟩, ⟨(some 213), (some (210, true)), .mv, [.t 9]⟩, ⟨(some 214), (some (210, true)), (.bin .sub), [.t 213, .k (.c (.int .i64 1))]⟩, ⟨(some 215), (some (210, true)), (.ia 2), [.t 212, .t 214]⟩, ⟨(some 216), (some (210, true)), (.ld (some 2)), [.t 215]⟩, ⟨(some 217), (some (210, true)), (.fa 11), [.t 5]⟩, ⟨(some 218), (some (210, true)), (.ld none), [.t 217]⟩, ⟨(some 219), (some (210, true)), .mv, [.t 9]⟩, ⟨(some 220), (some (210, true)), (.ia 2), [.t 218, .t 219]⟩, ⟨(some 221), (some (210, true)), (.ld (some 2)), [.t 220]⟩, ⟨(some 222), (some (210, true)), (.call 66 .fz), [.t 216, .t 221]⟩, ⟨(some 223), (some (210, true)), (.un .not), [.t 222]⟩, ⟨(some 224), (some (207, false)), .pick, [.t 210, .t 223, .k (.c (.bool false))]⟩, ⟨(some 225), none, .pick, [.t 207, .k (.c (.bool true)), .t 224]⟩] true) (.cn (.t 225) (.sq (.rg [⟨(some 6), none, .mv, [.k (.c (.bool false))]⟩] false) (.rt)) (.skip)))) (.rg [⟨(some 196), none, .mv, [.t 9]⟩, ⟨(some 197), none, (.bin .add), [.t 196, .k (.c (.int .i64 1))]⟩, ⟨(some 9), none, .mv, [.t 197]⟩] false)))))) (.sq (.rg [⟨(some 6), none, .mv, [.k (.c (.bool true))]⟩] false) (.rt)))) (.skip))))))))) (.sq (.rg [⟨(some 6), none, .mv, [.k (.c (.bool false))]⟩] false) (.rt)))))
theorem cf73 : compF Tryz.prog 73 c73 = some ⟨c73, [.t 6], 226⟩ := by kernel_rfl

-- raddle/raddleref09.seen
-- raddle/raddleref09.set
-- slices.IndexFunc[[]raddle/api.Row,raddle/api.Row]
def c76 : IC := .sq (.rg [⟨(some 4), none, .mv, [.k (.c (.int .i64 0))]⟩] false) (.sq (.sq (.rg [⟨(some 6), none, .mv, [.t 0]⟩, ⟨(some 7), none, .len, [.t 6]⟩, ⟨(some 8), none, .mv, [.k (.c (.int .i64 0))]⟩] false) (.bl 0 (.lp (.sq (.rg [⟨(some 9), none, (.bin .lss), [.t 8, .t 7]⟩] false) (.sq (.cn (.t 9) (.skip) (.ex 0)) (.sq (.bl 1 (.sq (.rg [⟨(some 10), none, .mv, [.t 8]⟩, ⟨(some 5), none, .mv, [.t 10]⟩] false) (.sq (.rg [⟨(some 11), none, .mv, [.t 1]⟩, ⟨(some 12), none, .mv, [.t 0]⟩, ⟨(some 13), none, .mv, [.t 5]⟩, ⟨(some 14), none, (.ia 3), [.t 12, .t 13]⟩, ⟨(some 15), none, (.ld (some 3)), [.t 14]⟩, ⟨(some 16), none, (.callv .fz), [.t 11, .t 15]⟩] false) (.cn (.t 16) (.sq (.rg [⟨(some 17), none, .mv, [.t 5]⟩, ⟨(some 4), none, .mv, [.t 17]⟩] false) (.rt)) (.skip))))) (.rg [⟨(some 18), none, (.bin .add), [.t 8, .k (.c (.int .i64 1))]⟩, ⟨(some 8), none, .mv, [.t 18]⟩] false))))))) (.sq (.rg [⟨(some 4), none, .mv, [.k (.c (.int .i64 (-1)))]⟩] false) (.rt)))
theorem cf76 : compF Tryz.prog 76 c76 = some ⟨c76, [.t 4], 19⟩ := by kernel_rfl

-- raddle/tab.Find$1
-- raddle/raddleref01.Has
def c78 : IC := .sq (.rg [⟨(some 3), none, (.box (some 2)), [.t 1]⟩, ⟨(some 4), none, .mv, [.k (.c (.bool false))]⟩] false) (.sq (.rg [⟨(some 5), none, (.fa 0), [.t 3]⟩, ⟨(some 6), none, (.ld none), [.t 5]⟩, ⟨(some 7), none, .mv, [.t 0]⟩, ⟨(some 8), none, .len, [.t 7]⟩, ⟨(some 9), none, (.bin .sub), [.t 8, .k (.c (.int .i64 1))]⟩, ⟨(some 10), none, (.call 39 .fz), [.t 6, .k (.c (.int .i64 0)), .t 9]⟩, ⟨(some 11), none, .mv, [.t 10]⟩, ⟨(some 12), (some (11, true)), (.fa 1), [.t 3]⟩, ⟨(some 13), (some (11, true)), (.ld none), [.t 12]⟩, ⟨(some 14), (some (11, true)), (.bin .geq), [.t 13, .k (.c (.int .i64 1))]⟩, ⟨(some 15), none, .pick, [.t 11, .t 14, .k (.c (.bool false))]⟩, ⟨(some 16), none, .mv, [.t 15]⟩, ⟨(some 17), (some (16, true)), (.fa 1), [.t 3]⟩, ⟨(some 18), (some (16, true)), (.ld none), [.t 17]⟩, ⟨(some 19), (some (16, true)), .mv, [.t 0]⟩, ⟨(some 20), (some (16, true)), (.fa 0), [.t 3]⟩, ⟨(some 21), (some (16, true)), (.ld none), [.t 20]⟩, ⟨(some 22), (some (16, true)), (.ia 1), [.t 19, .t 21]⟩, ⟨(some 23), (some (16, true)), (.ld none), [.t 22]⟩, ⟨(some 24), (some (16, true)), (.bin .leq), [.t 18, .t 23]⟩, ⟨(some 25), none, .pick, [.t 16, .t 24, .k (.c (.bool false))]⟩, ⟨(some 4), none, .mv, [.t 25]⟩] true) (.rt))
theorem cf78 : compF Tryz.prog 78 c78 = some ⟨c78, [.t 4], 26⟩ := by kernel_rfl

-- raddle/raddlelaw03.Long
def c79 : IC := .sq (.rg [⟨(some 2), none, .mv, [.k (.c (.bool false))]⟩] false) (.sq (.sq (.rg [⟨(some 3), none, .mv, [.k (.c (.int .i64 0))]⟩] false) (.bl 0 (.lp (.sq (.sq (.rg [⟨(some 4), none, .mv, [.t 3]⟩, ⟨(some 5), none, .mv, [.t 0]⟩, ⟨(some 6), none, .len, [.t 5]⟩, ⟨(some 7), none, (.bin .lss), [.t 4, .t 6]⟩] false) (.cn (.t 7) (.skip) (.ex 0))) (.sq (.bl 1 (.sq (.rg [⟨(some 10), none, .mv, [.t 0]⟩, ⟨(some 11), none, .mv, [.t 3]⟩, ⟨(some 12), none, (.ia 3), [.t 10, .t 11]⟩, ⟨(some 13), none, (.fa 2), [.t 12]⟩, ⟨(some 14), none, (.ld none), [.t 13]⟩, ⟨(some 15), none, .slen, [.t 14]⟩, ⟨(some 16), none, (.bin .gtr), [.t 15, .k (.c (.int .i64 300))]⟩] false) (.cn (.t 16) (.sq (.rg [⟨(some 2), none, .mv, [.k (.c (.bool true))]⟩] false) (.rt)) (.skip)))) (.rg [⟨(some 8), none, .mv, [.t 3]⟩, ⟨(some 9), none, (.bin .add), [.t 8, .k (.c (.int .i64 1))]⟩, ⟨(some 3), none, .mv, [.t 9]⟩] false)))))) (.sq (.rg [⟨(some 2), none, .mv, [.k (.c (.bool false))]⟩] false) (.rt)))
theorem cf79 : compF Tryz.prog 79 c79 = some ⟨c79, [.t 2], 17⟩ := by kernel_rfl

-- slices.ContainsFunc[[]raddle/api.Table,raddle/api.Table]
def c80 : IC := .sq (.rg [⟨(some 4), none, .mv, [.k (.c (.bool false))]⟩] false) (.sq (.rg [⟨(some 5), none, .mv, [.t 0]⟩, ⟨(some 6), none, .mv, [.t 1]⟩, ⟨(some 7), none, (.call 106 .fz), [.t 5, .t 6]⟩, ⟨(some 8), none, (.bin .geq), [.t 7, .k (.c (.int .i64 0))]⟩, ⟨(some 4), none, .mv, [.t 8]⟩] false) (.rt))
theorem cf80 : compF Tryz.prog 80 c80 = some ⟨c80, [.t 4], 9⟩ := by kernel_rfl

-- raddle/op.Forms$1
def c81 : IC := .sq (.rg [⟨(some 1), none, (.box (some 1)), [.t 0]⟩, ⟨(some 2), none, .mv, [.k (.c (.bool false))]⟩] false) (.sq (.rg [⟨(some 3), none, (.fa 0), [.t 1]⟩, ⟨(some 4), none, (.ld none), [.t 3]⟩, ⟨(some 5), none, .len, [.t 4]⟩, ⟨(some 6), none, (.bin .lss), [.t 5, .k (.c (.int .i64 1))]⟩, ⟨(some 7), none, .mv, [.t 6]⟩, ⟨(some 8), (some (7, false)), (.fa 0), [.t 1]⟩, ⟨(some 9), (some (7, false)), (.ld none), [.t 8]⟩, ⟨(some 10), (some (7, false)), .len, [.t 9]⟩, ⟨(some 11), (some (7, false)), (.bin .gtr), [.t 10, .k (.c (.int .i64 4))]⟩, ⟨(some 12), none, .pick, [.t 7, .k (.c (.bool true)), .t 11]⟩, ⟨(some 2), none, .mv, [.t 12]⟩] false) (.rt))
theorem cf81 : compF Tryz.prog 81 c81 = some ⟨c81, [.t 2], 13⟩ := by kernel_rfl

-- slices.ContainsFunc[[]int,int]
def c82 : IC := .sq (.rg [⟨(some 4), none, .mv, [.k (.c (.bool false))]⟩] false) (.sq (.rg [⟨(some 5), none, .mv, [.t 0]⟩, ⟨(some 6), none, .mv, [.t 1]⟩, ⟨(some 7), none, (.call 107 .fz), [.t 5, .t 6]⟩, ⟨(some 8), none, (.bin .geq), [.t 7, .k (.c (.int .i64 0))]⟩, ⟨(some 4), none, .mv, [.t 8]⟩] false) (.rt))
theorem cf82 : compF Tryz.prog 82 c82 = some ⟨c82, [.t 4], 9⟩ := by kernel_rfl

-- raddle/op.Forms$2
def c83 : IC := .sq (.rg [⟨(some 2), none, .mv, [.k (.c (.bool false))]⟩] false) (.sq (.rg [⟨(some 3), none, .mv, [.t 0]⟩, ⟨(some 4), none, (.bin .lss), [.t 3, .k (.c (.int .i64 2))]⟩, ⟨(some 5), none, .mv, [.t 4]⟩, ⟨(some 6), (some (5, false)), .mv, [.t 0]⟩, ⟨(some 7), (some (5, false)), (.bin .gtr), [.t 6, .k (.c (.int .i64 4))]⟩, ⟨(some 8), none, .pick, [.t 5, .k (.c (.bool true)), .t 7]⟩, ⟨(some 2), none, .mv, [.t 8]⟩] false) (.rt))
theorem cf83 : compF Tryz.prog 83 c83 = some ⟨c83, [.t 2], 9⟩ := by kernel_rfl

-- raddle/op.Key
def c84 : IC := .sq (.rg [⟨(some 2), none, .mv, [.k (.c (.bool false))]⟩] false) (.sq (.rg [⟨(some 3), none, .mv, [.t 0]⟩, ⟨(some 4), none, .slen, [.t 3]⟩, ⟨(some 5), none, (.bin .geq), [.t 4, .k (.c (.int .i64 1))]⟩, ⟨(some 6), none, .mv, [.t 5]⟩, ⟨(some 7), (some (6, true)), .mv, [.t 0]⟩, ⟨(some 8), (some (6, true)), .slen, [.t 7]⟩, ⟨(some 9), (some (6, true)), (.bin .leq), [.t 8, .k (.c (.int .i64 12))]⟩, ⟨(some 10), none, .pick, [.t 6, .t 9, .k (.c (.bool false))]⟩, ⟨(some 2), none, .mv, [.t 10]⟩] false) (.rt))
theorem cf84 : compF Tryz.prog 84 c84 = some ⟨c84, [.t 2], 11⟩ := by kernel_rfl

-- raddle/tab.dots
def c85 : IC := .sq (.rg [⟨(some 2), none, .mv, [.k (.c (.bool false))]⟩] false) (.sq (.sq (.rg [⟨(some 5), none, .mv, [.t 0]⟩, ⟨(some 6), none, .len, [.t 5]⟩, ⟨(some 7), none, .mv, [.k (.c (.int .i64 0))]⟩] false) (.bl 0 (.lp (.sq (.rg [⟨(some 8), none, (.bin .lss), [.t 7, .t 6]⟩] false) (.sq (.cn (.t 8) (.skip) (.ex 0)) (.sq (.bl 1 (.sq (.rg [⟨(some 9), none, .mv, [.t 7]⟩, ⟨(some 10), none, (.ia 2), [.t 5, .t 7]⟩, ⟨(some 11), none, (.ld (some 2)), [.t 10]⟩, ⟨(some 4), none, (.alloc [(.c (.int .i64 0)), (.c (.int .i64 0))]), []⟩, ⟨(some 3), none, .mv, [.t 9]⟩, ⟨none, none, (.st 2), [.t 4, .t 11]⟩] false) (.sq (.rg [⟨(some 12), none, (.ld (some 2)), [.t 4]⟩, ⟨(some 13), none, (.call 108 .fz), [.t 12]⟩, ⟨(some 14), none, (.un .not), [.t 13]⟩, ⟨(some 15), none, .mv, [.t 14]⟩, ⟨(some 16), (some (15, false)), .mv, [.t 3]⟩, ⟨(some 17), (some (15, false)), (.bin .gtr), [.t 16, .k (.c (.int .i64 0))]⟩, ⟨(some 18), (some (15, false)), .mv, [.t 17]⟩, ⟨(some 19), (some (18, true)), .mv, [.t 0]⟩, ⟨(some 20), (some (18, true)), .mv, [.t 3]⟩, ⟨(some 21), (some (18, true)), (.bin .sub), [.t 20, .k (.c (.int .i64 1))]⟩, ⟨(some 22), (some (18, true)), (.ia 2), [.t 19, .t 21]⟩, ⟨(some 23), (some (18, true)), (.ld (some 2)), [.t 22]⟩, ⟨(some 24), (some (18, true)), (.ld (some 2)), [.t 4]⟩, ⟨(some 25), (some (18, true)), (.call 109 .fz), [.t 23, .t 24]⟩, ⟨(some 26), (some (18, true)), (.un .not), [.t 25]⟩, ⟨(some 27), (some (15, false)), .pick, [.t 18, .t 26, .k (.c (.bool false))]⟩, ⟨(some 28), none, .pick, [.t 15, .k (.c (.bool true)), .t 27]⟩] true) (.cn (.t 28) (.sq (.rg [⟨(some 2), none, .mv, [.k (.c (.bool false))]⟩] false) (.rt)) (.skip))))) (.rg [⟨(some 29), none, (.bin .add), [.t 7, .k (.c (.int .i64 1))]⟩, ⟨(some 7), none, .mv, [.t 29]⟩] false))))))) (.sq (.rg [⟨(some 2), none, .mv, [.k (.c (.bool true))]⟩] false) (.rt)))
theorem cf85 : compF Tryz.prog 85 c85 = some ⟨c85, [.t 2], 30⟩ := by kernel_rfl

-- slices.EqualFunc[[]raddle/api.Cell,[]int,raddle/api.Cell,int]
def c86 : IC := .sq (.rg [⟨(some 6), none, .mv, [.k (.c (.bool false))]⟩] false) (.sq (.sq (.rg [⟨(some 10), none, .mv, [.t 0]⟩, ⟨(some 11), none, .len, [.t 10]⟩, ⟨(some 12), none, .mv, [.t 1]⟩, ⟨(some 13), none, .len, [.t 12]⟩, ⟨(some 14), none, (.bin .neq), [.t 11, .t 13]⟩] false) (.cn (.t 14) (.sq (.rg [⟨(some 6), none, .mv, [.k (.c (.bool false))]⟩] false) (.rt)) (.skip))) (.sq (.sq (.rg [⟨(some 15), none, .mv, [.t 0]⟩, ⟨(some 16), none, .len, [.t 15]⟩, ⟨(some 17), none, .mv, [.k (.c (.int .i64 0))]⟩] false) (.bl 0 (.lp (.sq (.rg [⟨(some 18), none, (.bin .lss), [.t 17, .t 16]⟩] false) (.sq (.cn (.t 18) (.skip) (.ex 0)) (.sq (.bl 1 (.sq (.rg [⟨(some 19), none, .mv, [.t 17]⟩, ⟨(some 20), none, (.ia 8), [.t 15, .t 17]⟩, ⟨(some 21), none, (.ld (some 8)), [.t 20]⟩, ⟨(some 8), none, (.alloc [(.c (.int .i64 0)), (.c (.int .i64 0)), (.c (.string ⟨#[]⟩)), (.c (.int .i64 0)), (.c (.int .i64 0)), (.c (.int .i64 0)), (.c (.int .i64 0)), (.c (.int .i64 0))]), []⟩, ⟨(some 7), none, .mv, [.t 19]⟩, ⟨none, none, (.st 8), [.t 8, .t 21]⟩] false) (.sq (.rg [⟨(some 22), none, .mv, [.t 1]⟩, ⟨(some 23), none, .mv, [.t 7]⟩, ⟨(some 24), none, (.ia 1), [.t 22, .t 23]⟩, ⟨(some 25), none, (.ld none), [.t 24]⟩, ⟨(some 9), none, .mv, [.t 25]⟩] false) (.sq (.rg [⟨(some 26), none, .mv, [.t 2]⟩, ⟨(some 27), none, (.ld (some 8)), [.t 8]⟩, ⟨(some 28), none, .mv, [.t 9]⟩, ⟨(some 29), none, (.callv .fz), [.t 26, .t 27, .t 28]⟩, ⟨(some 30), none, (.un .not), [.t 29]⟩] false) (.cn (.t 30) (.sq (.rg [⟨(some 6), none, .mv, [.k (.c (.bool false))]⟩] false) (.rt)) (.skip)))))) (.rg [⟨(some 31), none, (.bin .add), [.t 17, .k (.c (.int .i64 1))]⟩, ⟨(some 17), none, .mv, [.t 31]⟩] false))))))) (.sq (.rg [⟨(some 6), none, .mv, [.k (.c (.bool true))]⟩] false) (.rt))))
theorem cf86 : compF Tryz.prog 86 c86 = some ⟨c86, [.t 6], 32⟩ := by kernel_rfl

-- raddle/tab.cell
def c87 : IC := .sq (.rg [⟨(some 2), none, (.box (some 8)), [.t 0]⟩, ⟨(some 4), none, .mv, [.k (.c (.bool false))]⟩] false) (.sq (.sq (.rg [⟨(some 5), none, (.ld (some 8)), [.t 2]⟩, ⟨(some 6), none, (.call 60 .fz), [.t 5]⟩, ⟨(some 7), none, (.un .not), [.t 6]⟩] false) (.cn (.t 7) (.sq (.rg [⟨(some 8), none, (.ld (some 8)), [.t 2]⟩, ⟨(some 9), none, (.bld [(.c (.int .i64 0)), (.c (.int .i64 0)), (.c (.string ⟨#[]⟩)), (.c (.int .i64 0)), (.c (.int .i64 0)), (.c (.int .i64 0)), (.c (.int .i64 0)), (.c (.int .i64 0))] []), []⟩, ⟨(some 10), none, (.eqs false [0, 0, 1, 0, 0, 0, 0, 0]), [.t 8, .t 9]⟩, ⟨(some 4), none, .mv, [.t 10]⟩] false) (.rt)) (.skip))) (.sq (.rg [⟨(some 11), none, (.fa 6), [.t 2]⟩, ⟨(some 12), none, (.ld (some 2)), [.t 11]⟩, ⟨(some 13), none, (.call 108 .fz), [.t 12]⟩, ⟨(some 14), none, .mv, [.t 13]⟩, ⟨(some 15), (some (14, true)), (.fa 0), [.t 2]⟩, ⟨(some 16), (some (14, true)), (.ld (some 3)), [.t 15]⟩, ⟨(some 17), (some (14, true)), (.call 110 .fz), [.t 16]⟩, ⟨(some 18), none, .pick, [.t 14, .t 17, .k (.c (.bool false))]⟩, ⟨(some 19), none, .mv, [.t 18]⟩, ⟨(some 20), (some (19, true)), (.fa 0), [.t 2]⟩, ⟨(some 21), (some (19, true)), (.ld (some 3)), [.t 20]⟩, ⟨(some 22), (some (19, true)), .mv, [.t 1]⟩, ⟨(some 23), (some (19, true)), (.call 111 .fz), [.t 21, .t 22]⟩, ⟨(some 24), none, .pick, [.t 19, .t 23, .k (.c (.bool false))]⟩, ⟨(some 25), none, .mv, [.t 24]⟩, ⟨(some 26), (some (25, true)), (.fa 3), [.t 2]⟩, ⟨(some 27), (some (25, true)), (.ld (some 3)), [.t 26]⟩, ⟨(some 28), (some (25, true)), (.call 112 .fz), [.t 27]⟩, ⟨(some 29), (some (25, true)), (.bin .eql), [.t 28, .k (.c (.int .i64 0))]⟩, ⟨(some 30), none, .pick, [.t 25, .t 29, .k (.c (.bool false))]⟩, ⟨(some 4), none, .mv, [.t 30]⟩] false) (.rt)))
theorem cf87 : compF Tryz.prog 87 c87 = some ⟨c87, [.t 4], 31⟩ := by kernel_rfl

-- raddle/tab.right$1
def c88 : IC := .sq (.rg [⟨(some 1), none, (.box (some 8)), [.t 0]⟩, ⟨(some 2), none, .mv, [.k (.c (.bool false))]⟩] false) (.sq (.rg [⟨(some 3), none, (.ld (some 8)), [.t 1]⟩, ⟨(some 4), none, (.call 60 .fz), [.t 3]⟩, ⟨(some 5), none, (.un .not), [.t 4]⟩, ⟨(some 2), none, .mv, [.t 5]⟩] false) (.rt))
theorem cf88 : compF Tryz.prog 88 c88 = some ⟨c88, [.t 2], 6⟩ := by kernel_rfl

-- raddle/op.right
def c89 : IC := .sq (.rg [⟨(some 5), none, (.box (some 12)), [.t 2]⟩, ⟨(some 6), none, .mv, [.k (.c (.bool false))]⟩] false) (.sq (.sq (.rg [⟨(some 8), none, .mv, [.t 0]⟩, ⟨(some 9), none, (.ld (some 12)), [.t 5]⟩, ⟨(some 10), none, (.call 113 .fz), [.t 8, .t 9]⟩, ⟨(some 11), none, (.un .not), [.t 10]⟩, ⟨(some 12), none, .mv, [.t 11]⟩, ⟨(some 13), (some (12, false)), (.fa 7), [.t 5]⟩, ⟨(some 14), (some (12, false)), (.ld none), [.t 13]⟩, ⟨(some 15), (some (12, false)), (.bin .lss), [.t 14, .k (.c (.int .i64 0))]⟩, ⟨(some 16), none, .pick, [.t 12, .k (.c (.bool true)), .t 15]⟩, ⟨(some 17), none, .mv, [.t 16]⟩, ⟨(some 18), (some (17, false)), (.fa 7), [.t 5]⟩, ⟨(some 19), (some (17, false)), (.ld none), [.t 18]⟩, ⟨(some 20), (some (17, false)), .mv, [.t 1]⟩, ⟨(some 21), (some (17, false)), .len, [.t 20]⟩, ⟨(some 22), (some (17, false)), (.bin .geq), [.t 19, .t 21]⟩, ⟨(some 23), none, .pick, [.t 17, .k (.c (.bool true)), .t 22]⟩, ⟨(some 24), none, .mv, [.t 23]⟩, ⟨(some 25), (some (24, false)), (.fa 8), [.t 5]⟩, ⟨(some 26), (some (24, false)), (.ld none), [.t 25]⟩, ⟨(some 27), (some (24, false)), (.call 84 .fz), [.t 26]⟩, ⟨(some 28), (some (24, false)), (.un .not), [.t 27]⟩, ⟨(some 29), none, .pick, [.t 24, .k (.c (.bool true)), .t 28]⟩] false) (.cn (.t 29) (.sq (.rg [⟨(some 6), none, .mv, [.k (.c (.bool false))]⟩] false) (.rt)) (.skip))) (.sq (.rg [⟨(some 30), none, .mv, [.t 1]⟩, ⟨(some 31), none, (.fa 7), [.t 5]⟩, ⟨(some 32), none, (.ld none), [.t 31]⟩, ⟨(some 33), none, (.ia 1), [.t 30, .t 32]⟩, ⟨(some 34), none, (.fa 0), [.t 33]⟩, ⟨(some 35), none, (.ld none), [.t 34]⟩, ⟨(some 7), none, .mv, [.t 35]⟩] false) (.sq (.sq (.rg [⟨(some 36), none, (.fa 6), [.t 5]⟩, ⟨(some 37), none, (.ld none), [.t 36]⟩] false) (.bl 0 (.sq (.rg [⟨(some 39), none, (.bin .eql), [.t 37, .k (.c (.int .i64 1))]⟩, ⟨(some 38), none, .mv, [.t 39]⟩] false) (.cn (.t 38) (.sq (.rg [⟨(some 40), none, (.fa 10), [.t 5]⟩, ⟨(some 41), none, (.ld none), [.t 40]⟩, ⟨(some 42), none, .mv, [.t 7]⟩, ⟨(some 43), none, (.call 114 .fz), [.t 41, .t 42]⟩, ⟨(some 44), none, .mv, [.t 43]⟩, ⟨(some 45), (some (44, true)), (.fa 9), [.t 5]⟩, ⟨(some 46), (some (44, true)), (.ld none), [.t 45]⟩, ⟨(some 47), (some (44, true)), (.bin .eql), [.t 46, .k (.c (.int .i64 0))]⟩, ⟨(some 48), none, .pick, [.t 44, .t 47, .k (.c (.bool false))]⟩, ⟨(some 49), none, .mv, [.t 48]⟩, ⟨(some 50), (some (49, true)), (.fa 11), [.t 5]⟩, ⟨(some 51), (some (49, true)), (.ld none), [.t 50]⟩, ⟨(some 52), (some (49, true)), .len, [.t 51]⟩, ⟨(some 53), (some (49, true)), (.bin .eql), [.t 52, .k (.c (.int .i64 0))]⟩, ⟨(some 54), none, .pick, [.t 49, .t 53, .k (.c (.bool false))]⟩, ⟨(some 6), none, .mv, [.t 54]⟩] false) (.rt)) (.sq (.rg [⟨(some 56), none, (.bin .eql), [.t 37, .k (.c (.int .i64 2))]⟩, ⟨(some 55), none, .mv, [.t 56]⟩] false) (.cn (.t 55) (.sq (.rg [⟨(some 57), none, (.fa 9), [.t 5]⟩, ⟨(some 58), none, (.ld none), [.t 57]⟩, ⟨(some 59), none, (.bin .geq), [.t 58, .k (.c (.int .i64 0))]⟩, ⟨(some 60), none, .mv, [.t 59]⟩, ⟨(some 61), (some (60, true)), (.fa 9), [.t 5]⟩, ⟨(some 62), (some (60, true)), (.ld none), [.t 61]⟩, ⟨(some 63), (some (60, true)), .mv, [.t 7]⟩, ⟨(some 64), (some (60, true)), .len, [.t 63]⟩, ⟨(some 65), (some (60, true)), (.bin .lss), [.t 62, .t 64]⟩, ⟨(some 66), none, .pick, [.t 60, .t 65, .k (.c (.bool false))]⟩, ⟨(some 67), none, .mv, [.t 66]⟩, ⟨(some 68), (some (67, true)), (.fa 10), [.t 5]⟩, ⟨(some 69), (some (67, true)), (.ld none), [.t 68]⟩, ⟨(some 70), (some (67, true)), .mv, [.t 7]⟩, ⟨(some 71), (some (67, true)), (.fa 9), [.t 5]⟩, ⟨(some 72), (some (67, true)), (.ld none), [.t 71]⟩, ⟨(some 73), (some (67, true)), (.fa 9), [.t 5]⟩, ⟨(some 74), (some (67, true)), (.ld none), [.t 73]⟩, ⟨(some 75), (some (67, true)), (.bin .add), [.t 74, .k (.c (.int .i64 1))]⟩, ⟨(some 76), (some (67, true)), (.slc 1 true true), [.t 70, .t 72, .t 75]⟩, ⟨(some 77), (some (67, true)), (.call 114 .fz), [.t 69, .t 76]⟩, ⟨(some 78), none, .pick, [.t 67, .t 77, .k (.c (.bool false))]⟩, ⟨(some 79), none, .mv, [.t 78]⟩, ⟨(some 80), (some (79, true)), (.fa 11), [.t 5]⟩, ⟨(some 81), (some (79, true)), (.ld none), [.t 80]⟩, ⟨(some 82), (some (79, true)), .len, [.t 81]⟩, ⟨(some 83), (some (79, true)), (.bin .eql), [.t 82, .k (.c (.int .i64 0))]⟩, ⟨(some 84), none, .pick, [.t 79, .t 83, .k (.c (.bool false))]⟩, ⟨(some 6), none, .mv, [.t 84]⟩] true) (.rt)) (.sq (.rg [⟨(some 86), none, (.bin .eql), [.t 37, .k (.c (.int .i64 3))]⟩, ⟨(some 85), none, .mv, [.t 86]⟩] false) (.cn (.t 85) (.sq (.rg [⟨(some 87), none, (.fa 11), [.t 5]⟩, ⟨(some 88), none, (.ld none), [.t 87]⟩, ⟨(some 89), none, .len, [.t 88]⟩, ⟨(some 90), none, (.bin .geq), [.t 89, .k (.c (.int .i64 1))]⟩, ⟨(some 91), none, .mv, [.t 90]⟩, ⟨(some 92), (some (91, true)), (.fa 11), [.t 5]⟩, ⟨(some 93), (some (91, true)), (.ld none), [.t 92]⟩, ⟨(some 94), (some (91, true)), .len, [.t 93]⟩, ⟨(some 95), (some (91, true)), (.bin .leq), [.t 94, .k (.c (.int .i64 64))]⟩, ⟨(some 96), none, .pick, [.t 91, .t 95, .k (.c (.bool false))]⟩, ⟨(some 97), none, .mv, [.t 96]⟩, ⟨(some 98), (some (97, true)), (.fa 2), [.t 5]⟩, ⟨(some 99), (some (97, true)), (.ld none), [.t 98]⟩, ⟨(some 100), (some (97, true)), (.fa 11), [.t 5]⟩, ⟨(some 101), (some (97, true)), (.ld none), [.t 100]⟩, ⟨(some 102), (some (97, true)), (.call 115 .fz), [.t 99, .t 101]⟩, ⟨(some 103), none, .pick, [.t 97, .t 102, .k (.c (.bool false))]⟩, ⟨(some 104), none, .mv, [.t 103]⟩, ⟨(some 105), (some (104, true)), (.fa 9), [.t 5]⟩, ⟨(some 106), (some (104, true)), (.ld none), [.t 105]⟩, ⟨(some 107), (some (104, true)), (.bin .eql), [.t 106, .k (.c (.int .i64 0))]⟩, ⟨(some 108), none, .pick, [.t 104, .t 107, .k (.c (.bool false))]⟩, ⟨(some 109), none, .mv, [.t 108]⟩, ⟨(some 110), (some (109, true)), (.fa 10), [.t 5]⟩, ⟨(some 111), (some (109, true)), (.ld none), [.t 110]⟩, ⟨(some 112), (some (109, true)), .len, [.t 111]⟩, ⟨(some 113), (some (109, true)), (.bin .eql), [.t 112, .k (.c (.int .i64 0))]⟩, ⟨(some 114), none, .pick, [.t 109, .t 113, .k (.c (.bool false))]⟩, ⟨(some 6), none, .mv, [.t 114]⟩] false) (.rt)) (.skip))))))))) (.sq (.rg [⟨(some 6), none, .mv, [.k (.c (.bool false))]⟩] false) (.rt)))))
theorem cf89 : compF Tryz.prog 89 c89 = some ⟨c89, [.t 6], 115⟩ := by kernel_rfl

-- slices.Clone[[]raddle/api.Dot,raddle/api.Dot]
def c90 : IC := .sq (.rg [⟨(some 2), none, .mv, [.k .z]⟩] false) (.sq (.sq (.rg [⟨(some 3), none, .mv, [.t 0]⟩, ⟨(some 4), none, (.nilq 0 false), [.t 3]⟩] false) (.cn (.t 4) (.sq (.rg [⟨(some 2), none, .mv, [.k .z]⟩] false) (.rt)) (.skip))) (.sq (.rg [⟨(some 5), none, (.bsl 2 [(.c (.int .i64 0)), (.c (.int .i64 0))] [] 0 true), []⟩, ⟨(some 6), none, .mv, [.t 0]⟩, ⟨(some 7), none, (.app 2), [.t 5, .t 6]⟩, ⟨(some 2), none, .mv, [.t 7]⟩] false) (.rt)))
theorem cf90 : compF Tryz.prog 90 c90 = some ⟨c90, [.t 2], 8⟩ := by kernel_rfl

-- slices.Clone[[]raddle/api.Cell,raddle/api.Cell]
def c91 : IC := .sq (.rg [⟨(some 2), none, .mv, [.k .z]⟩] false) (.sq (.sq (.rg [⟨(some 3), none, .mv, [.t 0]⟩, ⟨(some 4), none, (.nilq 0 false), [.t 3]⟩] false) (.cn (.t 4) (.sq (.rg [⟨(some 2), none, .mv, [.k .z]⟩] false) (.rt)) (.skip))) (.sq (.rg [⟨(some 5), none, (.bsl 8 [(.c (.int .i64 0)), (.c (.int .i64 0)), (.c (.string ⟨#[]⟩)), (.c (.int .i64 0)), (.c (.int .i64 0)), (.c (.int .i64 0)), (.c (.int .i64 0)), (.c (.int .i64 0))] [] 0 true), []⟩, ⟨(some 6), none, .mv, [.t 0]⟩, ⟨(some 7), none, (.app 8), [.t 5, .t 6]⟩, ⟨(some 2), none, .mv, [.t 7]⟩] false) (.rt)))
theorem cf91 : compF Tryz.prog 91 c91 = some ⟨c91, [.t 2], 8⟩ := by kernel_rfl

-- internal/bytealg.CompareString
def c92 : IC := .sq (.rg [⟨(some 4), none, .mv, [.k (.c (.int .i64 0))]⟩] false) (.sq (.rg [⟨(some 5), none, .mv, [.t 0]⟩, ⟨(some 6), none, .mv, [.t 1]⟩, ⟨(some 7), none, (.rcall 116), [.t 5, .t 6]⟩, ⟨(some 4), none, .mv, [.t 7]⟩] false) (.rt))
theorem cf92 : compF Tryz.prog 92 c92 = some ⟨c92, [.t 4], 8⟩ := by kernel_rfl

-- slices.rotateRight[raddle/api.Row]
-- slices.BinarySearchFunc[[]raddle/api.Dot,raddle/api.Dot,raddle/api.Dot]
def c95 : IC := .sq (.rg [⟨(some 4), none, (.box (some 2)), [.t 1]⟩, ⟨(some 6), none, .mv, [.k (.c (.int .i64 0))]⟩, ⟨(some 7), none, .mv, [.k (.c (.bool false))]⟩] false) (.sq (.rg [⟨(some 12), none, .mv, [.t 0]⟩, ⟨(some 13), none, .len, [.t 12]⟩, ⟨(some 8), none, .mv, [.t 13]⟩] false) (.sq (.rg [⟨(some 14), none, .mv, [.t 8]⟩, ⟨(some 9), none, .mv, [.k (.c (.int .i64 0))]⟩, ⟨(some 10), none, .mv, [.t 14]⟩] false) (.sq (.bl 0 (.lp (.sq (.sq (.rg [⟨(some 15), none, .mv, [.t 9]⟩, ⟨(some 16), none, .mv, [.t 10]⟩, ⟨(some 17), none, (.bin .lss), [.t 15, .t 16]⟩] false) (.cn (.t 17) (.skip) (.ex 0))) (.bl 1 (.sq (.rg [⟨(some 18), none, .mv, [.t 9]⟩, ⟨(some 19), none, .mv, [.t 10]⟩, ⟨(some 20), none, (.bin .add), [.t 18, .t 19]⟩, ⟨(some 21), none, (.conv .u64), [.t 20]⟩, ⟨(some 22), none, (.bin .shr), [.t 21, .k (.c (.int .u64 1))]⟩, ⟨(some 23), none, (.conv .i64), [.t 22]⟩, ⟨(some 11), none, .mv, [.t 23]⟩] false) (.sq (.rg [⟨(some 24), none, .mv, [.t 2]⟩, ⟨(some 25), none, .mv, [.t 0]⟩, ⟨(some 26), none, .mv, [.t 11]⟩, ⟨(some 27), none, (.ia 2), [.t 25, .t 26]⟩, ⟨(some 28), none, (.ld (some 2)), [.t 27]⟩, ⟨(some 29), none, (.ld (some 2)), [.t 4]⟩, ⟨(some 30), none, (.callv .fz), [.t 24, .t 28, .t 29]⟩, ⟨(some 31), none, (.bin .lss), [.t 30, .k (.c (.int .i64 0))]⟩] true) (.cn (.t 31) (.rg [⟨(some 32), none, .mv, [.t 11]⟩, ⟨(some 33), none, (.bin .add), [.t 32, .k (.c (.int .i64 1))]⟩, ⟨(some 9), none, .mv, [.t 33]⟩] false) (.rg [⟨(some 34), none, .mv, [.t 11]⟩, ⟨(some 10), none, .mv, [.t 34]⟩] false)))))))) (.sq (.rg [⟨(some 35), none, .mv, [.t 9]⟩, ⟨(some 36), none, .mv, [.t 9]⟩, ⟨(some 37), none, .mv, [.t 8]⟩, ⟨(some 38), none, (.bin .lss), [.t 36, .t 37]⟩, ⟨(some 39), none, .mv, [.t 38]⟩, ⟨(some 40), (some (39, true)), .mv, [.t 2]⟩, ⟨(some 41), (some (39, true)), .mv, [.t 0]⟩, ⟨(some 42), (some (39, true)), .mv, [.t 9]⟩, ⟨(some 43), (some (39, true)), (.ia 2), [.t 41, .t 42]⟩, ⟨(some 44), (some (39, true)), (.ld (some 2)), [.t 43]⟩, ⟨(some 45), (some (39, true)), (.ld (some 2)), [.t 4]⟩, ⟨(some 46), (some (39, true)), (.callv .fz), [.t 40, .t 44, .t 45]⟩, ⟨(some 47), (some (39, true)), (.bin .eql), [.t 46, .k (.c (.int .i64 0))]⟩, ⟨(some 48), none, .pick, [.t 39, .t 47, .k (.c (.bool false))]⟩, ⟨(some 6), none, .mv, [.t 35]⟩, ⟨(some 7), none, .mv, [.t 48]⟩] true) (.rt)))))
theorem cf95 : compF Tryz.prog 95 c95 = some ⟨c95, [.t 6, .t 7], 49⟩ := by kernel_rfl

-- raddle/dot.Compare
def c96 : IC := .sq (.rg [⟨(some 2), none, (.box (some 2)), [.t 0]⟩, ⟨(some 3), none, (.box (some 2)), [.t 1]⟩, ⟨(some 4), none, .mv, [.k (.c (.int .i64 0))]⟩] false) (.sq (.rg [⟨(some 5), none, (.fa 0), [.t 2]⟩, ⟨(some 6), none, (.ld none), [.t 5]⟩, ⟨(some 7), none, (.fa 0), [.t 3]⟩, ⟨(some 8), none, (.ld none), [.t 7]⟩, ⟨(some 9), none, (.call 119 .fz), [.t 6, .t 8]⟩, ⟨(some 10), none, (.fa 1), [.t 2]⟩, ⟨(some 11), none, (.ld none), [.t 10]⟩, ⟨(some 12), none, (.fa 1), [.t 3]⟩, ⟨(some 13), none, (.ld none), [.t 12]⟩, ⟨(some 14), none, (.call 119 .fz), [.t 11, .t 13]⟩, ⟨(some 15), none, (.bsl 1 [(.c (.int .i64 0))] [0, 1] 2 true), [.t 9, .t 14]⟩, ⟨(some 16), none, (.call 118 .fz), [.t 15]⟩, ⟨(some 4), none, .mv, [.t 16]⟩] true) (.rt))
theorem cf96 : compF Tryz.prog 96 c96 = some ⟨c96, [.t 4], 17⟩ := by kernel_rfl

-- slices.Insert[[]raddle/api.Dot,raddle/api.Dot]
def c97 : IC := .sq (.rg [⟨(some 6), none, .mv, [.k .z]⟩] false) (.sq (.rg [⟨(some 10), none, .mv, [.t 0]⟩, ⟨(some 11), none, .mv, [.t 1]⟩, ⟨(some 12), none, (.slc 2 true false), [.t 10, .t 11]⟩] false) (.sq (.rg [⟨(some 13), none, .mv, [.t 2]⟩, ⟨(some 14), none, .len, [.t 13]⟩, ⟨(some 7), none, .mv, [.t 14]⟩] false) (.sq (.sq (.rg [⟨(some 15), none, .mv, [.t 7]⟩, ⟨(some 16), none, (.bin .eql), [.t 15, .k (.c (.int .i64 0))]⟩] false) (.cn (.t 16) (.sq (.rg [⟨(some 17), none, .mv, [.t 0]⟩, ⟨(some 6), none, .mv, [.t 17]⟩] false) (.rt)) (.skip))) (.sq (.rg [⟨(some 18), none, .mv, [.t 0]⟩, ⟨(some 19), none, .len, [.t 18]⟩, ⟨(some 8), none, .mv, [.t 19]⟩] false) (.sq (.sq (.rg [⟨(some 20), none, .mv, [.t 1]⟩, ⟨(some 21), none, .mv, [.t 8]⟩, ⟨(some 22), none, (.bin .eql), [.t 20, .t 21]⟩] false) (.cn (.t 22) (.sq (.rg [⟨(some 23), none, .mv, [.t 0]⟩, ⟨(some 24), none, .mv, [.t 2]⟩, ⟨(some 25), none, (.app 2), [.t 23, .t 24]⟩, ⟨(some 6), none, .mv, [.t 25]⟩] false) (.rt)) (.skip))) (.sq (.sq (.rg [⟨(some 26), none, .mv, [.t 8]⟩, ⟨(some 27), none, .mv, [.t 7]⟩, ⟨(some 28), none, (.bin .add), [.t 26, .t 27]⟩, ⟨(some 29), none, .mv, [.t 0]⟩, ⟨(some 30), none, .capo, [.t 29]⟩, ⟨(some 31), none, (.bin .gtr), [.t 28, .t 30]⟩] false) (.cn (.t 31) (.sq (.rg [⟨(some 32), none, .mv, [.t 0]⟩, ⟨(some 33), none, .mv, [.t 1]⟩, ⟨(some 34), none, (.slc 2 false true), [.t 32, .t 33]⟩, ⟨(some 35), none, .mv, [.t 8]⟩, ⟨(some 36), none, .mv, [.t 7]⟩, ⟨(some 37), none, (.bin .add), [.t 35, .t 36]⟩, ⟨(some 38), none, .mv, [.t 1]⟩, ⟨(some 39), none, (.bin .sub), [.t 37, .t 38]⟩, ⟨(some 40), none, (.appz 2 [(.c (.int .i64 0)), (.c (.int .i64 0))]), [.t 34, .t 39]⟩, ⟨(some 9), none, .mv, [.t 40]⟩] false) (.sq (.rg [⟨(some 41), none, .mv, [.t 9]⟩, ⟨(some 42), none, .mv, [.t 1]⟩, ⟨(some 43), none, (.slc 2 true false), [.t 41, .t 42]⟩, ⟨(some 44), none, .mv, [.t 2]⟩, ⟨(some 45), none, (.cpy 2), [.t 43, .t 44]⟩] false) (.sq (.rg [⟨(some 46), none, .mv, [.t 9]⟩, ⟨(some 47), none, .mv, [.t 1]⟩, ⟨(some 48), none, .mv, [.t 7]⟩, ⟨(some 49), none, (.bin .add), [.t 47, .t 48]⟩, ⟨(some 50), none, (.slc 2 true false), [.t 46, .t 49]⟩, ⟨(some 51), none, .mv, [.t 0]⟩, ⟨(some 52), none, .mv, [.t 1]⟩, ⟨(some 53), none, (.slc 2 true false), [.t 51, .t 52]⟩, ⟨(some 54), none, (.cpy 2), [.t 50, .t 53]⟩] true) (.sq (.rg [⟨(some 55), none, .mv, [.t 9]⟩, ⟨(some 6), none, .mv, [.t 55]⟩] false) (.rt))))) (.skip))) (.sq (.rg [⟨(some 56), none, .mv, [.t 0]⟩, ⟨(some 57), none, .mv, [.t 8]⟩, ⟨(some 58), none, .mv, [.t 7]⟩, ⟨(some 59), none, (.bin .add), [.t 57, .t 58]⟩, ⟨(some 60), none, (.slc 2 false true), [.t 56, .t 59]⟩, ⟨(some 0), none, .mv, [.t 60]⟩] false) (.sq (.sq (.rg [⟨(some 61), none, .mv, [.t 2]⟩, ⟨(some 62), none, .mv, [.t 0]⟩, ⟨(some 63), none, .mv, [.t 1]⟩, ⟨(some 64), none, .mv, [.t 7]⟩, ⟨(some 65), none, (.bin .add), [.t 63, .t 64]⟩, ⟨(some 66), none, (.slc 2 true false), [.t 62, .t 65]⟩, ⟨(some 67), none, (.rcall 120), [.t 61, .t 66]⟩, ⟨(some 68), none, (.un .not), [.t 67]⟩] false) (.cn (.t 68) (.sq (.rg [⟨(some 69), none, .mv, [.t 0]⟩, ⟨(some 70), none, .mv, [.t 1]⟩, ⟨(some 71), none, .mv, [.t 7]⟩, ⟨(some 72), none, (.bin .add), [.t 70, .t 71]⟩, ⟨(some 73), none, (.slc 2 true false), [.t 69, .t 72]⟩, ⟨(some 74), none, .mv, [.t 0]⟩, ⟨(some 75), none, .mv, [.t 1]⟩, ⟨(some 76), none, (.slc 2 true false), [.t 74, .t 75]⟩, ⟨(some 77), none, (.cpy 2), [.t 73, .t 76]⟩] true) (.sq (.rg [⟨(some 78), none, .mv, [.t 0]⟩, ⟨(some 79), none, .mv, [.t 1]⟩, ⟨(some 80), none, (.slc 2 true false), [.t 78, .t 79]⟩, ⟨(some 81), none, .mv, [.t 2]⟩, ⟨(some 82), none, (.cpy 2), [.t 80, .t 81]⟩] false) (.sq (.rg [⟨(some 83), none, .mv, [.t 0]⟩, ⟨(some 6), none, .mv, [.t 83]⟩] false) (.rt)))) (.skip))) (.sq (.rg [⟨(some 84), none, .mv, [.t 0]⟩, ⟨(some 85), none, .mv, [.t 8]⟩, ⟨(some 86), none, (.slc 2 true false), [.t 84, .t 85]⟩, ⟨(some 87), none, .mv, [.t 2]⟩, ⟨(some 88), none, (.cpy 2), [.t 86, .t 87]⟩] false) (.sq (.rg [⟨(some 89), none, .mv, [.t 0]⟩, ⟨(some 90), none, .mv, [.t 1]⟩, ⟨(some 91), none, (.slc 2 true false), [.t 89, .t 90]⟩, ⟨(some 92), none, .mv, [.t 7]⟩, ⟨(some 93), none, (.call 121 .fz), [.t 91, .t 92]⟩] false) (.sq (.rg [⟨(some 94), none, .mv, [.t 0]⟩, ⟨(some 6), none, .mv, [.t 94]⟩] false) (.rt))))))))))))
theorem cf97 : compF Tryz.prog 97 c97 = some ⟨c97, [.t 6], 95⟩ := by kernel_rfl

-- raddle/tab.write
def c98 : IC := .sq (.rg [⟨(some 4), none, (.box (some 3)), [.t 1]⟩, ⟨(some 5), none, (.box (some 12)), [.t 2]⟩] false) (.sq (.rg [⟨(some 6), none, .mv, [.t 0]⟩, ⟨(some 7), none, (.fa 0), [.t 6]⟩, ⟨(some 8), none, (.ld (some 8)), [.t 7]⟩, ⟨(some 9), none, (.call 60 .fz), [.t 8]⟩, ⟨(some 10), none, (.un .not), [.t 9]⟩, ⟨(some 11), none, .mv, [.t 10]⟩, ⟨(some 12), (some (11, false)), .mv, [.t 0]⟩, ⟨(some 13), (some (11, false)), (.fa 0), [.t 12]⟩, ⟨(some 14), (some (11, false)), (.fa 3), [.t 13]⟩, ⟨(some 15), (some (11, false)), (.ld (some 3)), [.t 14]⟩, ⟨(some 16), (some (11, false)), (.fa 3), [.t 5]⟩, ⟨(some 17), (some (11, false)), (.ld (some 3)), [.t 16]⟩, ⟨(some 18), (some (11, false)), (.call 122 .fz), [.t 15, .t 17]⟩, ⟨(some 19), (some (11, false)), (.bin .lss), [.t 18, .k (.c (.int .i64 0))]⟩, ⟨(some 20), none, .pick, [.t 11, .k (.c (.bool true)), .t 19]⟩] true) (.cn (.t 20) (.rg [⟨(some 21), none, .mv, [.t 0]⟩, ⟨(some 22), none, (.ld (some 3)), [.t 4]⟩, ⟨(some 23), none, (.fa 3), [.t 5]⟩, ⟨(some 24), none, (.ld (some 3)), [.t 23]⟩, ⟨(some 25), none, (.fa 0), [.t 5]⟩, ⟨(some 26), none, (.ld (some 2)), [.t 25]⟩, ⟨(some 27), none, (.bld [(.c (.int .i64 0)), (.c (.int .i64 0)), (.c (.string ⟨#[]⟩)), (.c (.int .i64 0)), (.c (.int .i64 0)), (.c (.int .i64 0)), (.c (.int .i64 0)), (.c (.int .i64 0))] [(0, 3), (3, 3), (6, 2)]), [.t 22, .t 24, .t 26]⟩, ⟨(some 28), none, (.fa 0), [.t 21]⟩, ⟨none, none, (.st 8), [.t 28, .t 27]⟩] false) (.skip)))
theorem cf98 : compF Tryz.prog 98 c98 = some ⟨c98, [], 29⟩ := by kernel_rfl

-- slices.DeleteFunc[[]raddle/api.Dot,raddle/api.Dot]
def c99 : IC := .sq (.rg [⟨(some 4), none, .mv, [.k .z]⟩] false) (.sq (.rg [⟨(some 8), none, .mv, [.t 0]⟩, ⟨(some 9), none, .mv, [.t 1]⟩, ⟨(some 10), none, (.call 123 .fz), [.t 8, .t 9]⟩, ⟨(some 5), none, .mv, [.t 10]⟩] false) (.sq (.sq (.rg [⟨(some 11), none, .mv, [.t 5]⟩, ⟨(some 12), none, (.bin .eql), [.t 11, .k (.c (.int .i64 (-1)))]⟩] false) (.cn (.t 12) (.sq (.rg [⟨(some 13), none, .mv, [.t 0]⟩, ⟨(some 4), none, .mv, [.t 13]⟩] false) (.rt)) (.skip))) (.sq (.sq (.rg [⟨(some 14), none, .mv, [.t 5]⟩, ⟨(some 15), none, (.bin .add), [.t 14, .k (.c (.int .i64 1))]⟩, ⟨(some 6), none, .mv, [.t 15]⟩] false) (.bl 0 (.lp (.sq (.sq (.rg [⟨(some 16), none, .mv, [.t 6]⟩, ⟨(some 17), none, .mv, [.t 0]⟩, ⟨(some 18), none, .len, [.t 17]⟩, ⟨(some 19), none, (.bin .lss), [.t 16, .t 18]⟩] false) (.cn (.t 19) (.skip) (.ex 0))) (.sq (.bl 1 (.sq (.rg [⟨(some 22), none, .mv, [.t 0]⟩, ⟨(some 23), none, .mv, [.t 6]⟩, ⟨(some 24), none, (.ia 2), [.t 22, .t 23]⟩, ⟨(some 25), none, (.ld (some 2)), [.t 24]⟩, ⟨(some 7), none, (.alloc [(.c (.int .i64 0)), (.c (.int .i64 0))]), []⟩, ⟨none, none, (.st 2), [.t 7, .t 25]⟩] false) (.sq (.rg [⟨(some 26), none, .mv, [.t 1]⟩, ⟨(some 27), none, (.ld (some 2)), [.t 7]⟩, ⟨(some 28), none, (.callv .fz), [.t 26, .t 27]⟩, ⟨(some 29), none, (.un .not), [.t 28]⟩] false) (.cn (.t 29) (.sq (.rg [⟨(some 30), none, .mv, [.t 0]⟩, ⟨(some 31), none, .mv, [.t 5]⟩, ⟨(some 32), none, (.ld (some 2)), [.t 7]⟩, ⟨(some 33), none, (.ia 2), [.t 30, .t 31]⟩, ⟨none, none, (.st 2), [.t 33, .t 32]⟩] false) (.rg [⟨(some 34), none, .mv, [.t 5]⟩, ⟨(some 35), none, (.bin .add), [.t 34, .k (.c (.int .i64 1))]⟩, ⟨(some 5), none, .mv, [.t 35]⟩] false)) (.skip))))) (.rg [⟨(some 20), none, .mv, [.t 6]⟩, ⟨(some 21), none, (.bin .add), [.t 20, .k (.c (.int .i64 1))]⟩, ⟨(some 6), none, .mv, [.t 21]⟩] false)))))) (.sq (.rg [⟨(some 36), none, .mv, [.t 0]⟩, ⟨(some 37), none, .mv, [.t 5]⟩, ⟨(some 38), none, (.slc 2 true false), [.t 36, .t 37]⟩, ⟨none, none, (.clr 2 [(.c (.int .i64 0)), (.c (.int .i64 0))]), [.t 38]⟩] false) (.sq (.rg [⟨(some 39), none, .mv, [.t 0]⟩, ⟨(some 40), none, .mv, [.t 5]⟩, ⟨(some 41), none, (.slc 2 false true), [.t 39, .t 40]⟩, ⟨(some 4), none, .mv, [.t 41]⟩] false) (.rt))))))
theorem cf99 : compF Tryz.prog 99 c99 = some ⟨c99, [.t 4], 42⟩ := by kernel_rfl

-- raddle/tab.change$1
def c100 : IC := .sq (.rg [⟨(some 2), none, (.box (some 2)), [.t 0]⟩, ⟨(some 3), none, .mv, [.k (.c (.bool false))]⟩] false) (.sq (.rg [⟨(some 4), none, (.fa 11), [.t 1]⟩, ⟨(some 5), none, (.ld none), [.t 4]⟩, ⟨(some 6), none, (.ld (some 2)), [.t 2]⟩, ⟨(some 7), none, (.call 101 .fz), [.t 5, .t 6]⟩, ⟨(some 3), none, .mv, [.t 7]⟩] false) (.rt))
theorem cf100 : compF Tryz.prog 100 c100 = some ⟨c100, [.t 3], 8⟩ := by kernel_rfl

-- slices.Contains[[]raddle/api.Dot,raddle/api.Dot]
def c101 : IC := .sq (.rg [⟨(some 3), none, (.box (some 2)), [.t 1]⟩, ⟨(some 4), none, .mv, [.k (.c (.bool false))]⟩] false) (.sq (.rg [⟨(some 5), none, .mv, [.t 0]⟩, ⟨(some 6), none, (.ld (some 2)), [.t 3]⟩, ⟨(some 7), none, (.call 124 .fz), [.t 5, .t 6]⟩, ⟨(some 8), none, (.bin .geq), [.t 7, .k (.c (.int .i64 0))]⟩, ⟨(some 4), none, .mv, [.t 8]⟩] false) (.rt))
theorem cf101 : compF Tryz.prog 101 c101 = some ⟨c101, [.t 4], 9⟩ := by kernel_rfl

-- raddle/dot.Check$1
def c102 : IC := .sq (.rg [⟨(some 2), none, .mv, [.k (.c (.bool false))]⟩] false) (.sq (.rg [⟨(some 3), none, .mv, [.t 0]⟩, ⟨(some 4), none, (.bin .lss), [.t 3, .k (.c (.int .i64 0))]⟩, ⟨(some 5), none, .mv, [.t 4]⟩, ⟨(some 6), (some (5, false)), .mv, [.t 0]⟩, ⟨(some 7), (some (5, false)), (.bin .gtr), [.t 6, .k (.c (.int .i64 1073741824))]⟩, ⟨(some 8), none, .pick, [.t 5, .k (.c (.bool true)), .t 7]⟩, ⟨(some 2), none, .mv, [.t 8]⟩] false) (.rt))
theorem cf102 : compF Tryz.prog 102 c102 = some ⟨c102, [.t 2], 9⟩ := by kernel_rfl

-- slices.IndexFunc[[]raddle/api.Cell,raddle/api.Cell]
def c103 : IC := .sq (.rg [⟨(some 4), none, .mv, [.k (.c (.int .i64 0))]⟩] false) (.sq (.sq (.rg [⟨(some 6), none, .mv, [.t 0]⟩, ⟨(some 7), none, .len, [.t 6]⟩, ⟨(some 8), none, .mv, [.k (.c (.int .i64 0))]⟩] false) (.bl 0 (.lp (.sq (.rg [⟨(some 9), none, (.bin .lss), [.t 8, .t 7]⟩] false) (.sq (.cn (.t 9) (.skip) (.ex 0)) (.sq (.bl 1 (.sq (.rg [⟨(some 10), none, .mv, [.t 8]⟩, ⟨(some 5), none, .mv, [.t 10]⟩] false) (.sq (.rg [⟨(some 11), none, .mv, [.t 1]⟩, ⟨(some 12), none, .mv, [.t 0]⟩, ⟨(some 13), none, .mv, [.t 5]⟩, ⟨(some 14), none, (.ia 8), [.t 12, .t 13]⟩, ⟨(some 15), none, (.ld (some 8)), [.t 14]⟩, ⟨(some 16), none, (.callv .fz), [.t 11, .t 15]⟩] false) (.cn (.t 16) (.sq (.rg [⟨(some 17), none, .mv, [.t 5]⟩, ⟨(some 4), none, .mv, [.t 17]⟩] false) (.rt)) (.skip))))) (.rg [⟨(some 18), none, (.bin .add), [.t 8, .k (.c (.int .i64 1))]⟩, ⟨(some 8), none, .mv, [.t 18]⟩] false))))))) (.sq (.rg [⟨(some 4), none, .mv, [.k (.c (.int .i64 (-1)))]⟩] false) (.rt)))
theorem cf103 : compF Tryz.prog 103 c103 = some ⟨c103, [.t 4], 19⟩ := by kernel_rfl

-- raddle/dot.in
def c104 : IC := .sq (.rg [⟨(some 4), none, .mv, [.k (.c (.bool false))]⟩] false) (.sq (.rg [⟨(some 5), none, .mv, [.t 1]⟩, ⟨(some 6), none, (.bin .geq), [.t 5, .k (.c (.int .i64 0))]⟩, ⟨(some 7), none, .mv, [.t 6]⟩, ⟨(some 8), (some (7, true)), .mv, [.t 1]⟩, ⟨(some 9), (some (7, true)), .mv, [.t 0]⟩, ⟨(some 10), (some (7, true)), .len, [.t 9]⟩, ⟨(some 11), (some (7, true)), (.bin .lss), [.t 8, .t 10]⟩, ⟨(some 12), none, .pick, [.t 7, .t 11, .k (.c (.bool false))]⟩, ⟨(some 4), none, .mv, [.t 12]⟩] false) (.rt))
theorem cf104 : compF Tryz.prog 104 c104 = some ⟨c104, [.t 4], 13⟩ := by kernel_rfl

-- raddle/raddleref01.Value
def c105 : IC := .sq (.rg [⟨(some 1), none, (.box (some 3)), [.t 0]⟩, ⟨(some 2), none, .mv, [.k (.c (.bool false))]⟩] false) (.sq (.sq (.rg [⟨(some 3), none, (.fa 0), [.t 1]⟩, ⟨(some 4), none, (.ld none), [.t 3]⟩] false) (.bl 0 (.sq (.rg [⟨(some 6), none, (.bin .eql), [.t 4, .k (.c (.int .i64 1))]⟩, ⟨(some 5), none, .mv, [.t 6]⟩] false) (.cn (.t 5) (.sq (.rg [⟨(some 7), none, (.fa 1), [.t 1]⟩, ⟨(some 8), none, (.ld none), [.t 7]⟩, ⟨(some 9), none, (.bin .eql), [.t 8, .k (.c (.int .i64 0))]⟩, ⟨(some 10), none, .mv, [.t 9]⟩, ⟨(some 11), (some (10, true)), (.fa 2), [.t 1]⟩, ⟨(some 12), (some (10, true)), (.ld none), [.t 11]⟩, ⟨(some 13), (some (10, true)), (.bin .eql), [.t 12, .k (.c (.string ⟨#[]⟩))]⟩, ⟨(some 14), none, .pick, [.t 10, .t 13, .k (.c (.bool false))]⟩, ⟨(some 2), none, .mv, [.t 14]⟩] false) (.rt)) (.sq (.rg [⟨(some 16), none, (.bin .eql), [.t 4, .k (.c (.int .i64 2))]⟩, ⟨(some 15), none, .mv, [.t 16]⟩] false) (.cn (.t 15) (.sq (.rg [⟨(some 17), none, (.fa 1), [.t 1]⟩, ⟨(some 18), none, (.ld none), [.t 17]⟩, ⟨(some 19), none, (.call 39 .fz), [.t 18, .k (.c (.int .i64 0)), .k (.c (.int .i64 1))]⟩, ⟨(some 20), none, .mv, [.t 19]⟩, ⟨(some 21), (some (20, true)), (.fa 2), [.t 1]⟩, ⟨(some 22), (some (20, true)), (.ld none), [.t 21]⟩, ⟨(some 23), (some (20, true)), (.bin .eql), [.t 22, .k (.c (.string ⟨#[]⟩))]⟩, ⟨(some 24), none, .pick, [.t 20, .t 23, .k (.c (.bool false))]⟩, ⟨(some 2), none, .mv, [.t 24]⟩] false) (.rt)) (.sq (.rg [⟨(some 26), none, (.bin .eql), [.t 4, .k (.c (.int .i64 3))]⟩, ⟨(some 25), none, .mv, [.t 26]⟩] false) (.cn (.t 25) (.sq (.rg [⟨(some 27), none, (.fa 1), [.t 1]⟩, ⟨(some 28), none, (.ld none), [.t 27]⟩, ⟨(some 29), none, (.call 39 .fz), [.t 28, .k (.c (.int .i64 (-1152921504606846976))), .k (.c (.int .i64 1152921504606846976))]⟩, ⟨(some 30), none, .mv, [.t 29]⟩, ⟨(some 31), (some (30, true)), (.fa 2), [.t 1]⟩, ⟨(some 32), (some (30, true)), (.ld none), [.t 31]⟩, ⟨(some 33), (some (30, true)), (.bin .eql), [.t 32, .k (.c (.string ⟨#[]⟩))]⟩, ⟨(some 34), none, .pick, [.t 30, .t 33, .k (.c (.bool false))]⟩, ⟨(some 2), none, .mv, [.t 34]⟩] false) (.rt)) (.sq (.rg [⟨(some 36), none, (.bin .eql), [.t 4, .k (.c (.int .i64 4))]⟩, ⟨(some 35), none, .mv, [.t 36]⟩] false) (.cn (.t 35) (.sq (.rg [⟨(some 37), none, (.fa 1), [.t 1]⟩, ⟨(some 38), none, (.ld none), [.t 37]⟩, ⟨(some 39), none, (.bin .eql), [.t 38, .k (.c (.int .i64 0))]⟩, ⟨(some 40), none, .mv, [.t 39]⟩, ⟨(some 41), (some (40, true)), (.fa 2), [.t 1]⟩, ⟨(some 42), (some (40, true)), (.ld none), [.t 41]⟩, ⟨(some 43), (some (40, true)), .slen, [.t 42]⟩, ⟨(some 44), (some (40, true)), (.bin .leq), [.t 43, .k (.c (.int .i64 24))]⟩, ⟨(some 45), none, .pick, [.t 40, .t 44, .k (.c (.bool false))]⟩, ⟨(some 2), none, .mv, [.t 45]⟩] false) (.rt)) (.skip))))))))))) (.sq (.rg [⟨(some 2), none, .mv, [.k (.c (.bool false))]⟩] false) (.rt)))
theorem cf105 : compF Tryz.prog 105 c105 = some ⟨c105, [.t 2], 46⟩ := by kernel_rfl

-- slices.IndexFunc[[]raddle/api.Table,raddle/api.Table]
def c106 : IC := .sq (.rg [⟨(some 4), none, .mv, [.k (.c (.int .i64 0))]⟩] false) (.sq (.sq (.rg [⟨(some 6), none, .mv, [.t 0]⟩, ⟨(some 7), none, .len, [.t 6]⟩, ⟨(some 8), none, .mv, [.k (.c (.int .i64 0))]⟩] false) (.bl 0 (.lp (.sq (.rg [⟨(some 9), none, (.bin .lss), [.t 8, .t 7]⟩] false) (.sq (.cn (.t 9) (.skip) (.ex 0)) (.sq (.bl 1 (.sq (.rg [⟨(some 10), none, .mv, [.t 8]⟩, ⟨(some 5), none, .mv, [.t 10]⟩] false) (.sq (.rg [⟨(some 11), none, .mv, [.t 1]⟩, ⟨(some 12), none, .mv, [.t 0]⟩, ⟨(some 13), none, .mv, [.t 5]⟩, ⟨(some 14), none, (.ia 1), [.t 12, .t 13]⟩, ⟨(some 15), none, (.ld (some 1)), [.t 14]⟩, ⟨(some 16), none, (.callv .fz), [.t 11, .t 15]⟩] false) (.cn (.t 16) (.sq (.rg [⟨(some 17), none, .mv, [.t 5]⟩, ⟨(some 4), none, .mv, [.t 17]⟩] false) (.rt)) (.skip))))) (.rg [⟨(some 18), none, (.bin .add), [.t 8, .k (.c (.int .i64 1))]⟩, ⟨(some 8), none, .mv, [.t 18]⟩] false))))))) (.sq (.rg [⟨(some 4), none, .mv, [.k (.c (.int .i64 (-1)))]⟩] false) (.rt)))
theorem cf106 : compF Tryz.prog 106 c106 = some ⟨c106, [.t 4], 19⟩ := by kernel_rfl

-- slices.IndexFunc[[]int,int]
def c107 : IC := .sq (.rg [⟨(some 4), none, .mv, [.k (.c (.int .i64 0))]⟩] false) (.sq (.sq (.rg [⟨(some 6), none, .mv, [.t 0]⟩, ⟨(some 7), none, .len, [.t 6]⟩, ⟨(some 8), none, .mv, [.k (.c (.int .i64 0))]⟩] false) (.bl 0 (.lp (.sq (.rg [⟨(some 9), none, (.bin .lss), [.t 8, .t 7]⟩] false) (.sq (.cn (.t 9) (.skip) (.ex 0)) (.sq (.bl 1 (.sq (.rg [⟨(some 10), none, .mv, [.t 8]⟩, ⟨(some 5), none, .mv, [.t 10]⟩] false) (.sq (.rg [⟨(some 11), none, .mv, [.t 1]⟩, ⟨(some 12), none, .mv, [.t 0]⟩, ⟨(some 13), none, .mv, [.t 5]⟩, ⟨(some 14), none, (.ia 1), [.t 12, .t 13]⟩, ⟨(some 15), none, (.ld none), [.t 14]⟩, ⟨(some 16), none, (.callv .fz), [.t 11, .t 15]⟩] false) (.cn (.t 16) (.sq (.rg [⟨(some 17), none, .mv, [.t 5]⟩, ⟨(some 4), none, .mv, [.t 17]⟩] false) (.rt)) (.skip))))) (.rg [⟨(some 18), none, (.bin .add), [.t 8, .k (.c (.int .i64 1))]⟩, ⟨(some 8), none, .mv, [.t 18]⟩] false))))))) (.sq (.rg [⟨(some 4), none, .mv, [.k (.c (.int .i64 (-1)))]⟩] false) (.rt)))
theorem cf107 : compF Tryz.prog 107 c107 = some ⟨c107, [.t 4], 19⟩ := by kernel_rfl

-- raddle/tab.name
def c108 : IC := .sq (.rg [⟨(some 1), none, (.box (some 2)), [.t 0]⟩, ⟨(some 2), none, .mv, [.k (.c (.bool false))]⟩] false) (.sq (.rg [⟨(some 3), none, (.fa 0), [.t 1]⟩, ⟨(some 4), none, (.ld none), [.t 3]⟩, ⟨(some 5), none, (.bin .geq), [.t 4, .k (.c (.int .i64 0))]⟩, ⟨(some 6), none, .mv, [.t 5]⟩, ⟨(some 7), (some (6, true)), (.fa 0), [.t 1]⟩, ⟨(some 8), (some (6, true)), (.ld none), [.t 7]⟩, ⟨(some 9), (some (6, true)), (.bin .lss), [.t 8, .k (.c (.int .i64 5))]⟩, ⟨(some 10), none, .pick, [.t 6, .t 9, .k (.c (.bool false))]⟩, ⟨(some 11), none, .mv, [.t 10]⟩, ⟨(some 12), (some (11, true)), (.fa 1), [.t 1]⟩, ⟨(some 13), (some (11, true)), (.ld none), [.t 12]⟩, ⟨(some 14), (some (11, true)), (.bin .geq), [.t 13, .k (.c (.int .i64 1))]⟩, ⟨(some 15), none, .pick, [.t 11, .t 14, .k (.c (.bool false))]⟩, ⟨(some 16), none, .mv, [.t 15]⟩, ⟨(some 17), (some (16, true)), (.fa 1), [.t 1]⟩, ⟨(some 18), (some (16, true)), (.ld none), [.t 17]⟩, ⟨(some 19), (some (16, true)), (.bin .leq), [.t 18, .k (.c (.int .i64 1073741824))]⟩, ⟨(some 20), none, .pick, [.t 16, .t 19, .k (.c (.bool false))]⟩, ⟨(some 2), none, .mv, [.t 20]⟩] false) (.rt))
theorem cf108 : compF Tryz.prog 108 c108 = some ⟨c108, [.t 2], 21⟩ := by kernel_rfl

-- raddle/dot.Less
def c109 : IC := .sq (.rg [⟨(some 2), none, (.box (some 2)), [.t 0]⟩, ⟨(some 3), none, (.box (some 2)), [.t 1]⟩, ⟨(some 4), none, .mv, [.k (.c (.bool false))]⟩] false) (.sq (.rg [⟨(some 5), none, (.ld (some 2)), [.t 2]⟩, ⟨(some 6), none, (.ld (some 2)), [.t 3]⟩, ⟨(some 7), none, (.call 96 .fz), [.t 5, .t 6]⟩, ⟨(some 8), none, (.bin .lss), [.t 7, .k (.c (.int .i64 0))]⟩, ⟨(some 4), none, .mv, [.t 8]⟩] false) (.rt))
theorem cf109 : compF Tryz.prog 109 c109 = some ⟨c109, [.t 4], 9⟩ := by kernel_rfl

-- raddle/value.Small
def c110 : IC := .sq (.rg [⟨(some 1), none, (.box (some 3)), [.t 0]⟩, ⟨(some 2), none, .mv, [.k (.c (.bool false))]⟩] false) (.sq (.rg [⟨(some 3), none, (.ld (some 3)), [.t 1]⟩, ⟨(some 4), none, (.call 125 .fz), [.t 3]⟩, ⟨(some 5), none, (.bin .eql), [.t 4, .k (.c (.int .i64 0))]⟩, ⟨(some 6), none, .mv, [.t 5]⟩, ⟨(some 7), (some (6, true)), (.fa 0), [.t 1]⟩, ⟨(some 8), (some (6, true)), (.ld none), [.t 7]⟩, ⟨(some 9), (some (6, true)), (.bin .neq), [.t 8, .k (.c (.int .i64 3))]⟩, ⟨(some 10), (some (6, true)), .mv, [.t 9]⟩, ⟨(some 11), (some (10, false)), (.fa 1), [.t 1]⟩, ⟨(some 12), (some (10, false)), (.ld none), [.t 11]⟩, ⟨(some 13), (some (10, false)), (.call 126 .fz), [.t 12, .k (.c (.int .i64 2147483648))]⟩, ⟨(some 14), (some (6, true)), .pick, [.t 10, .k (.c (.bool true)), .t 13]⟩, ⟨(some 15), none, .pick, [.t 6, .t 14, .k (.c (.bool false))]⟩, ⟨(some 2), none, .mv, [.t 15]⟩] false) (.rt))
theorem cf110 : compF Tryz.prog 110 c110 = some ⟨c110, [.t 2], 16⟩ := by kernel_rfl

-- raddle/value.Fits
def c111 : IC := .sq (.rg [⟨(some 2), none, (.box (some 3)), [.t 0]⟩, ⟨(some 4), none, .mv, [.k (.c (.bool false))]⟩] false) (.sq (.rg [⟨(some 5), none, .mv, [.t 1]⟩, ⟨(some 6), none, (.bin .eql), [.t 5, .k (.c (.int .i64 2))]⟩, ⟨(some 7), none, .mv, [.t 6]⟩, ⟨(some 8), (some (7, false)), .mv, [.t 1]⟩, ⟨(some 9), (some (7, false)), (.bin .eql), [.t 8, .k (.c (.int .i64 3))]⟩, ⟨(some 10), none, .pick, [.t 7, .k (.c (.bool true)), .t 9]⟩, ⟨(some 11), none, .mv, [.t 10]⟩, ⟨(some 12), (some (11, false)), .mv, [.t 1]⟩, ⟨(some 13), (some (11, false)), (.bin .eql), [.t 12, .k (.c (.int .i64 4))]⟩, ⟨(some 14), none, .pick, [.t 11, .k (.c (.bool true)), .t 13]⟩, ⟨(some 15), none, .mv, [.t 14]⟩, ⟨(some 16), (some (15, true)), (.ld (some 3)), [.t 2]⟩, ⟨(some 17), (some (15, true)), (.call 125 .fz), [.t 16]⟩, ⟨(some 18), (some (15, true)), (.bin .eql), [.t 17, .k (.c (.int .i64 0))]⟩, ⟨(some 19), none, .pick, [.t 15, .t 18, .k (.c (.bool false))]⟩, ⟨(some 20), none, .mv, [.t 19]⟩, ⟨(some 21), (some (20, true)), (.fa 0), [.t 2]⟩, ⟨(some 22), (some (20, true)), (.ld none), [.t 21]⟩, ⟨(some 23), (some (20, true)), .mv, [.t 1]⟩, ⟨(some 24), (some (20, true)), (.bin .eql), [.t 22, .t 23]⟩, ⟨(some 25), (some (20, true)), .mv, [.t 24]⟩, ⟨(some 26), (some (25, false)), (.fa 0), [.t 2]⟩, ⟨(some 27), (some (25, false)), (.ld none), [.t 26]⟩, ⟨(some 28), (some (25, false)), (.bin .eql), [.t 27, .k (.c (.int .i64 1))]⟩, ⟨(some 29), (some (20, true)), .pick, [.t 25, .k (.c (.bool true)), .t 28]⟩, ⟨(some 30), none, .pick, [.t 20, .t 29, .k (.c (.bool false))]⟩, ⟨(some 4), none, .mv, [.t 30]⟩] false) (.rt))
theorem cf111 : compF Tryz.prog 111 c111 = some ⟨c111, [.t 4], 31⟩ := by kernel_rfl

-- raddle/hlc.Check
def c112 : IC := .sq (.rg [⟨(some 1), none, (.box (some 3)), [.t 0]⟩, ⟨(some 2), none, .mv, [.k (.c (.int .i64 0))]⟩] false) (.sq (.sq (.rg [⟨(some 3), none, (.fa 0), [.t 1]⟩, ⟨(some 4), none, (.ld none), [.t 3]⟩, ⟨(some 5), none, (.call 127 .fz), [.t 4, .k (.c (.int .i64 1099511627776))]⟩, ⟨(some 6), none, .mv, [.t 5]⟩, ⟨(some 7), (some (6, true)), (.fa 1), [.t 1]⟩, ⟨(some 8), (some (6, true)), (.ld none), [.t 7]⟩, ⟨(some 9), (some (6, true)), (.call 127 .fz), [.t 8, .k (.c (.int .i64 65536))]⟩, ⟨(some 10), none, .pick, [.t 6, .t 9, .k (.c (.bool false))]⟩, ⟨(some 11), none, .mv, [.t 10]⟩, ⟨(some 12), (some (11, true)), (.fa 2), [.t 1]⟩, ⟨(some 13), (some (11, true)), (.ld none), [.t 12]⟩, ⟨(some 14), (some (11, true)), (.call 127 .fz), [.t 13, .k (.c (.int .i64 4))]⟩, ⟨(some 15), none, .pick, [.t 11, .t 14, .k (.c (.bool false))]⟩] false) (.cn (.t 15) (.sq (.rg [⟨(some 2), none, .mv, [.k (.c (.int .i64 0))]⟩] false) (.rt)) (.skip))) (.sq (.rg [⟨(some 2), none, .mv, [.k (.c (.int .i64 1))]⟩] false) (.rt)))
theorem cf112 : compF Tryz.prog 112 c112 = some ⟨c112, [.t 2], 16⟩ := by kernel_rfl

-- raddle/op.whole
def c113 : IC := .sq (.rg [⟨(some 3), none, (.box (some 12)), [.t 1]⟩, ⟨(some 4), none, .mv, [.k (.c (.bool false))]⟩] false) (.sq (.rg [⟨(some 6), none, (.fa 0), [.t 3]⟩, ⟨(some 7), none, (.ld (some 2)), [.t 6]⟩, ⟨(some 5), none, (.alloc [(.c (.int .i64 0)), (.c (.int .i64 0))]), []⟩, ⟨none, none, (.st 2), [.t 5, .t 7]⟩] false) (.sq (.rg [⟨(some 8), none, (.fa 0), [.t 5]⟩, ⟨(some 9), none, (.ld none), [.t 8]⟩, ⟨(some 10), none, (.bin .geq), [.t 9, .k (.c (.int .i64 0))]⟩, ⟨(some 11), none, .mv, [.t 10]⟩, ⟨(some 12), (some (11, true)), (.fa 0), [.t 5]⟩, ⟨(some 13), (some (11, true)), (.ld none), [.t 12]⟩, ⟨(some 14), (some (11, true)), .mv, [.t 0]⟩, ⟨(some 15), (some (11, true)), (.bin .lss), [.t 13, .t 14]⟩, ⟨(some 16), none, .pick, [.t 11, .t 15, .k (.c (.bool false))]⟩, ⟨(some 17), none, .mv, [.t 16]⟩, ⟨(some 18), (some (17, true)), (.fa 1), [.t 5]⟩, ⟨(some 19), (some (17, true)), (.ld none), [.t 18]⟩, ⟨(some 20), (some (17, true)), (.bin .geq), [.t 19, .k (.c (.int .i64 1))]⟩, ⟨(some 21), none, .pick, [.t 17, .t 20, .k (.c (.bool false))]⟩, ⟨(some 22), none, .mv, [.t 21]⟩, ⟨(some 23), (some (22, true)), (.fa 1), [.t 5]⟩, ⟨(some 24), (some (22, true)), (.ld none), [.t 23]⟩, ⟨(some 25), (some (22, true)), (.bin .leq), [.t 24, .k (.c (.int .i64 1073741824))]⟩, ⟨(some 26), none, .pick, [.t 22, .t 25, .k (.c (.bool false))]⟩, ⟨(some 27), none, .mv, [.t 26]⟩, ⟨(some 28), (some (27, true)), (.fa 2), [.t 3]⟩, ⟨(some 29), (some (27, true)), (.ld none), [.t 28]⟩, ⟨(some 30), (some (27, true)), .len, [.t 29]⟩, ⟨(some 31), (some (27, true)), .mv, [.t 0]⟩, ⟨(some 32), (some (27, true)), (.bin .eql), [.t 30, .t 31]⟩, ⟨(some 33), none, .pick, [.t 27, .t 32, .k (.c (.bool false))]⟩, ⟨(some 34), none, .mv, [.t 33]⟩, ⟨(some 35), (some (34, true)), (.fa 2), [.t 3]⟩, ⟨(some 36), (some (34, true)), (.ld none), [.t 35]⟩, ⟨(some 37), (some (34, true)), (.call 55 .fz), [.t 36]⟩, ⟨(some 38), (some (34, true)), (.bin .eql), [.t 37, .k (.c (.int .i64 0))]⟩, ⟨(some 39), none, .pick, [.t 34, .t 38, .k (.c (.bool false))]⟩, ⟨(some 40), none, .mv, [.t 39]⟩, ⟨(some 41), (some (40, true)), (.fa 2), [.t 3]⟩, ⟨(some 42), (some (40, true)), (.ld none), [.t 41]⟩, ⟨(some 43), (some (40, true)), (.fa 0), [.t 5]⟩, ⟨(some 44), (some (40, true)), (.ld none), [.t 43]⟩, ⟨(some 45), (some (40, true)), (.ia 1), [.t 42, .t 44]⟩, ⟨(some 46), (some (40, true)), (.ld none), [.t 45]⟩, ⟨(some 47), (some (40, true)), (.fa 1), [.t 5]⟩, ⟨(some 48), (some (40, true)), (.ld none), [.t 47]⟩, ⟨(some 49), (some (40, true)), (.bin .sub), [.t 48, .k (.c (.int .i64 1))]⟩, ⟨(some 50), (some (40, true)), (.bin .eql), [.t 46, .t 49]⟩, ⟨(some 51), none, .pick, [.t 40, .t 50, .k (.c (.bool false))]⟩, ⟨(some 52), none, .mv, [.t 51]⟩, ⟨(some 53), (some (52, true)), (.fa 3), [.t 3]⟩, ⟨(some 54), (some (52, true)), (.ld (some 3)), [.t 53]⟩, ⟨(some 55), (some (52, true)), (.call 112 .fz), [.t 54]⟩, ⟨(some 56), (some (52, true)), (.bin .eql), [.t 55, .k (.c (.int .i64 0))]⟩, ⟨(some 57), none, .pick, [.t 52, .t 56, .k (.c (.bool false))]⟩, ⟨(some 58), none, .mv, [.t 57]⟩, ⟨(some 59), (some (58, true)), (.fa 3), [.t 3]⟩, ⟨(some 60), (some (58, true)), (.fa 2), [.t 59]⟩, ⟨(some 61), (some (58, true)), (.ld none), [.t 60]⟩, ⟨(some 62), (some (58, true)), (.fa 0), [.t 5]⟩, ⟨(some 63), (some (58, true)), (.ld none), [.t 62]⟩, ⟨(some 64), (some (58, true)), (.bin .eql), [.t 61, .t 63]⟩, ⟨(some 65), none, .pick, [.t 58, .t 64, .k (.c (.bool false))]⟩, ⟨(some 4), none, .mv, [.t 65]⟩] true) (.rt)))
theorem cf113 : compF Tryz.prog 113 c113 = some ⟨c113, [.t 4], 66⟩ := by kernel_rfl

-- raddle/op.small
def c114 : IC := .sq (.rg [⟨(some 4), none, .mv, [.k (.c (.bool false))]⟩] false) (.sq (.rg [⟨(some 5), none, .mv, [.t 0]⟩, ⟨(some 6), none, .mv, [.t 1]⟩, ⟨(some 7), none, (.call 128 .fz), [.t 5, .t 6]⟩, ⟨(some 8), none, .mv, [.t 7]⟩, ⟨(some 9), (some (8, true)), .mv, [.t 0]⟩, ⟨(some 10), (some (8, true)), (.call 129 .fz), [.t 9, .k (.fn 130 [])]⟩, ⟨(some 11), (some (8, true)), (.un .not), [.t 10]⟩, ⟨(some 12), none, .pick, [.t 8, .t 11, .k (.c (.bool false))]⟩, ⟨(some 4), none, .mv, [.t 12]⟩] false) (.rt))
theorem cf114 : compF Tryz.prog 114 c114 = some ⟨c114, [.t 4], 13⟩ := by kernel_rfl

-- raddle/op.had
def c115 : IC := .sq (.rg [⟨(some 4), none, .mv, [.k (.c (.bool false))]⟩] false) (.sq (.sq (.rg [⟨(some 7), none, .mv, [.t 1]⟩, ⟨(some 8), none, .len, [.t 7]⟩, ⟨(some 9), none, .mv, [.k (.c (.int .i64 0))]⟩] false) (.bl 0 (.lp (.sq (.rg [⟨(some 10), none, (.bin .lss), [.t 9, .t 8]⟩] false) (.sq (.cn (.t 10) (.skip) (.ex 0)) (.sq (.bl 1 (.sq (.rg [⟨(some 11), none, .mv, [.t 9]⟩, ⟨(some 12), none, (.ia 2), [.t 7, .t 9]⟩, ⟨(some 13), none, (.ld (some 2)), [.t 12]⟩, ⟨(some 6), none, (.alloc [(.c (.int .i64 0)), (.c (.int .i64 0))]), []⟩, ⟨(some 5), none, .mv, [.t 11]⟩, ⟨none, none, (.st 2), [.t 6, .t 13]⟩] false) (.sq (.rg [⟨(some 14), none, .mv, [.t 0]⟩, ⟨(some 15), none, (.ld (some 2)), [.t 6]⟩, ⟨(some 16), none, (.call 61 .fz), [.t 14, .t 15]⟩, ⟨(some 17), none, (.un .not), [.t 16]⟩, ⟨(some 18), none, .mv, [.t 17]⟩, ⟨(some 19), (some (18, false)), .mv, [.t 5]⟩, ⟨(some 20), (some (18, false)), (.bin .gtr), [.t 19, .k (.c (.int .i64 0))]⟩, ⟨(some 21), (some (18, false)), .mv, [.t 20]⟩, ⟨(some 22), (some (21, true)), .mv, [.t 1]⟩, ⟨(some 23), (some (21, true)), .mv, [.t 5]⟩, ⟨(some 24), (some (21, true)), (.bin .sub), [.t 23, .k (.c (.int .i64 1))]⟩, ⟨(some 25), (some (21, true)), (.ia 2), [.t 22, .t 24]⟩, ⟨(some 26), (some (21, true)), (.ld (some 2)), [.t 25]⟩, ⟨(some 27), (some (21, true)), (.ld (some 2)), [.t 6]⟩, ⟨(some 28), (some (21, true)), (.call 109 .fz), [.t 26, .t 27]⟩, ⟨(some 29), (some (21, true)), (.un .not), [.t 28]⟩, ⟨(some 30), (some (18, false)), .pick, [.t 21, .t 29, .k (.c (.bool false))]⟩, ⟨(some 31), none, .pick, [.t 18, .k (.c (.bool true)), .t 30]⟩] true) (.cn (.t 31) (.sq (.rg [⟨(some 4), none, .mv, [.k (.c (.bool false))]⟩] false) (.rt)) (.skip))))) (.rg [⟨(some 32), none, (.bin .add), [.t 9, .k (.c (.int .i64 1))]⟩, ⟨(some 9), none, .mv, [.t 32]⟩] false))))))) (.sq (.rg [⟨(some 4), none, .mv, [.k (.c (.bool true))]⟩] false) (.rt)))
theorem cf115 : compF Tryz.prog 115 c115 = some ⟨c115, [.t 4], 33⟩ := by kernel_rfl

-- slices.rotateLeft[raddle/api.Row]
-- cmp.Or[int]
def c118 : IC := .sq (.rg [⟨(some 2), none, .mv, [.k (.c (.int .i64 0))]⟩] false) (.sq (.rg [⟨(some 3), none, .mv, [.k (.c (.int .i64 0))]⟩] false) (.sq (.sq (.rg [⟨(some 6), none, .mv, [.t 0]⟩, ⟨(some 7), none, .len, [.t 6]⟩, ⟨(some 8), none, .mv, [.k (.c (.int .i64 0))]⟩] false) (.bl 0 (.lp (.sq (.rg [⟨(some 9), none, (.bin .lss), [.t 8, .t 7]⟩] false) (.sq (.cn (.t 9) (.skip) (.ex 0)) (.sq (.bl 1 (.sq (.rg [⟨(some 10), none, (.ia 1), [.t 6, .t 8]⟩, ⟨(some 11), none, (.ld none), [.t 10]⟩, ⟨(some 5), none, .mv, [.t 11]⟩] false) (.sq (.rg [⟨(some 12), none, .mv, [.t 5]⟩, ⟨(some 13), none, .mv, [.t 3]⟩, ⟨(some 14), none, (.bin .neq), [.t 12, .t 13]⟩] false) (.cn (.t 14) (.sq (.rg [⟨(some 15), none, .mv, [.t 5]⟩, ⟨(some 2), none, .mv, [.t 15]⟩] false) (.rt)) (.skip))))) (.rg [⟨(some 16), none, (.bin .add), [.t 8, .k (.c (.int .i64 1))]⟩, ⟨(some 8), none, .mv, [.t 16]⟩] false))))))) (.sq (.rg [⟨(some 17), none, .mv, [.t 3]⟩, ⟨(some 2), none, .mv, [.t 17]⟩] false) (.rt))))
theorem cf118 : compF Tryz.prog 118 c118 = some ⟨c118, [.t 2], 18⟩ := by kernel_rfl

-- cmp.Compare[int]
def c119 : IC := .sq (.rg [⟨(some 4), none, .mv, [.k (.c (.int .i64 0))]⟩] false) (.sq (.rg [⟨(some 7), none, .mv, [.t 0]⟩, ⟨(some 8), none, (.call 132 .fz), [.t 7]⟩, ⟨(some 5), none, .mv, [.t 8]⟩] false) (.sq (.rg [⟨(some 9), none, .mv, [.t 1]⟩, ⟨(some 10), none, (.call 132 .fz), [.t 9]⟩, ⟨(some 6), none, .mv, [.t 10]⟩] false) (.sq (.sq (.rg [⟨(some 11), none, .mv, [.t 5]⟩] false) (.cn (.t 11) (.sq (.sq (.rg [⟨(some 12), none, .mv, [.t 6]⟩] false) (.cn (.t 12) (.sq (.rg [⟨(some 4), none, .mv, [.k (.c (.int .i64 0))]⟩] false) (.rt)) (.skip))) (.sq (.rg [⟨(some 4), none, .mv, [.k (.c (.int .i64 (-1)))]⟩] false) (.rt))) (.skip))) (.sq (.sq (.rg [⟨(some 13), none, .mv, [.t 6]⟩] false) (.cn (.t 13) (.sq (.rg [⟨(some 4), none, .mv, [.k (.c (.int .i64 1))]⟩] false) (.rt)) (.skip))) (.sq (.sq (.rg [⟨(some 14), none, .mv, [.t 0]⟩, ⟨(some 15), none, .mv, [.t 1]⟩, ⟨(some 16), none, (.bin .lss), [.t 14, .t 15]⟩] false) (.cn (.t 16) (.sq (.rg [⟨(some 4), none, .mv, [.k (.c (.int .i64 (-1)))]⟩] false) (.rt)) (.skip))) (.sq (.sq (.rg [⟨(some 17), none, .mv, [.t 0]⟩, ⟨(some 18), none, .mv, [.t 1]⟩, ⟨(some 19), none, (.bin .gtr), [.t 17, .t 18]⟩] false) (.cn (.t 19) (.sq (.rg [⟨(some 4), none, .mv, [.k (.c (.int .i64 1))]⟩] false) (.rt)) (.skip))) (.sq (.rg [⟨(some 4), none, .mv, [.k (.c (.int .i64 0))]⟩] false) (.rt))))))))
theorem cf119 : compF Tryz.prog 119 c119 = some ⟨c119, [.t 4], 20⟩ := by kernel_rfl

-- slices.rotateRight[raddle/api.Dot]
-- raddle/hlc.Compare
def c122 : IC := .sq (.rg [⟨(some 2), none, (.box (some 3)), [.t 0]⟩, ⟨(some 3), none, (.box (some 3)), [.t 1]⟩, ⟨(some 4), none, .mv, [.k (.c (.int .i64 0))]⟩] false) (.sq (.rg [⟨(some 5), none, (.fa 0), [.t 2]⟩, ⟨(some 6), none, (.ld none), [.t 5]⟩, ⟨(some 7), none, (.fa 0), [.t 3]⟩, ⟨(some 8), none, (.ld none), [.t 7]⟩, ⟨(some 9), none, (.call 119 .fz), [.t 6, .t 8]⟩, ⟨(some 10), none, (.fa 1), [.t 2]⟩, ⟨(some 11), none, (.ld none), [.t 10]⟩, ⟨(some 12), none, (.fa 1), [.t 3]⟩, ⟨(some 13), none, (.ld none), [.t 12]⟩, ⟨(some 14), none, (.call 119 .fz), [.t 11, .t 13]⟩, ⟨(some 15), none, (.fa 2), [.t 2]⟩, ⟨(some 16), none, (.ld none), [.t 15]⟩, ⟨(some 17), none, (.fa 2), [.t 3]⟩, ⟨(some 18), none, (.ld none), [.t 17]⟩, ⟨(some 19), none, (.call 119 .fz), [.t 16, .t 18]⟩, ⟨(some 20), none, (.bsl 1 [(.c (.int .i64 0))] [0, 1, 2] 3 true), [.t 9, .t 14, .t 19]⟩, ⟨(some 21), none, (.call 118 .fz), [.t 20]⟩, ⟨(some 4), none, .mv, [.t 21]⟩] true) (.rt))
theorem cf122 : compF Tryz.prog 122 c122 = some ⟨c122, [.t 4], 22⟩ := by kernel_rfl

-- slices.IndexFunc[[]raddle/api.Dot,raddle/api.Dot]
def c123 : IC := .sq (.rg [⟨(some 4), none, .mv, [.k (.c (.int .i64 0))]⟩] false) (.sq (.sq (.rg [⟨(some 6), none, .mv, [.t 0]⟩, ⟨(some 7), none, .len, [.t 6]⟩, ⟨(some 8), none, .mv, [.k (.c (.int .i64 0))]⟩] false) (.bl 0 (.lp (.sq (.rg [⟨(some 9), none, (.bin .lss), [.t 8, .t 7]⟩] false) (.sq (.cn (.t 9) (.skip) (.ex 0)) (.sq (.bl 1 (.sq (.rg [⟨(some 10), none, .mv, [.t 8]⟩, ⟨(some 5), none, .mv, [.t 10]⟩] false) (.sq (.rg [⟨(some 11), none, .mv, [.t 1]⟩, ⟨(some 12), none, .mv, [.t 0]⟩, ⟨(some 13), none, .mv, [.t 5]⟩, ⟨(some 14), none, (.ia 2), [.t 12, .t 13]⟩, ⟨(some 15), none, (.ld (some 2)), [.t 14]⟩, ⟨(some 16), none, (.callv .fz), [.t 11, .t 15]⟩] false) (.cn (.t 16) (.sq (.rg [⟨(some 17), none, .mv, [.t 5]⟩, ⟨(some 4), none, .mv, [.t 17]⟩] false) (.rt)) (.skip))))) (.rg [⟨(some 18), none, (.bin .add), [.t 8, .k (.c (.int .i64 1))]⟩, ⟨(some 8), none, .mv, [.t 18]⟩] false))))))) (.sq (.rg [⟨(some 4), none, .mv, [.k (.c (.int .i64 (-1)))]⟩] false) (.rt)))
theorem cf123 : compF Tryz.prog 123 c123 = some ⟨c123, [.t 4], 19⟩ := by kernel_rfl

-- slices.Index[[]raddle/api.Dot,raddle/api.Dot]
def c124 : IC := .sq (.rg [⟨(some 3), none, (.box (some 2)), [.t 1]⟩, ⟨(some 4), none, .mv, [.k (.c (.int .i64 0))]⟩] false) (.sq (.sq (.rg [⟨(some 6), none, .mv, [.t 0]⟩, ⟨(some 7), none, .len, [.t 6]⟩, ⟨(some 8), none, .mv, [.k (.c (.int .i64 0))]⟩] false) (.bl 0 (.lp (.sq (.rg [⟨(some 9), none, (.bin .lss), [.t 8, .t 7]⟩] false) (.sq (.cn (.t 9) (.skip) (.ex 0)) (.sq (.bl 1 (.sq (.rg [⟨(some 10), none, .mv, [.t 8]⟩, ⟨(some 5), none, .mv, [.t 10]⟩] false) (.sq (.rg [⟨(some 11), none, (.ld (some 2)), [.t 3]⟩, ⟨(some 12), none, .mv, [.t 0]⟩, ⟨(some 13), none, .mv, [.t 5]⟩, ⟨(some 14), none, (.ia 2), [.t 12, .t 13]⟩, ⟨(some 15), none, (.ld (some 2)), [.t 14]⟩, ⟨(some 16), none, (.eqs false [0, 0]), [.t 11, .t 15]⟩] true) (.cn (.t 16) (.sq (.rg [⟨(some 17), none, .mv, [.t 5]⟩, ⟨(some 4), none, .mv, [.t 17]⟩] false) (.rt)) (.skip))))) (.rg [⟨(some 18), none, (.bin .add), [.t 8, .k (.c (.int .i64 1))]⟩, ⟨(some 8), none, .mv, [.t 18]⟩] false))))))) (.sq (.rg [⟨(some 4), none, .mv, [.k (.c (.int .i64 (-1)))]⟩] false) (.rt)))
theorem cf124 : compF Tryz.prog 124 c124 = some ⟨c124, [.t 4], 19⟩ := by kernel_rfl

-- raddle/value.Check
def c125 : IC := .sq (.rg [⟨(some 1), none, (.box (some 3)), [.t 0]⟩, ⟨(some 2), none, .mv, [.k (.c (.int .i64 0))]⟩] false) (.sq (.rg [⟨(some 3), none, .mv, [.k (.c (.bool false))]⟩] false) (.sq (.sq (.rg [⟨(some 4), none, (.fa 0), [.t 1]⟩, ⟨(some 5), none, (.ld none), [.t 4]⟩] false) (.bl 0 (.sq (.rg [⟨(some 7), none, (.bin .eql), [.t 5, .k (.c (.int .i64 1))]⟩, ⟨(some 6), none, .mv, [.t 7]⟩] false) (.cn (.t 6) (.rg [⟨(some 8), none, (.fa 1), [.t 1]⟩, ⟨(some 9), none, (.ld none), [.t 8]⟩, ⟨(some 10), none, (.bin .eql), [.t 9, .k (.c (.int .i64 0))]⟩, ⟨(some 11), none, .mv, [.t 10]⟩, ⟨(some 12), (some (11, true)), (.fa 2), [.t 1]⟩, ⟨(some 13), (some (11, true)), (.ld none), [.t 12]⟩, ⟨(some 14), (some (11, true)), (.bin .eql), [.t 13, .k (.c (.string ⟨#[]⟩))]⟩, ⟨(some 15), none, .pick, [.t 11, .t 14, .k (.c (.bool false))]⟩, ⟨(some 3), none, .mv, [.t 15]⟩] false) (.sq (.rg [⟨(some 17), none, (.bin .eql), [.t 5, .k (.c (.int .i64 2))]⟩, ⟨(some 16), none, .mv, [.t 17]⟩] false) (.cn (.t 16) (.rg [⟨(some 18), none, (.fa 1), [.t 1]⟩, ⟨(some 19), none, (.ld none), [.t 18]⟩, ⟨(some 20), none, (.bin .eql), [.t 19, .k (.c (.int .i64 0))]⟩, ⟨(some 21), none, .mv, [.t 20]⟩, ⟨(some 22), (some (21, false)), (.fa 1), [.t 1]⟩, ⟨(some 23), (some (21, false)), (.ld none), [.t 22]⟩, ⟨(some 24), (some (21, false)), (.bin .eql), [.t 23, .k (.c (.int .i64 1))]⟩, ⟨(some 25), none, .pick, [.t 21, .k (.c (.bool true)), .t 24]⟩, ⟨(some 26), none, .mv, [.t 25]⟩, ⟨(some 27), (some (26, true)), (.fa 2), [.t 1]⟩, ⟨(some 28), (some (26, true)), (.ld none), [.t 27]⟩, ⟨(some 29), (some (26, true)), (.bin .eql), [.t 28, .k (.c (.string ⟨#[]⟩))]⟩, ⟨(some 30), none, .pick, [.t 26, .t 29, .k (.c (.bool false))]⟩, ⟨(some 3), none, .mv, [.t 30]⟩] false) (.sq (.rg [⟨(some 32), none, (.bin .eql), [.t 5, .k (.c (.int .i64 3))]⟩, ⟨(some 31), none, .mv, [.t 32]⟩] false) (.cn (.t 31) (.rg [⟨(some 33), none, (.fa 1), [.t 1]⟩, ⟨(some 34), none, (.ld none), [.t 33]⟩, ⟨(some 35), none, (.call 126 .fz), [.t 34, .k (.c (.int .i64 1152921504606846976))]⟩, ⟨(some 36), none, .mv, [.t 35]⟩, ⟨(some 37), (some (36, true)), (.fa 2), [.t 1]⟩, ⟨(some 38), (some (36, true)), (.ld none), [.t 37]⟩, ⟨(some 39), (some (36, true)), (.bin .eql), [.t 38, .k (.c (.string ⟨#[]⟩))]⟩, ⟨(some 40), none, .pick, [.t 36, .t 39, .k (.c (.bool false))]⟩, ⟨(some 3), none, .mv, [.t 40]⟩] false) (.sq (.rg [⟨(some 42), none, (.bin .eql), [.t 5, .k (.c (.int .i64 4))]⟩, ⟨(some 41), none, .mv, [.t 42]⟩] false) (.cn (.t 41) (.rg [⟨(some 43), none, (.fa 1), [.t 1]⟩, ⟨(some 44), none, (.ld none), [.t 43]⟩, ⟨(some 45), none, (.bin .eql), [.t 44, .k (.c (.int .i64 0))]⟩, ⟨(some 46), none, .mv, [.t 45]⟩, ⟨(some 47), (some (46, true)), (.fa 2), [.t 1]⟩, ⟨(some 48), (some (46, true)), (.ld none), [.t 47]⟩, ⟨(some 49), (some (46, true)), .slen, [.t 48]⟩, ⟨(some 50), (some (46, true)), (.bin .leq), [.t 49, .k (.c (.int .i64 24))]⟩, ⟨(some 51), none, .pick, [.t 46, .t 50, .k (.c (.bool false))]⟩, ⟨(some 3), none, .mv, [.t 51]⟩] false) (.skip))))))))))) (.sq (.sq (.rg [⟨(some 52), none, .mv, [.t 3]⟩, ⟨(some 53), none, (.un .not), [.t 52]⟩] false) (.cn (.t 53) (.sq (.rg [⟨(some 2), none, .mv, [.k (.c (.int .i64 1))]⟩] false) (.rt)) (.skip))) (.sq (.rg [⟨(some 2), none, .mv, [.k (.c (.int .i64 0))]⟩] false) (.rt)))))
theorem cf125 : compF Tryz.prog 125 c125 = some ⟨c125, [.t 2], 54⟩ := by kernel_rfl

-- raddle/value.within
def c126 : IC := .sq (.rg [⟨(some 4), none, .mv, [.k (.c (.bool false))]⟩] false) (.sq (.rg [⟨(some 5), none, .mv, [.t 0]⟩, ⟨(some 6), none, .mv, [.t 1]⟩, ⟨(some 7), none, (.un .neg), [.t 6]⟩, ⟨(some 8), none, (.bin .geq), [.t 5, .t 7]⟩, ⟨(some 9), none, .mv, [.t 8]⟩, ⟨(some 10), (some (9, true)), .mv, [.t 0]⟩, ⟨(some 11), (some (9, true)), .mv, [.t 1]⟩, ⟨(some 12), (some (9, true)), (.bin .leq), [.t 10, .t 11]⟩, ⟨(some 13), none, .pick, [.t 9, .t 12, .k (.c (.bool false))]⟩, ⟨(some 4), none, .mv, [.t 13]⟩] false) (.rt))
theorem cf126 : compF Tryz.prog 126 c126 = some ⟨c126, [.t 4], 14⟩ := by kernel_rfl

-- raddle/hlc.in
def c127 : IC := .sq (.rg [⟨(some 4), none, .mv, [.k (.c (.bool false))]⟩] false) (.sq (.rg [⟨(some 5), none, .mv, [.t 0]⟩, ⟨(some 6), none, (.bin .geq), [.t 5, .k (.c (.int .i64 0))]⟩, ⟨(some 7), none, .mv, [.t 6]⟩, ⟨(some 8), (some (7, true)), .mv, [.t 0]⟩, ⟨(some 9), (some (7, true)), .mv, [.t 1]⟩, ⟨(some 10), (some (7, true)), (.bin .leq), [.t 8, .t 9]⟩, ⟨(some 11), none, .pick, [.t 7, .t 10, .k (.c (.bool false))]⟩, ⟨(some 4), none, .mv, [.t 11]⟩] false) (.rt))
theorem cf127 : compF Tryz.prog 127 c127 = some ⟨c127, [.t 4], 12⟩ := by kernel_rfl

-- raddle/row.Fits
def c128 : IC := .sq (.rg [⟨(some 4), none, .mv, [.k (.c (.bool false))]⟩] false) (.sq (.rg [⟨(some 5), none, .mv, [.t 0]⟩, ⟨(some 6), none, .mv, [.t 1]⟩, ⟨(some 7), none, (.call 134 .fz), [.t 5, .t 6, .k (.fn 111 [])]⟩, ⟨(some 4), none, .mv, [.t 7]⟩] false) (.rt))
theorem cf128 : compF Tryz.prog 128 c128 = some ⟨c128, [.t 4], 8⟩ := by kernel_rfl

-- slices.ContainsFunc[[]raddle/api.Value,raddle/api.Value]
def c129 : IC := .sq (.rg [⟨(some 4), none, .mv, [.k (.c (.bool false))]⟩] false) (.sq (.rg [⟨(some 5), none, .mv, [.t 0]⟩, ⟨(some 6), none, .mv, [.t 1]⟩, ⟨(some 7), none, (.call 135 .fz), [.t 5, .t 6]⟩, ⟨(some 8), none, (.bin .geq), [.t 7, .k (.c (.int .i64 0))]⟩, ⟨(some 4), none, .mv, [.t 8]⟩] false) (.rt))
theorem cf129 : compF Tryz.prog 129 c129 = some ⟨c129, [.t 4], 9⟩ := by kernel_rfl

-- raddle/op.small$1
def c130 : IC := .sq (.rg [⟨(some 1), none, (.box (some 3)), [.t 0]⟩, ⟨(some 2), none, .mv, [.k (.c (.bool false))]⟩] false) (.sq (.rg [⟨(some 3), none, (.ld (some 3)), [.t 1]⟩, ⟨(some 4), none, (.call 110 .fz), [.t 3]⟩, ⟨(some 5), none, (.un .not), [.t 4]⟩, ⟨(some 2), none, .mv, [.t 5]⟩] false) (.rt))
theorem cf130 : compF Tryz.prog 130 c130 = some ⟨c130, [.t 2], 6⟩ := by kernel_rfl

-- slices.Reverse[[]raddle/api.Row,raddle/api.Row]
-- cmp.isNaN[int]
def c132 : IC := .sq (.rg [⟨(some 2), none, .mv, [.k (.c (.bool false))]⟩] false) (.sq (.rg [⟨(some 3), none, .mv, [.t 0]⟩, ⟨(some 4), none, .mv, [.t 0]⟩, ⟨(some 5), none, (.bin .neq), [.t 3, .t 4]⟩, ⟨(some 2), none, .mv, [.t 5]⟩] false) (.rt))
theorem cf132 : compF Tryz.prog 132 c132 = some ⟨c132, [.t 2], 6⟩ := by kernel_rfl

-- slices.rotateLeft[raddle/api.Dot]
-- slices.EqualFunc[[]raddle/api.Value,[]int,raddle/api.Value,int]
def c134 : IC := .sq (.rg [⟨(some 6), none, .mv, [.k (.c (.bool false))]⟩] false) (.sq (.sq (.rg [⟨(some 10), none, .mv, [.t 0]⟩, ⟨(some 11), none, .len, [.t 10]⟩, ⟨(some 12), none, .mv, [.t 1]⟩, ⟨(some 13), none, .len, [.t 12]⟩, ⟨(some 14), none, (.bin .neq), [.t 11, .t 13]⟩] false) (.cn (.t 14) (.sq (.rg [⟨(some 6), none, .mv, [.k (.c (.bool false))]⟩] false) (.rt)) (.skip))) (.sq (.sq (.rg [⟨(some 15), none, .mv, [.t 0]⟩, ⟨(some 16), none, .len, [.t 15]⟩, ⟨(some 17), none, .mv, [.k (.c (.int .i64 0))]⟩] false) (.bl 0 (.lp (.sq (.rg [⟨(some 18), none, (.bin .lss), [.t 17, .t 16]⟩] false) (.sq (.cn (.t 18) (.skip) (.ex 0)) (.sq (.bl 1 (.sq (.rg [⟨(some 19), none, .mv, [.t 17]⟩, ⟨(some 20), none, (.ia 3), [.t 15, .t 17]⟩, ⟨(some 21), none, (.ld (some 3)), [.t 20]⟩, ⟨(some 8), none, (.alloc [(.c (.int .i64 0)), (.c (.int .i64 0)), (.c (.string ⟨#[]⟩))]), []⟩, ⟨(some 7), none, .mv, [.t 19]⟩, ⟨none, none, (.st 3), [.t 8, .t 21]⟩] false) (.sq (.rg [⟨(some 22), none, .mv, [.t 1]⟩, ⟨(some 23), none, .mv, [.t 7]⟩, ⟨(some 24), none, (.ia 1), [.t 22, .t 23]⟩, ⟨(some 25), none, (.ld none), [.t 24]⟩, ⟨(some 9), none, .mv, [.t 25]⟩] false) (.sq (.rg [⟨(some 26), none, .mv, [.t 2]⟩, ⟨(some 27), none, (.ld (some 3)), [.t 8]⟩, ⟨(some 28), none, .mv, [.t 9]⟩, ⟨(some 29), none, (.callv .fz), [.t 26, .t 27, .t 28]⟩, ⟨(some 30), none, (.un .not), [.t 29]⟩] false) (.cn (.t 30) (.sq (.rg [⟨(some 6), none, .mv, [.k (.c (.bool false))]⟩] false) (.rt)) (.skip)))))) (.rg [⟨(some 31), none, (.bin .add), [.t 17, .k (.c (.int .i64 1))]⟩, ⟨(some 17), none, .mv, [.t 31]⟩] false))))))) (.sq (.rg [⟨(some 6), none, .mv, [.k (.c (.bool true))]⟩] false) (.rt))))
theorem cf134 : compF Tryz.prog 134 c134 = some ⟨c134, [.t 6], 32⟩ := by kernel_rfl

-- slices.IndexFunc[[]raddle/api.Value,raddle/api.Value]
def c135 : IC := .sq (.rg [⟨(some 4), none, .mv, [.k (.c (.int .i64 0))]⟩] false) (.sq (.sq (.rg [⟨(some 6), none, .mv, [.t 0]⟩, ⟨(some 7), none, .len, [.t 6]⟩, ⟨(some 8), none, .mv, [.k (.c (.int .i64 0))]⟩] false) (.bl 0 (.lp (.sq (.rg [⟨(some 9), none, (.bin .lss), [.t 8, .t 7]⟩] false) (.sq (.cn (.t 9) (.skip) (.ex 0)) (.sq (.bl 1 (.sq (.rg [⟨(some 10), none, .mv, [.t 8]⟩, ⟨(some 5), none, .mv, [.t 10]⟩] false) (.sq (.rg [⟨(some 11), none, .mv, [.t 1]⟩, ⟨(some 12), none, .mv, [.t 0]⟩, ⟨(some 13), none, .mv, [.t 5]⟩, ⟨(some 14), none, (.ia 3), [.t 12, .t 13]⟩, ⟨(some 15), none, (.ld (some 3)), [.t 14]⟩, ⟨(some 16), none, (.callv .fz), [.t 11, .t 15]⟩] false) (.cn (.t 16) (.sq (.rg [⟨(some 17), none, .mv, [.t 5]⟩, ⟨(some 4), none, .mv, [.t 17]⟩] false) (.rt)) (.skip))))) (.rg [⟨(some 18), none, (.bin .add), [.t 8, .k (.c (.int .i64 1))]⟩, ⟨(some 8), none, .mv, [.t 18]⟩] false))))))) (.sq (.rg [⟨(some 4), none, .mv, [.k (.c (.int .i64 (-1)))]⟩] false) (.rt)))
theorem cf135 : compF Tryz.prog 135 c135 = some ⟨c135, [.t 4], 19⟩ := by kernel_rfl

-- slices.Reverse[[]raddle/api.Dot,raddle/api.Dot]
end Go.Proofs.YtcmonjmoapjpkaaGreat.D
end
section
set_option linter.unusedVariables false
set_option linter.unusedSimpArgs false
set_option maxRecDepth 100000
set_option linter.constructorNameAsVariable false

/- What functions of raddlekeep, raddleref01 and dot answer. No condition. -/
namespace Go.Proofs.YtcmonjmoapjpkaaGreat.D
open Go Go.Proofs

theorem refIn_ok (n lo hi : Int) : FnB Tryz.prog 39 [vi n, vi lo, vi hi] (vb (decide (lo ≤ n ∧ n ≤ hi))) := by
  refine fnB_intro cf39 (by simp) ?_
  simp (config := {contextual := true, maxSteps := 1000000}) only [go_sem, ints, intRows, iv_c, Nat.reduceAdd, Nat.reduceBEq, Nat.reduceEqDiff, Nat.reduceLeDiff, Nat.reduceLT, reduceIte, Nat.le_refl, true_or, or_true, and_self, Int.reduceLE, Int.reduceLT, Int.reduceEq, Int.reduceNeg, Int.natCast_nonneg, Int.reduceToNat, c39]
  simp

theorem in_ok {fl : Fl} (l : List Int) (p : Int) : FnB Tryz.prog 104 [ints fl l, vi p] (vb (decide (0 ≤ p ∧ p < l.length))) := by
  refine fnB_intro cf104 (by simp) ?_
  simp (config := {contextual := true, maxSteps := 1000000}) only [go_sem, ints, intRows, iv_c, Nat.reduceAdd, Nat.reduceBEq, Nat.reduceEqDiff, Nat.reduceLeDiff, Nat.reduceLT, reduceIte, Nat.le_refl, true_or, or_true, and_self, Int.reduceLE, Int.reduceLT, Int.reduceEq, Int.reduceNeg, Int.natCast_nonneg, Int.reduceToNat, c104]
  simp

theorem take_succ_iff {α : Type} [Inhabited α] {p : α → Prop} {l : List α} {i : Nat} (h : i < l.length) : (∀ n ∈ l.take (i + 1), p n) ↔ (∀ n ∈ l.take i, p n) ∧ p (gN l i) := by
  rw [List.take_add_one, gN_at h]; simp [or_imp, forall_and]
/-- Whether a vector may be. -/
def vecE (v : List Int) : Int := if 1 ≤ v.length ∧ v.length ≤ 5 then (if ∀ n ∈ v, 0 ≤ n ∧ n ≤ 1073741824 then 0 else 1) else 2

theorem Vector_ok {fl : Fl} (v : List Int) : FnB Tryz.prog 19 [ints fl v] (vi (vecE v)) := by
  refine fnB_intro cf19 (by simp) ?_
  simp (config := {contextual := true, maxSteps := 1000000}) only [go_sem, ints, intRows, iv_c, Nat.reduceAdd, Nat.reduceBEq, Nat.reduceEqDiff, Nat.reduceLeDiff, Nat.reduceLT, reduceIte, Nat.le_refl, true_or, or_true, and_self, Int.reduceLE, Int.reduceLT, Int.reduceEq, Int.reduceNeg, Int.natCast_nonneg, Int.reduceToNat, c19]
  refine caS_i (refIn_ok _ _ _) trivial ?_
  simp (config := {contextual := true, maxSteps := 1000000}) only [go_sem, ints, intRows, iv_c, Nat.reduceAdd, Nat.reduceBEq, Nat.reduceEqDiff, Nat.reduceLeDiff, Nat.reduceLT, reduceIte, Nat.le_refl, true_or, or_true, and_self, Int.reduceLE, Int.reduceLT, Int.reduceEq, Int.reduceNeg, Int.natCast_nonneg, Int.reduceToNat]
  refine ⟨?_, ?_⟩
  · intro h; simp at h
    rw [vecE, if_neg (by omega)]
  · intro h; simp at h
    refine wpC_lp (fun env ob n => env 0 = ints fl v ∧ ∃ i : Nat, env 3 = vi i ∧ i ≤ v.length ∧ ∀ n ∈ v.take i, 0 ≤ n ∧ n ≤ 1073741824) (fun env ob n => (v.length - iv (env 3)).toNat) ?_ ?_
    · simp (config := {contextual := true, maxSteps := 1000000}) only [go_sem, ints, intRows, iv_c, Nat.reduceAdd, Nat.reduceBEq, Nat.reduceEqDiff, Nat.reduceLeDiff, Nat.reduceLT, reduceIte, Nat.le_refl, true_or, or_true, and_self, Int.reduceLE, Int.reduceLT, Int.reduceEq, Int.reduceNeg, Int.natCast_nonneg, Int.reduceToNat]
      simp
      exact ⟨0, by simp⟩
    · rintro env ob n ⟨h0, i, h3, hi, he⟩
      simp (config := {contextual := true, maxSteps := 1000000}) only [go_sem, ints, intRows, iv_c, Nat.reduceAdd, Nat.reduceBEq, Nat.reduceEqDiff, Nat.reduceLeDiff, Nat.reduceLT, reduceIte, Nat.le_refl, true_or, or_true, and_self, Int.reduceLE, Int.reduceLT, Int.reduceEq, Int.reduceNeg, Int.natCast_nonneg, Int.reduceToNat, h0, h3]
      refine ⟨fun hlt => ?_, fun hge => ?_⟩
      · simp at hlt
        refine ⟨by omega, caS_i (refIn_ok _ _ _) trivial ?_⟩
        simp (config := {contextual := true, maxSteps := 1000000}) only [go_sem, ints, intRows, iv_c, Nat.reduceAdd, Nat.reduceBEq, Nat.reduceEqDiff, Nat.reduceLeDiff, Nat.reduceLT, reduceIte, Nat.le_refl, true_or, or_true, and_self, Int.reduceLE, Int.reduceLT, Int.reduceEq, Int.reduceNeg, Int.natCast_nonneg, Int.reduceToNat, h0, h3]
        simp
        refine ⟨fun hb => ?_, fun hg hg2 => ⟨⟨i + 1, ?_, by omega, (take_succ_iff hlt).2 ⟨he, hg, hg2⟩⟩, ?_⟩⟩
        · unfold vecE; rw [if_pos (by omega), if_neg]
          intro hall; have := hall (gN v i) (by rw [gN_eq hlt]; exact List.getElem_mem _); omega
        · rw [w64 (by omega)]; simp
        · rw [w64 (by omega)]; omega
      · simp at hge
        rw [List.take_of_length_le (by omega)] at he
        rw [vecE, if_pos (by omega), if_pos he]
end Go.Proofs.YtcmonjmoapjpkaaGreat.D
end
section
set_option linter.unusedVariables false
set_option linter.unusedSimpArgs false
set_option maxRecDepth 100000
set_option linter.constructorNameAsVariable false

/- What functions of slices and dot answer. No condition. -/
namespace Go.Proofs.YtcmonjmoapjpkaaGreat.D
open Go Go.Proofs

/-- Where the first stands, if any does. -/
def idxI {α : Type} (p : α → Bool) (l : List α) : Int := if l.any p then (l.findIdx p : Nat) else -1
theorem idxI_ge {α : Type} (p : α → Bool) (l : List α) : decide (0 ≤ idxI p l) = l.any p := by
  unfold idxI; split <;> simp_all
theorem idxI_at {α : Type} [Inhabited α] {p : α → Bool} {l : List α} {i : Nat} (h : i < l.length) (h1 : ∀ n ∈ l.take i, p n = false) (h2 : p (gN l i) = true) : idxI p l = i := by
  rw [gN_eq h] at h2
  have : l.any p = true := List.any_eq_true.2 ⟨l[i], List.getElem_mem _, h2⟩
  rw [idxI, if_pos this, (List.findIdx_eq h).2 ⟨h2, fun j hj => h1 _ (List.mem_take_iff_getElem.2 ⟨j, by omega, rfl⟩)⟩]
theorem idxI_no {α : Type} {p : α → Bool} {l : List α} (h1 : ∀ n ∈ l, p n = false) : idxI p l = -1 := by
  rw [idxI, if_neg]; simp; exact h1

theorem IndexInts_ok {fl : Fl} (l : List Int) (f : Nat) (caps : List V) (p : Int → Bool) (hl : l.length ≤ maxLen) (hc : ∀ ob, caps.map (resV ob 6) = caps) (hp : ∀ x ∈ l, FnB Tryz.prog f (vi x :: caps) (vb (p x))) :
    FnB Tryz.prog 107 [ints fl l, .fn f caps] (vi (idxI p l)) := by
  unfold maxLen at hl
  refine fnB_intro cf107 (by simp) ?_
  simp (config := {contextual := true, maxSteps := 1000000}) only [go_sem, ints, intRows, iv_c, Nat.reduceAdd, Nat.reduceBEq, Nat.reduceEqDiff, Nat.reduceLeDiff, Nat.reduceLT, reduceIte, Nat.le_refl, true_or, or_true, and_self, Int.reduceLE, Int.reduceLT, Int.reduceEq, Int.reduceNeg, Int.natCast_nonneg, Int.reduceToNat, c107]
  refine wpC_lp (fun env ob n => env 0 = ints fl l ∧ env 1 = .fn f caps ∧ env 7 = vi l.length ∧ ∃ i : Nat, env 8 = vi i ∧ i ≤ l.length ∧ ∀ n ∈ l.take i, p n = false) (fun env ob n => (l.length - iv (env 8)).toNat) ?_ ?_
  · simp (config := {contextual := true, maxSteps := 1000000}) only [go_sem, ints, intRows, iv_c, Nat.reduceAdd, Nat.reduceBEq, Nat.reduceEqDiff, Nat.reduceLeDiff, Nat.reduceLT, reduceIte, Nat.le_refl, true_or, or_true, and_self, Int.reduceLE, Int.reduceLT, Int.reduceEq, Int.reduceNeg, Int.natCast_nonneg, Int.reduceToNat]
    simp
    exact ⟨0, by simp⟩
  · rintro env ob n ⟨h0, h1, h7, i, h8, hi, he⟩
    simp (config := {contextual := true, maxSteps := 1000000}) only [go_sem, ints, intRows, iv_c, Nat.reduceAdd, Nat.reduceBEq, Nat.reduceEqDiff, Nat.reduceLeDiff, Nat.reduceLT, reduceIte, Nat.le_refl, true_or, or_true, and_self, Int.reduceLE, Int.reduceLT, Int.reduceEq, Int.reduceNeg, Int.natCast_nonneg, Int.reduceToNat, h0, h1, h7, h8, List.map_append, List.map_cons, hc]
    refine ⟨fun hlt => ?_, fun hge => ?_⟩
    · simp at hlt
      have hpi := hp (gN l i) (by rw [gN_eq hlt]; exact List.getElem_mem _)
      try simp only [ints] at hpi
      refine ⟨by omega, caS_i hpi trivial ?_⟩
      simp (config := {contextual := true, maxSteps := 1000000}) only [go_sem, ints, intRows, iv_c, Nat.reduceAdd, Nat.reduceBEq, Nat.reduceEqDiff, Nat.reduceLeDiff, Nat.reduceLT, reduceIte, Nat.le_refl, true_or, or_true, and_self, Int.reduceLE, Int.reduceLT, Int.reduceEq, Int.reduceNeg, Int.natCast_nonneg, Int.reduceToNat, h0, h1, h7, h8]
      refine ⟨fun hb => ?_, fun hg => ⟨⟨i + 1, ?_, by omega, (take_succ_iff hlt).2 ⟨he, hg⟩⟩, ?_⟩⟩
      · rw [idxI_at hlt he hb]
      · rw [w64 (by omega)]; simp
      · rw [w64 (by omega)]; omega
    · simp at hge
      rw [List.take_of_length_le (by omega)] at he
      rw [idxI_no he]
theorem ContainsInts_ok {fl : Fl} (l : List Int) (f : Nat) (caps : List V) (p : Int → Bool) (hl : l.length ≤ maxLen) (hc : ∀ ob, caps.map (resV ob 6) = caps) (hc' : ∀ ob, caps.map (resV ob 5) = caps) (hp : ∀ x ∈ l, FnB Tryz.prog f (vi x :: caps) (vb (p x))) :
    FnB Tryz.prog 82 [ints fl l, .fn f caps] (vb (l.any p)) := by
  refine fnB_intro cf82 (by simp) ?_
  simp (config := {contextual := true, maxSteps := 1000000}) only [go_sem, ints, intRows, iv_c, Nat.reduceAdd, Nat.reduceBEq, Nat.reduceEqDiff, Nat.reduceLeDiff, Nat.reduceLT, reduceIte, Nat.le_refl, true_or, or_true, and_self, Int.reduceLE, Int.reduceLT, Int.reduceEq, Int.reduceNeg, Int.natCast_nonneg, Int.reduceToNat, c82, hc']
  refine caS_i (IndexInts_ok l f caps p hl hc hp) trivial ?_
  simp (config := {contextual := true, maxSteps := 1000000}) only [go_sem, ints, intRows, iv_c, Nat.reduceAdd, Nat.reduceBEq, Nat.reduceEqDiff, Nat.reduceLeDiff, Nat.reduceLT, reduceIte, Nat.le_refl, true_or, or_true, and_self, Int.reduceLE, Int.reduceLT, Int.reduceEq, Int.reduceNeg, Int.natCast_nonneg, Int.reduceToNat, idxI_ge]
theorem okn_ok (n : Int) : FnB Tryz.prog 102 [vi n] (vb (decide (n < 0 ∨ 1073741824 < n))) := by
  refine fnB_intro cf102 (by simp) ?_
  simp (config := {contextual := true, maxSteps := 1000000}) only [go_sem, ints, intRows, iv_c, Nat.reduceAdd, Nat.reduceBEq, Nat.reduceEqDiff, Nat.reduceLeDiff, Nat.reduceLT, reduceIte, Nat.le_refl, true_or, or_true, and_self, Int.reduceLE, Int.reduceLT, Int.reduceEq, Int.reduceNeg, Int.natCast_nonneg, Int.reduceToNat, c102]
  simp

theorem Check_ok {fl : Fl} (v : List Int) : FnB Tryz.prog 55 [ints fl v] (vi (vecE v)) := by
  refine fnB_intro cf55 (by simp) ?_
  simp (config := {contextual := true, maxSteps := 1000000}) only [go_sem, ints, intRows, iv_c, Nat.reduceAdd, Nat.reduceBEq, Nat.reduceEqDiff, Nat.reduceLeDiff, Nat.reduceLT, reduceIte, Nat.le_refl, true_or, or_true, and_self, Int.reduceLE, Int.reduceLT, Int.reduceEq, Int.reduceNeg, Int.natCast_nonneg, Int.reduceToNat, c55]
  refine ⟨fun h => ?_, fun h => ?_⟩ <;> simp at h
  · rw [vecE, if_neg (by omega)]
  · have h2 := h.2
    refine caS_i (ContainsInts_ok v _ [] _ (by unfold maxLen; omega) (fun _ => rfl) (fun _ => rfl) (fun n _ => okn_ok n)) trivial ?_
    simp (config := {contextual := true, maxSteps := 1000000}) only [go_sem, ints, intRows, iv_c, Nat.reduceAdd, Nat.reduceBEq, Nat.reduceEqDiff, Nat.reduceLeDiff, Nat.reduceLT, reduceIte, Nat.le_refl, true_or, or_true, and_self, Int.reduceLE, Int.reduceLT, Int.reduceEq, Int.reduceNeg, Int.natCast_nonneg, Int.reduceToNat]
    refine ⟨fun h3 => ?_, fun h3 => ?_⟩
    · simp at h3
      obtain ⟨n, hn, h3⟩ := h3
      rw [vecE, if_pos (by omega), if_neg]
      intro hall; have := hall n hn; omega
    · simp at h3
      rw [vecE, if_pos (by omega), if_pos]
      intro n hn; exact h3 n hn
end Go.Proofs.YtcmonjmoapjpkaaGreat.D
end
section
set_option linter.unusedVariables false
set_option linter.unusedSimpArgs false
set_option maxRecDepth 100000
set_option linter.constructorNameAsVariable false

/- What functions of dot answer: dots. No condition. -/
namespace Go.Proofs.YtcmonjmoapjpkaaGreat.D
open Go Go.Proofs

structure Dt where
  p : Int
  n : Int
instance : Inhabited Dt := ⟨⟨0, 0⟩⟩
def dotV (d : Dt) : List V := [vi d.p, vi d.n]
def hasB (v : List Int) (d : Dt) : Bool := decide (0 ≤ d.p ∧ d.p < v.length ∧ 1 ≤ d.n ∧ d.n ≤ gN v d.p.toNat)
def inI (n : Int) : Prop := -9223372036854775808 ≤ n ∧ n ≤ 9223372036854775807

theorem Has_ok {fl : Fl} (v : List Int) (d : Dt) : FnB Tryz.prog 61 [ints fl v, .ag (dotV d)] (vb (hasB v d)) := by
  refine fnB_intro cf61 (by simp) ?_
  simp (config := {contextual := true, maxSteps := 1000000}) only [go_sem, ints, intRows, iv_c, Nat.reduceAdd, Nat.reduceBEq, Nat.reduceEqDiff, Nat.reduceLeDiff, Nat.reduceLT, reduceIte, Nat.le_refl, true_or, or_true, and_self, Int.reduceLE, Int.reduceLT, Int.reduceEq, Int.reduceNeg, Int.natCast_nonneg, Int.reduceToNat, c61, dotV]
  refine caD_i (in_ok v d.p) trivial ?_
  simp (config := {contextual := true, maxSteps := 1000000}) only [go_sem, ints, intRows, iv_c, Nat.reduceAdd, Nat.reduceBEq, Nat.reduceEqDiff, Nat.reduceLeDiff, Nat.reduceLT, reduceIte, Nat.le_refl, true_or, or_true, and_self, Int.reduceLE, Int.reduceLT, Int.reduceEq, Int.reduceNeg, Int.natCast_nonneg, Int.reduceToNat, dotV]
  simp only [hasB]
  generalize gN v d.p.toNat = z
  by_cases h1 : 0 ≤ d.p ∧ d.p < v.length <;> by_cases h2 : 1 ≤ d.n <;> simp [h1, h2]
  · intro h3 h4; exact absurd ⟨h3, h4⟩ h1

end Go.Proofs.YtcmonjmoapjpkaaGreat.D
end
section
set_option linter.unusedVariables false
set_option linter.unusedSimpArgs false
set_option maxRecDepth 100000
set_option linter.constructorNameAsVariable false

/- What functions of dot answer: vectors. No condition. -/
namespace Go.Proofs.YtcmonjmoapjpkaaGreat.D
open Go Go.Proofs

/-- Of two, place by place. -/
def eachV (p : Int → Int → Int) (a b : List Int) : List Int × Int :=
  if vecE a ≠ 0 then ([], vecE a) else if vecE b ≠ 0 then ([], vecE b) else if a.length ≠ b.length then ([], 2) else (List.zipWith p a b, 0)

end Go.Proofs.YtcmonjmoapjpkaaGreat.D
end
section
set_option linter.unusedVariables false
set_option linter.unusedSimpArgs false
set_option maxRecDepth 100000
set_option linter.constructorNameAsVariable false

/- What functions of dot answer: the least of several. No condition. -/
namespace Go.Proofs.YtcmonjmoapjpkaaGreat.D
open Go Go.Proofs

def firstE : List (List Int) → Int
  | [] => 0
  | v :: l => if vecE v ≠ 0 then vecE v else firstE l
def leastF : List Int → List (List Int) → List Int × Int
  | out, [] => (out, 0)
  | out, v :: l => if (eachV min out v).2 ≠ 0 then ([], (eachV min out v).2) else leastF (eachV min out v).1 l
/-- The least of several. -/
def leastV (l : List (List Int)) : List Int × Int :=
  if l = [] then ([], 2) else if firstE l ≠ 0 then ([], firstE l) else leastF (gN l 0) l

theorem drop_gN {α : Type} [Inhabited α] {l : List α} {i : Nat} (h : i < l.length) : l.drop i = gN l i :: l.drop (i + 1) := by
  rw [gN_eq h]; exact List.drop_eq_getElem_cons h

end Go.Proofs.YtcmonjmoapjpkaaGreat.D
end
section
set_option linter.unusedVariables false
set_option linter.unusedSimpArgs false
set_option maxRecDepth 100000
set_option linter.constructorNameAsVariable false

/- What functions of raddlelaw05 answer. No condition. -/
namespace Go.Proofs.YtcmonjmoapjpkaaGreat.D
open Go Go.Proofs

end Go.Proofs.YtcmonjmoapjpkaaGreat.D
end
section
set_option linter.unusedVariables false
set_option linter.unusedSimpArgs false
set_option maxRecDepth 100000
set_option linter.constructorNameAsVariable false

/- The least of several, plainly. No condition. -/
namespace Go.Proofs.YtcmonjmoapjpkaaGreat.D
open Go Go.Proofs

end Go.Proofs.YtcmonjmoapjpkaaGreat.D
end
section
set_option linter.unusedVariables false
set_option linter.unusedSimpArgs false
set_option maxRecDepth 100000
set_option linter.constructorNameAsVariable false

/- Merging and the least, plainly. No condition. -/
namespace Go.Proofs.YtcmonjmoapjpkaaGreat.D
open Go Go.Proofs

end Go.Proofs.YtcmonjmoapjpkaaGreat.D
end
section
set_option linter.unusedVariables false
set_option linter.unusedSimpArgs false
set_option maxRecDepth 100000
set_option linter.constructorNameAsVariable false

/- DotLattice. No condition. -/
namespace Go.Proofs.YtcmonjmoapjpkaaGreat.D
open Go Go.Proofs

def gDt (d : Dt) : Prop := gInt .i64 d.p ∧ gInt .i64 d.n
end Go.Proofs.YtcmonjmoapjpkaaGreat.D
end
section
set_option linter.unusedVariables false
set_option linter.unusedSimpArgs false
set_option maxRecDepth 100000
set_option linter.constructorNameAsVariable false

/- What functions of raddlekeep and mat answer. No condition. -/
namespace Go.Proofs.YtcmonjmoapjpkaaGreat.D
open Go Go.Proofs

attribute [go_sem] List.set_cons_zero List.set_cons_succ
/-- A pointer, as a call sees it. -/
def resP (ob : OB) (n o : Nat) : Option (List V) → V
  | some r => .bp ((r.drop o).map (resV ob n))
  | none => .u
@[go_sem] theorem resP_s (ob : OB) (n o : Nat) (r : List V) : resP ob n o (some r) = .bp ((r.drop o).map (resV ob n)) := (rfl)
@[go_sem] theorem res_pt (ob : OB) (n id i o : Nat) : resV ob (n + 1) (.pt id i o) = resP ob n o ((ob id).bind fun x => x.l[i]?) := by
  simp only [resV]; cases (ob id).bind fun x => x.l[i]? <;> rfl
theorem Own.upd {n m k : Nat} {ob : OB} {v : V} {rows : List (List V)} {x : Option Ob} (h : Own n ob v k rows) (hm : n ≤ m) : Own n (updO ob m x) v k rows := by
  rcases h with h | ⟨h1, id, cap, hid, h2, h3⟩
  · exact .inl h
  · exact .inr ⟨h1, id, cap, hid, h2, by rw [updO, if_neg (by omega), h3]⟩
theorem Own.mono {n n' : Nat} {ob : OB} {v : V} {k : Nat} {rows : List (List V)} (h : Own n ob v k rows) (hn : n ≤ n') : Own n' ob v k rows := by
  rcases h with h | ⟨h1, id, cap, h2, h3, h4⟩
  · exact .inl h
  · exact .inr ⟨h1, id, cap, by omega, h3, h4⟩

/-- Whether a matrix may be. -/
def matE (m : List (List Int)) : Int := if 1 ≤ m.length ∧ m.length ≤ 5 ∧ ∀ v ∈ m, v.length = m.length then (if ∀ v ∈ m, vecE v = 0 then 0 else 1) else 2

/-- A matrix of noughts. -/
def newM (n : Nat) : List (List Int) := List.replicate n (List.replicate n 0)
def newV (n : Int) : List (List Int) × Int := if 1 ≤ n ∧ n ≤ 5 then (newM n.toNat, 0) else ([], 1)
def vecB (v : List Int) (n : Int) : Bool := decide ((v.length : Int) = n) && decide (vecE v = 0)
/-- What a matrix becomes. -/
def learnOk (m : List (List Int)) (have_ : List Int) (p : Int) (safe : List Int) : Bool := vecB have_ m.length && vecB safe m.length && (decide (0 ≤ p) && decide (p < m.length))
def learnV (m : List (List Int)) (have_ : List Int) (p : Int) (safe : List Int) : List (List Int) × Bool × Int :=
  if matE m ≠ 0 then ([], false, matE m) else if learnOk m have_ p safe = false then ([], false, 1)
  else if gN have_ p.toNat < gN safe p.toNat then (m, false, 0) else (m.set p.toNat (List.zipWith max (gN m p.toNat) safe), true, 0)
def frontV (m : List (List Int)) : List Int × Int := if matE m ≠ 0 then ([], matE m) else leastV m
end Go.Proofs.YtcmonjmoapjpkaaGreat.D
end
section
set_option linter.unusedVariables false
set_option linter.unusedSimpArgs false
set_option maxRecDepth 100000
set_option linter.constructorNameAsVariable false

/- MatLater. No condition. -/
namespace Go.Proofs.YtcmonjmoapjpkaaGreat.D
open Go Go.Proofs

theorem w1 : newV 2 = ([[0, 0], [0, 0]], 0) := by decide
theorem w2 : learnV [[0, 0], [0, 0]] [3, 2] 1 [1, 2] = ([[0, 0], [1, 2]], true, 0) := by decide
theorem w3 : frontV [[0, 0], [1, 2]] = ([0, 0], 0) := by decide
@[go_sem] theorem ia_1 (ob : OB) (f : Fl) (r : List V) (x : V) (l : List (List V)) : iaV ob 1 (.im f (r :: [x] :: l)) 1 = some (.bp [x]) := by simp [iaV]; omega
theorem u64 {n : Int} (h : 0 ≤ n ∧ n < 18446744073709551616) : IntKind.u64.wrap n = n := by
  unfold IntKind.wrap IntKind.signed IntKind.bits; simp; omega
theorem gN_set {α : Type} [Inhabited α] {l : List α} {i : Nat} (h : i < l.length) (x : α) : gN (l.set i x) i = x := by rw [gN_eq (by simpa using h)]; simp
end Go.Proofs.YtcmonjmoapjpkaaGreat.D
end
section
set_option linter.unusedVariables false
set_option linter.unusedSimpArgs false
set_option maxRecDepth 100000
set_option linter.constructorNameAsVariable false

/- MatAll. No condition. -/
namespace Go.Proofs.YtcmonjmoapjpkaaGreat.D
open Go Go.Proofs

theorem gN_mem {α : Type} [Inhabited α] {l : List α} {i : Nat} (h : i < l.length) : gN l i ∈ l := by rw [gN_eq h]; exact List.getElem_mem _
end Go.Proofs.YtcmonjmoapjpkaaGreat.D
end
section
set_option linter.unusedVariables false
set_option linter.unusedSimpArgs false
set_option maxRecDepth 100000
set_option linter.constructorNameAsVariable false

/- What the reference's functions answer: twins, matrices, vectors. No condition. -/
namespace Go.Proofs.YtcmonjmoapjpkaaGreat.D
open Go Go.Proofs

theorem take_gN {α : Type} [Inhabited α] {l : List α} {i : Nat} (h : i < l.length) : l.take (i + 1) = l.take i ++ [gN l i] := by
  rw [List.take_add_one, gN_at h]; simp
theorem RHas_ok {fl : Fl} (v : List Int) (d : Dt) (hv : v.length ≤ maxLen) : FnB Tryz.prog 78 [ints fl v, .ag (dotV d)] (vb (hasB v d)) := by
  unfold maxLen at hv
  refine fnB_intro cf78 (by simp) ?_
  simp (config := {contextual := true, maxSteps := 1000000}) only [go_sem, ints, intRows, iv_c, Nat.reduceAdd, Nat.reduceBEq, Nat.reduceEqDiff, Nat.reduceLeDiff, Nat.reduceLT, reduceIte, Nat.le_refl, true_or, or_true, and_self, Int.reduceLE, Int.reduceLT, Int.reduceEq, Int.reduceNeg, Int.natCast_nonneg, Int.reduceToNat, c78, dotV]
  first | refine caS_i (refIn_ok _ _ _) trivial ?_ | refine caD_i (refIn_ok _ _ _) trivial ?_ | refine gC_i (fun _ => refIn_ok _ _ _) trivial ?_ | refine gCD_i (fun _ => refIn_ok _ _ _) trivial ?_ | refine caE_i (refIn_ok _ _ _) trivial ?_
  simp (config := {contextual := true, maxSteps := 1000000}) only [go_sem, ints, intRows, iv_c, Nat.reduceAdd, Nat.reduceBEq, Nat.reduceEqDiff, Nat.reduceLeDiff, Nat.reduceLT, reduceIte, Nat.le_refl, true_or, or_true, and_self, Int.reduceLE, Int.reduceLT, Int.reduceEq, Int.reduceNeg, Int.natCast_nonneg, Int.reduceToNat, dotV]
  simp only [hasB]
  by_cases h0 : v.length = 0
  · rw [h0]
    have e : IntKind.i64.wrap (((0 : Nat) : Int) - 1) = -1 := by decide
    rw [e]
    have e1 : decide (0 ≤ d.p ∧ d.p ≤ -1) = false := by rw [decide_eq_false_iff_not]; omega
    have e2 : decide (0 ≤ d.p ∧ d.p < ((0 : Nat) : Int) ∧ 1 ≤ d.n ∧ d.n ≤ gN v d.p.toNat) = false := by rw [decide_eq_false_iff_not]; omega
    rw [e1, e2]; simp
  rw [w64 (by omega)]
  generalize gN v d.p.toNat = z
  simp only [← Bool.decide_and, decide_eq_true_iff, V.c.injEq, Value.bool.injEq, decide_eq_decide]
  omega

end Go.Proofs.YtcmonjmoapjpkaaGreat.D
end
section
set_option linter.unusedVariables false
set_option linter.unusedSimpArgs false
set_option maxRecDepth 100000
set_option linter.constructorNameAsVariable false

/- MatRises. No condition. -/
namespace Go.Proofs.YtcmonjmoapjpkaaGreat.D
open Go Go.Proofs

end Go.Proofs.YtcmonjmoapjpkaaGreat.D
end
section
set_option linter.unusedVariables false
set_option linter.unusedSimpArgs false
set_option maxRecDepth 100000
set_option linter.constructorNameAsVariable false

/- MatExact. No condition. -/
namespace Go.Proofs.YtcmonjmoapjpkaaGreat.D
open Go Go.Proofs

end Go.Proofs.YtcmonjmoapjpkaaGreat.D
end
section
set_option linter.unusedVariables false
set_option linter.unusedSimpArgs false
set_option maxRecDepth 100000
set_option linter.constructorNameAsVariable false

/- Comparing dots; spoiling; DotExact. No condition. -/
namespace Go.Proofs.YtcmonjmoapjpkaaGreat.D
open Go Go.Proofs

def cmpI (x y : Int) : Int := if x < y then -1 else if y < x then 1 else 0
theorem isNaN_ok (x : Int) : FnB Tryz.prog 132 [vi x] (vb false) := by
  refine fnB_intro cf132 (by simp) ?_
  simp (config := {contextual := true, maxSteps := 1000000}) only [go_sem, ints, intRows, iv_c, Nat.reduceAdd, Nat.reduceBEq, Nat.reduceEqDiff, Nat.reduceLeDiff, Nat.reduceLT, reduceIte, Nat.le_refl, true_or, or_true, and_self, Int.reduceLE, Int.reduceLT, Int.reduceEq, Int.reduceNeg, Int.natCast_nonneg, Int.reduceToNat, c132]
theorem cmpI_ok (x y : Int) : FnB Tryz.prog 119 [vi x, vi y] (vi (cmpI x y)) := by
  refine fnB_intro cf119 (by simp) ?_
  simp (config := {contextual := true, maxSteps := 1000000}) only [go_sem, ints, intRows, iv_c, Nat.reduceAdd, Nat.reduceBEq, Nat.reduceEqDiff, Nat.reduceLeDiff, Nat.reduceLT, reduceIte, Nat.le_refl, true_or, or_true, and_self, Int.reduceLE, Int.reduceLT, Int.reduceEq, Int.reduceNeg, Int.natCast_nonneg, Int.reduceToNat, c119]
  first | refine caS_i (isNaN_ok x) trivial ?_ | refine caD_i (isNaN_ok x) trivial ?_ | refine gC_i (fun _ => isNaN_ok x) trivial ?_ | refine gCD_i (fun _ => isNaN_ok x) trivial ?_ | refine caE_i (isNaN_ok x) trivial ?_
  simp (config := {contextual := true, maxSteps := 1000000}) only [go_sem, ints, intRows, iv_c, Nat.reduceAdd, Nat.reduceBEq, Nat.reduceEqDiff, Nat.reduceLeDiff, Nat.reduceLT, reduceIte, Nat.le_refl, true_or, or_true, and_self, Int.reduceLE, Int.reduceLT, Int.reduceEq, Int.reduceNeg, Int.natCast_nonneg, Int.reduceToNat]
  first | refine caS_i (isNaN_ok y) trivial ?_ | refine caD_i (isNaN_ok y) trivial ?_ | refine gC_i (fun _ => isNaN_ok y) trivial ?_ | refine gCD_i (fun _ => isNaN_ok y) trivial ?_ | refine caE_i (isNaN_ok y) trivial ?_
  simp (config := {contextual := true, maxSteps := 1000000}) only [go_sem, ints, intRows, iv_c, Nat.reduceAdd, Nat.reduceBEq, Nat.reduceEqDiff, Nat.reduceLeDiff, Nat.reduceLT, reduceIte, Nat.le_refl, true_or, or_true, and_self, Int.reduceLE, Int.reduceLT, Int.reduceEq, Int.reduceNeg, Int.natCast_nonneg, Int.reduceToNat]
  refine ⟨fun h => ?_, fun h => ⟨fun h2 => ?_, fun h2 => ?_⟩⟩ <;> simp at *
  · rw [cmpI, if_pos h]
  · rw [cmpI, if_neg (by omega), if_pos h2]
  · rw [cmpI, if_neg (by omega), if_neg (by omega)]
def orV : List Int → Int
  | [] => 0
  | x :: l => if x ≠ 0 then x else orV l
theorem cmpOr_ok {fl : Fl} (l : List Int) (hl : l.length ≤ maxLen) : FnB Tryz.prog 118 [ints fl l] (vi (orV l)) := by
  unfold maxLen at hl
  refine fnB_intro cf118 (by simp) ?_
  simp (config := {contextual := true, maxSteps := 1000000}) only [go_sem, ints, intRows, iv_c, Nat.reduceAdd, Nat.reduceBEq, Nat.reduceEqDiff, Nat.reduceLeDiff, Nat.reduceLT, reduceIte, Nat.le_refl, true_or, or_true, and_self, Int.reduceLE, Int.reduceLT, Int.reduceEq, Int.reduceNeg, Int.natCast_nonneg, Int.reduceToNat, c118]
  refine wpC_lp (fun env ob n' => env 3 = vi 0 ∧ env 6 = ints fl l ∧ env 7 = vi l.length ∧ ∃ i : Nat, env 8 = vi i ∧ i ≤ l.length ∧ orV l = orV (l.drop i)) (fun env ob _ => (l.length - iv (env 8)).toNat) ?_ ?_
  · simp (config := {contextual := true, maxSteps := 1000000}) only [go_sem, ints, intRows, iv_c, Nat.reduceAdd, Nat.reduceBEq, Nat.reduceEqDiff, Nat.reduceLeDiff, Nat.reduceLT, reduceIte, Nat.le_refl, true_or, or_true, and_self, Int.reduceLE, Int.reduceLT, Int.reduceEq, Int.reduceNeg, Int.natCast_nonneg, Int.reduceToNat]
    exact ⟨0, rfl, by omega, by simp⟩
  rintro env ob n' ⟨h3, h6, h7, i, h8, hi, he⟩
  simp (config := {contextual := true, maxSteps := 1000000}) only [go_sem, ints, intRows, iv_c, Nat.reduceAdd, Nat.reduceBEq, Nat.reduceEqDiff, Nat.reduceLeDiff, Nat.reduceLT, reduceIte, Nat.le_refl, true_or, or_true, and_self, Int.reduceLE, Int.reduceLT, Int.reduceEq, Int.reduceNeg, Int.natCast_nonneg, Int.reduceToNat, h3, h6, h7, h8]
  refine ⟨fun hlt => ?_, fun hge => ?_⟩
  · simp at hlt
    rw [drop_gN hlt, orV] at he
    refine ⟨by omega, fun hb => ?_, fun hg => ⟨⟨i + 1, ?_, by omega, ?_⟩, ?_⟩⟩
    · simp at hb; rw [if_pos hb] at he; rw [he]
    · rw [w64 (by omega)]; simp
    · simp at hg; rw [if_neg (by simpa using hg)] at he; exact he
    · rw [w64 (by omega)]; omega
  · simp at hge
    rw [List.drop_eq_nil_of_le (by omega), orV] at he
    rw [he]
def cmpD (a b : Dt) : Int := orV [cmpI a.p b.p, cmpI a.n b.n]
theorem cmpD_ok (a b : Dt) : FnB Tryz.prog 96 [.ag (dotV a), .ag (dotV b)] (vi (cmpD a b)) := by
  refine fnB_intro cf96 (by simp) ?_
  simp (config := {contextual := true, maxSteps := 1000000}) only [go_sem, ints, intRows, iv_c, Nat.reduceAdd, Nat.reduceBEq, Nat.reduceEqDiff, Nat.reduceLeDiff, Nat.reduceLT, reduceIte, Nat.le_refl, true_or, or_true, and_self, Int.reduceLE, Int.reduceLT, Int.reduceEq, Int.reduceNeg, Int.natCast_nonneg, Int.reduceToNat, c96, dotV]
  first | refine caS_i (cmpI_ok a.p b.p) trivial ?_ | refine caD_i (cmpI_ok a.p b.p) trivial ?_ | refine gC_i (fun _ => cmpI_ok a.p b.p) trivial ?_ | refine gCD_i (fun _ => cmpI_ok a.p b.p) trivial ?_ | refine caE_i (cmpI_ok a.p b.p) trivial ?_
  simp (config := {contextual := true, maxSteps := 1000000}) only [go_sem, ints, intRows, iv_c, Nat.reduceAdd, Nat.reduceBEq, Nat.reduceEqDiff, Nat.reduceLeDiff, Nat.reduceLT, reduceIte, Nat.le_refl, true_or, or_true, and_self, Int.reduceLE, Int.reduceLT, Int.reduceEq, Int.reduceNeg, Int.natCast_nonneg, Int.reduceToNat]
  first | refine caS_i (cmpI_ok a.n b.n) trivial ?_ | refine caD_i (cmpI_ok a.n b.n) trivial ?_ | refine gC_i (fun _ => cmpI_ok a.n b.n) trivial ?_ | refine gCD_i (fun _ => cmpI_ok a.n b.n) trivial ?_ | refine caE_i (cmpI_ok a.n b.n) trivial ?_
  simp (config := {contextual := true, maxSteps := 1000000}) only [go_sem, ints, intRows, iv_c, Nat.reduceAdd, Nat.reduceBEq, Nat.reduceEqDiff, Nat.reduceLeDiff, Nat.reduceLT, reduceIte, Nat.le_refl, true_or, or_true, and_self, Int.reduceLE, Int.reduceLT, Int.reduceEq, Int.reduceNeg, Int.natCast_nonneg, Int.reduceToNat]
  first | refine caS_i (cmpOr_ok [cmpI a.p b.p, cmpI a.n b.n] (by simp [maxLen])) trivial ?_ | refine caD_i (cmpOr_ok [cmpI a.p b.p, cmpI a.n b.n] (by simp [maxLen])) trivial ?_ | refine gC_i (fun _ => cmpOr_ok [cmpI a.p b.p, cmpI a.n b.n] (by simp [maxLen])) trivial ?_ | refine gCD_i (fun _ => cmpOr_ok [cmpI a.p b.p, cmpI a.n b.n] (by simp [maxLen])) trivial ?_ | refine caE_i (cmpOr_ok [cmpI a.p b.p, cmpI a.n b.n] (by simp [maxLen])) trivial ?_
  simp (config := {contextual := true, maxSteps := 1000000}) only [go_sem, ints, intRows, iv_c, Nat.reduceAdd, Nat.reduceBEq, Nat.reduceEqDiff, Nat.reduceLeDiff, Nat.reduceLT, reduceIte, Nat.le_refl, true_or, or_true, and_self, Int.reduceLE, Int.reduceLT, Int.reduceEq, Int.reduceNeg, Int.natCast_nonneg, Int.reduceToNat, cmpD]
def lessD (a b : Dt) : Bool := decide (a.p < b.p ∨ a.p = b.p ∧ a.n < b.n)
theorem cmpD_less (a b : Dt) : decide (cmpD a b < 0) = lessD a b := by
  unfold cmpD lessD orV orV orV cmpI
  rw [decide_eq_decide]
  repeat' split
  all_goals first | omega | simp_all | skip
theorem Less_ok (a b : Dt) : FnB Tryz.prog 109 [.ag (dotV a), .ag (dotV b)] (vb (lessD a b)) := by
  refine fnB_intro cf109 (by simp) ?_
  simp (config := {contextual := true, maxSteps := 1000000}) only [go_sem, ints, intRows, iv_c, Nat.reduceAdd, Nat.reduceBEq, Nat.reduceEqDiff, Nat.reduceLeDiff, Nat.reduceLT, reduceIte, Nat.le_refl, true_or, or_true, and_self, Int.reduceLE, Int.reduceLT, Int.reduceEq, Int.reduceNeg, Int.natCast_nonneg, Int.reduceToNat, c109, dotV]
  first | refine caS_i (cmpD_ok a b) trivial ?_ | refine caD_i (cmpD_ok a b) trivial ?_ | refine gC_i (fun _ => cmpD_ok a b) trivial ?_ | refine gCD_i (fun _ => cmpD_ok a b) trivial ?_ | refine caE_i (cmpD_ok a b) trivial ?_
  simp (config := {contextual := true, maxSteps := 1000000}) only [go_sem, ints, intRows, iv_c, Nat.reduceAdd, Nat.reduceBEq, Nat.reduceEqDiff, Nat.reduceLeDiff, Nat.reduceLT, reduceIte, Nat.le_refl, true_or, or_true, and_self, Int.reduceLE, Int.reduceLT, Int.reduceEq, Int.reduceNeg, Int.natCast_nonneg, Int.reduceToNat, cmpD_less]
theorem RLess_ok (a b : Dt) : FnB Tryz.prog 66 [.ag (dotV a), .ag (dotV b)] (vb (lessD a b)) := by
  refine fnB_intro cf66 (by simp) ?_
  simp (config := {contextual := true, maxSteps := 1000000}) only [go_sem, ints, intRows, iv_c, Nat.reduceAdd, Nat.reduceBEq, Nat.reduceEqDiff, Nat.reduceLeDiff, Nat.reduceLT, reduceIte, Nat.le_refl, true_or, or_true, and_self, Int.reduceLE, Int.reduceLT, Int.reduceEq, Int.reduceNeg, Int.natCast_nonneg, Int.reduceToNat, c66, dotV]
  simp only [lessD, V.c.injEq, Value.bool.injEq]
  rw [Bool.eq_iff_iff]; simp

end Go.Proofs.YtcmonjmoapjpkaaGreat.D
end
