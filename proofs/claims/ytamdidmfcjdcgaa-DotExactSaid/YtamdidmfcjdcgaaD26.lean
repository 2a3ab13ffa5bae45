/- Walking over plain values: rows that stand for a list's elements. No condition. -/
import Derived.Test.YtamdidmfcjdcgaaD25
set_option linter.unusedVariables false
set_option linter.unusedSimpArgs false
set_option linter.constructorNameAsVariable false
namespace Go.Proofs.Ytamdidmfcjdcgaa.D
open Go Go.RowKit

abbrev vi (n : Int) : V := .c (.int .i64 n)
abbrev vb (b : Bool) : V := .c (.bool b)

/-- What stands at a place. -/
def gN {α : Type} [Inhabited α] (l : List α) (n : Nat) : α := l.getD n default
theorem gN_at {α : Type} [Inhabited α] {l : List α} {n : Nat} (h : n < l.length) : l[n]? = some (gN l n) := by simp [gN, h]
theorem gN_map {α β : Type} [Inhabited α] [Inhabited β] (g : α → β) (l : List α) (n : Nat) (h : n < l.length) : gN (l.map g) n = g (gN l n) := by simp [gN, h]
theorem gN_eq {α : Type} [Inhabited α] {l : List α} {n : Nat} (h : n < l.length) : gN l n = l[n] := by simp [gN, h]

section
variable {α : Type} [Inhabited α] (g : α → List V) (l : List α)

@[go_sem] theorem ia_map (ob : OB) (k : Nat) (f : Fl) (j : Int) : iaV ob k (.im f (l.map g)) j = if (0 ≤ j ∧ j < l.length) ∧ (g (gN l j.toNat)).length = k then some (.bp (g (gN l j.toNat))) else none := by
  simp only [iaV, List.length_map]
  by_cases h : 0 ≤ j ∧ j < (l.length : Int)
  · have h1 : j.toNat < l.length := by omega
    simp only [h, and_self, if_true, true_and, List.getElem?_map, gN_at h1, Option.map_some, Option.bind_some]
  · simp only [h, if_false, false_and]

@[go_sem] theorem ia_sl (ob : OB) (k id off len : Nat) (j : Int) : iaV ob k (.sl id off len) j = (ob id).bind fun o => if 0 ≤ j ∧ j < len ∧ o.k = k then some (.pt id (off + j.toNat) 0) else none := (rfl)
@[go_sem] theorem ia_z (ob : OB) (k : Nat) (j : Int) : iaV ob k .z j = none := (rfl)

/-- A row of a made slice. -/
@[go_sem] theorem row_map {β : Type} (F : List V → Option β) (i : Nat) : ((l.map g)[i]?).bind F = if i < l.length then F (g (gN l i)) else none := by
  by_cases h : i < l.length
  · simp only [h, if_true, List.getElem?_map, gN_at h, Option.map_some, Option.bind_some]
  · simp only [h, if_false, List.getElem?_map]
    rw [List.getElem?_eq_none (by omega)]; rfl
end

@[go_sem] theorem sl_im (ob : OB) (k : Nat) (f : Fl) (l : List (List V)) (lo hi : Option Int) : sliceV ob k (.im f l) lo hi = if f ≠ .o ∧ (∀ ch ∈ l, ch.length = k) ∧ 0 ≤ lo.getD 0 ∧ lo.getD 0 ≤ hi.getD l.length ∧ hi.getD l.length ≤ l.length then some (.im f ((l.take (hi.getD l.length).toNat).drop (lo.getD 0).toNat)) else none := (rfl)

/-- A condition behind a condition, behind nothing. -/
theorem ite_bind {α β : Type} {c : Prop} [Decidable c] (x : Option α) (f : α → Option β) : (if c then x else none).bind f = if c then x.bind f else none := by split <;> rfl
theorem ite_map {α β : Type} {c : Prop} [Decidable c] (x : Option α) (f : α → β) : (if c then x else none).map f = if c then x.map f else none := by split <;> rfl
attribute [go_sem] ite_bind ite_map

section
variable {P : Program} {nid : Nat} {env : Env} {ob : OB} {K : Env → OB → Prop} {J : Env → OB → Nat → Prop} {l : List RO} {dl : Ups} {d : Option Nat}
@[go_sem] theorem nxS_j {c : Prop} [Decidable c] {x : Option (V × Ups)} : nxS P d l nid env ob J (if c then x else none) = (c ∧ nxS P d l nid env ob J x) := by
  by_cases h : c
  · simp [h]
  · simp [h, nxS]
@[go_sem] theorem nxD_j {c : Prop} [Decidable c] {x : Option (V × Ups)} {b : Bool} : nxD P b d l nid env ob dl K (if c then x else none) = (c ∧ nxD P b d l nid env ob dl K x) := by
  by_cases h : c
  · simp [h]
  · simp [h, nxD]
end

def iv : V → Int
  | .c (.int _ n) => n
  | _ => 0
theorem iv_c (k : IntKind) (n : Int) : iv (.c (.int k n)) = n := (rfl)
theorem w64 {n : Int} (h : -9223372036854775808 ≤ n ∧ n ≤ 9223372036854775807) : IntKind.i64.wrap n = n := by
  unfold IntKind.wrap IntKind.signed IntKind.bits
  simp
  omega

/-- A slice of one's own that grows. -/
def Own (n : Nat) (ob : OB) (v : V) (k : Nat) (rows : List (List V)) : Prop :=
  (rows = [] ∧ v = .z) ∨ (rows ≠ [] ∧ ∃ id cap, id < n ∧ v = .sl id 0 rows.length ∧ ob id = some ⟨k, rows, cap⟩)

theorem Own.nil {n : Nat} {ob : OB} {k : Nat} : Own n ob .z k [] := .inl ⟨rfl, rfl⟩

section
variable {P : Program} {nid : Nat} {env : Env} {ob : OB} {J : Env → OB → Nat → Prop} {l : List RO} {dl : Ups} {d : Option Nat} {n k : Nat} {v x : V} {rows xs : List (List V)}
/-- Appending to it. -/
theorem app_own (h : Own n ob v k rows) (hn : n ≤ nid) (hx : rowsOf ob x = some xs) (hk : xs.all (okRow k) = true) (hlen : rows.length + xs.length ≤ maxLen) :
    ∃ v' us, opF (.app k) [v, x] ob nid = some (v', us) ∧ Own (nid + 1) (apps ob us) v' k (rows ++ xs) ∧ ∀ id, id < n → v ≠ .sl id 0 rows.length → apps ob us id = ob id := by
  rcases h with ⟨rfl, rfl⟩ | ⟨hne, id, cap, hid, rfl, hob⟩
  · by_cases h0 : xs.length = 0
    · have : xs = [] := List.eq_nil_of_length_eq_zero h0
      subst this
      exact ⟨.z, [], by simp [opF, hx], .inl ⟨rfl, rfl⟩, fun _ _ _ => rfl⟩
    · refine ⟨.sl nid 0 xs.length, _, by simp only [opF, hx, hk, Option.bind_some, if_true, h0, if_false]; rw [if_pos (by simpa using hlen)], .inr ⟨by intro e; apply h0; simpa using congrArg List.length e, nid, none, by omega, by simp, by simp [apps, Ob.mk.injEq]⟩, fun id hid _ => ?_⟩
      simp only [apps_c, apps_n]; exact updO_o _ _ _ _ (by simp; omega)
  · by_cases h0 : xs.length = 0
    · have : xs = [] := List.eq_nil_of_length_eq_zero h0
      subst this
      refine ⟨.sl id 0 rows.length, [(id, some ⟨k, over rows rows.length [], cap⟩)], ?_, .inr ⟨by simpa using hne, id, cap, by omega, by simp, ?_⟩, fun id' hid' hv => ?_⟩
      · simp only [opF, hx, hk, Option.bind_some, if_true, hob]
        rw [if_pos ⟨trivial, by simp, by simpa using hlen⟩, if_pos (by simp)]; simp
      · simp [apps, over]
      · simp only [apps_c, apps_n]; refine updO_o _ _ _ _ ?_
        simp; intro e; subst e; exact hv rfl
    · refine ⟨.sl nid 0 (rows.length + xs.length), [(id, none), (nid, some ⟨k, rows.take rows.length ++ xs, none⟩)], ?_, .inr ⟨by simp [hne], nid, none, by omega, by simp, ?_⟩, fun id' hid' hv => ?_⟩
      · simp only [opF, hx, hk, Option.bind_some, if_true, hob]
        rw [if_pos ⟨trivial, by simp, by simpa using hlen⟩, if_neg (by omega)]; try simp
      · simp [apps]
      · simp only [apps_c, apps_n]
        rw [updO_o _ _ _ _ (by simp; omega)]; refine updO_o _ _ _ _ ?_
        simp; intro e; subst e; exact hv rfl
theorem nxS_app (h : Own n ob v k rows) (hn : n ≤ nid) (hx : rowsOf ob x = some xs) (hk : xs.all (okRow k) = true) (hlen : rows.length + xs.length ≤ maxLen)
    (hK : ∀ v' ob', Own (nid + 1) ob' v' k (rows ++ xs) → (∀ id, id < n → v ≠ .sl id 0 rows.length → ob' id = ob id) → wpS P l (nid + 1) (put env d v') ob' J) : nxS P d l nid env ob J (opF (.app k) [v, x] ob nid) := by
  obtain ⟨v', us, e, h1, h2⟩ := app_own h hn hx hk hlen
  rw [e]
  exact hK _ _ h1 h2
/-- Handed back. -/
theorem out_own (h : Own n ob v k rows) (hg : ∀ ob', ∀ r ∈ rows, r.map (gV ob' 6) = r) (vs : List V) (hvs : ∀ ob', vs.map (gV ob' 6) = vs) : outL ob (v :: vs) = .im .o rows :: vs := by
  rcases h with ⟨rfl, rfl⟩ | ⟨hne, id, cap, hid, rfl, hob⟩
  · simp [outL, hvs]
  · have : ¬ rows.length = 0 := fun e => hne (List.eq_nil_of_length_eq_zero e)
    simp only [outL, rowsOf, hob, Option.bind_some]
    rw [if_pos (by simp)]
    simp only [List.drop_zero, List.take_length, this, if_false, hvs]
    congr 2
    rw [List.map_congr_left (g := fun r => r) (fun r hr => hg _ r hr)]; simp
end

/-- Whole numbers. -/
def ints (f : Fl) (l : List Int) : V := .im f (l.map fun n => [vi n])
@[go_sem] theorem set_map {α : Type} (g : α → List V) (l : List α) (i : Nat) (x : α) : (l.map g).set i (g x) = (l.set i x).map g := by rw [List.map_set]
@[go_sem] theorem set_ints (l : List Int) (i : Nat) (n : Int) : (l.map fun n => [vi n]).set i [vi n] = (l.set i n).map fun n => [vi n] := by rw [List.map_set]
@[go_sem] theorem cat_ints (l : List Int) (n : Int) : (l.map fun n => [vi n]) ++ [[vi n]] = (l ++ [n]).map fun n => [vi n] := by simp
@[go_sem] theorem rep_ints (k : Nat) (n : Int) : List.replicate k [vi n] = (List.replicate k n).map fun n => [vi n] := by simp
/-- Rows of whole numbers. -/
def intRows (f : Fl) (l : List (List Int)) : V := .im f (l.map fun v => [ints .b v])

/-- Rows that stand for a list's elements: as appending, handing back and 'nil' see them. -/
theorem all_map {α : Type} (g : α → List V) (k : Nat) (h : ∀ a, okRow k (g a) = true) (l : List α) : (l.map g).all (okRow k) = true := by simp [h]
@[go_sem] theorem nil_map {α : Type} (g : α → List V) (ob : OB) (f : Fl) (l : List α) : isNil ob 0 (.im f (l.map g)) = some (if l = [] then .q else .c (.bool false)) := by cases l <;> rfl
theorem g_map {α : Type} (g : α → List V) (h : ∀ ob' a, (g a).map (gV ob' 6) = g a) (ob' : OB) (l : List α) : ∀ r ∈ l.map g, r.map (gV ob' 6) = r := by
  intro r hr; obtain ⟨n, _, rfl⟩ := List.mem_map.1 hr; exact h _ _
theorem allInts (l : List Int) : (l.map fun n => [vi n]).all (okRow 1) = true := all_map _ _ (fun _ => rfl) l
theorem allIntRows (l : List (List Int)) : (l.map fun n => [V.im .b (n.map fun n => [vi n])]).all (okRow 1) = true := all_map _ _ (fun _ => rfl) l
theorem gInts (ob' : OB) (l : List Int) : ∀ r ∈ l.map (fun n => [vi n]), r.map (gV ob' 6) = r := g_map _ (fun _ _ => rfl) ob' l
theorem gIntRows (ob' : OB) (l : List (List Int)) : ∀ r ∈ l.map (fun n => [V.im .b (n.map fun n => [vi n])]), r.map (gV ob' 6) = r := g_map _ (fun ob' a => by simp [gV]) ob' l
@[go_sem] theorem op_bsl0 (k : Nat) (z : List V) (fz : Bool) (ob : OB) (i : Nat) : opF (.bsl k z [] 0 fz) [] ob i = some (.z, []) := by
  simp [opF, fill]
/-- Literals of one, two, three elements of one cell each. -/
@[go_sem] theorem op_bsl_1 (z a : V) (ob : OB) (i : Nat) (h : okRow 1 (cellsV a) = true) : opF (.bsl 1 [z] [0] 1 true) [a] ob i = some (.im .b [cellsV a], []) := by
  simp [okRow] at h
  obtain ⟨x, hx⟩ := List.length_eq_one_iff.1 h.1
  simp [hx] at h
  simp [opF, fill, hx, okRow, h]
@[go_sem] theorem op_bsl_2 (z a b : V) (ob : OB) (i : Nat) (h : okRow 1 (cellsV a) = true) (k : okRow 1 (cellsV b) = true) : opF (.bsl 1 [z] [0, 1] 2 true) [a, b] ob i = some (.im .b [cellsV a, cellsV b], []) := by
  simp [okRow] at h k
  obtain ⟨x, hx⟩ := List.length_eq_one_iff.1 h.1
  obtain ⟨y, hy⟩ := List.length_eq_one_iff.1 k.1
  simp [hx] at h; simp [hy] at k
  simp [opF, fill, hx, hy, okRow, h, k, List.range_succ]
@[go_sem] theorem op_bsl_3 (z a b c : V) (ob : OB) (i : Nat) (h : okRow 1 (cellsV a) = true) (k : okRow 1 (cellsV b) = true) (m : okRow 1 (cellsV c) = true) : opF (.bsl 1 [z] [0, 1, 2] 3 true) [a, b, c] ob i = some (.im .b [cellsV a, cellsV b, cellsV c], []) := by
  simp [okRow] at h k m
  obtain ⟨x, hx⟩ := List.length_eq_one_iff.1 h.1
  obtain ⟨y, hy⟩ := List.length_eq_one_iff.1 k.1
  obtain ⟨w, hw⟩ := List.length_eq_one_iff.1 m.1
  simp [hx] at h; simp [hy] at k; simp [hw] at m
  simp [opF, fill, hx, hy, hw, okRow, h, k, m, List.range_succ]
@[go_sem] theorem fill_n (l : List V) : fill l [] [] = some l := (rfl)
@[go_sem] theorem fill_c (l : List V) (o n : Nat) (ps : List (Nat × Nat)) (v : V) (vs : List V) : fill l ((o, n) :: ps) (v :: vs) = if (cellsV v).length = n ∧ o + n ≤ l.length ∧ (cellsV v).all leaf then fill (l.take o ++ cellsV v ++ l.drop (o + n)) ps vs else none := (rfl)
@[go_sem] theorem cast0 : ((0 : Nat) : Int) = 0 := (rfl)
@[go_sem] theorem cast1 : ((1 : Nat) : Int) = 1 := (rfl)
@[go_sem] theorem cast2 : ((2 : Nat) : Int) = 2 := (rfl)
@[go_sem] theorem cast3 : ((3 : Nat) : Int) = 3 := (rfl)
@[go_sem] theorem okRow_e (k : Nat) (r : List V) : okRow k r = (r.length == k && r.all leaf) := (rfl)
@[go_sem] theorem leaf_i (k : IntKind) (n : Int) : leaf (.c (.int k n)) = true := (rfl)
@[go_sem] theorem leaf_b (b : Bool) : leaf (.c (.bool b)) = true := (rfl)
@[go_sem] theorem leaf_s (b : ByteArray) : leaf (.c (.string b)) = true := (rfl)
@[go_sem] theorem leaf_z : leaf .z = true := (rfl)
@[go_sem] theorem leaf_im (f : Fl) (l : List (List V)) : leaf (.im f l) = true := (rfl)
@[go_sem] theorem leaf_sl (a b c : Nat) : leaf (.sl a b c) = true := (rfl)
@[go_sem] theorem leaf_fn (f : Nat) (c : List V) : leaf (.fn f c) = true := (rfl)
/-- A slice over an object, as a call sees it. -/
def resS (ob : OB) (n : Nat) : Option (List (List V)) → V
  | some l => .im .n (l.map fun r => r.map (resV ob n))
  | none => .u
@[go_sem] theorem resS_s (ob : OB) (n : Nat) (l : List (List V)) : resS ob n (some l) = .im .n (l.map fun r => r.map (resV ob n)) := (rfl)
@[go_sem] theorem res_sl (ob : OB) (n id off len : Nat) : resV ob (n + 1) (.sl id off len) = resS ob n (rowsOf ob (.sl id off len)) := by
  simp only [resV]; cases rowsOf ob (.sl id off len) <;> rfl
@[go_sem] theorem take_map_len {α : Type} (g : α → List V) (l : List α) : (l.map g).take l.length = l.map g := by simp [List.take_of_length_le]
/-- A whole object, handed back. -/
theorem out_at {α : Type} (g : α → List V) (hg : ∀ ob' a, (g a).map (gV ob' 6) = g a) {ob : OB} {id len k : Nat} {cap : Option Nat} {l : List α} (hob : ob id = some ⟨k, l.map g, cap⟩) (hlen : len = l.length) (h0 : l.length ≠ 0) (vs : List V) (hvs : ∀ ob', vs.map (gV ob' 6) = vs) :
    outL ob (.sl id 0 len :: vs) = .im .o (l.map g) :: vs := by
  refine out_own (n := id + 1) (k := k) (.inr ⟨fun e => h0 (by simpa using congrArg List.length e), id, cap, by omega, by simp [hlen], hob⟩) (fun ob' => g_map g hg ob' l) vs hvs
@[go_sem] theorem mxS_i (k k' : IntKind) (a b : Int) : mxS (.int k a) (.int k' b) = some (.int k (max a b)) := by simp only [mxS]; congr 2; split <;> omega
@[go_sem] theorem mnS_i (k k' : IntKind) (a b : Int) : mnS (.int k a) (.int k' b) = some (.int k (min a b)) := by simp only [mnS]; congr 2; split <;> omega
attribute [go_sem] decide_true decide_false
attribute [go_sem] List.all_cons List.all_nil Bool.and_true Bool.true_and beq_self_eq_true
attribute [go_sem] Int.toNat_natCast
end Go.Proofs.Ytamdidmfcjdcgaa.D
