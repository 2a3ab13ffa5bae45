/- TabThere, packed. No condition beyond the statement's own. -/
import Derived.Test.YtcmonjmoapjpkaaMTabThered
import Derived.Test.YtcmonjmoapjpkaaRows
import Derived.WalkKit
import Derived.ProofKit
import Derived.OpenShut
import Derived.ShutString
import Derived.ChangeOld
import Derived.Below
import Derived.SizedLaws
section
set_option linter.unusedVariables false
set_option linter.unusedSimpArgs false
set_option linter.constructorNameAsVariable false
set_option maxRecDepth 100000

/- Tables behind an operation: plain facts. No condition. -/
namespace Go.Proofs.Ytcmonjmoapjpkaa.D
open Go Go.Proofs

theorem tw_le {α : Type} {p : α → Bool} (l : List α) : (l.takeWhile p).length ≤ l.length := (List.takeWhile_sublist _).length_le
theorem tw_stop {α : Type} [Inhabited α] {p : α → Bool} : ∀ {l : List α}, (l.takeWhile p).length < l.length → p (gN l (l.takeWhile p).length) = false
  | [], h => by simp at h
  | a :: l, h => by
    rw [List.takeWhile_cons] at h ⊢
    split at h
    · rename_i ha
      rw [if_pos ha]
      simp only [List.length_cons] at h ⊢
      have := tw_stop (p := p) (l := l) (by omega)
      exact this
    · rename_i ha
      rw [if_neg ha]
      show p a = false
      simpa using ha
theorem tw_at {α : Type} [Inhabited α] {p : α → Bool} {l : List α} {i : Nat} (h : i < (l.takeWhile p).length) : p (gN l i) = true := by
  have h1 := tw_le (p := p) l
  have h3 := tw_all _ (List.getElem_mem h)
  have h4 : (l.takeWhile p)[i]'h = gN l i := by
    rw [gN_eq (by omega)]
    exact (List.takeWhile_prefix _).getElem h
  rw [h4] at h3; exact h3
theorem tw_up {α : Type} [Inhabited α] {p : α → Bool} {l : List α} (hd : ∀ i, 0 < i → i < l.length → p (gN l i) = true → p (gN l (i - 1)) = true) {i : Nat} (h1 : (l.takeWhile p).length ≤ i) (h2 : i < l.length) : p (gN l i) = false := by
  cases hp : p (gN l i) with
  | false => rfl
  | true =>
    exfalso
    have down : ∀ k, k ≤ i → p (gN l (i - k)) = true := by
      intro k
      induction k with
      | zero => intro _; exact hp
      | succ k ih =>
        intro hk
        have := hd (i - k) (by omega) (by omega) (ih (by omega))
        have e : i - (k + 1) = i - k - 1 := by omega
        rw [e]; exact this
    have := down (i - (l.takeWhile p).length) (by omega)
    have e : i - (i - (l.takeWhile p).length) = (l.takeWhile p).length := by omega
    rw [e] at this
    have h5 := tw_stop (p := p) (l := l) (by omega)
    rw [h5] at this
    cases this
theorem chk_0 {cols : List Int} {l : List Rwx} (h : checkT cols l = 0) : formE cols = 0 ∧ rowsB cols l = true := by
  unfold checkT at h
  split at h
  · cases h
  · rename_i hf
    split at h
    · rename_i hr; exact ⟨by simpa using hf, hr⟩
    · cases h
theorem form_0 {cols : List Int} (h : formE cols = 0) : 1 ≤ cols.length ∧ cols.length ≤ 4 ∧ ∀ c ∈ cols, 2 ≤ c ∧ c ≤ 4 := by
  unfold formE at h
  split at h
  · cases h
  · split at h
    · cases h
    · rename_i h1 h2
      refine ⟨by omega, by omega, fun c hc => ?_⟩
      simp at h2
      have := h2 c hc
      omega
theorem rows_at {cols : List Int} {l : List Rwx} (h : rowsB cols l = true) {i : Nat} (hi : i < l.length) : rightB cols (gN l i) = true ∧ (0 < i → keyLt (gN l (i - 1)).key (gN l i).key = true) := by
  unfold rowsB at h; exact (of_decide_eq_true h) i hi
structure Right (cols : List Int) (r : Rwx) : Prop where
  key : keyB r.key = true
  dots : dotsB r.dots = true
  cells : allG cellB r.cells cols = true
  there : r.dots.length = 0 ∨ ∀ c ∈ r.cells, writ c = true
theorem right_iff {cols : List Int} {r : Rwx} : rightB cols r = true ↔ Right cols r := by
  unfold rightB
  rw [Bool.and_eq_true, Bool.and_eq_true, Bool.and_eq_true, Bool.or_eq_true]
  constructor
  · rintro ⟨⟨⟨h1, h2⟩, h3⟩, h4⟩
    refine ⟨h1, h2, h3, ?_⟩
    rcases h4 with h4 | h4
    · exact .inl (of_decide_eq_true h4)
    · right; intro c hc; simpa using (by simpa using h4 : ∀ x ∈ r.cells, writ x = true) c hc
  · rintro ⟨h1, h2, h3, h4⟩
    refine ⟨⟨⟨h1, h2⟩, h3⟩, ?_⟩
    rcases h4 with h4 | h4
    · exact .inl (decide_eq_true h4)
    · right; simpa using h4
theorem Right.len {cols : List Int} {r : Rwx} (h : Right cols r) : r.cells.length = cols.length := by
  have := h.cells; unfold allG at this; exact (of_decide_eq_true this).1
theorem dots_up {ds : List Dt} {d : Dt} (h : dotsB ds = true) {i : Nat} (h1 : posD ds d ≤ i) (h2 : i < ds.length) : 0 ≤ cmpD (gN ds i) d := by
  have := tw_up (p := fun a => decide (cmpD a d < 0)) (l := ds) (fun i hi hlt hp => ?_) h1 h2
  · simpa using this
  · have hl := ((of_decide_eq_true h) i hlt).2 hi
    rw [cmpD_less] at hp ⊢
    unfold lessD at hl hp ⊢
    simp at hl hp ⊢
    omega
theorem keys_up {cols : List Int} {l : List Rwx} {key : ByteArray} (h : rowsB cols l = true) {i : Nat} (h1 : posK l key ≤ i) (h2 : i < l.length) : 0 ≤ cmpB (gN l i).key key := by
  have := tw_up (p := fun r => decide (cmpB r.key key < 0)) (l := l) (fun i hi hlt hp => ?_) h1 h2
  · simpa using this
  · have hl := (rows_at h hlt).2 hi
    have hp : cmpB (gN l i).key key < 0 := by simpa using hp
    have : keyLt (gN l i).key key = true := by rcases cmpB_r (gN l i).key key with ⟨e, h⟩ | ⟨e, h⟩ | ⟨e, h⟩ <;> first | exact h | omega
    have h3 := keyLt_trans hl this
    have : cmpB (gN l (i - 1)).key key < 0 := by
      rcases cmpB_r (gN l (i - 1)).key key with ⟨e, h⟩ | ⟨e, h⟩ | ⟨e, h⟩
      · omega
      · rw [h] at h3; rw [keyLt_irr] at h3; cases h3
      · have := keyLt_trans h3 h; rw [keyLt_irr] at this; cases this
    simpa using this
theorem posK_le (l : List Rwx) (key : ByteArray) : posK l key ≤ l.length := tw_le l
theorem posK_lt {l : List Rwx} {key : ByteArray} {i : Nat} (h : i < posK l key) : cmpB (gN l i).key key < 0 := by simpa using tw_at h
theorem withK_lt (cols : List Int) (l : List Rwx) (key : ByteArray) : posK l key < (withK cols l key).length := by
  unfold withK
  have := posK_le l key
  split
  · rename_i h; unfold isK at h; simp at h; exact h.1
  · simp; omega
theorem withK_at (cols : List Int) (l : List Rwx) (key : ByteArray) : (isK l key = true ∧ withK cols l key = l) ∨ (isK l key = false ∧ withK cols l key = l.take (posK l key) ++ ⟨key, [], List.replicate cols.length zCel⟩ :: l.drop (posK l key) ∧ gN (withK cols l key) (posK l key) = ⟨key, [], List.replicate cols.length zCel⟩) := by
  have := posK_le l key
  cases h : isK l key with
  | true => left; exact ⟨rfl, by rw [withK, if_pos h]⟩
  | false =>
    right
    have e : withK cols l key = l.take (posK l key) ++ ⟨key, [], List.replicate cols.length zCel⟩ :: l.drop (posK l key) := by rw [withK, if_neg (by rw [h]; simp)]
    refine ⟨rfl, e, ?_⟩
    rw [gN_eq (withK_lt _ _ _)]
    simp only [e]
    rw [List.getElem_append_right (by simp; omega)]
    simp [Nat.min_eq_left this]
theorem opE_0 {cols : List Int} {x : Opz} (h : opE cols x = 0) : formE cols = 0 ∧ 1 ≤ x.deps.length ∧ x.deps.length ≤ 5 ∧ rightO x.deps.length cols x = true := by
  unfold opE at h
  split at h
  · rename_i hf; exact absurd h hf
  · rename_i hf
    split at h
    · cases h
    · rename_i h1
      have h1 := h1
      refine ⟨by simpa using hf, by omega, by omega, ?_⟩
      cases hr : rightO x.deps.length cols x with
      | true => rfl
      | false => exact absurd (.inr (.inr hr)) h1
structure OpR_ (n : Nat) (cols : List Int) (x : Opz) : Prop where
  whole : wholeB n x = true
  key : keyB x.key = true
  kind : (x.kind = 1 ∧ smallBs x.vals cols = true ∧ x.col = 0 ∧ x.dots.length = 0) ∨ (x.kind = 2 ∧ 0 ≤ x.col ∧ x.col < cols.length ∧ smallBs x.vals [gN cols x.col.toNat] = true ∧ x.dots.length = 0) ∨ (x.kind = 3 ∧ 1 ≤ x.dots.length ∧ x.dots.length ≤ 64 ∧ hadB x.deps x.dots = true ∧ x.col = 0 ∧ x.vals.length = 0)
theorem rightO_1 {n : Nat} {cols : List Int} {x : Opz} (h : rightO n cols x = true) : OpR_ n cols x := by
  unfold rightO at h
  rw [Bool.and_eq_true, Bool.and_eq_true, Bool.and_eq_true] at h
  obtain ⟨⟨⟨h1, h2⟩, h3⟩, h4⟩ := h
  refine ⟨h1, h3, ?_⟩
  split at h4
  · rename_i hk
    simp only [Bool.and_eq_true, decide_eq_true_eq] at h4
    exact .inl ⟨hk, h4.1.1, h4.1.2, h4.2⟩
  · split at h4
    · rename_i hk
      simp only [Bool.and_eq_true, decide_eq_true_eq] at h4
      exact .inr (.inl ⟨hk, h4.1.1.1, h4.1.1.2, h4.1.2, h4.2⟩)
    · split at h4
      · rename_i hk
        simp only [Bool.and_eq_true, decide_eq_true_eq] at h4
        exact .inr (.inr ⟨hk, h4.1.1.1.1, h4.1.1.1.2, h4.1.1.2, h4.1.2, h4.2⟩)
      · cases h4
theorem small_len {v : List Vl} {cols : List Int} (h : smallBs v cols = true) : v.length = cols.length := by
  unfold smallBs allG at h
  simp only [Bool.and_eq_true, decide_eq_true_eq] at h
  exact h.1.1
theorem goodC {cols : List Int} {l : List Rwx} {x : Opz} (h : checkT cols l = 0) (ho : opE cols (tab0 x) = 0) (hd : ∀ r ∈ l, r.dots.length + 1 ≤ maxLen) : GoodC (gN (withK cols l x.key) (posK l x.key)) x ∧ (gN (withK cols l x.key) (posK l x.key)).cells.length = cols.length := by
  obtain ⟨hf, hr⟩ := chk_0 h
  obtain ⟨f1, f2, f3⟩ := form_0 hf
  obtain ⟨_, o1, o2, o3⟩ := opE_0 ho
  have o := rightO_1 o3
  have hR : (gN (withK cols l x.key) (posK l x.key)).cells.length = cols.length ∧ (gN (withK cols l x.key) (posK l x.key)).dots.length + 1 ≤ maxLen ∧ dotsB (gN (withK cols l x.key) (posK l x.key)).dots = true := by
    rcases withK_at cols l x.key with ⟨h1, h2⟩ | ⟨h1, h2, h3⟩
    · have hlt : posK l x.key < l.length := by have := withK_lt cols l x.key; rw [h2] at this; exact this
      have hri := right_iff.1 (rows_at hr hlt).1
      rw [h2]
      exact ⟨hri.len, hd _ (gN_mem hlt), hri.dots⟩
    · rw [h3]
      refine ⟨by simp, by simp [maxLen], rfl⟩
  refine ⟨⟨?_, ?_, hR.2.1, ?_⟩, hR.1⟩
  · have : x.vals.length ≤ 4 := by
      rcases o.kind with ⟨_, k, _⟩ | ⟨_, _, _, k, _⟩ | ⟨_, _, _, _, _, k⟩
      · have := small_len k; simp [tab0] at this; omega
      · have := small_len k; simp [tab0] at this; omega
      · simp [tab0] at k; simp [k]
    simp [maxLen]; omega
  · have : x.dots.length ≤ 64 := by
      rcases o.kind with ⟨_, _, _, k⟩ | ⟨_, _, _, _, k⟩ | ⟨_, _, k, _⟩ <;> simp [tab0] at k <;> first | omega | simp [k]
    simp [maxLen]; omega
  · rcases o.kind with ⟨k1, k2, _⟩ | ⟨k1, k2, k3, k4, _⟩ | ⟨k1, _⟩
    · refine .inl ⟨k1, ?_, fun i a b => dots_up hR.2.2 a b⟩
      have := small_len k2; simp [tab0] at this; omega
    · refine .inr (.inl ⟨k1, k2, ?_, ?_⟩)
      · rw [hR.1]; exact k3
      · have := small_len k4; simp [tab0] at this; omega
    · exact .inr (.inr k1)
end Go.Proofs.Ytcmonjmoapjpkaa.D
end
section
set_option linter.unusedVariables false
set_option linter.unusedSimpArgs false
set_option linter.constructorNameAsVariable false
set_option maxRecDepth 100000

/- Tables behind an operation: the walk. No condition. -/
namespace Go.Proofs.Ytcmonjmoapjpkaa.D
open Go Go.Proofs

theorem own_res3 {n : Nat} {ob : OB} {v : V} {rows : List (List V)} {F : List Rwf} (h : OwnE n ob v 3 rows) (hF : ∀ m, rows.map (fun r => r.map (resV ob (m + 3))) = F.map rwF) : ∃ b : Bool, ∀ m, resV ob (m + 4) v = rwfs (flg b) F := by
  rcases h with ⟨h0, rfl⟩ | ⟨id, cap, hid, rfl, hob⟩
  · have h1 := hF 0
    rw [h0] at h1
    have : F = [] := by simpa using h1.symm
    subst this; exact ⟨false, fun m => rfl⟩
  · refine ⟨true, fun m => ?_⟩
    simp only [resV, rowsOf, hob, Option.bind_some]
    rw [if_pos (by simp)]
    simp only [List.drop_zero, List.take_length]
    rw [hF m]; rfl
theorem nodup_mid {rows : List (List V)} {k : Nat} (h : (rows.flatMap ids).Nodup) (hk : k < rows.length) : ∀ id ∈ ids (gN rows k), id ∉ (rows.take k ++ rows.drop (k + 1)).flatMap ids := by
  have e : rows = rows.take k ++ gN rows k :: rows.drop (k + 1) := by
    rw [gN_eq hk, ← List.drop_eq_getElem_cons hk, List.take_append_drop]
  intro id hid hin
  rw [e, List.flatMap_append, List.flatMap_cons, List.nodup_append] at h
  obtain ⟨_, h2, h3⟩ := h
  rw [List.nodup_append] at h2
  obtain ⟨_, _, h4⟩ := h2
  rw [List.flatMap_append] at hin
  rcases List.mem_append.1 hin with h5 | h5
  · exact h3 id h5 id (List.mem_append_left _ hid) rfl
  · exact h4 id hid id h5 rfl
theorem RowsO.ok3 {ob : OB} {n : Nat} : ∀ {rows : List (List V)} {L : List Rwx}, RowsO ob n rows L → ∃ R : List (Rw 3), R.map rw3V = rows
  | [], [], _ => ⟨[], rfl⟩
  | r :: rs, R :: Rs, h => by
    obtain ⟨S, hS⟩ := RowsO.ok3 h.2
    obtain ⟨dv, cv, e, hd, hc⟩ := h.1
    refine ⟨⟨r, ?_⟩ :: S, by simp [rw3V, hS]⟩
    rw [e]
    show (3 == 3 && (leaf (V.c (.string R.key)) && (leaf dv && (leaf cv && true)))) = true
    rw [hd.cell.2, hc.cell.2]; rfl
  | [], _ :: _, h => h.elim
  | _ :: _, [], h => h.elim
theorem RowsO.at {ob : OB} {n : Nat} : ∀ {rows : List (List V)} {L : List Rwx}, RowsO ob n rows L → ∀ k, k < rows.length → RowO ob n (gN rows k) (gN L k)
  | [], [], _, k, h => by simp at h
  | r :: rs, R :: Rs, h, 0, _ => h.1
  | r :: rs, R :: Rs, h, k + 1, hk => RowsO.at h.2 k (by simpa using hk)
  | [], _ :: _, h, _, _ => h.elim
  | _ :: _, [], h, _, _ => h.elim
@[go_sem] theorem op_bsl_rwo (z : List V) (s : ByteArray) (i a b : Nat) (ob : OB) (n : Nat) (hz : (z.length == 3) = true) : opF (.bsl 3 z [0] 1 false) [.ag [.c (.string s), .z, .sl i a b]] ob n = some (.sl n 0 1, [(n, some ⟨3, [[.c (.string s), .z, .sl i a b]], none⟩)]) := op_bsl_o ob n (by simpa using hz) rfl
theorem RowsO.set {ob ob' : OB} {n n' : Nat} {rows : List (List V)} {L : List Rwx} {k : Nat} {r' : List V} {R' : Rwx} (h : RowsO ob n rows L) (hk : k < rows.length) (hn : n ≤ n') (hr : RowO ob' n' r' R') (hf : ∀ id ∈ (rows.take k ++ rows.drop (k + 1)).flatMap ids, ob' id = ob id) : RowsO ob' n' (rows.set k r') (L.set k R') := by
  have hl := h.len
  rw [List.set_eq_take_append_cons_drop, if_pos hk, List.set_eq_take_append_cons_drop, if_pos (by omega)]
  have h1 := (h.split k).1
  have h2 := (h.split (k + 1)).2
  refine (h1.fr hn fun id hid => hf id ?_).app ⟨hr, h2.fr hn fun id hid => hf id ?_⟩
  · rw [List.flatMap_append]; exact List.mem_append_left _ hid
  · rw [List.flatMap_append]; exact List.mem_append_right _ hid
/-- What stands where the key's row is found, or put in. -/
def atRow (l1 : List Rwx) (k : Nat) (x : Opz) (env : Env) (ob : OB) (n : Nat) : Prop :=
  env 3 = .pt 0 0 0 ∧ env 5 = .pt 1 0 0 ∧ ob 1 = some ⟨12, [opZ x], none⟩ ∧ env 11 = vi k ∧ ∃ (N : Nat) (rows : List (List V)) (cap : Option Nat), env 6 = .sl N 0 l1.length ∧ N < n ∧ ob N = some ⟨3, rows, cap⟩ ∧ RowsO ob n rows l1 ∧ (∀ id, V.sl id 0 0 ∉ gN rows k) ∧ (∀ id ∈ ids (gN rows k), id ∉ (rows.take k ++ rows.drop (k + 1)).flatMap ids)
set_option maxHeartbeats 4000000 in
theorem Apply_ok {fl : Fl} (cols : List Int) (l : List Rwx) (x : Opz) (hl : l.length + 1 ≤ maxLen) (hs : ∀ r ∈ l, ShortR r) (hds : ∀ r ∈ l, r.dots.length + 1 ≤ maxLen) (hv : x.vals.length ≤ maxLen) (hd : x.dots.length ≤ maxLen) :
    FnB Try.prog 11 [.ag (tbV cols), rws fl l, .ag (opZ x)] (.tp [rws .o (applyT cols l x).1, vals .b (applyT cols l x).2.1, vals .b (applyT cols l x).2.2.1, vi (applyT cols l x).2.2.2]) := by
  refine fnB_intro cf11 (by simp) ?_
  simp (config := {contextual := true, maxSteps := 1000000}) only [go_sem, ints, intRows, iv_c, Nat.reduceAdd, Nat.reduceBEq, Nat.reduceEqDiff, Nat.reduceLeDiff, Nat.reduceLT, reduceIte, Nat.le_refl, true_or, or_true, and_self, Int.reduceLE, Int.reduceLT, Int.reduceEq, Int.reduceNeg, Int.natCast_nonneg, Int.reduceToNat, ops, vals, dots, c11, rws]
  first | refine caS_i (tCheck_ok (fl := resFl fl) cols l (by omega) hs) trivial ?_ | refine caD_i (tCheck_ok (fl := resFl fl) cols l (by omega) hs) trivial ?_ | refine gC_i (fun _ => tCheck_ok (fl := resFl fl) cols l (by omega) hs) trivial ?_ | refine gCD_i (fun _ => tCheck_ok (fl := resFl fl) cols l (by omega) hs) trivial ?_ | refine caE_i (tCheck_ok (fl := resFl fl) cols l (by omega) hs) trivial ?_
  simp (config := {contextual := true, maxSteps := 1000000}) only [go_sem, ints, intRows, iv_c, Nat.reduceAdd, Nat.reduceBEq, Nat.reduceEqDiff, Nat.reduceLeDiff, Nat.reduceLT, reduceIte, Nat.le_refl, true_or, or_true, and_self, Int.reduceLE, Int.reduceLT, Int.reduceEq, Int.reduceNeg, Int.natCast_nonneg, Int.reduceToNat, ops, vals, dots, rws]
  refine ⟨fun hb => ?_, fun hb => ?_⟩
  · have he : applyT cols l x = ([], [], [], checkT cols l) := by rw [applyT, if_pos (by simpa using hb)]
    rw [he]; rfl
  have hck : checkT cols l = 0 := by simpa using hb
  first | refine caS_i (opCheck_ok cols (tab0 x) hv hd) trivial ?_ | refine caD_i (opCheck_ok cols (tab0 x) hv hd) trivial ?_ | refine gC_i (fun _ => opCheck_ok cols (tab0 x) hv hd) trivial ?_ | refine gCD_i (fun _ => opCheck_ok cols (tab0 x) hv hd) trivial ?_ | refine caE_i (opCheck_ok cols (tab0 x) hv hd) trivial ?_
  simp (config := {contextual := true, maxSteps := 1000000}) only [go_sem, ints, intRows, iv_c, Nat.reduceAdd, Nat.reduceBEq, Nat.reduceEqDiff, Nat.reduceLeDiff, Nat.reduceLT, reduceIte, Nat.le_refl, true_or, or_true, and_self, Int.reduceLE, Int.reduceLT, Int.reduceEq, Int.reduceNeg, Int.natCast_nonneg, Int.reduceToNat, ops, vals, dots, rws]
  refine ⟨fun hb => ?_, fun hb => ?_⟩
  · have he : applyT cols l x = ([], [], [], 1) := by rw [applyT, if_neg (by simpa using hck), if_pos (by simpa using hb)]
    rw [he]; rfl
  have hop : opE cols (tab0 x) = 0 := by simpa using hb
  have ha : applyT cols l x = ((withK cols l x.key).set (posK l x.key) (chgT (gN (withK cols l x.key) (posK l x.key)) x), seeT (gN (withK cols l x.key) (posK l x.key)), seeT (chgT (gN (withK cols l x.key) (posK l x.key)) x), 0) := by rw [applyT, if_neg (by simpa using hck), if_neg (by simpa using hop)]
  rw [ha]
  obtain ⟨hgc, hcl⟩ := goodC hck hop hds
  obtain ⟨hf, hrb⟩ := chk_0 hck
  obtain ⟨f1, f2, _⟩ := form_0 hf
  refine rcS_i (tTwin_ok (by omega) hs fun v1 ob1 n1 rows1 hn1 hO1 hst1 hnd1 hlo1 hv1 hvl1 hfr1 => ?_)
  have hb0 : ob1 0 = some ⟨1, [tbV cols], none⟩ := by rw [hfr1 0 (by omega)]; rfl
  have hb1 : ob1 1 = some ⟨12, [opZ x], none⟩ := by rw [hfr1 1 (by omega)]; rfl
  obtain ⟨F, hF1, hF2⟩ := rows_res hO1
  have hFl : F.length = l.length := by rw [← hF1, List.length_map]
  have hFk : ∀ i, i < F.length → (gN F i).r = gN l i := fun i hi => by
    have : gN (F.map (·.r)) i = (gN F i).r := by rw [gN_eq (by simpa using hi), gN_eq hi]; simp
    rw [← this, hF1]
  obtain ⟨bF, hbF⟩ := own_res3 hv1.e hF2
  simp (config := {contextual := true, maxSteps := 1000000}) only [go_sem, ints, intRows, iv_c, Nat.reduceAdd, Nat.reduceBEq, Nat.reduceEqDiff, Nat.reduceLeDiff, Nat.reduceLT, reduceIte, Nat.le_refl, true_or, or_true, and_self, Int.reduceLE, Int.reduceLT, Int.reduceEq, Int.reduceNeg, Int.natCast_nonneg, Int.reduceToNat, ops, vals, dots, hb0, hb1]
  rw [hbF 2]
  refine cut_ca (atRow (withK cols l x.key) (posK l x.key) x) ?_ ?_
  · first | refine caS_i (BinRwfs_ok F x.key 29 (fun i => cmpB (gN l i).key x.key) (posK l x.key) (by omega) (fun i hi => by have := app1_ok (gN F i) x.key; rw [hFk i hi] at this; exact this) (by rw [hFl]; exact posK_le _ _) (fun i h => posK_lt h) (fun i a b => keys_up hrb a (by omega))) trivial ?_ | refine caD_i (BinRwfs_ok F x.key 29 (fun i => cmpB (gN l i).key x.key) (posK l x.key) (by omega) (fun i hi => by have := app1_ok (gN F i) x.key; rw [hFk i hi] at this; exact this) (by rw [hFl]; exact posK_le _ _) (fun i h => posK_lt h) (fun i a b => keys_up hrb a (by omega))) trivial ?_ | refine gC_i (fun _ => BinRwfs_ok F x.key 29 (fun i => cmpB (gN l i).key x.key) (posK l x.key) (by omega) (fun i hi => by have := app1_ok (gN F i) x.key; rw [hFk i hi] at this; exact this) (by rw [hFl]; exact posK_le _ _) (fun i h => posK_lt h) (fun i a b => keys_up hrb a (by omega))) trivial ?_ | refine gCD_i (fun _ => BinRwfs_ok F x.key 29 (fun i => cmpB (gN l i).key x.key) (posK l x.key) (by omega) (fun i hi => by have := app1_ok (gN F i) x.key; rw [hFk i hi] at this; exact this) (by rw [hFl]; exact posK_le _ _) (fun i h => posK_lt h) (fun i a b => keys_up hrb a (by omega))) trivial ?_ | refine caE_i (BinRwfs_ok F x.key 29 (fun i => cmpB (gN l i).key x.key) (posK l x.key) (by omega) (fun i hi => by have := app1_ok (gN F i) x.key; rw [hFk i hi] at this; exact this) (by rw [hFl]; exact posK_le _ _) (fun i h => posK_lt h) (fun i a b => keys_up hrb a (by omega))) trivial ?_
    simp (config := {contextual := true, maxSteps := 1000000}) only [go_sem, ints, intRows, iv_c, Nat.reduceAdd, Nat.reduceBEq, Nat.reduceEqDiff, Nat.reduceLeDiff, Nat.reduceLT, reduceIte, Nat.le_refl, true_or, or_true, and_self, Int.reduceLE, Int.reduceLT, Int.reduceEq, Int.reduceNeg, Int.natCast_nonneg, Int.reduceToNat, ops, vals, dots, hb0, hb1]
    rw [hFl]
    refine ⟨fun his => ?_, fun his => ?_⟩
    · have hi : isK l x.key = false := his
      refine ⟨by simp [maxLen]; omega, ?_⟩
      generalize hM2 : n1 + 1 + 1 + 1 + 1 + 1 + 1 + 1 + 1 + 1 + 1 + 1 + 1 + 1 + 1 + 1 + 1 + 1 + 1 + 1 + 1 + 1 = M2
      rcases withK_at cols l x.key with ⟨h1, _⟩ | ⟨_, h2, h3⟩
      · rw [hi] at h1; cases h1
      have hrl := hO1.len
      have hkl := posK_le l x.key
      obtain ⟨R3, hR3⟩ := hO1.ok3
      have hR3l : R3.length = l.length := by rw [← hrl, ← hR3, List.length_map]
      generalize hM1 : n1 + 1 + 1 + 1 + 1 + 1 + 1 + 1 + 1 + 1 + 1 + 1 + 1 + 1 + 1 + 1 + 1 + 1 + 1 + 1 = M1
      have hX : ∀ (a b : Option Ob) j, j < n1 → updO (updO ob1 M1 a) M2 b j = ob1 j := fun a b j hj => by rw [updO, if_neg (by omega), updO, if_neg (by omega)]
      have hXM : ∀ (a b : Option Ob), updO (updO ob1 M1 a) M2 b M1 = a := fun a b => by rw [updO, if_neg (by omega), updO_s]
      have hr3 : okRow 3 [V.c (.string x.key), .z, .sl M1 0 cols.length] = true := rfl
      rw [← hR3] at hv1
      refine rcS_i (InsertRows_ok (l := R3) (i := posK l x.key) (x := ⟨_, hr3⟩) (n := n1) (capv := none) (by omega) (by omega) ((hv1.upd (by omega)).upd (by omega)) (by omega) (updO_s _ _ _) (by omega) (fun len => hv1.e.lt (by omega)) fun v2 ob2 n2 hn2 ho2 hfr2 => ?_)
      have hob : ∀ id ∈ rows1.flatMap ids, ob2 id = ob1 id ∧ id < n1 := fun id hid => by
        obtain ⟨a, q, r, c, b, d⟩ := hO1.lt id hid
        exact ⟨by rw [hfr2 id (by omega) (fun len => hv1.e.ne b (by omega)), hX _ _ id a], a⟩
      have h1 : ob2 1 = some ⟨12, [opZ x], none⟩ := by rw [hfr2 1 (by omega) (fun len => hv1.e.ne hb1 (by omega)), hX _ _ 1 (by omega), hb1]
      have hM : ob2 M1 = some ⟨8, (List.replicate cols.length zCel).map celV, none⟩ := by
        rw [hfr2 M1 (by omega) (fun len => hv1.e.lt (by omega)), hXM, List.map_replicate]; rfl
      have hrr : (R3.take (posK l x.key) ++ (⟨_, hr3⟩ : Rw 3) :: R3.drop (posK l x.key)).map rw3V = rows1.take (posK l x.key) ++ [V.c (.string x.key), .z, .sl M1 0 cols.length] :: rows1.drop (posK l x.key) := by
        rw [List.map_append, List.map_cons, List.map_take, List.map_drop, hR3]; rfl
      rw [hrr] at ho2
      have hkr : posK l x.key ≤ rows1.length := by omega
      have hgk : gN (rows1.take (posK l x.key) ++ [V.c (.string x.key), .z, .sl M1 0 cols.length] :: rows1.drop (posK l x.key)) (posK l x.key) = [V.c (.string x.key), .z, .sl M1 0 cols.length] := by
        rw [gN_eq (by simp; omega), List.getElem_append_right (by simp; omega)]
        simp [Nat.min_eq_left hkr]
      rcases ho2 with ⟨h0, _⟩ | ⟨hne, N, cap, hN1, hv, hoN⟩
      · simp at h0
      simp (config := {contextual := true, maxSteps := 1000000}) only [go_sem, ints, intRows, iv_c, Nat.reduceAdd, Nat.reduceBEq, Nat.reduceEqDiff, Nat.reduceLeDiff, Nat.reduceLT, reduceIte, Nat.le_refl, true_or, or_true, and_self, Int.reduceLE, Int.reduceLT, Int.reduceEq, Int.reduceNeg, Int.natCast_nonneg, Int.reduceToNat, ops, vals, dots]
      refine ⟨rfl, rfl, h1, rfl, N, _, cap, (show v2 = _ from ?_), by omega, hoN, ?_, ?_, ?_⟩
      · rw [hv, h2]; congr 1; simp; omega
      · rw [h2]
        have s1 := (hO1.split (posK l x.key)).1
        have s2 := (hO1.split (posK l x.key)).2
        refine (s1.fr (by omega) fun id hid => (hob id ?_).1).app ⟨⟨.z, .sl M1 0 cols.length, rfl, .inl ⟨rfl, rfl⟩, .inr ⟨M1, none, by omega, by simp, hM⟩⟩, s2.fr (by omega) fun id hid => (hob id ?_).1⟩
        · obtain ⟨r, a, b⟩ := List.mem_flatMap.1 hid; exact List.mem_flatMap.2 ⟨r, List.mem_of_mem_take a, b⟩
        · obtain ⟨r, a, b⟩ := List.mem_flatMap.1 hid; exact List.mem_flatMap.2 ⟨r, List.mem_of_mem_drop a, b⟩
      · rw [hgk]
        intro id hid
        simp at hid
        omega
      · rw [hgk]
        intro id hid hin
        have hidM : id = M1 := by simpa [ids, vid] using hid
        have hin2 : id ∈ rows1.flatMap ids := by
          obtain ⟨r, a, b⟩ := List.mem_flatMap.1 hin
          refine List.mem_flatMap.2 ⟨r, ?_, b⟩
          rcases List.mem_append.1 a with a | a
          · rw [List.take_append_of_le_length (by simp; omega), List.take_take] at a; exact List.mem_of_mem_take a
          · rw [List.drop_append, List.drop_eq_nil_of_le (by simp; omega), List.nil_append] at a
            have e : posK l x.key + 1 - (rows1.take (posK l x.key)).length = 1 := by simp; omega
            rw [e] at a
            exact List.mem_of_mem_drop (by simpa using a)
        have := (hob id hin2).2
        omega
    · have hi : isK l x.key = true := by unfold isK; simpa using his
      rcases withK_at cols l x.key with ⟨h1, h2⟩ | ⟨h1, _⟩
      rotate_left
      · rw [hi] at h1; cases h1
      rw [h2]
      have hkl : posK l x.key < l.length := by have := withK_lt cols l x.key; rw [h2] at this; exact this
      have hrl := hO1.len
      rcases hv1 with ⟨h0, _⟩ | ⟨hne, N, cap, hN1, hv, hoN⟩
      · rw [h0] at hrl; simp at hrl; omega
      refine ⟨rfl, rfl, hb1, rfl, N, rows1, cap, (show v1 = _ from by rw [hv, hrl]), by omega, hoN, hO1.fr (by omega) fun _ _ => rfl, hst1 _ (gN_mem (by omega)), nodup_mid hnd1 (by omega)⟩
  · rintro env ob n ⟨e3, e5, ho1, e11, N, rows, cap, e6, hNn, hoN, hO, hst, hdj⟩
    have hrl := hO.len
    have hkl := withK_lt cols l x.key
    have hrk : rows[posK l x.key]? = some (gN rows (posK l x.key)) := by rw [gN_eq (by omega), List.getElem?_eq_getElem]
    have hRO := hO.at (posK l x.key) (by omega)
    obtain ⟨G, hG1, hG2⟩ := row_res hRO
    have hrow3 : (gN rows (posK l x.key)).length = 3 := by obtain ⟨_, _, e, _⟩ := hRO; rw [e]; rfl
    have ht3 : (gN rows (posK l x.key)).take 3 = gN rows (posK l x.key) := List.take_of_length_le (by omega)
    generalize withK cols l x.key = l1 at *
    generalize posK l x.key = k at *
    simp (config := {contextual := true, maxSteps := 1000000}) only [go_sem, ints, intRows, iv_c, Nat.reduceAdd, Nat.reduceBEq, Nat.reduceEqDiff, Nat.reduceLeDiff, Nat.reduceLT, reduceIte, Nat.le_refl, true_or, or_true, and_self, Int.reduceLE, Int.reduceLT, Int.reduceEq, Int.reduceNeg, Int.natCast_nonneg, Int.reduceToNat, ops, vals, dots, e3, e5, e6, e11, hoN, hrk, hrow3, ht3, Nat.add_zero, Nat.zero_add]
    repeat (refine And.intro (by omega) ?_)
    rw [hG2 2]
    first | refine caS_i (see_ok G (by rw [hG1, hcl]; simp [maxLen]; omega)) trivial ?_ | refine caD_i (see_ok G (by rw [hG1, hcl]; simp [maxLen]; omega)) trivial ?_ | refine gC_i (fun _ => see_ok G (by rw [hG1, hcl]; simp [maxLen]; omega)) trivial ?_ | refine gCD_i (fun _ => see_ok G (by rw [hG1, hcl]; simp [maxLen]; omega)) trivial ?_ | refine caE_i (see_ok G (by rw [hG1, hcl]; simp [maxLen]; omega)) trivial ?_
    rw [hG1]
    simp (config := {contextual := true, maxSteps := 1000000}) only [go_sem, ints, intRows, iv_c, Nat.reduceAdd, Nat.reduceBEq, Nat.reduceEqDiff, Nat.reduceLeDiff, Nat.reduceLT, reduceIte, Nat.le_refl, true_or, or_true, and_self, Int.reduceLE, Int.reduceLT, Int.reduceEq, Int.reduceNeg, Int.natCast_nonneg, Int.reduceToNat, ops, vals, dots, e3, e5, e6, e11, hoN, ho1, Nat.add_zero, Nat.zero_add]
    repeat (refine And.intro (by omega) ?_)
    have hid1 : ∀ id ∈ ids (gN rows k), id ≠ 1 ∧ id ≠ N ∧ id < n := fun id hid => by
      have hm : id ∈ rows.flatMap ids := List.mem_flatMap.2 ⟨_, gN_mem (by omega), hid⟩
      obtain ⟨a, q, r, c, b, d⟩ := hO.lt id hm
      refine ⟨fun e => ?_, fun e => ?_, a⟩
      · rw [e, ho1] at b; injection b with b; injection b with b; omega
      · rw [e, hoN] at b; injection b with b; injection b with b; omega
    refine rcS_i (change_ok hoN hrk hRO hst (by omega) (by omega) hgc fun r' ob2 n2 hn2 hR2 hN2 hfr2 => ?_)
    have hO2 : RowsO ob2 n2 (rows.set k r') (l1.set k (chgT (gN l1 k) x)) := hO.set (by omega) (by omega) hR2 fun id hid => by
      have hm : id ∈ rows.flatMap ids := by
        rw [List.flatMap_append] at hid
        rcases List.mem_append.1 hid with h | h
        · obtain ⟨r, h1, h2⟩ := List.mem_flatMap.1 h; exact List.mem_flatMap.2 ⟨r, List.mem_of_mem_take h1, h2⟩
        · obtain ⟨r, h1, h2⟩ := List.mem_flatMap.1 h; exact List.mem_flatMap.2 ⟨r, List.mem_of_mem_drop h1, h2⟩
      obtain ⟨a, q, r, c, b, d⟩ := hO.lt id hm
      refine hfr2 id (by omega) (fun e => ?_) fun hin => hdj id hin hid
      rw [e, hoN] at b; injection b with b; injection b with b; omega
    have hrk2 : (rows.set k r')[k]? = some r' := by rw [List.getElem?_set, if_pos rfl, if_pos (by omega)]
    obtain ⟨G2, hG21, hG22⟩ := row_res hR2
    have hrow32 : r'.length = 3 := by obtain ⟨_, _, e, _⟩ := hR2; rw [e]; rfl
    have ht32 : r'.take 3 = r' := List.take_of_length_le (by omega)
    have hcl2 : (chgT (gN l1 k) x).cells.length = cols.length := by
      unfold chgT; split
      · simp [wrs_len, hcl]
      · split
        · simp [hcl]
        · split <;> exact hcl
    simp (config := {contextual := true, maxSteps := 1000000}) only [go_sem, ints, intRows, iv_c, Nat.reduceAdd, Nat.reduceBEq, Nat.reduceEqDiff, Nat.reduceLeDiff, Nat.reduceLT, reduceIte, Nat.le_refl, true_or, or_true, and_self, Int.reduceLE, Int.reduceLT, Int.reduceEq, Int.reduceNeg, Int.natCast_nonneg, Int.reduceToNat, ops, vals, dots, e3, e5, e6, e11, hN2, hrk2, hrow32, ht32, Nat.add_zero, Nat.zero_add]
    repeat (refine And.intro (by omega) ?_)
    rw [hG22 2]
    first | refine caS_i (see_ok G2 (by rw [hG21, hcl2]; simp [maxLen]; omega)) trivial ?_ | refine caD_i (see_ok G2 (by rw [hG21, hcl2]; simp [maxLen]; omega)) trivial ?_ | refine gC_i (fun _ => see_ok G2 (by rw [hG21, hcl2]; simp [maxLen]; omega)) trivial ?_ | refine gCD_i (fun _ => see_ok G2 (by rw [hG21, hcl2]; simp [maxLen]; omega)) trivial ?_ | refine caE_i (see_ok G2 (by rw [hG21, hcl2]; simp [maxLen]; omega)) trivial ?_
    rw [hG21]
    simp (config := {contextual := true, maxSteps := 1000000}) only [go_sem, ints, intRows, iv_c, Nat.reduceAdd, Nat.reduceBEq, Nat.reduceEqDiff, Nat.reduceLeDiff, Nat.reduceLT, reduceIte, Nat.le_refl, true_or, or_true, and_self, Int.reduceLE, Int.reduceLT, Int.reduceEq, Int.reduceNeg, Int.natCast_nonneg, Int.reduceToNat, ops, vals, dots, e3, e5, e6, e11, hN2]
    have hl2 : (rows.set k r').length = l1.length := by rw [List.length_set, hrl]
    have hro : rowsOf ob2 (.sl N 0 l1.length) = some (rows.set k r') := by
      simp only [rowsOf, hN2, Option.bind_some]
      rw [if_pos (by omega), List.drop_zero, List.take_of_length_le (by omega)]
    simp only [outL, hro]
    rw [if_neg (by omega), rows_g hN2 3 hO2]
    have gv : ∀ v : List Vl, gV (kill ob2 N) 6 (.im .b (v.map vlV)) = .im .b (v.map vlV) := fun v => g_vals1 _ 4 v
    simp only [List.map_cons, List.map_nil, gv]
    rfl
end Go.Proofs.Ytcmonjmoapjpkaa.D
end
section
set_option linter.unusedVariables false
set_option linter.unusedSimpArgs false
set_option linter.constructorNameAsVariable false
set_option maxRecDepth 100000

/- A table by operations is right: plain law. No condition. -/
namespace Go.Proofs.Ytcmonjmoapjpkaa.D
open Go Go.Proofs

theorem gN_mem_iff {α : Type} [Inhabited α] {l : List α} {a : α} : a ∈ l ↔ ∃ i, i < l.length ∧ gN l i = a := by
  constructor
  · intro h
    obtain ⟨i, hi, rfl⟩ := List.mem_iff_getElem.1 h
    exact ⟨i, hi, gN_eq hi⟩
  · rintro ⟨i, hi, rfl⟩; exact gN_mem hi
theorem adj_pw {α : Type} [Inhabited α] {lt : α → α → Bool} (ht : ∀ a b c, lt a b = true → lt b c = true → lt a c = true) {l : List α} : (∀ i, i < l.length → 0 < i → lt (gN l (i - 1)) (gN l i) = true) ↔ l.Pairwise (fun a b => lt a b = true) := by
  rw [List.pairwise_iff_getElem]
  constructor
  · intro h i j hi hj hij
    have key : ∀ k, i + k + 1 < l.length → lt (gN l i) (gN l (i + k + 1)) = true := by
      intro k
      induction k with
      | zero => intro hk; have := h (i + 1) hk (by omega); simpa using this
      | succ k ih =>
        intro hk
        have h1 := ih (by omega)
        have h2 := h (i + (k + 1) + 1) hk (by omega)
        have e : i + (k + 1) + 1 - 1 = i + k + 1 := by omega
        rw [e] at h2
        exact ht _ _ _ h1 h2
    have := key (j - i - 1) (by omega)
    have e : i + (j - i - 1) + 1 = j := by omega
    rw [e, gN_eq hi, gN_eq hj] at this
    exact this
  · intro h i hi h0
    rw [gN_eq hi, gN_eq (by omega)]
    exact h (i - 1) i (by omega) hi (by omega)
theorem lessD_trans {a b c : Dt} (h1 : lessD a b = true) (h2 : lessD b c = true) : lessD a c = true := by
  unfold lessD at *; simp at *; omega
theorem dotsB_iff {l : List Dt} : dotsB l = true ↔ (∀ d ∈ l, nameB d = true) ∧ l.Pairwise (fun a b => lessD a b = true) := by
  rw [← adj_pw (lt := lessD) (fun a b c h1 h2 => lessD_trans h1 h2)]
  unfold dotsB
  rw [decide_eq_true_eq]
  constructor
  · intro h
    refine ⟨fun d hd => ?_, fun i hi h0 => (h i hi).2 h0⟩
    obtain ⟨i, hi, rfl⟩ := gN_mem_iff.1 hd
    exact (h i hi).1
  · rintro ⟨h1, h2⟩ i hi
    exact ⟨h1 _ (gN_mem hi), h2 i hi⟩
theorem rowsB_iff {cols : List Int} {l : List Rwx} : rowsB cols l = true ↔ (∀ r ∈ l, Right cols r) ∧ l.Pairwise (fun a b => keyLt a.key b.key = true) := by
  rw [← adj_pw (lt := fun a b : Rwx => keyLt a.key b.key) (fun a b c h1 h2 => keyLt_trans h1 h2)]
  unfold rowsB
  rw [decide_eq_true_eq]
  constructor
  · intro h
    refine ⟨fun d hd => ?_, fun i hi h0 => (h i hi).2 h0⟩
    obtain ⟨i, hi, rfl⟩ := gN_mem_iff.1 hd
    exact right_iff.1 (h i hi).1
  · rintro ⟨h1, h2⟩ i hi
    exact ⟨right_iff.2 (h1 _ (gN_mem hi)), h2 i hi⟩
theorem tw_take {α : Type} (p : α → Bool) (l : List α) : l.take (l.takeWhile p).length = l.takeWhile p := by
  conv => lhs; rw [← List.takeWhile_append_dropWhile (p := p) (l := l)]
  rw [List.takeWhile_append_dropWhile]
  have := List.takeWhile_append_dropWhile (p := p) (l := l)
  conv => lhs; arg 2; rw [← this]
  rw [List.take_left]
theorem tw_drop {α : Type} (p : α → Bool) (l : List α) : l.drop (l.takeWhile p).length = l.dropWhile p := by
  have := List.takeWhile_append_dropWhile (p := p) (l := l)
  conv => lhs; arg 2; rw [← this]
  rw [List.drop_left]
theorem cmpI_r' (a b : Int) : cmpI a b = -1 ∧ a < b ∨ cmpI a b = 0 ∧ a = b ∨ cmpI a b = 1 ∧ b < a := by unfold cmpI; omega
theorem cmpD_r (a b : Dt) : (cmpD a b = -1 ∧ lessD a b = true) ∨ (cmpD a b = 0 ∧ a = b) ∨ (cmpD a b = 1 ∧ lessD b a = true) := by
  obtain ⟨ap, an⟩ := a; obtain ⟨bp, bn⟩ := b
  unfold cmpD lessD
  rcases cmpI_r' ap bp with ⟨e1, h1⟩ | ⟨e1, h1⟩ | ⟨e1, h1⟩ <;> rcases cmpI_r' an bn with ⟨e2, h2⟩ | ⟨e2, h2⟩ | ⟨e2, h2⟩ <;> simp [orV, e1, e2] <;> omega
theorem lessD_irr (a : Dt) : lessD a a = false := by unfold lessD; simp
theorem keyLt_asym {a b : ByteArray} (h : keyLt a b = true) : keyLt b a = false := by
  cases h2 : keyLt b a with
  | false => rfl
  | true => have := keyLt_trans h h2; rw [keyLt_irr] at this; cases this
/-- What a sorted row of dots is with one more. -/
theorem insD_spec {ds : List Dt} {d : Dt} (h : ds.Pairwise (fun a b => lessD a b = true)) : (insD ds d).Pairwise (fun a b => lessD a b = true) ∧ ∀ e, e ∈ insD ds d ↔ e = d ∨ e ∈ ds := by
  have hA : ∀ a ∈ ds.take (posD ds d), lessD a d = true := fun a ha => by
    unfold posD at ha
    rw [tw_take] at ha
    have := tw_all _ ha
    have : cmpD a d < 0 := by simpa using this
    rcases cmpD_r a d with ⟨e, h⟩ | ⟨e, h⟩ | ⟨e, h⟩ <;> first | exact h | omega
  unfold insD
  split
  · rename_i hf
    have hin : d ∈ ds := by
      rcases cmpD_r (gN ds (posD ds d)) d with ⟨e, _⟩ | ⟨_, e⟩ | ⟨e, _⟩
      · omega
      · rw [← e]; exact gN_mem hf.1
      · omega
    exact ⟨h, fun e => ⟨.inr, fun h => h.elim (fun e => e ▸ hin) id⟩⟩
  · rename_i hf
    have hB : ∀ b ∈ ds.drop (posD ds d), lessD d b = true := fun b hb => by
      have hne : ¬ (posD ds d < ds.length ∧ cmpD (gN ds (posD ds d)) d = 0) := hf
      obtain ⟨i, hi, rfl⟩ := List.mem_iff_getElem.1 hb
      rw [List.getElem_drop]
      have hlt : posD ds d + i < ds.length := by simpa [Nat.lt_sub_iff_add_lt'] using hi
      have h0 : 0 ≤ cmpD (gN ds (posD ds d)) d := by
        have := tw_stop (p := fun a => decide (cmpD a d < 0)) (l := ds) (by show posD ds d < ds.length; omega)
        have h2 : decide (cmpD (gN ds (posD ds d)) d < 0) = false := this
        simpa using h2
      have h1 : lessD d (gN ds (posD ds d)) = true := by
        rcases cmpD_r (gN ds (posD ds d)) d with ⟨e, _⟩ | ⟨e, _⟩ | ⟨_, e⟩
        · omega
        · exact absurd ⟨by omega, e⟩ hne
        · exact e
      by_cases hi0 : i = 0
      · subst hi0; rw [gN_eq (by omega)] at h1; exact h1
      · refine lessD_trans h1 ?_
        rw [gN_eq (by omega)]
        exact List.pairwise_iff_getElem.1 h _ _ (by omega) hlt (by omega)
    refine ⟨?_, fun e => ?_⟩
    · rw [List.pairwise_append, List.pairwise_cons]
      refine ⟨h.sublist (List.take_sublist _ _), ⟨hB, h.sublist (List.drop_sublist _ _)⟩, fun a ha b hb => ?_⟩
      rcases List.mem_cons.1 hb with rfl | hb
      · exact hA a ha
      · exact lessD_trans (hA a ha) (hB b hb)
    · rw [List.mem_append, List.mem_cons]
      conv => rhs; rhs; rw [← List.take_append_drop (posD ds d) ds, List.mem_append]
      constructor
      · rintro (h | h | h)
        · exact .inr (.inl h)
        · exact .inl h
        · exact .inr (.inr h)
      · rintro (h | h | h)
        · exact .inr (.inl h)
        · exact .inl h
        · exact .inr (.inr h)
theorem zCel_writ : writ zCel = false := rfl
theorem zCel_ok (t : Int) : cellB zCel t = true := by unfold cellB; rw [zCel_writ]; simp [isZ]
theorem new_right {cols : List Int} {key : ByteArray} (h : keyB key = true) : Right cols ⟨key, [], List.replicate cols.length zCel⟩ := by
  refine ⟨h, rfl, ?_, .inl rfl⟩
  unfold allG
  rw [decide_eq_true_eq]
  refine ⟨by simp, fun i hi => ?_⟩
  have hi : i < cols.length := by simpa using hi
  rw [gN_eq (l := List.replicate cols.length zCel) (by simpa using hi)]
  simp [zCel_ok]
/-- The rows with the key's row. -/
theorem withK_spec {cols : List Int} {l : List Rwx} {key : ByteArray} (h : rowsB cols l = true) (hk : keyB key = true) : rowsB cols (withK cols l key) = true ∧ (gN (withK cols l key) (posK l key)).key = key := by
  obtain ⟨h1, h2⟩ := rowsB_iff.1 h
  have hp := posK_le l key
  have hA : ∀ a ∈ l.take (posK l key), keyLt a.key key = true := fun a ha => by
    unfold posK at ha
    rw [tw_take] at ha
    have := tw_all _ ha
    have : cmpB a.key key < 0 := by simpa using this
    rcases cmpB_r a.key key with ⟨e, h⟩ | ⟨e, h⟩ | ⟨e, h⟩ <;> first | exact h | omega
  rcases withK_at cols l key with ⟨hi, e⟩ | ⟨hi, e, eg⟩
  · rw [e]
    refine ⟨h, ?_⟩
    unfold isK at hi
    simp only [Bool.and_eq_true, decide_eq_true_eq] at hi
    rcases cmpB_r (gN l (posK l key)).key key with ⟨e, _⟩ | ⟨_, e⟩ | ⟨e, _⟩
    · omega
    · exact e
    · omega
  · refine ⟨?_, by rw [eg]⟩
    rw [e]
    have hB : ∀ b ∈ l.drop (posK l key), keyLt key b.key = true := fun b hb => by
      obtain ⟨i, hil, rfl⟩ := List.mem_iff_getElem.1 hb
      rw [List.getElem_drop]
      have hlt : posK l key + i < l.length := by simpa [Nat.lt_sub_iff_add_lt'] using hil
      have h0 : 0 ≤ cmpB (gN l (posK l key)).key key := keys_up h (Nat.le_refl _) (by omega)
      have hne : ¬ cmpB (gN l (posK l key)).key key = 0 := fun e0 => by
        unfold isK at hi
        simp only [Bool.and_eq_false_iff, decide_eq_false_iff_not] at hi
        rcases hi with hi | hi
        · omega
        · exact hi e0
      have h1' : keyLt key (gN l (posK l key)).key = true := by
        rcases cmpB_r (gN l (posK l key)).key key with ⟨e, _⟩ | ⟨e, _⟩ | ⟨_, e⟩
        · omega
        · exact absurd e hne
        · exact e
      by_cases hi0 : i = 0
      · subst hi0; rw [gN_eq (by omega)] at h1'; exact h1'
      · refine keyLt_trans h1' ?_
        rw [gN_eq (by omega)]
        exact List.pairwise_iff_getElem.1 h2 _ _ (by omega) hlt (by omega)
    refine rowsB_iff.2 ⟨fun r hr => ?_, ?_⟩
    · rcases List.mem_append.1 hr with hr | hr
      · exact h1 r (List.mem_of_mem_take hr)
      · rcases List.mem_cons.1 hr with rfl | hr
        · exact new_right hk
        · exact h1 r (List.mem_of_mem_drop hr)
    · rw [List.pairwise_append, List.pairwise_cons]
      refine ⟨h2.sublist (List.take_sublist _ _), ⟨hB, h2.sublist (List.drop_sublist _ _)⟩, fun a ha b hb => ?_⟩
      rcases List.mem_cons.1 hb with rfl | hb
      · exact hA a ha
      · exact keyLt_trans (hA a ha) (hB b hb)
end Go.Proofs.Ytcmonjmoapjpkaa.D
end
section
set_option linter.unusedVariables false
set_option linter.unusedSimpArgs false
set_option linter.constructorNameAsVariable false
set_option maxRecDepth 100000

/- A row behind an operation is right: plain law. No condition. -/
namespace Go.Proofs.Ytcmonjmoapjpkaa.D
open Go Go.Proofs

theorem whole_name {n : Nat} {x : Opz} (h : wholeB n x = true) (hn : n ≤ 5) : nameB x.dot = true ∧ okS x.st = true := by
  unfold wholeB at h
  simp only [Bool.and_eq_true, decide_eq_true_eq] at h
  refine ⟨?_, h.1.2⟩
  unfold nameB
  simp only [Bool.and_eq_true, decide_eq_true_eq]
  omega
theorem writ_name {d : Dt} {c : Cel} (h : nameB d = true) (hd : c.d = d) : writ c = true := by
  unfold nameB at h
  unfold writ
  rw [hd]
  simp only [Bool.and_eq_true, decide_eq_true_eq] at h
  simp; omega
theorem wr_writ {c : Cel} {v : Vl} {x : Opz} (hn : nameB x.dot = true) : writ (wrCel c v x) = true := by
  unfold wrCel
  split
  · exact writ_name hn rfl
  · rename_i h
    unfold wrB at h
    simp at h; exact h.1
theorem wr_cell {c : Cel} {v : Vl} {x : Opz} {t : Int} (hn : nameB x.dot = true) (hs : okS x.st = true) (hc : cellB c t = true) (hv : smallV v = true) (hf : fitsV v t = true) : cellB (wrCel c v x) t = true := by
  unfold wrCel
  split
  · unfold cellB
    rw [if_pos (writ_name hn rfl)]
    simp [hn, hv, hf, hs]
  · exact hc
theorem allG_at {α β : Type} [Inhabited α] [Inhabited β] {p : α → β → Bool} {a : List α} {b : List β} (h : allG p a b = true) : a.length = b.length ∧ ∀ i, i < a.length → p (gN a i) (gN b i) = true := by
  unfold allG at h; exact of_decide_eq_true h
theorem small_at {v : List Vl} {cols : List Int} (h : smallBs v cols = true) : v.length = cols.length ∧ ∀ i, i < v.length → fitsV (gN v i) (gN cols i) = true ∧ smallV (gN v i) = true := by
  unfold smallBs at h
  rw [Bool.and_eq_true] at h
  obtain ⟨h1, h2⟩ := h
  obtain ⟨h3, h4⟩ := allG_at h1
  refine ⟨h3, fun i hi => ⟨h4 i hi, ?_⟩⟩
  have : ∀ x ∈ v, smallV x = true := by simpa using h2
  exact this _ (gN_mem hi)
theorem all_gN {α : Type} [Inhabited α] {l : List α} {p : α → Prop} : (∀ a ∈ l, p a) ↔ ∀ i, i < l.length → p (gN l i) :=
  ⟨fun h i hi => h _ (gN_mem hi), fun h a ha => by obtain ⟨i, hi, rfl⟩ := gN_mem_iff.1 ha; exact h i hi⟩
/-- A row behind an operation. -/
theorem chg_right {cols : List Int} {r : Rwx} {x : Opz} {n : Nat} (hr : Right cols r) (ho : OpR_ n cols (tab0 x)) (hn : n ≤ 5) : Right cols (chgT r x) ∧ (chgT r x).key = r.key := by
  obtain ⟨h1, h2⟩ := whole_name ho.whole hn
  have h1 : nameB x.dot = true := h1
  have h2 : okS x.st = true := h2
  obtain ⟨d1, d2⟩ := dotsB_iff.1 hr.dots
  obtain ⟨c1, c2⟩ := allG_at hr.cells
  rcases ho.kind with ⟨k, k2, _⟩ | ⟨k, k2, k3, k4, _⟩ | ⟨k, _⟩
  · have k : x.kind = 1 := k
    have e : chgT r x = ⟨r.key, insD r.dots x.dot, wrs r.cells x.vals x⟩ := by rw [chgT, if_pos k]
    obtain ⟨s1, s2⟩ := small_at k2
    have s1 : x.vals.length = cols.length := s1
    rw [e]
    obtain ⟨i1, i2⟩ := insD_spec (d := x.dot) d2
    have at' : ∀ i, i < r.cells.length → gN (wrs r.cells x.vals x) i = wrCel (gN r.cells i) (gN x.vals i) x := fun i hi => by rw [wrs_at hi, if_pos (by omega)]
    refine ⟨⟨hr.key, dotsB_iff.2 ⟨fun d hd => ?_, i1⟩, ?_, .inr ?_⟩, rfl⟩
    · rcases (i2 d).1 hd with rfl | h
      · exact h1
      · exact d1 d h
    · unfold allG
      rw [decide_eq_true_eq]
      refine ⟨by rw [wrs_len]; exact c1, fun i hi => ?_⟩
      rw [wrs_len] at hi
      rw [at' i hi]
      have := s2 i (by show i < x.vals.length; omega)
      exact wr_cell h1 h2 (c2 i hi) this.2 this.1
    · rw [all_gN]
      intro i hi
      rw [wrs_len] at hi
      rw [at' i hi]
      exact wr_writ h1
  · have k : x.kind = 2 := k
    have k2 : 0 ≤ x.col := k2
    have k3 : x.col < cols.length := k3
    have e : chgT r x = ⟨r.key, r.dots, r.cells.set x.col.toNat (wrCel (gN r.cells x.col.toNat) (gN x.vals 0) x)⟩ := by rw [chgT, if_neg (by omega), if_pos k]
    obtain ⟨s1, s2⟩ := small_at k4
    have hv := s2 0 (by rw [s1]; simp)
    have hv1 : fitsV (gN x.vals 0) (gN cols x.col.toNat) = true := hv.1
    have hv2 : smallV (gN x.vals 0) = true := hv.2
    have hcl : x.col.toNat < r.cells.length := by omega
    rw [e]
    refine ⟨⟨hr.key, hr.dots, ?_, ?_⟩, rfl⟩
    · unfold allG
      rw [decide_eq_true_eq]
      refine ⟨by simpa using c1, fun i hi => ?_⟩
      have hi : i < r.cells.length := by simpa using hi
      by_cases hic : i = x.col.toNat
      · rw [hic, gN_set hcl]
        exact wr_cell h1 h2 (c2 _ hcl) hv2 hv1
      · rw [gN_eq (by simpa using hi), List.getElem_set_ne (by omega), ← gN_eq hi]
        exact c2 i hi
    · rcases hr.there with h | h
      · exact .inl h
      · right
        rw [all_gN] at h ⊢
        intro i hi
        have hi : i < r.cells.length := by simpa using hi
        by_cases hic : i = x.col.toNat
        · rw [hic, gN_set hcl]; exact wr_writ h1
        · rw [gN_eq (by simpa using hi), List.getElem_set_ne (by omega), ← gN_eq hi]
          exact h i hi
  · have k : x.kind = 3 := k
    have e : chgT r x = ⟨r.key, r.dots.filter fun d => !inD x.dots d, r.cells⟩ := by rw [chgT, if_neg (by omega), if_neg (by omega), if_pos k]
    rw [e]
    refine ⟨⟨hr.key, dotsB_iff.2 ⟨fun d hd => d1 d ((List.mem_filter.1 hd).1), d2.filter _⟩, hr.cells, ?_⟩, rfl⟩
    rcases hr.there with h | h
    · left
      have : r.dots = [] := List.eq_nil_of_length_eq_zero h
      show (List.filter _ r.dots).length = 0
      rw [this]; rfl
    · exact .inr h
theorem rows_set {cols : List Int} {l : List Rwx} {k : Nat} {r : Rwx} (h : rowsB cols l = true) (hk : k < l.length) (hr : Right cols r) (hkey : r.key = (gN l k).key) : rowsB cols (l.set k r) = true := by
  obtain ⟨h1, h2⟩ := rowsB_iff.1 h
  refine rowsB_iff.2 ⟨fun a ha => ?_, ?_⟩
  · rcases List.mem_or_eq_of_mem_set ha with h | h
    · exact h1 a h
    · rw [h]; exact hr
  · rw [List.pairwise_iff_getElem] at h2 ⊢
    intro i j hi hj hij
    have hi' : i < l.length := by simpa using hi
    have hj' : j < l.length := by simpa using hj
    have := h2 i j hi' hj' hij
    have e : ∀ m (hm : m < (l.set k r).length) (hm' : m < l.length), (l.set k r)[m].key = l[m].key := fun m hm hm' => by
      rw [List.getElem_set]
      split
      · rename_i e; subst e; rw [hkey, gN_eq hm']
      · rfl
    rw [e i hi hi', e j hj hj']; exact this
theorem apply_e {cols : List Int} {l : List Rwx} {x : Opz} (h : checkT cols l = 0) (ho : opE cols (tab0 x) = 0) : applyT cols l x = ((withK cols l x.key).set (posK l x.key) (chgT (gN (withK cols l x.key) (posK l x.key)) x), seeT (gN (withK cols l x.key) (posK l x.key)), seeT (chgT (gN (withK cols l x.key) (posK l x.key)) x), 0) := by
  rw [applyT, if_neg (by simpa using h), if_neg (by simpa using ho)]
/-- A table behind an operation is right. -/
theorem apply_right {cols : List Int} {l : List Rwx} {x : Opz} (h : checkT cols l = 0) (ho : opE cols (tab0 x) = 0) : checkT cols (applyT cols l x).1 = 0 := by
  rw [apply_e h ho]
  obtain ⟨hf, hr⟩ := chk_0 h
  obtain ⟨_, o1, o2, o3⟩ := opE_0 ho
  have o := rightO_1 o3
  obtain ⟨w1, w2⟩ := withK_spec hr o.key
  have w1 : rowsB cols (withK cols l x.key) = true := w1
  have w2 : (gN (withK cols l x.key) (posK l x.key)).key = x.key := w2
  have hk := withK_lt cols l x.key
  have hR := right_iff.1 (rows_at w1 hk).1
  obtain ⟨c1, c2⟩ := chg_right hR o o2
  unfold checkT
  rw [if_neg (by simpa using hf), if_pos (rows_set w1 hk c1 c2)]
end Go.Proofs.Ytcmonjmoapjpkaa.D
end
section
set_option linter.unusedVariables false
set_option linter.unusedSimpArgs false
set_option linter.constructorNameAsVariable false
set_option maxRecDepth 100000

/- Inserts of one column. No condition. -/
namespace Go.Proofs.Ytcmonjmoapjpkaa.D
open Go Go.Proofs

theorem num_ok (n : Int) : FnB Try.prog 22 [vi n] (.ag (vlV ⟨3, n, noS⟩)) := by
  refine fnB_intro cf22 (by simp) ?_
  simp (config := {contextual := true, maxSteps := 1000000}) only [go_sem, ints, intRows, iv_c, Nat.reduceAdd, Nat.reduceBEq, Nat.reduceEqDiff, Nat.reduceLeDiff, Nat.reduceLT, reduceIte, Nat.le_refl, true_or, or_true, and_self, Int.reduceLE, Int.reduceLT, Int.reduceEq, Int.reduceNeg, Int.natCast_nonneg, Int.reduceToNat, ops, vals, dots, c22]
  rfl
@[go_sem] theorem op_bslo_3 (z' a b c : V) (ob : OB) (i : Nat) (h : okRow 1 (cellsV a) = true) (k : okRow 1 (cellsV b) = true) (m : okRow 1 (cellsV c) = true) : opF (.bsl 1 [z'] [0, 1, 2] 3 false) [a, b, c] ob i = some (.sl i 0 3, [(i, some ⟨1, [cellsV a, cellsV b, cellsV c], none⟩)]) := by
  have := op_bsl_3 z' a b c ob i h k m
  simp only [opF] at this ⊢
  cases hf : fill ((List.replicate 3 [z']).flatten) ([0, 1, 2].map fun i => (i * 1, 1)) [a, b, c] with
  | none => rw [hf] at this; simp at this
  | some l =>
    rw [hf] at this
    simp only [Option.bind_some] at this ⊢
    split at this
    · rename_i hr
      rw [if_pos hr]
      simp at this ⊢
      exact this
    · cases this
/-- An insert of one whole number. -/
@[reducible] def insZ (key : ByteArray) (p : Nat) (n t v : Int) : Opz := ⟨⟨⟨p, n⟩, [9, 9, 9].set p (n - 1), ⟨t, 0, p⟩, 1, 0, key, 0, [⟨3, v, noS⟩], []⟩, false⟩
theorem ins_ok (key : ByteArray) (p : Nat) (n t v : Int) (hp : p < 3) (hn : 1 ≤ n ∧ n ≤ 1073741824) : FnB Try.prog 17 [.c (.string key), vi p, vi n, vi t, vi v] (.ag (opZ (insZ key p n t v))) := by
  refine fnB_intro cf17 (by simp) ?_
  have hw : IntKind.i64.wrap (n - 1) = n - 1 := w64 (by omega)
  have hp' : (p : Int) < 3 := by omega
  have h3 : p = 0 ∨ p = 1 ∨ p = 2 := by omega
  rcases h3 with rfl | rfl | rfl
  · simp (config := {contextual := true, maxSteps := 1000000}) only [go_sem, ints, intRows, iv_c, Nat.reduceAdd, Nat.reduceBEq, Nat.reduceEqDiff, Nat.reduceLeDiff, Nat.reduceLT, reduceIte, Nat.le_refl, true_or, or_true, and_self, Int.reduceLE, Int.reduceLT, Int.reduceEq, Int.reduceNeg, Int.natCast_nonneg, Int.reduceToNat, ops, vals, dots, c17, hw]
    first | refine caS_i (num_ok v) trivial ?_ | refine caD_i (num_ok v) trivial ?_ | refine gC_i (fun _ => num_ok v) trivial ?_ | refine gCD_i (fun _ => num_ok v) trivial ?_ | refine caE_i (num_ok v) trivial ?_
    simp (config := {contextual := true, maxSteps := 1000000}) only [go_sem, ints, intRows, iv_c, Nat.reduceAdd, Nat.reduceBEq, Nat.reduceEqDiff, Nat.reduceLeDiff, Nat.reduceLT, reduceIte, Nat.le_refl, true_or, or_true, and_self, Int.reduceLE, Int.reduceLT, Int.reduceEq, Int.reduceNeg, Int.natCast_nonneg, Int.reduceToNat, ops, vals, dots, hw]
    rfl
  · simp (config := {contextual := true, maxSteps := 1000000}) only [go_sem, ints, intRows, iv_c, Nat.reduceAdd, Nat.reduceBEq, Nat.reduceEqDiff, Nat.reduceLeDiff, Nat.reduceLT, reduceIte, Nat.le_refl, true_or, or_true, and_self, Int.reduceLE, Int.reduceLT, Int.reduceEq, Int.reduceNeg, Int.natCast_nonneg, Int.reduceToNat, ops, vals, dots, c17, hw]
    first | refine caS_i (num_ok v) trivial ?_ | refine caD_i (num_ok v) trivial ?_ | refine gC_i (fun _ => num_ok v) trivial ?_ | refine gCD_i (fun _ => num_ok v) trivial ?_ | refine caE_i (num_ok v) trivial ?_
    simp (config := {contextual := true, maxSteps := 1000000}) only [go_sem, ints, intRows, iv_c, Nat.reduceAdd, Nat.reduceBEq, Nat.reduceEqDiff, Nat.reduceLeDiff, Nat.reduceLT, reduceIte, Nat.le_refl, true_or, or_true, and_self, Int.reduceLE, Int.reduceLT, Int.reduceEq, Int.reduceNeg, Int.natCast_nonneg, Int.reduceToNat, ops, vals, dots, hw]
    rfl
  · simp (config := {contextual := true, maxSteps := 1000000}) only [go_sem, ints, intRows, iv_c, Nat.reduceAdd, Nat.reduceBEq, Nat.reduceEqDiff, Nat.reduceLeDiff, Nat.reduceLT, reduceIte, Nat.le_refl, true_or, or_true, and_self, Int.reduceLE, Int.reduceLT, Int.reduceEq, Int.reduceNeg, Int.natCast_nonneg, Int.reduceToNat, ops, vals, dots, c17, hw]
    first | refine caS_i (num_ok v) trivial ?_ | refine caD_i (num_ok v) trivial ?_ | refine gC_i (fun _ => num_ok v) trivial ?_ | refine gCD_i (fun _ => num_ok v) trivial ?_ | refine caE_i (num_ok v) trivial ?_
    simp (config := {contextual := true, maxSteps := 1000000}) only [go_sem, ints, intRows, iv_c, Nat.reduceAdd, Nat.reduceBEq, Nat.reduceEqDiff, Nat.reduceLeDiff, Nat.reduceLT, reduceIte, Nat.le_refl, true_or, or_true, and_self, Int.reduceLE, Int.reduceLT, Int.reduceEq, Int.reduceNeg, Int.natCast_nonneg, Int.reduceToNat, ops, vals, dots, hw]
    rfl
theorem form3 : formE [3] = 0 := by unfold formE; simp
theorem small3 {v : Int} (h : -2147483648 ≤ v ∧ v ≤ 2147483648) : smallBs [⟨3, v, noS⟩] [3] = true := by
  have h1 : okVl ⟨3, v, noS⟩ = true := by unfold okVl; simp; omega
  have h2 : smallV ⟨3, v, noS⟩ = true := by unfold smallV; rw [h1]; simp; omega
  unfold smallBs allG
  simp [h2]
  unfold fitsV
  simp [gN, h1]
/-- An insert of one column that may be. -/
theorem opE_ins {x : Opz} {v : Int} (hd : 1 ≤ x.deps.length ∧ x.deps.length ≤ 5) (hw : wholeB x.deps.length x = true) (hk : keyB x.key = true) (h1 : x.kind = 1) (h2 : x.vals = [⟨3, v, noS⟩]) (hv : -2147483648 ≤ v ∧ v ≤ 2147483648) (h3 : x.col = 0) (h4 : x.dots = []) : opE [3] (tab0 x) = 0 := by
  have hr : rightO x.deps.length [3] (tab0 x) = true := by
    unfold rightO
    have hw' : wholeB x.deps.length (tab0 x) = true := hw
    have hk' : keyB (tab0 x).key = true := hk
    have e : (tab0 x).kind = 1 := h1
    rw [hw', hk', if_pos e]
    show (true && decide ((0 : Int) = 0) && true && (smallBs x.vals [3] && decide (x.col = 0) && decide (x.dots.length = 0))) = true
    rw [h2, small3 hv, h3, h4]; rfl
  unfold opE
  rw [if_neg (by rw [form3]; simp), if_neg]
  rintro (h | h | h)
  · have : ((tab0 x).deps.length : Int) = x.deps.length := rfl
    omega
  · have : ((tab0 x).deps.length : Int) = x.deps.length := rfl
    omega
  · have hr' : rightO ((tab0 x).deps.length : Int) [3] (tab0 x) = true := hr
    rw [hr'] at h; cases h
theorem opE_del {x : Opz} (hd : 1 ≤ x.deps.length ∧ x.deps.length ≤ 5) (hw : wholeB x.deps.length x = true) (hk : keyB x.key = true) (h1 : x.kind = 3) (h2 : x.vals = []) (h3 : x.col = 0) (h4 : 1 ≤ x.dots.length ∧ x.dots.length ≤ 64) (h5 : hadB x.deps x.dots = true) : opE [3] (tab0 x) = 0 := by
  have hr : rightO x.deps.length [3] (tab0 x) = true := by
    unfold rightO
    have hw' : wholeB x.deps.length (tab0 x) = true := hw
    have hk' : keyB (tab0 x).key = true := hk
    have e1 : ¬ (tab0 x).kind = 1 := by show ¬ x.kind = 1; omega
    have e2 : ¬ (tab0 x).kind = 2 := by show ¬ x.kind = 2; omega
    have e3 : (tab0 x).kind = 3 := h1
    rw [hw', hk', if_neg e1, if_neg e2, if_pos e3]
    show (true && decide ((0 : Int) = 0) && true && (decide (1 ≤ x.dots.length ∧ x.dots.length ≤ 64) && hadB x.deps x.dots && decide (x.col = 0) && decide (x.vals.length = 0))) = true
    rw [decide_eq_true h4, h5, h3, h2]; rfl
  unfold opE
  rw [if_neg (by rw [form3]; simp), if_neg]
  rintro (h | h | h)
  · have : ((tab0 x).deps.length : Int) = x.deps.length := rfl
    omega
  · have : ((tab0 x).deps.length : Int) = x.deps.length := rfl
    omega
  · have hr' : rightO ((tab0 x).deps.length : Int) [3] (tab0 x) = true := hr
    rw [hr'] at h; cases h
theorem opE_upd {x : Opz} {v : Int} (hd : 1 ≤ x.deps.length ∧ x.deps.length ≤ 5) (hw : wholeB x.deps.length x = true) (hk : keyB x.key = true) (h1 : x.kind = 2) (h2 : x.vals = [⟨3, v, noS⟩]) (hv : -2147483648 ≤ v ∧ v ≤ 2147483648) (h3 : x.col = 0) (h4 : x.dots = []) : opE [3] (tab0 x) = 0 := by
  have hr : rightO x.deps.length [3] (tab0 x) = true := by
    unfold rightO
    have hw' : wholeB x.deps.length (tab0 x) = true := hw
    have hk' : keyB (tab0 x).key = true := hk
    have e1 : ¬ (tab0 x).kind = 1 := by show ¬ x.kind = 1; omega
    have e2 : (tab0 x).kind = 2 := h1
    rw [hw', hk', if_neg e1, if_pos e2]
    show (true && decide ((0 : Int) = 0) && true && (decide (0 ≤ x.col ∧ x.col < (([3] : List Int).length : Int)) && smallBs x.vals [gN [3] x.col.toNat] && decide (x.dots.length = 0))) = true
    rw [h2, h3, h4]
    have : gN ([3] : List Int) (0 : Int).toNat = 3 := rfl
    rw [this, small3 hv]; rfl
  unfold opE
  rw [if_neg (by rw [form3]; simp), if_neg]
  rintro (h | h | h)
  · have : ((tab0 x).deps.length : Int) = x.deps.length := rfl
    omega
  · have : ((tab0 x).deps.length : Int) = x.deps.length := rfl
    omega
  · have hr' : rightO ((tab0 x).deps.length : Int) [3] (tab0 x) = true := hr
    rw [hr'] at h; cases h
theorem cmpB_self (k : ByteArray) : cmpB k k = 0 := by
  rcases cmpB_r k k with ⟨_, h⟩ | ⟨e, _⟩ | ⟨_, h⟩
  · rw [keyLt_irr] at h; cases h
  · exact e
  · rw [keyLt_irr] at h; cases h
theorem chk_nil {cols : List Int} (h : formE cols = 0) : checkT cols [] = 0 := by
  unfold checkT; rw [if_neg (by simpa using h), if_pos]; rfl
theorem ap_nil {cols : List Int} {x : Opz} (hf : formE cols = 0) (ho : opE cols (tab0 x) = 0) : applyT cols [] x = ([chgT ⟨x.key, [], List.replicate cols.length zCel⟩ x], [], seeT (chgT ⟨x.key, [], List.replicate cols.length zCel⟩ x), 0) := by
  rw [apply_e (chk_nil hf) ho]
  have e : withK cols [] x.key = [⟨x.key, [], List.replicate cols.length zCel⟩] := by unfold withK isK posK; simp
  have p : posK [] x.key = 0 := rfl
  rw [e, p]
  rfl
theorem ap_one {cols : List Int} {r : Rwx} {x : Opz} (h : checkT cols [r] = 0) (ho : opE cols (tab0 x) = 0) (hk : r.key = x.key) : applyT cols [r] x = ([chgT r x], seeT r, seeT (chgT r x), 0) := by
  rw [apply_e h ho]
  have p : posK [r] x.key = 0 := by unfold posK; rw [List.takeWhile_cons, hk, cmpB_self]; rfl
  have e : withK cols [r] x.key = [r] := by
    unfold withK isK
    rw [p]
    have g : gN [r] 0 = r := rfl
    rw [g, hk, cmpB_self]; rfl
  rw [e, p]
  rfl
end Go.Proofs.Ytcmonjmoapjpkaa.D
end
section
set_option linter.unusedVariables false
set_option linter.unusedSimpArgs false
set_option linter.constructorNameAsVariable false
set_option maxRecDepth 100000

/- One dead row. No condition. -/
namespace Go.Proofs.Ytcmonjmoapjpkaa.D
open Go Go.Proofs

@[reducible] def kK : ByteArray := ⟨#[107]⟩
@[reducible] def wk1 : Opz := ⟨⟨⟨0, 1⟩, [0], ⟨0, 0, 0⟩, 1, 0, kK, 0, [⟨3, 3, noS⟩], []⟩, false⟩
@[reducible] def wk2 : Opz := ⟨⟨⟨0, 2⟩, [1], ⟨0, 0, 0⟩, 3, 0, kK, 0, [], [⟨0, 1⟩]⟩, false⟩
@[reducible] def wkc : Cel := ⟨⟨3, 3, noS⟩, ⟨0, 0, 0⟩, ⟨0, 1⟩⟩
theorem wk1_o : opE [3] (tab0 wk1) = 0 := opE_ins (x := wk1) (v := 3) (by simp) (by decide) (by decide) rfl rfl (by omega) rfl rfl
theorem wk2_o : opE [3] (tab0 wk2) = 0 := opE_del (x := wk2) (by simp) (by decide) (by decide) rfl rfl rfl (by simp) (by decide)
theorem wk1_a : applyT [3] [] wk1 = ([⟨kK, [⟨0, 1⟩], [wkc]⟩], [], [⟨4, 0, kK⟩, ⟨3, 3, noS⟩], 0) := by
  rw [ap_nil form3 wk1_o]; rfl
theorem wk1_c : checkT [3] [⟨kK, [⟨0, 1⟩], [wkc]⟩] = 0 := by
  have := apply_right (chk_nil form3) wk1_o
  rw [wk1_a] at this; exact this
theorem wk2_a : applyT [3] [⟨kK, [⟨0, 1⟩], [wkc]⟩] wk2 = ([⟨kK, [], [wkc]⟩], [⟨4, 0, kK⟩, ⟨3, 3, noS⟩], [], 0) := by
  rw [ap_one wk1_c wk2_o rfl]; rfl
theorem ia_s (ob : OB) (k : Nat) (f : Fl) (q r : List V) (l : List (List V)) : iaV ob k (.im f (q :: r :: l)) 1 = if r.length = k then some (.bp r) else none := by
  simp [iaV]; omega
@[go_sem] theorem op_bsl_d2 (z : List V) (a b : Int) (ob : OB) (i : Nat) (hz : (z.length == 2) = true) : opF (.bsl 2 z [0] 1 true) [.ag [vi a, vi b]] ob i = some (.im .b [[vi a, vi b]], []) := op_bsl_r ob i (by simpa using hz) rfl
theorem wakes13_ok : FnB Try.prog 16 [] (vb true) := by
  refine fnB_intro cf16 (by simp) ?_
  simp (config := {contextual := true, maxSteps := 1000000}) only [go_sem, ints, intRows, iv_c, Nat.reduceAdd, Nat.reduceBEq, Nat.reduceEqDiff, Nat.reduceLeDiff, Nat.reduceLT, reduceIte, Nat.le_refl, true_or, or_true, and_self, Int.reduceLE, Int.reduceLT, Int.reduceEq, Int.reduceNeg, Int.natCast_nonneg, Int.reduceToNat, ops, vals, dots, c16]
  have a1 := Apply_ok (fl := .b) [3] [] wk1 (by simp [maxLen]) (by simp) (by simp) (by simp [maxLen]) (by simp [maxLen])
  rw [wk1_a] at a1
  dsimp only at a1
  have a2 := Apply_ok (fl := .b) [3] [⟨kK, [⟨0, 1⟩], [wkc]⟩] wk2 (by simp [maxLen]) (by intro r h; simp at h; subst h; exact ⟨by simp [maxLen], by simp [maxLen]⟩) (by simp [maxLen]) (by simp [maxLen]) (by simp [maxLen])
  rw [wk2_a] at a2
  dsimp only at a2
  first | refine caS_i (a1) trivial ?_ | refine caD_i (a1) trivial ?_ | refine gC_i (fun _ => a1) trivial ?_ | refine gCD_i (fun _ => a1) trivial ?_ | refine caE_i (a1) trivial ?_
  simp (config := {contextual := true, maxSteps := 1000000}) only [go_sem, ints, intRows, iv_c, Nat.reduceAdd, Nat.reduceBEq, Nat.reduceEqDiff, Nat.reduceLeDiff, Nat.reduceLT, reduceIte, Nat.le_refl, true_or, or_true, and_self, Int.reduceLE, Int.reduceLT, Int.reduceEq, Int.reduceNeg, Int.natCast_nonneg, Int.reduceToNat, ops, vals, dots, vals, rws, ia_h, ia_s]
  first | refine caS_i (a2) trivial ?_ | refine caD_i (a2) trivial ?_ | refine gC_i (fun _ => a2) trivial ?_ | refine gCD_i (fun _ => a2) trivial ?_ | refine caE_i (a2) trivial ?_
  simp (config := {contextual := true, maxSteps := 1000000}) only [go_sem, ints, intRows, iv_c, Nat.reduceAdd, Nat.reduceBEq, Nat.reduceEqDiff, Nat.reduceLeDiff, Nat.reduceLT, reduceIte, Nat.le_refl, true_or, or_true, and_self, Int.reduceLE, Int.reduceLT, Int.reduceEq, Int.reduceNeg, Int.natCast_nonneg, Int.reduceToNat, ops, vals, dots, vals, rws, ia_h, ia_s]
  first | refine caS_i (Dead_ok (fl := .b) [⟨kK, [], [wkc]⟩] (by simp [maxLen])) trivial ?_ | refine caD_i (Dead_ok (fl := .b) [⟨kK, [], [wkc]⟩] (by simp [maxLen])) trivial ?_ | refine gC_i (fun _ => Dead_ok (fl := .b) [⟨kK, [], [wkc]⟩] (by simp [maxLen])) trivial ?_ | refine gCD_i (fun _ => Dead_ok (fl := .b) [⟨kK, [], [wkc]⟩] (by simp [maxLen])) trivial ?_ | refine caE_i (Dead_ok (fl := .b) [⟨kK, [], [wkc]⟩] (by simp [maxLen])) trivial ?_
  have e1 : deadT [⟨kK, [], [wkc]⟩] = 1 := rfl
  simp (config := {contextual := true, maxSteps := 1000000}) only [go_sem, ints, intRows, iv_c, Nat.reduceAdd, Nat.reduceBEq, Nat.reduceEqDiff, Nat.reduceLeDiff, Nat.reduceLT, reduceIte, Nat.le_refl, true_or, or_true, and_self, Int.reduceLE, Int.reduceLT, Int.reduceEq, Int.reduceNeg, Int.natCast_nonneg, Int.reduceToNat, ops, vals, dots, e1, vals, rws]
  first | refine caS_i (Seen_ok (fl := .b) [3] [⟨kK, [], [wkc]⟩] (by simp [maxLen]) (by intro r h; simp at h; subst h; exact ⟨by simp [maxLen], by simp [maxLen]⟩) (by simp [maxLen])) trivial ?_ | refine caD_i (Seen_ok (fl := .b) [3] [⟨kK, [], [wkc]⟩] (by simp [maxLen]) (by intro r h; simp at h; subst h; exact ⟨by simp [maxLen], by simp [maxLen]⟩) (by simp [maxLen])) trivial ?_ | refine gC_i (fun _ => Seen_ok (fl := .b) [3] [⟨kK, [], [wkc]⟩] (by simp [maxLen]) (by intro r h; simp at h; subst h; exact ⟨by simp [maxLen], by simp [maxLen]⟩) (by simp [maxLen])) trivial ?_ | refine gCD_i (fun _ => Seen_ok (fl := .b) [3] [⟨kK, [], [wkc]⟩] (by simp [maxLen]) (by intro r h; simp at h; subst h; exact ⟨by simp [maxLen], by simp [maxLen]⟩) (by simp [maxLen])) trivial ?_ | refine caE_i (Seen_ok (fl := .b) [3] [⟨kK, [], [wkc]⟩] (by simp [maxLen]) (by intro r h; simp at h; subst h; exact ⟨by simp [maxLen], by simp [maxLen]⟩) (by simp [maxLen])) trivial ?_
  have e2 : seenT [3] [⟨kK, [], [wkc]⟩] = [] := by
    have := apply_right wk1_c wk2_o
    rw [wk2_a] at this
    unfold seenT; rw [if_neg (by rw [this]; simp)]; rfl
  rw [e2]
  simp (config := {contextual := true, maxSteps := 1000000}) only [go_sem, ints, intRows, iv_c, Nat.reduceAdd, Nat.reduceBEq, Nat.reduceEqDiff, Nat.reduceLeDiff, Nat.reduceLT, reduceIte, Nat.le_refl, true_or, or_true, and_self, Int.reduceLE, Int.reduceLT, Int.reduceEq, Int.reduceNeg, Int.natCast_nonneg, Int.reduceToNat, ops, vals, dots, valRows]
end Go.Proofs.Ytcmonjmoapjpkaa.D
end
section
set_option linter.unusedVariables false
set_option linter.unusedSimpArgs false
set_option linter.constructorNameAsVariable false
set_option maxRecDepth 100000

/- Inserts of one key: plain law. No condition. -/
namespace Go.Proofs.Ytcmonjmoapjpkaa.D
open Go Go.Proofs

@[reducible] def insY (key : ByteArray) (p : Nat) (n t v : Int) : Opz := ⟨⟨⟨p, n⟩, [9, 9, 9].set p (n - 1), ⟨t, 0, p⟩, 1, 0, key, 0, [⟨3, v, noS⟩], []⟩, false⟩
/-- An insert that may be. -/
theorem ins_op {key : ByteArray} {p : Nat} {n t v : Int} (hk : keyB key = true) (hp : p < 3) (hn : 1 ≤ n ∧ n ≤ 1073741824) (ht : 0 ≤ t ∧ t ≤ 1099511627776) (hv : -2147483648 ≤ v ∧ v ≤ 2147483648) : opE [3] (tab0 (insZ key p n t v)) = 0 := by
  refine opE_ins (x := insZ key p n t v) (v := v) (by simp) ?_ hk rfl rfl hv rfl rfl
  have hs : okS ⟨t, 0, p⟩ = true := by unfold okS; simp; omega
  have hvv : vecE ([9, 9, 9].set p (n - 1)) = 0 := by
    unfold vecE
    rw [if_pos (by simp), if_pos]
    intro a ha
    rcases List.mem_or_eq_of_mem_set ha with h | h
    · simp at h; omega
    · omega
  have hg : gN ([9, 9, 9].set p (n - 1) : List Int) p = n - 1 := gN_set (by simp; exact hp) _
  have e : wholeB (insZ key p n t v).deps.length (insZ key p n t v) = (decide (0 ≤ (p : Int)) && decide ((p : Int) < (([9, 9, 9].set p (n - 1) : List Int).length : Int)) && decide (1 ≤ n) && decide (n ≤ 1073741824) && decide ((([9, 9, 9].set p (n - 1) : List Int).length : Int) = (([9, 9, 9].set p (n - 1) : List Int).length : Int)) && decide (vecE ([9, 9, 9].set p (n - 1)) = 0) && decide (gN ([9, 9, 9].set p (n - 1) : List Int) (p : Int).toNat = n - 1) && okS ⟨t, 0, p⟩ && decide ((p : Int) = (p : Int))) := rfl
  rw [e, hs, hvv, Int.toNat_natCast, hg]
  simp; omega
/-- What an insert writes first. -/
@[reducible] def celI (p : Nat) (n t v : Int) : Cel := ⟨⟨3, v, noS⟩, ⟨t, 0, p⟩, ⟨p, n⟩⟩
theorem ins_new {key : ByteArray} {p : Nat} {n t v : Int} (ho : opE [3] (tab0 (insZ key p n t v)) = 0) : applyT [3] [] (insZ key p n t v) = ([⟨key, [⟨p, n⟩], [celI p n t v]⟩], [], [⟨4, 0, key⟩, ⟨3, v, noS⟩], 0) := by
  rw [ap_nil form3 ho]; rfl
theorem ins_on {key : ByteArray} {ds : List Dt} {c : Cel} {p : Nat} {n t v : Int} (hc : checkT [3] [⟨key, ds, [c]⟩] = 0) (ho : opE [3] (tab0 (insZ key p n t v)) = 0) : applyT [3] [⟨key, ds, [c]⟩] (insZ key p n t v) = ([⟨key, insD ds ⟨p, n⟩, [wrCel c ⟨3, v, noS⟩ (insZ key p n t v)]⟩], seeT ⟨key, ds, [c]⟩, seeT ⟨key, insD ds ⟨p, n⟩, [wrCel c ⟨3, v, noS⟩ (insZ key p n t v)]⟩, 0) := by
  rw [ap_one hc ho rfl]; rfl
theorem seen1 {key : ByteArray} {ds : List Dt} {c : Cel} (hc : checkT [3] [⟨key, ds, [c]⟩] = 0) (hd : 0 < ds.length) : seenT [3] [⟨key, ds, [c]⟩] = [[⟨4, 0, key⟩, c.v]] := by
  unfold seenT
  rw [if_neg (by rw [hc]; simp), List.filter_cons, if_pos (by simpa using hd)]
  have : seeT ⟨key, ds, [c]⟩ = [⟨4, 0, key⟩, c.v] := by unfold seeT; rw [if_neg (by show ¬ ds.length = 0; omega)]; rfl
  rw [List.filter_nil, List.map_cons, List.map_nil, this]
theorem insD_len {ds : List Dt} {d : Dt} (h : d ∉ ds) : (insD ds d).length = ds.length + 1 := by
  unfold insD
  rw [if_neg]
  · have := tw_le (p := fun a => decide (cmpD a d < 0)) ds
    have : posD ds d ≤ ds.length := this
    simp; omega
  · rintro ⟨h1, h2⟩
    rcases cmpD_r (gN ds (posD ds d)) d with ⟨e, _⟩ | ⟨_, e⟩ | ⟨e, _⟩
    · omega
    · exact h (e ▸ gN_mem h1)
    · omega
theorem cmpT_t {a b : Int} {p q : Int} : (cmpT ⟨a, 0, p⟩ ⟨b, 0, q⟩ < 0 → a ≤ b) ∧ (¬ cmpT ⟨a, 0, p⟩ ⟨b, 0, q⟩ < 0 → b ≤ a) := by
  unfold cmpT orV orV orV orV cmpI
  refine ⟨fun h => ?_, fun h => ?_⟩
  · repeat' split at h
    all_goals first | omega | (simp_all; done) | (simp_all; omega)
  · repeat' split at h
    all_goals first | omega | (simp_all; done) | (simp_all; omega)
/-- The i-th of several inserts. -/
def tA (u : Nat → Nat) (i : Nat) : Nat := u i * 20 + i
@[reducible] def dtT (i : Nat) : Dt := ⟨((i % 3 : Nat) : Int), ((i / 3 + 1 : Nat) : Int)⟩
@[reducible] def xT (u : Nat → Nat) (i : Nat) : Opz := insZ kK (i % 3) ((i / 3 + 1 : Nat) : Int) (tA u i : Nat) (i : Nat)
@[reducible] def cT (u : Nat → Nat) (i : Nat) : Cel := celI (i % 3) ((i / 3 + 1 : Nat) : Int) (tA u i : Nat) (i : Nat)
theorem xT_o {u : Nat → Nat} (hu : ∀ i, u i < 1000) {i : Nat} (hi : i < 20) : opE [3] (tab0 (xT u i)) = 0 := by
  have := hu i
  exact ins_op (by decide) (by omega) (by omega) (by unfold tA; omega) (by omega)
theorem dtT_inj {i j : Nat} (h : dtT i = dtT j) : i = j := by
  injection h with h1 h2
  omega
structure LatI (m T : Nat) (u : Nat → Nat) (i : Nat) (ds : List Dt) (c : Cel) : Prop where
  len : ds.length = i
  mem : ∀ e ∈ ds, ∃ j, j < i ∧ e = dtT ((j + T) % m)
  chk : checkT [3] [⟨kK, ds, [c]⟩] = 0
  cell : ∃ k, k < m ∧ c = cT u k ∧ ∀ j, j < i → tA u ((j + T) % m) ≤ tA u k
theorem mod_inj {m T i j : Nat} (hij : j < i) (him : i < m) : (i + T) % m ≠ (j + T) % m := by
  intro h
  have := Nat.sub_mod_eq_zero_of_mod_eq h
  have e : i + T - (j + T) = i - j := by omega
  rw [e, Nat.mod_eq_of_lt (by omega)] at this
  omega
theorem lat_0 {m T : Nat} {u : Nat → Nat} (hm : 0 < m ∧ m ≤ 20) (hT : T < m) (hu : ∀ i, u i < 1000) : ∃ g c, applyT [3] [] (xT u T) = ([⟨kK, [dtT T], [cT u T]⟩], g, c, 0) ∧ LatI m T u 1 [dtT T] (cT u T) := by
  have ho := xT_o hu (i := T) (by omega)
  have ha := ins_new ho
  refine ⟨_, _, ha, rfl, fun e he => ⟨0, by omega, ?_⟩, ?_, T, hT, rfl, fun j hj => ?_⟩
  · simp at he
    rw [he, Nat.zero_add, Nat.mod_eq_of_lt hT]
  · have := apply_right (chk_nil form3) ho
    rw [ha] at this; exact this
  · have : j = 0 := by omega
    subst this
    rw [Nat.zero_add, Nat.mod_eq_of_lt hT]
    exact Nat.le_refl _
theorem lat_s {m T i : Nat} {u : Nat → Nat} {ds : List Dt} {c : Cel} (hm : 0 < m ∧ m ≤ 20) (hT : T < m) (hu : ∀ i, u i < 1000) (hi : i < m) (h : LatI m T u i ds c) : ∃ ds' c' g b, applyT [3] [⟨kK, ds, [c]⟩] (xT u ((i + T) % m)) = ([⟨kK, ds', [c']⟩], g, b, 0) ∧ LatI m T u (i + 1) ds' c' := by
  have hy : (i + T) % m < m := Nat.mod_lt _ hm.1
  have ho := xT_o hu (i := (i + T) % m) (by omega)
  have ha := ins_on h.chk ho
  obtain ⟨k, k1, k2, k3⟩ := h.cell
  have hn : dtT ((i + T) % m) ∉ ds := fun hm => by
    obtain ⟨j, j1, j2⟩ := h.mem _ hm
    exact mod_inj j1 hi (dtT_inj j2)
  refine ⟨_, _, _, _, ha, ?_, fun e he => ?_, ?_, ?_⟩
  · rw [insD_len hn, h.len]
  · have hr := right_iff.1 (rows_at (chk_0 h.chk).2 (i := 0) (by simp)).1
    rcases ((insD_spec (dotsB_iff.1 hr.dots).2).2 e).1 he with e1 | e1
    · exact ⟨i, by omega, e1⟩
    · obtain ⟨j, j1, j2⟩ := h.mem e e1
      exact ⟨j, by omega, j2⟩
  · have := apply_right h.chk ho
    rw [ha] at this; exact this
  · subst k2
    by_cases hw : wrB (cT u k) (xT u ((i + T) % m)) = true
    · refine ⟨(i + T) % m, hy, by rw [wrCel, if_pos hw], fun j hj => ?_⟩
      have hk : tA u k ≤ tA u ((i + T) % m) := by
        unfold wrB at hw
        have hwk : writ (cT u k) = true := by unfold writ; simp; omega
        rw [hwk] at hw
        have := cmpT_t.1 (of_decide_eq_true (by simpa using hw))
        omega
      by_cases hji : j = i
      · subst hji; exact Nat.le_refl _
      · exact Nat.le_trans (k3 j (by omega)) hk
    · refine ⟨k, k1, by rw [wrCel, if_neg hw], fun j hj => ?_⟩
      by_cases hji : j = i
      · subst hji
        unfold wrB at hw
        simp at hw
        have := cmpT_t.2 (by simpa using hw.2)
        omega
      · exact k3 j (by omega)
theorem lat_end {m T : Nat} {u : Nat → Nat} {ds : List Dt} {c : Cel} (hm : 0 < m ∧ m ≤ 20) (hT : T < m) (h : LatI m T u m ds c) {b : Nat} (hb : b < m) (hbb : ∀ j, j < m → tA u j ≤ tA u b) : c.v = ⟨3, b, noS⟩ := by
  obtain ⟨k, k1, rfl, k3⟩ := h.cell
  have h1 := hbb k k1
  have h2 : tA u b ≤ tA u k := by
    have := k3 ((b + (m - T)) % m) (Nat.mod_lt _ hm.1)
    have e : ((b + (m - T)) % m + T) % m = b := by
      rw [Nat.mod_add_mod]
      have e2 : b + (m - T) + T = b + m := by omega
      rw [e2, Nat.add_mod_right, Nat.mod_eq_of_lt hb]
    rw [e] at this; exact this
  have : k = b := by unfold tA at h1 h2; omega
  subst this; rfl
end Go.Proofs.Ytcmonjmoapjpkaa.D
end
section
set_option linter.unusedVariables false
set_option linter.unusedSimpArgs false
set_option linter.constructorNameAsVariable false
set_option maxRecDepth 100000

/- Rows by their keys: plain law. No condition. -/
namespace Go.Proofs.Ytcmonjmoapjpkaa.D
open Go Go.Proofs

theorem toL_iff {a b : ByteArray} : a.toList = b.toList ↔ a = b := by
  constructor
  · intro h
    rw [ByteArray.toList_eq, ByteArray.toList_eq] at h
    cases a; cases b; simp at h; simp [h]
  · rintro rfl; rfl
theorem isK_true {l : List Rwx} {key : ByteArray} (h : isK l key = true) : posK l key < l.length ∧ (gN l (posK l key)).key = key := by
  unfold isK at h
  simp only [Bool.and_eq_true, decide_eq_true_eq] at h
  refine ⟨h.1, ?_⟩
  rcases cmpB_r (gN l (posK l key)).key key with ⟨e, _⟩ | ⟨_, e⟩ | ⟨e, _⟩
  · omega
  · exact e
  · omega
theorem keys_lt {cols : List Int} {l : List Rwx} (h : rowsB cols l = true) {i j : Nat} (hij : i < j) (hj : j < l.length) : keyLt (gN l i).key (gN l j).key = true := by
  have := List.pairwise_iff_getElem.1 (rowsB_iff.1 h).2 i j (by omega) hj hij
  rw [gN_eq (by omega), gN_eq hj]; exact this
theorem keys_inj {cols : List Int} {l : List Rwx} (h : rowsB cols l = true) {i j : Nat} (hi : i < l.length) (hj : j < l.length) (e : (gN l i).key = (gN l j).key) : i = j := by
  rcases Nat.lt_trichotomy i j with h1 | h1 | h1
  · have := keys_lt h h1 hj; rw [e, keyLt_irr] at this; cases this
  · exact h1
  · have := keys_lt h h1 hi; rw [e, keyLt_irr] at this; cases this
/-- A key's place, where it is there. -/
theorem posK_at {cols : List Int} {l : List Rwx} (h : rowsB cols l = true) {i : Nat} (hi : i < l.length) : posK l (gN l i).key = i ∧ isK l (gN l i).key = true := by
  have h0 : posK l (gN l i).key ≤ i := Nat.le_of_not_lt fun hc => by
    have := posK_lt hc; rw [cmpB_self] at this; omega
  have h1 : posK l (gN l i).key = i := by
    rcases Nat.lt_or_ge (posK l (gN l i).key) i with h2 | h2
    · have h3 := keys_lt h h2 hi
      have h4 := keys_up h (Nat.le_refl _) (show posK l (gN l i).key < l.length by omega)
      rcases cmpB_r (gN l (posK l (gN l i).key)).key (gN l i).key with ⟨e, _⟩ | ⟨_, e⟩ | ⟨_, e⟩
      · omega
      · rw [e, keyLt_irr] at h3; cases h3
      · rw [keyLt_asym h3] at e; cases e
    · omega
  refine ⟨h1, ?_⟩
  unfold isK
  rw [h1, cmpB_self]
  simp [hi]
theorem findT_k {cols : List Int} {l : List Rwx} (h : rowsB cols l = true) (key : ByteArray) : findT l key = if isK l key then (posK l key : Int) else -1 := by
  unfold findT
  split
  · rename_i hk
    obtain ⟨h1, h2⟩ := isK_true hk
    refine idxI_at h1 (fun r hr => ?_) (by simp [h2])
    obtain ⟨i, hi, rfl⟩ := gN_mem_iff.1 hr
    have hi' : i < posK l key := by simp at hi; omega
    have e : gN (l.take (posK l key)) i = gN l i := by
      rw [gN_eq hi, gN_eq (by omega)]; simp
    rw [e]
    simp only [decide_eq_false_iff_not, toL_iff]
    intro e2
    have := keys_inj h (by omega) h1 (e2.trans h2.symm)
    omega
  · rename_i hk
    refine idxI_no fun r hr => ?_
    obtain ⟨i, hi, rfl⟩ := gN_mem_iff.1 hr
    simp only [decide_eq_false_iff_not, toL_iff]
    rintro rfl
    exact hk (posK_at h hi).2
theorem findT_at {cols : List Int} {l : List Rwx} (h : rowsB cols l = true) {i : Nat} (hi : i < l.length) : findT l (gN l i).key = i := by
  rw [findT_k h, (posK_at h hi).2, (posK_at h hi).1]; rfl
theorem withK_len (cols : List Int) {l : List Rwx} {key : ByteArray} : (withK cols l key).length = l.length + if isK l key then 0 else 1 := by
  have := posK_le l key
  unfold withK
  split
  · rfl
  · simp; omega
/-- What stands elsewhere stood there. -/
theorem withK_old {cols : List Int} {l : List Rwx} {key : ByteArray} {k : Nat} (hk : k < (withK cols l key).length) (hne : k ≠ posK l key) : gN (withK cols l key) k ∈ l := by
  have := posK_le l key
  rcases withK_at cols l key with ⟨h, e⟩ | ⟨h, e, _⟩
  · rw [e] at hk ⊢; exact gN_mem hk
  · rw [gN_eq hk]
    simp only [e]
    rw [List.getElem_append]
    split
    · exact List.mem_of_mem_take (List.getElem_mem _)
    · rename_i hc
      have hc : posK l key ≤ k := by simp at hc; omega
      obtain ⟨d, hd⟩ : ∃ d, k - (l.take (posK l key)).length = d + 1 := ⟨k - posK l key - 1, by simp; omega⟩
      simp only [hd, List.getElem_cons_succ]
      exact List.mem_of_mem_drop (List.getElem_mem _)
theorem insD_pos (ds : List Dt) (d : Dt) : 0 < (insD ds d).length ∧ (insD ds d).length ≤ ds.length + 1 := by
  have : posD ds d ≤ ds.length := tw_le ds
  unfold insD
  split
  · rename_i h; omega
  · simp; omega
structure KeyI (i : Nat) (l : List Rwx) : Prop where
  chk : checkT [3] l = 0
  len : l.length ≤ i
  row : ∀ r ∈ l, (∃ j : Nat, j < i ∧ r.cells = [celI 0 ((j + 1 : Nat) : Int) (j : Nat) (j : Nat)]) ∧ 0 < r.dots.length ∧ r.dots.length ≤ i
theorem KeyI.nil : KeyI 0 [] := ⟨chk_nil form3, Nat.le_refl _, fun r hr => by cases hr⟩
theorem KeyI.step {i : Nat} {l : List Rwx} {key : ByteArray} (h : KeyI i l) (hi : i < 40) (hk : keyB key = true) :
    ∃ l' g, applyT [3] l (insZ key 0 ((i + 1 : Nat) : Int) (i : Nat) (i : Nat)) = (l', g, [⟨4, 0, key⟩, ⟨3, (i : Nat), noS⟩], 0) ∧ KeyI (i + 1) l' ∧ l'.length = l.length + if findT l key < 0 then 1 else 0 := by
  have ho : opE [3] (tab0 (insZ key 0 ((i + 1 : Nat) : Int) (i : Nat) (i : Nat))) = 0 := ins_op hk (by omega) (by omega) (by omega) (by omega)
  have hr := (chk_0 h.chk).2
  have hlt := withK_lt [3] l key
  have hkey := (withK_spec hr hk).2
  obtain ⟨R, hR⟩ : ∃ R, R = gN (withK [3] l key) (posK l key) := ⟨_, rfl⟩
  have hRc : ∃ c, R.cells = [c] ∧ wrB c (insZ key 0 ((i + 1 : Nat) : Int) (i : Nat) (i : Nat)) = true ∧ R.dots.length ≤ i := by
    rcases withK_at [3] l key with ⟨q, e⟩ | ⟨q, _, e⟩
    · have hm : R ∈ l := by rw [hR, e]; exact gN_mem (by rw [e] at hlt; exact hlt)
      obtain ⟨⟨j, hj, hc⟩, h1, h2⟩ := h.row R hm
      refine ⟨_, hc, ?_, h2⟩
      unfold wrB
      have hlt2 : cmpT (⟨(j : Nat), 0, (0 : Nat)⟩ : St3) ⟨(i : Nat), 0, (0 : Nat)⟩ < 0 := by
        unfold cmpT orV cmpI
        rw [if_pos (by simp; omega)]
        have : ((j : Nat) : Int) < (i : Nat) := by omega
        simp [this]
      have : decide (cmpT (celI 0 ((j + 1 : Nat) : Int) (j : Nat) (j : Nat)).st (insZ key 0 ((i + 1 : Nat) : Int) (i : Nat) (i : Nat)).st < 0) = true := decide_eq_true hlt2
      rw [this, Bool.or_true]
    · rw [hR, e]; exact ⟨zCel, rfl, rfl, Nat.zero_le _⟩
  obtain ⟨c, c1, c2, c3⟩ := hRc
  have hRk : R.key = key := by rw [hR]; exact hkey
  have hch : chgT R (insZ key 0 ((i + 1 : Nat) : Int) (i : Nat) (i : Nat)) = ⟨key, insD R.dots ⟨((0 : Nat) : Int), ((i + 1 : Nat) : Int)⟩, [celI 0 ((i + 1 : Nat) : Int) (i : Nat) (i : Nat)]⟩ := by
    have e1 : chgT R (insZ key 0 ((i + 1 : Nat) : Int) (i : Nat) (i : Nat)) = ⟨R.key, insD R.dots ⟨((0 : Nat) : Int), ((i + 1 : Nat) : Int)⟩, wrs R.cells [⟨3, (i : Nat), noS⟩] (insZ key 0 ((i + 1 : Nat) : Int) (i : Nat) (i : Nat))⟩ := rfl
    rw [e1, hRk, c1]
    have e2 : wrs [c] [⟨3, (i : Nat), noS⟩] (insZ key 0 ((i + 1 : Nat) : Int) (i : Nat) (i : Nat)) = [wrCel c ⟨3, (i : Nat), noS⟩ (insZ key 0 ((i + 1 : Nat) : Int) (i : Nat) (i : Nat))] := rfl
    rw [e2, wrCel, if_pos c2]
  obtain ⟨p1, p2⟩ := insD_pos R.dots ⟨((0 : Nat) : Int), ((i + 1 : Nat) : Int)⟩
  have ha := apply_e h.chk ho
  have hri := apply_right h.chk ho
  have hxk : (insZ key 0 ((i + 1 : Nat) : Int) (i : Nat) (i : Nat)).key = key := rfl
  rw [hxk, ← hR, hch] at ha
  rw [ha] at hri
  have hlen : ((withK [3] l key).set (posK l key) ⟨key, insD R.dots ⟨((0 : Nat) : Int), ((i + 1 : Nat) : Int)⟩, [celI 0 ((i + 1 : Nat) : Int) (i : Nat) (i : Nat)]⟩).length = l.length + if findT l key < 0 then 1 else 0 := by
    rw [List.length_set, withK_len, findT_k hr]
    cases isK l key <;> simp
  refine ⟨_, _, by rw [ha]; congr 3; unfold seeT; rw [if_neg (by show ¬ (insD R.dots _).length = 0; omega)]; rfl, ⟨hri, ?_, fun r hrm => ?_⟩, hlen⟩
  · rw [hlen]
    have := h.len
    split <;> omega
  · obtain ⟨k, hk1, rfl⟩ := gN_mem_iff.1 hrm
    rw [List.length_set] at hk1
    by_cases hkp : k = posK l key
    · subst hkp
      rw [gN_set hk1]
      refine ⟨⟨i, by omega, rfl⟩, p1, ?_⟩
      show (insD R.dots _).length ≤ _
      omega
    · have e : gN ((withK [3] l key).set (posK l key) ⟨key, insD R.dots ⟨((0 : Nat) : Int), ((i + 1 : Nat) : Int)⟩, [celI 0 ((i + 1 : Nat) : Int) (i : Nat) (i : Nat)]⟩) k = gN (withK [3] l key) k := by
        rw [gN_eq (by simpa using hk1), gN_eq hk1, List.getElem_set_ne (by omega)]
      rw [e]
      obtain ⟨⟨j, hj, hc⟩, h1, h2⟩ := h.row _ (withK_old hk1 hkp)
      exact ⟨⟨j, by omega, hc⟩, h1, by omega⟩
theorem KeyI.seen {i : Nat} {l : List Rwx} (h : KeyI i l) : seenT [3] l = l.map seeT := by
  unfold seenT
  rw [if_neg (by rw [h.chk]; simp), List.filter_eq_self.2]
  intro r hr
  have := (h.row r hr).2.1
  simp; omega
theorem KeyI.see {i : Nat} {l : List Rwx} (h : KeyI i l) {k : Nat} (hk : k < l.length) : ∃ v, seeT (gN l k) = [⟨4, 0, (gN l k).key⟩, v] := by
  obtain ⟨⟨j, hj, hc⟩, h1, h2⟩ := h.row _ (gN_mem hk)
  unfold seeT
  rw [if_neg (by omega), hc]
  exact ⟨_, rfl⟩
end Go.Proofs.Ytcmonjmoapjpkaa.D
end
section
set_option linter.unusedVariables false
set_option linter.unusedSimpArgs false
set_option linter.constructorNameAsVariable false
set_option maxRecDepth 100000

/- An insert that a delete did not know of stays. No condition. -/
namespace Go.Proofs.Ytcmonjmoapjpkaa.D
open Go Go.Proofs

theorem fill_s {l a : List V} {o n : Nat} {ps : List (Nat × Nat)} {vs : List V} (h1 : a.length = n) (h2 : o + n ≤ l.length) (h3 : a.all leaf = true) : fill l ((o, n) :: ps) (.ag a :: vs) = fill (l.take o ++ a ++ l.drop (o + n)) ps vs := by
  rw [fill_c]; exact if_pos ⟨h1, h2, h3⟩
theorem op_bsl_k3 {k : Nat} {z a b c : List V} (ob : OB) (i : Nat) (hz : z.length = k) (ha : okRow k a = true) (hb : okRow k b = true) (hc : okRow k c = true) : opF (.bsl k z [0, 1, 2] 3 true) [.ag a, .ag b, .ag c] ob i = some (.im .b [a, b, c], []) := by
  simp only [okRow, Bool.and_eq_true, beq_iff_eq] at ha hb hc
  obtain ⟨a1, a2⟩ := ha
  obtain ⟨b1, b2⟩ := hb
  obtain ⟨c1, c2⟩ := hc
  have hf : fill ((List.replicate 3 z).flatten) ([0, 1, 2].map fun i => (i * k, k)) [.ag a, .ag b, .ag c] = some (a ++ b ++ c) := by
    have e : (List.replicate 3 z).flatten = z ++ (z ++ z) := by simp [List.replicate]
    rw [e]
    simp only [List.map_cons, List.map_nil]
    rw [fill_s a1 (by simp [hz]) a2]
    have e1 : List.take (0 * k) (z ++ (z ++ z)) ++ a ++ List.drop (0 * k + k) (z ++ (z ++ z)) = a ++ (z ++ z) := by
      rw [Nat.zero_mul, Nat.zero_add, ← hz, List.drop_left]; simp
    rw [e1, fill_s b1 (by simp [hz, a1]) b2]
    have e2 : List.take (1 * k) (a ++ (z ++ z)) ++ b ++ List.drop (1 * k + k) (a ++ (z ++ z)) = a ++ b ++ z := by
      have h1 : List.take k (a ++ (z ++ z)) = a := by rw [← a1, List.take_left]
      have h2 : List.drop (k + k) (a ++ (z ++ z)) = z := by
        rw [← List.drop_drop]
        have h3 : List.drop k (a ++ (z ++ z)) = z ++ z := by rw [← a1, List.drop_left]
        rw [h3, ← hz, List.drop_left]
      rw [Nat.one_mul, h1, h2]
    rw [e2, fill_s c1 (by simp [hz, a1, b1]; omega) c2]
    have e3 : List.take (2 * k) (a ++ b ++ z) ++ c ++ List.drop (2 * k + k) (a ++ b ++ z) = a ++ b ++ c := by
      have hab : (a ++ b).length = 2 * k := by simp [a1, b1]; omega
      have h1 : List.take (2 * k) (a ++ b ++ z) = a ++ b := by rw [← hab, List.take_left]
      have h2 : List.drop (2 * k + k) (a ++ b ++ z) = [] := by rw [List.drop_eq_nil_of_le]; simp [hz, a1, b1]; omega
      rw [h1, h2, List.append_nil]
    rw [e3]; rfl
  have t1 : (a ++ b ++ c).take k = a := by rw [List.append_assoc, ← a1, List.take_left]
  have t2 : ((a ++ b ++ c).drop k).take k = b := by rw [List.append_assoc, ← a1, List.drop_left, a1, ← b1, List.take_left]
  have t3 : ((a ++ b ++ c).drop (2 * k)).take k = c := by
    have hab : (a ++ b).length = 2 * k := by simp [a1, b1]; omega
    rw [← hab, List.drop_left, ← c1, List.take_length]
  simp only [opF]
  rw [hf]
  have hr : (List.range 3).map (fun i => ((a ++ b ++ c).drop (i * k)).take k) = [a, b, c] := by
    show [((a ++ b ++ c).drop (0 * k)).take k, ((a ++ b ++ c).drop (1 * k)).take k, ((a ++ b ++ c).drop (2 * k)).take k] = _
    rw [Nat.zero_mul, Nat.one_mul, List.drop_zero, t1, t2, t3]
  simp only [Option.bind_some, hr]
  rw [if_pos (by simp only [List.all_cons, List.all_nil, okRow, a1, b1, c1, a2, b2, c2, BEq.rfl, Bool.and_self])]
  rfl
theorem Step_ok {cols : List Int} {l l' : List Rwx} {x : Opz} {g c : List Vl} (h : applyT cols l x = (l', g, c, 0)) (hl : l.length + 1 ≤ maxLen) (hs : ∀ r ∈ l, r.dots.length + 1 ≤ maxLen ∧ r.cells.length ≤ maxLen) (hv : x.vals.length ≤ maxLen) (hd : x.dots.length ≤ maxLen) : FnB Try.prog 11 [.ag (tbV cols), rws .b l, .ag (opZ x)] (.tp [rws .o l', vals .b g, vals .b c, vi 0]) := by
  have := Apply_ok (fl := .b) cols l x hl (fun r hr => ⟨by have := (hs r hr).1; omega, (hs r hr).2⟩) (fun r hr => (hs r hr).1) hv hd
  rw [h] at this
  exact this
@[reducible] def dZ (ds : List Dt) : Opz := ⟨⟨⟨2, 1⟩, [1, 1, 0], ⟨9, 0, 2⟩, 3, 0, kK, 0, [], ds⟩, true⟩
@[reducible] def cA (w : Int) : Cel := ⟨⟨3, w, noS⟩, ⟨5, 0, 0⟩, ⟨0, 1⟩⟩
@[reducible] def cB (w : Int) : Cel := ⟨⟨3, w, noS⟩, ⟨7, 0, 1⟩, ⟨1, 1⟩⟩
@[reducible] def lS (ds : List Dt) (c : Cel) : List Rwx := [⟨kK, ds, [c]⟩]
theorem oA {w : Int} (hw : 0 ≤ w ∧ w ≤ 1000) : opE [3] (tab0 (insZ kK 0 1 5 w)) = 0 := opE_ins (v := w) (by simp) rfl (by show keyB kK = true; decide) rfl rfl (by omega) rfl rfl
theorem oB {w : Int} (hw : 0 ≤ w ∧ w ≤ 1000) : opE [3] (tab0 (insZ kK 1 1 7 w)) = 0 := opE_ins (v := w) (by simp) rfl (by show keyB kK = true; decide) rfl rfl (by omega) rfl rfl
theorem oD1 : opE [3] (tab0 (dZ [⟨0, 1⟩])) = 0 := opE_del (by simp) (by decide) (by decide) rfl rfl rfl (by simp) (by decide)
theorem oD2 : opE [3] (tab0 (dZ [⟨0, 1⟩, ⟨1, 1⟩])) = 0 := opE_del (by simp) (by decide) (by decide) rfl rfl rfl (by simp) (by decide)
theorem chkS {l l' : List Rwx} {x : Opz} {g c : List Vl} (h : checkT [3] l = 0) (ho : opE [3] (tab0 x) = 0) (e : applyT [3] l x = (l', g, c, 0)) : checkT [3] l' = 0 := by
  have := apply_right h ho
  rw [e] at this; exact this
theorem apS1 {w : Int} (hw : 0 ≤ w ∧ w ≤ 1000) : ∃ g c, applyT [3] [] (insZ kK 0 1 5 w) = (lS [⟨0, 1⟩] (cA w), g, c, 0) := ⟨_, _, by rw [ap_nil form3 (oA hw)]; rfl⟩
theorem ckS1 {w : Int} (hw : 0 ≤ w ∧ w ≤ 1000) : checkT [3] (lS [⟨0, 1⟩] (cA w)) = 0 := by obtain ⟨g, c, h⟩ := apS1 hw; exact chkS (chk_nil form3) (oA hw) h
theorem apS2 {w : Int} (hw : 0 ≤ w ∧ w < 1000) : ∃ g c, applyT [3] (lS [⟨0, 1⟩] (cA w)) (insZ kK 1 1 7 (w + 1)) = (lS [⟨0, 1⟩, ⟨1, 1⟩] (cB (w + 1)), g, c, 0) := ⟨_, _, by rw [ap_one (ckS1 (w := w) (by omega)) (oB (w := w + 1) (by omega)) rfl]; rfl⟩
theorem ckS2 {w : Int} (hw : 0 ≤ w ∧ w < 1000) : checkT [3] (lS [⟨0, 1⟩, ⟨1, 1⟩] (cB (w + 1))) = 0 := by obtain ⟨g, c, h⟩ := apS2 hw; exact chkS (ckS1 (w := w) (by omega)) (oB (w := w + 1) (by omega)) h
theorem apS3 {w : Int} (hw : 0 ≤ w ∧ w < 1000) : ∃ g c, applyT [3] (lS [⟨0, 1⟩, ⟨1, 1⟩] (cB (w + 1))) (dZ [⟨0, 1⟩]) = (lS [⟨1, 1⟩] (cB (w + 1)), g, c, 0) := ⟨_, _, by rw [ap_one (ckS2 hw) (oD1) rfl]; rfl⟩
theorem ckS3 {w : Int} (hw : 0 ≤ w ∧ w < 1000) : checkT [3] (lS [⟨1, 1⟩] (cB (w + 1))) = 0 := by obtain ⟨g, c, h⟩ := apS3 hw; exact chkS (ckS2 hw) (oD1) h
theorem apS4 {w : Int} (hw : 0 ≤ w ∧ w < 1000) : ∃ g c, applyT [3] (lS [⟨0, 1⟩, ⟨1, 1⟩] (cB (w + 1))) (dZ [⟨0, 1⟩, ⟨1, 1⟩]) = (lS [] (cB (w + 1)), g, c, 0) := ⟨_, _, by rw [ap_one (ckS2 hw) (oD2) rfl]; rfl⟩
theorem ckS4 {w : Int} (hw : 0 ≤ w ∧ w < 1000) : checkT [3] (lS [] (cB (w + 1))) = 0 := by obtain ⟨g, c, h⟩ := apS4 hw; exact chkS (ckS2 hw) (oD2) h
theorem apS5 {w : Int} (hw : 0 ≤ w ∧ w < 1000) : ∃ g c, applyT [3] (lS [⟨0, 1⟩] (cA w)) (dZ [⟨0, 1⟩]) = (lS [] (cA w), g, c, 0) := ⟨_, _, by rw [ap_one (ckS1 (w := w) (by omega)) (oD1) rfl]; rfl⟩
theorem ckS5 {w : Int} (hw : 0 ≤ w ∧ w < 1000) : checkT [3] (lS [] (cA w)) = 0 := by obtain ⟨g, c, h⟩ := apS5 hw; exact chkS (ckS1 (w := w) (by omega)) (oD1) h
theorem apS6 {w : Int} (hw : 0 ≤ w ∧ w < 1000) : ∃ g c, applyT [3] (lS [] (cA w)) (insZ kK 1 1 7 (w + 1)) = (lS [⟨1, 1⟩] (cB (w + 1)), g, c, 0) := ⟨_, _, by rw [ap_one (ckS5 hw) (oB (w := w + 1) (by omega)) rfl]; rfl⟩
theorem ckS6 {w : Int} (hw : 0 ≤ w ∧ w < 1000) : checkT [3] (lS [⟨1, 1⟩] (cB (w + 1))) = 0 := by obtain ⟨g, c, h⟩ := apS6 hw; exact chkS (ckS5 hw) (oB (w := w + 1) (by omega)) h
theorem ia_2 (ob : OB) (k : Nat) (f : Fl) (q r s : List V) (l : List (List V)) : iaV ob k (.im f (q :: r :: s :: l)) 2 = if s.length = k then some (.bp s) else none := by
  simp [iaV]; omega
theorem TabStays_ok (first knew : Bool) (v : Int) : FnB Try.prog 5 [vb first, vb knew, vi v] (vb true) := by
  refine fnB_intro cf5 (by simp) ?_
  simp (config := {contextual := true, maxSteps := 1000000}) only [go_sem, ints, intRows, iv_c, Nat.reduceAdd, Nat.reduceBEq, Nat.reduceEqDiff, Nat.reduceLeDiff, Nat.reduceLT, reduceIte, Nat.le_refl, true_or, or_true, and_self, Int.reduceLE, Int.reduceLT, Int.reduceEq, Int.reduceNeg, Int.natCast_nonneg, Int.reduceToNat, ops, vals, dots, c5]
  obtain ⟨w, hw, hw2⟩ := modU v (k := 1000) (by omega)
  rw [hw]
  have hw1 : IntKind.i64.wrap ((w : Int) + 1) = (w : Int) + 1 := by rw [w64 (by omega)]
  have hww : 0 ≤ (w : Int) ∧ (w : Int) < 1000 := by omega
  obtain ⟨g1, e1, a1⟩ := apS1 (w := w) (by omega)
  obtain ⟨g2, e2, a2⟩ := apS2 hww
  obtain ⟨g3, e3, a3⟩ := apS3 hww
  obtain ⟨g4, e4, a4⟩ := apS4 hww
  obtain ⟨g5, e5, a5⟩ := apS5 hww
  obtain ⟨g6, e6, a6⟩ := apS6 hww
  have s3 := Seen_ok (fl := .b) [3] (lS [⟨1, 1⟩] (cB (w + 1 : Int))) (by simp [maxLen]) (by intro r h; simp at h; subst h; exact ⟨by simp [maxLen], by simp [maxLen]⟩) (by simp [maxLen])
  have s3e : seenT [3] (lS [⟨1, 1⟩] (cB (w + 1 : Int))) = [[⟨4, 0, kK⟩, ⟨3, w + 1, noS⟩]] := by unfold seenT; rw [if_neg (by rw [ckS3 hww]; simp)]; rfl
  rw [s3e] at s3
  have d3 := Dead_ok (fl := .b) (lS [⟨1, 1⟩] (cB (w + 1 : Int))) (by simp [maxLen])
  have d3e : deadT (lS [⟨1, 1⟩] (cB (w + 1 : Int))) = 0 := rfl
  rw [d3e] at d3
  have s4 := Seen_ok (fl := .b) [3] (lS [] (cB (w + 1 : Int))) (by simp [maxLen]) (by intro r h; simp at h; subst h; exact ⟨by simp [maxLen], by simp [maxLen]⟩) (by simp [maxLen])
  have s4e : seenT [3] (lS [] (cB (w + 1 : Int))) = [] := by unfold seenT; rw [if_neg (by rw [ckS4 hww]; simp)]; rfl
  rw [s4e] at s4
  have d4 := Dead_ok (fl := .b) (lS [] (cB (w + 1 : Int))) (by simp [maxLen])
  have d4e : deadT (lS [] (cB (w + 1 : Int))) = 1 := rfl
  rw [d4e] at d4
  cases knew <;> cases first
  · first | refine caS_i (ins_ok kK 0 1 5 w (by omega) (by omega)) trivial ?_ | refine caD_i (ins_ok kK 0 1 5 w (by omega) (by omega)) trivial ?_ | refine gC_i (fun _ => ins_ok kK 0 1 5 w (by omega) (by omega)) trivial ?_ | refine gCD_i (fun _ => ins_ok kK 0 1 5 w (by omega) (by omega)) trivial ?_ | refine caE_i (ins_ok kK 0 1 5 w (by omega) (by omega)) trivial ?_
    simp (config := {contextual := true, maxSteps := 1000000}) only [go_sem, ints, intRows, iv_c, Nat.reduceAdd, Nat.reduceBEq, Nat.reduceEqDiff, Nat.reduceLeDiff, Nat.reduceLT, reduceIte, Nat.le_refl, true_or, or_true, and_self, Int.reduceLE, Int.reduceLT, Int.reduceEq, Int.reduceNeg, Int.natCast_nonneg, Int.reduceToNat, ops, vals, dots, hw1]
    first | refine caS_i (ins_ok kK 1 1 7 (w + 1 : Int) (by omega) (by omega)) trivial ?_ | refine caD_i (ins_ok kK 1 1 7 (w + 1 : Int) (by omega) (by omega)) trivial ?_ | refine gC_i (fun _ => ins_ok kK 1 1 7 (w + 1 : Int) (by omega) (by omega)) trivial ?_ | refine gCD_i (fun _ => ins_ok kK 1 1 7 (w + 1 : Int) (by omega) (by omega)) trivial ?_ | refine caE_i (ins_ok kK 1 1 7 (w + 1 : Int) (by omega) (by omega)) trivial ?_
    simp (config := {contextual := true, maxSteps := 1000000}) only [go_sem, ints, intRows, iv_c, Nat.reduceAdd, Nat.reduceBEq, Nat.reduceEqDiff, Nat.reduceLeDiff, Nat.reduceLT, reduceIte, Nat.le_refl, true_or, or_true, and_self, Int.reduceLE, Int.reduceLT, Int.reduceEq, Int.reduceNeg, Int.natCast_nonneg, Int.reduceToNat, ops, vals, dots]
    skip
    rw [op_bsl_k3 (k := 12) _ _ rfl (opZ_row _) (opZ_row _) rfl]
    simp (config := {contextual := true, maxSteps := 1000000}) only [go_sem, ints, intRows, iv_c, Nat.reduceAdd, Nat.reduceBEq, Nat.reduceEqDiff, Nat.reduceLeDiff, Nat.reduceLT, reduceIte, Nat.le_refl, true_or, or_true, and_self, Int.reduceLE, Int.reduceLT, Int.reduceEq, Int.reduceNeg, Int.natCast_nonneg, Int.reduceToNat, ops, vals, dots]
    skip
    refine wpC_lp (fun env ob n => env 1 = vb false ∧ env 2 = vi w ∧ env 7 = .pt 3 0 0 ∧ env 11 = .im .b [opZ (insZ kK 0 1 5 w), opZ (insZ kK 1 1 7 (w + 1 : Int)), [vi 2, vi 1, ints .b [1, 1, 0], vi 9, vi 0, vi 2, vi 3, vi 0, .c (.string kK), vi 0, .z, .sl 23 0 1]] ∧ 25 < n ∧ ob 3 = some ⟨1, [[ints .b [3]]], none⟩ ∧ ob 23 = some ⟨2, [[vi 0, vi 1]], none⟩ ∧ 
      ((env 13 = vi 0 ∧ env 12 = .z) ∨ (env 13 = vi 1 ∧ env 12 = rws .b (lS [⟨0, 1⟩] (cA w))) ∨ (env 13 = vi 2 ∧ env 12 = rws .b (lS [⟨0, 1⟩, ⟨1, 1⟩] (cB (w + 1 : Int)))) ∨ (env 13 = vi 3 ∧ env 12 = rws .b (lS [⟨1, 1⟩] (cB (w + 1 : Int)))))) (fun env ob _ => (3 - iv (env 13)).toNat) ?_ ?_
    · simp (config := {contextual := true, maxSteps := 1000000}) only [go_sem, ints, intRows, iv_c, Nat.reduceAdd, Nat.reduceBEq, Nat.reduceEqDiff, Nat.reduceLeDiff, Nat.reduceLT, reduceIte, Nat.le_refl, true_or, or_true, and_self, Int.reduceLE, Int.reduceLT, Int.reduceEq, Int.reduceNeg, Int.natCast_nonneg, Int.reduceToNat, ops, vals, dots]
    · rintro env ob n ⟨h1, h2, h7, h11, hn, o3, o23, ⟨h13, h12⟩ | ⟨h13, h12⟩ | ⟨h13, h12⟩ | ⟨h13, h12⟩⟩
      · simp (config := {contextual := true, maxSteps := 1000000}) only [go_sem, ints, intRows, iv_c, Nat.reduceAdd, Nat.reduceBEq, Nat.reduceEqDiff, Nat.reduceLeDiff, Nat.reduceLT, reduceIte, Nat.le_refl, true_or, or_true, and_self, Int.reduceLE, Int.reduceLT, Int.reduceEq, Int.reduceNeg, Int.natCast_nonneg, Int.reduceToNat, ops, vals, dots, h1, h2, h7, h11, h12, h13, o3, o23, ia_h]
        first | refine caS_i (Step_ok a1 (by simp [maxLen]) (by simp) (by simp [maxLen]) (by simp [maxLen])) trivial ?_ | refine caD_i (Step_ok a1 (by simp [maxLen]) (by simp) (by simp [maxLen]) (by simp [maxLen])) trivial ?_ | refine gC_i (fun _ => Step_ok a1 (by simp [maxLen]) (by simp) (by simp [maxLen]) (by simp [maxLen])) trivial ?_ | refine gCD_i (fun _ => Step_ok a1 (by simp [maxLen]) (by simp) (by simp [maxLen]) (by simp [maxLen])) trivial ?_ | refine caE_i (Step_ok a1 (by simp [maxLen]) (by simp) (by simp [maxLen]) (by simp [maxLen])) trivial ?_
        simp (config := {contextual := true, maxSteps := 1000000}) only [go_sem, ints, intRows, iv_c, Nat.reduceAdd, Nat.reduceBEq, Nat.reduceEqDiff, Nat.reduceLeDiff, Nat.reduceLT, reduceIte, Nat.le_refl, true_or, or_true, and_self, Int.reduceLE, Int.reduceLT, Int.reduceEq, Int.reduceNeg, Int.natCast_nonneg, Int.reduceToNat, ops, vals, dots, h1, h2, h7, h11, h12, h13, o3, o23]
        exact ⟨⟨by omega, .inr (.inl ⟨rfl, rfl⟩)⟩, by decide⟩
      · simp (config := {contextual := true, maxSteps := 1000000}) only [go_sem, ints, intRows, iv_c, Nat.reduceAdd, Nat.reduceBEq, Nat.reduceEqDiff, Nat.reduceLeDiff, Nat.reduceLT, reduceIte, Nat.le_refl, true_or, or_true, and_self, Int.reduceLE, Int.reduceLT, Int.reduceEq, Int.reduceNeg, Int.natCast_nonneg, Int.reduceToNat, ops, vals, dots, h1, h2, h7, h11, h12, h13, o3, o23, ia_s, rws]
        first | refine caS_i (Step_ok a2 (by simp [maxLen]) (by simp [maxLen]) (by simp [maxLen]) (by simp [maxLen])) trivial ?_ | refine caD_i (Step_ok a2 (by simp [maxLen]) (by simp [maxLen]) (by simp [maxLen]) (by simp [maxLen])) trivial ?_ | refine gC_i (fun _ => Step_ok a2 (by simp [maxLen]) (by simp [maxLen]) (by simp [maxLen]) (by simp [maxLen])) trivial ?_ | refine gCD_i (fun _ => Step_ok a2 (by simp [maxLen]) (by simp [maxLen]) (by simp [maxLen]) (by simp [maxLen])) trivial ?_ | refine caE_i (Step_ok a2 (by simp [maxLen]) (by simp [maxLen]) (by simp [maxLen]) (by simp [maxLen])) trivial ?_
        simp (config := {contextual := true, maxSteps := 1000000}) only [go_sem, ints, intRows, iv_c, Nat.reduceAdd, Nat.reduceBEq, Nat.reduceEqDiff, Nat.reduceLeDiff, Nat.reduceLT, reduceIte, Nat.le_refl, true_or, or_true, and_self, Int.reduceLE, Int.reduceLT, Int.reduceEq, Int.reduceNeg, Int.natCast_nonneg, Int.reduceToNat, ops, vals, dots, h1, h2, h7, h11, h12, h13, o3, o23]
        exact ⟨⟨by omega, .inr (.inr (.inl ⟨rfl, rfl⟩))⟩, by decide⟩
      · simp (config := {contextual := true, maxSteps := 1000000}) only [go_sem, ints, intRows, iv_c, Nat.reduceAdd, Nat.reduceBEq, Nat.reduceEqDiff, Nat.reduceLeDiff, Nat.reduceLT, reduceIte, Nat.le_refl, true_or, or_true, and_self, Int.reduceLE, Int.reduceLT, Int.reduceEq, Int.reduceNeg, Int.natCast_nonneg, Int.reduceToNat, ops, vals, dots, h1, h2, h7, h11, h12, h13, o3, o23, ia_2, rws]
        first | refine caS_i (Step_ok a3 (by simp [maxLen]) (by simp [maxLen]) (by simp [maxLen]) (by simp [maxLen])) trivial ?_ | refine caD_i (Step_ok a3 (by simp [maxLen]) (by simp [maxLen]) (by simp [maxLen]) (by simp [maxLen])) trivial ?_ | refine gC_i (fun _ => Step_ok a3 (by simp [maxLen]) (by simp [maxLen]) (by simp [maxLen]) (by simp [maxLen])) trivial ?_ | refine gCD_i (fun _ => Step_ok a3 (by simp [maxLen]) (by simp [maxLen]) (by simp [maxLen]) (by simp [maxLen])) trivial ?_ | refine caE_i (Step_ok a3 (by simp [maxLen]) (by simp [maxLen]) (by simp [maxLen]) (by simp [maxLen])) trivial ?_
        simp (config := {contextual := true, maxSteps := 1000000}) only [go_sem, ints, intRows, iv_c, Nat.reduceAdd, Nat.reduceBEq, Nat.reduceEqDiff, Nat.reduceLeDiff, Nat.reduceLT, reduceIte, Nat.le_refl, true_or, or_true, and_self, Int.reduceLE, Int.reduceLT, Int.reduceEq, Int.reduceNeg, Int.natCast_nonneg, Int.reduceToNat, ops, vals, dots, h1, h2, h7, h11, h12, h13, o3, o23]
        exact ⟨⟨by omega, .inr (.inr (.inr ⟨rfl, rfl⟩))⟩, by decide⟩
      · simp (config := {contextual := true, maxSteps := 1000000}) only [go_sem, ints, intRows, iv_c, Nat.reduceAdd, Nat.reduceBEq, Nat.reduceEqDiff, Nat.reduceLeDiff, Nat.reduceLT, reduceIte, Nat.le_refl, true_or, or_true, and_self, Int.reduceLE, Int.reduceLT, Int.reduceEq, Int.reduceNeg, Int.natCast_nonneg, Int.reduceToNat, ops, vals, dots, h1, h2, h7, h11, h12, h13, o3, o23, rws]
        first | refine caS_i (s3) trivial ?_ | refine caD_i (s3) trivial ?_ | refine gC_i (fun _ => s3) trivial ?_ | refine gCD_i (fun _ => s3) trivial ?_ | refine caE_i (s3) trivial ?_
        simp (config := {contextual := true, maxSteps := 1000000}) only [go_sem, ints, intRows, iv_c, Nat.reduceAdd, Nat.reduceBEq, Nat.reduceEqDiff, Nat.reduceLeDiff, Nat.reduceLT, reduceIte, Nat.le_refl, true_or, or_true, and_self, Int.reduceLE, Int.reduceLT, Int.reduceEq, Int.reduceNeg, Int.natCast_nonneg, Int.reduceToNat, ops, vals, dots, h1, h2, h7, h11, h12, h13, o3, o23, valRows, List.map_cons, List.map_nil, ia_h, ia_s, hw1, rws]
        first | refine caS_i (d3) trivial ?_ | refine caD_i (d3) trivial ?_ | refine gC_i (fun _ => d3) trivial ?_ | refine gCD_i (fun _ => d3) trivial ?_ | refine caE_i (d3) trivial ?_
        simp (config := {contextual := true, maxSteps := 1000000}) only [go_sem, ints, intRows, iv_c, Nat.reduceAdd, Nat.reduceBEq, Nat.reduceEqDiff, Nat.reduceLeDiff, Nat.reduceLT, reduceIte, Nat.le_refl, true_or, or_true, and_self, Int.reduceLE, Int.reduceLT, Int.reduceEq, Int.reduceNeg, Int.natCast_nonneg, Int.reduceToNat, ops, vals, dots, h1, h2, h7, h11, h12, h13, o3, o23, valRows, List.map_cons, List.map_nil, ia_h, ia_s, hw1, rws]
        first | refine caS_i (wakes13_ok) trivial ?_ | refine caD_i (wakes13_ok) trivial ?_ | refine gC_i (fun _ => wakes13_ok) trivial ?_ | refine gCD_i (fun _ => wakes13_ok) trivial ?_ | refine caE_i (wakes13_ok) trivial ?_
        simp (config := {contextual := true, maxSteps := 1000000}) only [go_sem, ints, intRows, iv_c, Nat.reduceAdd, Nat.reduceBEq, Nat.reduceEqDiff, Nat.reduceLeDiff, Nat.reduceLT, reduceIte, Nat.le_refl, true_or, or_true, and_self, Int.reduceLE, Int.reduceLT, Int.reduceEq, Int.reduceNeg, Int.natCast_nonneg, Int.reduceToNat, ops, vals, dots]
  · first | refine caS_i (ins_ok kK 0 1 5 w (by omega) (by omega)) trivial ?_ | refine caD_i (ins_ok kK 0 1 5 w (by omega) (by omega)) trivial ?_ | refine gC_i (fun _ => ins_ok kK 0 1 5 w (by omega) (by omega)) trivial ?_ | refine gCD_i (fun _ => ins_ok kK 0 1 5 w (by omega) (by omega)) trivial ?_ | refine caE_i (ins_ok kK 0 1 5 w (by omega) (by omega)) trivial ?_
    simp (config := {contextual := true, maxSteps := 1000000}) only [go_sem, ints, intRows, iv_c, Nat.reduceAdd, Nat.reduceBEq, Nat.reduceEqDiff, Nat.reduceLeDiff, Nat.reduceLT, reduceIte, Nat.le_refl, true_or, or_true, and_self, Int.reduceLE, Int.reduceLT, Int.reduceEq, Int.reduceNeg, Int.natCast_nonneg, Int.reduceToNat, ops, vals, dots, hw1]
    first | refine caS_i (ins_ok kK 1 1 7 (w + 1 : Int) (by omega) (by omega)) trivial ?_ | refine caD_i (ins_ok kK 1 1 7 (w + 1 : Int) (by omega) (by omega)) trivial ?_ | refine gC_i (fun _ => ins_ok kK 1 1 7 (w + 1 : Int) (by omega) (by omega)) trivial ?_ | refine gCD_i (fun _ => ins_ok kK 1 1 7 (w + 1 : Int) (by omega) (by omega)) trivial ?_ | refine caE_i (ins_ok kK 1 1 7 (w + 1 : Int) (by omega) (by omega)) trivial ?_
    simp (config := {contextual := true, maxSteps := 1000000}) only [go_sem, ints, intRows, iv_c, Nat.reduceAdd, Nat.reduceBEq, Nat.reduceEqDiff, Nat.reduceLeDiff, Nat.reduceLT, reduceIte, Nat.le_refl, true_or, or_true, and_self, Int.reduceLE, Int.reduceLT, Int.reduceEq, Int.reduceNeg, Int.natCast_nonneg, Int.reduceToNat, ops, vals, dots]
    skip
    rw [op_bsl_k3 (k := 12) _ _ rfl (opZ_row _) (opZ_row _) rfl]
    simp (config := {contextual := true, maxSteps := 1000000}) only [go_sem, ints, intRows, iv_c, Nat.reduceAdd, Nat.reduceBEq, Nat.reduceEqDiff, Nat.reduceLeDiff, Nat.reduceLT, reduceIte, Nat.le_refl, true_or, or_true, and_self, Int.reduceLE, Int.reduceLT, Int.reduceEq, Int.reduceNeg, Int.natCast_nonneg, Int.reduceToNat, ops, vals, dots]
    (rw [op_bsl_k3 (k := 12) _ _ rfl (opZ_row _) rfl (opZ_row _)]; simp (config := {contextual := true, maxSteps := 1000000}) only [go_sem, ints, intRows, iv_c, Nat.reduceAdd, Nat.reduceBEq, Nat.reduceEqDiff, Nat.reduceLeDiff, Nat.reduceLT, reduceIte, Nat.le_refl, true_or, or_true, and_self, Int.reduceLE, Int.reduceLT, Int.reduceEq, Int.reduceNeg, Int.natCast_nonneg, Int.reduceToNat, ops, vals, dots])
    refine wpC_lp (fun env ob n => env 1 = vb false ∧ env 2 = vi w ∧ env 7 = .pt 3 0 0 ∧ env 11 = .im .b [opZ (insZ kK 0 1 5 w), [vi 2, vi 1, ints .b [1, 1, 0], vi 9, vi 0, vi 2, vi 3, vi 0, .c (.string kK), vi 0, .z, .sl 23 0 1], opZ (insZ kK 1 1 7 (w + 1 : Int))] ∧ 25 < n ∧ ob 3 = some ⟨1, [[ints .b [3]]], none⟩ ∧ ob 23 = some ⟨2, [[vi 0, vi 1]], none⟩ ∧ 
      ((env 13 = vi 0 ∧ env 12 = .z) ∨ (env 13 = vi 1 ∧ env 12 = rws .b (lS [⟨0, 1⟩] (cA w))) ∨ (env 13 = vi 2 ∧ env 12 = rws .b (lS [] (cA w))) ∨ (env 13 = vi 3 ∧ env 12 = rws .b (lS [⟨1, 1⟩] (cB (w + 1 : Int)))))) (fun env ob _ => (3 - iv (env 13)).toNat) ?_ ?_
    · simp (config := {contextual := true, maxSteps := 1000000}) only [go_sem, ints, intRows, iv_c, Nat.reduceAdd, Nat.reduceBEq, Nat.reduceEqDiff, Nat.reduceLeDiff, Nat.reduceLT, reduceIte, Nat.le_refl, true_or, or_true, and_self, Int.reduceLE, Int.reduceLT, Int.reduceEq, Int.reduceNeg, Int.natCast_nonneg, Int.reduceToNat, ops, vals, dots]
    · rintro env ob n ⟨h1, h2, h7, h11, hn, o3, o23, ⟨h13, h12⟩ | ⟨h13, h12⟩ | ⟨h13, h12⟩ | ⟨h13, h12⟩⟩
      · simp (config := {contextual := true, maxSteps := 1000000}) only [go_sem, ints, intRows, iv_c, Nat.reduceAdd, Nat.reduceBEq, Nat.reduceEqDiff, Nat.reduceLeDiff, Nat.reduceLT, reduceIte, Nat.le_refl, true_or, or_true, and_self, Int.reduceLE, Int.reduceLT, Int.reduceEq, Int.reduceNeg, Int.natCast_nonneg, Int.reduceToNat, ops, vals, dots, h1, h2, h7, h11, h12, h13, o3, o23, ia_h]
        first | refine caS_i (Step_ok a1 (by simp [maxLen]) (by simp) (by simp [maxLen]) (by simp [maxLen])) trivial ?_ | refine caD_i (Step_ok a1 (by simp [maxLen]) (by simp) (by simp [maxLen]) (by simp [maxLen])) trivial ?_ | refine gC_i (fun _ => Step_ok a1 (by simp [maxLen]) (by simp) (by simp [maxLen]) (by simp [maxLen])) trivial ?_ | refine gCD_i (fun _ => Step_ok a1 (by simp [maxLen]) (by simp) (by simp [maxLen]) (by simp [maxLen])) trivial ?_ | refine caE_i (Step_ok a1 (by simp [maxLen]) (by simp) (by simp [maxLen]) (by simp [maxLen])) trivial ?_
        simp (config := {contextual := true, maxSteps := 1000000}) only [go_sem, ints, intRows, iv_c, Nat.reduceAdd, Nat.reduceBEq, Nat.reduceEqDiff, Nat.reduceLeDiff, Nat.reduceLT, reduceIte, Nat.le_refl, true_or, or_true, and_self, Int.reduceLE, Int.reduceLT, Int.reduceEq, Int.reduceNeg, Int.natCast_nonneg, Int.reduceToNat, ops, vals, dots, h1, h2, h7, h11, h12, h13, o3, o23]
        exact ⟨⟨by omega, .inr (.inl ⟨rfl, rfl⟩)⟩, by decide⟩
      · simp (config := {contextual := true, maxSteps := 1000000}) only [go_sem, ints, intRows, iv_c, Nat.reduceAdd, Nat.reduceBEq, Nat.reduceEqDiff, Nat.reduceLeDiff, Nat.reduceLT, reduceIte, Nat.le_refl, true_or, or_true, and_self, Int.reduceLE, Int.reduceLT, Int.reduceEq, Int.reduceNeg, Int.natCast_nonneg, Int.reduceToNat, ops, vals, dots, h1, h2, h7, h11, h12, h13, o3, o23, ia_s, rws]
        first | refine caS_i (Step_ok a5 (by simp [maxLen]) (by simp [maxLen]) (by simp [maxLen]) (by simp [maxLen])) trivial ?_ | refine caD_i (Step_ok a5 (by simp [maxLen]) (by simp [maxLen]) (by simp [maxLen]) (by simp [maxLen])) trivial ?_ | refine gC_i (fun _ => Step_ok a5 (by simp [maxLen]) (by simp [maxLen]) (by simp [maxLen]) (by simp [maxLen])) trivial ?_ | refine gCD_i (fun _ => Step_ok a5 (by simp [maxLen]) (by simp [maxLen]) (by simp [maxLen]) (by simp [maxLen])) trivial ?_ | refine caE_i (Step_ok a5 (by simp [maxLen]) (by simp [maxLen]) (by simp [maxLen]) (by simp [maxLen])) trivial ?_
        simp (config := {contextual := true, maxSteps := 1000000}) only [go_sem, ints, intRows, iv_c, Nat.reduceAdd, Nat.reduceBEq, Nat.reduceEqDiff, Nat.reduceLeDiff, Nat.reduceLT, reduceIte, Nat.le_refl, true_or, or_true, and_self, Int.reduceLE, Int.reduceLT, Int.reduceEq, Int.reduceNeg, Int.natCast_nonneg, Int.reduceToNat, ops, vals, dots, h1, h2, h7, h11, h12, h13, o3, o23]
        exact ⟨⟨by omega, .inr (.inr (.inl ⟨rfl, rfl⟩))⟩, by decide⟩
      · simp (config := {contextual := true, maxSteps := 1000000}) only [go_sem, ints, intRows, iv_c, Nat.reduceAdd, Nat.reduceBEq, Nat.reduceEqDiff, Nat.reduceLeDiff, Nat.reduceLT, reduceIte, Nat.le_refl, true_or, or_true, and_self, Int.reduceLE, Int.reduceLT, Int.reduceEq, Int.reduceNeg, Int.natCast_nonneg, Int.reduceToNat, ops, vals, dots, h1, h2, h7, h11, h12, h13, o3, o23, ia_2, rws]
        first | refine caS_i (Step_ok a6 (by simp [maxLen]) (by simp [maxLen]) (by simp [maxLen]) (by simp [maxLen])) trivial ?_ | refine caD_i (Step_ok a6 (by simp [maxLen]) (by simp [maxLen]) (by simp [maxLen]) (by simp [maxLen])) trivial ?_ | refine gC_i (fun _ => Step_ok a6 (by simp [maxLen]) (by simp [maxLen]) (by simp [maxLen]) (by simp [maxLen])) trivial ?_ | refine gCD_i (fun _ => Step_ok a6 (by simp [maxLen]) (by simp [maxLen]) (by simp [maxLen]) (by simp [maxLen])) trivial ?_ | refine caE_i (Step_ok a6 (by simp [maxLen]) (by simp [maxLen]) (by simp [maxLen]) (by simp [maxLen])) trivial ?_
        simp (config := {contextual := true, maxSteps := 1000000}) only [go_sem, ints, intRows, iv_c, Nat.reduceAdd, Nat.reduceBEq, Nat.reduceEqDiff, Nat.reduceLeDiff, Nat.reduceLT, reduceIte, Nat.le_refl, true_or, or_true, and_self, Int.reduceLE, Int.reduceLT, Int.reduceEq, Int.reduceNeg, Int.natCast_nonneg, Int.reduceToNat, ops, vals, dots, h1, h2, h7, h11, h12, h13, o3, o23]
        exact ⟨⟨by omega, .inr (.inr (.inr ⟨rfl, rfl⟩))⟩, by decide⟩
      · simp (config := {contextual := true, maxSteps := 1000000}) only [go_sem, ints, intRows, iv_c, Nat.reduceAdd, Nat.reduceBEq, Nat.reduceEqDiff, Nat.reduceLeDiff, Nat.reduceLT, reduceIte, Nat.le_refl, true_or, or_true, and_self, Int.reduceLE, Int.reduceLT, Int.reduceEq, Int.reduceNeg, Int.natCast_nonneg, Int.reduceToNat, ops, vals, dots, h1, h2, h7, h11, h12, h13, o3, o23, rws]
        first | refine caS_i (s3) trivial ?_ | refine caD_i (s3) trivial ?_ | refine gC_i (fun _ => s3) trivial ?_ | refine gCD_i (fun _ => s3) trivial ?_ | refine caE_i (s3) trivial ?_
        simp (config := {contextual := true, maxSteps := 1000000}) only [go_sem, ints, intRows, iv_c, Nat.reduceAdd, Nat.reduceBEq, Nat.reduceEqDiff, Nat.reduceLeDiff, Nat.reduceLT, reduceIte, Nat.le_refl, true_or, or_true, and_self, Int.reduceLE, Int.reduceLT, Int.reduceEq, Int.reduceNeg, Int.natCast_nonneg, Int.reduceToNat, ops, vals, dots, h1, h2, h7, h11, h12, h13, o3, o23, valRows, List.map_cons, List.map_nil, ia_h, ia_s, hw1, rws]
        first | refine caS_i (d3) trivial ?_ | refine caD_i (d3) trivial ?_ | refine gC_i (fun _ => d3) trivial ?_ | refine gCD_i (fun _ => d3) trivial ?_ | refine caE_i (d3) trivial ?_
        simp (config := {contextual := true, maxSteps := 1000000}) only [go_sem, ints, intRows, iv_c, Nat.reduceAdd, Nat.reduceBEq, Nat.reduceEqDiff, Nat.reduceLeDiff, Nat.reduceLT, reduceIte, Nat.le_refl, true_or, or_true, and_self, Int.reduceLE, Int.reduceLT, Int.reduceEq, Int.reduceNeg, Int.natCast_nonneg, Int.reduceToNat, ops, vals, dots, h1, h2, h7, h11, h12, h13, o3, o23, valRows, List.map_cons, List.map_nil, ia_h, ia_s, hw1, rws]
        first | refine caS_i (wakes13_ok) trivial ?_ | refine caD_i (wakes13_ok) trivial ?_ | refine gC_i (fun _ => wakes13_ok) trivial ?_ | refine gCD_i (fun _ => wakes13_ok) trivial ?_ | refine caE_i (wakes13_ok) trivial ?_
        simp (config := {contextual := true, maxSteps := 1000000}) only [go_sem, ints, intRows, iv_c, Nat.reduceAdd, Nat.reduceBEq, Nat.reduceEqDiff, Nat.reduceLeDiff, Nat.reduceLT, reduceIte, Nat.le_refl, true_or, or_true, and_self, Int.reduceLE, Int.reduceLT, Int.reduceEq, Int.reduceNeg, Int.natCast_nonneg, Int.reduceToNat, ops, vals, dots]
  · first | refine caS_i (ins_ok kK 0 1 5 w (by omega) (by omega)) trivial ?_ | refine caD_i (ins_ok kK 0 1 5 w (by omega) (by omega)) trivial ?_ | refine gC_i (fun _ => ins_ok kK 0 1 5 w (by omega) (by omega)) trivial ?_ | refine gCD_i (fun _ => ins_ok kK 0 1 5 w (by omega) (by omega)) trivial ?_ | refine caE_i (ins_ok kK 0 1 5 w (by omega) (by omega)) trivial ?_
    simp (config := {contextual := true, maxSteps := 1000000}) only [go_sem, ints, intRows, iv_c, Nat.reduceAdd, Nat.reduceBEq, Nat.reduceEqDiff, Nat.reduceLeDiff, Nat.reduceLT, reduceIte, Nat.le_refl, true_or, or_true, and_self, Int.reduceLE, Int.reduceLT, Int.reduceEq, Int.reduceNeg, Int.natCast_nonneg, Int.reduceToNat, ops, vals, dots, hw1]
    first | refine caS_i (ins_ok kK 1 1 7 (w + 1 : Int) (by omega) (by omega)) trivial ?_ | refine caD_i (ins_ok kK 1 1 7 (w + 1 : Int) (by omega) (by omega)) trivial ?_ | refine gC_i (fun _ => ins_ok kK 1 1 7 (w + 1 : Int) (by omega) (by omega)) trivial ?_ | refine gCD_i (fun _ => ins_ok kK 1 1 7 (w + 1 : Int) (by omega) (by omega)) trivial ?_ | refine caE_i (ins_ok kK 1 1 7 (w + 1 : Int) (by omega) (by omega)) trivial ?_
    simp (config := {contextual := true, maxSteps := 1000000}) only [go_sem, ints, intRows, iv_c, Nat.reduceAdd, Nat.reduceBEq, Nat.reduceEqDiff, Nat.reduceLeDiff, Nat.reduceLT, reduceIte, Nat.le_refl, true_or, or_true, and_self, Int.reduceLE, Int.reduceLT, Int.reduceEq, Int.reduceNeg, Int.natCast_nonneg, Int.reduceToNat, ops, vals, dots]
    (refine nxS_new (.inr ⟨23, none, rfl, rfl⟩) (by simp) rfl rfl (by simp [maxLen]) fun ob' q1 q2 => ?_; have q25 : ob' 25 = some ⟨12, [[vi 2, vi 1, ints .b [1, 1, 0], vi 9, vi 0, vi 2, vi 3, vi 0, .c (.string kK), vi 0, .z, .sl 23 0 1]], none⟩ := (q2 25 (by decide) (by intro len; simp)).trans rfl; have q15 : ob' 15 = some ⟨12, [opZ (insZ kK 0 1 5 w)], none⟩ := (q2 15 (by decide) (by intro len; simp)).trans rfl; have q16 : ob' 16 = some ⟨12, [opZ (insZ kK 1 1 7 (w + 1 : Int))], none⟩ := (q2 16 (by decide) (by intro len; simp)).trans rfl; have q3 : ob' 3 = some ⟨1, [[ints .b [3]]], none⟩ := (q2 3 (by decide) (by intro len; simp)).trans rfl; simp (config := {contextual := true, maxSteps := 1000000}) only [go_sem, ints, intRows, iv_c, Nat.reduceAdd, Nat.reduceBEq, Nat.reduceEqDiff, Nat.reduceLeDiff, Nat.reduceLT, reduceIte, Nat.le_refl, true_or, or_true, and_self, Int.reduceLE, Int.reduceLT, Int.reduceEq, Int.reduceNeg, Int.natCast_nonneg, Int.reduceToNat, ops, vals, dots, q1, q25, q15, q16, q3])
    rw [op_bsl_k3 (k := 12) _ _ rfl (opZ_row _) (opZ_row _) rfl]
    simp (config := {contextual := true, maxSteps := 1000000}) only [go_sem, ints, intRows, iv_c, Nat.reduceAdd, Nat.reduceBEq, Nat.reduceEqDiff, Nat.reduceLeDiff, Nat.reduceLT, reduceIte, Nat.le_refl, true_or, or_true, and_self, Int.reduceLE, Int.reduceLT, Int.reduceEq, Int.reduceNeg, Int.natCast_nonneg, Int.reduceToNat, ops, vals, dots]
    skip
    refine wpC_lp (fun env ob n => env 1 = vb true ∧ env 2 = vi w ∧ env 7 = .pt 3 0 0 ∧ env 11 = .im .b [opZ (insZ kK 0 1 5 w), opZ (insZ kK 1 1 7 (w + 1 : Int)), [vi 2, vi 1, ints .b [1, 1, 0], vi 9, vi 0, vi 2, vi 3, vi 0, .c (.string kK), vi 0, .z, .sl 32 0 2]] ∧ 25 < n ∧ ob 3 = some ⟨1, [[ints .b [3]]], none⟩ ∧ ob 32 = some ⟨2, [[vi 0, vi 1], [vi 1, vi 1]], none⟩ ∧ 
      ((env 13 = vi 0 ∧ env 12 = .z) ∨ (env 13 = vi 1 ∧ env 12 = rws .b (lS [⟨0, 1⟩] (cA w))) ∨ (env 13 = vi 2 ∧ env 12 = rws .b (lS [⟨0, 1⟩, ⟨1, 1⟩] (cB (w + 1 : Int)))) ∨ (env 13 = vi 3 ∧ env 12 = rws .b (lS [] (cB (w + 1 : Int)))))) (fun env ob _ => (3 - iv (env 13)).toNat) ?_ ?_
    · (simp (config := {contextual := true, maxSteps := 1000000}) only [go_sem, ints, intRows, iv_c, Nat.reduceAdd, Nat.reduceBEq, Nat.reduceEqDiff, Nat.reduceLeDiff, Nat.reduceLT, reduceIte, Nat.le_refl, true_or, or_true, and_self, Int.reduceLE, Int.reduceLT, Int.reduceEq, Int.reduceNeg, Int.natCast_nonneg, Int.reduceToNat, ops, vals, dots]; exact ⟨q3, q1⟩)
    · rintro env ob n ⟨h1, h2, h7, h11, hn, o3, o23, ⟨h13, h12⟩ | ⟨h13, h12⟩ | ⟨h13, h12⟩ | ⟨h13, h12⟩⟩
      · simp (config := {contextual := true, maxSteps := 1000000}) only [go_sem, ints, intRows, iv_c, Nat.reduceAdd, Nat.reduceBEq, Nat.reduceEqDiff, Nat.reduceLeDiff, Nat.reduceLT, reduceIte, Nat.le_refl, true_or, or_true, and_self, Int.reduceLE, Int.reduceLT, Int.reduceEq, Int.reduceNeg, Int.natCast_nonneg, Int.reduceToNat, ops, vals, dots, h1, h2, h7, h11, h12, h13, o3, o23, ia_h]
        first | refine caS_i (Step_ok a1 (by simp [maxLen]) (by simp) (by simp [maxLen]) (by simp [maxLen])) trivial ?_ | refine caD_i (Step_ok a1 (by simp [maxLen]) (by simp) (by simp [maxLen]) (by simp [maxLen])) trivial ?_ | refine gC_i (fun _ => Step_ok a1 (by simp [maxLen]) (by simp) (by simp [maxLen]) (by simp [maxLen])) trivial ?_ | refine gCD_i (fun _ => Step_ok a1 (by simp [maxLen]) (by simp) (by simp [maxLen]) (by simp [maxLen])) trivial ?_ | refine caE_i (Step_ok a1 (by simp [maxLen]) (by simp) (by simp [maxLen]) (by simp [maxLen])) trivial ?_
        simp (config := {contextual := true, maxSteps := 1000000}) only [go_sem, ints, intRows, iv_c, Nat.reduceAdd, Nat.reduceBEq, Nat.reduceEqDiff, Nat.reduceLeDiff, Nat.reduceLT, reduceIte, Nat.le_refl, true_or, or_true, and_self, Int.reduceLE, Int.reduceLT, Int.reduceEq, Int.reduceNeg, Int.natCast_nonneg, Int.reduceToNat, ops, vals, dots, h1, h2, h7, h11, h12, h13, o3, o23]
        exact ⟨⟨by omega, .inr (.inl ⟨rfl, rfl⟩)⟩, by decide⟩
      · simp (config := {contextual := true, maxSteps := 1000000}) only [go_sem, ints, intRows, iv_c, Nat.reduceAdd, Nat.reduceBEq, Nat.reduceEqDiff, Nat.reduceLeDiff, Nat.reduceLT, reduceIte, Nat.le_refl, true_or, or_true, and_self, Int.reduceLE, Int.reduceLT, Int.reduceEq, Int.reduceNeg, Int.natCast_nonneg, Int.reduceToNat, ops, vals, dots, h1, h2, h7, h11, h12, h13, o3, o23, ia_s, rws]
        first | refine caS_i (Step_ok a2 (by simp [maxLen]) (by simp [maxLen]) (by simp [maxLen]) (by simp [maxLen])) trivial ?_ | refine caD_i (Step_ok a2 (by simp [maxLen]) (by simp [maxLen]) (by simp [maxLen]) (by simp [maxLen])) trivial ?_ | refine gC_i (fun _ => Step_ok a2 (by simp [maxLen]) (by simp [maxLen]) (by simp [maxLen]) (by simp [maxLen])) trivial ?_ | refine gCD_i (fun _ => Step_ok a2 (by simp [maxLen]) (by simp [maxLen]) (by simp [maxLen]) (by simp [maxLen])) trivial ?_ | refine caE_i (Step_ok a2 (by simp [maxLen]) (by simp [maxLen]) (by simp [maxLen]) (by simp [maxLen])) trivial ?_
        simp (config := {contextual := true, maxSteps := 1000000}) only [go_sem, ints, intRows, iv_c, Nat.reduceAdd, Nat.reduceBEq, Nat.reduceEqDiff, Nat.reduceLeDiff, Nat.reduceLT, reduceIte, Nat.le_refl, true_or, or_true, and_self, Int.reduceLE, Int.reduceLT, Int.reduceEq, Int.reduceNeg, Int.natCast_nonneg, Int.reduceToNat, ops, vals, dots, h1, h2, h7, h11, h12, h13, o3, o23]
        exact ⟨⟨by omega, .inr (.inr (.inl ⟨rfl, rfl⟩))⟩, by decide⟩
      · simp (config := {contextual := true, maxSteps := 1000000}) only [go_sem, ints, intRows, iv_c, Nat.reduceAdd, Nat.reduceBEq, Nat.reduceEqDiff, Nat.reduceLeDiff, Nat.reduceLT, reduceIte, Nat.le_refl, true_or, or_true, and_self, Int.reduceLE, Int.reduceLT, Int.reduceEq, Int.reduceNeg, Int.natCast_nonneg, Int.reduceToNat, ops, vals, dots, h1, h2, h7, h11, h12, h13, o3, o23, ia_2, rws]
        first | refine caS_i (Step_ok a4 (by simp [maxLen]) (by simp [maxLen]) (by simp [maxLen]) (by simp [maxLen])) trivial ?_ | refine caD_i (Step_ok a4 (by simp [maxLen]) (by simp [maxLen]) (by simp [maxLen]) (by simp [maxLen])) trivial ?_ | refine gC_i (fun _ => Step_ok a4 (by simp [maxLen]) (by simp [maxLen]) (by simp [maxLen]) (by simp [maxLen])) trivial ?_ | refine gCD_i (fun _ => Step_ok a4 (by simp [maxLen]) (by simp [maxLen]) (by simp [maxLen]) (by simp [maxLen])) trivial ?_ | refine caE_i (Step_ok a4 (by simp [maxLen]) (by simp [maxLen]) (by simp [maxLen]) (by simp [maxLen])) trivial ?_
        simp (config := {contextual := true, maxSteps := 1000000}) only [go_sem, ints, intRows, iv_c, Nat.reduceAdd, Nat.reduceBEq, Nat.reduceEqDiff, Nat.reduceLeDiff, Nat.reduceLT, reduceIte, Nat.le_refl, true_or, or_true, and_self, Int.reduceLE, Int.reduceLT, Int.reduceEq, Int.reduceNeg, Int.natCast_nonneg, Int.reduceToNat, ops, vals, dots, h1, h2, h7, h11, h12, h13, o3, o23]
        exact ⟨⟨by omega, .inr (.inr (.inr ⟨rfl, rfl⟩))⟩, by decide⟩
      · simp (config := {contextual := true, maxSteps := 1000000}) only [go_sem, ints, intRows, iv_c, Nat.reduceAdd, Nat.reduceBEq, Nat.reduceEqDiff, Nat.reduceLeDiff, Nat.reduceLT, reduceIte, Nat.le_refl, true_or, or_true, and_self, Int.reduceLE, Int.reduceLT, Int.reduceEq, Int.reduceNeg, Int.natCast_nonneg, Int.reduceToNat, ops, vals, dots, h1, h2, h7, h11, h12, h13, o3, o23, rws]
        first | refine caS_i (s4) trivial ?_ | refine caD_i (s4) trivial ?_ | refine gC_i (fun _ => s4) trivial ?_ | refine gCD_i (fun _ => s4) trivial ?_ | refine caE_i (s4) trivial ?_
        simp (config := {contextual := true, maxSteps := 1000000}) only [go_sem, ints, intRows, iv_c, Nat.reduceAdd, Nat.reduceBEq, Nat.reduceEqDiff, Nat.reduceLeDiff, Nat.reduceLT, reduceIte, Nat.le_refl, true_or, or_true, and_self, Int.reduceLE, Int.reduceLT, Int.reduceEq, Int.reduceNeg, Int.natCast_nonneg, Int.reduceToNat, ops, vals, dots, h1, h2, h7, h11, h12, h13, o3, o23, valRows, List.map_cons, List.map_nil, ia_h, ia_s, hw1, rws]
        first | refine caS_i (d4) trivial ?_ | refine caD_i (d4) trivial ?_ | refine gC_i (fun _ => d4) trivial ?_ | refine gCD_i (fun _ => d4) trivial ?_ | refine caE_i (d4) trivial ?_
        simp (config := {contextual := true, maxSteps := 1000000}) only [go_sem, ints, intRows, iv_c, Nat.reduceAdd, Nat.reduceBEq, Nat.reduceEqDiff, Nat.reduceLeDiff, Nat.reduceLT, reduceIte, Nat.le_refl, true_or, or_true, and_self, Int.reduceLE, Int.reduceLT, Int.reduceEq, Int.reduceNeg, Int.natCast_nonneg, Int.reduceToNat, ops, vals, dots, h1, h2, h7, h11, h12, h13, o3, o23, valRows, List.map_cons, List.map_nil, ia_h, ia_s, hw1, rws]
        first | refine caS_i (wakes13_ok) trivial ?_ | refine caD_i (wakes13_ok) trivial ?_ | refine gC_i (fun _ => wakes13_ok) trivial ?_ | refine gCD_i (fun _ => wakes13_ok) trivial ?_ | refine caE_i (wakes13_ok) trivial ?_
        simp (config := {contextual := true, maxSteps := 1000000}) only [go_sem, ints, intRows, iv_c, Nat.reduceAdd, Nat.reduceBEq, Nat.reduceEqDiff, Nat.reduceLeDiff, Nat.reduceLT, reduceIte, Nat.le_refl, true_or, or_true, and_self, Int.reduceLE, Int.reduceLT, Int.reduceEq, Int.reduceNeg, Int.natCast_nonneg, Int.reduceToNat, ops, vals, dots]
  · first | refine caS_i (ins_ok kK 0 1 5 w (by omega) (by omega)) trivial ?_ | refine caD_i (ins_ok kK 0 1 5 w (by omega) (by omega)) trivial ?_ | refine gC_i (fun _ => ins_ok kK 0 1 5 w (by omega) (by omega)) trivial ?_ | refine gCD_i (fun _ => ins_ok kK 0 1 5 w (by omega) (by omega)) trivial ?_ | refine caE_i (ins_ok kK 0 1 5 w (by omega) (by omega)) trivial ?_
    simp (config := {contextual := true, maxSteps := 1000000}) only [go_sem, ints, intRows, iv_c, Nat.reduceAdd, Nat.reduceBEq, Nat.reduceEqDiff, Nat.reduceLeDiff, Nat.reduceLT, reduceIte, Nat.le_refl, true_or, or_true, and_self, Int.reduceLE, Int.reduceLT, Int.reduceEq, Int.reduceNeg, Int.natCast_nonneg, Int.reduceToNat, ops, vals, dots, hw1]
    first | refine caS_i (ins_ok kK 1 1 7 (w + 1 : Int) (by omega) (by omega)) trivial ?_ | refine caD_i (ins_ok kK 1 1 7 (w + 1 : Int) (by omega) (by omega)) trivial ?_ | refine gC_i (fun _ => ins_ok kK 1 1 7 (w + 1 : Int) (by omega) (by omega)) trivial ?_ | refine gCD_i (fun _ => ins_ok kK 1 1 7 (w + 1 : Int) (by omega) (by omega)) trivial ?_ | refine caE_i (ins_ok kK 1 1 7 (w + 1 : Int) (by omega) (by omega)) trivial ?_
    simp (config := {contextual := true, maxSteps := 1000000}) only [go_sem, ints, intRows, iv_c, Nat.reduceAdd, Nat.reduceBEq, Nat.reduceEqDiff, Nat.reduceLeDiff, Nat.reduceLT, reduceIte, Nat.le_refl, true_or, or_true, and_self, Int.reduceLE, Int.reduceLT, Int.reduceEq, Int.reduceNeg, Int.natCast_nonneg, Int.reduceToNat, ops, vals, dots]
    (refine nxS_new (.inr ⟨23, none, rfl, rfl⟩) (by simp) rfl rfl (by simp [maxLen]) fun ob' q1 q2 => ?_; have q25 : ob' 25 = some ⟨12, [[vi 2, vi 1, ints .b [1, 1, 0], vi 9, vi 0, vi 2, vi 3, vi 0, .c (.string kK), vi 0, .z, .sl 23 0 1]], none⟩ := (q2 25 (by decide) (by intro len; simp)).trans rfl; have q15 : ob' 15 = some ⟨12, [opZ (insZ kK 0 1 5 w)], none⟩ := (q2 15 (by decide) (by intro len; simp)).trans rfl; have q16 : ob' 16 = some ⟨12, [opZ (insZ kK 1 1 7 (w + 1 : Int))], none⟩ := (q2 16 (by decide) (by intro len; simp)).trans rfl; have q3 : ob' 3 = some ⟨1, [[ints .b [3]]], none⟩ := (q2 3 (by decide) (by intro len; simp)).trans rfl; simp (config := {contextual := true, maxSteps := 1000000}) only [go_sem, ints, intRows, iv_c, Nat.reduceAdd, Nat.reduceBEq, Nat.reduceEqDiff, Nat.reduceLeDiff, Nat.reduceLT, reduceIte, Nat.le_refl, true_or, or_true, and_self, Int.reduceLE, Int.reduceLT, Int.reduceEq, Int.reduceNeg, Int.natCast_nonneg, Int.reduceToNat, ops, vals, dots, q1, q25, q15, q16, q3])
    rw [op_bsl_k3 (k := 12) _ _ rfl (opZ_row _) (opZ_row _) rfl]
    simp (config := {contextual := true, maxSteps := 1000000}) only [go_sem, ints, intRows, iv_c, Nat.reduceAdd, Nat.reduceBEq, Nat.reduceEqDiff, Nat.reduceLeDiff, Nat.reduceLT, reduceIte, Nat.le_refl, true_or, or_true, and_self, Int.reduceLE, Int.reduceLT, Int.reduceEq, Int.reduceNeg, Int.natCast_nonneg, Int.reduceToNat, ops, vals, dots]
    skip
    refine wpC_lp (fun env ob n => env 1 = vb true ∧ env 2 = vi w ∧ env 7 = .pt 3 0 0 ∧ env 11 = .im .b [opZ (insZ kK 0 1 5 w), opZ (insZ kK 1 1 7 (w + 1 : Int)), [vi 2, vi 1, ints .b [1, 1, 0], vi 9, vi 0, vi 2, vi 3, vi 0, .c (.string kK), vi 0, .z, .sl 32 0 2]] ∧ 25 < n ∧ ob 3 = some ⟨1, [[ints .b [3]]], none⟩ ∧ ob 32 = some ⟨2, [[vi 0, vi 1], [vi 1, vi 1]], none⟩ ∧ 
      ((env 13 = vi 0 ∧ env 12 = .z) ∨ (env 13 = vi 1 ∧ env 12 = rws .b (lS [⟨0, 1⟩] (cA w))) ∨ (env 13 = vi 2 ∧ env 12 = rws .b (lS [⟨0, 1⟩, ⟨1, 1⟩] (cB (w + 1 : Int)))) ∨ (env 13 = vi 3 ∧ env 12 = rws .b (lS [] (cB (w + 1 : Int)))))) (fun env ob _ => (3 - iv (env 13)).toNat) ?_ ?_
    · (simp (config := {contextual := true, maxSteps := 1000000}) only [go_sem, ints, intRows, iv_c, Nat.reduceAdd, Nat.reduceBEq, Nat.reduceEqDiff, Nat.reduceLeDiff, Nat.reduceLT, reduceIte, Nat.le_refl, true_or, or_true, and_self, Int.reduceLE, Int.reduceLT, Int.reduceEq, Int.reduceNeg, Int.natCast_nonneg, Int.reduceToNat, ops, vals, dots]; exact ⟨q3, q1⟩)
    · rintro env ob n ⟨h1, h2, h7, h11, hn, o3, o23, ⟨h13, h12⟩ | ⟨h13, h12⟩ | ⟨h13, h12⟩ | ⟨h13, h12⟩⟩
      · simp (config := {contextual := true, maxSteps := 1000000}) only [go_sem, ints, intRows, iv_c, Nat.reduceAdd, Nat.reduceBEq, Nat.reduceEqDiff, Nat.reduceLeDiff, Nat.reduceLT, reduceIte, Nat.le_refl, true_or, or_true, and_self, Int.reduceLE, Int.reduceLT, Int.reduceEq, Int.reduceNeg, Int.natCast_nonneg, Int.reduceToNat, ops, vals, dots, h1, h2, h7, h11, h12, h13, o3, o23, ia_h]
        first | refine caS_i (Step_ok a1 (by simp [maxLen]) (by simp) (by simp [maxLen]) (by simp [maxLen])) trivial ?_ | refine caD_i (Step_ok a1 (by simp [maxLen]) (by simp) (by simp [maxLen]) (by simp [maxLen])) trivial ?_ | refine gC_i (fun _ => Step_ok a1 (by simp [maxLen]) (by simp) (by simp [maxLen]) (by simp [maxLen])) trivial ?_ | refine gCD_i (fun _ => Step_ok a1 (by simp [maxLen]) (by simp) (by simp [maxLen]) (by simp [maxLen])) trivial ?_ | refine caE_i (Step_ok a1 (by simp [maxLen]) (by simp) (by simp [maxLen]) (by simp [maxLen])) trivial ?_
        simp (config := {contextual := true, maxSteps := 1000000}) only [go_sem, ints, intRows, iv_c, Nat.reduceAdd, Nat.reduceBEq, Nat.reduceEqDiff, Nat.reduceLeDiff, Nat.reduceLT, reduceIte, Nat.le_refl, true_or, or_true, and_self, Int.reduceLE, Int.reduceLT, Int.reduceEq, Int.reduceNeg, Int.natCast_nonneg, Int.reduceToNat, ops, vals, dots, h1, h2, h7, h11, h12, h13, o3, o23]
        exact ⟨⟨by omega, .inr (.inl ⟨rfl, rfl⟩)⟩, by decide⟩
      · simp (config := {contextual := true, maxSteps := 1000000}) only [go_sem, ints, intRows, iv_c, Nat.reduceAdd, Nat.reduceBEq, Nat.reduceEqDiff, Nat.reduceLeDiff, Nat.reduceLT, reduceIte, Nat.le_refl, true_or, or_true, and_self, Int.reduceLE, Int.reduceLT, Int.reduceEq, Int.reduceNeg, Int.natCast_nonneg, Int.reduceToNat, ops, vals, dots, h1, h2, h7, h11, h12, h13, o3, o23, ia_s, rws]
        first | refine caS_i (Step_ok a2 (by simp [maxLen]) (by simp [maxLen]) (by simp [maxLen]) (by simp [maxLen])) trivial ?_ | refine caD_i (Step_ok a2 (by simp [maxLen]) (by simp [maxLen]) (by simp [maxLen]) (by simp [maxLen])) trivial ?_ | refine gC_i (fun _ => Step_ok a2 (by simp [maxLen]) (by simp [maxLen]) (by simp [maxLen]) (by simp [maxLen])) trivial ?_ | refine gCD_i (fun _ => Step_ok a2 (by simp [maxLen]) (by simp [maxLen]) (by simp [maxLen]) (by simp [maxLen])) trivial ?_ | refine caE_i (Step_ok a2 (by simp [maxLen]) (by simp [maxLen]) (by simp [maxLen]) (by simp [maxLen])) trivial ?_
        simp (config := {contextual := true, maxSteps := 1000000}) only [go_sem, ints, intRows, iv_c, Nat.reduceAdd, Nat.reduceBEq, Nat.reduceEqDiff, Nat.reduceLeDiff, Nat.reduceLT, reduceIte, Nat.le_refl, true_or, or_true, and_self, Int.reduceLE, Int.reduceLT, Int.reduceEq, Int.reduceNeg, Int.natCast_nonneg, Int.reduceToNat, ops, vals, dots, h1, h2, h7, h11, h12, h13, o3, o23]
        exact ⟨⟨by omega, .inr (.inr (.inl ⟨rfl, rfl⟩))⟩, by decide⟩
      · simp (config := {contextual := true, maxSteps := 1000000}) only [go_sem, ints, intRows, iv_c, Nat.reduceAdd, Nat.reduceBEq, Nat.reduceEqDiff, Nat.reduceLeDiff, Nat.reduceLT, reduceIte, Nat.le_refl, true_or, or_true, and_self, Int.reduceLE, Int.reduceLT, Int.reduceEq, Int.reduceNeg, Int.natCast_nonneg, Int.reduceToNat, ops, vals, dots, h1, h2, h7, h11, h12, h13, o3, o23, ia_2, rws]
        first | refine caS_i (Step_ok a4 (by simp [maxLen]) (by simp [maxLen]) (by simp [maxLen]) (by simp [maxLen])) trivial ?_ | refine caD_i (Step_ok a4 (by simp [maxLen]) (by simp [maxLen]) (by simp [maxLen]) (by simp [maxLen])) trivial ?_ | refine gC_i (fun _ => Step_ok a4 (by simp [maxLen]) (by simp [maxLen]) (by simp [maxLen]) (by simp [maxLen])) trivial ?_ | refine gCD_i (fun _ => Step_ok a4 (by simp [maxLen]) (by simp [maxLen]) (by simp [maxLen]) (by simp [maxLen])) trivial ?_ | refine caE_i (Step_ok a4 (by simp [maxLen]) (by simp [maxLen]) (by simp [maxLen]) (by simp [maxLen])) trivial ?_
        simp (config := {contextual := true, maxSteps := 1000000}) only [go_sem, ints, intRows, iv_c, Nat.reduceAdd, Nat.reduceBEq, Nat.reduceEqDiff, Nat.reduceLeDiff, Nat.reduceLT, reduceIte, Nat.le_refl, true_or, or_true, and_self, Int.reduceLE, Int.reduceLT, Int.reduceEq, Int.reduceNeg, Int.natCast_nonneg, Int.reduceToNat, ops, vals, dots, h1, h2, h7, h11, h12, h13, o3, o23]
        exact ⟨⟨by omega, .inr (.inr (.inr ⟨rfl, rfl⟩))⟩, by decide⟩
      · simp (config := {contextual := true, maxSteps := 1000000}) only [go_sem, ints, intRows, iv_c, Nat.reduceAdd, Nat.reduceBEq, Nat.reduceEqDiff, Nat.reduceLeDiff, Nat.reduceLT, reduceIte, Nat.le_refl, true_or, or_true, and_self, Int.reduceLE, Int.reduceLT, Int.reduceEq, Int.reduceNeg, Int.natCast_nonneg, Int.reduceToNat, ops, vals, dots, h1, h2, h7, h11, h12, h13, o3, o23, rws]
        first | refine caS_i (s4) trivial ?_ | refine caD_i (s4) trivial ?_ | refine gC_i (fun _ => s4) trivial ?_ | refine gCD_i (fun _ => s4) trivial ?_ | refine caE_i (s4) trivial ?_
        simp (config := {contextual := true, maxSteps := 1000000}) only [go_sem, ints, intRows, iv_c, Nat.reduceAdd, Nat.reduceBEq, Nat.reduceEqDiff, Nat.reduceLeDiff, Nat.reduceLT, reduceIte, Nat.le_refl, true_or, or_true, and_self, Int.reduceLE, Int.reduceLT, Int.reduceEq, Int.reduceNeg, Int.natCast_nonneg, Int.reduceToNat, ops, vals, dots, h1, h2, h7, h11, h12, h13, o3, o23, valRows, List.map_cons, List.map_nil, ia_h, ia_s, hw1, rws]
        first | refine caS_i (d4) trivial ?_ | refine caD_i (d4) trivial ?_ | refine gC_i (fun _ => d4) trivial ?_ | refine gCD_i (fun _ => d4) trivial ?_ | refine caE_i (d4) trivial ?_
        simp (config := {contextual := true, maxSteps := 1000000}) only [go_sem, ints, intRows, iv_c, Nat.reduceAdd, Nat.reduceBEq, Nat.reduceEqDiff, Nat.reduceLeDiff, Nat.reduceLT, reduceIte, Nat.le_refl, true_or, or_true, and_self, Int.reduceLE, Int.reduceLT, Int.reduceEq, Int.reduceNeg, Int.natCast_nonneg, Int.reduceToNat, ops, vals, dots, h1, h2, h7, h11, h12, h13, o3, o23, valRows, List.map_cons, List.map_nil, ia_h, ia_s, hw1, rws]
        first | refine caS_i (wakes13_ok) trivial ?_ | refine caD_i (wakes13_ok) trivial ?_ | refine gC_i (fun _ => wakes13_ok) trivial ?_ | refine gCD_i (fun _ => wakes13_ok) trivial ?_ | refine caE_i (wakes13_ok) trivial ?_
        simp (config := {contextual := true, maxSteps := 1000000}) only [go_sem, ints, intRows, iv_c, Nat.reduceAdd, Nat.reduceBEq, Nat.reduceEqDiff, Nat.reduceLeDiff, Nat.reduceLT, reduceIte, Nat.le_refl, true_or, or_true, and_self, Int.reduceLE, Int.reduceLT, Int.reduceEq, Int.reduceNeg, Int.natCast_nonneg, Int.reduceToNat, ops, vals, dots]
theorem TabStays_law (first knew : Bool) (v : Int) (_ : gTrue first) (_ : gTrue knew) (_ : gInt .i64 v) : FnB Try.prog 5 [vb first, vb knew, vi v] (vb true) := TabStays_ok first knew v
end Go.Proofs.Ytcmonjmoapjpkaa.D
end
section
set_option linter.unusedVariables false
set_option linter.unusedSimpArgs false
set_option linter.constructorNameAsVariable false
set_option maxRecDepth 100000

/- Deleting rows as they lie in memory. No condition. -/
namespace Go.Proofs.Ytcmonjmoapjpkaa.D
open Go Go.Proofs

/-- A row as it lies, and as it is read. -/
abbrev RwP := Rw 3 × Rwf
instance : Inhabited RwP := ⟨⟨default, default⟩⟩
def rwP (x : RwP) : List V := x.1.r
@[go_sem] theorem rwP_len (x : RwP) : (rwP x).length = 3 := x.1.len
@[go_sem] theorem rwP_leaf (x : RwP) : (rwP x).all leaf = true := x.1.leaf
@[go_sem] theorem rwP_row (x : RwP) : okRow 3 (rwP x) = true := x.1.ok
@[go_sem] theorem rwP_t (x : RwP) : (rwP x).take 3 = rwP x := rw3_t x.1
@[go_sem] theorem rwP_d (x : RwP) : (rwP x).drop 3 = [] := rw3_d x.1
theorem IndexRwfs_ok {fl : Fl} (l : List Rwf) (f : Nat) (caps : List V) (p : Rwf → Bool) (hl : l.length ≤ maxLen) (hc : ∀ ob, caps.map (resV ob 6) = caps) (hp : ∀ x ∈ l, FnB Try.prog f (.ag (rwF x) :: caps) (vb (p x))) :
    FnB Try.prog 35 [rwfs fl l, .fn f caps] (vi (idxI p l)) := by
  unfold maxLen at hl
  refine fnB_intro cf35 (by simp) ?_
  simp (config := {contextual := true, maxSteps := 1000000}) only [go_sem, ints, intRows, iv_c, Nat.reduceAdd, Nat.reduceBEq, Nat.reduceEqDiff, Nat.reduceLeDiff, Nat.reduceLT, reduceIte, Nat.le_refl, true_or, or_true, and_self, Int.reduceLE, Int.reduceLT, Int.reduceEq, Int.reduceNeg, Int.natCast_nonneg, Int.reduceToNat, ops, vals, dots, c35, rwfs]
  refine wpC_lp (fun env ob n => env 0 = rwfs fl l ∧ env 1 = .fn f caps ∧ env 7 = vi l.length ∧ ∃ i : Nat, env 8 = vi i ∧ i ≤ l.length ∧ ∀ n ∈ l.take i, p n = false) (fun env ob n => (l.length - iv (env 8)).toNat) ?_ ?_
  · simp (config := {contextual := true, maxSteps := 1000000}) only [go_sem, ints, intRows, iv_c, Nat.reduceAdd, Nat.reduceBEq, Nat.reduceEqDiff, Nat.reduceLeDiff, Nat.reduceLT, reduceIte, Nat.le_refl, true_or, or_true, and_self, Int.reduceLE, Int.reduceLT, Int.reduceEq, Int.reduceNeg, Int.natCast_nonneg, Int.reduceToNat, ops, vals, dots, rwfs]
    simp
    exact ⟨0, by simp⟩
  · rintro env ob n ⟨h0, h1, h7, i, h8, hi, he⟩
    simp (config := {contextual := true, maxSteps := 1000000}) only [go_sem, ints, intRows, iv_c, Nat.reduceAdd, Nat.reduceBEq, Nat.reduceEqDiff, Nat.reduceLeDiff, Nat.reduceLT, reduceIte, Nat.le_refl, true_or, or_true, and_self, Int.reduceLE, Int.reduceLT, Int.reduceEq, Int.reduceNeg, Int.natCast_nonneg, Int.reduceToNat, ops, vals, dots, h0, h1, h7, h8, List.map_append, List.map_cons, hc, rwfs]
    refine ⟨fun hlt => ?_, fun hge => ?_⟩
    · simp at hlt
      have hpi := hp (gN l i) (by rw [gN_eq hlt]; exact List.getElem_mem _)
      repeat (refine And.intro (by omega) ?_)
      first | refine caS_i (hpi) trivial ?_ | refine caD_i (hpi) trivial ?_ | refine gC_i (fun _ => hpi) trivial ?_ | refine gCD_i (fun _ => hpi) trivial ?_ | refine caE_i (hpi) trivial ?_
      simp (config := {contextual := true, maxSteps := 1000000}) only [go_sem, ints, intRows, iv_c, Nat.reduceAdd, Nat.reduceBEq, Nat.reduceEqDiff, Nat.reduceLeDiff, Nat.reduceLT, reduceIte, Nat.le_refl, true_or, or_true, and_self, Int.reduceLE, Int.reduceLT, Int.reduceEq, Int.reduceNeg, Int.natCast_nonneg, Int.reduceToNat, ops, vals, dots, h0, h1, h7, h8, rwfs]
      refine ⟨fun hb => ?_, fun hg => ⟨⟨i + 1, ?_, by omega, (take_succ_iff hlt).2 ⟨he, hg⟩⟩, ?_⟩⟩
      · rw [idxI_at hlt he hb]
      · rw [w64 (by omega)]; simp
      · rw [w64 (by omega)]; omega
    · simp at hge
      rw [List.take_of_length_le (by omega)] at he
      rw [idxI_no he]
theorem idxI_map {α β : Type} (f : α → β) (p : β → Bool) (l : List α) : idxI p (l.map f) = idxI (fun x => p (f x)) l := by
  unfold idxI
  rw [List.any_map, List.findIdx_map]
  rfl
set_option maxHeartbeats 1000000 in
theorem DeleteFuncRows_ok {l : List RwP} {id nid f : Nat} {cap : Option Nat} {ob : OB} {C : V → OB → Nat → Prop} {caps rc : List V} {q : Rwf → Bool} (hl : l.length ≤ maxLen) (hob : ob id = some ⟨3, l.map rwP, cap⟩) (hid : id < nid)
    (hrc : ∀ ob', (∀ j, j ≠ id → j < nid → ob' j = ob j) → caps.map (resV ob' 6) = rc ∧ caps.map (resV ob' 5) = rc) (hrr : ∀ ob', rc.map (resV ob' 6) = rc) (hF : ∀ ob', (∀ j, j ≠ id → j < nid → ob' j = ob j) → ∀ x ∈ l, ∀ m, (rwP x).map (resV ob' (m + 3)) = rwF x.2) (hp : ∀ x ∈ l, FnB Try.prog f (.ag (rwF x.2) :: rc) (vb (q x.2)))
    (hC : ∀ ob' n', nid ≤ n' → (∀ j, j ≠ id → j < nid → ob' j = ob j) → ob' id = some ⟨3, (l.filter fun x => !q x.2).map rwP, none⟩ → C (.sl id 0 (l.filter fun x => !q x.2).length) ob' n') :
    FnS Try.prog 40 [.sl id 0 l.length, .fn f caps] ob nid C := by
  obtain ⟨p, hpe⟩ : ∃ p : RwP → Bool, p = fun x => q x.2 := ⟨_, rfl⟩
  have hpx : ∀ x, q x.2 = p x := fun x => by rw [hpe]
  simp only [hpx] at hp hC
  have hl' := hl
  unfold maxLen at hl
  refine FnS_less (fnS_intro cf40 (by simp) ?_)
  have hc0 := hrc ob fun _ _ _ => rfl
  have hlen : (l.map rwP).length = l.length := by simp
  simp (config := {contextual := true, maxSteps := 1000000}) only [go_sem, ints, intRows, iv_c, Nat.reduceAdd, Nat.reduceBEq, Nat.reduceEqDiff, Nat.reduceLeDiff, Nat.reduceLT, reduceIte, Nat.le_refl, true_or, or_true, and_self, Int.reduceLE, Int.reduceLT, Int.reduceEq, Int.reduceNeg, Int.natCast_nonneg, Int.reduceToNat, ops, vals, dots, c40, hob, hc0.1, hc0.2, hlen, Nat.le_refl, Nat.zero_add]
  have hI : V.im .n (l.map fun x => (rwP x).map (resV ob 5)) = rwfs .n (l.map fun x => x.2) := by
    unfold rwfs
    rw [List.map_map]
    congr 1
    exact List.map_congr_left fun x hx => hF ob (fun _ _ _ => rfl) x hx 2
  have hix : idxI q (l.map fun x => x.2) = idxI p l := by rw [idxI_map, hpe]
  rw [hI]
  first | refine caS_i (IndexRwfs_ok (fl := .n) (l.map fun x => x.2) f rc q (by simpa using hl') hrr (fun y hy => by obtain ⟨x, hx, rfl⟩ := List.mem_map.1 hy; rw [hpx]; exact hp x hx)) trivial ?_ | refine caD_i (IndexRwfs_ok (fl := .n) (l.map fun x => x.2) f rc q (by simpa using hl') hrr (fun y hy => by obtain ⟨x, hx, rfl⟩ := List.mem_map.1 hy; rw [hpx]; exact hp x hx)) trivial ?_ | refine gC_i (fun _ => IndexRwfs_ok (fl := .n) (l.map fun x => x.2) f rc q (by simpa using hl') hrr (fun y hy => by obtain ⟨x, hx, rfl⟩ := List.mem_map.1 hy; rw [hpx]; exact hp x hx)) trivial ?_ | refine gCD_i (fun _ => IndexRwfs_ok (fl := .n) (l.map fun x => x.2) f rc q (by simpa using hl') hrr (fun y hy => by obtain ⟨x, hx, rfl⟩ := List.mem_map.1 hy; rw [hpx]; exact hp x hx)) trivial ?_ | refine caE_i (IndexRwfs_ok (fl := .n) (l.map fun x => x.2) f rc q (by simpa using hl') hrr (fun y hy => by obtain ⟨x, hx, rfl⟩ := List.mem_map.1 hy; rw [hpx]; exact hp x hx)) trivial ?_
  rw [hix]
  rcases idxI_spec p l with ⟨e, hno⟩ | ⟨i, e, hi, hpi, hbe⟩
  · simp (config := {contextual := true, maxSteps := 1000000}) only [go_sem, ints, intRows, iv_c, Nat.reduceAdd, Nat.reduceBEq, Nat.reduceEqDiff, Nat.reduceLeDiff, Nat.reduceLT, reduceIte, Nat.le_refl, true_or, or_true, and_self, Int.reduceLE, Int.reduceLT, Int.reduceEq, Int.reduceNeg, Int.natCast_nonneg, Int.reduceToNat, ops, vals, dots, e]
    have hf : (l.filter fun x => !p x) = l := List.filter_eq_self.2 fun x hx => by simp [hno x hx]
    refine ⟨updO ob id (some ⟨3, l.map rwP, none⟩), fun j o ho => ?_, ?_⟩
    · by_cases hj : j = id
      · subst hj; rw [updO_s] at ho; injection ho with ho; subst ho
        exact ⟨_, hob, rfl, ⟨l.length, by rw [List.take_of_length_le (by simp)]⟩, fun c hc => by cases hc⟩
      · simp only [updO, hj, if_false] at ho; exact ⟨o, ho, rfl, ⟨o.l.length, by simp⟩, fun c hc => hc⟩
    · have := hC (updO ob id (some ⟨3, l.map rwP, none⟩)) (nid + 1 + 1 + 1 + 1 + 1 + 1 + 1 + 1 + 1) (by omega) (fun j hj _ => by simp [updO, hj])
      rw [hf] at this
      exact this (updO_s _ _ _)
  have w1 : IntKind.i64.wrap ((i : Int) + 1) = ((i + 1 : Nat) : Int) := by rw [w64 (by omega)]; omega
  have hne : decide ((i : Int) = -1) = false := by simp
  simp (config := {contextual := true, maxSteps := 1000000}) only [go_sem, ints, intRows, iv_c, Nat.reduceAdd, Nat.reduceBEq, Nat.reduceEqDiff, Nat.reduceLeDiff, Nat.reduceLT, reduceIte, Nat.le_refl, true_or, or_true, and_self, Int.reduceLE, Int.reduceLT, Int.reduceEq, Int.reduceNeg, Int.natCast_nonneg, Int.reduceToNat, ops, vals, dots, e, w1, hne]
  have hpi' : (!p (gN l i)) = false := by rw [hpi]; rfl
  refine wpC_lp (fun env ob' n' => env 0 = .sl id 0 l.length ∧ env 1 = .fn f caps ∧ (∀ j, j ≠ id → j < nid → ob' j = ob j) ∧ nid ≤ n' ∧ ∃ (i j : Nat) (cur : List RwP), env 5 = vi i ∧ env 6 = vi j ∧ i + 1 ≤ j ∧ j ≤ l.length ∧ ob' id = some ⟨3, cur.map rwP, cap⟩ ∧ cur.length = l.length ∧ cur.take i = (l.take j).filter (fun x => !p x) ∧ cur.drop j = l.drop j) (fun env ob _ => (l.length - iv (env 6)).toNat) ?_ ?_
  · simp (config := {contextual := true, maxSteps := 1000000}) only [go_sem, ints, intRows, iv_c, Nat.reduceAdd, Nat.reduceBEq, Nat.reduceEqDiff, Nat.reduceLeDiff, Nat.reduceLT, reduceIte, Nat.le_refl, true_or, or_true, and_self, Int.reduceLE, Int.reduceLT, Int.reduceEq, Int.reduceNeg, Int.natCast_nonneg, Int.reduceToNat, ops, vals, dots]
    refine ⟨by omega, i, i + 1, l, rfl, rfl, by omega, by omega, hob, rfl, ?_, rfl⟩
    rw [take_gN hi, List.filter_append, List.filter_eq_self.2 fun x hx => by simp [hbe x hx]]
    simp [hpi]
  rintro env ob' n' ⟨h0, h1, hfr, hn', i, j, cur, h5, h6, hij, hj, hob', hcl, ht, hd⟩
  simp (config := {contextual := true, maxSteps := 1000000}) only [go_sem, ints, intRows, iv_c, Nat.reduceAdd, Nat.reduceBEq, Nat.reduceEqDiff, Nat.reduceLeDiff, Nat.reduceLT, reduceIte, Nat.le_refl, true_or, or_true, and_self, Int.reduceLE, Int.reduceLT, Int.reduceEq, Int.reduceNeg, Int.natCast_nonneg, Int.reduceToNat, ops, vals, dots, h0, h1, h5, h6, hob']
  refine ⟨fun hlt => ?_, fun hge => ?_⟩
  · simp at hlt
    have hcj : gN cur j = gN l j := by
      have := congrArg (fun l => l[0]?) hd
      simp at this
      simp [gN, List.getD, this]
    repeat (refine And.intro (by omega) ?_)
    simp (config := {contextual := true, maxSteps := 1000000}) only [go_sem, ints, intRows, iv_c, Nat.reduceAdd, Nat.reduceBEq, Nat.reduceEqDiff, Nat.reduceLeDiff, Nat.reduceLT, reduceIte, Nat.le_refl, true_or, or_true, and_self, Int.reduceLE, Int.reduceLT, Int.reduceEq, Int.reduceNeg, Int.natCast_nonneg, Int.reduceToNat, ops, vals, dots, hcj, List.map_append]
    have hm : (id == n' + 1 + 1 + 1 + 1 + 1 + 1 + 1 + 1) = false := by simp; omega
    rw [(hrc _ fun j hj hlt => by simp only [updO]; rw [if_neg (by omega), if_neg (by omega)]; exact hfr j hj hlt).1]
    rw [hF _ (fun j hj hlt => by simp only [updO]; rw [if_neg (by omega), if_neg (by omega)]; exact hfr j hj hlt) _ (gN_mem hlt) 2]
    first | refine caS_i (hp _ (gN_mem hlt)) trivial ?_ | refine caD_i (hp _ (gN_mem hlt)) trivial ?_ | refine gC_i (fun _ => hp _ (gN_mem hlt)) trivial ?_ | refine gCD_i (fun _ => hp _ (gN_mem hlt)) trivial ?_ | refine caE_i (hp _ (gN_mem hlt)) trivial ?_
    have w2 : IntKind.i64.wrap ((i : Int) + 1) = ((i + 1 : Nat) : Int) := by rw [w64 (by omega)]; omega
    have w3 : IntKind.i64.wrap ((j : Int) + 1) = ((j + 1 : Nat) : Int) := by rw [w64 (by omega)]; omega
    simp (config := {contextual := true, maxSteps := 1000000}) only [go_sem, ints, intRows, iv_c, Nat.reduceAdd, Nat.reduceBEq, Nat.reduceEqDiff, Nat.reduceLeDiff, Nat.reduceLT, reduceIte, Nat.le_refl, true_or, or_true, and_self, Int.reduceLE, Int.reduceLT, Int.reduceEq, Int.reduceNeg, Int.natCast_nonneg, Int.reduceToNat, ops, vals, dots, h0, h1, h5, h6, hob', hcj, hm, w2, w3]
    have hfr' : ∀ (m : Nat) (a b c : Option Ob), nid ≤ m → ∀ j, j ≠ id → j < nid → updO (updO (updO ob' m a) m b) id c j = ob j := fun m a b c hm j hj hlt => by
      simp only [updO]; rw [if_neg hj, if_neg (by omega), if_neg (by omega)]; exact hfr j hj hlt
    have hfr2 : ∀ (m : Nat) (a b : Option Ob), nid ≤ m → ∀ j, j ≠ id → j < nid → updO (updO ob' m a) m b j = ob j := fun m a b hm j hj hlt => by
      simp only [updO]; rw [if_neg (by omega), if_neg (by omega)]; exact hfr j hj hlt
    have hd1 : cur.drop (j + 1) = l.drop (j + 1) := by
      have := congrArg (List.drop 1) hd
      simpa [List.drop_drop] using this
    refine ⟨fun hp1 => ⟨by omega, by omega, ⟨hfr' _ _ _ _ (by omega), by omega, i + 1, j + 1, cur.set i (gN l j), rfl, rfl, by omega, by omega, rfl, by simpa using hcl, ?_, ?_⟩, by omega⟩, fun hp2 => ⟨⟨hfr2 _ _ _ (by omega), by omega, i, j + 1, cur, rfl, rfl, by omega, by omega, rfl, hcl, ?_, hd1⟩, by omega⟩⟩
    · rw [take_gN (l := cur.set i (gN l j)) (by simp; omega), take_gN hlt, List.filter_append, ← ht, List.take_set_of_le (Nat.le_refl _), gN_set (by omega)]
      simp [hp1]
    · rw [List.drop_set_of_lt (by omega)]; exact hd1
    · rw [take_gN hlt, List.filter_append, ← ht]
      simp at hp2; simp [hp2]
  · simp at hge
    have hj' : j = l.length := by omega
    subst hj'
    rw [List.take_of_length_le (Nat.le_refl _)] at ht
    have hs : (if (i : Int) = 0 then V.sl id 0 l.length else if (i : Int) = l.length then V.im .b [] else V.sl id i ((l.length : Int) - i).toNat) = V.sl id i (l.length - i) := by
      split
      · rename_i h
        have : i = 0 := by omega
        subst this; rfl
      · rw [if_neg (by omega)]
        congr 1; omega
    have hil : (l.filter fun x => !p x).length = i := by rw [← ht, List.length_take]; omega
    repeat (refine And.intro (by omega) ?_)
    rw [hs]
    simp (config := {contextual := true, maxSteps := 1000000}) only [go_sem, ints, intRows, iv_c, Nat.reduceAdd, Nat.reduceBEq, Nat.reduceEqDiff, Nat.reduceLeDiff, Nat.reduceLT, reduceIte, Nat.le_refl, true_or, or_true, and_self, Int.reduceLE, Int.reduceLT, Int.reduceEq, Int.reduceNeg, Int.natCast_nonneg, Int.reduceToNat, ops, vals, dots, h0, h5, hob']
    repeat (refine And.intro (by omega) ?_)
    refine ⟨by unfold over; simp; omega, updO ob' id (some ⟨3, (cur.take i).map rwP, none⟩), less_upd ⟨i, ?_⟩, ?_⟩
    · unfold over
      rw [List.append_assoc, List.take_append_of_le_length (by simp; omega), List.map_take, List.take_take, Nat.min_self]
    · have := hC (updO ob' id (some ⟨3, (cur.take i).map rwP, none⟩)) (n' + 1 + 1 + 1 + 1 + 1 + 1 + 1 + 1 + 1 + 1 + 1 + 1) (by omega) (fun j hj hlt => by simp only [updO, hj, if_false]; exact hfr j hj hlt) (by rw [updO_s, ht])
      rw [hil] at this
      exact this
end Go.Proofs.Ytcmonjmoapjpkaa.D
end
section
set_option linter.unusedVariables false
set_option linter.unusedSimpArgs false
set_option linter.constructorNameAsVariable false
set_option maxRecDepth 100000

/- Compacting: its parts. No condition. -/
namespace Go.Proofs.Ytcmonjmoapjpkaa.D
open Go Go.Proofs

theorem cmp11_ok {fl : Fl} (fr : List Int) (c : Cel) : FnB Try.prog 43 [.ag (celV c), .bp [ints fl fr]] (vb (writ c && !hasB fr c.d)) := by
  refine fnB_intro cf43 (by simp) ?_
  simp (config := {contextual := true, maxSteps := 1000000}) only [go_sem, ints, intRows, iv_c, Nat.reduceAdd, Nat.reduceBEq, Nat.reduceEqDiff, Nat.reduceLeDiff, Nat.reduceLT, reduceIte, Nat.le_refl, true_or, or_true, and_self, Int.reduceLE, Int.reduceLT, Int.reduceEq, Int.reduceNeg, Int.natCast_nonneg, Int.reduceToNat, ops, vals, dots, c43]
  first | refine caS_i (written_ok c) trivial ?_ | refine caD_i (written_ok c) trivial ?_ | refine gC_i (fun _ => written_ok c) trivial ?_ | refine gCD_i (fun _ => written_ok c) trivial ?_ | refine caE_i (written_ok c) trivial ?_
  simp (config := {contextual := true, maxSteps := 1000000}) only [go_sem, ints, intRows, iv_c, Nat.reduceAdd, Nat.reduceBEq, Nat.reduceEqDiff, Nat.reduceLeDiff, Nat.reduceLT, reduceIte, Nat.le_refl, true_or, or_true, and_self, Int.reduceLE, Int.reduceLT, Int.reduceEq, Int.reduceNeg, Int.natCast_nonneg, Int.reduceToNat, ops, vals, dots]
  first | refine caS_i (Has_ok (fl := resFl fl) fr c.d) trivial ?_ | refine caD_i (Has_ok (fl := resFl fl) fr c.d) trivial ?_ | refine gC_i (fun _ => Has_ok (fl := resFl fl) fr c.d) trivial ?_ | refine gCD_i (fun _ => Has_ok (fl := resFl fl) fr c.d) trivial ?_ | refine caE_i (Has_ok (fl := resFl fl) fr c.d) trivial ?_
  simp (config := {contextual := true, maxSteps := 1000000}) only [go_sem, ints, intRows, iv_c, Nat.reduceAdd, Nat.reduceBEq, Nat.reduceEqDiff, Nat.reduceLeDiff, Nat.reduceLT, reduceIte, Nat.le_refl, true_or, or_true, and_self, Int.reduceLE, Int.reduceLT, Int.reduceEq, Int.reduceNeg, Int.natCast_nonneg, Int.reduceToNat, ops, vals, dots]
def goneB (fr : List Int) (r : Rwx) : Bool := decide (r.dots.length = 0) && !r.cells.any fun c => writ c && !hasB fr c.d
theorem cmp1_ok {fl : Fl} (hfl : resFl fl = fl) (fr : List Int) (x : Rwf) (hc : x.r.cells.length ≤ maxLen) : FnB Try.prog 41 [.ag (rwF x), .bp [ints fl fr]] (vb (goneB fr x.r)) := by
  refine fnB_intro cf41 (by simp) ?_
  simp (config := {contextual := true, maxSteps := 1000000}) only [go_sem, ints, intRows, iv_c, Nat.reduceAdd, Nat.reduceBEq, Nat.reduceEqDiff, Nat.reduceLeDiff, Nat.reduceLT, reduceIte, Nat.le_refl, true_or, or_true, and_self, Int.reduceLE, Int.reduceLT, Int.reduceEq, Int.reduceNeg, Int.natCast_nonneg, Int.reduceToNat, ops, vals, dots, c41, cels, res_flg, hfl]
  have hcc := ContainsCels_ok (fl := flg x.fc) x.r.cells 43 [.bp [ints fl fr]] (fun c => writ c && !hasB fr c.d) hc (fun ob => by simp only [ints, List.map_cons, List.map_nil, resV, hfl, List.map_map]; rfl) (fun ob => by simp only [ints, List.map_cons, List.map_nil, resV, hfl, List.map_map]; rfl) fun c _ => cmp11_ok fr c
  first | refine caS_i (hcc) trivial ?_ | refine caD_i (hcc) trivial ?_ | refine gC_i (fun _ => hcc) trivial ?_ | refine gCD_i (fun _ => hcc) trivial ?_ | refine caE_i (hcc) trivial ?_
  simp (config := {contextual := true, maxSteps := 1000000}) only [go_sem, ints, intRows, iv_c, Nat.reduceAdd, Nat.reduceBEq, Nat.reduceEqDiff, Nat.reduceLeDiff, Nat.reduceLT, reduceIte, Nat.le_refl, true_or, or_true, and_self, Int.reduceLE, Int.reduceLT, Int.reduceEq, Int.reduceNeg, Int.natCast_nonneg, Int.reduceToNat, ops, vals, dots]
  simp [goneB]
theorem DeleteFuncRows_z {f nid : Nat} {ob : OB} {C : V → OB → Nat → Prop} {caps rc : List V} (hrc : caps.map (resV ob 5) = rc) (hrr : ∀ ob', rc.map (resV ob' 6) = rc)
    (hC : ∀ ob' n', nid ≤ n' → (∀ j, j < nid → ob' j = ob j) → C .z ob' n') :
    FnS Try.prog 40 [.z, .fn f caps] ob nid C := by
  refine fnS_intro cf40 (by simp) ?_
  simp (config := {contextual := true, maxSteps := 1000000}) only [go_sem, ints, intRows, iv_c, Nat.reduceAdd, Nat.reduceBEq, Nat.reduceEqDiff, Nat.reduceLeDiff, Nat.reduceLT, reduceIte, Nat.le_refl, true_or, or_true, and_self, Int.reduceLE, Int.reduceLT, Int.reduceEq, Int.reduceNeg, Int.natCast_nonneg, Int.reduceToNat, ops, vals, dots, c40, hrc]
  first | refine caS_i (IndexRwfs_ok (fl := .b) [] f rc (fun _ => false) (by simp [maxLen]) hrr (fun y hy => by cases hy)) trivial ?_ | refine caD_i (IndexRwfs_ok (fl := .b) [] f rc (fun _ => false) (by simp [maxLen]) hrr (fun y hy => by cases hy)) trivial ?_ | refine gC_i (fun _ => IndexRwfs_ok (fl := .b) [] f rc (fun _ => false) (by simp [maxLen]) hrr (fun y hy => by cases hy)) trivial ?_ | refine gCD_i (fun _ => IndexRwfs_ok (fl := .b) [] f rc (fun _ => false) (by simp [maxLen]) hrr (fun y hy => by cases hy)) trivial ?_ | refine caE_i (IndexRwfs_ok (fl := .b) [] f rc (fun _ => false) (by simp [maxLen]) hrr (fun y hy => by cases hy)) trivial ?_
  have e : idxI (fun _ : Rwf => false) [] = -1 := rfl
  simp (config := {contextual := true, maxSteps := 1000000}) only [go_sem, ints, intRows, iv_c, Nat.reduceAdd, Nat.reduceBEq, Nat.reduceEqDiff, Nat.reduceLeDiff, Nat.reduceLT, reduceIte, Nat.le_refl, true_or, or_true, and_self, Int.reduceLE, Int.reduceLT, Int.reduceEq, Int.reduceNeg, Int.natCast_nonneg, Int.reduceToNat, ops, vals, dots, e]
  exact hC _ _ (by omega) fun _ _ => rfl
theorem CloneRowS_z {nid : Nat} {ob : OB} {C : V → OB → Nat → Prop} (hC : ∀ ob' n', nid ≤ n' → (∀ j, j < nid → ob' j = ob j) → C .z ob' n') :
    FnS Try.prog 46 [.z] ob nid C := by
  refine fnS_intro cf46 (by simp) ?_
  simp (config := {contextual := true, maxSteps := 1000000}) only [go_sem, ints, intRows, iv_c, Nat.reduceAdd, Nat.reduceBEq, Nat.reduceEqDiff, Nat.reduceLeDiff, Nat.reduceLT, reduceIte, Nat.le_refl, true_or, or_true, and_self, Int.reduceLE, Int.reduceLT, Int.reduceEq, Int.reduceNeg, Int.natCast_nonneg, Int.reduceToNat, ops, vals, dots, c46]
  refine ⟨hC _ _ (by omega) fun _ _ => rfl, ?_⟩
  refine nxS_app (n := nid) Own.nil ?_ (xs := []) rfl rfl (by simp [maxLen]) fun v' ob' ho hf => ?_
  · omega
  have hv : v' = .z := by
    rcases ho with ⟨_, h⟩ | ⟨h, _⟩
    · exact h
    · simp at h
  subst hv
  simp (config := {contextual := true, maxSteps := 1000000}) only [go_sem, ints, intRows, iv_c, Nat.reduceAdd, Nat.reduceBEq, Nat.reduceEqDiff, Nat.reduceLeDiff, Nat.reduceLT, reduceIte, Nat.le_refl, true_or, or_true, and_self, Int.reduceLE, Int.reduceLT, Int.reduceEq, Int.reduceNeg, Int.natCast_nonneg, Int.reduceToNat, ops, vals, dots]
  exact hC _ _ (by omega) fun j hj => hf j hj (by intro e; cases e)
theorem CloneRowS_ok {l : List (Rw 3)} {id nid : Nat} {cap : Option Nat} {ob : OB} {C : V → OB → Nat → Prop} (hl : l.length ≤ maxLen) (hob : ob id = some ⟨3, l.map rw3V, cap⟩) (hid : id < nid)
    (hC : ∀ v' ob' n', nid ≤ n' → (∀ j, j < nid → ob' j = ob j) → Own n' ob' v' 3 (l.map rw3V) → C v' ob' n') :
    FnS Try.prog 46 [.sl id 0 l.length] ob nid C := by
  refine fnS_intro cf46 (by simp) ?_
  simp (config := {contextual := true, maxSteps := 1000000}) only [go_sem, ints, intRows, iv_c, Nat.reduceAdd, Nat.reduceBEq, Nat.reduceEqDiff, Nat.reduceLeDiff, Nat.reduceLT, reduceIte, Nat.le_refl, true_or, or_true, and_self, Int.reduceLE, Int.reduceLT, Int.reduceEq, Int.reduceNeg, Int.natCast_nonneg, Int.reduceToNat, ops, vals, dots, c46, hob]
  have hx : rowsOf ob (.sl id 0 l.length) = some (l.map rw3V) := by
    simp only [rowsOf, hob, Option.bind_some]
    rw [if_pos (by simp), List.drop_zero, List.take_of_length_le (by simp)]
  refine nxS_app (n := nid) Own.nil (by omega) hx (allRw3 l) (by simpa using hl) fun v' ob' ho hf => ?_
  simp (config := {contextual := true, maxSteps := 1000000}) only [go_sem, ints, intRows, iv_c, Nat.reduceAdd, Nat.reduceBEq, Nat.reduceEqDiff, Nat.reduceLeDiff, Nat.reduceLT, reduceIte, Nat.le_refl, true_or, or_true, and_self, Int.reduceLE, Int.reduceLT, Int.reduceEq, Int.reduceNeg, Int.natCast_nonneg, Int.reduceToNat, ops, vals, dots]
  exact hC _ _ _ (by omega) (fun j hj => hf j hj (by intro e; cases e)) (ho.mono (by omega))
def isSl : V → Bool
  | .sl _ _ _ => true
  | _ => false
theorem own_resf2 {n : Nat} {ob : OB} {v : V} {ds : List Dt} (h : OwnE n ob v 2 (ds.map dotV)) (m : Nat) : resV ob (m + 3) v = dots (flg (isSl v)) ds := by
  rcases h with ⟨h0, rfl⟩ | ⟨id, cap, hid, rfl, hob⟩
  · have : ds = [] := by simpa using h0
    subst this; rfl
  · simp only [resV, rowsOf, hob, Option.bind_some]
    rw [if_pos (by simp)]
    simp only [List.drop_zero, List.take_length, List.map_map, dots, flg, isSl]
    congr 1
theorem own_resf8 {n : Nat} {ob : OB} {v : V} {ds : List Cel} (h : OwnE n ob v 8 (ds.map celV)) (m : Nat) : resV ob (m + 3) v = cels (flg (isSl v)) ds := by
  rcases h with ⟨h0, rfl⟩ | ⟨id, cap, hid, rfl, hob⟩
  · have : ds = [] := by simpa using h0
    subst this; rfl
  · simp only [resV, rowsOf, hob, Option.bind_some]
    rw [if_pos (by simp)]
    simp only [List.drop_zero, List.take_length, List.map_map, cels, flg, isSl]
    congr 1
/-- How a row of one's own is read. -/
def rwFl (r : List V) (R : Rwx) : Rwf := ⟨R, isSl (gN r 1), isSl (gN r 2)⟩
theorem row_resf {ob : OB} {n : Nat} {r : List V} {R : Rwx} (h : RowO ob n r R) (m : Nat) : r.map (resV ob (m + 3)) = rwF (rwFl r R) := by
  obtain ⟨dv, cv, rfl, hd, hc⟩ := h
  simp only [List.map_cons, List.map_nil, own_resf2 hd, own_resf8 hc, rwF, rwFl]
  rfl
theorem RowO.ok {ob : OB} {n : Nat} {r : List V} {R : Rwx} (h : RowO ob n r R) : okRow 3 r = true := by
  obtain ⟨dv, cv, rfl, hd, hc⟩ := h
  have h1 : leaf dv = true := by rcases hd with ⟨_, rfl⟩ | ⟨_, _, _, rfl, _⟩ <;> rfl
  have h2 : leaf cv = true := by rcases hc with ⟨_, rfl⟩ | ⟨_, _, _, rfl, _⟩ <;> rfl
  simp [okRow, h1, h2]; rfl
theorem RowsO.filt {ob : OB} {n : Nat} (p : Rwx → Bool) : ∀ {rows : List (List V)} {L : List Rwx}, RowsO ob n rows L → ∃ P : List RwP, P.map rwP = rows ∧ (∀ x ∈ P, RowO ob n (rwP x) x.2.r ∧ x.2 = rwFl (rwP x) x.2.r) ∧ P.map (fun x => x.2.r) = L ∧ RowsO ob n ((P.filter fun x => p x.2.r).map rwP) (L.filter p)
  | [], [], _ => ⟨[], rfl, (fun x hx => nomatch hx), rfl, trivial⟩
  | r :: rs, R :: Rs, h => by
    obtain ⟨P, h1, h2, h3, h4⟩ := RowsO.filt p h.2
    refine ⟨(⟨r, h.1.ok⟩, rwFl r R) :: P, by rw [List.map_cons, h1]; rfl, fun x hx => ?_, by rw [List.map_cons, h3]; rfl, ?_⟩
    · rcases List.mem_cons.1 hx with rfl | hx
      · exact ⟨h.1, rfl⟩
      · exact h2 x hx
    · rw [List.filter_cons, List.filter_cons]
      have e : (rwFl r R).r = R := rfl
      simp only [e]
      split
      · exact ⟨h.1, h4⟩
      · exact h4
  | [], _ :: _, h => h.elim
  | _ :: _, [], h => h.elim
/-- A table without the dead rows that all know, and how many these are. -/
def compT (cols : List Int) (l : List Rwx) (fr : List Int) : List Rwx × Int × Int :=
  if checkT cols l ≠ 0 then ([], 0, checkT cols l)
  else if vecE fr ≠ 0 then ([], 0, vecE fr)
  else (l.filter fun r => !goneB fr r, (l.length : Int) - ((l.filter fun r => !goneB fr r).length : Int), 0)
set_option maxHeartbeats 1000000 in
theorem Compact_ok {fl fm : Fl} (cols : List Int) (l : List Rwx) (fr : List Int) (hl : l.length ≤ maxLen) (hs : ∀ r ∈ l, ShortR r) :
    FnB Try.prog 21 [.ag (tbV cols), rws fl l, ints fm fr] (.tp [rws .o (compT cols l fr).1, vi (compT cols l fr).2.1, vi (compT cols l fr).2.2]) := by
  refine fnB_intro cf21 (by simp) ?_
  have hl' := hl
  unfold maxLen at hl'
  simp (config := {contextual := true, maxSteps := 1000000}) only [go_sem, ints, intRows, iv_c, Nat.reduceAdd, Nat.reduceBEq, Nat.reduceEqDiff, Nat.reduceLeDiff, Nat.reduceLT, reduceIte, Nat.le_refl, true_or, or_true, and_self, Int.reduceLE, Int.reduceLT, Int.reduceEq, Int.reduceNeg, Int.natCast_nonneg, Int.reduceToNat, ops, vals, dots, c21, rws]
  first | refine caS_i (tCheck_ok (fl := resFl fl) cols l hl hs) trivial ?_ | refine caD_i (tCheck_ok (fl := resFl fl) cols l hl hs) trivial ?_ | refine gC_i (fun _ => tCheck_ok (fl := resFl fl) cols l hl hs) trivial ?_ | refine gCD_i (fun _ => tCheck_ok (fl := resFl fl) cols l hl hs) trivial ?_ | refine caE_i (tCheck_ok (fl := resFl fl) cols l hl hs) trivial ?_
  simp (config := {contextual := true, maxSteps := 1000000}) only [go_sem, ints, intRows, iv_c, Nat.reduceAdd, Nat.reduceBEq, Nat.reduceEqDiff, Nat.reduceLeDiff, Nat.reduceLT, reduceIte, Nat.le_refl, true_or, or_true, and_self, Int.reduceLE, Int.reduceLT, Int.reduceEq, Int.reduceNeg, Int.natCast_nonneg, Int.reduceToNat, ops, vals, dots, rws]
  refine ⟨fun hb => ?_, fun hb => ?_⟩
  · have hb' : checkT cols l ≠ 0 := by simpa using hb
    have e : compT cols l fr = ([], 0, checkT cols l) := by unfold compT; rw [if_pos hb']
    rw [e]
    rfl
  have hb' : ¬ checkT cols l ≠ 0 := by simpa using hb
  first | refine caS_i (Check_ok (fl := resFl fm) fr) trivial ?_ | refine caD_i (Check_ok (fl := resFl fm) fr) trivial ?_ | refine gC_i (fun _ => Check_ok (fl := resFl fm) fr) trivial ?_ | refine gCD_i (fun _ => Check_ok (fl := resFl fm) fr) trivial ?_ | refine caE_i (Check_ok (fl := resFl fm) fr) trivial ?_
  simp (config := {contextual := true, maxSteps := 1000000}) only [go_sem, ints, intRows, iv_c, Nat.reduceAdd, Nat.reduceBEq, Nat.reduceEqDiff, Nat.reduceLeDiff, Nat.reduceLT, reduceIte, Nat.le_refl, true_or, or_true, and_self, Int.reduceLE, Int.reduceLT, Int.reduceEq, Int.reduceNeg, Int.natCast_nonneg, Int.reduceToNat, ops, vals, dots, rws]
  refine ⟨fun hv => ?_, fun hv => ?_⟩
  · have hv' : vecE fr ≠ 0 := by simpa using hv
    have e : compT cols l fr = ([], 0, vecE fr) := by unfold compT; rw [if_neg hb', if_pos hv']
    rw [e]
    rfl
  have hv' : ¬ vecE fr ≠ 0 := by simpa using hv
  have e : compT cols l fr = (l.filter fun r => !goneB fr r, (l.length : Int) - ((l.filter fun r => !goneB fr r).length : Int), 0) := by unfold compT; rw [if_neg hb', if_neg hv']
  rw [e]
  refine rcS_i (tTwin_ok hl hs fun v1 ob1 n1 rows1 hn1 hO1 hst1 hnd1 hlo1 hv1 hvl1 hfr1 => ?_)
  simp (config := {contextual := true, maxSteps := 1000000}) only [go_sem, ints, intRows, iv_c, Nat.reduceAdd, Nat.reduceBEq, Nat.reduceEqDiff, Nat.reduceLeDiff, Nat.reduceLT, reduceIte, Nat.le_refl, true_or, or_true, and_self, Int.reduceLE, Int.reduceLT, Int.reduceEq, Int.reduceNeg, Int.natCast_nonneg, Int.reduceToNat, ops, vals, dots]
  have hff : resFl (resFl fm) = resFl fm := by cases fm <;> rfl
  have hb1 : ob1 1 = some ⟨1, [[ints fm fr]], none⟩ := by rw [hfr1 1 (by omega)]; rfl
  have hrr : ∀ ob' : OB, [V.bp [ints (resFl fm) fr]].map (resV ob' 6) = [V.bp [ints (resFl fm) fr]] := fun ob' => by
    simp only [ints, List.map_cons, List.map_nil, resV, List.map_map, hff]; rfl
  have hrc : ∀ ob' : OB, ob' 1 = ob1 1 → ∀ m, [V.pt 1 0 0].map (resV ob' (m + 5)) = [V.bp [ints (resFl fm) fr]] := fun ob' h m => by
    rw [hb1] at h
    simp only [List.map_cons, List.map_nil, resV, h, ints, List.map_map, Option.bind_some, List.getElem?_cons_zero, List.drop_zero]; rfl
  rcases hv1 with ⟨h0, rfl⟩ | ⟨hne, N, cap, hN1, rfl, hoN⟩
  · have hl0 : l = [] := by have := hO1.len; rw [h0] at this; exact List.eq_nil_of_length_eq_zero this.symm
    subst hl0
    refine rcS_i (DeleteFuncRows_z (hrc ob1 rfl 0) hrr fun ob2 n2 hn2 hfr2 => ?_)
    simp (config := {contextual := true, maxSteps := 1000000}) only [go_sem, ints, intRows, iv_c, Nat.reduceAdd, Nat.reduceBEq, Nat.reduceEqDiff, Nat.reduceLeDiff, Nat.reduceLT, reduceIte, Nat.le_refl, true_or, or_true, and_self, Int.reduceLE, Int.reduceLT, Int.reduceEq, Int.reduceNeg, Int.natCast_nonneg, Int.reduceToNat, ops, vals, dots]
    refine rcS_i (CloneRowS_z fun ob3 n3 hn3 hfr3 => ?_)
    simp (config := {contextual := true, maxSteps := 1000000}) only [go_sem, ints, intRows, iv_c, Nat.reduceAdd, Nat.reduceBEq, Nat.reduceEqDiff, Nat.reduceLeDiff, Nat.reduceLT, reduceIte, Nat.le_refl, true_or, or_true, and_self, Int.reduceLE, Int.reduceLT, Int.reduceEq, Int.reduceNeg, Int.natCast_nonneg, Int.reduceToNat, ops, vals, dots]
    rfl
  · obtain ⟨P, p1, p2, p3, p4⟩ := hO1.filt (fun r => !goneB fr r)
    have hPl : P.length = rows1.length := by rw [← p1, List.length_map]
    have hrl := hO1.len
    rw [← hPl]
    refine rcS_i (DeleteFuncRows_ok (l := P) (q := fun F => goneB fr F.r) (rc := [V.bp [ints (resFl fm) fr]]) (by omega) (by rw [p1]; exact hoN) (by omega) (fun ob' h => ?_) hrr (fun ob' h x hx m => ?_) (fun x hx => ?_) fun ob2 n2 hn2 hfr2 hob2 => ?_)
    · have hN := hvl1 N _ rfl
      have := h 1 (by omega) (by omega)
      exact ⟨hrc ob' this 1, hrc ob' this 0⟩
    · obtain ⟨q1, q2⟩ := p2 x hx
      have hm : rwP x ∈ rows1 := by rw [← p1]; exact List.mem_map.2 ⟨x, hx, rfl⟩
      have := row_resf (q1.fr (ob' := ob') (Nat.le_refl _) fun id hid => by
        obtain ⟨a, k, r, c, b, d⟩ := hO1.lt id (List.mem_flatMap.2 ⟨_, hm, hid⟩)
        refine h id (fun e => ?_) (by omega)
        rw [e, hoN] at b; injection b with b; injection b with b; omega) m
      rw [← q2] at this
      exact this
    · have : x.2.r ∈ l := by rw [← p3]; exact List.mem_map.2 ⟨x, hx, rfl⟩
      exact cmp1_ok hff fr x.2 (hs _ this).c
    · obtain ⟨Q, hQ⟩ : ∃ Q, Q = P.filter fun x => !goneB fr x.2.r := ⟨_, rfl⟩
      rw [← hQ] at hob2 p4 ⊢
      have hin : ∀ id ∈ (Q.map rwP).flatMap ids, ob2 id = ob1 id ∧ id < n1 := fun id hid => by
        obtain ⟨a, k, r, c, b, d⟩ := p4.lt id hid
        exact ⟨hfr2 id (fun e => by rw [e, hoN] at b; injection b with b; injection b with b; omega) (by omega), a⟩
      have hO2 := p4.fr (ob' := ob2) (hi' := n1) (Nat.le_refl _) fun id hid => (hin id hid).1
      have hQl : Q.length = (l.filter fun r => !goneB fr r).length := by rw [← hO2.len, List.length_map]
      have hPQ : Q.length ≤ P.length := by rw [hQ]; exact List.length_filter_le _ _
      have hmm : (Q.map fun x => x.1).map rw3V = Q.map rwP := by rw [List.map_map]; rfl
      have hlm : (Q.map fun x => x.1).length = Q.length := by simp
      simp (config := {contextual := true, maxSteps := 1000000}) only [go_sem, ints, intRows, iv_c, Nat.reduceAdd, Nat.reduceBEq, Nat.reduceEqDiff, Nat.reduceLeDiff, Nat.reduceLT, reduceIte, Nat.le_refl, true_or, or_true, and_self, Int.reduceLE, Int.reduceLT, Int.reduceEq, Int.reduceNeg, Int.natCast_nonneg, Int.reduceToNat, ops, vals, dots]
      rw [← hlm]
      refine rcS_i (CloneRowS_ok (l := Q.map fun x => x.1) (by rw [hlm]; omega) (by rw [hmm]; exact hob2) (by omega) fun v3 ob3 n3 hn3 hfr3 hv3 => ?_)
      rw [hmm] at hv3
      have hO3 := hO2.fr (ob' := ob3) (hi' := n3) (by omega) fun id hid => hfr3 id (by have := (hin id hid).2; omega)
      have hq : IntKind.i64.wrap ((l.length : Int) - ((l.filter fun r => !goneB fr r).length : Int)) = (l.length : Int) - ((l.filter fun r => !goneB fr r).length : Int) := by rw [w64 (by omega)]
      simp (config := {contextual := true, maxSteps := 1000000}) only [go_sem, ints, intRows, iv_c, Nat.reduceAdd, Nat.reduceBEq, Nat.reduceEqDiff, Nat.reduceLeDiff, Nat.reduceLT, reduceIte, Nat.le_refl, true_or, or_true, and_self, Int.reduceLE, Int.reduceLT, Int.reduceEq, Int.reduceNeg, Int.natCast_nonneg, Int.reduceToNat, ops, vals, dots, hlm, hq, hQl]
      rcases hv3 with ⟨h0, rfl⟩ | ⟨hne3, M, cap3, hM, rfl, hoM⟩
      · have hf0 : (l.filter fun r => !goneB fr r) = [] := by
          refine List.eq_nil_of_length_eq_zero ?_
          rw [← hO3.len, h0]; rfl
        rw [hf0]; rfl
      · have hro : rowsOf ob3 (.sl M 0 (Q.map rwP).length) = some (Q.map rwP) := by
          simp only [rowsOf, hoM, Option.bind_some]
          rw [if_pos (by omega), List.drop_zero, List.take_of_length_le (by omega)]
        simp only [outL, hro]
        rw [if_neg (by intro h; exact hne3 (List.eq_nil_of_length_eq_zero h)), rows_g hoM 3 hO3]
        rfl
end Go.Proofs.Ytcmonjmoapjpkaa.D
end
section
set_option linter.unusedVariables false
set_option linter.unusedSimpArgs false
set_option maxRecDepth 100000
set_option linter.constructorNameAsVariable false

/- As S_opH: comparing operations; which are not played; for tables. No condition. -/
namespace Go.Proofs.Ytcmonjmoapjpkaa.D
open Go Go.Proofs

structure OkO (x : Opx) : Prop where
  d : x.deps.length ≤ maxLen
  v : x.vals.length ≤ maxLen
  s : x.dots.length ≤ maxLen
  n : inI x.dot.n
def sameD (a b : Dt) : Bool := decide (a.p = b.p ∧ a.n = b.n)


def eqV (a b : Vl) : Bool := decide (a.k = b.k) && decide (a.i = b.i) && decide (a.s.toList = b.s.toList)
def eqS3 (a b : St3) : Bool := decide (a.p = b.p) && decide (a.l = b.l) && decide (a.q = b.q)
def sameL {α : Type} (e : α → α → Bool) : List α → List α → Bool
  | [], [] => true
  | x :: a, y :: b => e x y && sameL e a b
  | _, _ => false
def eqO (a b : Opx) : Bool := sameD a.dot b.dot && decide (a.deps = b.deps) && eqS3 a.st b.st && decide (a.kind = b.kind) && decide (a.table = b.table) && decide (a.key.toList = b.key.toList) && decide (a.col = b.col) && sameL eqV a.vals b.vals && sameL sameD a.dots b.dots

theorem sameL_iff {α : Type} [Inhabited α] {e : α → α → Bool} : ∀ {a b : List α}, sameL e a b = true ↔ a.length = b.length ∧ ∀ i, i < a.length → e (gN a i) (gN b i) = true
  | [], [] => by simp [sameL]
  | [], y :: b => by simp [sameL]
  | x :: a, [] => by simp [sameL]
  | x :: a, y :: b => by
    simp only [sameL, Bool.and_eq_true, sameL_iff (a := a) (b := b), List.length_cons]
    constructor
    · rintro ⟨h1, h2, h3⟩
      refine ⟨by omega, fun i hi => ?_⟩
      cases i with
      | zero => simpa [gN] using h1
      | succ i => have := h3 i (by omega); simpa [gN] using this
    · rintro ⟨h1, h2⟩
      refine ⟨by have := h2 0 (by omega); simpa [gN] using this, by omega, fun i hi => ?_⟩
      have := h2 (i + 1) (by omega); simpa [gN] using this
theorem sameL_eq {α : Type} {e : α → α → Bool} (he : ∀ x y, e x y = true → x = y) : ∀ {a b : List α}, sameL e a b = true → a = b
  | [], [], _ => rfl
  | x :: a, y :: b, h => by
    simp only [sameL, Bool.and_eq_true] at h
    rw [he x y h.1, sameL_eq he h.2]
theorem sameL_rfl {α : Type} {e : α → α → Bool} (he : ∀ x, e x x = true) : ∀ a : List α, sameL e a a = true
  | [] => rfl
  | x :: a => by simp [sameL, he, sameL_rfl he a]
theorem eqV_eq (x y : Vl) (h : eqV x y = true) : x = y := by
  simp [eqV] at h
  obtain ⟨⟨h1, h2⟩, h3⟩ := h
  cases x; cases y; simp at h1 h2 h3 ⊢; exact ⟨h1, h2, toList_inj h3⟩
theorem sameD_eq (x y : Dt) (h : sameD x y = true) : x = y := by
  simp [sameD] at h
  cases x; cases y; simp at h ⊢; exact h
theorem sameD_iff (x y : Dt) : sameD x y = true ↔ x = y := ⟨sameD_eq x y, fun h => by subst h; simp [sameD]⟩
theorem eqO_eq (x y : Opx) (h : eqO x y = true) : x = y := by
  simp only [eqO, Bool.and_eq_true, decide_eq_true_eq] at h
  obtain ⟨⟨⟨⟨⟨⟨⟨⟨h1, h2⟩, h3⟩, h4⟩, h5⟩, h6⟩, h7⟩, h8⟩, h9⟩ := h
  have e3 : x.st = y.st := by
    simp [eqS3] at h3
    rcases x with ⟨_, _, ⟨_, _, _⟩, _, _, _, _, _, _⟩; rcases y with ⟨_, _, ⟨_, _, _⟩, _, _, _, _, _, _⟩; simp at h3 ⊢; exact ⟨h3.1.1, h3.1.2, h3.2⟩
  have e1 := sameD_eq _ _ h1
  have e6 := toList_inj h6
  have e8 := sameL_eq eqV_eq h8
  have e9 := sameL_eq sameD_eq h9
  cases x; cases y; simp at *; exact ⟨e1, h2, e3, h4, h5, e6, h7, e8, e9⟩
theorem eqO_rfl (x : Opx) : eqO x x = true := by
  simp only [eqO, Bool.and_eq_true, decide_eq_true_eq]
  refine ⟨⟨⟨⟨⟨⟨⟨⟨?_, trivial⟩, ?_⟩, trivial⟩, trivial⟩, trivial⟩, trivial⟩, sameL_rfl (fun x => by simp [eqV]) _⟩, sameL_rfl (fun x => by simp [sameD]) _⟩
  · simp [sameD]
  · simp [eqS3]

theorem KValue_ok (a b : Vl) : FnB Try.prog 19 [.ag (vlV a), .ag (vlV b)] (vb (eqV a b)) := by
  refine fnB_intro cf19 (by simp) ?_
  simp (config := {contextual := true, maxSteps := 1000000}) only [go_sem, ints, intRows, iv_c, Nat.reduceAdd, Nat.reduceBEq, Nat.reduceEqDiff, Nat.reduceLeDiff, Nat.reduceLT, reduceIte, Nat.le_refl, true_or, or_true, and_self, Int.reduceLE, Int.reduceLT, Int.reduceEq, Int.reduceNeg, Int.natCast_nonneg, Int.reduceToNat, ops, vals, dots, c19, vlV]
  rfl
theorem KDot_ok (a b : Dt) : FnB Try.prog 12 [.ag (dotV a), .ag (dotV b)] (vb (sameD a b)) := by
  refine fnB_intro cf12 (by simp) ?_
  simp (config := {contextual := true, maxSteps := 1000000}) only [go_sem, ints, intRows, iv_c, Nat.reduceAdd, Nat.reduceBEq, Nat.reduceEqDiff, Nat.reduceLeDiff, Nat.reduceLT, reduceIte, Nat.le_refl, true_or, or_true, and_self, Int.reduceLE, Int.reduceLT, Int.reduceEq, Int.reduceNeg, Int.natCast_nonneg, Int.reduceToNat, ops, vals, dots, c12, dotV]
  simp [sameD]
theorem sameL_no {α : Type} [Inhabited α] {e : α → α → Bool} {a b : List α} (h : a.length ≠ b.length) : sameL e a b = false := by
  cases hs : sameL e a b with
  | false => rfl
  | true => exact absurd (sameL_iff.1 hs).1 h
theorem sameL_bad {α : Type} [Inhabited α] {e : α → α → Bool} {a b : List α} {i : Nat} (hi : i < a.length) (h : e (gN a i) (gN b i) = false) : sameL e a b = false := by
  cases hs : sameL e a b with
  | false => rfl
  | true => have := (sameL_iff.1 hs).2 i hi; rw [h] at this; cases this
/-- More than is played? -/
def longV (l : List Vl) : Bool := l.any fun v => decide (300 < v.s.size)
theorem any_no {α : Type} [Inhabited α] {p : α → Bool} {l : List α} (h : ∀ j, j < l.length → p (gN l j) = false) : l.any p = false := by
  cases ha : l.any p with
  | false => rfl
  | true =>
    obtain ⟨x, hx, hp⟩ := List.any_eq_true.1 ha
    obtain ⟨j, hj, rfl⟩ := List.mem_iff_getElem.1 hx
    have := h j hj
    rw [gN_eq hj, hp] at this; cases this
theorem Long_ok {fl : Fl} (l : List Vl) (hl : l.length ≤ maxLen) : FnB Try.prog 47 [vals fl l] (vb (longV l)) := by
  unfold maxLen at hl
  refine fnB_intro cf47 (by simp) ?_
  simp (config := {contextual := true, maxSteps := 1000000}) only [go_sem, ints, intRows, iv_c, Nat.reduceAdd, Nat.reduceBEq, Nat.reduceEqDiff, Nat.reduceLeDiff, Nat.reduceLT, reduceIte, Nat.le_refl, true_or, or_true, and_self, Int.reduceLE, Int.reduceLT, Int.reduceEq, Int.reduceNeg, Int.natCast_nonneg, Int.reduceToNat, ops, vals, dots, c47]
  refine wpC_lp (fun env ob n => env 0 = vals fl l ∧ ∃ i : Nat, env 3 = vi i ∧ i ≤ l.length ∧ ∀ j, j < i → decide (300 < (gN l j).s.size) = false) (fun env ob n => (l.length - iv (env 3)).toNat) ?_ ?_
  · simp (config := {contextual := true, maxSteps := 1000000}) only [go_sem, ints, intRows, iv_c, Nat.reduceAdd, Nat.reduceBEq, Nat.reduceEqDiff, Nat.reduceLeDiff, Nat.reduceLT, reduceIte, Nat.le_refl, true_or, or_true, and_self, Int.reduceLE, Int.reduceLT, Int.reduceEq, Int.reduceNeg, Int.natCast_nonneg, Int.reduceToNat, ops, vals, dots]
    exact ⟨0, rfl, by omega, fun j hj => by omega⟩
  rintro env ob n ⟨h0, i, h3, hi, he⟩
  simp (config := {contextual := true, maxSteps := 1000000}) only [go_sem, ints, intRows, iv_c, Nat.reduceAdd, Nat.reduceBEq, Nat.reduceEqDiff, Nat.reduceLeDiff, Nat.reduceLT, reduceIte, Nat.le_refl, true_or, or_true, and_self, Int.reduceLE, Int.reduceLT, Int.reduceEq, Int.reduceNeg, Int.natCast_nonneg, Int.reduceToNat, ops, vals, dots, h0, h3]
  refine ⟨fun hlt => ?_, fun hge => ?_⟩
  · simp at hlt
    repeat (refine And.intro (by omega) ?_)
    refine ⟨fun hb => ?_, fun hg => ⟨⟨i + 1, ?_, by omega, fun j hj => ?_⟩, ?_⟩⟩
    · have : longV l = true := List.any_eq_true.2 ⟨_, gN_mem hlt, by simp at hb ⊢; omega⟩
      rw [this]
    · rw [w64 (by omega)]; simp
    · by_cases hji : j = i
      · subst hji; simp at hg ⊢; omega
      · exact he j (by omega)
    · rw [w64 (by omega)]; omega
  · simp at hge
    have : longV l = false := any_no fun j hj => he j (by omega)
    rw [this]
def heavyR (l : List Vl) : Bool := decide (40 < l.length) || longV l
theorem HeavyR_ok {fl : Fl} (l : List Vl) : FnB Try.prog 23 [vals fl l] (vb (heavyR l)) := by
  refine fnB_intro cf23 (by simp) ?_
  simp (config := {contextual := true, maxSteps := 1000000}) only [go_sem, ints, intRows, iv_c, Nat.reduceAdd, Nat.reduceBEq, Nat.reduceEqDiff, Nat.reduceLeDiff, Nat.reduceLT, reduceIte, Nat.le_refl, true_or, or_true, and_self, Int.reduceLE, Int.reduceLT, Int.reduceEq, Int.reduceNeg, Int.natCast_nonneg, Int.reduceToNat, ops, vals, dots, c23]
  refine gC_i (fun hb => Long_ok l (by simp at hb; unfold maxLen; omega)) trivial ?_
  simp (config := {contextual := true, maxSteps := 1000000}) only [go_sem, ints, intRows, iv_c, Nat.reduceAdd, Nat.reduceBEq, Nat.reduceEqDiff, Nat.reduceLeDiff, Nat.reduceLT, reduceIte, Nat.le_refl, true_or, or_true, and_self, Int.reduceLE, Int.reduceLT, Int.reduceEq, Int.reduceNeg, Int.natCast_nonneg, Int.reduceToNat, ops, vals, dots]
  have : (40 < (l.length : Int)) ↔ (40 < l.length) := by omega
  simp [heavyR, this]
def heavyO (x : Opx) : Bool := decide (30 < x.deps.length) || decide (100 < x.key.size) || heavyR x.vals || decide (100 < x.dots.length)
def heavyOs (l : List Opx) : Bool := decide (300 < l.length) || l.any heavyO
theorem HeavyOs_ok {fl : Fl} (l : List Opx) : FnB Try.prog 9 [ops fl l] (vb (heavyOs l)) := by
  refine fnB_intro cf9 (by simp) ?_
  simp (config := {contextual := true, maxSteps := 1000000}) only [go_sem, ints, intRows, iv_c, Nat.reduceAdd, Nat.reduceBEq, Nat.reduceEqDiff, Nat.reduceLeDiff, Nat.reduceLT, reduceIte, Nat.le_refl, true_or, or_true, and_self, Int.reduceLE, Int.reduceLT, Int.reduceEq, Int.reduceNeg, Int.natCast_nonneg, Int.reduceToNat, ops, vals, dots, c9]
  refine ⟨fun hb => ?_, fun hl => ?_⟩
  · simp at hb
    have : heavyOs l = true := by simp [heavyOs]; left; omega
    rw [this]
  simp at hl
  refine wpC_lp (fun env ob n => env 0 = ops fl l ∧ ∃ i : Nat, env 3 = vi i ∧ i ≤ l.length ∧ ∀ j, j < i → heavyO (gN l j) = false) (fun env ob n => (l.length - iv (env 3)).toNat) ?_ ?_
  · simp (config := {contextual := true, maxSteps := 1000000}) only [go_sem, ints, intRows, iv_c, Nat.reduceAdd, Nat.reduceBEq, Nat.reduceEqDiff, Nat.reduceLeDiff, Nat.reduceLT, reduceIte, Nat.le_refl, true_or, or_true, and_self, Int.reduceLE, Int.reduceLT, Int.reduceEq, Int.reduceNeg, Int.natCast_nonneg, Int.reduceToNat, ops, vals, dots]
    exact ⟨0, rfl, by omega, fun j hj => by omega⟩
  rintro env ob n ⟨h0, i, h3, hi, he⟩
  simp (config := {contextual := true, maxSteps := 1000000}) only [go_sem, ints, intRows, iv_c, Nat.reduceAdd, Nat.reduceBEq, Nat.reduceEqDiff, Nat.reduceLeDiff, Nat.reduceLT, reduceIte, Nat.le_refl, true_or, or_true, and_self, Int.reduceLE, Int.reduceLT, Int.reduceEq, Int.reduceNeg, Int.natCast_nonneg, Int.reduceToNat, ops, vals, dots, h0, h3]
  refine ⟨fun hlt => ?_, fun hge => ?_⟩
  · simp at hlt
    refine ⟨by omega, fun _ => by omega, fun _ => by omega, ?_⟩
    first | refine caS_i (HeavyR_ok (gN l i).vals) trivial ?_ | refine caD_i (HeavyR_ok (gN l i).vals) trivial ?_ | refine gC_i (fun _ => HeavyR_ok (gN l i).vals) trivial ?_ | refine gCD_i (fun _ => HeavyR_ok (gN l i).vals) trivial ?_ | refine caE_i (HeavyR_ok (gN l i).vals) trivial ?_
    simp (config := {contextual := true, maxSteps := 1000000}) only [go_sem, ints, intRows, iv_c, Nat.reduceAdd, Nat.reduceBEq, Nat.reduceEqDiff, Nat.reduceLeDiff, Nat.reduceLT, reduceIte, Nat.le_refl, true_or, or_true, and_self, Int.reduceLE, Int.reduceLT, Int.reduceEq, Int.reduceNeg, Int.natCast_nonneg, Int.reduceToNat, ops, vals, dots, h0, h3]
    have e : (decide (30 < ((gN l i).deps.length : Int)) || decide (100 < ((gN l i).key.size : Int)) || heavyR (gN l i).vals || decide (100 < ((gN l i).dots.length : Int))) = heavyO (gN l i) := by
      have a1 : (30 < ((gN l i).deps.length : Int)) ↔ 30 < (gN l i).deps.length := by omega
      have a2 : (100 < ((gN l i).key.size : Int)) ↔ 100 < (gN l i).key.size := by omega
      have a3 : (100 < ((gN l i).dots.length : Int)) ↔ 100 < (gN l i).dots.length := by omega
      simp [heavyO, a1, a2, a3]
    rw [e]
    refine ⟨fun _ => by omega, fun hb => ?_, fun hg => ⟨⟨i + 1, ?_, by omega, fun j hj => ?_⟩, ?_⟩⟩
    · have : heavyOs l = true := by
        rw [heavyOs, List.any_eq_true.2 ⟨_, gN_mem hlt, hb⟩]; simp
      rw [this]
    · rw [w64 (by omega)]; simp
    · by_cases hji : j = i
      · subst hji; exact hg
      · exact he j (by omega)
    · rw [w64 (by omega)]; omega
  · simp at hge
    have : heavyOs l = false := by
      rw [heavyOs, any_no fun j hj => he j (by omega)]
      simp; omega
    rw [this]
theorem heavyO_ok {x : Opx} (h : heavyO x = false) (hn : inI x.dot.n) : OkO x := by
  simp [heavyO, heavyR] at h
  exact ⟨by unfold maxLen; omega, by unfold maxLen; omega, by unfold maxLen; omega, hn⟩
theorem heavyOs_ok {l : List Opx} (h : heavyOs l = false) (hn : ∀ x ∈ l, inI x.dot.n) : ∀ x ∈ l, OkO x := fun x hx => by
  simp only [heavyOs, Bool.or_eq_false_iff] at h
  have := List.any_eq_false.1 h.2 x hx
  exact heavyO_ok (by simpa using this) (hn x hx)
theorem HeavyForm_ok (cols : List Int) : FnB Try.prog 8 [.ag (tbV cols)] (vb (decide (30 < (cols.length : Int)))) := by
  refine fnB_intro cf8 (by simp) ?_
  simp (config := {contextual := true, maxSteps := 1000000}) only [go_sem, ints, intRows, iv_c, Nat.reduceAdd, Nat.reduceBEq, Nat.reduceEqDiff, Nat.reduceLeDiff, Nat.reduceLT, reduceIte, Nat.le_refl, true_or, or_true, and_self, Int.reduceLE, Int.reduceLT, Int.reduceEq, Int.reduceNeg, Int.natCast_nonneg, Int.reduceToNat, ops, vals, dots, c8, tbV]
theorem inRef_ok (n a b : Int) : FnB Try.prog 24 [vi n, vi a, vi b] (vb (decide (a ≤ n ∧ n ≤ b))) := by
  refine fnB_intro cf24 (by simp) ?_
  simp (config := {contextual := true, maxSteps := 1000000}) only [go_sem, ints, intRows, iv_c, Nat.reduceAdd, Nat.reduceBEq, Nat.reduceEqDiff, Nat.reduceLeDiff, Nat.reduceLT, reduceIte, Nat.le_refl, true_or, or_true, and_self, Int.reduceLE, Int.reduceLT, Int.reduceEq, Int.reduceNeg, Int.natCast_nonneg, Int.reduceToNat, ops, vals, dots, c24]
  rw [← Bool.decide_and]
theorem TypeR_ok (n : Int) : FnB Try.prog 25 [vi n] (vb (decide (2 ≤ n ∧ n ≤ 4))) := by
  refine fnB_intro cf25 (by simp) ?_
  simp (config := {contextual := true, maxSteps := 1000000}) only [go_sem, ints, intRows, iv_c, Nat.reduceAdd, Nat.reduceBEq, Nat.reduceEqDiff, Nat.reduceLeDiff, Nat.reduceLT, reduceIte, Nat.le_refl, true_or, or_true, and_self, Int.reduceLE, Int.reduceLT, Int.reduceEq, Int.reduceNeg, Int.natCast_nonneg, Int.reduceToNat, ops, vals, dots, c25]
  first | refine caS_i (inRef_ok n 2 4) trivial ?_ | refine caD_i (inRef_ok n 2 4) trivial ?_ | refine gC_i (fun _ => inRef_ok n 2 4) trivial ?_ | refine gCD_i (fun _ => inRef_ok n 2 4) trivial ?_ | refine caE_i (inRef_ok n 2 4) trivial ?_
  simp (config := {contextual := true, maxSteps := 1000000}) only [go_sem, ints, intRows, iv_c, Nat.reduceAdd, Nat.reduceBEq, Nat.reduceEqDiff, Nat.reduceLeDiff, Nat.reduceLT, reduceIte, Nat.le_refl, true_or, or_true, and_self, Int.reduceLE, Int.reduceLT, Int.reduceEq, Int.reduceNeg, Int.natCast_nonneg, Int.reduceToNat, ops, vals, dots]
theorem sign_ok (b : Bool) : FnB Try.prog 34 [vb b] (vi (if b then -1 else 1)) := by
  refine fnB_intro cf34 (by simp) ?_
  cases b <;> simp (config := {contextual := true, maxSteps := 1000000}) only [go_sem, ints, intRows, iv_c, Nat.reduceAdd, Nat.reduceBEq, Nat.reduceEqDiff, Nat.reduceLeDiff, Nat.reduceLT, reduceIte, Nat.le_refl, true_or, or_true, and_self, Int.reduceLE, Int.reduceLT, Int.reduceEq, Int.reduceNeg, Int.natCast_nonneg, Int.reduceToNat, ops, vals, dots, c34] <;> simp
theorem cmpI_ne {a b : Int} (h : ¬ a = b) : cmpI a b = if a < b then -1 else 1 := by
  unfold cmpI; split
  · rfl
  · rw [if_pos (by omega)]
theorem cmpI_eq {a b : Int} (h : a = b) : cmpI a b = 0 := by
  unfold cmpI; rw [if_neg (by omega), if_neg (by omega)]
theorem orV_ne {x : Int} {l : List Int} (h : x ≠ 0) : orV (x :: l) = x := by unfold orV; rw [if_pos h]
theorem orV_0 {l : List Int} : orV (0 :: l) = orV l := rfl
theorem cmpI_n0 {a b : Int} (h : ¬ a = b) : cmpI a b ≠ 0 := by rw [cmpI_ne h]; split <;> omega
theorem CompareStamps_ok (a b : St3) : FnB Try.prog 13 [.ag (stV a), .ag (stV b)] (vi (cmpT a b)) := by
  refine fnB_intro cf13 (by simp) ?_
  simp (config := {contextual := true, maxSteps := 1000000}) only [go_sem, ints, intRows, iv_c, Nat.reduceAdd, Nat.reduceBEq, Nat.reduceEqDiff, Nat.reduceLeDiff, Nat.reduceLT, reduceIte, Nat.le_refl, true_or, or_true, and_self, Int.reduceLE, Int.reduceLT, Int.reduceEq, Int.reduceNeg, Int.natCast_nonneg, Int.reduceToNat, ops, vals, dots, c13, stV]
  refine ⟨fun h => ?_, fun h => ⟨fun h2 => ?_, fun h2 => ⟨fun h3 => ?_, fun h3 => ?_⟩⟩⟩
  · simp at h
    first | refine caS_i (sign_ok (decide (a.p < b.p))) trivial ?_ | refine caD_i (sign_ok (decide (a.p < b.p))) trivial ?_ | refine gC_i (fun _ => sign_ok (decide (a.p < b.p))) trivial ?_ | refine gCD_i (fun _ => sign_ok (decide (a.p < b.p))) trivial ?_ | refine caE_i (sign_ok (decide (a.p < b.p))) trivial ?_
    simp (config := {contextual := true, maxSteps := 1000000}) only [go_sem, ints, intRows, iv_c, Nat.reduceAdd, Nat.reduceBEq, Nat.reduceEqDiff, Nat.reduceLeDiff, Nat.reduceLT, reduceIte, Nat.le_refl, true_or, or_true, and_self, Int.reduceLE, Int.reduceLT, Int.reduceEq, Int.reduceNeg, Int.natCast_nonneg, Int.reduceToNat, ops, vals, dots]
    unfold cmpT; rw [orV_ne (cmpI_n0 h), cmpI_ne h]; by_cases hh : a.p < b.p <;> simp [hh]
  · simp at h h2
    first | refine caS_i (sign_ok (decide (a.l < b.l))) trivial ?_ | refine caD_i (sign_ok (decide (a.l < b.l))) trivial ?_ | refine gC_i (fun _ => sign_ok (decide (a.l < b.l))) trivial ?_ | refine gCD_i (fun _ => sign_ok (decide (a.l < b.l))) trivial ?_ | refine caE_i (sign_ok (decide (a.l < b.l))) trivial ?_
    simp (config := {contextual := true, maxSteps := 1000000}) only [go_sem, ints, intRows, iv_c, Nat.reduceAdd, Nat.reduceBEq, Nat.reduceEqDiff, Nat.reduceLeDiff, Nat.reduceLT, reduceIte, Nat.le_refl, true_or, or_true, and_self, Int.reduceLE, Int.reduceLT, Int.reduceEq, Int.reduceNeg, Int.natCast_nonneg, Int.reduceToNat, ops, vals, dots]
    unfold cmpT; rw [cmpI_eq h, orV_0, orV_ne (cmpI_n0 h2), cmpI_ne h2]; by_cases hh : a.l < b.l <;> simp [hh]
  · simp at h h2 h3
    first | refine caS_i (sign_ok (decide (a.q < b.q))) trivial ?_ | refine caD_i (sign_ok (decide (a.q < b.q))) trivial ?_ | refine gC_i (fun _ => sign_ok (decide (a.q < b.q))) trivial ?_ | refine gCD_i (fun _ => sign_ok (decide (a.q < b.q))) trivial ?_ | refine caE_i (sign_ok (decide (a.q < b.q))) trivial ?_
    simp (config := {contextual := true, maxSteps := 1000000}) only [go_sem, ints, intRows, iv_c, Nat.reduceAdd, Nat.reduceBEq, Nat.reduceEqDiff, Nat.reduceLeDiff, Nat.reduceLT, reduceIte, Nat.le_refl, true_or, or_true, and_self, Int.reduceLE, Int.reduceLT, Int.reduceEq, Int.reduceNeg, Int.natCast_nonneg, Int.reduceToNat, ops, vals, dots]
    unfold cmpT; rw [cmpI_eq h, orV_0, cmpI_eq h2, orV_0, orV_ne (cmpI_n0 h3), cmpI_ne h3]; by_cases hh : a.q < b.q <;> simp [hh]
  · simp at h h2 h3
    unfold cmpT; rw [cmpI_eq h, cmpI_eq h2, cmpI_eq h3]; rfl
theorem FormsR_ok (cols : List Int) (hc : cols.length ≤ maxLen) : FnB Try.prog 10 [tbs .b [cols]] (vi (formE cols)) := by
  unfold maxLen at hc
  refine fnB_intro cf10 (by simp) ?_
  simp (config := {contextual := true, maxSteps := 1000000}) only [go_sem, ints, intRows, iv_c, Nat.reduceAdd, Nat.reduceBEq, Nat.reduceEqDiff, Nat.reduceLeDiff, Nat.reduceLT, reduceIte, Nat.le_refl, true_or, or_true, and_self, Int.reduceLE, Int.reduceLT, Int.reduceEq, Int.reduceNeg, Int.natCast_nonneg, Int.reduceToNat, ops, vals, dots, c10, tbs]
  first | refine caS_i (inRef_ok 1 1 3) trivial ?_ | refine caD_i (inRef_ok 1 1 3) trivial ?_ | refine gC_i (fun _ => inRef_ok 1 1 3) trivial ?_ | refine gCD_i (fun _ => inRef_ok 1 1 3) trivial ?_ | refine caE_i (inRef_ok 1 1 3) trivial ?_
  simp (config := {contextual := true, maxSteps := 1000000}) only [go_sem, ints, intRows, iv_c, Nat.reduceAdd, Nat.reduceBEq, Nat.reduceEqDiff, Nat.reduceLeDiff, Nat.reduceLT, reduceIte, Nat.le_refl, true_or, or_true, and_self, Int.reduceLE, Int.reduceLT, Int.reduceEq, Int.reduceNeg, Int.natCast_nonneg, Int.reduceToNat, ops, vals, dots, tbs]
  have w1' : IntKind.i64.wrap (0 + 1) = 1 := by decide
  refine wpC_lp (fun env ob n => env 0 = tbs .b [cols] ∧ (env 3 = vi 0 ∨ env 3 = vi 1 ∧ 1 ≤ cols.length ∧ cols.length ≤ 4)) (fun env ob n => (1 - iv (env 3)).toNat) ?_ ?_
  · simp (config := {contextual := true, maxSteps := 1000000}) only [go_sem, ints, intRows, iv_c, Nat.reduceAdd, Nat.reduceBEq, Nat.reduceEqDiff, Nat.reduceLeDiff, Nat.reduceLT, reduceIte, Nat.le_refl, true_or, or_true, and_self, Int.reduceLE, Int.reduceLT, Int.reduceEq, Int.reduceNeg, Int.natCast_nonneg, Int.reduceToNat, ops, vals, dots, tbs]
  rintro env ob n ⟨h0, h3 | ⟨h3, l1, l2⟩⟩
  · simp (config := {contextual := true, maxSteps := 1000000}) only [go_sem, ints, intRows, iv_c, Nat.reduceAdd, Nat.reduceBEq, Nat.reduceEqDiff, Nat.reduceLeDiff, Nat.reduceLT, reduceIte, Nat.le_refl, true_or, or_true, and_self, Int.reduceLE, Int.reduceLT, Int.reduceEq, Int.reduceNeg, Int.natCast_nonneg, Int.reduceToNat, ops, vals, dots, h0, h3, tbs, ia_h]
    first | refine caS_i (inRef_ok (cols.length : Int) 1 4) trivial ?_ | refine caD_i (inRef_ok (cols.length : Int) 1 4) trivial ?_ | refine gC_i (fun _ => inRef_ok (cols.length : Int) 1 4) trivial ?_ | refine gCD_i (fun _ => inRef_ok (cols.length : Int) 1 4) trivial ?_ | refine caE_i (inRef_ok (cols.length : Int) 1 4) trivial ?_
    simp (config := {contextual := true, maxSteps := 1000000}) only [go_sem, ints, intRows, iv_c, Nat.reduceAdd, Nat.reduceBEq, Nat.reduceEqDiff, Nat.reduceLeDiff, Nat.reduceLT, reduceIte, Nat.le_refl, true_or, or_true, and_self, Int.reduceLE, Int.reduceLT, Int.reduceEq, Int.reduceNeg, Int.natCast_nonneg, Int.reduceToNat, ops, vals, dots, h0, h3, tbs, ia_h, w1']
    refine ⟨fun hb => ?_, fun hb => ⟨.inr ⟨by simp at hb; omega, by simp at hb; omega⟩, by decide⟩⟩
    rw [formE, if_pos (by simp at hb; omega)]
  have hlen : ¬ ((cols.length : Int) < 1 ∨ 4 < (cols.length : Int)) := by omega
  have hf : formE cols = if cols.any (fun c => decide (c < 2) || decide (4 < c)) then 10 else 0 := by rw [formE, if_neg hlen]
  simp (config := {contextual := true, maxSteps := 1000000}) only [go_sem, ints, intRows, iv_c, Nat.reduceAdd, Nat.reduceBEq, Nat.reduceEqDiff, Nat.reduceLeDiff, Nat.reduceLT, reduceIte, Nat.le_refl, true_or, or_true, and_self, Int.reduceLE, Int.reduceLT, Int.reduceEq, Int.reduceNeg, Int.natCast_nonneg, Int.reduceToNat, ops, vals, dots, h0, h3, tbs]
  refine wpC_lp (fun env ob n => env 0 = tbs .b [cols] ∧ (env 4 = vi 0 ∨ env 4 = vi 1 ∧ cols.any (fun c => decide (c < 2) || decide (4 < c)) = false)) (fun env ob n => (1 - iv (env 4)).toNat) ?_ ?_
  · simp (config := {contextual := true, maxSteps := 1000000}) only [go_sem, ints, intRows, iv_c, Nat.reduceAdd, Nat.reduceBEq, Nat.reduceEqDiff, Nat.reduceLeDiff, Nat.reduceLT, reduceIte, Nat.le_refl, true_or, or_true, and_self, Int.reduceLE, Int.reduceLT, Int.reduceEq, Int.reduceNeg, Int.natCast_nonneg, Int.reduceToNat, ops, vals, dots, h0, tbs]
  clear h0 h3 env
  rintro env ob' n' ⟨h0, h4 | ⟨h4, hany⟩⟩
  · simp (config := {contextual := true, maxSteps := 1000000}) only [go_sem, ints, intRows, iv_c, Nat.reduceAdd, Nat.reduceBEq, Nat.reduceEqDiff, Nat.reduceLeDiff, Nat.reduceLT, reduceIte, Nat.le_refl, true_or, or_true, and_self, Int.reduceLE, Int.reduceLT, Int.reduceEq, Int.reduceNeg, Int.natCast_nonneg, Int.reduceToNat, ops, vals, dots, h0, h4, tbs]
    refine wpC_lp (fun env ob n => env 0 = tbs .b [cols] ∧ env 4 = vi 0 ∧ ∃ k : Nat, env 5 = vi k ∧ k ≤ cols.length ∧ ∀ j, j < k → (decide (gN cols j < 2) || decide (4 < gN cols j)) = false) (fun env ob n => (cols.length - iv (env 5)).toNat) ?_ ?_
    · simp (config := {contextual := true, maxSteps := 1000000}) only [go_sem, ints, intRows, iv_c, Nat.reduceAdd, Nat.reduceBEq, Nat.reduceEqDiff, Nat.reduceLeDiff, Nat.reduceLT, reduceIte, Nat.le_refl, true_or, or_true, and_self, Int.reduceLE, Int.reduceLT, Int.reduceEq, Int.reduceNeg, Int.natCast_nonneg, Int.reduceToNat, ops, vals, dots, tbs, h0, h4]
      exact ⟨0, rfl, Nat.zero_le _, fun j hj => by omega⟩
    clear h0 h4 env
    rintro env ob'' n'' ⟨h0, h4, k, h5, hk, hj⟩
    simp (config := {contextual := true, maxSteps := 1000000}) only [go_sem, ints, intRows, iv_c, Nat.reduceAdd, Nat.reduceBEq, Nat.reduceEqDiff, Nat.reduceLeDiff, Nat.reduceLT, reduceIte, Nat.le_refl, true_or, or_true, and_self, Int.reduceLE, Int.reduceLT, Int.reduceEq, Int.reduceNeg, Int.natCast_nonneg, Int.reduceToNat, ops, vals, dots, h0, h4, h5, tbs, ia_h]
    have w1 : IntKind.i64.wrap ((k : Int) + 1) = ((k + 1 : Nat) : Int) := by rw [w64 (by omega)]; omega
    refine ⟨fun hlt => ?_, fun hge => ?_⟩
    · simp at hlt
      repeat (refine And.intro (by omega) ?_)
      first | refine caS_i (TypeR_ok (gN cols k)) trivial ?_ | refine caD_i (TypeR_ok (gN cols k)) trivial ?_ | refine gC_i (fun _ => TypeR_ok (gN cols k)) trivial ?_ | refine gCD_i (fun _ => TypeR_ok (gN cols k)) trivial ?_ | refine caE_i (TypeR_ok (gN cols k)) trivial ?_
      simp (config := {contextual := true, maxSteps := 1000000}) only [go_sem, ints, intRows, iv_c, Nat.reduceAdd, Nat.reduceBEq, Nat.reduceEqDiff, Nat.reduceLeDiff, Nat.reduceLT, reduceIte, Nat.le_refl, true_or, or_true, and_self, Int.reduceLE, Int.reduceLT, Int.reduceEq, Int.reduceNeg, Int.natCast_nonneg, Int.reduceToNat, ops, vals, dots, h0, h4, h5, tbs, ia_h, w1]
      refine ⟨fun hb => ?_, fun hb => ⟨⟨k + 1, rfl, by omega, fun j hj2 => ?_⟩, by omega⟩⟩
      · rw [hf, if_pos (List.any_eq_true.2 ⟨gN cols k, gN_mem hlt, by simp at hb ⊢; omega⟩)]
      · by_cases hjk : j = k
        · subst hjk; simp at hb ⊢; omega
        · exact hj j (by omega)
    · simp at hge
      have ha : cols.any (fun c => decide (c < 2) || decide (4 < c)) = false := any_no fun j hj2 => hj j (by omega)
      rw [w1']
      exact ⟨.inr ⟨rfl, ha⟩, by decide⟩
  · simp (config := {contextual := true, maxSteps := 1000000}) only [go_sem, ints, intRows, iv_c, Nat.reduceAdd, Nat.reduceBEq, Nat.reduceEqDiff, Nat.reduceLeDiff, Nat.reduceLT, reduceIte, Nat.le_refl, true_or, or_true, and_self, Int.reduceLE, Int.reduceLT, Int.reduceEq, Int.reduceNeg, Int.natCast_nonneg, Int.reduceToNat, ops, vals, dots, h0, h4, tbs]
    rw [hf, hany]; rfl
end Go.Proofs.Ytcmonjmoapjpkaa.D
end
section
set_option linter.unusedVariables false
set_option linter.unusedSimpArgs false
set_option linter.constructorNameAsVariable false
set_option maxRecDepth 100000

/- Tables by operations: plain facts. No condition. -/
namespace Go.Proofs.Ytcmonjmoapjpkaa.D
open Go Go.Proofs

theorem apply_code {cols : List Int} {l : List Rwx} {x : Opz} (hck : checkT cols l = 0) : (opE cols (tab0 x) = 0 ∧ (applyT cols l x).2.2.2 = 0) ∨ (opE cols (tab0 x) ≠ 0 ∧ applyT cols l x = ([], [], [], 1)) := by
  by_cases ho : opE cols (tab0 x) = 0
  · exact .inl ⟨ho, by rw [apply_e hck ho]⟩
  · exact .inr ⟨ho, by rw [applyT, if_neg (by simpa using hck), if_pos ho]⟩
theorem opR {cols : List Int} {x : Opz} (ho : opE cols (tab0 x) = 0) : ∃ n, n ≤ 5 ∧ OpR_ n cols (tab0 x) := by
  obtain ⟨_, o1, o2, o3⟩ := opE_0 ho
  exact ⟨_, o2, rightO_1 o3⟩
theorem chgT_key (r : Rwx) (x : Opz) : (chgT r x).key = r.key := by
  unfold chgT; repeat' split
  all_goals rfl
/-- What the rows behind an operation are. -/
theorem apply_row {cols : List Int} {l : List Rwx} {x : Opz} (hck : checkT cols l = 0) (ho : opE cols (tab0 x) = 0) : ∀ r' ∈ (applyT cols l x).1, (r' ∈ l ∧ r'.key ≠ x.key) ∨ ∃ R, r' = chgT R x ∧ R.key = x.key ∧ (R ∈ l ∨ R = ⟨x.key, [], List.replicate cols.length zCel⟩ ∧ ∀ r ∈ l, r.key ≠ x.key) ∧ Right cols R := by
  have hr := (chk_0 hck).2
  obtain ⟨n, hn, o⟩ := opR ho
  obtain ⟨w1, w2⟩ := withK_spec hr o.key
  have w1 : rowsB cols (withK cols l x.key) = true := w1
  have w2 : (gN (withK cols l x.key) (posK l x.key)).key = x.key := w2
  have hk := withK_lt cols l x.key
  rw [apply_e hck ho]
  intro r' hr'
  obtain ⟨i, hi, rfl⟩ := gN_mem_iff.1 hr'
  have hi' : i < (withK cols l x.key).length := by simpa using hi
  by_cases hik : i = posK l x.key
  · right
    subst hik
    refine ⟨gN (withK cols l x.key) (posK l x.key), gN_set hk _, w2, ?_, right_iff.1 (rows_at w1 hk).1⟩
    rcases withK_at cols l x.key with ⟨h1, h2⟩ | ⟨h1, _, h3⟩
    · left; rw [h2]; exact gN_mem (isK_true h1).1
    · right
      refine ⟨h3, fun r hrl e => ?_⟩
      obtain ⟨j, hj, rfl⟩ := gN_mem_iff.1 hrl
      have := (posK_at hr hj).2
      rw [e, h1] at this; cases this
  · left
    have e : gN ((withK cols l x.key).set (posK l x.key) (chgT (gN (withK cols l x.key) (posK l x.key)) x)) i = gN (withK cols l x.key) i := by
      rw [gN_eq hi, gN_eq hi', List.getElem_set_ne (by omega)]
    rw [e]
    refine ⟨withK_old hi' hik, fun e2 => hik (keys_inj w1 hi' hk (e2.trans w2.symm))⟩
/-- No row goes. -/
theorem apply_keep {cols : List Int} {l : List Rwx} {x : Opz} (hck : checkT cols l = 0) (ho : opE cols (tab0 x) = 0) : (∃ r' ∈ (applyT cols l x).1, r'.key = x.key) ∧ ∀ r ∈ l, ∃ r' ∈ (applyT cols l x).1, r'.key = r.key := by
  have hr := (chk_0 hck).2
  obtain ⟨n, hn, o⟩ := opR ho
  obtain ⟨w1, w2⟩ := withK_spec hr o.key
  have w2 : (gN (withK cols l x.key) (posK l x.key)).key = x.key := w2
  have hk := withK_lt cols l x.key
  rw [apply_e hck ho]
  have hm : ∀ i, i < (withK cols l x.key).length → ∃ r' ∈ (withK cols l x.key).set (posK l x.key) (chgT (gN (withK cols l x.key) (posK l x.key)) x), r'.key = (gN (withK cols l x.key) i).key := fun i hi => by
    refine ⟨gN ((withK cols l x.key).set (posK l x.key) (chgT (gN (withK cols l x.key) (posK l x.key)) x)) i, gN_mem (by simpa using hi), ?_⟩
    by_cases hik : i = posK l x.key
    · subst hik; rw [gN_set hk, chgT_key]
    · rw [gN_eq (by simpa using hi), List.getElem_set_ne (by omega), ← gN_eq hi]
  refine ⟨?_, fun r hrl => ?_⟩
  · obtain ⟨r', h1, h2⟩ := hm _ hk
    exact ⟨r', h1, h2.trans w2⟩
  · have : r ∈ withK cols l x.key := by
      rcases withK_at cols l x.key with ⟨_, h2⟩ | ⟨_, h2, _⟩
      · rw [h2]; exact hrl
      · rw [h2]
        have : l = l.take (posK l x.key) ++ l.drop (posK l x.key) := (List.take_append_drop _ _).symm
        rw [this] at hrl
        rcases List.mem_append.1 hrl with h | h
        · exact List.mem_append_left _ h
        · exact List.mem_append_right _ (List.mem_cons_of_mem _ h)
    obtain ⟨i, hi, rfl⟩ := gN_mem_iff.1 this
    exact hm i hi
theorem apply_len {cols : List Int} {l : List Rwx} {x : Opz} (hck : checkT cols l = 0) (ho : opE cols (tab0 x) = 0) : (applyT cols l x).1.length ≤ l.length + 1 := by
  rw [apply_e hck ho, List.length_set, withK_len]; split <;> omega
/-- Times, in order. -/
def ltT (a b : St3) : Prop := a.p < b.p ∨ a.p = b.p ∧ (a.l < b.l ∨ a.l = b.l ∧ a.q < b.q)
theorem cmpT_r (a b : St3) : (cmpT a b = -1 ∧ ltT a b) ∨ (cmpT a b = 0 ∧ a = b) ∨ (cmpT a b = 1 ∧ ltT b a) := by
  unfold cmpT ltT
  rcases cmpI_r' a.p b.p with ⟨e, h⟩ | ⟨e, h⟩ | ⟨e, h⟩
  · rw [e, orV_ne (by omega)]; exact .inl ⟨rfl, .inl h⟩
  · rw [e, orV_0]
    rcases cmpI_r' a.l b.l with ⟨e2, h2⟩ | ⟨e2, h2⟩ | ⟨e2, h2⟩
    · rw [e2, orV_ne (by omega)]; exact .inl ⟨rfl, .inr ⟨h, .inl h2⟩⟩
    · rw [e2, orV_0]
      rcases cmpI_r' a.q b.q with ⟨e3, h3⟩ | ⟨e3, h3⟩ | ⟨e3, h3⟩
      · rw [e3, orV_ne (by omega)]; exact .inl ⟨rfl, .inr ⟨h, .inr ⟨h2, h3⟩⟩⟩
      · rw [e3, orV_0]; refine .inr (.inl ⟨rfl, ?_⟩)
        cases a; cases b; simp at h h2 h3 ⊢; exact ⟨h, h2, h3⟩
      · rw [e3, orV_ne (by omega)]; exact .inr (.inr ⟨rfl, .inr ⟨h.symm, .inr ⟨h2.symm, h3⟩⟩⟩)
    · rw [e2, orV_ne (by omega)]; exact .inr (.inr ⟨rfl, .inr ⟨h.symm, .inl h2⟩⟩)
  · rw [e, orV_ne (by omega)]; exact .inr (.inr ⟨rfl, .inl h⟩)
theorem ltT_trans {a b c : St3} (h1 : ltT a b) (h2 : ltT b c) : ltT a c := by unfold ltT at *; omega
theorem ltT_irr (a : St3) : ¬ ltT a a := by unfold ltT; omega
/-- Not later. -/
def leT (a b : St3) : Prop := ¬ 0 < cmpT a b
theorem leT_iff {a b : St3} : leT a b ↔ ltT a b ∨ a = b := by
  unfold leT
  rcases cmpT_r a b with ⟨e, h⟩ | ⟨e, h⟩ | ⟨e, h⟩
  · exact ⟨fun _ => .inl h, fun _ => by omega⟩
  · exact ⟨fun _ => .inr h, fun _ => by omega⟩
  · refine ⟨fun h2 => by omega, ?_⟩
    rintro (h2 | h2)
    · exact (ltT_irr _ (ltT_trans h h2)).elim
    · rw [h2] at h; exact (ltT_irr _ h).elim
theorem leT_refl (a : St3) : leT a a := leT_iff.2 (.inr rfl)
theorem leT_trans {a b c : St3} (h1 : leT a b) (h2 : leT b c) : leT a c := by
  rw [leT_iff] at *
  rcases h1 with h1 | rfl
  · rcases h2 with h2 | rfl
    · exact .inl (ltT_trans h1 h2)
    · exact .inl h1
  · exact h2
theorem cmpT_neg {a b : St3} : cmpT a b < 0 ↔ ltT a b := by
  rcases cmpT_r a b with ⟨e, h⟩ | ⟨e, h⟩ | ⟨e, h⟩
  · exact ⟨fun _ => h, fun _ => by omega⟩
  · exact ⟨fun h2 => by omega, fun h2 => by rw [h] at h2; exact (ltT_irr _ h2).elim⟩
  · exact ⟨fun h2 => by omega, fun h2 => (ltT_irr _ (ltT_trans h h2)).elim⟩
theorem leT_0 {s : St3} (h : okS s = true) : leT ⟨0, 0, 0⟩ s := by
  rw [leT_iff]
  unfold okS at h
  simp at h
  unfold ltT
  rcases s with ⟨p, l, q⟩
  simp at h ⊢
  omega
theorem cell_zero {c : Cel} {t : Int} (h : cellB c t = true) (hw : writ c = false) : c.st = ⟨0, 0, 0⟩ := by
  unfold cellB at h
  rw [hw] at h
  unfold isZ at h
  simp at h
  rcases c with ⟨v, ⟨p, l, q⟩, d⟩
  simp at h ⊢
  exact ⟨h.2.2.2.1, h.2.2.2.2.1, h.2.2.2.2.2.1⟩
/-- A cell that is written over is not behind what it was, nor behind what writes it. -/
theorem wr_late {c : Cel} {v : Vl} {x : Opz} {t : Int} (hc : cellB c t = true) (hx : okS x.st = true) : leT c.st (wrCel c v x).st ∧ leT x.st (wrCel c v x).st := by
  unfold wrCel
  split
  · rename_i h
    refine ⟨?_, leT_refl _⟩
    unfold wrB at h
    cases hw : writ c with
    | false => show leT c.st x.st; rw [cell_zero hc hw]; exact leT_0 hx
    | true =>
      rw [hw] at h
      have : cmpT c.st x.st < 0 := by simpa using h
      exact leT_iff.2 (.inl (cmpT_neg.1 this))
  · rename_i h
    refine ⟨leT_refl _, ?_⟩
    unfold wrB at h
    simp only [Bool.or_eq_true, decide_eq_true_eq, not_or] at h
    have h2 := h.2
    rcases cmpT_r c.st x.st with ⟨e, _⟩ | ⟨_, e⟩ | ⟨_, e⟩
    · omega
    · exact leT_iff.2 (.inr e.symm)
    · exact leT_iff.2 (.inl e)
end Go.Proofs.Ytcmonjmoapjpkaa.D
end
section
set_option linter.unusedVariables false
set_option linter.unusedSimpArgs false
set_option linter.constructorNameAsVariable false
set_option maxRecDepth 100000

/- What is there: plain law. No condition. -/
namespace Go.Proofs.Ytcmonjmoapjpkaa.D
open Go Go.Proofs

@[reducible] def oz (x : Opx) : Opz := ⟨x, false⟩
def delS (d : Dt) (t : Bool) (l : List Dt) : Bool := l.foldl (fun t e => t && !sameD e d) t
def thereS (key : ByteArray) (d : Dt) (t : Bool) (x : Opx) : Bool := if x.key.toList = key.toList then (if x.kind = 3 then delS d (if x.kind = 1 && sameD x.dot d then true else t) x.dots else (if x.kind = 1 && sameD x.dot d then true else t)) else t
def thereB (D : List Opx) (key : ByteArray) (d : Dt) : Bool := D.foldl (thereS key d) false
theorem thereB_snoc (D : List Opx) (x : Opx) (key : ByteArray) (d : Dt) : thereB (D ++ [x]) key d = thereS key d (thereB D key d) x := by
  unfold thereB; rw [List.foldl_append]; rfl
theorem delS_t {d : Dt} {l : List Dt} (h : inD l d = false) : delS d true l = true := by
  unfold delS
  induction l with
  | nil => rfl
  | cons e l ih =>
    unfold inD at h ih
    rw [List.any_cons, Bool.or_eq_false_iff] at h
    rw [List.foldl_cons]
    have : sameD e d = false := by
      have := h.1
      unfold eqD at this
      unfold sameD
      simp at this ⊢
      intro h1 h2; exact this h1.symm h2.symm
    rw [this]
    exact ih h.2
/-- What wrote a cell of a row. -/
def wroteB (key : ByteArray) (c : Nat) (x : Opx) : Prop := x.key = key ∧ (x.kind = 1 ∨ x.kind = 2 ∧ x.col = c)
structure ThI (cols : List Int) (D : List Opx) (rows : List Rwx) : Prop where
  chk : checkT cols rows = 0
  few : rows.length ≤ D.length
  keyed : ∀ x ∈ D, ∃ r ∈ rows, r.key = x.key
  short : ∀ r ∈ rows, r.dots.length ≤ D.length
  dots : ∀ r ∈ rows, ∀ d ∈ r.dots, thereB D r.key d = true
  late : ∀ r ∈ rows, ∀ c, c < r.cells.length → ∀ x ∈ D, wroteB r.key c x → leT x.st (gN r.cells c).st
theorem ThI.nil {cols : List Int} (h : formE cols = 0) : ThI cols [] [] := ⟨chk_nil h, Nat.le_refl _, (fun x hx => nomatch hx), (fun r hr => nomatch hr), (fun r hr => nomatch hr), (fun r hr => nomatch hr)⟩
theorem ThI.step {cols : List Int} {D : List Opx} {rows : List Rwx} {x : Opx} (h : ThI cols D rows) (ho : opE cols (tab0 (oz x)) = 0) : ThI cols (D ++ [x]) (applyT cols rows (oz x)).1 := by
  have hchk := apply_right h.chk ho
  have hrow := apply_row h.chk ho
  obtain ⟨hk1, hk2⟩ := apply_keep h.chk ho
  have hlen := apply_len h.chk ho
  obtain ⟨n, hn, o⟩ := opR ho
  have hw := whole_name o.whole hn
  have hst : okS x.st = true := hw.2
  -- what the row of the operation's key was
  have hold : ∀ R : Rwx, (R ∈ rows ∨ R = ⟨x.key, [], List.replicate cols.length zCel⟩ ∧ ∀ r ∈ rows, r.key ≠ x.key) → R.key = x.key → (R.dots.length ≤ D.length) ∧ (∀ d ∈ R.dots, thereB D R.key d = true) ∧ ∀ c, c < R.cells.length → ∀ y ∈ D, wroteB R.key c y → leT y.st (gN R.cells c).st := by
    rintro R (hR | ⟨rfl, hno⟩) hRk
    · exact ⟨h.short R hR, h.dots R hR, h.late R hR⟩
    · refine ⟨Nat.zero_le _, (fun d hd => nomatch hd), fun c hc y hy hwr => ?_⟩
      obtain ⟨r, hr, he⟩ := h.keyed y hy
      exact (hno r hr (he.trans hwr.1)).elim
  refine ⟨hchk, by rw [List.length_append]; have := h.few; simp; omega, fun y hy => ?_, fun r hr => ?_, fun r hr d hd => ?_, fun r hr c hc y hy hwr => ?_⟩
  · rcases List.mem_append.1 hy with hy | hy
    · obtain ⟨r, hr, he⟩ := h.keyed y hy
      obtain ⟨r', hr', he'⟩ := hk2 r hr
      exact ⟨r', hr', he'.trans he⟩
    · obtain ⟨r', hr', he'⟩ := hk1
      simp at hy; subst hy
      exact ⟨r', hr', he'⟩
  · rw [List.length_append]
    rcases hrow r hr with ⟨hl, _⟩ | ⟨R, rfl, hRk, hRR, hRt⟩
    · have := h.short r hl; simp; omega
    · have hR1 := (hold R hRR hRk).1
      have hc : (chgT R (oz x)).dots.length ≤ R.dots.length + 1 := by
        unfold chgT
        split
        · exact (insD_pos _ _).2
        · split
          · exact Nat.le_succ _
          · split
            · exact Nat.le_trans (List.length_filter_le _ _) (Nat.le_succ _)
            · exact Nat.le_succ _
      simp; omega
  · rw [thereB_snoc]
    rcases hrow r hr with ⟨hl, hne⟩ | ⟨R, rfl, hRk, hRR, hRt⟩
    · unfold thereS
      rw [if_neg (by rw [toL_iff]; exact fun e => hne e.symm)]
      exact h.dots r hl d hd
    · rw [chgT_key]
      have hR2 := (hold R hRR hRk).2.1
      unfold thereS
      rw [if_pos (by rw [toL_iff]; exact hRk.symm)]
      rcases o.kind with ⟨k, _⟩ | ⟨k, _⟩ | ⟨k, _⟩
      · have k : x.kind = 1 := k
        rw [if_neg (by omega)]
        have e : chgT R (oz x) = ⟨R.key, insD R.dots x.dot, wrs R.cells x.vals (oz x)⟩ := by rw [chgT, if_pos k]
        rw [e] at hd
        split
        · rfl
        · rename_i hns
          rcases ((insD_spec (dotsB_iff.1 hRt.dots).2).2 d).1 hd with e | e
          · refine (hns ?_).elim
            subst e; simp [k, sameD]
          · exact hR2 d e
      · have k : x.kind = 2 := k
        rw [if_neg (by omega), if_neg (by simp; omega)]
        have e : chgT R (oz x) = ⟨R.key, R.dots, R.cells.set x.col.toNat (wrCel (gN R.cells x.col.toNat) (gN x.vals 0) (oz x))⟩ := by rw [chgT, if_neg (by show ¬ x.kind = 1; omega), if_pos k]
        rw [e] at hd
        exact hR2 d hd
      · have k : x.kind = 3 := k
        rw [if_pos k, if_neg (by simp; omega)]
        have e : chgT R (oz x) = ⟨R.key, R.dots.filter fun d => !inD x.dots d, R.cells⟩ := by rw [chgT, if_neg (by show ¬ x.kind = 1; omega), if_neg (by show ¬ x.kind = 2; omega), if_pos k]
        rw [e] at hd
        obtain ⟨d1, d2⟩ := List.mem_filter.1 hd
        rw [hR2 d d1]
        exact delS_t (by simpa using d2)
  · rcases hrow r hr with ⟨hl, hne⟩ | ⟨R, rfl, hRk, hRR, hRt⟩
    · rcases List.mem_append.1 hy with hy | hy
      · exact h.late r hl c hc y hy hwr
      · simp at hy; subst hy
        exact (hne hwr.1.symm).elim
    · have hR3 := (hold R hRR hRk).2.2
      obtain ⟨ca, cb⟩ := allG_at hRt.cells
      rw [chgT_key] at hwr
      rcases o.kind with ⟨k, k2, _⟩ | ⟨k, k2, k3, k4, _⟩ | ⟨k, _⟩
      · have k : x.kind = 1 := k
        have e : chgT R (oz x) = ⟨R.key, insD R.dots x.dot, wrs R.cells x.vals (oz x)⟩ := by rw [chgT, if_pos k]
        rw [e] at hc ⊢
        have hc : c < R.cells.length := by simpa [wrs_len] using hc
        have hvl : x.vals.length = cols.length := small_len k2
        show leT y.st (gN (wrs R.cells x.vals (oz x)) c).st
        rw [wrs_at hc, if_pos (by omega)]
        obtain ⟨l1, l2⟩ := wr_late (v := gN x.vals c) (x := oz x) (cb c hc) hst
        rcases List.mem_append.1 hy with hy | hy
        · exact leT_trans (hR3 c hc y hy hwr) l1
        · simp at hy; subst hy; exact l2
      · have k : x.kind = 2 := k
        have k2 : 0 ≤ x.col := k2
        have k3 : x.col < cols.length := k3
        have e : chgT R (oz x) = ⟨R.key, R.dots, R.cells.set x.col.toNat (wrCel (gN R.cells x.col.toNat) (gN x.vals 0) (oz x))⟩ := by rw [chgT, if_neg (by show ¬ x.kind = 1; omega), if_pos k]
        rw [e] at hc ⊢
        have hc : c < R.cells.length := by simpa using hc
        show leT y.st (gN (R.cells.set x.col.toNat (wrCel (gN R.cells x.col.toNat) (gN x.vals 0) (oz x))) c).st
        by_cases hcc : c = x.col.toNat
        · subst hcc
          rw [gN_set hc]
          obtain ⟨l1, l2⟩ := wr_late (v := gN x.vals 0) (x := oz x) (cb _ hc) hst
          rcases List.mem_append.1 hy with hy | hy
          · exact leT_trans (hR3 _ hc y hy hwr) l1
          · simp at hy; subst hy; exact l2
        · have e2 : gN (R.cells.set x.col.toNat (wrCel (gN R.cells x.col.toNat) (gN x.vals 0) (oz x))) c = gN R.cells c := by
            rw [gN_eq (by simpa using hc), List.getElem_set_ne (by omega), ← gN_eq hc]
          rw [e2]
          rcases List.mem_append.1 hy with hy | hy
          · exact hR3 c hc y hy hwr
          · simp at hy; subst hy
            rcases hwr.2 with q | ⟨_, q⟩ <;> omega
      · have k : x.kind = 3 := k
        have e : chgT R (oz x) = ⟨R.key, R.dots.filter fun d => !inD x.dots d, R.cells⟩ := by rw [chgT, if_neg (by show ¬ x.kind = 1; omega), if_neg (by show ¬ x.kind = 2; omega), if_pos k]
        rw [e] at hc ⊢
        rcases List.mem_append.1 hy with hy | hy
        · exact hR3 c hc y hy hwr
        · simp at hy; subst hy
          rcases hwr.2 with q | ⟨q, _⟩ <;> omega
/-- A row that is there. -/
def thr (r : Rwx) : Bool := decide (0 < r.dots.length)
theorem seen_len {cols : List Int} {rows : List Rwx} (h : checkT cols rows = 0) : (seenT cols rows).length = (rows.filter thr).length := by
  unfold seenT
  rw [if_neg (by rw [h]; simp), List.length_map]; rfl
theorem dead_len (rows : List Rwx) : deadT rows = (rows.length : Int) - ((rows.filter thr).length : Int) := by
  unfold deadT
  induction rows with
  | nil => rfl
  | cons r l ih =>
    rw [List.filter_cons, List.filter_cons]
    unfold thr at ih ⊢
    by_cases h : r.dots.length = 0
    · rw [if_pos (by simpa using h), if_neg (by simp [h])]
      simp only [List.length_cons]; omega
    · rw [if_neg (by simpa using h), if_pos (by simp; omega)]
      simp only [List.length_cons]; omega
end Go.Proofs.Ytcmonjmoapjpkaa.D
end
section
set_option linter.unusedVariables false
set_option linter.unusedSimpArgs false
set_option linter.constructorNameAsVariable false
set_option maxRecDepth 100000

/- A row is seen just if it has dots: the walk. No condition. -/
namespace Go.Proofs.Ytcmonjmoapjpkaa.D
open Go Go.Proofs

theorem oz_eq (x : Opx) : opZ (oz x) = opV x := (rfl)
theorem delS_snoc (d : Dt) (t : Bool) (l : List Dt) (e : Dt) : delS d t (l ++ [e]) = (delS d t l && !sameD e d) := by unfold delS; rw [List.foldl_append]; rfl
theorem thereS_k {key : ByteArray} {d : Dt} {t : Bool} {x : Opx} (h : x.key.toList = key.toList) : thereS key d t x = if x.kind = 3 then delS d (decide (x.kind = 1) && sameD x.dot d || t) x.dots else (decide (x.kind = 1) && sameD x.dot d || t) := by
  have e : (if x.kind = 1 && sameD x.dot d then true else t) = (decide (x.kind = 1) && sameD x.dot d || t) := by
    cases h1 : (decide (x.kind = 1) && sameD x.dot d) <;> simp
  unfold thereS
  rw [if_pos h, e]
theorem StepO_ok {cols : List Int} {D : List Opx} {l : List Rwx} {x : Opx} (h : ThI cols D l) (hD : D.length ≤ 300) (hv : x.vals.length ≤ maxLen) (hd : x.dots.length ≤ maxLen) (hc : cols.length ≤ maxLen) : FnB Try.prog 11 [.ag (tbV cols), rws .b l, .ag (opV x)] (.tp [rws .o (applyT cols l (oz x)).1, vals .b (applyT cols l (oz x)).2.1, vals .b (applyT cols l (oz x)).2.2.1, vi (applyT cols l (oz x)).2.2.2]) := by
  have hf := h.few
  have hs := fun r hr => h.short r hr
  have hcl : ∀ r ∈ l, r.cells.length ≤ maxLen := fun r hr => by
    obtain ⟨i, hi, rfl⟩ := gN_mem_iff.1 hr
    have := (allG_at (right_iff.1 (rows_at (chk_0 h.chk).2 hi).1).cells).1
    omega
  exact Apply_ok (fl := .b) cols l (oz x) (by unfold maxLen; omega) (fun r hr => ⟨by have := hs r hr; unfold maxLen; omega, hcl r hr⟩) (fun r hr => by have := hs r hr; unfold maxLen; omega) hv hd
@[go_sem] theorem op_bsl_opV (z : List V) (x : Opx) (ob : OB) (i : Nat) (hz : (z.length == 12) = true) : opF (.bsl 12 z [0] 1 true) [.ag (opV x)] ob i = some (.im .b [opV x], []) := op_bsl_r ob i (by simpa using hz) (opV_row x)
theorem allOpV (l : List Opx) : (l.map opV).all (okRow 12) = true := all_map _ _ (fun _ => rfl) l
/-- A join behind a choice. -/
theorem cut_cn {P : Program} {t : Bool} {A A' B : IC} {Q : Post} {env : Env} {ob : OB} {n : Nat} (I : Env → OB → Nat → Prop) (h1 : t = true → wpC P A (thenQ I Q) env ob n) (h2 : t = false → wpC P A' (thenQ I Q) env ob n) (h3 : ∀ env ob n, I env ob n → wpC P B Q env ob n) : cnC P (.c (.bool t)) A A' (thenQ (wpC P B Q) Q) env ob n :=
  ⟨fun h => cut_C I (h1 h) h3, fun h => cut_C I (h2 h) h3⟩
@[go_sem] theorem len_rws' (f : Fl) (l : List Rwx) : lenOf (rws f l) = some l.length := by simp [rws, lenOf]
/-- Rows, or none yet. -/
def RZ (v : V) (l : List Rwx) : Prop := v = rws .b l ∨ v = .z ∧ l = []
theorem RZ.res {v : V} {l : List Rwx} (h : RZ v l) (ob : OB) (m : Nat) : resV ob (m + 4) v = rws .b l := by
  rcases h with e | ⟨e, rfl⟩ <;> rw [e]
  · simp only [rws, resV, List.map_map]
    show V.im .b _ = _
    congr 1
    exact List.map_congr_left fun r _ => res_rw ob m r
  · rfl
theorem RZ.len {v : V} {l : List Rwx} (h : RZ v l) : lenOf v = some l.length := by
  rcases h with e | ⟨e, rfl⟩ <;> rw [e]
  · exact len_rws' .b l
  · rfl
theorem RZ.at {v : V} {l : List Rwx} (h : RZ v l) {k : Nat} (hk : k < l.length) : v = rws .b l := by
  rcases h with e | ⟨e, rfl⟩
  · exact e
  · simp at hk
set_option maxHeartbeats 4000000 in
attribute [-go_sem] cnC_b in
theorem TabThere_ok (cols : List Int) (l : List Opx) : FnB Try.prog 3 [.ag (tbV cols), ops .b l] (vb true) := by
  refine fnB_intro cf3 (by simp) ?_
  simp (config := {contextual := true, maxSteps := 1000000}) only [go_sem, ints, intRows, iv_c, Nat.reduceAdd, Nat.reduceBEq, Nat.reduceEqDiff, Nat.reduceLeDiff, Nat.reduceLT, reduceIte, Nat.le_refl, true_or, or_true, and_self, Int.reduceLE, Int.reduceLT, Int.reduceEq, Int.reduceNeg, Int.natCast_nonneg, Int.reduceToNat, ops, vals, dots, cnC_b, c3]
  first | refine caS_i (HeavyForm_ok cols) trivial ?_ | refine caD_i (HeavyForm_ok cols) trivial ?_ | refine gC_i (fun _ => HeavyForm_ok cols) trivial ?_ | refine gCD_i (fun _ => HeavyForm_ok cols) trivial ?_ | refine caE_i (HeavyForm_ok cols) trivial ?_
  simp (config := {contextual := true, maxSteps := 1000000}) only [go_sem, ints, intRows, iv_c, Nat.reduceAdd, Nat.reduceBEq, Nat.reduceEqDiff, Nat.reduceLeDiff, Nat.reduceLT, reduceIte, Nat.le_refl, true_or, or_true, and_self, Int.reduceLE, Int.reduceLT, Int.reduceEq, Int.reduceNeg, Int.natCast_nonneg, Int.reduceToNat, ops, vals, dots, cnC_b]
  first | refine caS_i (HeavyOs_ok l) trivial ?_ | refine caD_i (HeavyOs_ok l) trivial ?_ | refine gC_i (fun _ => HeavyOs_ok l) trivial ?_ | refine gCD_i (fun _ => HeavyOs_ok l) trivial ?_ | refine caE_i (HeavyOs_ok l) trivial ?_
  simp (config := {contextual := true, maxSteps := 1000000}) only [go_sem, ints, intRows, iv_c, Nat.reduceAdd, Nat.reduceBEq, Nat.reduceEqDiff, Nat.reduceLeDiff, Nat.reduceLT, reduceIte, Nat.le_refl, true_or, or_true, and_self, Int.reduceLE, Int.reduceLT, Int.reduceEq, Int.reduceNeg, Int.natCast_nonneg, Int.reduceToNat, ops, vals, dots, cnC_b]
  refine gC_i (fun hb => FormsR_ok cols (by simp at hb; unfold maxLen; omega)) trivial ?_
  simp (config := {contextual := true, maxSteps := 1000000}) only [go_sem, ints, intRows, iv_c, Nat.reduceAdd, Nat.reduceBEq, Nat.reduceEqDiff, Nat.reduceLeDiff, Nat.reduceLT, reduceIte, Nat.le_refl, true_or, or_true, and_self, Int.reduceLE, Int.reduceLT, Int.reduceEq, Int.reduceNeg, Int.natCast_nonneg, Int.reduceToNat, ops, vals, dots, cnC_b]
  intro hb
  obtain ⟨⟨hb1, hb2⟩, hb3⟩ : (decide (30 < (cols.length : Int)) = false ∧ heavyOs l = false) ∧ formE cols = 0 := by
    simp only [Bool.or_eq_false_iff] at hb
    exact ⟨hb.1, by simpa using hb.2⟩
  have hcl : cols.length ≤ maxLen := by simp at hb1; unfold maxLen; omega
  have hl300 : l.length ≤ 300 := by
    unfold heavyOs at hb2; simp at hb2; omega
  have hOk : ∀ x ∈ l, x.vals.length ≤ maxLen ∧ x.dots.length ≤ maxLen := fun x hx => by
    simp only [heavyOs, Bool.or_eq_false_iff] at hb2
    have := List.any_eq_false.1 hb2.2 x hx
    simp [heavyO, heavyR] at this
    unfold maxLen; omega
  refine wpC_lp (fun env ob n => env 1 = ops .b l ∧ env 2 = .pt 0 0 0 ∧ ob 0 = some ⟨1, [tbV cols], none⟩ ∧ 0 < n ∧ ∃ (i : Nat) (D : List Opx) (rows : List Rwx), env 7 = vi i ∧ i ≤ l.length ∧ i ≤ 40 ∧ D.length ≤ i ∧ ThI cols D rows ∧ (∀ x ∈ D, x.dots.length ≤ maxLen) ∧ Own n ob (env 6) 12 (D.map opV) ∧ RZ (env 5) rows) (fun env ob _ => (l.length - iv (env 7)).toNat) ?_ ?_
  · simp (config := {contextual := true, maxSteps := 1000000}) only [go_sem, ints, intRows, iv_c, Nat.reduceAdd, Nat.reduceBEq, Nat.reduceEqDiff, Nat.reduceLeDiff, Nat.reduceLT, reduceIte, Nat.le_refl, true_or, or_true, and_self, Int.reduceLE, Int.reduceLT, Int.reduceEq, Int.reduceNeg, Int.natCast_nonneg, Int.reduceToNat, ops, vals, dots, cnC_b]
    exact ⟨0, [], [], rfl, Nat.zero_le _, Nat.zero_le _, Nat.le_refl _, .nil hb3, (fun x hx => nomatch hx), .inl ⟨rfl, rfl⟩, .inr ⟨rfl, rfl⟩⟩
  rintro env ob n ⟨h1, h2, o0, hn, i, D, rows, h7, hi, hi40, hD, hT, hDs, hO, hR⟩
  have hRr := hR.res ob 2
  have w1 : IntKind.i64.wrap ((i : Int) + 1) = ((i + 1 : Nat) : Int) := by rw [w64 (by omega)]; omega
  by_cases hlt : i < l.length ∧ i < 40
  · have e1 : decide ((i : Int) < l.length) = true := by simp; omega
    have e2 : decide ((i : Int) < 40) = true := by simp; omega
    obtain ⟨v1, v2⟩ := hOk _ (gN_mem hlt.1)
    simp (config := {contextual := true, maxSteps := 1000000}) only [go_sem, ints, intRows, iv_c, Nat.reduceAdd, Nat.reduceBEq, Nat.reduceEqDiff, Nat.reduceLeDiff, Nat.reduceLT, reduceIte, Nat.le_refl, true_or, or_true, and_self, Int.reduceLE, Int.reduceLT, Int.reduceEq, Int.reduceNeg, Int.natCast_nonneg, Int.reduceToNat, ops, vals, dots, cnC_b, h1, h2, o0, h7, e1, e2, hRr]
    repeat (refine And.intro (by omega) ?_)
    first | refine caS_i (StepO_ok (x := gN l i) hT (by omega) v1 v2 hcl) trivial ?_ | refine caD_i (StepO_ok (x := gN l i) hT (by omega) v1 v2 hcl) trivial ?_ | refine gC_i (fun _ => StepO_ok (x := gN l i) hT (by omega) v1 v2 hcl) trivial ?_ | refine gCD_i (fun _ => StepO_ok (x := gN l i) hT (by omega) v1 v2 hcl) trivial ?_ | refine caE_i (StepO_ok (x := gN l i) hT (by omega) v1 v2 hcl) trivial ?_
    simp (config := {contextual := true, maxSteps := 1000000}) only [go_sem, ints, intRows, iv_c, Nat.reduceAdd, Nat.reduceBEq, Nat.reduceEqDiff, Nat.reduceLeDiff, Nat.reduceLT, reduceIte, Nat.le_refl, true_or, or_true, and_self, Int.reduceLE, Int.reduceLT, Int.reduceEq, Int.reduceNeg, Int.natCast_nonneg, Int.reduceToNat, ops, vals, dots, cnC_b, h1, h2, o0, h7, e1, e2, hRr]
    rcases apply_code hT.chk (x := oz (gN l i)) with ⟨q1, q2⟩ | ⟨q1, q2⟩
    · rw [q2]
      simp (config := {contextual := true, maxSteps := 1000000}) only [go_sem, ints, intRows, iv_c, Nat.reduceAdd, Nat.reduceBEq, Nat.reduceEqDiff, Nat.reduceLeDiff, Nat.reduceLT, reduceIte, Nat.le_refl, true_or, or_true, and_self, Int.reduceLE, Int.reduceLT, Int.reduceEq, Int.reduceNeg, Int.natCast_nonneg, Int.reduceToNat, ops, vals, dots, cnC_b, h1, h2, o0, h7, e1, e2, hRr]
      repeat (refine And.intro (by omega) ?_)
      refine nxS_app (xs := [opV (gN l i)]) hO (by omega) rfl rfl (by simp [maxLen]; omega) fun v' ob' hO2 hf => ?_
      have o0' := (hf 0 hn (hO.e.ne o0 (by omega))).trans o0
      simp (config := {contextual := true, maxSteps := 1000000}) only [go_sem, ints, intRows, iv_c, Nat.reduceAdd, Nat.reduceBEq, Nat.reduceEqDiff, Nat.reduceLeDiff, Nat.reduceLT, reduceIte, Nat.le_refl, true_or, or_true, and_self, Int.reduceLE, Int.reduceLT, Int.reduceEq, Int.reduceNeg, Int.natCast_nonneg, Int.reduceToNat, ops, vals, dots, cnC_b, h1, h2, o0', h7, w1]
      refine ⟨⟨by omega, i + 1, D ++ [gN l i], _, rfl, by omega, by omega, by simp; omega, hT.step q1, (fun x hx => ?_), ?_, .inl rfl⟩, by omega⟩
      · rcases List.mem_append.1 hx with h | h
        · exact hDs x h
        · simp at h; subst h; exact v2
      · rw [List.map_append]
        exact hO2.mono (by omega)
    · rw [q2]
      simp (config := {contextual := true, maxSteps := 1000000}) only [go_sem, ints, intRows, iv_c, Nat.reduceAdd, Nat.reduceBEq, Nat.reduceEqDiff, Nat.reduceLeDiff, Nat.reduceLT, reduceIte, Nat.le_refl, true_or, or_true, and_self, Int.reduceLE, Int.reduceLT, Int.reduceEq, Int.reduceNeg, Int.natCast_nonneg, Int.reduceToNat, ops, vals, dots, cnC_b, h1, h2, o0, h7, e1, e2, hRr, w1]
      exact ⟨⟨by omega, i + 1, D, rows, rfl, by omega, by omega, by omega, hT, hDs, hO.mono (by omega), hR⟩, by omega⟩
  · have e1 : (decide ((i : Int) < l.length) && decide ((i : Int) < 40)) = false := by
      rw [Bool.and_eq_false_iff]; simp; omega
    have hRl := hR.len
    have hobD : D = [] ∨ ∃ I cap, I < n ∧ env 6 = .sl I 0 D.length ∧ ob I = some ⟨12, D.map opV, cap⟩ := by
      rcases hO with ⟨hz, _⟩ | ⟨_, I, cap, hI, hv, hoI⟩
      · exact .inl (by simpa using hz)
      · exact .inr ⟨I, cap, hI, by rw [hv]; simp, hoI⟩
    simp (config := {contextual := true, maxSteps := 1000000}) only [go_sem, ints, intRows, iv_c, Nat.reduceAdd, Nat.reduceBEq, Nat.reduceEqDiff, Nat.reduceLeDiff, Nat.reduceLT, reduceIte, Nat.le_refl, true_or, or_true, and_self, Int.reduceLE, Int.reduceLT, Int.reduceEq, Int.reduceNeg, Int.natCast_nonneg, Int.reduceToNat, ops, vals, dots, cnC_b, h1, h2, o0, h7, e1, hRr]
    refine wpC_lp (fun env' ob' n' => (∀ j, j < n → ob' j = ob j) ∧ n ≤ n' ∧ env' 2 = .pt 0 0 0 ∧ env' 5 = env 5 ∧ env' 6 = env 6 ∧ ∃ k : Nat, env' 13 = vi k ∧ k ≤ rows.length ∧ env' 12 = vi (((rows.take k).filter thr).length : Nat)) (fun env' _ _ => (rows.length - iv (env' 13)).toNat) ?_ ?_
    · simp (config := {contextual := true, maxSteps := 1000000}) only [go_sem, ints, intRows, iv_c, Nat.reduceAdd, Nat.reduceBEq, Nat.reduceEqDiff, Nat.reduceLeDiff, Nat.reduceLT, reduceIte, Nat.le_refl, true_or, or_true, and_self, Int.reduceLE, Int.reduceLT, Int.reduceEq, Int.reduceNeg, Int.natCast_nonneg, Int.reduceToNat, ops, vals, dots, cnC_b, h2]
      exact ⟨by omega, 0, rfl, Nat.zero_le _, rfl⟩
    clear h1 h7
    rintro env2 ob2 n2 ⟨hfr, hn2, h2', h5, h6, k, h13, hk, h12⟩
    have hRl2 : lenOf (env2 5) = some rows.length := by rw [h5]; exact hRl
    have hRr2 : resV ob2 6 (env2 5) = rws .b rows := by rw [h5]; exact hR.res ob2 2
    have o02 : ob2 0 = some ⟨1, [tbV cols], none⟩ := (hfr 0 hn).trans o0
    by_cases hkl : k < rows.length
    · have hR5 : env2 5 = rws .b rows := by rw [h5]; exact hR.at hkl
      have hE5 : V.im .b (rows.map rwV) = env 5 := (hR.at hkl).symm
      have hDne : D ≠ [] := fun e => by have := hT.few; rw [e] at this; have : rows.length ≤ 0 := this; omega
      obtain ⟨I, cap, hI, hI6, hoI0⟩ : ∃ I cap, I < n ∧ env 6 = .sl I 0 D.length ∧ ob I = some ⟨12, D.map opV, cap⟩ := hobD.resolve_left hDne
      have h6' : env2 6 = .sl I 0 D.length := by rw [h6]; exact hI6
      have hoI : ob2 I = some ⟨12, D.map opV, cap⟩ := (hfr I hI).trans hoI0
      have ek : decide ((k : Int) < rows.length) = true := by simp; omega
      have hseen : ((rows.take (k + 1)).filter thr).length = ((rows.take k).filter thr).length + if 0 < (gN rows k).dots.length then 1 else 0 := by
        rw [take_gN hkl, List.filter_append, List.length_append, List.filter_cons]
        unfold thr
        by_cases hd : 0 < (gN rows k).dots.length
        · rw [if_pos hd, if_pos (by simpa using hd)]; rfl
        · rw [if_neg hd, if_neg (by simpa using hd)]; rfl
      have hsl : ((rows.take k).filter thr).length ≤ k := Nat.le_trans (List.length_filter_le _ _) (by simp; omega)
      generalize ((rows.take k).filter thr).length = sn at *
      generalize hsn1 : ((rows.take (k + 1)).filter thr).length = sn1 at *
      have hfew := hT.few
      have wk : IntKind.i64.wrap ((k : Int) + 1) = ((k + 1 : Nat) : Int) := by rw [w64 (by omega)]; omega
      have hRk := right_iff.1 (rows_at (chk_0 hT.chk).2 hkl).1
      have hkm := gN_mem hkl
      have hdsh := hT.short _ hkm
      have hdot := hT.dots _ hkm
      have hlat := hT.late _ hkm
      have hcell := (allG_at hRk.cells).1
      generalize hrk : gN rows k = r at *
      have ws : IntKind.i64.wrap ((sn : Int) + 1) = ((sn + 1 : Nat) : Int) := by rw [w64 (by omega)]; omega
      simp (config := {contextual := true, maxSteps := 1000000}) only [go_sem, ints, intRows, iv_c, Nat.reduceAdd, Nat.reduceBEq, Nat.reduceEqDiff, Nat.reduceLeDiff, Nat.reduceLT, reduceIte, Nat.le_refl, true_or, or_true, and_self, Int.reduceLE, Int.reduceLT, Int.reduceEq, Int.reduceNeg, Int.natCast_nonneg, Int.reduceToNat, ops, vals, dots, h2', hR5, h6', h13, h12, ek, rws, hrk]
      repeat (refine And.intro (by omega) ?_)
      refine cut_cn (fun env' ob' n' => ob' = ob2 ∧ n ≤ n' ∧ env' 2 = .pt 0 0 0 ∧ env' 5 = env 5 ∧ env' 6 = env 6 ∧ env' 13 = vi k ∧ env' 12 = vi sn1) (fun hd => ?_) (fun hd => ?_) ?_
      · rw [if_pos (by simpa using hd)] at hseen
        simp (config := {contextual := true, maxSteps := 1000000}) only [go_sem, ints, intRows, iv_c, Nat.reduceAdd, Nat.reduceBEq, Nat.reduceEqDiff, Nat.reduceLeDiff, Nat.reduceLT, reduceIte, Nat.le_refl, true_or, or_true, and_self, Int.reduceLE, Int.reduceLT, Int.reduceEq, Int.reduceNeg, Int.natCast_nonneg, Int.reduceToNat, ops, vals, dots, cnC_b, h2', hR5, h6', h13, h12, ws]
        exact ⟨by omega, hE5, hI6.symm, by rw [hseen]⟩
      · rw [if_neg (by simpa using hd)] at hseen
        simp (config := {contextual := true, maxSteps := 1000000}) only [go_sem, ints, intRows, iv_c, Nat.reduceAdd, Nat.reduceBEq, Nat.reduceEqDiff, Nat.reduceLeDiff, Nat.reduceLT, reduceIte, Nat.le_refl, true_or, or_true, and_self, Int.reduceLE, Int.reduceLT, Int.reduceEq, Int.reduceNeg, Int.natCast_nonneg, Int.reduceToNat, ops, vals, dots, cnC_b, h2', hR5, h6', h13, h12, ws]
        exact ⟨by omega, hE5, hI6.symm, by rw [hseen]; rfl⟩
      clear h12 h13 h5 h6 h2' h6' hR5 hRl2 hRr2 o02 hoI 
      rintro env2 ob2 n2 ⟨rfl, hn2, h2', h5, h6, h13, h12⟩
      · simp (config := {contextual := true, maxSteps := 1000000}) only [go_sem, ints, intRows, iv_c, Nat.reduceAdd, Nat.reduceBEq, Nat.reduceEqDiff, Nat.reduceLeDiff, Nat.reduceLT, reduceIte, Nat.le_refl, true_or, or_true, and_self, Int.reduceLE, Int.reduceLT, Int.reduceEq, Int.reduceNeg, Int.natCast_nonneg, Int.reduceToNat, ops, vals, dots, cnC_b, h2', h5, h6, h13, h12]
        refine wpC_lp (fun env' ob' n' => (∀ j, j < n → ob' j = ob j) ∧ n ≤ n' ∧ env' 2 = .pt 0 0 0 ∧ env' 5 = env 5 ∧ env' 6 = env 6 ∧ env' 13 = vi k ∧ env' 12 = vi sn1 ∧ ∃ j : Nat, env' 14 = vi j ∧ j ≤ r.dots.length) (fun env' _ _ => (r.dots.length - iv (env' 14)).toNat) ?_ ?_
        · simp (config := {contextual := true, maxSteps := 1000000}) only [go_sem, ints, intRows, iv_c, Nat.reduceAdd, Nat.reduceBEq, Nat.reduceEqDiff, Nat.reduceLeDiff, Nat.reduceLT, reduceIte, Nat.le_refl, true_or, or_true, and_self, Int.reduceLE, Int.reduceLT, Int.reduceEq, Int.reduceNeg, Int.natCast_nonneg, Int.reduceToNat, ops, vals, dots, cnC_b, h2', h5, h6, h13, h12]
          exact ⟨fun j hj => hfr j hj, by omega, 0, rfl, Nat.zero_le _⟩
        clear h12 h13 h5 h6 h2' hfr
        rintro env3 ob3 n3 ⟨hfr, hn3, h2', h5, h6, h13, h12, j, h14, hj⟩
        have hR5 : env3 5 = rws .b rows := by rw [h5]; exact hR.at hkl
        have h6' : env3 6 = .sl I 0 D.length := by rw [h6]; exact hI6
        have hoI : ob3 I = some ⟨12, D.map opV, cap⟩ := (hfr I hI).trans hoI0
        by_cases hjl : j < r.dots.length
        · have ej : decide ((j : Int) < r.dots.length) = true := by simp; omega
          simp (config := {contextual := true, maxSteps := 1000000}) only [go_sem, ints, intRows, iv_c, Nat.reduceAdd, Nat.reduceBEq, Nat.reduceEqDiff, Nat.reduceLeDiff, Nat.reduceLT, reduceIte, Nat.le_refl, true_or, or_true, and_self, Int.reduceLE, Int.reduceLT, Int.reduceEq, Int.reduceNeg, Int.natCast_nonneg, Int.reduceToNat, ops, vals, dots, cnC_b, h2', hR5, h6', h13, h12, h14, ej, rws, hrk, rwV]
          repeat (refine And.intro (by omega) ?_)
          have hjd := hdot _ (gN_mem hjl)
          have wj : IntKind.i64.wrap ((j : Int) + 1) = ((j + 1 : Nat) : Int) := by rw [w64 (by omega)]; omega
          refine wpC_lp (fun env' ob' n' => (∀ j, j < n → ob' j = ob j) ∧ n ≤ n' ∧ env' 2 = .pt 0 0 0 ∧ env' 5 = env 5 ∧ env' 6 = env 6 ∧ env' 13 = vi k ∧ env' 12 = vi sn1 ∧ env' 14 = vi j ∧ ∃ m : Nat, env' 16 = vi m ∧ m ≤ D.length ∧ env' 15 = vb (thereB (D.take m) r.key (gN r.dots j))) (fun env' _ _ => (D.length - iv (env' 16)).toNat) ?_ ?_
          · simp (config := {contextual := true, maxSteps := 1000000}) only [go_sem, ints, intRows, iv_c, Nat.reduceAdd, Nat.reduceBEq, Nat.reduceEqDiff, Nat.reduceLeDiff, Nat.reduceLT, reduceIte, Nat.le_refl, true_or, or_true, and_self, Int.reduceLE, Int.reduceLT, Int.reduceEq, Int.reduceNeg, Int.natCast_nonneg, Int.reduceToNat, ops, vals, dots, cnC_b, h2', h5, h6, h13, h12, h14]
            exact ⟨fun j hj => hfr j hj, by omega, 0, rfl, Nat.zero_le _, rfl⟩
          clear h2' h5 h6 h13 h12 h14 hR5 h6' hoI hfr
          rintro env4 ob4 n4 ⟨hfr, hn4, h2', h5, h6, h13, h12, h14, m, h16, hm, h15⟩
          have hR5 : env4 5 = rws .b rows := by rw [h5]; exact hR.at hkl
          have h6' : env4 6 = .sl I 0 D.length := by rw [h6]; exact hI6
          have hoI : ob4 I = some ⟨12, D.map opV, cap⟩ := (hfr I hI).trans hoI0
          by_cases hml : m < D.length
          · have em : decide ((m : Int) < D.length) = true := by simp; omega
            have wm : IntKind.i64.wrap ((m : Int) + 1) = ((m + 1 : Nat) : Int) := by rw [w64 (by omega)]; omega
            have hfold : thereB (D.take (m + 1)) r.key (gN r.dots j) = thereS r.key (gN r.dots j) (thereB (D.take m) r.key (gN r.dots j)) (gN D m) := by
              rw [take_gN hml, thereB_snoc]
            simp (config := {contextual := true, maxSteps := 1000000}) only [go_sem, ints, intRows, iv_c, Nat.reduceAdd, Nat.reduceBEq, Nat.reduceEqDiff, Nat.reduceLeDiff, Nat.reduceLT, reduceIte, Nat.le_refl, true_or, or_true, and_self, Int.reduceLE, Int.reduceLT, Int.reduceEq, Int.reduceNeg, Int.natCast_nonneg, Int.reduceToNat, ops, vals, dots, cnC_b, h2', hR5, h6', h13, h12, h14, h15, h16, em, rws, hrk, rwV, hoI, wm]
            repeat (refine And.intro (by omega) ?_)
            have hkeq : (decide ((gN D m).key.toList = r.key.toList) = false → thereB (D.take (m + 1)) r.key (gN r.dots j) = thereB (D.take m) r.key (gN r.dots j)) := fun h => by
              rw [hfold, thereS, if_neg (by simpa using h)]
            refine ⟨fun hke => ⟨⟨hfr, by omega, hE5, hI6.symm, m + 1, rfl, by omega, by rw [hkeq hke]⟩, by omega⟩, fun hke => ⟨by omega, hml, fun _ => by omega, fun _ => hml, fun _ => by omega, fun _ => by omega, ?_⟩⟩
            first | refine caS_i (KDot_ok (gN D m).dot (gN r.dots j)) trivial ?_ | refine caD_i (KDot_ok (gN D m).dot (gN r.dots j)) trivial ?_ | refine gC_i (fun _ => KDot_ok (gN D m).dot (gN r.dots j)) trivial ?_ | refine gCD_i (fun _ => KDot_ok (gN D m).dot (gN r.dots j)) trivial ?_ | refine caE_i (KDot_ok (gN D m).dot (gN r.dots j)) trivial ?_
            have hke : (gN D m).key.toList = r.key.toList := by simpa using hke
            have hxs := hDs _ (gN_mem hml)
            unfold maxLen at hxs
            generalize hx : gN D m = x at *
            generalize hd : gN r.dots j = d at *
            generalize thereB (D.take m) r.key d = t0 at *
            simp (config := {contextual := true, maxSteps := 1000000}) only [go_sem, ints, intRows, iv_c, Nat.reduceAdd, Nat.reduceBEq, Nat.reduceEqDiff, Nat.reduceLeDiff, Nat.reduceLT, reduceIte, Nat.le_refl, true_or, or_true, and_self, Int.reduceLE, Int.reduceLT, Int.reduceEq, Int.reduceNeg, Int.natCast_nonneg, Int.reduceToNat, ops, vals, dots, h2', hR5, h6', h13, h12, h14, h15, h16, rws, hrk, rwV, hoI]
            obtain ⟨t1, ht1⟩ : ∃ t1, t1 = (decide (x.kind = 1) && sameD x.dot d || t0) := ⟨_, rfl⟩
            rw [thereS_k hke, ← ht1] at hfold
            refine cut_cn (fun env' ob' n' => ob' = ob4 ∧ n ≤ n' ∧ env' 2 = .pt 0 0 0 ∧ env' 5 = env 5 ∧ env' 6 = env 6 ∧ env' 13 = vi k ∧ env' 12 = vi sn1 ∧ env' 14 = vi j ∧ env' 16 = vi m ∧ env' 15 = vb t1) (fun hd => ?_) (fun hd => ?_) ?_
            · simp (config := {contextual := true, maxSteps := 1000000}) only [go_sem, ints, intRows, iv_c, Nat.reduceAdd, Nat.reduceBEq, Nat.reduceEqDiff, Nat.reduceLeDiff, Nat.reduceLT, reduceIte, Nat.le_refl, true_or, or_true, and_self, Int.reduceLE, Int.reduceLT, Int.reduceEq, Int.reduceNeg, Int.natCast_nonneg, Int.reduceToNat, ops, vals, dots, cnC_b, h2', hR5, h6', h13, h12, h14, h15, h16]
              exact ⟨by omega, hE5, hI6.symm, by rw [ht1, hd]; rfl⟩
            · simp (config := {contextual := true, maxSteps := 1000000}) only [go_sem, ints, intRows, iv_c, Nat.reduceAdd, Nat.reduceBEq, Nat.reduceEqDiff, Nat.reduceLeDiff, Nat.reduceLT, reduceIte, Nat.le_refl, true_or, or_true, and_self, Int.reduceLE, Int.reduceLT, Int.reduceEq, Int.reduceNeg, Int.natCast_nonneg, Int.reduceToNat, ops, vals, dots, cnC_b, h2', hR5, h6', h13, h12, h14, h15, h16]
              exact ⟨by omega, hE5, hI6.symm, by rw [ht1, hd]; rfl⟩
            clear h2' h5 h6 h13 h12 h14 h16 h15 hR5 h6' hn4
            rintro env4 ob4 n4 ⟨rfl, hn4, h2', h5, h6, h13, h12, h14, h16, h15⟩
            simp (config := {contextual := true, maxSteps := 1000000}) only [go_sem, ints, intRows, iv_c, Nat.reduceAdd, Nat.reduceBEq, Nat.reduceEqDiff, Nat.reduceLeDiff, Nat.reduceLT, reduceIte, Nat.le_refl, true_or, or_true, and_self, Int.reduceLE, Int.reduceLT, Int.reduceEq, Int.reduceNeg, Int.natCast_nonneg, Int.reduceToNat, ops, vals, dots, cnC_b, h2', h5, h6, h13, h12, h14, h15, h16]
            refine wpC_lp (fun env' ob' n' => ob' = ob4 ∧ n ≤ n' ∧ env' 2 = .pt 0 0 0 ∧ env' 5 = env 5 ∧ env' 6 = env 6 ∧ env' 13 = vi k ∧ env' 12 = vi sn1 ∧ env' 14 = vi j ∧ env' 16 = vi m ∧ ∃ e : Nat, env' 17 = vi e ∧ e ≤ x.dots.length ∧ env' 15 = vb (if x.kind = 3 then delS d t1 (x.dots.take e) else t1)) (fun env' _ _ => (x.dots.length - iv (env' 17)).toNat) ?_ ?_
            · simp (config := {contextual := true, maxSteps := 1000000}) only [go_sem, ints, intRows, iv_c, Nat.reduceAdd, Nat.reduceBEq, Nat.reduceEqDiff, Nat.reduceLeDiff, Nat.reduceLT, reduceIte, Nat.le_refl, true_or, or_true, and_self, Int.reduceLE, Int.reduceLT, Int.reduceEq, Int.reduceNeg, Int.natCast_nonneg, Int.reduceToNat, ops, vals, dots, cnC_b, h2', h5, h6, h13, h12, h14, h15, h16]
              exact ⟨by omega, 0, rfl, Nat.zero_le _, by simp [delS]⟩
            clear h2' h5 h6 h13 h12 h14 h16 h15 hn4
            rintro env5 ob4 n5 ⟨rfl, hn5, h2', h5, h6, h13, h12, h14, h16, e, h17, he, h15⟩
            have hR5 : env5 5 = rws .b rows := by rw [h5]; exact hR.at hkl
            have h6' : env5 6 = .sl I 0 D.length := by rw [h6]; exact hI6
            by_cases hec : e < x.dots.length ∧ x.kind = 3
            · have ee : decide ((e : Int) < x.dots.length) = true := by simp; omega
              have ek3 : decide (x.kind = 3) = true := by simpa using hec.2
              have we : IntKind.i64.wrap ((e : Int) + 1) = ((e + 1 : Nat) : Int) := by rw [w64 (by omega)]; omega
              rw [if_pos hec.2] at h15
              simp (config := {contextual := true, maxSteps := 1000000}) only [go_sem, ints, intRows, iv_c, Nat.reduceAdd, Nat.reduceBEq, Nat.reduceEqDiff, Nat.reduceLeDiff, Nat.reduceLT, reduceIte, Nat.le_refl, true_or, or_true, and_self, Int.reduceLE, Int.reduceLT, Int.reduceEq, Int.reduceNeg, Int.natCast_nonneg, Int.reduceToNat, ops, vals, dots, cnC_b, h2', hR5, h6', h13, h12, h14, h15, h16, h17, ee, ek3, rws, hrk, rwV, hoI, hx, hd]
              refine ⟨by omega, hml, by omega, hml, fun _ => by omega, fun _ => hml, fun _ => by omega, fun _ => by omega, fun _ => by omega, ?_⟩
              first | refine caS_i (KDot_ok (gN x.dots e) d) trivial ?_ | refine caD_i (KDot_ok (gN x.dots e) d) trivial ?_ | refine gC_i (fun _ => KDot_ok (gN x.dots e) d) trivial ?_ | refine gCD_i (fun _ => KDot_ok (gN x.dots e) d) trivial ?_ | refine caE_i (KDot_ok (gN x.dots e) d) trivial ?_
              have hsn : delS d t1 (x.dots.take (e + 1)) = (delS d t1 (x.dots.take e) && !sameD (gN x.dots e) d) := by rw [take_gN hec.1, delS_snoc]
              simp (config := {contextual := true, maxSteps := 1000000}) only [go_sem, ints, intRows, iv_c, Nat.reduceAdd, Nat.reduceBEq, Nat.reduceEqDiff, Nat.reduceLeDiff, Nat.reduceLT, reduceIte, Nat.le_refl, true_or, or_true, and_self, Int.reduceLE, Int.reduceLT, Int.reduceEq, Int.reduceNeg, Int.natCast_nonneg, Int.reduceToNat, ops, vals, dots, cnC_b, h2', hR5, h6', h13, h12, h14, h15, h16, h17, we]
              exact ⟨⟨by omega, hE5, hI6.symm, e + 1, rfl, by omega, by rw [if_pos hec.2, hsn]⟩, by omega⟩
            · have ec : (decide ((e : Int) < x.dots.length) && decide (x.kind = 3)) = false := by
                rw [Bool.and_eq_false_iff]; simp only [decide_eq_false_iff_not]
                by_cases hk3 : x.kind = 3
                · left; intro h; exact hec ⟨by omega, hk3⟩
                · exact .inr hk3
              have hfin : (if x.kind = 3 then delS d t1 (x.dots.take e) else t1) = (if x.kind = 3 then delS d t1 x.dots else t1) := by
                by_cases hk3 : x.kind = 3
                · have : e = x.dots.length := by
                    have := fun h => hec ⟨h, hk3⟩
                    omega
                  rw [this, List.take_length]
                · rw [if_neg hk3, if_neg hk3]
              rw [hfin, ← hfold] at h15
              simp (config := {contextual := true, maxSteps := 1000000}) only [go_sem, ints, intRows, iv_c, Nat.reduceAdd, Nat.reduceBEq, Nat.reduceEqDiff, Nat.reduceLeDiff, Nat.reduceLT, reduceIte, Nat.le_refl, true_or, or_true, and_self, Int.reduceLE, Int.reduceLT, Int.reduceEq, Int.reduceNeg, Int.natCast_nonneg, Int.reduceToNat, ops, vals, dots, cnC_b, h2', hR5, h6', h13, h12, h14, h15, h16, h17, ec, rws, hrk, rwV, hoI, hx, hd, wm]
              repeat (refine And.intro (by omega) ?_)
              exact ⟨⟨hfr, by omega, hE5, hI6.symm, m + 1, rfl, by omega, rfl⟩, by omega⟩
          · have em : decide ((m : Int) < D.length) = false := by simp; omega
            have hmD : m = D.length := by omega
            subst hmD
            rw [List.take_length, hjd] at h15
            simp (config := {contextual := true, maxSteps := 1000000}) only [go_sem, ints, intRows, iv_c, Nat.reduceAdd, Nat.reduceBEq, Nat.reduceEqDiff, Nat.reduceLeDiff, Nat.reduceLT, reduceIte, Nat.le_refl, true_or, or_true, and_self, Int.reduceLE, Int.reduceLT, Int.reduceEq, Int.reduceNeg, Int.natCast_nonneg, Int.reduceToNat, ops, vals, dots, cnC_b, h2', hR5, h6', h13, h12, h14, h15, h16, em, rws, hrk, rwV, hoI, wj]
            exact ⟨⟨hfr, by omega, hE5, hI6.symm, j + 1, rfl, by omega⟩, by omega⟩
        · have ej : decide ((j : Int) < r.dots.length) = false := by simp; omega
          have o03 : ob3 0 = some ⟨1, [tbV cols], none⟩ := (hfr 0 hn).trans o0
          have ecl : decide ((r.cells.length : Int) = cols.length) = true := by simp; omega
          simp (config := {contextual := true, maxSteps := 1000000}) only [go_sem, ints, intRows, iv_c, Nat.reduceAdd, Nat.reduceBEq, Nat.reduceEqDiff, Nat.reduceLeDiff, Nat.reduceLT, reduceIte, Nat.le_refl, true_or, or_true, and_self, Int.reduceLE, Int.reduceLT, Int.reduceEq, Int.reduceNeg, Int.natCast_nonneg, Int.reduceToNat, ops, vals, dots, cnC_b, h2', hR5, h6', h13, h12, h14, ej, rws, hrk, rwV, o03, cels, ecl]
          repeat (refine And.intro (by omega) ?_)
          refine wpC_lp (fun env' ob' n' => (∀ j, j < n → ob' j = ob j) ∧ n ≤ n' ∧ env' 2 = .pt 0 0 0 ∧ env' 5 = env 5 ∧ env' 6 = env 6 ∧ env' 13 = vi k ∧ env' 12 = vi sn1 ∧ ∃ c : Nat, env' 18 = vi c ∧ c ≤ r.cells.length) (fun env' _ _ => (r.cells.length - iv (env' 18)).toNat) ?_ ?_
          · simp (config := {contextual := true, maxSteps := 1000000}) only [go_sem, ints, intRows, iv_c, Nat.reduceAdd, Nat.reduceBEq, Nat.reduceEqDiff, Nat.reduceLeDiff, Nat.reduceLT, reduceIte, Nat.le_refl, true_or, or_true, and_self, Int.reduceLE, Int.reduceLT, Int.reduceEq, Int.reduceNeg, Int.natCast_nonneg, Int.reduceToNat, ops, vals, dots, cnC_b, h2', h5, h6, h13, h12, h14]
            exact ⟨fun j hj => hfr j hj, by omega, 0, rfl, Nat.zero_le _⟩
          clear h2' h5 h6 h13 h12 h14 hR5 h6' hoI hfr o03 hn3
          rintro env3 ob3 n3 ⟨hfr, hn3, h2', h5, h6, h13, h12, c, h18, hc⟩
          have hR5 : env3 5 = rws .b rows := by rw [h5]; exact hR.at hkl
          have h6' : env3 6 = .sl I 0 D.length := by rw [h6]; exact hI6
          have hoI : ob3 I = some ⟨12, D.map opV, cap⟩ := (hfr I hI).trans hoI0
          by_cases hcc : c < r.cells.length
          · have ec : decide ((c : Int) < r.cells.length) = true := by simp; omega
            have wc : IntKind.i64.wrap ((c : Int) + 1) = ((c + 1 : Nat) : Int) := by rw [w64 (by unfold maxLen at hcl; omega)]; omega
            simp (config := {contextual := true, maxSteps := 1000000}) only [go_sem, ints, intRows, iv_c, Nat.reduceAdd, Nat.reduceBEq, Nat.reduceEqDiff, Nat.reduceLeDiff, Nat.reduceLT, reduceIte, Nat.le_refl, true_or, or_true, and_self, Int.reduceLE, Int.reduceLT, Int.reduceEq, Int.reduceNeg, Int.natCast_nonneg, Int.reduceToNat, ops, vals, dots, cnC_b, h2', hR5, h6', h13, h12, h18, ec, rws, hrk, rwV, cels]
            repeat (refine And.intro (by omega) ?_)
            refine wpC_lp (fun env' ob' n' => (∀ j, j < n → ob' j = ob j) ∧ n ≤ n' ∧ env' 2 = .pt 0 0 0 ∧ env' 5 = env 5 ∧ env' 6 = env 6 ∧ env' 13 = vi k ∧ env' 12 = vi sn1 ∧ env' 18 = vi c ∧ ∃ m : Nat, env' 19 = vi m ∧ m ≤ D.length) (fun env' _ _ => (D.length - iv (env' 19)).toNat) ?_ ?_
            · simp (config := {contextual := true, maxSteps := 1000000}) only [go_sem, ints, intRows, iv_c, Nat.reduceAdd, Nat.reduceBEq, Nat.reduceEqDiff, Nat.reduceLeDiff, Nat.reduceLT, reduceIte, Nat.le_refl, true_or, or_true, and_self, Int.reduceLE, Int.reduceLT, Int.reduceEq, Int.reduceNeg, Int.natCast_nonneg, Int.reduceToNat, ops, vals, dots, cnC_b, h2', h5, h6, h13, h12, h18]
              exact ⟨fun j hj => hfr j hj, by omega, 0, rfl, Nat.zero_le _⟩
            clear h2' h5 h6 h13 h12 h18 hR5 h6' hoI hfr hn3
            rintro env3 ob3 n3 ⟨hfr, hn3, h2', h5, h6, h13, h12, h18, m, h19, hm⟩
            have hR5 : env3 5 = rws .b rows := by rw [h5]; exact hR.at hkl
            have h6' : env3 6 = .sl I 0 D.length := by rw [h6]; exact hI6
            have hoI : ob3 I = some ⟨12, D.map opV, cap⟩ := (hfr I hI).trans hoI0
            by_cases hml : m < D.length
            · have em : decide ((m : Int) < D.length) = true := by simp; omega
              have wm : IntKind.i64.wrap ((m : Int) + 1) = ((m + 1 : Nat) : Int) := by rw [w64 (by omega)]; omega
              simp (config := {contextual := true, maxSteps := 1000000}) only [go_sem, ints, intRows, iv_c, Nat.reduceAdd, Nat.reduceBEq, Nat.reduceEqDiff, Nat.reduceLeDiff, Nat.reduceLT, reduceIte, Nat.le_refl, true_or, or_true, and_self, Int.reduceLE, Int.reduceLT, Int.reduceEq, Int.reduceNeg, Int.natCast_nonneg, Int.reduceToNat, ops, vals, dots, cnC_b, h2', hR5, h6', h13, h12, h18, h19, em, rws, hrk, rwV, hoI, cels]
              refine ⟨by omega, hml, by omega, fun _ => by omega, fun _ => by omega, ?_⟩
              first | refine caS_i (CompareStamps_ok (gN D m).st (gN r.cells c).st) trivial ?_ | refine caD_i (CompareStamps_ok (gN D m).st (gN r.cells c).st) trivial ?_ | refine gC_i (fun _ => CompareStamps_ok (gN D m).st (gN r.cells c).st) trivial ?_ | refine gCD_i (fun _ => CompareStamps_ok (gN D m).st (gN r.cells c).st) trivial ?_ | refine caE_i (CompareStamps_ok (gN D m).st (gN r.cells c).st) trivial ?_
              have hno : (decide ((gN D m).key.toList = r.key.toList) && (decide ((gN D m).kind = 1) || decide ((gN D m).kind = 2) && decide ((gN D m).col = (c : Int))) && decide (0 < cmpT (gN D m).st (gN r.cells c).st)) = false := by
                rw [Bool.and_eq_false_iff]
                by_cases hw : wroteB r.key c (gN D m)
                · right
                  rw [decide_eq_false_iff_not]
                  exact hlat c hcc _ (gN_mem hml) hw
                · left
                  cases hb : (decide ((gN D m).key.toList = r.key.toList) && (decide ((gN D m).kind = 1) || decide ((gN D m).kind = 2) && decide ((gN D m).col = (c : Int)))) with
                  | false => rfl
                  | true =>
                    exfalso
                    simp only [Bool.and_eq_true, Bool.or_eq_true, decide_eq_true_eq, toL_iff] at hb
                    exact hw hb
              simp (config := {contextual := true, maxSteps := 1000000}) only [go_sem, ints, intRows, iv_c, Nat.reduceAdd, Nat.reduceBEq, Nat.reduceEqDiff, Nat.reduceLeDiff, Nat.reduceLT, reduceIte, Nat.le_refl, true_or, or_true, and_self, Int.reduceLE, Int.reduceLT, Int.reduceEq, Int.reduceNeg, Int.natCast_nonneg, Int.reduceToNat, ops, vals, dots, cnC_b, h2', hR5, h6', h13, h12, h18, h19, hno, wm]
              refine ⟨⟨fun j hj => ?_, by omega, hE5, hI6.symm, m + 1, rfl, by omega⟩, by omega⟩
              rw [updO, if_neg (by omega), updO, if_neg (by omega)]
              exact hfr j hj
            · have em : decide ((m : Int) < D.length) = false := by simp; omega
              simp (config := {contextual := true, maxSteps := 1000000}) only [go_sem, ints, intRows, iv_c, Nat.reduceAdd, Nat.reduceBEq, Nat.reduceEqDiff, Nat.reduceLeDiff, Nat.reduceLT, reduceIte, Nat.le_refl, true_or, or_true, and_self, Int.reduceLE, Int.reduceLT, Int.reduceEq, Int.reduceNeg, Int.natCast_nonneg, Int.reduceToNat, ops, vals, dots, cnC_b, h2', hR5, h6', h13, h12, h18, h19, em, rws, hrk, rwV, hoI, wc]
              exact ⟨⟨hfr, by omega, hE5, hI6.symm, c + 1, rfl, by omega⟩, by omega⟩
          · have ec : decide ((c : Int) < r.cells.length) = false := by simp; omega
            simp (config := {contextual := true, maxSteps := 1000000}) only [go_sem, ints, intRows, iv_c, Nat.reduceAdd, Nat.reduceBEq, Nat.reduceEqDiff, Nat.reduceLeDiff, Nat.reduceLT, reduceIte, Nat.le_refl, true_or, or_true, and_self, Int.reduceLE, Int.reduceLT, Int.reduceEq, Int.reduceNeg, Int.natCast_nonneg, Int.reduceToNat, ops, vals, dots, cnC_b, h2', hR5, h6', h13, h12, h18, ec, rws, hrk, rwV, cels, wk]
            repeat (refine And.intro (by omega) ?_)
            exact ⟨⟨hfr, by omega, hE5, hI6.symm, k + 1, rfl, by omega, by rw [hsn1]⟩, by omega⟩
    · have ek : decide ((k : Int) < rows.length) = false := by simp; omega
      have hkr : k = rows.length := by omega
      subst hkr
      rw [List.take_length] at h12
      have hfew := hT.few
      have hsh : ∀ r ∈ rows, ShortR r ∧ r.cells.length < maxLen := fun r hr => by
        obtain ⟨i, hi, rfl⟩ := gN_mem_iff.1 hr
        have h1 := (allG_at (right_iff.1 (rows_at (chk_0 hT.chk).2 hi).1).cells).1
        have h2 := hT.short _ hr
        obtain ⟨f1, f2, _⟩ := form_0 hb3
        exact ⟨⟨by unfold maxLen; omega, by unfold maxLen; omega⟩, by unfold maxLen; omega⟩
      have hse := Seen_ok (fl := .b) cols rows (by unfold maxLen; omega) (fun r hr => (hsh r hr).1) (fun r hr => (hsh r hr).2)
      have hsl := seen_len hT.chk
      have hfl := List.length_filter_le thr rows
      have hdd := dead_len rows
      simp (config := {contextual := true, maxSteps := 1000000}) only [go_sem, ints, intRows, iv_c, Nat.reduceAdd, Nat.reduceBEq, Nat.reduceEqDiff, Nat.reduceLeDiff, Nat.reduceLT, reduceIte, Nat.le_refl, true_or, or_true, and_self, Int.reduceLE, Int.reduceLT, Int.reduceEq, Int.reduceNeg, Int.natCast_nonneg, Int.reduceToNat, ops, vals, dots, cnC_b, h2', hRl2, hRr2, h13, h12, ek, o02]
      first | refine caS_i (hse) trivial ?_ | refine caD_i (hse) trivial ?_ | refine gC_i (fun _ => hse) trivial ?_ | refine gCD_i (fun _ => hse) trivial ?_ | refine caE_i (hse) trivial ?_
      have d1 : decide ((((rows.filter thr).length : Nat) : Int) = (((rows.filter thr).length : Nat) : Int)) = true := by simp
      simp (config := {contextual := true, maxSteps := 1000000}) only [go_sem, ints, intRows, iv_c, Nat.reduceAdd, Nat.reduceBEq, Nat.reduceEqDiff, Nat.reduceLeDiff, Nat.reduceLT, reduceIte, Nat.le_refl, true_or, or_true, and_self, Int.reduceLE, Int.reduceLT, Int.reduceEq, Int.reduceNeg, Int.natCast_nonneg, Int.reduceToNat, ops, vals, dots, cnC_b, hRl2, hRr2, h12, valRows, List.length_map, hsl, d1]
      first | refine caS_i (Dead_ok (fl := .b) rows (by unfold maxLen; omega)) trivial ?_ | refine caD_i (Dead_ok (fl := .b) rows (by unfold maxLen; omega)) trivial ?_ | refine gC_i (fun _ => Dead_ok (fl := .b) rows (by unfold maxLen; omega)) trivial ?_ | refine gCD_i (fun _ => Dead_ok (fl := .b) rows (by unfold maxLen; omega)) trivial ?_ | refine caE_i (Dead_ok (fl := .b) rows (by unfold maxLen; omega)) trivial ?_
      rw [hdd]
      have ww : IntKind.i64.wrap ((rows.length : Int) - ((rows.filter thr).length : Int)) = (rows.length : Int) - ((rows.filter thr).length : Int) := by rw [w64 (by omega)]
      have d2 : decide ((rows.length : Int) - ((rows.filter thr).length : Int) = (rows.length : Int) - ((rows.filter thr).length : Int)) = true := by simp
      simp (config := {contextual := true, maxSteps := 1000000}) only [go_sem, ints, intRows, iv_c, Nat.reduceAdd, Nat.reduceBEq, Nat.reduceEqDiff, Nat.reduceLeDiff, Nat.reduceLT, reduceIte, Nat.le_refl, true_or, or_true, and_self, Int.reduceLE, Int.reduceLT, Int.reduceEq, Int.reduceNeg, Int.natCast_nonneg, Int.reduceToNat, ops, vals, dots, cnC_b, hRl2, hRr2, h12, ww, d2]
      first | refine caS_i (wakes13_ok) trivial ?_ | refine caD_i (wakes13_ok) trivial ?_ | refine gC_i (fun _ => wakes13_ok) trivial ?_ | refine gCD_i (fun _ => wakes13_ok) trivial ?_ | refine caE_i (wakes13_ok) trivial ?_
      simp (config := {contextual := true, maxSteps := 1000000}) only [go_sem, ints, intRows, iv_c, Nat.reduceAdd, Nat.reduceBEq, Nat.reduceEqDiff, Nat.reduceLeDiff, Nat.reduceLT, reduceIte, Nat.le_refl, true_or, or_true, and_self, Int.reduceLE, Int.reduceLT, Int.reduceEq, Int.reduceNeg, Int.natCast_nonneg, Int.reduceToNat, ops, vals, dots, cnC_b]
/-- A table's form that may be handed in. -/
abbrev Tb := List Int
def gTb (c : Tb) : Prop := gList (gInt .i64) c
def gOpx (x : Opx) : Prop := gDt x.dot ∧ gList (gInt .i64) x.deps ∧ gSt3 x.st ∧ gInt .i64 x.kind ∧ gInt .i64 x.table ∧ gStr x.key ∧ gInt .i64 x.col ∧ gList gVl x.vals ∧ gList gDt x.dots
theorem TabThere_law (f : Tb) (l : List Opx) (_ : gTb f) (_ : gList gOpx l) : FnB Try.prog 3 [.ag (tbV f), ops .b l] (vb true) := TabThere_ok f l
end Go.Proofs.Ytcmonjmoapjpkaa.D
end
section
set_option linter.unusedVariables false
set_option linter.unusedSimpArgs false
set_option linter.constructorNameAsVariable false
/- The row of TabThere, out of what the law answers to plain values. No condition beyond the statement's own. -/
namespace Go.Proofs.Ytcmonjmoapjpkaa.tabThere
open Go.ChangeShapes Go.WideShapes Go.ChangeAt Go.RowKit Go.Proofs.Ytcmonjmoapjpkaa.D
open Go.ChangeMaps (open_string shut_string)
theorem own : ownKnob Try.prog.godebug = none := by kernel_rfl
theorem laidOut : laidOutB Try.prog = true := by kernel_rfl
theorem opn24 {H : Type} {enc : TypeId × Value → H} : Opn enc Try.prog 24 tbV gTb := by
  intro W base sp held fuel cs x h
  obtain ⟨xs, n, rfl, rfl, hl, hxl, hf⟩ := DataW.trod_struct Try.underlying24 h
  obtain ⟨a0, K0, G0⟩ := opn_field (sz := 1) hxl hf 0 _ rfl (opn_slice (sz := 1) Try.underlying22 (opn_int Try.underlying3) (by kernel_rfl) (by decide) (fun _ => rfl)) (by kernel_rfl)
  have hc : Try.prog.cellsOf 24 = 1 := by kernel_rfl
  rw [hc] at hl
  exact ⟨a0, (rv_last K0 hl), G0⟩
theorem opn36 {H : Type} {enc : TypeId × Value → H} : Opn enc Try.prog 36 dotV gDt := by
  intro W base sp held fuel cs x h
  obtain ⟨xs, n, rfl, rfl, hl, hxl, hf⟩ := DataW.trod_struct Try.underlying36 h
  obtain ⟨a0, K0, G0⟩ := opn_field (sz := 1) hxl hf 0 _ rfl (opn_int Try.underlying3) (by kernel_rfl)
  obtain ⟨a1, K1, G1⟩ := opn_field (sz := 1) hxl hf 1 _ rfl (opn_int Try.underlying3) (by kernel_rfl)
  have hc : Try.prog.cellsOf 36 = 2 := by kernel_rfl
  rw [hc] at hl
  exact ⟨⟨a0, a1⟩, (rv_fields K0 (rv_last K1 hl)), ⟨G0, G1⟩⟩
theorem opn38 {H : Type} {enc : TypeId × Value → H} : Opn enc Try.prog 38 stV gSt3 := by
  intro W base sp held fuel cs x h
  obtain ⟨xs, n, rfl, rfl, hl, hxl, hf⟩ := DataW.trod_struct Try.underlying38 h
  obtain ⟨a0, K0, G0⟩ := opn_field (sz := 1) hxl hf 0 _ rfl (opn_int Try.underlying3) (by kernel_rfl)
  obtain ⟨a1, K1, G1⟩ := opn_field (sz := 1) hxl hf 1 _ rfl (opn_int Try.underlying3) (by kernel_rfl)
  obtain ⟨a2, K2, G2⟩ := opn_field (sz := 1) hxl hf 2 _ rfl (opn_int Try.underlying3) (by kernel_rfl)
  have hc : Try.prog.cellsOf 38 = 3 := by kernel_rfl
  rw [hc] at hl
  exact ⟨⟨a0, a1, a2⟩, (rv_fields K0 (rv_fields K1 (rv_last K2 hl))), ⟨G0, G1, G2⟩⟩
theorem opn48 {H : Type} {enc : TypeId × Value → H} : Opn enc Try.prog 48 vlV gVl := by
  intro W base sp held fuel cs x h
  obtain ⟨xs, n, rfl, rfl, hl, hxl, hf⟩ := DataW.trod_struct Try.underlying48 h
  obtain ⟨a0, K0, G0⟩ := opn_field (sz := 1) hxl hf 0 _ rfl (opn_int Try.underlying3) (by kernel_rfl)
  obtain ⟨a1, K1, G1⟩ := opn_field (sz := 1) hxl hf 1 _ rfl (opn_int Try.underlying3) (by kernel_rfl)
  obtain ⟨a2, K2, G2⟩ := opn_field (sz := 1) hxl hf 2 _ rfl (opn_string Try.underlying9) (by kernel_rfl)
  have hc : Try.prog.cellsOf 48 = 3 := by kernel_rfl
  rw [hc] at hl
  exact ⟨⟨a0, a1, a2⟩, (rv_fields K0 (rv_fields K1 (rv_last K2 hl))), ⟨G0, G1, G2⟩⟩
theorem opn41 {H : Type} {enc : TypeId × Value → H} : Opn enc Try.prog 41 opV gOpx := by
  intro W base sp held fuel cs x h
  obtain ⟨xs, n, rfl, rfl, hl, hxl, hf⟩ := DataW.trod_struct Try.underlying41 h
  obtain ⟨a0, K0, G0⟩ := opn_field (sz := 2) hxl hf 0 _ rfl opn36 (by kernel_rfl)
  obtain ⟨a1, K1, G1⟩ := opn_field (sz := 1) hxl hf 1 _ rfl (opn_slice (sz := 1) Try.underlying22 (opn_int Try.underlying3) (by kernel_rfl) (by decide) (fun _ => rfl)) (by kernel_rfl)
  obtain ⟨a2, K2, G2⟩ := opn_field (sz := 3) hxl hf 2 _ rfl opn38 (by kernel_rfl)
  obtain ⟨a3, K3, G3⟩ := opn_field (sz := 1) hxl hf 3 _ rfl (opn_int Try.underlying3) (by kernel_rfl)
  obtain ⟨a4, K4, G4⟩ := opn_field (sz := 1) hxl hf 4 _ rfl (opn_int Try.underlying3) (by kernel_rfl)
  obtain ⟨a5, K5, G5⟩ := opn_field (sz := 1) hxl hf 5 _ rfl (opn_string Try.underlying9) (by kernel_rfl)
  obtain ⟨a6, K6, G6⟩ := opn_field (sz := 1) hxl hf 6 _ rfl (opn_int Try.underlying3) (by kernel_rfl)
  obtain ⟨a7, K7, G7⟩ := opn_field (sz := 1) hxl hf 7 _ rfl (opn_slice (sz := 3) Try.underlying32 opn48 (by kernel_rfl) (by decide) (fun _ => rfl)) (by kernel_rfl)
  obtain ⟨a8, K8, G8⟩ := opn_field (sz := 1) hxl hf 8 _ rfl (opn_slice (sz := 2) Try.underlying39 opn36 (by kernel_rfl) (by decide) (fun _ => rfl)) (by kernel_rfl)
  have hc : Try.prog.cellsOf 41 = 12 := by kernel_rfl
  rw [hc] at hl
  exact ⟨⟨a0, a1, a2, a3, a4, a5, a6, a7, a8⟩, (rv_fields K0 (rv_fields K1 (rv_fields K2 (rv_fields K3 (rv_fields K4 (rv_fields K5 (rv_fields K6 (rv_fields K7 (rv_last K8 hl))))))))), ⟨G0, G1, G2, G3, G4, G5, G6, G7, G8⟩⟩
set_option maxRecDepth 100000 in
set_option maxHeartbeats 2000000 in
theorem lifted (os : Os) (started : os.Started) (H : Type) (enc : TypeId × Value → H) :
    ReturnsInHanded {} Try.checked os 3 .any (Rows.tabThereSpec.pre6 enc Try.prog Try.f3 Rows.tabThereRow.domain false) (Rows.tabThereSpec.post enc Try.prog Try.f3 false true false false) := by
  refine returnsInHanded_of_change_sized (C := Try.checked) own started (by kernel_rfl) Try.func3
    (ChangeSpec.witness6 (enc := enc) (C := Try.checked) false ⟨#[], #[.agg #[(.slice none 0 0)], .slice none 0 0], []⟩ 8 (by kernel_rfl) (by kernel_rfl) (by kernel_rfl) (by kernel_rfl)) ?_
  intro W base args ds gs before hval0 hW hcnd hsz0 _
  have hval : ∀ (j : Nat) t v, Try.f3.params[j]? = some t → args[j]? = some v → Value.okWide Try.prog W .any base t v := hval0
  have hW' := hW
  obtain ⟨p, q, hA0, hV, rfl, hfz, hnd⟩ := hW
  have hA : DataW.TrodAll enc Try.prog W 0 (fun _ => true) true Try.f3.params.toList args.toList ds p := hA0
  rw [Try.params3] at hA hval
  obtain ⟨v0, vs0, d0, ds0, p0, q0, hargs, rfl, rfl, h0, r0⟩ := trodAll_cons hA
  obtain ⟨v1, vs1, d1, ds1, p1, q1, rfl, rfl, rfl, h1, r1⟩ := trodAll_cons r0
  obtain ⟨rfl, rfl, rfl⟩ := trodAll_nil r1
  obtain rfl : args = #[v0, v1] := by cases args; simp_all
  obtain ⟨rfl, rfl⟩ := trodVars_none hV
  have k0 := h0
  have lt0 : ∀ x ∈ p0, x.block < W.heap.size := by obtain ⟨m, hm⟩ := k0; exact DataW.trod_lt m _ _ _ hm
  obtain ⟨cs0, hagg0, hsz0, _⟩ : ∃ cs, v0 = .agg cs ∧ cs.size = _ ∧ _ := by have z := (hval 0 24 v0 rfl rfl); unfold Value.okWide at z; rw [Try.underlying24] at z; exact z
  subst hagg0
  obtain ⟨a0, R0, G0⟩ := arg_ag opn24 h0
  have k1 := h1
  have lt1 : ∀ x ∈ p1, x.block < W.heap.size := by obtain ⟨m, hm⟩ := k1; exact DataW.trod_lt m _ _ _ hm
  obtain ⟨_, _, _, e1⟩ := okWide_slice Try.underlying25 (hval 1 25 v1 rfl rfl)
  obtain ⟨a1, R1, G1⟩ := arg_one (opn_slice (sz := 12) Try.underlying25 opn41 (by kernel_rfl) (by decide) (fun _ => rfl)) (by rw [e1]; rfl) h1
  clear hA0 hval0 hsz0
  have hfn := TabThere_law a0 a1 G0 G1
  refine (hfn.2 bkA W [.agg cs0, v1] (RVs_cons R0 (RVs_cons R1 RVs_nil))).mono fun e W' ⟨x, he, hr, bel⟩ => ?_
  subst he
  obtain rfl := res_true hr
  exact ⟨_, rfl, _, _, _, [], _, [], hW', trodAll_mk1 (shut_bool Try.underlying4 _), (trodAll_cons_mk (Below.trod laidOut (by kernel_rfl) (of_decide_eq_true (by kernel_rfl)) k0 bel lt0) (trodAll_cons_mk (Below.trod laidOut (by kernel_rfl) (of_decide_eq_true (by kernel_rfl)) k1 bel lt1) trodAll_mk0)), rfl, bel.frame _, fun h => by cases h⟩
theorem over : Rows.tabThereRow.holds Try.pinned (OpenSpec.ofChange Rows.tabThereSpec) :=
  OpenClaim.holds_of_wide 3 Try.f3 rfl rfl rfl rfl rfl rfl rfl ⟨rfl, rfl, rfl, rfl, rfl⟩ rfl rfl rfl rfl rfl (by kernel_rfl) Try.func3 (by kernel_rfl)
    (of_decide_eq_true (by kernel_rfl)) (by unfold Func.isWrapper; first | (rw [if_pos (by decide +kernel)]; kernel_rfl) | (rw [if_neg (by decide +kernel)]; exact ⟨rfl, rfl⟩))
    (fun os started H enc _ => lifted os started H enc)
theorem proved : Rows.TabThereSaid := over
#print axioms proved
end Go.Proofs.Ytcmonjmoapjpkaa.tabThere
namespace Go.Proofs.Ytcmonjmoapjpkaa
/-- The row, under a short name, for the claim. -/
theorem tabThere_holds : Rows.TabThereSaid := tabThere.proved
end Go.Proofs.Ytcmonjmoapjpkaa
end
