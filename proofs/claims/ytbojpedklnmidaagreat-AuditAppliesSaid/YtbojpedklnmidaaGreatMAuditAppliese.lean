/- AuditApplies, packed. No condition beyond the statement's own. -/
import Derived.Test.YtbojpedklnmidaaGreatMAuditAppliesd
import Derived.Shelf.Sort.Plain
import Derived.Shelf.Slices.In.SortNone
import Derived.Test.YtbojpedklnmidaaGreatProg
section
set_option linter.unusedVariables false
set_option linter.unusedSimpArgs false
set_option linter.constructorNameAsVariable false
set_option maxRecDepth 100000

/- Tables behind an operation: the walk. No condition. -/
namespace Go.Proofs.YtbojpedklnmidaaGreat.D
open Go Go.Proofs
open Nat (reduceAdd reduceEqDiff reduceLeDiff)
open Int (reduceLE reduceEq reduceNeg reduceToNat)
theorem own_res3 {n : Nat} {ob : OB} {v : V} {rows : List (List V)} {F : List Rwf} (h : OwnE n ob v 3 rows) (hF : ∀ m, rows.map (fun r => r.map (resV ob (m + 3))) = F.map rwF) : ∃ b : Bool, ∀ m, resV ob (m + 4) v = rwfs (flg b) F := by
  rcases h with ⟨h0, rfl⟩ | ⟨id, cap, hid, rfl, hob⟩
  · have h1 := hF 0
    rw [h0] at h1
    have : F = [] := by simpa using h1.symm
    subst this; exact ⟨false, fun m => rfl⟩
  · refine ⟨true, fun m => ?_⟩
    simp only [resV, rowsOf, hob, Option.bind_some]
    rw [if_pos (by simp)]
    simp only [List.drop_zero, List.take_length]
    rw [hF m]; rfl
theorem nodup_mid {rows : List (List V)} {k : Nat} (h : (rows.flatMap ids).Nodup) (hk : k < rows.length) : ∀ id ∈ ids (gN rows k), id ∉ (rows.take k ++ rows.drop (k + 1)).flatMap ids := by
  have e : rows = rows.take k ++ gN rows k :: rows.drop (k + 1) := by
    rw [gN_eq hk, ← List.drop_eq_getElem_cons hk, List.take_append_drop]
  intro id hid hin
  rw [e, List.flatMap_append, List.flatMap_cons, List.nodup_append] at h
  obtain ⟨_, h2, h3⟩ := h
  rw [List.nodup_append] at h2
  obtain ⟨_, _, h4⟩ := h2
  rw [List.flatMap_append] at hin
  rcases List.mem_append.1 hin with h5 | h5
  · exact h3 id h5 id (List.mem_append_left _ hid) rfl
  · exact h4 id hid id h5 rfl
theorem RowsO.ok3 {ob : OB} {n : Nat} : ∀ {rows : List (List V)} {L : List Rwx}, RowsO ob n rows L → ∃ R : List (Rw 3), R.map rw3V = rows
  | [], [], _ => ⟨[], rfl⟩
  | r :: rs, R :: Rs, h => by
    obtain ⟨S, hS⟩ := RowsO.ok3 h.2
    obtain ⟨dv, cv, e, hd, hc⟩ := h.1
    refine ⟨⟨r, ?_⟩ :: S, by simp [rw3V, hS]⟩
    rw [e]
    show (3 == 3 && (leaf (V.c (.string R.key)) && (leaf dv && (leaf cv && true)))) = true
    rw [hd.cell.2, hc.cell.2]; rfl
  | [], _ :: _, h => h.elim
  | _ :: _, [], h => h.elim
theorem RowsO.at {ob : OB} {n : Nat} : ∀ {rows : List (List V)} {L : List Rwx}, RowsO ob n rows L → ∀ k, k < rows.length → RowO ob n (gN rows k) (gN L k)
  | [], [], _, k, h => by simp at h
  | r :: rs, R :: Rs, h, 0, _ => h.1
  | r :: rs, R :: Rs, h, k + 1, hk => RowsO.at h.2 k (by simpa using hk)
  | [], _ :: _, h, _, _ => h.elim
  | _ :: _, [], h, _, _ => h.elim
@[go_sem] theorem op_bsl_rwo (z : List V) (s : ByteArray) (i a b : Nat) (ob : OB) (n : Nat) (hz : (z.length == 3) = true) : opF (.bsl 3 z [0] 1 false) [.ag [.c (.string s), .z, .sl i a b]] ob n = some (.sl n 0 1, [(n, some ⟨3, [[.c (.string s), .z, .sl i a b]], none⟩)]) := op_bsl_o ob n (by simpa using hz) rfl
theorem RowsO.set {ob ob' : OB} {n n' : Nat} {rows : List (List V)} {L : List Rwx} {k : Nat} {r' : List V} {R' : Rwx} (h : RowsO ob n rows L) (hk : k < rows.length) (hn : n ≤ n') (hr : RowO ob' n' r' R') (hf : ∀ id ∈ (rows.take k ++ rows.drop (k + 1)).flatMap ids, ob' id = ob id) : RowsO ob' n' (rows.set k r') (L.set k R') := by
  have hl := h.len
  rw [List.set_eq_take_append_cons_drop, if_pos hk, List.set_eq_take_append_cons_drop, if_pos (by omega)]
  have h1 := (h.split k).1
  have h2 := (h.split (k + 1)).2
  refine (h1.fr hn fun id hid => hf id ?_).app ⟨hr, h2.fr hn fun id hid => hf id ?_⟩
  · rw [List.flatMap_append]; exact List.mem_append_left _ hid
  · rw [List.flatMap_append]; exact List.mem_append_right _ hid
def atRow (l1 : List Rwx) (k : Nat) (x : Opz) (env : Env) (ob : OB) (n : Nat) : Prop :=
  env 3 = .pt 0 0 0 ∧ env 5 = .pt 1 0 0 ∧ ob 1 = some ⟨12, [opZ x], none⟩ ∧ env 11 = vi k ∧ ∃ (N : Nat) (rows : List (List V)) (cap : Option Nat), env 6 = .sl N 0 l1.length ∧ N < n ∧ ob N = some ⟨3, rows, cap⟩ ∧ RowsO ob n rows l1 ∧ (∀ id, V.sl id 0 0 ∉ gN rows k) ∧ (∀ id ∈ ids (gN rows k), id ∉ (rows.take k ++ rows.drop (k + 1)).flatMap ids)
set_option maxHeartbeats 4000000 in
theorem Apply_ok {fl : Fl} (cols : List Int) (l : List Rwx) (x : Opz) (hl : l.length + 1 ≤ maxLen) (hs : ∀ r ∈ l, ShortR r) (hds : ∀ r ∈ l, r.dots.length + 1 ≤ maxLen) (hv : x.vals.length ≤ maxLen) (hd : x.dots.length ≤ maxLen) :
    FnB Tryz.prog 12 [.ag (tbV cols), rws fl l, .ag (opZ x)] (.tp [rws .o (applyT cols l x).1, vals .b (applyT cols l x).2.1, vals .b (applyT cols l x).2.2.1, vi (applyT cols l x).2.2.2]) := by
  refine fnB_intro cf12 (by simp) ?_
  simp +contextual (maxSteps := 1000000) only [go_sem, ints, intRows, reduceAdd, Nat.reduceBEq, reduceEqDiff, reduceLeDiff, Nat.reduceLT, reduceIte, reduceLE, Int.reduceLT, reduceEq, reduceNeg, reduceToNat, ops, vals, dots, c12, rws]
  first | refine caS_i (tCheck_ok (fl := resFl fl) cols l (by omega) hs) trivial ?_ | refine caD_i (tCheck_ok (fl := resFl fl) cols l (by omega) hs) trivial ?_ | refine gC_i (fun _ => tCheck_ok (fl := resFl fl) cols l (by omega) hs) trivial ?_ | refine gCD_i (fun _ => tCheck_ok (fl := resFl fl) cols l (by omega) hs) trivial ?_ | refine caE_i (tCheck_ok (fl := resFl fl) cols l (by omega) hs) trivial ?_
  simp +contextual (maxSteps := 1000000) only [go_sem, ints, intRows, reduceAdd, Nat.reduceBEq, reduceEqDiff, reduceLeDiff, Nat.reduceLT, reduceIte, reduceLE, Int.reduceLT, reduceEq, reduceNeg, reduceToNat, ops, vals, dots, rws]
  refine ⟨fun hb => ?_, fun hb => ?_⟩
  · have he : applyT cols l x = ([], [], [], checkT cols l) := by rw [applyT, if_pos (by simpa using hb)]
    rw [he]; rfl
  have hck : checkT cols l = 0 := by simpa using hb
  first | refine caS_i (opCheck_ok cols (tab0 x) hv hd) trivial ?_ | refine caD_i (opCheck_ok cols (tab0 x) hv hd) trivial ?_ | refine gC_i (fun _ => opCheck_ok cols (tab0 x) hv hd) trivial ?_ | refine gCD_i (fun _ => opCheck_ok cols (tab0 x) hv hd) trivial ?_ | refine caE_i (opCheck_ok cols (tab0 x) hv hd) trivial ?_
  simp +contextual (maxSteps := 1000000) only [go_sem, ints, intRows, reduceAdd, Nat.reduceBEq, reduceEqDiff, reduceLeDiff, Nat.reduceLT, reduceIte, reduceLE, Int.reduceLT, reduceEq, reduceNeg, reduceToNat, ops, vals, dots, rws]
  refine ⟨fun hb => ?_, fun hb => ?_⟩
  · have he : applyT cols l x = ([], [], [], 1) := by rw [applyT, if_neg (by simpa using hck), if_pos (by simpa using hb)]
    rw [he]; rfl
  have hop : opE cols (tab0 x) = 0 := by simpa using hb
  have ha : applyT cols l x = ((withK cols l x.key).set (posK l x.key) (chgT (gN (withK cols l x.key) (posK l x.key)) x), seeT (gN (withK cols l x.key) (posK l x.key)), seeT (chgT (gN (withK cols l x.key) (posK l x.key)) x), 0) := by rw [applyT, if_neg (by simpa using hck), if_neg (by simpa using hop)]
  rw [ha]
  obtain ⟨hgc, hcl⟩ := goodC hck hop hds
  obtain ⟨hf, hrb⟩ := chk_0 hck
  obtain ⟨f1, f2, _⟩ := form_0 hf
  refine rcS_i (tTwin_ok (by omega) hs fun v1 ob1 n1 rows1 hn1 hO1 hst1 hnd1 hlo1 hv1 hvl1 hfr1 => ?_)
  have hb0 : ob1 0 = some ⟨1, [tbV cols], none⟩ := by rw [hfr1 0 (by omega)]; rfl
  have hb1 : ob1 1 = some ⟨12, [opZ x], none⟩ := by rw [hfr1 1 (by omega)]; rfl
  obtain ⟨F, hF1, hF2⟩ := rows_res hO1
  have hFl : F.length = l.length := by rw [← hF1, List.length_map]
  have hFk : ∀ i, i < F.length → (gN F i).r = gN l i := fun i hi => by
    have : gN (F.map (·.r)) i = (gN F i).r := by rw [gN_eq (by simpa using hi), gN_eq hi]; simp
    rw [← this, hF1]
  obtain ⟨bF, hbF⟩ := own_res3 hv1.e hF2
  simp +contextual (maxSteps := 1000000) only [go_sem, ints, intRows, reduceAdd, Nat.reduceBEq, reduceEqDiff, reduceLeDiff, Nat.reduceLT, reduceIte, reduceLE, Int.reduceLT, reduceEq, reduceNeg, reduceToNat, ops, vals, dots, hb0, hb1]
  rw [hbF 2]
  refine cut_ca (atRow (withK cols l x.key) (posK l x.key) x) ?_ ?_
  · first | refine caS_i (BinRwfs_ok F x.key 39 (fun i => cmpB (gN l i).key x.key) (posK l x.key) (by omega) (fun i hi => by have := app1_ok (gN F i) x.key; rw [hFk i hi] at this; exact this) (by rw [hFl]; exact posK_le _ _) (fun i h => posK_lt h) (fun i a b => keys_up hrb a (by omega))) trivial ?_ | refine caD_i (BinRwfs_ok F x.key 39 (fun i => cmpB (gN l i).key x.key) (posK l x.key) (by omega) (fun i hi => by have := app1_ok (gN F i) x.key; rw [hFk i hi] at this; exact this) (by rw [hFl]; exact posK_le _ _) (fun i h => posK_lt h) (fun i a b => keys_up hrb a (by omega))) trivial ?_ | refine gC_i (fun _ => BinRwfs_ok F x.key 39 (fun i => cmpB (gN l i).key x.key) (posK l x.key) (by omega) (fun i hi => by have := app1_ok (gN F i) x.key; rw [hFk i hi] at this; exact this) (by rw [hFl]; exact posK_le _ _) (fun i h => posK_lt h) (fun i a b => keys_up hrb a (by omega))) trivial ?_ | refine gCD_i (fun _ => BinRwfs_ok F x.key 39 (fun i => cmpB (gN l i).key x.key) (posK l x.key) (by omega) (fun i hi => by have := app1_ok (gN F i) x.key; rw [hFk i hi] at this; exact this) (by rw [hFl]; exact posK_le _ _) (fun i h => posK_lt h) (fun i a b => keys_up hrb a (by omega))) trivial ?_ | refine caE_i (BinRwfs_ok F x.key 39 (fun i => cmpB (gN l i).key x.key) (posK l x.key) (by omega) (fun i hi => by have := app1_ok (gN F i) x.key; rw [hFk i hi] at this; exact this) (by rw [hFl]; exact posK_le _ _) (fun i h => posK_lt h) (fun i a b => keys_up hrb a (by omega))) trivial ?_
    simp +contextual (maxSteps := 1000000) only [go_sem, ints, intRows, reduceAdd, Nat.reduceBEq, reduceEqDiff, reduceLeDiff, Nat.reduceLT, reduceIte, reduceLE, Int.reduceLT, reduceEq, reduceNeg, reduceToNat, ops, vals, dots, hb0, hb1]
    rw [hFl]
    refine ⟨fun his => ?_, fun his => ?_⟩
    · have hi : isK l x.key = false := his
      refine ⟨by simp [maxLen]; omega, ?_⟩
      generalize hM2 : n1 + 1 + 1 + 1 + 1 + 1 + 1 + 1 + 1 + 1 + 1 + 1 + 1 + 1 + 1 + 1 + 1 + 1 + 1 + 1 + 1 + 1 = M2
      rcases withK_at cols l x.key with ⟨h1, _⟩ | ⟨_, h2, h3⟩
      · rw [hi] at h1; cases h1
      have hrl := hO1.len
      have hkl := posK_le l x.key
      obtain ⟨R3, hR3⟩ := hO1.ok3
      have hR3l : R3.length = l.length := by rw [← hrl, ← hR3, List.length_map]
      generalize hM1 : n1 + 1 + 1 + 1 + 1 + 1 + 1 + 1 + 1 + 1 + 1 + 1 + 1 + 1 + 1 + 1 + 1 + 1 + 1 + 1 = M1
      have hX : ∀ (a b : Option Ob) j, j < n1 → updO (updO ob1 M1 a) M2 b j = ob1 j := fun a b j hj => by rw [updO, if_neg (by omega), updO, if_neg (by omega)]
      have hXM : ∀ (a b : Option Ob), updO (updO ob1 M1 a) M2 b M1 = a := fun a b => by rw [updO, if_neg (by omega), updO_s]
      have hr3 : okRow 3 [V.c (.string x.key), .z, .sl M1 0 cols.length] = true := rfl
      rw [← hR3] at hv1
      refine rcS_i (InsertRows_ok (l := R3) (i := posK l x.key) (x := ⟨_, hr3⟩) (n := n1) (capv := none) (by omega) (by omega) ((hv1.upd (by omega)).upd (by omega)) (by omega) (updO_s _ _ _) (by omega) (fun len => hv1.e.lt (by omega)) fun v2 ob2 n2 hn2 ho2 hfr2 => ?_)
      have hob : ∀ id ∈ rows1.flatMap ids, ob2 id = ob1 id ∧ id < n1 := fun id hid => by
        obtain ⟨a, q, r, c, b, d⟩ := hO1.lt id hid
        exact ⟨by rw [hfr2 id (by omega) (fun len => hv1.e.ne b (by omega)), hX _ _ id a], a⟩
      have h1 : ob2 1 = some ⟨12, [opZ x], none⟩ := by rw [hfr2 1 (by omega) (fun len => hv1.e.ne hb1 (by omega)), hX _ _ 1 (by omega), hb1]
      have hM : ob2 M1 = some ⟨8, (List.replicate cols.length zCel).map celV, none⟩ := by
        rw [hfr2 M1 (by omega) (fun len => hv1.e.lt (by omega)), hXM, List.map_replicate]; rfl
      have hrr : (R3.take (posK l x.key) ++ (⟨_, hr3⟩ : Rw 3) :: R3.drop (posK l x.key)).map rw3V = rows1.take (posK l x.key) ++ [V.c (.string x.key), .z, .sl M1 0 cols.length] :: rows1.drop (posK l x.key) := by
        rw [List.map_append, List.map_cons, List.map_take, List.map_drop, hR3]; rfl
      rw [hrr] at ho2
      have hkr : posK l x.key ≤ rows1.length := by omega
      have hgk : gN (rows1.take (posK l x.key) ++ [V.c (.string x.key), .z, .sl M1 0 cols.length] :: rows1.drop (posK l x.key)) (posK l x.key) = [V.c (.string x.key), .z, .sl M1 0 cols.length] := by
        rw [gN_eq (by simp; omega), List.getElem_append_right (by simp; omega)]
        simp [Nat.min_eq_left hkr]
      rcases ho2 with ⟨h0, _⟩ | ⟨hne, N, cap, hN1, hv, hoN⟩
      · simp at h0
      simp +contextual (maxSteps := 1000000) only [go_sem, ints, intRows, reduceAdd, Nat.reduceBEq, reduceEqDiff, reduceLeDiff, Nat.reduceLT, reduceIte, reduceLE, Int.reduceLT, reduceEq, reduceNeg, reduceToNat, ops, vals, dots]
      refine ⟨rfl, rfl, h1, rfl, N, _, cap, (show v2 = _ from ?_), by omega, hoN, ?_, ?_, ?_⟩
      · rw [hv, h2]; congr 1; simp; omega
      · rw [h2]
        have s1 := (hO1.split (posK l x.key)).1
        have s2 := (hO1.split (posK l x.key)).2
        refine (s1.fr (by omega) fun id hid => (hob id ?_).1).app ⟨⟨.z, .sl M1 0 cols.length, rfl, .inl ⟨rfl, rfl⟩, .inr ⟨M1, none, by omega, by simp, hM⟩⟩, s2.fr (by omega) fun id hid => (hob id ?_).1⟩
        · obtain ⟨r, a, b⟩ := List.mem_flatMap.1 hid; exact List.mem_flatMap.2 ⟨r, List.mem_of_mem_take a, b⟩
        · obtain ⟨r, a, b⟩ := List.mem_flatMap.1 hid; exact List.mem_flatMap.2 ⟨r, List.mem_of_mem_drop a, b⟩
      · rw [hgk]
        intro id hid
        simp at hid
        omega
      · rw [hgk]
        intro id hid hin
        have hidM : id = M1 := by simpa [ids, vid] using hid
        have hin2 : id ∈ rows1.flatMap ids := by
          obtain ⟨r, a, b⟩ := List.mem_flatMap.1 hin
          refine List.mem_flatMap.2 ⟨r, ?_, b⟩
          rcases List.mem_append.1 a with a | a
          · rw [List.take_append_of_le_length (by simp; omega), List.take_take] at a; exact List.mem_of_mem_take a
          · rw [List.drop_append, List.drop_eq_nil_of_le (by simp; omega), List.nil_append] at a
            have e : posK l x.key + 1 - (rows1.take (posK l x.key)).length = 1 := by simp; omega
            rw [e] at a
            exact List.mem_of_mem_drop (by simpa using a)
        have := (hob id hin2).2
        omega
    · have hi : isK l x.key = true := by unfold isK; simpa using his
      rcases withK_at cols l x.key with ⟨h1, h2⟩ | ⟨h1, _⟩
      rotate_left
      · rw [hi] at h1; cases h1
      rw [h2]
      have hkl : posK l x.key < l.length := by have := withK_lt cols l x.key; rw [h2] at this; exact this
      have hrl := hO1.len
      rcases hv1 with ⟨h0, _⟩ | ⟨hne, N, cap, hN1, hv, hoN⟩
      · rw [h0] at hrl; simp at hrl; omega
      refine ⟨rfl, rfl, hb1, rfl, N, rows1, cap, (show v1 = _ from by rw [hv, hrl]), by omega, hoN, hO1.fr (by omega) fun _ _ => rfl, hst1 _ (gN_mem (by omega)), nodup_mid hnd1 (by omega)⟩
  · rintro env ob n ⟨e3, e5, ho1, e11, N, rows, cap, e6, hNn, hoN, hO, hst, hdj⟩
    have hrl := hO.len
    have hkl := withK_lt cols l x.key
    have hrk : rows[posK l x.key]? = some (gN rows (posK l x.key)) := by rw [gN_eq (by omega), List.getElem?_eq_getElem]
    have hRO := hO.at (posK l x.key) (by omega)
    obtain ⟨G, hG1, hG2⟩ := row_res hRO
    have hrow3 : (gN rows (posK l x.key)).length = 3 := by obtain ⟨_, _, e, _⟩ := hRO; rw [e]; rfl
    have ht3 : (gN rows (posK l x.key)).take 3 = gN rows (posK l x.key) := List.take_of_length_le (by omega)
    generalize withK cols l x.key = l1 at *
    generalize posK l x.key = k at *
    simp +contextual (maxSteps := 1000000) only [go_sem, ints, intRows, reduceAdd, Nat.reduceBEq, reduceEqDiff, reduceLeDiff, Nat.reduceLT, reduceIte, reduceLE, Int.reduceLT, reduceEq, reduceNeg, reduceToNat, ops, vals, dots, e3, e5, e6, e11, hoN, hrk, hrow3, ht3, Nat.add_zero, Nat.zero_add]
    repeat (refine And.intro (by omega) ?_)
    rw [hG2 2]
    first | refine caS_i (see_ok G (by rw [hG1, hcl]; simp [maxLen]; omega)) trivial ?_ | refine caD_i (see_ok G (by rw [hG1, hcl]; simp [maxLen]; omega)) trivial ?_ | refine gC_i (fun _ => see_ok G (by rw [hG1, hcl]; simp [maxLen]; omega)) trivial ?_ | refine gCD_i (fun _ => see_ok G (by rw [hG1, hcl]; simp [maxLen]; omega)) trivial ?_ | refine caE_i (see_ok G (by rw [hG1, hcl]; simp [maxLen]; omega)) trivial ?_
    rw [hG1]
    simp +contextual (maxSteps := 1000000) only [go_sem, ints, intRows, reduceAdd, Nat.reduceBEq, reduceEqDiff, reduceLeDiff, Nat.reduceLT, reduceIte, reduceLE, Int.reduceLT, reduceEq, reduceNeg, reduceToNat, ops, vals, dots, e3, e5, e6, e11, hoN, ho1, Nat.add_zero, Nat.zero_add]
    repeat (refine And.intro (by omega) ?_)
    have hid1 : ∀ id ∈ ids (gN rows k), id ≠ 1 ∧ id ≠ N ∧ id < n := fun id hid => by
      have hm : id ∈ rows.flatMap ids := List.mem_flatMap.2 ⟨_, gN_mem (by omega), hid⟩
      obtain ⟨a, q, r, c, b, d⟩ := hO.lt id hm
      refine ⟨fun e => ?_, fun e => ?_, a⟩
      · rw [e, ho1] at b; injection b with b; injection b with b; omega
      · rw [e, hoN] at b; injection b with b; injection b with b; omega
    refine rcS_i (change_ok hoN hrk hRO hst (by omega) (by omega) hgc fun r' ob2 n2 hn2 hR2 hN2 hfr2 => ?_)
    have hO2 : RowsO ob2 n2 (rows.set k r') (l1.set k (chgT (gN l1 k) x)) := hO.set (by omega) (by omega) hR2 fun id hid => by
      have hm : id ∈ rows.flatMap ids := by
        rw [List.flatMap_append] at hid
        rcases List.mem_append.1 hid with h | h
        · obtain ⟨r, h1, h2⟩ := List.mem_flatMap.1 h; exact List.mem_flatMap.2 ⟨r, List.mem_of_mem_take h1, h2⟩
        · obtain ⟨r, h1, h2⟩ := List.mem_flatMap.1 h; exact List.mem_flatMap.2 ⟨r, List.mem_of_mem_drop h1, h2⟩
      obtain ⟨a, q, r, c, b, d⟩ := hO.lt id hm
      refine hfr2 id (by omega) (fun e => ?_) fun hin => hdj id hin hid
      rw [e, hoN] at b; injection b with b; injection b with b; omega
    have hrk2 : (rows.set k r')[k]? = some r' := by rw [List.getElem?_set, if_pos rfl, if_pos (by omega)]
    obtain ⟨G2, hG21, hG22⟩ := row_res hR2
    have hrow32 : r'.length = 3 := by obtain ⟨_, _, e, _⟩ := hR2; rw [e]; rfl
    have ht32 : r'.take 3 = r' := List.take_of_length_le (by omega)
    have hcl2 : (chgT (gN l1 k) x).cells.length = cols.length := by
      unfold chgT; split
      · simp [wrs_len, hcl]
      · split
        · simp [hcl]
        · split <;> exact hcl
    simp +contextual (maxSteps := 1000000) only [go_sem, ints, intRows, reduceAdd, Nat.reduceBEq, reduceEqDiff, reduceLeDiff, Nat.reduceLT, reduceIte, reduceLE, Int.reduceLT, reduceEq, reduceNeg, reduceToNat, ops, vals, dots, e3, e5, e6, e11, hN2, hrk2, hrow32, ht32, Nat.add_zero, Nat.zero_add]
    repeat (refine And.intro (by omega) ?_)
    rw [hG22 2]
    first | refine caS_i (see_ok G2 (by rw [hG21, hcl2]; simp [maxLen]; omega)) trivial ?_ | refine caD_i (see_ok G2 (by rw [hG21, hcl2]; simp [maxLen]; omega)) trivial ?_ | refine gC_i (fun _ => see_ok G2 (by rw [hG21, hcl2]; simp [maxLen]; omega)) trivial ?_ | refine gCD_i (fun _ => see_ok G2 (by rw [hG21, hcl2]; simp [maxLen]; omega)) trivial ?_ | refine caE_i (see_ok G2 (by rw [hG21, hcl2]; simp [maxLen]; omega)) trivial ?_
    rw [hG21]
    simp +contextual (maxSteps := 1000000) only [go_sem, ints, intRows, reduceAdd, Nat.reduceBEq, reduceEqDiff, reduceLeDiff, Nat.reduceLT, reduceIte, reduceLE, Int.reduceLT, reduceEq, reduceNeg, reduceToNat, ops, vals, dots, e3, e5, e6, e11, hN2]
    have hl2 : (rows.set k r').length = l1.length := by rw [List.length_set, hrl]
    have hro : rowsOf ob2 (.sl N 0 l1.length) = some (rows.set k r') := by
      simp only [rowsOf, hN2, Option.bind_some]
      rw [if_pos (by omega), List.drop_zero, List.take_of_length_le (by omega)]
    simp only [outL, hro]
    rw [if_neg (by omega), rows_g hN2 3 hO2]
    have gv : ∀ v : List Vl, gV (kill ob2 N) 6 (.im .b (v.map vlV)) = .im .b (v.map vlV) := fun v => g_vals1 _ 4 v
    simp only [List.map_cons, List.map_nil, gv]
    rfl
end Go.Proofs.YtbojpedklnmidaaGreat.D
end
section
set_option linter.unusedVariables false
set_option linter.unusedSimpArgs false
set_option linter.constructorNameAsVariable false
set_option maxRecDepth 100000

/- A table by operations is right: plain law. No condition. -/
namespace Go.Proofs.YtbojpedklnmidaaGreat.D
open Go Go.Proofs
open Nat (reduceAdd reduceEqDiff reduceLeDiff)
open Int (reduceLE reduceEq reduceNeg reduceToNat)
theorem gN_mem_iff {α : Type} [Inhabited α] {l : List α} {a : α} : a ∈ l ↔ ∃ i, i < l.length ∧ gN l i = a := by
  constructor
  · intro h
    obtain ⟨i, hi, rfl⟩ := List.mem_iff_getElem.1 h
    exact ⟨i, hi, gN_eq hi⟩
  · rintro ⟨i, hi, rfl⟩; exact gN_mem hi
theorem adj_pw {α : Type} [Inhabited α] {lt : α → α → Bool} (ht : ∀ a b c, lt a b = true → lt b c = true → lt a c = true) {l : List α} : (∀ i, i < l.length → 0 < i → lt (gN l (i - 1)) (gN l i) = true) ↔ l.Pairwise (fun a b => lt a b = true) := by
  rw [List.pairwise_iff_getElem]
  constructor
  · intro h i j hi hj hij
    have key : ∀ k, i + k + 1 < l.length → lt (gN l i) (gN l (i + k + 1)) = true := by
      intro k
      induction k with
      | zero => intro hk; have := h (i + 1) hk (by omega); simpa using this
      | succ k ih =>
        intro hk
        have h1 := ih (by omega)
        have h2 := h (i + (k + 1) + 1) hk (by omega)
        have e : i + (k + 1) + 1 - 1 = i + k + 1 := by omega
        rw [e] at h2
        exact ht _ _ _ h1 h2
    have := key (j - i - 1) (by omega)
    have e : i + (j - i - 1) + 1 = j := by omega
    rw [e, gN_eq hi, gN_eq hj] at this
    exact this
  · intro h i hi h0
    rw [gN_eq hi, gN_eq (by omega)]
    exact h (i - 1) i (by omega) hi (by omega)
theorem lessD_trans {a b c : Dt} (h1 : lessD a b = true) (h2 : lessD b c = true) : lessD a c = true := by
  unfold lessD at *; simp at *; omega
theorem dotsB_iff {l : List Dt} : dotsB l = true ↔ (∀ d ∈ l, nameB d = true) ∧ l.Pairwise (fun a b => lessD a b = true) := by
  rw [← adj_pw (lt := lessD) (fun a b c h1 h2 => lessD_trans h1 h2)]
  unfold dotsB
  rw [decide_eq_true_eq]
  constructor
  · intro h
    refine ⟨fun d hd => ?_, fun i hi h0 => (h i hi).2 h0⟩
    obtain ⟨i, hi, rfl⟩ := gN_mem_iff.1 hd
    exact (h i hi).1
  · rintro ⟨h1, h2⟩ i hi
    exact ⟨h1 _ (gN_mem hi), h2 i hi⟩
theorem rowsB_iff {cols : List Int} {l : List Rwx} : rowsB cols l = true ↔ (∀ r ∈ l, Right cols r) ∧ l.Pairwise (fun a b => keyLt a.key b.key = true) := by
  rw [← adj_pw (lt := fun a b : Rwx => keyLt a.key b.key) (fun a b c h1 h2 => keyLt_trans h1 h2)]
  unfold rowsB
  rw [decide_eq_true_eq]
  constructor
  · intro h
    refine ⟨fun d hd => ?_, fun i hi h0 => (h i hi).2 h0⟩
    obtain ⟨i, hi, rfl⟩ := gN_mem_iff.1 hd
    exact right_iff.1 (h i hi).1
  · rintro ⟨h1, h2⟩ i hi
    exact ⟨right_iff.2 (h1 _ (gN_mem hi)), h2 i hi⟩
theorem tw_take {α : Type} (p : α → Bool) (l : List α) : l.take (l.takeWhile p).length = l.takeWhile p := by
  conv => lhs; rw [← List.takeWhile_append_dropWhile (p := p) (l := l)]
  rw [List.takeWhile_append_dropWhile]
  have := List.takeWhile_append_dropWhile (p := p) (l := l)
  conv => lhs; arg 2; rw [← this]
  rw [List.take_left]
theorem cmpI_r' (a b : Int) : cmpI a b = -1 ∧ a < b ∨ cmpI a b = 0 ∧ a = b ∨ cmpI a b = 1 ∧ b < a := by unfold cmpI; omega
theorem cmpD_r (a b : Dt) : (cmpD a b = -1 ∧ lessD a b = true) ∨ (cmpD a b = 0 ∧ a = b) ∨ (cmpD a b = 1 ∧ lessD b a = true) := by
  obtain ⟨ap, an⟩ := a; obtain ⟨bp, bn⟩ := b
  unfold cmpD lessD
  rcases cmpI_r' ap bp with ⟨e1, h1⟩ | ⟨e1, h1⟩ | ⟨e1, h1⟩ <;> rcases cmpI_r' an bn with ⟨e2, h2⟩ | ⟨e2, h2⟩ | ⟨e2, h2⟩ <;> simp [orV, e1, e2] <;> omega
theorem keyLt_asym {a b : ByteArray} (h : keyLt a b = true) : keyLt b a = false := by
  cases h2 : keyLt b a with
  | false => rfl
  | true => have := keyLt_trans h h2; rw [keyLt_irr] at this; cases this
theorem insD_spec {ds : List Dt} {d : Dt} (h : ds.Pairwise (fun a b => lessD a b = true)) : (insD ds d).Pairwise (fun a b => lessD a b = true) ∧ ∀ e, e ∈ insD ds d ↔ e = d ∨ e ∈ ds := by
  have hA : ∀ a ∈ ds.take (posD ds d), lessD a d = true := fun a ha => by
    unfold posD at ha
    rw [tw_take] at ha
    have := tw_all _ ha
    have : cmpD a d < 0 := by simpa using this
    rcases cmpD_r a d with ⟨e, h⟩ | ⟨e, h⟩ | ⟨e, h⟩ <;> first | exact h | omega
  unfold insD
  split
  · rename_i hf
    have hin : d ∈ ds := by
      rcases cmpD_r (gN ds (posD ds d)) d with ⟨e, _⟩ | ⟨_, e⟩ | ⟨e, _⟩
      · omega
      · rw [← e]; exact gN_mem hf.1
      · omega
    exact ⟨h, fun e => ⟨.inr, fun h => h.elim (fun e => e ▸ hin) id⟩⟩
  · rename_i hf
    have hB : ∀ b ∈ ds.drop (posD ds d), lessD d b = true := fun b hb => by
      have hne : ¬ (posD ds d < ds.length ∧ cmpD (gN ds (posD ds d)) d = 0) := hf
      obtain ⟨i, hi, rfl⟩ := List.mem_iff_getElem.1 hb
      rw [List.getElem_drop]
      have hlt : posD ds d + i < ds.length := by simpa [Nat.lt_sub_iff_add_lt'] using hi
      have h0 : 0 ≤ cmpD (gN ds (posD ds d)) d := by
        have := tw_stop (p := fun a => decide (cmpD a d < 0)) (l := ds) (by show posD ds d < ds.length; omega)
        have h2 : decide (cmpD (gN ds (posD ds d)) d < 0) = false := this
        simpa using h2
      have h1 : lessD d (gN ds (posD ds d)) = true := by
        rcases cmpD_r (gN ds (posD ds d)) d with ⟨e, _⟩ | ⟨e, _⟩ | ⟨_, e⟩
        · omega
        · exact absurd ⟨by omega, e⟩ hne
        · exact e
      by_cases hi0 : i = 0
      · subst hi0; rw [gN_eq (by omega)] at h1; exact h1
      · refine lessD_trans h1 ?_
        rw [gN_eq (by omega)]
        exact List.pairwise_iff_getElem.1 h _ _ (by omega) hlt (by omega)
    refine ⟨?_, fun e => ?_⟩
    · rw [List.pairwise_append, List.pairwise_cons]
      refine ⟨h.sublist (List.take_sublist _ _), ⟨hB, h.sublist (List.drop_sublist _ _)⟩, fun a ha b hb => ?_⟩
      rcases List.mem_cons.1 hb with rfl | hb
      · exact hA a ha
      · exact lessD_trans (hA a ha) (hB b hb)
    · rw [List.mem_append, List.mem_cons]
      conv => rhs; rhs; rw [← List.take_append_drop (posD ds d) ds, List.mem_append]
      constructor
      · rintro (h | h | h)
        · exact .inr (.inl h)
        · exact .inl h
        · exact .inr (.inr h)
      · rintro (h | h | h)
        · exact .inr (.inl h)
        · exact .inl h
        · exact .inr (.inr h)
theorem zCel_writ : writ zCel = false := rfl
theorem zCel_ok (t : Int) : cellB zCel t = true := by unfold cellB; rw [zCel_writ]; simp [isZ]
theorem new_right {cols : List Int} {key : ByteArray} (h : keyB key = true) : Right cols ⟨key, [], List.replicate cols.length zCel⟩ := by
  refine ⟨h, rfl, ?_, .inl rfl⟩
  unfold allG
  rw [decide_eq_true_eq]
  refine ⟨by simp, fun i hi => ?_⟩
  have hi : i < cols.length := by simpa using hi
  rw [gN_eq (l := List.replicate cols.length zCel) (by simpa using hi)]
  simp [zCel_ok]
theorem withK_spec {cols : List Int} {l : List Rwx} {key : ByteArray} (h : rowsB cols l = true) (hk : keyB key = true) : rowsB cols (withK cols l key) = true ∧ (gN (withK cols l key) (posK l key)).key = key := by
  obtain ⟨h1, h2⟩ := rowsB_iff.1 h
  have hp := posK_le l key
  have hA : ∀ a ∈ l.take (posK l key), keyLt a.key key = true := fun a ha => by
    unfold posK at ha
    rw [tw_take] at ha
    have := tw_all _ ha
    have : cmpB a.key key < 0 := by simpa using this
    rcases cmpB_r a.key key with ⟨e, h⟩ | ⟨e, h⟩ | ⟨e, h⟩ <;> first | exact h | omega
  rcases withK_at cols l key with ⟨hi, e⟩ | ⟨hi, e, eg⟩
  · rw [e]
    refine ⟨h, ?_⟩
    unfold isK at hi
    simp only [Bool.and_eq_true, decide_eq_true_eq] at hi
    rcases cmpB_r (gN l (posK l key)).key key with ⟨e, _⟩ | ⟨_, e⟩ | ⟨e, _⟩
    · omega
    · exact e
    · omega
  · refine ⟨?_, by rw [eg]⟩
    rw [e]
    have hB : ∀ b ∈ l.drop (posK l key), keyLt key b.key = true := fun b hb => by
      obtain ⟨i, hil, rfl⟩ := List.mem_iff_getElem.1 hb
      rw [List.getElem_drop]
      have hlt : posK l key + i < l.length := by simpa [Nat.lt_sub_iff_add_lt'] using hil
      have h0 : 0 ≤ cmpB (gN l (posK l key)).key key := keys_up h (Nat.le_refl _) (by omega)
      have hne : ¬ cmpB (gN l (posK l key)).key key = 0 := fun e0 => by
        unfold isK at hi
        simp only [Bool.and_eq_false_iff, decide_eq_false_iff_not] at hi
        rcases hi with hi | hi
        · omega
        · exact hi e0
      have h1' : keyLt key (gN l (posK l key)).key = true := by
        rcases cmpB_r (gN l (posK l key)).key key with ⟨e, _⟩ | ⟨e, _⟩ | ⟨_, e⟩
        · omega
        · exact absurd e hne
        · exact e
      by_cases hi0 : i = 0
      · subst hi0; rw [gN_eq (by omega)] at h1'; exact h1'
      · refine keyLt_trans h1' ?_
        rw [gN_eq (by omega)]
        exact List.pairwise_iff_getElem.1 h2 _ _ (by omega) hlt (by omega)
    refine rowsB_iff.2 ⟨fun r hr => ?_, ?_⟩
    · rcases List.mem_append.1 hr with hr | hr
      · exact h1 r (List.mem_of_mem_take hr)
      · rcases List.mem_cons.1 hr with rfl | hr
        · exact new_right hk
        · exact h1 r (List.mem_of_mem_drop hr)
    · rw [List.pairwise_append, List.pairwise_cons]
      refine ⟨h2.sublist (List.take_sublist _ _), ⟨hB, h2.sublist (List.drop_sublist _ _)⟩, fun a ha b hb => ?_⟩
      rcases List.mem_cons.1 hb with rfl | hb
      · exact hA a ha
      · exact keyLt_trans (hA a ha) (hB b hb)
end Go.Proofs.YtbojpedklnmidaaGreat.D
end
section
set_option linter.unusedVariables false
set_option linter.unusedSimpArgs false
set_option linter.constructorNameAsVariable false
set_option maxRecDepth 100000

/- A row behind an operation is right: plain law. No condition. -/
namespace Go.Proofs.YtbojpedklnmidaaGreat.D
open Go Go.Proofs
open Nat (reduceAdd reduceEqDiff reduceLeDiff)
open Int (reduceLE reduceEq reduceNeg reduceToNat)
theorem whole_name {n : Nat} {x : Opz} (h : wholeB n x = true) (hn : n ≤ 5) : nameB x.dot = true ∧ okS x.st = true := by
  unfold wholeB at h
  simp only [Bool.and_eq_true, decide_eq_true_eq] at h
  refine ⟨?_, h.1.2⟩
  unfold nameB
  simp only [Bool.and_eq_true, decide_eq_true_eq]
  omega
theorem writ_name {d : Dt} {c : Cel} (h : nameB d = true) (hd : c.d = d) : writ c = true := by
  unfold nameB at h
  unfold writ
  rw [hd]
  simp only [Bool.and_eq_true, decide_eq_true_eq] at h
  simp; omega
theorem wr_writ {c : Cel} {v : Vl} {x : Opz} (hn : nameB x.dot = true) : writ (wrCel c v x) = true := by
  unfold wrCel
  split
  · exact writ_name hn rfl
  · rename_i h
    unfold wrB at h
    simp at h; exact h.1
theorem wr_cell {c : Cel} {v : Vl} {x : Opz} {t : Int} (hn : nameB x.dot = true) (hs : okS x.st = true) (hc : cellB c t = true) (hv : smallV v = true) (hf : fitsV v t = true) : cellB (wrCel c v x) t = true := by
  unfold wrCel
  split
  · unfold cellB
    rw [if_pos (writ_name hn rfl)]
    simp [hn, hv, hf, hs]
  · exact hc
theorem allG_at {α β : Type} [Inhabited α] [Inhabited β] {p : α → β → Bool} {a : List α} {b : List β} (h : allG p a b = true) : a.length = b.length ∧ ∀ i, i < a.length → p (gN a i) (gN b i) = true := by
  unfold allG at h; exact of_decide_eq_true h
theorem small_at {v : List Vl} {cols : List Int} (h : smallBs v cols = true) : v.length = cols.length ∧ ∀ i, i < v.length → fitsV (gN v i) (gN cols i) = true ∧ smallV (gN v i) = true := by
  unfold smallBs at h
  rw [Bool.and_eq_true] at h
  obtain ⟨h1, h2⟩ := h
  obtain ⟨h3, h4⟩ := allG_at h1
  refine ⟨h3, fun i hi => ⟨h4 i hi, ?_⟩⟩
  have : ∀ x ∈ v, smallV x = true := by simpa using h2
  exact this _ (gN_mem hi)
theorem all_gN {α : Type} [Inhabited α] {l : List α} {p : α → Prop} : (∀ a ∈ l, p a) ↔ ∀ i, i < l.length → p (gN l i) :=
  ⟨fun h i hi => h _ (gN_mem hi), fun h a ha => by obtain ⟨i, hi, rfl⟩ := gN_mem_iff.1 ha; exact h i hi⟩
theorem chg_right {cols : List Int} {r : Rwx} {x : Opz} {n : Nat} (hr : Right cols r) (ho : OpR_ n cols (tab0 x)) (hn : n ≤ 5) : Right cols (chgT r x) ∧ (chgT r x).key = r.key := by
  obtain ⟨h1, h2⟩ := whole_name ho.whole hn
  have h1 : nameB x.dot = true := h1
  have h2 : okS x.st = true := h2
  obtain ⟨d1, d2⟩ := dotsB_iff.1 hr.dots
  obtain ⟨c1, c2⟩ := allG_at hr.cells
  rcases ho.kind with ⟨k, k2, _⟩ | ⟨k, k2, k3, k4, _⟩ | ⟨k, _⟩
  · have k : x.kind = 1 := k
    have e : chgT r x = ⟨r.key, insD r.dots x.dot, wrs r.cells x.vals x⟩ := by rw [chgT, if_pos k]
    obtain ⟨s1, s2⟩ := small_at k2
    have s1 : x.vals.length = cols.length := s1
    rw [e]
    obtain ⟨i1, i2⟩ := insD_spec (d := x.dot) d2
    have at' : ∀ i, i < r.cells.length → gN (wrs r.cells x.vals x) i = wrCel (gN r.cells i) (gN x.vals i) x := fun i hi => by rw [wrs_at hi, if_pos (by omega)]
    refine ⟨⟨hr.key, dotsB_iff.2 ⟨fun d hd => ?_, i1⟩, ?_, .inr ?_⟩, rfl⟩
    · rcases (i2 d).1 hd with rfl | h
      · exact h1
      · exact d1 d h
    · unfold allG
      rw [decide_eq_true_eq]
      refine ⟨by rw [wrs_len]; exact c1, fun i hi => ?_⟩
      rw [wrs_len] at hi
      rw [at' i hi]
      have := s2 i (by show i < x.vals.length; omega)
      exact wr_cell h1 h2 (c2 i hi) this.2 this.1
    · rw [all_gN]
      intro i hi
      rw [wrs_len] at hi
      rw [at' i hi]
      exact wr_writ h1
  · have k : x.kind = 2 := k
    have k2 : 0 ≤ x.col := k2
    have k3 : x.col < cols.length := k3
    have e : chgT r x = ⟨r.key, r.dots, r.cells.set x.col.toNat (wrCel (gN r.cells x.col.toNat) (gN x.vals 0) x)⟩ := by rw [chgT, if_neg (by omega), if_pos k]
    obtain ⟨s1, s2⟩ := small_at k4
    have hv := s2 0 (by rw [s1]; simp)
    have hv1 : fitsV (gN x.vals 0) (gN cols x.col.toNat) = true := hv.1
    have hv2 : smallV (gN x.vals 0) = true := hv.2
    have hcl : x.col.toNat < r.cells.length := by omega
    rw [e]
    refine ⟨⟨hr.key, hr.dots, ?_, ?_⟩, rfl⟩
    · unfold allG
      rw [decide_eq_true_eq]
      refine ⟨by simpa using c1, fun i hi => ?_⟩
      have hi : i < r.cells.length := by simpa using hi
      by_cases hic : i = x.col.toNat
      · rw [hic, gN_set hcl]
        exact wr_cell h1 h2 (c2 _ hcl) hv2 hv1
      · rw [gN_eq (by simpa using hi), List.getElem_set_ne (by omega), ← gN_eq hi]
        exact c2 i hi
    · rcases hr.there with h | h
      · exact .inl h
      · right
        rw [all_gN] at h ⊢
        intro i hi
        have hi : i < r.cells.length := by simpa using hi
        by_cases hic : i = x.col.toNat
        · rw [hic, gN_set hcl]; exact wr_writ h1
        · rw [gN_eq (by simpa using hi), List.getElem_set_ne (by omega), ← gN_eq hi]
          exact h i hi
  · have k : x.kind = 3 := k
    have e : chgT r x = ⟨r.key, r.dots.filter fun d => !inD x.dots d, r.cells⟩ := by rw [chgT, if_neg (by omega), if_neg (by omega), if_pos k]
    rw [e]
    refine ⟨⟨hr.key, dotsB_iff.2 ⟨fun d hd => d1 d ((List.mem_filter.1 hd).1), d2.filter _⟩, hr.cells, ?_⟩, rfl⟩
    rcases hr.there with h | h
    · left
      have : r.dots = [] := List.eq_nil_of_length_eq_zero h
      show (List.filter _ r.dots).length = 0
      rw [this]; rfl
    · exact .inr h
theorem rows_set {cols : List Int} {l : List Rwx} {k : Nat} {r : Rwx} (h : rowsB cols l = true) (hk : k < l.length) (hr : Right cols r) (hkey : r.key = (gN l k).key) : rowsB cols (l.set k r) = true := by
  obtain ⟨h1, h2⟩ := rowsB_iff.1 h
  refine rowsB_iff.2 ⟨fun a ha => ?_, ?_⟩
  · rcases List.mem_or_eq_of_mem_set ha with h | h
    · exact h1 a h
    · rw [h]; exact hr
  · rw [List.pairwise_iff_getElem] at h2 ⊢
    intro i j hi hj hij
    have hi' : i < l.length := by simpa using hi
    have hj' : j < l.length := by simpa using hj
    have := h2 i j hi' hj' hij
    have e : ∀ m (hm : m < (l.set k r).length) (hm' : m < l.length), (l.set k r)[m].key = l[m].key := fun m hm hm' => by
      rw [List.getElem_set]
      split
      · rename_i e; subst e; rw [hkey, gN_eq hm']
      · rfl
    rw [e i hi hi', e j hj hj']; exact this
theorem apply_e {cols : List Int} {l : List Rwx} {x : Opz} (h : checkT cols l = 0) (ho : opE cols (tab0 x) = 0) : applyT cols l x = ((withK cols l x.key).set (posK l x.key) (chgT (gN (withK cols l x.key) (posK l x.key)) x), seeT (gN (withK cols l x.key) (posK l x.key)), seeT (chgT (gN (withK cols l x.key) (posK l x.key)) x), 0) := by
  rw [applyT, if_neg (by simpa using h), if_neg (by simpa using ho)]
theorem apply_right {cols : List Int} {l : List Rwx} {x : Opz} (h : checkT cols l = 0) (ho : opE cols (tab0 x) = 0) : checkT cols (applyT cols l x).1 = 0 := by
  rw [apply_e h ho]
  obtain ⟨hf, hr⟩ := chk_0 h
  obtain ⟨_, o1, o2, o3⟩ := opE_0 ho
  have o := rightO_1 o3
  obtain ⟨w1, w2⟩ := withK_spec hr o.key
  have w1 : rowsB cols (withK cols l x.key) = true := w1
  have w2 : (gN (withK cols l x.key) (posK l x.key)).key = x.key := w2
  have hk := withK_lt cols l x.key
  have hR := right_iff.1 (rows_at w1 hk).1
  obtain ⟨c1, c2⟩ := chg_right hR o o2
  unfold checkT
  rw [if_neg (by simpa using hf), if_pos (rows_set w1 hk c1 c2)]
end Go.Proofs.YtbojpedklnmidaaGreat.D
end
section
set_option linter.unusedVariables false
set_option linter.unusedSimpArgs false
set_option linter.constructorNameAsVariable false
set_option maxRecDepth 100000

/- Inserts of one column. No condition. -/
namespace Go.Proofs.YtbojpedklnmidaaGreat.D
open Go Go.Proofs
open Nat (reduceAdd reduceEqDiff reduceLeDiff)
open Int (reduceLE reduceEq reduceNeg reduceToNat)
@[go_sem] theorem op_bslo_3 (z' a b c : V) (ob : OB) (i : Nat) (h : okRow 1 (cellsV a) = true) (k : okRow 1 (cellsV b) = true) (m : okRow 1 (cellsV c) = true) : opF (.bsl 1 [z'] [0, 1, 2] 3 false) [a, b, c] ob i = some (.sl i 0 3, [(i, some ⟨1, [cellsV a, cellsV b, cellsV c], none⟩)]) := by
  have := op_bsl_3 z' a b c ob i h k m
  simp only [opF] at this ⊢
  cases hf : fill ((List.replicate 3 [z']).flatten) ([0, 1, 2].map fun i => (i * 1, 1)) [a, b, c] with
  | none => rw [hf] at this; simp at this
  | some l =>
    rw [hf] at this
    simp only [Option.bind_some] at this ⊢
    split at this
    · rename_i hr
      rw [if_pos hr]
      simp at this ⊢
      exact this
    · cases this
@[reducible] def insZ (key : ByteArray) (p : Nat) (n t v : Int) : Opz := ⟨⟨⟨p, n⟩, [9, 9, 9].set p (n - 1), ⟨t, 0, p⟩, 1, 0, key, 0, [⟨3, v, noS⟩], []⟩, false⟩
theorem form3 : formE [3] = 0 := by unfold formE; simp
theorem small3 {v : Int} (h : -2147483648 ≤ v ∧ v ≤ 2147483648) : smallBs [⟨3, v, noS⟩] [3] = true := by
  have h1 : okVl ⟨3, v, noS⟩ = true := by unfold okVl; simp; omega
  have h2 : smallV ⟨3, v, noS⟩ = true := by unfold smallV; rw [h1]; simp; omega
  unfold smallBs allG
  simp [h2]
  unfold fitsV
  simp [gN, h1]
theorem opE_ins {x : Opz} {v : Int} (hd : 1 ≤ x.deps.length ∧ x.deps.length ≤ 5) (hw : wholeB x.deps.length x = true) (hk : keyB x.key = true) (h1 : x.kind = 1) (h2 : x.vals = [⟨3, v, noS⟩]) (hv : -2147483648 ≤ v ∧ v ≤ 2147483648) (h3 : x.col = 0) (h4 : x.dots = []) : opE [3] (tab0 x) = 0 := by
  have hr : rightO x.deps.length [3] (tab0 x) = true := by
    unfold rightO
    have hw' : wholeB x.deps.length (tab0 x) = true := hw
    have hk' : keyB (tab0 x).key = true := hk
    have e : (tab0 x).kind = 1 := h1
    rw [hw', hk', if_pos e]
    show (true && decide ((0 : Int) = 0) && true && (smallBs x.vals [3] && decide (x.col = 0) && decide (x.dots.length = 0))) = true
    rw [h2, small3 hv, h3, h4]; rfl
  unfold opE
  rw [if_neg (by rw [form3]; simp), if_neg]
  rintro (h | h | h)
  · have : ((tab0 x).deps.length : Int) = x.deps.length := rfl
    omega
  · have : ((tab0 x).deps.length : Int) = x.deps.length := rfl
    omega
  · have hr' : rightO ((tab0 x).deps.length : Int) [3] (tab0 x) = true := hr
    rw [hr'] at h; cases h
theorem cmpB_self (k : ByteArray) : cmpB k k = 0 := by
  rcases cmpB_r k k with ⟨_, h⟩ | ⟨e, _⟩ | ⟨_, h⟩
  · rw [keyLt_irr] at h; cases h
  · exact e
  · rw [keyLt_irr] at h; cases h
theorem chk_nil {cols : List Int} (h : formE cols = 0) : checkT cols [] = 0 := by
  unfold checkT; rw [if_neg (by simpa using h), if_pos]; rfl
end Go.Proofs.YtbojpedklnmidaaGreat.D
end
section
set_option linter.unusedVariables false
set_option linter.unusedSimpArgs false
set_option linter.constructorNameAsVariable false
set_option maxRecDepth 100000

/- One dead row. No condition. -/
namespace Go.Proofs.YtbojpedklnmidaaGreat.D
open Go Go.Proofs
open Nat (reduceAdd reduceEqDiff reduceLeDiff)
open Int (reduceLE reduceEq reduceNeg reduceToNat)
@[reducible] def kK : ByteArray := ⟨#[107]⟩
@[reducible] def wk1 : Opz := ⟨⟨⟨0, 1⟩, [0], ⟨0, 0, 0⟩, 1, 0, kK, 0, [⟨3, 3, noS⟩], []⟩, false⟩
@[reducible] def wk2 : Opz := ⟨⟨⟨0, 2⟩, [1], ⟨0, 0, 0⟩, 3, 0, kK, 0, [], [⟨0, 1⟩]⟩, false⟩
@[reducible] def wkc : Cel := ⟨⟨3, 3, noS⟩, ⟨0, 0, 0⟩, ⟨0, 1⟩⟩
theorem wk1_o : opE [3] (tab0 wk1) = 0 := opE_ins (x := wk1) (v := 3) (by simp) (by decide) (by decide) rfl rfl (by omega) rfl rfl
@[go_sem] theorem op_bsl_d2 (z : List V) (a b : Int) (ob : OB) (i : Nat) (hz : (z.length == 2) = true) : opF (.bsl 2 z [0] 1 true) [.ag [vi a, vi b]] ob i = some (.im .b [[vi a, vi b]], []) := op_bsl_r ob i (by simpa using hz) rfl
end Go.Proofs.YtbojpedklnmidaaGreat.D
end
section
set_option linter.unusedVariables false
set_option linter.unusedSimpArgs false
set_option linter.constructorNameAsVariable false
set_option maxRecDepth 100000

/- Inserts of one key: plain law. No condition. -/
namespace Go.Proofs.YtbojpedklnmidaaGreat.D
open Go Go.Proofs
open Nat (reduceAdd reduceEqDiff reduceLeDiff)
open Int (reduceLE reduceEq reduceNeg reduceToNat)
@[reducible] def insY (key : ByteArray) (p : Nat) (n t v : Int) : Opz := ⟨⟨⟨p, n⟩, [9, 9, 9].set p (n - 1), ⟨t, 0, p⟩, 1, 0, key, 0, [⟨3, v, noS⟩], []⟩, false⟩
theorem ins_op {key : ByteArray} {p : Nat} {n t v : Int} (hk : keyB key = true) (hp : p < 3) (hn : 1 ≤ n ∧ n ≤ 1073741824) (ht : 0 ≤ t ∧ t ≤ 1099511627776) (hv : -2147483648 ≤ v ∧ v ≤ 2147483648) : opE [3] (tab0 (insZ key p n t v)) = 0 := by
  refine opE_ins (x := insZ key p n t v) (v := v) (by simp) ?_ hk rfl rfl hv rfl rfl
  have hs : okS ⟨t, 0, p⟩ = true := by unfold okS; simp; omega
  have hvv : vecE ([9, 9, 9].set p (n - 1)) = 0 := by
    unfold vecE
    rw [if_pos (by simp), if_pos]
    intro a ha
    rcases List.mem_or_eq_of_mem_set ha with h | h
    · simp at h; omega
    · omega
  have hg : gN ([9, 9, 9].set p (n - 1) : List Int) p = n - 1 := gN_set (by simp; exact hp) _
  have e : wholeB (insZ key p n t v).deps.length (insZ key p n t v) = (decide (0 ≤ (p : Int)) && decide ((p : Int) < (([9, 9, 9].set p (n - 1) : List Int).length : Int)) && decide (1 ≤ n) && decide (n ≤ 1073741824) && decide ((([9, 9, 9].set p (n - 1) : List Int).length : Int) = (([9, 9, 9].set p (n - 1) : List Int).length : Int)) && decide (vecE ([9, 9, 9].set p (n - 1)) = 0) && decide (gN ([9, 9, 9].set p (n - 1) : List Int) (p : Int).toNat = n - 1) && okS ⟨t, 0, p⟩ && decide ((p : Int) = (p : Int))) := rfl
  rw [e, hs, hvv, Int.toNat_natCast, hg]
  simp; omega
@[reducible] def celI (p : Nat) (n t v : Int) : Cel := ⟨⟨3, v, noS⟩, ⟨t, 0, p⟩, ⟨p, n⟩⟩
def tA (u : Nat → Nat) (i : Nat) : Nat := u i * 20 + i
@[reducible] def dtT (i : Nat) : Dt := ⟨((i % 3 : Nat) : Int), ((i / 3 + 1 : Nat) : Int)⟩
@[reducible] def xT (u : Nat → Nat) (i : Nat) : Opz := insZ kK (i % 3) ((i / 3 + 1 : Nat) : Int) (tA u i : Nat) (i : Nat)
@[reducible] def cT (u : Nat → Nat) (i : Nat) : Cel := celI (i % 3) ((i / 3 + 1 : Nat) : Int) (tA u i : Nat) (i : Nat)
structure LatI (m T : Nat) (u : Nat → Nat) (i : Nat) (ds : List Dt) (c : Cel) : Prop where
  len : ds.length = i
  mem : ∀ e ∈ ds, ∃ j, j < i ∧ e = dtT ((j + T) % m)
  chk : checkT [3] [⟨kK, ds, [c]⟩] = 0
  cell : ∃ k, k < m ∧ c = cT u k ∧ ∀ j, j < i → tA u ((j + T) % m) ≤ tA u k
end Go.Proofs.YtbojpedklnmidaaGreat.D
end
section
set_option linter.unusedVariables false
set_option linter.unusedSimpArgs false
set_option linter.constructorNameAsVariable false
set_option maxRecDepth 100000

/- Rows by their keys: plain law. No condition. -/
namespace Go.Proofs.YtbojpedklnmidaaGreat.D
open Go Go.Proofs
open Nat (reduceAdd reduceEqDiff reduceLeDiff)
open Int (reduceLE reduceEq reduceNeg reduceToNat)
theorem toL_iff {a b : ByteArray} : a.toList = b.toList ↔ a = b := by
  constructor
  · intro h
    rw [ByteArray.toList_eq, ByteArray.toList_eq] at h
    cases a; cases b; simp at h; simp [h]
  · rintro rfl; rfl
theorem isK_true {l : List Rwx} {key : ByteArray} (h : isK l key = true) : posK l key < l.length ∧ (gN l (posK l key)).key = key := by
  unfold isK at h
  simp only [Bool.and_eq_true, decide_eq_true_eq] at h
  refine ⟨h.1, ?_⟩
  rcases cmpB_r (gN l (posK l key)).key key with ⟨e, _⟩ | ⟨_, e⟩ | ⟨e, _⟩
  · omega
  · exact e
  · omega
theorem keys_lt {cols : List Int} {l : List Rwx} (h : rowsB cols l = true) {i j : Nat} (hij : i < j) (hj : j < l.length) : keyLt (gN l i).key (gN l j).key = true := by
  have := List.pairwise_iff_getElem.1 (rowsB_iff.1 h).2 i j (by omega) hj hij
  rw [gN_eq (by omega), gN_eq hj]; exact this
theorem keys_inj {cols : List Int} {l : List Rwx} (h : rowsB cols l = true) {i j : Nat} (hi : i < l.length) (hj : j < l.length) (e : (gN l i).key = (gN l j).key) : i = j := by
  rcases Nat.lt_trichotomy i j with h1 | h1 | h1
  · have := keys_lt h h1 hj; rw [e, keyLt_irr] at this; cases this
  · exact h1
  · have := keys_lt h h1 hi; rw [e, keyLt_irr] at this; cases this
theorem posK_at {cols : List Int} {l : List Rwx} (h : rowsB cols l = true) {i : Nat} (hi : i < l.length) : posK l (gN l i).key = i ∧ isK l (gN l i).key = true := by
  have h0 : posK l (gN l i).key ≤ i := Nat.le_of_not_lt fun hc => by
    have := posK_lt hc; rw [cmpB_self] at this; omega
  have h1 : posK l (gN l i).key = i := by
    rcases Nat.lt_or_ge (posK l (gN l i).key) i with h2 | h2
    · have h3 := keys_lt h h2 hi
      have h4 := keys_up h (Nat.le_refl _) (show posK l (gN l i).key < l.length by omega)
      rcases cmpB_r (gN l (posK l (gN l i).key)).key (gN l i).key with ⟨e, _⟩ | ⟨_, e⟩ | ⟨_, e⟩
      · omega
      · rw [e, keyLt_irr] at h3; cases h3
      · rw [keyLt_asym h3] at e; cases e
    · omega
  refine ⟨h1, ?_⟩
  unfold isK
  rw [h1, cmpB_self]
  simp [hi]
theorem findT_k {cols : List Int} {l : List Rwx} (h : rowsB cols l = true) (key : ByteArray) : findT l key = if isK l key then (posK l key : Int) else -1 := by
  unfold findT
  split
  · rename_i hk
    obtain ⟨h1, h2⟩ := isK_true hk
    refine idxI_at h1 (fun r hr => ?_) (by simp [h2])
    obtain ⟨i, hi, rfl⟩ := gN_mem_iff.1 hr
    have hi' : i < posK l key := by simp at hi; omega
    have e : gN (l.take (posK l key)) i = gN l i := by
      rw [gN_eq hi, gN_eq (by omega)]; simp
    rw [e]
    simp only [decide_eq_false_iff_not, toL_iff]
    intro e2
    have := keys_inj h (by omega) h1 (e2.trans h2.symm)
    omega
  · rename_i hk
    refine idxI_no fun r hr => ?_
    obtain ⟨i, hi, rfl⟩ := gN_mem_iff.1 hr
    simp only [decide_eq_false_iff_not, toL_iff]
    rintro rfl
    exact hk (posK_at h hi).2
theorem withK_len (cols : List Int) {l : List Rwx} {key : ByteArray} : (withK cols l key).length = l.length + if isK l key then 0 else 1 := by
  have := posK_le l key
  unfold withK
  split
  · rfl
  · simp; omega
theorem withK_old {cols : List Int} {l : List Rwx} {key : ByteArray} {k : Nat} (hk : k < (withK cols l key).length) (hne : k ≠ posK l key) : gN (withK cols l key) k ∈ l := by
  have := posK_le l key
  rcases withK_at cols l key with ⟨h, e⟩ | ⟨h, e, _⟩
  · rw [e] at hk ⊢; exact gN_mem hk
  · rw [gN_eq hk]
    simp only [e]
    rw [List.getElem_append]
    split
    · exact List.mem_of_mem_take (List.getElem_mem _)
    · rename_i hc
      have hc : posK l key ≤ k := by simp at hc; omega
      obtain ⟨d, hd⟩ : ∃ d, k - (l.take (posK l key)).length = d + 1 := ⟨k - posK l key - 1, by simp; omega⟩
      simp only [hd, List.getElem_cons_succ]
      exact List.mem_of_mem_drop (List.getElem_mem _)
theorem insD_pos (ds : List Dt) (d : Dt) : 0 < (insD ds d).length ∧ (insD ds d).length ≤ ds.length + 1 := by
  have : posD ds d ≤ ds.length := tw_le ds
  unfold insD
  split
  · rename_i h; omega
  · simp; omega
structure KeyI (i : Nat) (l : List Rwx) : Prop where
  chk : checkT [3] l = 0
  len : l.length ≤ i
  row : ∀ r ∈ l, (∃ j : Nat, j < i ∧ r.cells = [celI 0 ((j + 1 : Nat) : Int) (j : Nat) (j : Nat)]) ∧ 0 < r.dots.length ∧ r.dots.length ≤ i
theorem KeyI.nil : KeyI 0 [] := ⟨chk_nil form3, Nat.le_refl _, fun r hr => by cases hr⟩
theorem KeyI.step {i : Nat} {l : List Rwx} {key : ByteArray} (h : KeyI i l) (hi : i < 40) (hk : keyB key = true) :
    ∃ l' g, applyT [3] l (insZ key 0 ((i + 1 : Nat) : Int) (i : Nat) (i : Nat)) = (l', g, [⟨4, 0, key⟩, ⟨3, (i : Nat), noS⟩], 0) ∧ KeyI (i + 1) l' ∧ l'.length = l.length + if findT l key < 0 then 1 else 0 := by
  have ho : opE [3] (tab0 (insZ key 0 ((i + 1 : Nat) : Int) (i : Nat) (i : Nat))) = 0 := ins_op hk (by omega) (by omega) (by omega) (by omega)
  have hr := (chk_0 h.chk).2
  have hlt := withK_lt [3] l key
  have hkey := (withK_spec hr hk).2
  obtain ⟨R, hR⟩ : ∃ R, R = gN (withK [3] l key) (posK l key) := ⟨_, rfl⟩
  have hRc : ∃ c, R.cells = [c] ∧ wrB c (insZ key 0 ((i + 1 : Nat) : Int) (i : Nat) (i : Nat)) = true ∧ R.dots.length ≤ i := by
    rcases withK_at [3] l key with ⟨q, e⟩ | ⟨q, _, e⟩
    · have hm : R ∈ l := by rw [hR, e]; exact gN_mem (by rw [e] at hlt; exact hlt)
      obtain ⟨⟨j, hj, hc⟩, h1, h2⟩ := h.row R hm
      refine ⟨_, hc, ?_, h2⟩
      unfold wrB
      have hlt2 : cmpT (⟨(j : Nat), 0, (0 : Nat)⟩ : St3) ⟨(i : Nat), 0, (0 : Nat)⟩ < 0 := by
        unfold cmpT orV cmpI
        rw [if_pos (by simp; omega)]
        have : ((j : Nat) : Int) < (i : Nat) := by omega
        simp [this]
      have : decide (cmpT (celI 0 ((j + 1 : Nat) : Int) (j : Nat) (j : Nat)).st (insZ key 0 ((i + 1 : Nat) : Int) (i : Nat) (i : Nat)).st < 0) = true := decide_eq_true hlt2
      rw [this, Bool.or_true]
    · rw [hR, e]; exact ⟨zCel, rfl, rfl, Nat.zero_le _⟩
  obtain ⟨c, c1, c2, c3⟩ := hRc
  have hRk : R.key = key := by rw [hR]; exact hkey
  have hch : chgT R (insZ key 0 ((i + 1 : Nat) : Int) (i : Nat) (i : Nat)) = ⟨key, insD R.dots ⟨((0 : Nat) : Int), ((i + 1 : Nat) : Int)⟩, [celI 0 ((i + 1 : Nat) : Int) (i : Nat) (i : Nat)]⟩ := by
    have e1 : chgT R (insZ key 0 ((i + 1 : Nat) : Int) (i : Nat) (i : Nat)) = ⟨R.key, insD R.dots ⟨((0 : Nat) : Int), ((i + 1 : Nat) : Int)⟩, wrs R.cells [⟨3, (i : Nat), noS⟩] (insZ key 0 ((i + 1 : Nat) : Int) (i : Nat) (i : Nat))⟩ := rfl
    rw [e1, hRk, c1]
    have e2 : wrs [c] [⟨3, (i : Nat), noS⟩] (insZ key 0 ((i + 1 : Nat) : Int) (i : Nat) (i : Nat)) = [wrCel c ⟨3, (i : Nat), noS⟩ (insZ key 0 ((i + 1 : Nat) : Int) (i : Nat) (i : Nat))] := rfl
    rw [e2, wrCel, if_pos c2]
  obtain ⟨p1, p2⟩ := insD_pos R.dots ⟨((0 : Nat) : Int), ((i + 1 : Nat) : Int)⟩
  have ha := apply_e h.chk ho
  have hri := apply_right h.chk ho
  have hxk : (insZ key 0 ((i + 1 : Nat) : Int) (i : Nat) (i : Nat)).key = key := rfl
  rw [hxk, ← hR, hch] at ha
  rw [ha] at hri
  have hlen : ((withK [3] l key).set (posK l key) ⟨key, insD R.dots ⟨((0 : Nat) : Int), ((i + 1 : Nat) : Int)⟩, [celI 0 ((i + 1 : Nat) : Int) (i : Nat) (i : Nat)]⟩).length = l.length + if findT l key < 0 then 1 else 0 := by
    rw [List.length_set, withK_len, findT_k hr]
    cases isK l key <;> simp
  refine ⟨_, _, by rw [ha]; congr 3; unfold seeT; rw [if_neg (by show ¬ (insD R.dots _).length = 0; omega)]; rfl, ⟨hri, ?_, fun r hrm => ?_⟩, hlen⟩
  · rw [hlen]
    have := h.len
    split <;> omega
  · obtain ⟨k, hk1, rfl⟩ := gN_mem_iff.1 hrm
    rw [List.length_set] at hk1
    by_cases hkp : k = posK l key
    · subst hkp
      rw [gN_set hk1]
      refine ⟨⟨i, by omega, rfl⟩, p1, ?_⟩
      show (insD R.dots _).length ≤ _
      omega
    · have e : gN ((withK [3] l key).set (posK l key) ⟨key, insD R.dots ⟨((0 : Nat) : Int), ((i + 1 : Nat) : Int)⟩, [celI 0 ((i + 1 : Nat) : Int) (i : Nat) (i : Nat)]⟩) k = gN (withK [3] l key) k := by
        rw [gN_eq (by simpa using hk1), gN_eq hk1, List.getElem_set_ne (by omega)]
      rw [e]
      obtain ⟨⟨j, hj, hc⟩, h1, h2⟩ := h.row _ (withK_old hk1 hkp)
      exact ⟨⟨j, by omega, hc⟩, h1, by omega⟩
theorem KeyI.seen {i : Nat} {l : List Rwx} (h : KeyI i l) : seenT [3] l = l.map seeT := by
  unfold seenT
  rw [if_neg (by rw [h.chk]; simp), List.filter_eq_self.2]
  intro r hr
  have := (h.row r hr).2.1
  simp; omega
theorem KeyI.see {i : Nat} {l : List Rwx} (h : KeyI i l) {k : Nat} (hk : k < l.length) : ∃ v, seeT (gN l k) = [⟨4, 0, (gN l k).key⟩, v] := by
  obtain ⟨⟨j, hj, hc⟩, h1, h2⟩ := h.row _ (gN_mem hk)
  unfold seeT
  rw [if_neg (by omega), hc]
  exact ⟨_, rfl⟩
end Go.Proofs.YtbojpedklnmidaaGreat.D
end
section
set_option linter.unusedVariables false
set_option linter.unusedSimpArgs false
set_option linter.constructorNameAsVariable false
set_option maxRecDepth 100000

/- An insert that a delete did not know of stays. No condition. -/
namespace Go.Proofs.YtbojpedklnmidaaGreat.D
open Go Go.Proofs
open Nat (reduceAdd reduceEqDiff reduceLeDiff)
open Int (reduceLE reduceEq reduceNeg reduceToNat)
@[reducible] def dZ (ds : List Dt) : Opz := ⟨⟨⟨2, 1⟩, [1, 1, 0], ⟨9, 0, 2⟩, 3, 0, kK, 0, [], ds⟩, true⟩
@[reducible] def cA (w : Int) : Cel := ⟨⟨3, w, noS⟩, ⟨5, 0, 0⟩, ⟨0, 1⟩⟩
@[reducible] def cB (w : Int) : Cel := ⟨⟨3, w, noS⟩, ⟨7, 0, 1⟩, ⟨1, 1⟩⟩
@[reducible] def lS (ds : List Dt) (c : Cel) : List Rwx := [⟨kK, ds, [c]⟩]
end Go.Proofs.YtbojpedklnmidaaGreat.D
end
section
set_option linter.unusedVariables false
set_option linter.unusedSimpArgs false
set_option linter.constructorNameAsVariable false
set_option maxRecDepth 100000

/- Deleting rows as they lie in memory. No condition. -/
namespace Go.Proofs.YtbojpedklnmidaaGreat.D
open Go Go.Proofs
open Nat (reduceAdd reduceEqDiff reduceLeDiff)
open Int (reduceLE reduceEq reduceNeg reduceToNat)
abbrev RwP := Rw 3 × Rwf
instance : Inhabited RwP := ⟨⟨default, default⟩⟩
def rwP (x : RwP) : List V := x.1.r
@[go_sem] theorem rwP_len (x : RwP) : (rwP x).length = 3 := x.1.len
@[go_sem] theorem rwP_leaf (x : RwP) : (rwP x).all leaf = true := x.1.leaf
@[go_sem] theorem rwP_row (x : RwP) : okRow 3 (rwP x) = true := x.1.ok
@[go_sem] theorem rwP_t (x : RwP) : (rwP x).take 3 = rwP x := rw3_t x.1
@[go_sem] theorem rwP_d (x : RwP) : (rwP x).drop 3 = [] := rw3_d x.1
end Go.Proofs.YtbojpedklnmidaaGreat.D
end
section
set_option linter.unusedVariables false
set_option linter.unusedSimpArgs false
set_option linter.constructorNameAsVariable false
set_option maxRecDepth 100000

/- Compacting: its parts. No condition. -/
namespace Go.Proofs.YtbojpedklnmidaaGreat.D
open Go Go.Proofs
open Nat (reduceAdd reduceEqDiff reduceLeDiff)
open Int (reduceLE reduceEq reduceNeg reduceToNat)
theorem RowO.ok {ob : OB} {n : Nat} {r : List V} {R : Rwx} (h : RowO ob n r R) : okRow 3 r = true := by
  obtain ⟨dv, cv, rfl, hd, hc⟩ := h
  have h1 : leaf dv = true := by rcases hd with ⟨_, rfl⟩ | ⟨_, _, _, rfl, _⟩ <;> rfl
  have h2 : leaf cv = true := by rcases hc with ⟨_, rfl⟩ | ⟨_, _, _, rfl, _⟩ <;> rfl
  simp [okRow, h1, h2]; rfl
end Go.Proofs.YtbojpedklnmidaaGreat.D
end
section
set_option linter.unusedVariables false
set_option linter.unusedSimpArgs false
set_option maxRecDepth 100000
set_option linter.constructorNameAsVariable false

/- As S_opH: comparing operations; which are not played; for tables. No condition. -/
namespace Go.Proofs.YtbojpedklnmidaaGreat.D
open Go Go.Proofs
open Nat (reduceAdd reduceEqDiff reduceLeDiff)
open Int (reduceLE reduceEq reduceNeg reduceToNat)
structure OkO (x : Opx) : Prop where
  d : x.deps.length ≤ maxLen
  v : x.vals.length ≤ maxLen
  s : x.dots.length ≤ maxLen
  n : inI x.dot.n
def sameD (a b : Dt) : Bool := decide (a.p = b.p ∧ a.n = b.n)
def eqV (a b : Vl) : Bool := decide (a.k = b.k) && decide (a.i = b.i) && decide (a.s.toList = b.s.toList)
def eqS3 (a b : St3) : Bool := decide (a.p = b.p) && decide (a.l = b.l) && decide (a.q = b.q)
def sameL {α : Type} (e : α → α → Bool) : List α → List α → Bool
  | [], [] => true
  | x :: a, y :: b => e x y && sameL e a b
  | _, _ => false
def eqO (a b : Opx) : Bool := sameD a.dot b.dot && decide (a.deps = b.deps) && eqS3 a.st b.st && decide (a.kind = b.kind) && decide (a.table = b.table) && decide (a.key.toList = b.key.toList) && decide (a.col = b.col) && sameL eqV a.vals b.vals && sameL sameD a.dots b.dots
theorem sameL_iff {α : Type} [Inhabited α] {e : α → α → Bool} : ∀ {a b : List α}, sameL e a b = true ↔ a.length = b.length ∧ ∀ i, i < a.length → e (gN a i) (gN b i) = true
  | [], [] => by simp [sameL]
  | [], y :: b => by simp [sameL]
  | x :: a, [] => by simp [sameL]
  | x :: a, y :: b => by
    simp only [sameL, Bool.and_eq_true, sameL_iff (a := a) (b := b), List.length_cons]
    constructor
    · rintro ⟨h1, h2, h3⟩
      refine ⟨by omega, fun i hi => ?_⟩
      cases i with
      | zero => simpa [gN] using h1
      | succ i => have := h3 i (by omega); simpa [gN] using this
    · rintro ⟨h1, h2⟩
      refine ⟨by have := h2 0 (by omega); simpa [gN] using this, by omega, fun i hi => ?_⟩
      have := h2 (i + 1) (by omega); simpa [gN] using this
theorem sameL_rfl {α : Type} {e : α → α → Bool} (he : ∀ x, e x x = true) : ∀ a : List α, sameL e a a = true
  | [] => rfl
  | x :: a => by simp [sameL, he, sameL_rfl he a]
theorem eqO_rfl (x : Opx) : eqO x x = true := by
  simp only [eqO, Bool.and_eq_true, decide_eq_true_eq]
  refine ⟨⟨⟨⟨⟨⟨⟨⟨?_, trivial⟩, ?_⟩, trivial⟩, trivial⟩, trivial⟩, trivial⟩, sameL_rfl (fun x => by simp [eqV]) _⟩, sameL_rfl (fun x => by simp [sameD]) _⟩
  · simp [sameD]
  · simp [eqS3]
theorem KValue_ok (a b : Vl) : FnB Tryz.prog 97 [.ag (vlV a), .ag (vlV b)] (vb (eqV a b)) := by
  refine fnB_intro cf97 (by simp) ?_
  simp +contextual (maxSteps := 1000000) only [go_sem, ints, intRows, reduceAdd, Nat.reduceBEq, reduceEqDiff, reduceLeDiff, Nat.reduceLT, reduceIte, reduceLE, Int.reduceLT, reduceEq, reduceNeg, reduceToNat, ops, vals, dots, c97, vlV]
  rfl
theorem KDot_ok (a b : Dt) : FnB Tryz.prog 58 [.ag (dotV a), .ag (dotV b)] (vb (sameD a b)) := by
  refine fnB_intro cf58 (by simp) ?_
  simp +contextual (maxSteps := 1000000) only [go_sem, ints, intRows, reduceAdd, Nat.reduceBEq, reduceEqDiff, reduceLeDiff, Nat.reduceLT, reduceIte, reduceLE, Int.reduceLT, reduceEq, reduceNeg, reduceToNat, ops, vals, dots, c58, dotV]
  simp [sameD]
theorem KStamp_ok (a b : St3) : FnB Tryz.prog 98 [.ag (stV a), .ag (stV b)] (vb (eqS3 a b)) := by
  refine fnB_intro cf98 (by simp) ?_
  simp +contextual (maxSteps := 1000000) only [go_sem, ints, intRows, reduceAdd, Nat.reduceBEq, reduceEqDiff, reduceLeDiff, Nat.reduceLT, reduceIte, reduceLE, Int.reduceLT, reduceEq, reduceNeg, reduceToNat, ops, vals, dots, c98, stV]
  rfl
theorem sameL_no {α : Type} [Inhabited α] {e : α → α → Bool} {a b : List α} (h : a.length ≠ b.length) : sameL e a b = false := by
  cases hs : sameL e a b with
  | false => rfl
  | true => exact absurd (sameL_iff.1 hs).1 h
theorem sameL_bad {α : Type} [Inhabited α] {e : α → α → Bool} {a b : List α} {i : Nat} (hi : i < a.length) (h : e (gN a i) (gN b i) = false) : sameL e a b = false := by
  cases hs : sameL e a b with
  | false => rfl
  | true => have := (sameL_iff.1 hs).2 i hi; rw [h] at this; cases this
theorem KRow_ok {fl fm : Fl} (a b : List Vl) (ha : a.length ≤ maxLen) : FnB Tryz.prog 50 [vals fl a, vals fm b] (vb (sameL eqV a b)) := by
  unfold maxLen at ha
  refine fnB_intro cf50 (by simp) ?_
  simp +contextual (maxSteps := 1000000) only [go_sem, ints, intRows, reduceAdd, Nat.reduceBEq, reduceEqDiff, reduceLeDiff, Nat.reduceLT, reduceIte, reduceLE, Int.reduceLT, reduceEq, reduceNeg, reduceToNat, ops, vals, dots, c50]
  refine ⟨fun h => ?_, fun h => ?_⟩
  · simp at h; rw [sameL_no (by omega)]
  simp at h
  have hab : a.length = b.length := by omega
  refine wpC_lp (fun env ob n => env 0 = vals fl a ∧ env 1 = vals fm b ∧ ∃ i : Nat, env 5 = vi i ∧ i ≤ a.length ∧ ∀ j, j < i → eqV (gN a j) (gN b j) = true) (fun env ob n => (a.length - iv (env 5)).toNat) ?_ ?_
  · simp +contextual (maxSteps := 1000000) only [go_sem, ints, intRows, reduceAdd, Nat.reduceBEq, reduceEqDiff, reduceLeDiff, Nat.reduceLT, reduceIte, reduceLE, Int.reduceLT, reduceEq, reduceNeg, reduceToNat, ops, vals, dots]
    exact ⟨0, rfl, by omega, fun j hj => by omega⟩
  rintro env ob n ⟨h0, h1, i, h5, hi, he⟩
  simp +contextual (maxSteps := 1000000) only [go_sem, ints, intRows, reduceAdd, Nat.reduceBEq, reduceEqDiff, reduceLeDiff, Nat.reduceLT, reduceIte, reduceLE, Int.reduceLT, reduceEq, reduceNeg, reduceToNat, ops, vals, dots, h0, h1, h5]
  refine ⟨fun hlt => ?_, fun hge => ?_⟩
  · simp at hlt
    repeat (refine And.intro (by omega) ?_)
    first | refine caS_i (KValue_ok (gN a i) (gN b i)) trivial ?_ | refine caD_i (KValue_ok (gN a i) (gN b i)) trivial ?_ | refine gC_i (fun _ => KValue_ok (gN a i) (gN b i)) trivial ?_ | refine gCD_i (fun _ => KValue_ok (gN a i) (gN b i)) trivial ?_ | refine caE_i (KValue_ok (gN a i) (gN b i)) trivial ?_
    simp +contextual (maxSteps := 1000000) only [go_sem, ints, intRows, reduceAdd, Nat.reduceBEq, reduceEqDiff, reduceLeDiff, Nat.reduceLT, reduceIte, reduceLE, Int.reduceLT, reduceEq, reduceNeg, reduceToNat, ops, vals, dots, h0, h1, h5]
    refine ⟨fun hn => ?_, fun hy => ⟨⟨i + 1, ?_, by omega, fun j hj => ?_⟩, ?_⟩⟩
    · rw [sameL_bad hlt (by simpa using hn)]
    · rw [w64 (by omega)]; simp
    · by_cases hji : j = i
      · subst hji; simpa using hy
      · exact he j (by omega)
    · rw [w64 (by omega)]; omega
  · simp at hge
    have : sameL eqV a b = true := sameL_iff.2 ⟨hab, fun j hj => he j (by omega)⟩
    rw [this]
theorem KDots_ok {fl fm : Fl} (a b : List Dt) (ha : a.length ≤ maxLen) : FnB Tryz.prog 99 [dots fl a, dots fm b] (vb (sameL sameD a b)) := by
  unfold maxLen at ha
  refine fnB_intro cf99 (by simp) ?_
  simp +contextual (maxSteps := 1000000) only [go_sem, ints, intRows, reduceAdd, Nat.reduceBEq, reduceEqDiff, reduceLeDiff, Nat.reduceLT, reduceIte, reduceLE, Int.reduceLT, reduceEq, reduceNeg, reduceToNat, ops, vals, dots, c99]
  refine ⟨fun h => ?_, fun h => ?_⟩
  · simp at h; rw [sameL_no (by omega)]
  simp at h
  have hab : a.length = b.length := by omega
  refine wpC_lp (fun env ob n => env 0 = dots fl a ∧ env 1 = dots fm b ∧ ∃ i : Nat, env 5 = vi i ∧ i ≤ a.length ∧ ∀ j, j < i → sameD (gN a j) (gN b j) = true) (fun env ob n => (a.length - iv (env 5)).toNat) ?_ ?_
  · simp +contextual (maxSteps := 1000000) only [go_sem, ints, intRows, reduceAdd, Nat.reduceBEq, reduceEqDiff, reduceLeDiff, Nat.reduceLT, reduceIte, reduceLE, Int.reduceLT, reduceEq, reduceNeg, reduceToNat, ops, vals, dots]
    exact ⟨0, rfl, by omega, fun j hj => by omega⟩
  rintro env ob n ⟨h0, h1, i, h5, hi, he⟩
  simp +contextual (maxSteps := 1000000) only [go_sem, ints, intRows, reduceAdd, Nat.reduceBEq, reduceEqDiff, reduceLeDiff, Nat.reduceLT, reduceIte, reduceLE, Int.reduceLT, reduceEq, reduceNeg, reduceToNat, ops, vals, dots, h0, h1, h5]
  refine ⟨fun hlt => ?_, fun hge => ?_⟩
  · simp at hlt
    repeat (refine And.intro (by omega) ?_)
    first | refine caS_i (KDot_ok (gN a i) (gN b i)) trivial ?_ | refine caD_i (KDot_ok (gN a i) (gN b i)) trivial ?_ | refine gC_i (fun _ => KDot_ok (gN a i) (gN b i)) trivial ?_ | refine gCD_i (fun _ => KDot_ok (gN a i) (gN b i)) trivial ?_ | refine caE_i (KDot_ok (gN a i) (gN b i)) trivial ?_
    simp +contextual (maxSteps := 1000000) only [go_sem, ints, intRows, reduceAdd, Nat.reduceBEq, reduceEqDiff, reduceLeDiff, Nat.reduceLT, reduceIte, reduceLE, Int.reduceLT, reduceEq, reduceNeg, reduceToNat, ops, vals, dots, h0, h1, h5]
    refine ⟨fun hn => ?_, fun hy => ⟨⟨i + 1, ?_, by omega, fun j hj => ?_⟩, ?_⟩⟩
    · rw [sameL_bad hlt (by simpa using hn)]
    · rw [w64 (by omega)]; simp
    · by_cases hji : j = i
      · subst hji; simpa using hy
      · exact he j (by omega)
    · rw [w64 (by omega)]; omega
  · simp at hge
    have : sameL sameD a b = true := sameL_iff.2 ⟨hab, fun j hj => he j (by omega)⟩
    rw [this]
theorem KOp_ok (a b : Opx) (ha : OkO a) : FnB Tryz.prog 51 [.ag (opV a), .ag (opV b)] (vb (eqO a b)) := by
  refine fnB_intro cf51 (by simp) ?_
  simp +contextual (maxSteps := 1000000) only [go_sem, ints, intRows, reduceAdd, Nat.reduceBEq, reduceEqDiff, reduceLeDiff, Nat.reduceLT, reduceIte, reduceLE, Int.reduceLT, reduceEq, reduceNeg, reduceToNat, ops, vals, dots, c51]
  first | refine caS_i (KDot_ok a.dot b.dot) trivial ?_ | refine caD_i (KDot_ok a.dot b.dot) trivial ?_ | refine gC_i (fun _ => KDot_ok a.dot b.dot) trivial ?_ | refine gCD_i (fun _ => KDot_ok a.dot b.dot) trivial ?_ | refine caE_i (KDot_ok a.dot b.dot) trivial ?_
  simp +contextual (maxSteps := 1000000) only [go_sem, ints, intRows, reduceAdd, Nat.reduceBEq, reduceEqDiff, reduceLeDiff, Nat.reduceLT, reduceIte, reduceLE, Int.reduceLT, reduceEq, reduceNeg, reduceToNat, ops, vals, dots]
  first | refine caS_i (Ints_ok a.deps b.deps ha.d) trivial ?_ | refine caD_i (Ints_ok a.deps b.deps ha.d) trivial ?_ | refine gC_i (fun _ => Ints_ok a.deps b.deps ha.d) trivial ?_ | refine gCD_i (fun _ => Ints_ok a.deps b.deps ha.d) trivial ?_ | refine caE_i (Ints_ok a.deps b.deps ha.d) trivial ?_
  simp +contextual (maxSteps := 1000000) only [go_sem, ints, intRows, reduceAdd, Nat.reduceBEq, reduceEqDiff, reduceLeDiff, Nat.reduceLT, reduceIte, reduceLE, Int.reduceLT, reduceEq, reduceNeg, reduceToNat, ops, vals, dots]
  first | refine caS_i (KStamp_ok a.st b.st) trivial ?_ | refine caD_i (KStamp_ok a.st b.st) trivial ?_ | refine gC_i (fun _ => KStamp_ok a.st b.st) trivial ?_ | refine gCD_i (fun _ => KStamp_ok a.st b.st) trivial ?_ | refine caE_i (KStamp_ok a.st b.st) trivial ?_
  simp +contextual (maxSteps := 1000000) only [go_sem, ints, intRows, reduceAdd, Nat.reduceBEq, reduceEqDiff, reduceLeDiff, Nat.reduceLT, reduceIte, reduceLE, Int.reduceLT, reduceEq, reduceNeg, reduceToNat, ops, vals, dots]
  first | refine caS_i (KRow_ok a.vals b.vals ha.v) trivial ?_ | refine caD_i (KRow_ok a.vals b.vals ha.v) trivial ?_ | refine gC_i (fun _ => KRow_ok a.vals b.vals ha.v) trivial ?_ | refine gCD_i (fun _ => KRow_ok a.vals b.vals ha.v) trivial ?_ | refine caE_i (KRow_ok a.vals b.vals ha.v) trivial ?_
  simp +contextual (maxSteps := 1000000) only [go_sem, ints, intRows, reduceAdd, Nat.reduceBEq, reduceEqDiff, reduceLeDiff, Nat.reduceLT, reduceIte, reduceLE, Int.reduceLT, reduceEq, reduceNeg, reduceToNat, ops, vals, dots]
  first | refine caS_i (KDots_ok a.dots b.dots ha.s) trivial ?_ | refine caD_i (KDots_ok a.dots b.dots ha.s) trivial ?_ | refine gC_i (fun _ => KDots_ok a.dots b.dots ha.s) trivial ?_ | refine gCD_i (fun _ => KDots_ok a.dots b.dots ha.s) trivial ?_ | refine caE_i (KDots_ok a.dots b.dots ha.s) trivial ?_
  simp +contextual (maxSteps := 1000000) only [go_sem, ints, intRows, reduceAdd, Nat.reduceBEq, reduceEqDiff, reduceLeDiff, Nat.reduceLT, reduceIte, reduceLE, Int.reduceLT, reduceEq, reduceNeg, reduceToNat, ops, vals, dots]
  rfl
theorem KOps_ok {fl fm : Fl} (a b : List Opx) (ha : a.length ≤ maxLen) (hok : ∀ x ∈ a, OkO x) : FnB Tryz.prog 19 [ops fl a, ops fm b] (vb (sameL eqO a b)) := by
  unfold maxLen at ha
  refine fnB_intro cf19 (by simp) ?_
  simp +contextual (maxSteps := 1000000) only [go_sem, ints, intRows, reduceAdd, Nat.reduceBEq, reduceEqDiff, reduceLeDiff, Nat.reduceLT, reduceIte, reduceLE, Int.reduceLT, reduceEq, reduceNeg, reduceToNat, ops, vals, dots, c19]
  refine ⟨fun h => ?_, fun h => ?_⟩
  · simp at h; rw [sameL_no (by omega)]
  simp at h
  have hab : a.length = b.length := by omega
  refine wpC_lp (fun env ob n => env 0 = ops fl a ∧ env 1 = ops fm b ∧ ∃ i : Nat, env 5 = vi i ∧ i ≤ a.length ∧ ∀ j, j < i → eqO (gN a j) (gN b j) = true) (fun env ob n => (a.length - iv (env 5)).toNat) ?_ ?_
  · simp +contextual (maxSteps := 1000000) only [go_sem, ints, intRows, reduceAdd, Nat.reduceBEq, reduceEqDiff, reduceLeDiff, Nat.reduceLT, reduceIte, reduceLE, Int.reduceLT, reduceEq, reduceNeg, reduceToNat, ops, vals, dots]
    exact ⟨0, rfl, by omega, fun j hj => by omega⟩
  rintro env ob n ⟨h0, h1, i, h5, hi, he⟩
  simp +contextual (maxSteps := 1000000) only [go_sem, ints, intRows, reduceAdd, Nat.reduceBEq, reduceEqDiff, reduceLeDiff, Nat.reduceLT, reduceIte, reduceLE, Int.reduceLT, reduceEq, reduceNeg, reduceToNat, ops, vals, dots, h0, h1, h5]
  refine ⟨fun hlt => ?_, fun hge => ?_⟩
  · simp at hlt
    repeat (refine And.intro (by omega) ?_)
    first | refine caS_i (KOp_ok (gN a i) (gN b i) (hok _ (gN_mem hlt))) trivial ?_ | refine caD_i (KOp_ok (gN a i) (gN b i) (hok _ (gN_mem hlt))) trivial ?_ | refine gC_i (fun _ => KOp_ok (gN a i) (gN b i) (hok _ (gN_mem hlt))) trivial ?_ | refine gCD_i (fun _ => KOp_ok (gN a i) (gN b i) (hok _ (gN_mem hlt))) trivial ?_ | refine caE_i (KOp_ok (gN a i) (gN b i) (hok _ (gN_mem hlt))) trivial ?_
    simp +contextual (maxSteps := 1000000) only [go_sem, ints, intRows, reduceAdd, Nat.reduceBEq, reduceEqDiff, reduceLeDiff, Nat.reduceLT, reduceIte, reduceLE, Int.reduceLT, reduceEq, reduceNeg, reduceToNat, ops, vals, dots, h0, h1, h5]
    refine ⟨fun hn => ?_, fun hy => ⟨⟨i + 1, ?_, by omega, fun j hj => ?_⟩, ?_⟩⟩
    · rw [sameL_bad hlt (by simpa using hn)]
    · rw [w64 (by omega)]; simp
    · by_cases hji : j = i
      · subst hji; simpa using hy
      · exact he j (by omega)
    · rw [w64 (by omega)]; omega
  · simp at hge
    have : sameL eqO a b = true := sameL_iff.2 ⟨hab, fun j hj => he j (by omega)⟩
    rw [this]
def longV (l : List Vl) : Bool := l.any fun v => decide (300 < v.s.size)
theorem any_no {α : Type} [Inhabited α] {p : α → Bool} {l : List α} (h : ∀ j, j < l.length → p (gN l j) = false) : l.any p = false := by
  cases ha : l.any p with
  | false => rfl
  | true =>
    obtain ⟨x, hx, hp⟩ := List.any_eq_true.1 ha
    obtain ⟨j, hj, rfl⟩ := List.mem_iff_getElem.1 hx
    have := h j hj
    rw [gN_eq hj, hp] at this; cases this
theorem Long_ok {fl : Fl} (l : List Vl) (hl : l.length ≤ maxLen) : FnB Tryz.prog 65 [vals fl l] (vb (longV l)) := by
  unfold maxLen at hl
  refine fnB_intro cf65 (by simp) ?_
  simp +contextual (maxSteps := 1000000) only [go_sem, ints, intRows, reduceAdd, Nat.reduceBEq, reduceEqDiff, reduceLeDiff, Nat.reduceLT, reduceIte, reduceLE, Int.reduceLT, reduceEq, reduceNeg, reduceToNat, ops, vals, dots, c65]
  refine wpC_lp (fun env ob n => env 0 = vals fl l ∧ ∃ i : Nat, env 3 = vi i ∧ i ≤ l.length ∧ ∀ j, j < i → decide (300 < (gN l j).s.size) = false) (fun env ob n => (l.length - iv (env 3)).toNat) ?_ ?_
  · simp +contextual (maxSteps := 1000000) only [go_sem, ints, intRows, reduceAdd, Nat.reduceBEq, reduceEqDiff, reduceLeDiff, Nat.reduceLT, reduceIte, reduceLE, Int.reduceLT, reduceEq, reduceNeg, reduceToNat, ops, vals, dots]
    exact ⟨0, rfl, by omega, fun j hj => by omega⟩
  rintro env ob n ⟨h0, i, h3, hi, he⟩
  simp +contextual (maxSteps := 1000000) only [go_sem, ints, intRows, reduceAdd, Nat.reduceBEq, reduceEqDiff, reduceLeDiff, Nat.reduceLT, reduceIte, reduceLE, Int.reduceLT, reduceEq, reduceNeg, reduceToNat, ops, vals, dots, h0, h3]
  refine ⟨fun hlt => ?_, fun hge => ?_⟩
  · simp at hlt
    repeat (refine And.intro (by omega) ?_)
    refine ⟨fun hb => ?_, fun hg => ⟨⟨i + 1, ?_, by omega, fun j hj => ?_⟩, ?_⟩⟩
    · have : longV l = true := List.any_eq_true.2 ⟨_, gN_mem hlt, by simp at hb ⊢; omega⟩
      rw [this]
    · rw [w64 (by omega)]; simp
    · by_cases hji : j = i
      · subst hji; simp at hg ⊢; omega
      · exact he j (by omega)
    · rw [w64 (by omega)]; omega
  · simp at hge
    have : longV l = false := any_no fun j hj => he j (by omega)
    rw [this]
def heavyR (l : List Vl) : Bool := decide (40 < l.length) || longV l
theorem HeavyR_ok {fl : Fl} (l : List Vl) : FnB Tryz.prog 30 [vals fl l] (vb (heavyR l)) := by
  refine fnB_intro cf30 (by simp) ?_
  simp +contextual (maxSteps := 1000000) only [go_sem, ints, intRows, reduceAdd, Nat.reduceBEq, reduceEqDiff, reduceLeDiff, Nat.reduceLT, reduceIte, reduceLE, Int.reduceLT, reduceEq, reduceNeg, reduceToNat, ops, vals, dots, c30]
  refine gC_i (fun hb => Long_ok l (by simp at hb; unfold maxLen; omega)) trivial ?_
  simp +contextual (maxSteps := 1000000) only [go_sem, ints, intRows, reduceAdd, Nat.reduceBEq, reduceEqDiff, reduceLeDiff, Nat.reduceLT, reduceIte, reduceLE, Int.reduceLT, reduceEq, reduceNeg, reduceToNat, ops, vals, dots]
  have : (40 < (l.length : Int)) ↔ (40 < l.length) := by omega
  simp [heavyR, this]
def heavyO (x : Opx) : Bool := decide (30 < x.deps.length) || decide (100 < x.key.size) || heavyR x.vals || decide (100 < x.dots.length)
def heavyOs (l : List Opx) : Bool := decide (300 < l.length) || l.any heavyO
theorem HeavyOs_ok {fl : Fl} (l : List Opx) : FnB Tryz.prog 6 [ops fl l] (vb (heavyOs l)) := by
  refine fnB_intro cf6 (by simp) ?_
  simp +contextual (maxSteps := 1000000) only [go_sem, ints, intRows, reduceAdd, Nat.reduceBEq, reduceEqDiff, reduceLeDiff, Nat.reduceLT, reduceIte, reduceLE, Int.reduceLT, reduceEq, reduceNeg, reduceToNat, ops, vals, dots, c6]
  refine ⟨fun hb => ?_, fun hl => ?_⟩
  · simp at hb
    have : heavyOs l = true := by simp [heavyOs]; left; omega
    rw [this]
  simp at hl
  refine wpC_lp (fun env ob n => env 0 = ops fl l ∧ ∃ i : Nat, env 3 = vi i ∧ i ≤ l.length ∧ ∀ j, j < i → heavyO (gN l j) = false) (fun env ob n => (l.length - iv (env 3)).toNat) ?_ ?_
  · simp +contextual (maxSteps := 1000000) only [go_sem, ints, intRows, reduceAdd, Nat.reduceBEq, reduceEqDiff, reduceLeDiff, Nat.reduceLT, reduceIte, reduceLE, Int.reduceLT, reduceEq, reduceNeg, reduceToNat, ops, vals, dots]
    exact ⟨0, rfl, by omega, fun j hj => by omega⟩
  rintro env ob n ⟨h0, i, h3, hi, he⟩
  simp +contextual (maxSteps := 1000000) only [go_sem, ints, intRows, reduceAdd, Nat.reduceBEq, reduceEqDiff, reduceLeDiff, Nat.reduceLT, reduceIte, reduceLE, Int.reduceLT, reduceEq, reduceNeg, reduceToNat, ops, vals, dots, h0, h3]
  refine ⟨fun hlt => ?_, fun hge => ?_⟩
  · simp at hlt
    refine ⟨by omega, fun _ => by omega, fun _ => by omega, ?_⟩
    first | refine caS_i (HeavyR_ok (gN l i).vals) trivial ?_ | refine caD_i (HeavyR_ok (gN l i).vals) trivial ?_ | refine gC_i (fun _ => HeavyR_ok (gN l i).vals) trivial ?_ | refine gCD_i (fun _ => HeavyR_ok (gN l i).vals) trivial ?_ | refine caE_i (HeavyR_ok (gN l i).vals) trivial ?_
    simp +contextual (maxSteps := 1000000) only [go_sem, ints, intRows, reduceAdd, Nat.reduceBEq, reduceEqDiff, reduceLeDiff, Nat.reduceLT, reduceIte, reduceLE, Int.reduceLT, reduceEq, reduceNeg, reduceToNat, ops, vals, dots, h0, h3]
    have e : (decide (30 < ((gN l i).deps.length : Int)) || decide (100 < ((gN l i).key.size : Int)) || heavyR (gN l i).vals || decide (100 < ((gN l i).dots.length : Int))) = heavyO (gN l i) := by
      have a1 : (30 < ((gN l i).deps.length : Int)) ↔ 30 < (gN l i).deps.length := by omega
      have a2 : (100 < ((gN l i).key.size : Int)) ↔ 100 < (gN l i).key.size := by omega
      have a3 : (100 < ((gN l i).dots.length : Int)) ↔ 100 < (gN l i).dots.length := by omega
      simp [heavyO, a1, a2, a3]
    rw [e]
    refine ⟨fun _ => by omega, fun hb => ?_, fun hg => ⟨⟨i + 1, ?_, by omega, fun j hj => ?_⟩, ?_⟩⟩
    · have : heavyOs l = true := by
        rw [heavyOs, List.any_eq_true.2 ⟨_, gN_mem hlt, hb⟩]; simp
      rw [this]
    · rw [w64 (by omega)]; simp
    · by_cases hji : j = i
      · subst hji; exact hg
      · exact he j (by omega)
    · rw [w64 (by omega)]; omega
  · simp at hge
    have : heavyOs l = false := by
      rw [heavyOs, any_no fun j hj => he j (by omega)]
      simp; omega
    rw [this]
theorem heavyO_ok {x : Opx} (h : heavyO x = false) (hn : inI x.dot.n) : OkO x := by
  simp [heavyO, heavyR] at h
  exact ⟨by unfold maxLen; omega, by unfold maxLen; omega, by unfold maxLen; omega, hn⟩
theorem heavyOs_ok {l : List Opx} (h : heavyOs l = false) (hn : ∀ x ∈ l, inI x.dot.n) : ∀ x ∈ l, OkO x := fun x hx => by
  simp only [heavyOs, Bool.or_eq_false_iff] at h
  have := List.any_eq_false.1 h.2 x hx
  exact heavyO_ok (by simpa using this) (hn x hx)
theorem inRef_ok (n a b : Int) : FnB Tryz.prog 31 [vi n, vi a, vi b] (vb (decide (a ≤ n ∧ n ≤ b))) := by
  refine fnB_intro cf31 (by simp) ?_
  simp +contextual (maxSteps := 1000000) only [go_sem, ints, intRows, reduceAdd, Nat.reduceBEq, reduceEqDiff, reduceLeDiff, Nat.reduceLT, reduceIte, reduceLE, Int.reduceLT, reduceEq, reduceNeg, reduceToNat, ops, vals, dots, c31]
  rw [← Bool.decide_and]
theorem TypeR_ok (n : Int) : FnB Tryz.prog 32 [vi n] (vb (decide (2 ≤ n ∧ n ≤ 4))) := by
  refine fnB_intro cf32 (by simp) ?_
  simp +contextual (maxSteps := 1000000) only [go_sem, ints, intRows, reduceAdd, Nat.reduceBEq, reduceEqDiff, reduceLeDiff, Nat.reduceLT, reduceIte, reduceLE, Int.reduceLT, reduceEq, reduceNeg, reduceToNat, ops, vals, dots, c32]
  first | refine caS_i (inRef_ok n 2 4) trivial ?_ | refine caD_i (inRef_ok n 2 4) trivial ?_ | refine gC_i (fun _ => inRef_ok n 2 4) trivial ?_ | refine gCD_i (fun _ => inRef_ok n 2 4) trivial ?_ | refine caE_i (inRef_ok n 2 4) trivial ?_
  simp +contextual (maxSteps := 1000000) only [go_sem, ints, intRows, reduceAdd, Nat.reduceBEq, reduceEqDiff, reduceLeDiff, Nat.reduceLT, reduceIte, reduceLE, Int.reduceLT, reduceEq, reduceNeg, reduceToNat, ops, vals, dots]
theorem sign_ok (b : Bool) : FnB Tryz.prog 34 [vb b] (vi (if b then -1 else 1)) := by
  refine fnB_intro cf34 (by simp) ?_
  cases b <;> simp +contextual (maxSteps := 1000000) only [go_sem, ints, intRows, reduceAdd, Nat.reduceBEq, reduceEqDiff, reduceLeDiff, Nat.reduceLT, reduceIte, reduceLE, Int.reduceLT, reduceEq, reduceNeg, reduceToNat, ops, vals, dots, c34] <;> simp
theorem cmpI_ne {a b : Int} (h : ¬ a = b) : cmpI a b = if a < b then -1 else 1 := by
  unfold cmpI; split
  · rfl
  · rw [if_pos (by omega)]
theorem cmpI_eq {a b : Int} (h : a = b) : cmpI a b = 0 := by
  unfold cmpI; rw [if_neg (by omega), if_neg (by omega)]
theorem orV_ne {x : Int} {l : List Int} (h : x ≠ 0) : orV (x :: l) = x := by unfold orV; rw [if_pos h]
theorem orV_0 {l : List Int} : orV (0 :: l) = orV l := rfl
theorem cmpI_n0 {a b : Int} (h : ¬ a = b) : cmpI a b ≠ 0 := by rw [cmpI_ne h]; split <;> omega
theorem CompareStamps_ok (a b : St3) : FnB Tryz.prog 11 [.ag (stV a), .ag (stV b)] (vi (cmpT a b)) := by
  refine fnB_intro cf11 (by simp) ?_
  simp +contextual (maxSteps := 1000000) only [go_sem, ints, intRows, reduceAdd, Nat.reduceBEq, reduceEqDiff, reduceLeDiff, Nat.reduceLT, reduceIte, reduceLE, Int.reduceLT, reduceEq, reduceNeg, reduceToNat, ops, vals, dots, c11, stV]
  refine ⟨fun h => ?_, fun h => ⟨fun h2 => ?_, fun h2 => ⟨fun h3 => ?_, fun h3 => ?_⟩⟩⟩
  · simp at h
    first | refine caS_i (sign_ok (decide (a.p < b.p))) trivial ?_ | refine caD_i (sign_ok (decide (a.p < b.p))) trivial ?_ | refine gC_i (fun _ => sign_ok (decide (a.p < b.p))) trivial ?_ | refine gCD_i (fun _ => sign_ok (decide (a.p < b.p))) trivial ?_ | refine caE_i (sign_ok (decide (a.p < b.p))) trivial ?_
    simp +contextual (maxSteps := 1000000) only [go_sem, ints, intRows, reduceAdd, Nat.reduceBEq, reduceEqDiff, reduceLeDiff, Nat.reduceLT, reduceIte, reduceLE, Int.reduceLT, reduceEq, reduceNeg, reduceToNat, ops, vals, dots]
    unfold cmpT; rw [orV_ne (cmpI_n0 h), cmpI_ne h]; by_cases hh : a.p < b.p <;> simp [hh]
  · simp at h h2
    first | refine caS_i (sign_ok (decide (a.l < b.l))) trivial ?_ | refine caD_i (sign_ok (decide (a.l < b.l))) trivial ?_ | refine gC_i (fun _ => sign_ok (decide (a.l < b.l))) trivial ?_ | refine gCD_i (fun _ => sign_ok (decide (a.l < b.l))) trivial ?_ | refine caE_i (sign_ok (decide (a.l < b.l))) trivial ?_
    simp +contextual (maxSteps := 1000000) only [go_sem, ints, intRows, reduceAdd, Nat.reduceBEq, reduceEqDiff, reduceLeDiff, Nat.reduceLT, reduceIte, reduceLE, Int.reduceLT, reduceEq, reduceNeg, reduceToNat, ops, vals, dots]
    unfold cmpT; rw [cmpI_eq h, orV_0, orV_ne (cmpI_n0 h2), cmpI_ne h2]; by_cases hh : a.l < b.l <;> simp [hh]
  · simp at h h2 h3
    first | refine caS_i (sign_ok (decide (a.q < b.q))) trivial ?_ | refine caD_i (sign_ok (decide (a.q < b.q))) trivial ?_ | refine gC_i (fun _ => sign_ok (decide (a.q < b.q))) trivial ?_ | refine gCD_i (fun _ => sign_ok (decide (a.q < b.q))) trivial ?_ | refine caE_i (sign_ok (decide (a.q < b.q))) trivial ?_
    simp +contextual (maxSteps := 1000000) only [go_sem, ints, intRows, reduceAdd, Nat.reduceBEq, reduceEqDiff, reduceLeDiff, Nat.reduceLT, reduceIte, reduceLE, Int.reduceLT, reduceEq, reduceNeg, reduceToNat, ops, vals, dots]
    unfold cmpT; rw [cmpI_eq h, orV_0, cmpI_eq h2, orV_0, orV_ne (cmpI_n0 h3), cmpI_ne h3]; by_cases hh : a.q < b.q <;> simp [hh]
  · simp at h h2 h3
    unfold cmpT; rw [cmpI_eq h, cmpI_eq h2, cmpI_eq h3]; rfl
end Go.Proofs.YtbojpedklnmidaaGreat.D
end
section
set_option linter.unusedVariables false
set_option linter.unusedSimpArgs false
set_option linter.constructorNameAsVariable false
set_option maxRecDepth 100000

/- Tables by operations: plain facts. No condition. -/
namespace Go.Proofs.YtbojpedklnmidaaGreat.D
open Go Go.Proofs
open Nat (reduceAdd reduceEqDiff reduceLeDiff)
open Int (reduceLE reduceEq reduceNeg reduceToNat)
theorem apply_code {cols : List Int} {l : List Rwx} {x : Opz} (hck : checkT cols l = 0) : (opE cols (tab0 x) = 0 ∧ (applyT cols l x).2.2.2 = 0) ∨ (opE cols (tab0 x) ≠ 0 ∧ applyT cols l x = ([], [], [], 1)) := by
  by_cases ho : opE cols (tab0 x) = 0
  · exact .inl ⟨ho, by rw [apply_e hck ho]⟩
  · exact .inr ⟨ho, by rw [applyT, if_neg (by simpa using hck), if_pos ho]⟩
theorem opR {cols : List Int} {x : Opz} (ho : opE cols (tab0 x) = 0) : ∃ n, n ≤ 5 ∧ OpR_ n cols (tab0 x) := by
  obtain ⟨_, o1, o2, o3⟩ := opE_0 ho
  exact ⟨_, o2, rightO_1 o3⟩
theorem chgT_key (r : Rwx) (x : Opz) : (chgT r x).key = r.key := by
  unfold chgT; repeat' split
  all_goals rfl
theorem apply_row {cols : List Int} {l : List Rwx} {x : Opz} (hck : checkT cols l = 0) (ho : opE cols (tab0 x) = 0) : ∀ r' ∈ (applyT cols l x).1, (r' ∈ l ∧ r'.key ≠ x.key) ∨ ∃ R, r' = chgT R x ∧ R.key = x.key ∧ (R ∈ l ∨ R = ⟨x.key, [], List.replicate cols.length zCel⟩ ∧ ∀ r ∈ l, r.key ≠ x.key) ∧ Right cols R := by
  have hr := (chk_0 hck).2
  obtain ⟨n, hn, o⟩ := opR ho
  obtain ⟨w1, w2⟩ := withK_spec hr o.key
  have w1 : rowsB cols (withK cols l x.key) = true := w1
  have w2 : (gN (withK cols l x.key) (posK l x.key)).key = x.key := w2
  have hk := withK_lt cols l x.key
  rw [apply_e hck ho]
  intro r' hr'
  obtain ⟨i, hi, rfl⟩ := gN_mem_iff.1 hr'
  have hi' : i < (withK cols l x.key).length := by simpa using hi
  by_cases hik : i = posK l x.key
  · right
    subst hik
    refine ⟨gN (withK cols l x.key) (posK l x.key), gN_set hk _, w2, ?_, right_iff.1 (rows_at w1 hk).1⟩
    rcases withK_at cols l x.key with ⟨h1, h2⟩ | ⟨h1, _, h3⟩
    · left; rw [h2]; exact gN_mem (isK_true h1).1
    · right
      refine ⟨h3, fun r hrl e => ?_⟩
      obtain ⟨j, hj, rfl⟩ := gN_mem_iff.1 hrl
      have := (posK_at hr hj).2
      rw [e, h1] at this; cases this
  · left
    have e : gN ((withK cols l x.key).set (posK l x.key) (chgT (gN (withK cols l x.key) (posK l x.key)) x)) i = gN (withK cols l x.key) i := by
      rw [gN_eq hi, gN_eq hi', List.getElem_set_ne (by omega)]
    rw [e]
    refine ⟨withK_old hi' hik, fun e2 => hik (keys_inj w1 hi' hk (e2.trans w2.symm))⟩
theorem apply_keep {cols : List Int} {l : List Rwx} {x : Opz} (hck : checkT cols l = 0) (ho : opE cols (tab0 x) = 0) : (∃ r' ∈ (applyT cols l x).1, r'.key = x.key) ∧ ∀ r ∈ l, ∃ r' ∈ (applyT cols l x).1, r'.key = r.key := by
  have hr := (chk_0 hck).2
  obtain ⟨n, hn, o⟩ := opR ho
  obtain ⟨w1, w2⟩ := withK_spec hr o.key
  have w2 : (gN (withK cols l x.key) (posK l x.key)).key = x.key := w2
  have hk := withK_lt cols l x.key
  rw [apply_e hck ho]
  have hm : ∀ i, i < (withK cols l x.key).length → ∃ r' ∈ (withK cols l x.key).set (posK l x.key) (chgT (gN (withK cols l x.key) (posK l x.key)) x), r'.key = (gN (withK cols l x.key) i).key := fun i hi => by
    refine ⟨gN ((withK cols l x.key).set (posK l x.key) (chgT (gN (withK cols l x.key) (posK l x.key)) x)) i, gN_mem (by simpa using hi), ?_⟩
    by_cases hik : i = posK l x.key
    · subst hik; rw [gN_set hk, chgT_key]
    · rw [gN_eq (by simpa using hi), List.getElem_set_ne (by omega), ← gN_eq hi]
  refine ⟨?_, fun r hrl => ?_⟩
  · obtain ⟨r', h1, h2⟩ := hm _ hk
    exact ⟨r', h1, h2.trans w2⟩
  · have : r ∈ withK cols l x.key := by
      rcases withK_at cols l x.key with ⟨_, h2⟩ | ⟨_, h2, _⟩
      · rw [h2]; exact hrl
      · rw [h2]
        have : l = l.take (posK l x.key) ++ l.drop (posK l x.key) := (List.take_append_drop _ _).symm
        rw [this] at hrl
        rcases List.mem_append.1 hrl with h | h
        · exact List.mem_append_left _ h
        · exact List.mem_append_right _ (List.mem_cons_of_mem _ h)
    obtain ⟨i, hi, rfl⟩ := gN_mem_iff.1 this
    exact hm i hi
theorem apply_len {cols : List Int} {l : List Rwx} {x : Opz} (hck : checkT cols l = 0) (ho : opE cols (tab0 x) = 0) : (applyT cols l x).1.length ≤ l.length + 1 := by
  rw [apply_e hck ho, List.length_set, withK_len]; split <;> omega
def ltT (a b : St3) : Prop := a.p < b.p ∨ a.p = b.p ∧ (a.l < b.l ∨ a.l = b.l ∧ a.q < b.q)
theorem cmpT_r (a b : St3) : (cmpT a b = -1 ∧ ltT a b) ∨ (cmpT a b = 0 ∧ a = b) ∨ (cmpT a b = 1 ∧ ltT b a) := by
  unfold cmpT ltT
  rcases cmpI_r' a.p b.p with ⟨e, h⟩ | ⟨e, h⟩ | ⟨e, h⟩
  · rw [e, orV_ne (by omega)]; exact .inl ⟨rfl, .inl h⟩
  · rw [e, orV_0]
    rcases cmpI_r' a.l b.l with ⟨e2, h2⟩ | ⟨e2, h2⟩ | ⟨e2, h2⟩
    · rw [e2, orV_ne (by omega)]; exact .inl ⟨rfl, .inr ⟨h, .inl h2⟩⟩
    · rw [e2, orV_0]
      rcases cmpI_r' a.q b.q with ⟨e3, h3⟩ | ⟨e3, h3⟩ | ⟨e3, h3⟩
      · rw [e3, orV_ne (by omega)]; exact .inl ⟨rfl, .inr ⟨h, .inr ⟨h2, h3⟩⟩⟩
      · rw [e3, orV_0]; refine .inr (.inl ⟨rfl, ?_⟩)
        cases a; cases b; simp at h h2 h3 ⊢; exact ⟨h, h2, h3⟩
      · rw [e3, orV_ne (by omega)]; exact .inr (.inr ⟨rfl, .inr ⟨h.symm, .inr ⟨h2.symm, h3⟩⟩⟩)
    · rw [e2, orV_ne (by omega)]; exact .inr (.inr ⟨rfl, .inr ⟨h.symm, .inl h2⟩⟩)
  · rw [e, orV_ne (by omega)]; exact .inr (.inr ⟨rfl, .inl h⟩)
theorem ltT_trans {a b c : St3} (h1 : ltT a b) (h2 : ltT b c) : ltT a c := by unfold ltT at *; omega
theorem ltT_irr (a : St3) : ¬ ltT a a := by unfold ltT; omega
def leT (a b : St3) : Prop := ¬ 0 < cmpT a b
theorem leT_iff {a b : St3} : leT a b ↔ ltT a b ∨ a = b := by
  unfold leT
  rcases cmpT_r a b with ⟨e, h⟩ | ⟨e, h⟩ | ⟨e, h⟩
  · exact ⟨fun _ => .inl h, fun _ => by omega⟩
  · exact ⟨fun _ => .inr h, fun _ => by omega⟩
  · refine ⟨fun h2 => by omega, ?_⟩
    rintro (h2 | h2)
    · exact (ltT_irr _ (ltT_trans h h2)).elim
    · rw [h2] at h; exact (ltT_irr _ h).elim
theorem leT_refl (a : St3) : leT a a := leT_iff.2 (.inr rfl)
theorem leT_trans {a b c : St3} (h1 : leT a b) (h2 : leT b c) : leT a c := by
  rw [leT_iff] at *
  rcases h1 with h1 | rfl
  · rcases h2 with h2 | rfl
    · exact .inl (ltT_trans h1 h2)
    · exact .inl h1
  · exact h2
theorem cmpT_neg {a b : St3} : cmpT a b < 0 ↔ ltT a b := by
  rcases cmpT_r a b with ⟨e, h⟩ | ⟨e, h⟩ | ⟨e, h⟩
  · exact ⟨fun _ => h, fun _ => by omega⟩
  · exact ⟨fun h2 => by omega, fun h2 => by rw [h] at h2; exact (ltT_irr _ h2).elim⟩
  · exact ⟨fun h2 => by omega, fun h2 => (ltT_irr _ (ltT_trans h h2)).elim⟩
theorem leT_0 {s : St3} (h : okS s = true) : leT ⟨0, 0, 0⟩ s := by
  rw [leT_iff]
  unfold okS at h
  simp at h
  unfold ltT
  rcases s with ⟨p, l, q⟩
  simp at h ⊢
  omega
theorem cell_zero {c : Cel} {t : Int} (h : cellB c t = true) (hw : writ c = false) : c.st = ⟨0, 0, 0⟩ := by
  unfold cellB at h
  rw [hw] at h
  unfold isZ at h
  simp at h
  rcases c with ⟨v, ⟨p, l, q⟩, d⟩
  simp at h ⊢
  exact ⟨h.2.2.2.1, h.2.2.2.2.1, h.2.2.2.2.2.1⟩
theorem wr_late {c : Cel} {v : Vl} {x : Opz} {t : Int} (hc : cellB c t = true) (hx : okS x.st = true) : leT c.st (wrCel c v x).st ∧ leT x.st (wrCel c v x).st := by
  unfold wrCel
  split
  · rename_i h
    refine ⟨?_, leT_refl _⟩
    unfold wrB at h
    cases hw : writ c with
    | false => show leT c.st x.st; rw [cell_zero hc hw]; exact leT_0 hx
    | true =>
      rw [hw] at h
      have : cmpT c.st x.st < 0 := by simpa using h
      exact leT_iff.2 (.inl (cmpT_neg.1 this))
  · rename_i h
    refine ⟨leT_refl _, ?_⟩
    unfold wrB at h
    simp only [Bool.or_eq_true, decide_eq_true_eq, not_or] at h
    have h2 := h.2
    rcases cmpT_r c.st x.st with ⟨e, _⟩ | ⟨_, e⟩ | ⟨_, e⟩
    · omega
    · exact leT_iff.2 (.inr e.symm)
    · exact leT_iff.2 (.inl e)
end Go.Proofs.YtbojpedklnmidaaGreat.D
end
section
set_option linter.unusedVariables false
set_option linter.unusedSimpArgs false
set_option linter.constructorNameAsVariable false
set_option maxRecDepth 100000

/- What is there: plain law. No condition. -/
namespace Go.Proofs.YtbojpedklnmidaaGreat.D
open Go Go.Proofs
open Nat (reduceAdd reduceEqDiff reduceLeDiff)
open Int (reduceLE reduceEq reduceNeg reduceToNat)
@[reducible] def oz (x : Opx) : Opz := ⟨x, false⟩
def delS (d : Dt) (t : Bool) (l : List Dt) : Bool := l.foldl (fun t e => t && !sameD e d) t
def thereS (key : ByteArray) (d : Dt) (t : Bool) (x : Opx) : Bool := if x.key.toList = key.toList then (if x.kind = 3 then delS d (if x.kind = 1 && sameD x.dot d then true else t) x.dots else (if x.kind = 1 && sameD x.dot d then true else t)) else t
def thereB (D : List Opx) (key : ByteArray) (d : Dt) : Bool := D.foldl (thereS key d) false
theorem thereB_snoc (D : List Opx) (x : Opx) (key : ByteArray) (d : Dt) : thereB (D ++ [x]) key d = thereS key d (thereB D key d) x := by
  unfold thereB; rw [List.foldl_append]; rfl
theorem delS_t {d : Dt} {l : List Dt} (h : inD l d = false) : delS d true l = true := by
  unfold delS
  induction l with
  | nil => rfl
  | cons e l ih =>
    unfold inD at h ih
    rw [List.any_cons, Bool.or_eq_false_iff] at h
    rw [List.foldl_cons]
    have : sameD e d = false := by
      have := h.1
      unfold eqD at this
      unfold sameD
      simp at this ⊢
      intro h1 h2; exact this h1.symm h2.symm
    rw [this]
    exact ih h.2
def wroteB (key : ByteArray) (c : Nat) (x : Opx) : Prop := x.key = key ∧ (x.kind = 1 ∨ x.kind = 2 ∧ x.col = c)
structure ThI (cols : List Int) (D : List Opx) (rows : List Rwx) : Prop where
  chk : checkT cols rows = 0
  few : rows.length ≤ D.length
  keyed : ∀ x ∈ D, ∃ r ∈ rows, r.key = x.key
  short : ∀ r ∈ rows, r.dots.length ≤ D.length
  dots : ∀ r ∈ rows, ∀ d ∈ r.dots, thereB D r.key d = true
  late : ∀ r ∈ rows, ∀ c, c < r.cells.length → ∀ x ∈ D, wroteB r.key c x → leT x.st (gN r.cells c).st
theorem ThI.nil {cols : List Int} (h : formE cols = 0) : ThI cols [] [] := ⟨chk_nil h, Nat.le_refl _, (fun x hx => nomatch hx), (fun r hr => nomatch hr), (fun r hr => nomatch hr), (fun r hr => nomatch hr)⟩
theorem ThI.step {cols : List Int} {D : List Opx} {rows : List Rwx} {x : Opx} (h : ThI cols D rows) (ho : opE cols (tab0 (oz x)) = 0) : ThI cols (D ++ [x]) (applyT cols rows (oz x)).1 := by
  have hchk := apply_right h.chk ho
  have hrow := apply_row h.chk ho
  obtain ⟨hk1, hk2⟩ := apply_keep h.chk ho
  have hlen := apply_len h.chk ho
  obtain ⟨n, hn, o⟩ := opR ho
  have hw := whole_name o.whole hn
  have hst : okS x.st = true := hw.2
  have hold : ∀ R : Rwx, (R ∈ rows ∨ R = ⟨x.key, [], List.replicate cols.length zCel⟩ ∧ ∀ r ∈ rows, r.key ≠ x.key) → R.key = x.key → (R.dots.length ≤ D.length) ∧ (∀ d ∈ R.dots, thereB D R.key d = true) ∧ ∀ c, c < R.cells.length → ∀ y ∈ D, wroteB R.key c y → leT y.st (gN R.cells c).st := by
    rintro R (hR | ⟨rfl, hno⟩) hRk
    · exact ⟨h.short R hR, h.dots R hR, h.late R hR⟩
    · refine ⟨Nat.zero_le _, (fun d hd => nomatch hd), fun c hc y hy hwr => ?_⟩
      obtain ⟨r, hr, he⟩ := h.keyed y hy
      exact (hno r hr (he.trans hwr.1)).elim
  refine ⟨hchk, by rw [List.length_append]; have := h.few; simp; omega, fun y hy => ?_, fun r hr => ?_, fun r hr d hd => ?_, fun r hr c hc y hy hwr => ?_⟩
  · rcases List.mem_append.1 hy with hy | hy
    · obtain ⟨r, hr, he⟩ := h.keyed y hy
      obtain ⟨r', hr', he'⟩ := hk2 r hr
      exact ⟨r', hr', he'.trans he⟩
    · obtain ⟨r', hr', he'⟩ := hk1
      simp at hy; subst hy
      exact ⟨r', hr', he'⟩
  · rw [List.length_append]
    rcases hrow r hr with ⟨hl, _⟩ | ⟨R, rfl, hRk, hRR, hRt⟩
    · have := h.short r hl; simp; omega
    · have hR1 := (hold R hRR hRk).1
      have hc : (chgT R (oz x)).dots.length ≤ R.dots.length + 1 := by
        unfold chgT
        split
        · exact (insD_pos _ _).2
        · split
          · exact Nat.le_succ _
          · split
            · exact Nat.le_trans (List.length_filter_le _ _) (Nat.le_succ _)
            · exact Nat.le_succ _
      simp; omega
  · rw [thereB_snoc]
    rcases hrow r hr with ⟨hl, hne⟩ | ⟨R, rfl, hRk, hRR, hRt⟩
    · unfold thereS
      rw [if_neg (by rw [toL_iff]; exact fun e => hne e.symm)]
      exact h.dots r hl d hd
    · rw [chgT_key]
      have hR2 := (hold R hRR hRk).2.1
      unfold thereS
      rw [if_pos (by rw [toL_iff]; exact hRk.symm)]
      rcases o.kind with ⟨k, _⟩ | ⟨k, _⟩ | ⟨k, _⟩
      · have k : x.kind = 1 := k
        rw [if_neg (by omega)]
        have e : chgT R (oz x) = ⟨R.key, insD R.dots x.dot, wrs R.cells x.vals (oz x)⟩ := by rw [chgT, if_pos k]
        rw [e] at hd
        split
        · rfl
        · rename_i hns
          rcases ((insD_spec (dotsB_iff.1 hRt.dots).2).2 d).1 hd with e | e
          · refine (hns ?_).elim
            subst e; simp [k, sameD]
          · exact hR2 d e
      · have k : x.kind = 2 := k
        rw [if_neg (by omega), if_neg (by simp; omega)]
        have e : chgT R (oz x) = ⟨R.key, R.dots, R.cells.set x.col.toNat (wrCel (gN R.cells x.col.toNat) (gN x.vals 0) (oz x))⟩ := by rw [chgT, if_neg (by show ¬ x.kind = 1; omega), if_pos k]
        rw [e] at hd
        exact hR2 d hd
      · have k : x.kind = 3 := k
        rw [if_pos k, if_neg (by simp; omega)]
        have e : chgT R (oz x) = ⟨R.key, R.dots.filter fun d => !inD x.dots d, R.cells⟩ := by rw [chgT, if_neg (by show ¬ x.kind = 1; omega), if_neg (by show ¬ x.kind = 2; omega), if_pos k]
        rw [e] at hd
        obtain ⟨d1, d2⟩ := List.mem_filter.1 hd
        rw [hR2 d d1]
        exact delS_t (by simpa using d2)
  · rcases hrow r hr with ⟨hl, hne⟩ | ⟨R, rfl, hRk, hRR, hRt⟩
    · rcases List.mem_append.1 hy with hy | hy
      · exact h.late r hl c hc y hy hwr
      · simp at hy; subst hy
        exact (hne hwr.1.symm).elim
    · have hR3 := (hold R hRR hRk).2.2
      obtain ⟨ca, cb⟩ := allG_at hRt.cells
      rw [chgT_key] at hwr
      rcases o.kind with ⟨k, k2, _⟩ | ⟨k, k2, k3, k4, _⟩ | ⟨k, _⟩
      · have k : x.kind = 1 := k
        have e : chgT R (oz x) = ⟨R.key, insD R.dots x.dot, wrs R.cells x.vals (oz x)⟩ := by rw [chgT, if_pos k]
        rw [e] at hc ⊢
        have hc : c < R.cells.length := by simpa [wrs_len] using hc
        have hvl : x.vals.length = cols.length := small_len k2
        show leT y.st (gN (wrs R.cells x.vals (oz x)) c).st
        rw [wrs_at hc, if_pos (by omega)]
        obtain ⟨l1, l2⟩ := wr_late (v := gN x.vals c) (x := oz x) (cb c hc) hst
        rcases List.mem_append.1 hy with hy | hy
        · exact leT_trans (hR3 c hc y hy hwr) l1
        · simp at hy; subst hy; exact l2
      · have k : x.kind = 2 := k
        have k2 : 0 ≤ x.col := k2
        have k3 : x.col < cols.length := k3
        have e : chgT R (oz x) = ⟨R.key, R.dots, R.cells.set x.col.toNat (wrCel (gN R.cells x.col.toNat) (gN x.vals 0) (oz x))⟩ := by rw [chgT, if_neg (by show ¬ x.kind = 1; omega), if_pos k]
        rw [e] at hc ⊢
        have hc : c < R.cells.length := by simpa using hc
        show leT y.st (gN (R.cells.set x.col.toNat (wrCel (gN R.cells x.col.toNat) (gN x.vals 0) (oz x))) c).st
        by_cases hcc : c = x.col.toNat
        · subst hcc
          rw [gN_set hc]
          obtain ⟨l1, l2⟩ := wr_late (v := gN x.vals 0) (x := oz x) (cb _ hc) hst
          rcases List.mem_append.1 hy with hy | hy
          · exact leT_trans (hR3 _ hc y hy hwr) l1
          · simp at hy; subst hy; exact l2
        · have e2 : gN (R.cells.set x.col.toNat (wrCel (gN R.cells x.col.toNat) (gN x.vals 0) (oz x))) c = gN R.cells c := by
            rw [gN_eq (by simpa using hc), List.getElem_set_ne (by omega), ← gN_eq hc]
          rw [e2]
          rcases List.mem_append.1 hy with hy | hy
          · exact hR3 c hc y hy hwr
          · simp at hy; subst hy
            rcases hwr.2 with q | ⟨_, q⟩ <;> omega
      · have k : x.kind = 3 := k
        have e : chgT R (oz x) = ⟨R.key, R.dots.filter fun d => !inD x.dots d, R.cells⟩ := by rw [chgT, if_neg (by show ¬ x.kind = 1; omega), if_neg (by show ¬ x.kind = 2; omega), if_pos k]
        rw [e] at hc ⊢
        rcases List.mem_append.1 hy with hy | hy
        · exact hR3 c hc y hy hwr
        · simp at hy; subst hy
          rcases hwr.2 with q | ⟨q, _⟩ <;> omega
end Go.Proofs.YtbojpedklnmidaaGreat.D
end
section
set_option linter.unusedVariables false
set_option linter.unusedSimpArgs false
set_option linter.constructorNameAsVariable false
set_option maxRecDepth 100000

/- A row is seen just if it has dots: the walk. No condition. -/
namespace Go.Proofs.YtbojpedklnmidaaGreat.D
open Go Go.Proofs
open Nat (reduceAdd reduceEqDiff reduceLeDiff)
open Int (reduceLE reduceEq reduceNeg reduceToNat)
theorem StepO_ok {cols : List Int} {D : List Opx} {l : List Rwx} {x : Opx} (h : ThI cols D l) (hD : D.length ≤ 300) (hv : x.vals.length ≤ maxLen) (hd : x.dots.length ≤ maxLen) (hc : cols.length ≤ maxLen) : FnB Tryz.prog 12 [.ag (tbV cols), rws .b l, .ag (opV x)] (.tp [rws .o (applyT cols l (oz x)).1, vals .b (applyT cols l (oz x)).2.1, vals .b (applyT cols l (oz x)).2.2.1, vi (applyT cols l (oz x)).2.2.2]) := by
  have hf := h.few
  have hs := fun r hr => h.short r hr
  have hcl : ∀ r ∈ l, r.cells.length ≤ maxLen := fun r hr => by
    obtain ⟨i, hi, rfl⟩ := gN_mem_iff.1 hr
    have := (allG_at (right_iff.1 (rows_at (chk_0 h.chk).2 hi).1).cells).1
    omega
  exact Apply_ok (fl := .b) cols l (oz x) (by unfold maxLen; omega) (fun r hr => ⟨by have := hs r hr; unfold maxLen; omega, hcl r hr⟩) (fun r hr => by have := hs r hr; unfold maxLen; omega) hv hd
@[go_sem] theorem op_bsl_opV (z : List V) (x : Opx) (ob : OB) (i : Nat) (hz : (z.length == 12) = true) : opF (.bsl 12 z [0] 1 true) [.ag (opV x)] ob i = some (.im .b [opV x], []) := op_bsl_r ob i (by simpa using hz) (opV_row x)
@[go_sem] theorem len_rws' (f : Fl) (l : List Rwx) : lenOf (rws f l) = some l.length := by simp [rws, lenOf]
def RZ (v : V) (l : List Rwx) : Prop := v = rws .b l ∨ v = .z ∧ l = []
theorem RZ.res {v : V} {l : List Rwx} (h : RZ v l) (ob : OB) (m : Nat) : resV ob (m + 4) v = rws .b l := by
  rcases h with e | ⟨e, rfl⟩ <;> rw [e]
  · simp only [rws, resV, List.map_map]
    show V.im .b _ = _
    congr 1
    exact List.map_congr_left fun r _ => res_rw ob m r
  · rfl
theorem RZ.len {v : V} {l : List Rwx} (h : RZ v l) : lenOf v = some l.length := by
  rcases h with e | ⟨e, rfl⟩ <;> rw [e]
  · exact len_rws' .b l
  · rfl
theorem RZ.at {v : V} {l : List Rwx} (h : RZ v l) {k : Nat} (hk : k < l.length) : v = rws .b l := by
  rcases h with e | ⟨e, rfl⟩
  · exact e
  · simp at hk
set_option maxHeartbeats 4000000 in
attribute [-go_sem] cnC_b in
abbrev Tb := List Int
def gTb (c : Tb) : Prop := gList (gInt .i64) c
def gOpx (x : Opx) : Prop := gDt x.dot ∧ gList (gInt .i64) x.deps ∧ gSt3 x.st ∧ gInt .i64 x.kind ∧ gInt .i64 x.table ∧ gStr x.key ∧ gInt .i64 x.col ∧ gList gVl x.vals ∧ gList gDt x.dots
end Go.Proofs.YtbojpedklnmidaaGreat.D
end
section
set_option linter.unusedVariables false
set_option linter.unusedSimpArgs false
set_option linter.constructorNameAsVariable false
set_option maxRecDepth 100000

/- Whether an operation may be, as the page says. No condition. -/
namespace Go.Proofs.YtbojpedklnmidaaGreat.D
open Go Go.Proofs
open Nat (reduceAdd reduceEqDiff reduceLeDiff)
open Int (reduceLE reduceEq reduceNeg reduceToNat)
theorem RValueE_ok (v : Vl) : FnB Tryz.prog 105 [.ag (vlV v)] (vb (okVl v)) := by
  refine fnB_intro cf105 (by simp) ?_
  simp +contextual (maxSteps := 1000000) only [go_sem, ints, intRows, reduceAdd, Nat.reduceBEq, reduceEqDiff, reduceLeDiff, Nat.reduceLT, reduceIte, reduceLE, Int.reduceLT, reduceEq, reduceNeg, reduceToNat, ops, vals, dots, c105, vlV]
  refine ⟨fun h1 => ?_, fun h1 => ⟨fun h2 => ?_, fun h2 => ⟨fun h3 => ?_, fun h3 => ⟨fun h4 => ?_, fun h4 => ?_⟩⟩⟩⟩
  · unfold okVl; rw [if_pos (by simpa using h1)]
  · first | refine caS_i (inRef_ok v.i 0 1) trivial ?_ | refine caD_i (inRef_ok v.i 0 1) trivial ?_ | refine gC_i (fun _ => inRef_ok v.i 0 1) trivial ?_ | refine gCD_i (fun _ => inRef_ok v.i 0 1) trivial ?_ | refine caE_i (inRef_ok v.i 0 1) trivial ?_
    simp +contextual (maxSteps := 1000000) only [go_sem, ints, intRows, reduceAdd, Nat.reduceBEq, reduceEqDiff, reduceLeDiff, Nat.reduceLT, reduceIte, reduceLE, Int.reduceLT, reduceEq, reduceNeg, reduceToNat, ops, vals, dots]
    unfold okVl; rw [if_neg (by simpa using h1), if_pos (by simpa using h2)]
    have : decide (0 ≤ v.i ∧ v.i ≤ 1) = (decide (v.i = 0) || decide (v.i = 1)) := by rw [← Bool.decide_or]; congr 1; apply propext; omega
    rw [this]
  · first | refine caS_i (inRef_ok v.i (-1152921504606846976) 1152921504606846976) trivial ?_ | refine caD_i (inRef_ok v.i (-1152921504606846976) 1152921504606846976) trivial ?_ | refine gC_i (fun _ => inRef_ok v.i (-1152921504606846976) 1152921504606846976) trivial ?_ | refine gCD_i (fun _ => inRef_ok v.i (-1152921504606846976) 1152921504606846976) trivial ?_ | refine caE_i (inRef_ok v.i (-1152921504606846976) 1152921504606846976) trivial ?_
    simp +contextual (maxSteps := 1000000) only [go_sem, ints, intRows, reduceAdd, Nat.reduceBEq, reduceEqDiff, reduceLeDiff, Nat.reduceLT, reduceIte, reduceLE, Int.reduceLT, reduceEq, reduceNeg, reduceToNat, ops, vals, dots]
    unfold okVl; rw [if_neg (by simpa using h1), if_neg (by simpa using h2), if_pos (by simpa using h3)]
  · unfold okVl; rw [if_neg (by simpa using h1), if_neg (by simpa using h2), if_neg (by simpa using h3), if_pos (by simpa using h4)]
  · unfold okVl; rw [if_neg (by simpa using h1), if_neg (by simpa using h2), if_neg (by simpa using h3), if_neg (by simpa using h4)]
theorem RFits_ok (v : Vl) (t : Int) : FnB Tryz.prog 69 [.ag (vlV v), vi t] (vb (fitsV v t)) := by
  refine fnB_intro cf69 (by simp) ?_
  simp +contextual (maxSteps := 1000000) only [go_sem, ints, intRows, reduceAdd, Nat.reduceBEq, reduceEqDiff, reduceLeDiff, Nat.reduceLT, reduceIte, reduceLE, Int.reduceLT, reduceEq, reduceNeg, reduceToNat, ops, vals, dots, c69]
  first | refine caS_i (TypeR_ok t) trivial ?_ | refine caD_i (TypeR_ok t) trivial ?_ | refine gC_i (fun _ => TypeR_ok t) trivial ?_ | refine gCD_i (fun _ => TypeR_ok t) trivial ?_ | refine caE_i (TypeR_ok t) trivial ?_
  simp +contextual (maxSteps := 1000000) only [go_sem, ints, intRows, reduceAdd, Nat.reduceBEq, reduceEqDiff, reduceLeDiff, Nat.reduceLT, reduceIte, reduceLE, Int.reduceLT, reduceEq, reduceNeg, reduceToNat, ops, vals, dots]
  first | refine caS_i (RValueE_ok v) trivial ?_ | refine caD_i (RValueE_ok v) trivial ?_ | refine gC_i (fun _ => RValueE_ok v) trivial ?_ | refine gCD_i (fun _ => RValueE_ok v) trivial ?_ | refine caE_i (RValueE_ok v) trivial ?_
  simp +contextual (maxSteps := 1000000) only [go_sem, ints, intRows, reduceAdd, Nat.reduceBEq, reduceEqDiff, reduceLeDiff, Nat.reduceLT, reduceIte, reduceLE, Int.reduceLT, reduceEq, reduceNeg, reduceToNat, ops, vals, dots]
  unfold fitsV
  have : decide (2 ≤ t ∧ t ≤ 4) = (decide (t = 2) || decide (t = 3) || decide (t = 4)) := by
    rw [Bool.eq_iff_iff]; simp; omega
  rw [this]
theorem RSmall_ok (v : Vl) : FnB Tryz.prog 68 [.ag (vlV v)] (vb (smallV v)) := by
  refine fnB_intro cf68 (by simp) ?_
  simp +contextual (maxSteps := 1000000) only [go_sem, ints, intRows, reduceAdd, Nat.reduceBEq, reduceEqDiff, reduceLeDiff, Nat.reduceLT, reduceIte, reduceLE, Int.reduceLT, reduceEq, reduceNeg, reduceToNat, ops, vals, dots, c68]
  first | refine caS_i (RValueE_ok v) trivial ?_ | refine caD_i (RValueE_ok v) trivial ?_ | refine gC_i (fun _ => RValueE_ok v) trivial ?_ | refine gCD_i (fun _ => RValueE_ok v) trivial ?_ | refine caE_i (RValueE_ok v) trivial ?_
  simp +contextual (maxSteps := 1000000) only [go_sem, ints, intRows, reduceAdd, Nat.reduceBEq, reduceEqDiff, reduceLeDiff, Nat.reduceLT, reduceIte, reduceLE, Int.reduceLT, reduceEq, reduceNeg, reduceToNat, ops, vals, dots]
  first | refine caS_i (inRef_ok v.i (-2147483648) 2147483648) trivial ?_ | refine caD_i (inRef_ok v.i (-2147483648) 2147483648) trivial ?_ | refine gC_i (fun _ => inRef_ok v.i (-2147483648) 2147483648) trivial ?_ | refine gCD_i (fun _ => inRef_ok v.i (-2147483648) 2147483648) trivial ?_ | refine caE_i (inRef_ok v.i (-2147483648) 2147483648) trivial ?_
  simp +contextual (maxSteps := 1000000) only [go_sem, ints, intRows, reduceAdd, Nat.reduceBEq, reduceEqDiff, reduceLeDiff, Nat.reduceLT, reduceIte, reduceLE, Int.reduceLT, reduceEq, reduceNeg, reduceToNat, ops, vals, dots]
  unfold smallV
  cases okVl v <;> by_cases h3 : v.k = 3 <;> simp [h3]
theorem RStampK_ok (s : St3) : FnB Tryz.prog 66 [.ag (stV s)] (vb (okS s)) := by
  refine fnB_intro cf66 (by simp) ?_
  simp +contextual (maxSteps := 1000000) only [go_sem, ints, intRows, reduceAdd, Nat.reduceBEq, reduceEqDiff, reduceLeDiff, Nat.reduceLT, reduceIte, reduceLE, Int.reduceLT, reduceEq, reduceNeg, reduceToNat, ops, vals, dots, c66, stV]
  first | refine caS_i (inRef_ok s.p 0 1099511627776) trivial ?_ | refine caD_i (inRef_ok s.p 0 1099511627776) trivial ?_ | refine gC_i (fun _ => inRef_ok s.p 0 1099511627776) trivial ?_ | refine gCD_i (fun _ => inRef_ok s.p 0 1099511627776) trivial ?_ | refine caE_i (inRef_ok s.p 0 1099511627776) trivial ?_
  simp +contextual (maxSteps := 1000000) only [go_sem, ints, intRows, reduceAdd, Nat.reduceBEq, reduceEqDiff, reduceLeDiff, Nat.reduceLT, reduceIte, reduceLE, Int.reduceLT, reduceEq, reduceNeg, reduceToNat, ops, vals, dots]
  first | refine caS_i (inRef_ok s.l 0 65536) trivial ?_ | refine caD_i (inRef_ok s.l 0 65536) trivial ?_ | refine gC_i (fun _ => inRef_ok s.l 0 65536) trivial ?_ | refine gCD_i (fun _ => inRef_ok s.l 0 65536) trivial ?_ | refine caE_i (inRef_ok s.l 0 65536) trivial ?_
  simp +contextual (maxSteps := 1000000) only [go_sem, ints, intRows, reduceAdd, Nat.reduceBEq, reduceEqDiff, reduceLeDiff, Nat.reduceLT, reduceIte, reduceLE, Int.reduceLT, reduceEq, reduceNeg, reduceToNat, ops, vals, dots]
  first | refine caS_i (inRef_ok s.q 0 4) trivial ?_ | refine caD_i (inRef_ok s.q 0 4) trivial ?_ | refine gC_i (fun _ => inRef_ok s.q 0 4) trivial ?_ | refine gCD_i (fun _ => inRef_ok s.q 0 4) trivial ?_ | refine caE_i (inRef_ok s.q 0 4) trivial ?_
  simp +contextual (maxSteps := 1000000) only [go_sem, ints, intRows, reduceAdd, Nat.reduceBEq, reduceEqDiff, reduceLeDiff, Nat.reduceLT, reduceIte, reduceLE, Int.reduceLT, reduceEq, reduceNeg, reduceToNat, ops, vals, dots]
  rfl
theorem RKeyK_ok (k : ByteArray) : FnB Tryz.prog 67 [.c (.string k)] (vb (keyB k)) := by
  refine fnB_intro cf67 (by simp) ?_
  simp +contextual (maxSteps := 1000000) only [go_sem, ints, intRows, reduceAdd, Nat.reduceBEq, reduceEqDiff, reduceLeDiff, Nat.reduceLT, reduceIte, reduceLE, Int.reduceLT, reduceEq, reduceNeg, reduceToNat, ops, vals, dots, c67]
  first | refine caS_i (inRef_ok (k.size : Int) 1 12) trivial ?_ | refine caD_i (inRef_ok (k.size : Int) 1 12) trivial ?_ | refine gC_i (fun _ => inRef_ok (k.size : Int) 1 12) trivial ?_ | refine gCD_i (fun _ => inRef_ok (k.size : Int) 1 12) trivial ?_ | refine caE_i (inRef_ok (k.size : Int) 1 12) trivial ?_
  simp +contextual (maxSteps := 1000000) only [go_sem, ints, intRows, reduceAdd, Nat.reduceBEq, reduceEqDiff, reduceLeDiff, Nat.reduceLT, reduceIte, reduceLE, Int.reduceLT, reduceEq, reduceNeg, reduceToNat, ops, vals, dots]
  unfold keyB
  rw [← Bool.decide_and]
def rightX (n : Int) (f : List (List Int)) (x : Opx) : Bool := decide (0 ≤ x.table ∧ x.table < f.length) && rightO n (gN f x.table.toNat) (tab0 (oz x))
end Go.Proofs.YtbojpedklnmidaaGreat.D
end
section
set_option linter.unusedVariables false
set_option linter.unusedSimpArgs false
set_option linter.constructorNameAsVariable false
set_option maxRecDepth 100000

/- Whether an operation may be, as the page says: the walk. No condition. -/
namespace Go.Proofs.YtbojpedklnmidaaGreat.D
open Go Go.Proofs
open Nat (reduceAdd reduceEqDiff reduceLeDiff)
open Int (reduceLE reduceEq reduceNeg reduceToNat)
theorem ite_or' (c b : Bool) : (if c = true then b else true) = (!c || b) := by cases c <;> rfl
theorem ite_and' (c b : Bool) : (if c = true then b else false) = (c && b) := by cases c <;> rfl
set_option maxHeartbeats 4000000 in
attribute [-go_sem] cnC_b in
theorem ROp_ok (n : Int) (f : List (List Int)) (x : Opx) (hn : 1 ≤ n ∧ n ≤ 5) (hf : 1 ≤ f.length ∧ f.length ≤ maxLen) (hc : ∀ c ∈ f, c.length ≤ 4) (hv : x.vals.length ≤ maxLen) (hd : x.dots.length ≤ maxLen) : FnB Tryz.prog 33 [vi n, tbs .b f, .ag (opV x)] (vb (rightX n f x)) := by
  unfold maxLen at *
  refine fnB_intro cf33 (by simp) ?_
  have wn : IntKind.i64.wrap (n - 1) = n - 1 := w64 (by omega)
  have wf : IntKind.i64.wrap ((f.length : Int) - 1) = f.length - 1 := w64 (by omega)
  simp +contextual (maxSteps := 1000000) only [go_sem, ints, intRows, reduceAdd, Nat.reduceBEq, reduceEqDiff, reduceLeDiff, Nat.reduceLT, reduceIte, reduceLE, Int.reduceLT, reduceEq, reduceNeg, reduceToNat, ops, vals, dots, c33, tbs, wn, wf]
  first | refine caS_i (inRef_ok x.dot.p 0 (n - 1)) trivial ?_ | refine caD_i (inRef_ok x.dot.p 0 (n - 1)) trivial ?_ | refine gC_i (fun _ => inRef_ok x.dot.p 0 (n - 1)) trivial ?_ | refine gCD_i (fun _ => inRef_ok x.dot.p 0 (n - 1)) trivial ?_ | refine caE_i (inRef_ok x.dot.p 0 (n - 1)) trivial ?_
  simp +contextual (maxSteps := 1000000) only [go_sem, ints, intRows, reduceAdd, Nat.reduceBEq, reduceEqDiff, reduceLeDiff, Nat.reduceLT, reduceIte, reduceLE, Int.reduceLT, reduceEq, reduceNeg, reduceToNat, ops, vals, dots, wn, wf]
  first | refine caS_i (inRef_ok x.dot.n 1 1073741824) trivial ?_ | refine caD_i (inRef_ok x.dot.n 1 1073741824) trivial ?_ | refine gC_i (fun _ => inRef_ok x.dot.n 1 1073741824) trivial ?_ | refine gCD_i (fun _ => inRef_ok x.dot.n 1 1073741824) trivial ?_ | refine caE_i (inRef_ok x.dot.n 1 1073741824) trivial ?_
  simp +contextual (maxSteps := 1000000) only [go_sem, ints, intRows, reduceAdd, Nat.reduceBEq, reduceEqDiff, reduceLeDiff, Nat.reduceLT, reduceIte, reduceLE, Int.reduceLT, reduceEq, reduceNeg, reduceToNat, ops, vals, dots, wn, wf]
  first | refine caS_i (Vector_ok x.deps) trivial ?_ | refine caD_i (Vector_ok x.deps) trivial ?_ | refine gC_i (fun _ => Vector_ok x.deps) trivial ?_ | refine gCD_i (fun _ => Vector_ok x.deps) trivial ?_ | refine caE_i (Vector_ok x.deps) trivial ?_
  simp +contextual (maxSteps := 1000000) only [go_sem, ints, intRows, reduceAdd, Nat.reduceBEq, reduceEqDiff, reduceLeDiff, Nat.reduceLT, reduceIte, reduceLE, Int.reduceLT, reduceEq, reduceNeg, reduceToNat, ops, vals, dots, wn, wf]
  have hbd : ((if decide (0 ≤ x.dot.p ∧ x.dot.p ≤ n - 1) = true then !decide (1 ≤ x.dot.n ∧ x.dot.n ≤ 1073741824) else true) || !decide ((x.deps.length : Int) = n) || !decide (vecE x.deps = 0)) = false → 0 ≤ x.dot.p ∧ x.dot.p < (x.deps.length : Int) := fun h => by
    simp only [Bool.or_eq_false_iff] at h
    have h1 := h.1.1
    have h2 := h.1.2
    simp at h2
    split at h1
    · rename_i h3; simp at h3; omega
    · simp at h1
  refine ⟨hbd, ?_⟩
  first | refine caS_i (RStampK_ok x.st) trivial ?_ | refine caD_i (RStampK_ok x.st) trivial ?_ | refine gC_i (fun _ => RStampK_ok x.st) trivial ?_ | refine gCD_i (fun _ => RStampK_ok x.st) trivial ?_ | refine caE_i (RStampK_ok x.st) trivial ?_
  simp +contextual (maxSteps := 1000000) only [go_sem, ints, intRows, reduceAdd, Nat.reduceBEq, reduceEqDiff, reduceLeDiff, Nat.reduceLT, reduceIte, reduceLE, Int.reduceLT, reduceEq, reduceNeg, reduceToNat, ops, vals, dots, wn, wf]
  first | refine caS_i (inRef_ok x.table 0 ((f.length : Int) - 1)) trivial ?_ | refine caD_i (inRef_ok x.table 0 ((f.length : Int) - 1)) trivial ?_ | refine gC_i (fun _ => inRef_ok x.table 0 ((f.length : Int) - 1)) trivial ?_ | refine gCD_i (fun _ => inRef_ok x.table 0 ((f.length : Int) - 1)) trivial ?_ | refine caE_i (inRef_ok x.table 0 ((f.length : Int) - 1)) trivial ?_
  simp +contextual (maxSteps := 1000000) only [go_sem, ints, intRows, reduceAdd, Nat.reduceBEq, reduceEqDiff, reduceLeDiff, Nat.reduceLT, reduceIte, reduceLE, Int.reduceLT, reduceEq, reduceNeg, reduceToNat, ops, vals, dots, wn, wf]
  first | refine caS_i (RKeyK_ok x.key) trivial ?_ | refine caD_i (RKeyK_ok x.key) trivial ?_ | refine gC_i (fun _ => RKeyK_ok x.key) trivial ?_ | refine gCD_i (fun _ => RKeyK_ok x.key) trivial ?_ | refine caE_i (RKeyK_ok x.key) trivial ?_
  simp +contextual (maxSteps := 1000000) only [go_sem, ints, intRows, reduceAdd, Nat.reduceBEq, reduceEqDiff, reduceLeDiff, Nat.reduceLT, reduceIte, reduceLE, Int.reduceLT, reduceEq, reduceNeg, reduceToNat, ops, vals, dots, wn, wf, tbs]
  have hgd : ((if decide (0 ≤ x.dot.p ∧ x.dot.p ≤ n - 1) = true then !decide (1 ≤ x.dot.n ∧ x.dot.n ≤ 1073741824) else true) || !decide ((x.deps.length : Int) = n) || !decide (vecE x.deps = 0) || !decide (gN x.deps x.dot.p.toNat = IntKind.i64.wrap (x.dot.n - 1)) || !okS x.st || !decide (x.st.q = x.dot.p) || !decide (0 ≤ x.table ∧ x.table ≤ (f.length : Int) - 1) || !keyB x.key) = !(wholeB n (oz x) && decide (0 ≤ x.table ∧ x.table < f.length) && keyB x.key) := by
    have e1 : decide (0 ≤ x.table ∧ x.table ≤ (f.length : Int) - 1) = decide (0 ≤ x.table ∧ x.table < f.length) := by rw [decide_eq_decide]; omega
    have e2 : decide (0 ≤ x.dot.p ∧ x.dot.p ≤ n - 1) = (decide (0 ≤ x.dot.p) && decide (x.dot.p < n)) := by rw [← Bool.decide_and, decide_eq_decide]; omega
    have e3 : decide (1 ≤ x.dot.n ∧ x.dot.n ≤ 1073741824) = (decide (1 ≤ x.dot.n) && decide (x.dot.n ≤ 1073741824)) := by rw [← Bool.decide_and]
    unfold wholeB
    rw [e1, e2, e3]
    by_cases hx : 1 ≤ x.dot.n ∧ x.dot.n ≤ 1073741824
    · have hw : IntKind.i64.wrap (x.dot.n - 1) = x.dot.n - 1 := w64 (by omega)
      rw [hw]
      show _ = !(_ && _ && _ && _ && decide ((x.deps.length : Int) = n) && decide (vecE x.deps = 0) && decide (gN x.deps x.dot.p.toNat = x.dot.n - 1) && okS x.st && decide (x.st.q = x.dot.p) && _ && _)
      have d1 : decide (1 ≤ x.dot.n) = true := by simp; omega
      have d2 : decide (x.dot.n ≤ 1073741824) = true := by simp; omega
      rw [d1, d2]
      cases decide (0 ≤ x.dot.p) <;> cases decide (x.dot.p < n) <;> simp
    · have : decide (1 ≤ x.dot.n) = false ∨ decide (x.dot.n ≤ 1073741824) = false := by simp; omega
      rcases this with h | h <;> rw [h] <;> simp
  rw [hgd]
  generalize hw : wholeB n (oz x) = wh
  generalize ht : decide (0 ≤ x.table ∧ x.table < f.length) = tb
  generalize hk : keyB x.key = ky
  have hr : rightX n f x = (tb && (wh && true && ky && (if x.kind = 1 then smallBs x.vals (gN f x.table.toNat) && decide (x.col = 0) && decide (x.dots.length = 0)
   else if x.kind = 2 then decide (0 ≤ x.col ∧ x.col < (gN f x.table.toNat).length) && smallBs x.vals [gN (gN f x.table.toNat) x.col.toNat] && decide (x.dots.length = 0)
   else if x.kind = 3 then decide (1 ≤ x.dots.length ∧ x.dots.length ≤ 64) && hadB x.deps x.dots && decide (x.col = 0) && decide (x.vals.length = 0) else false))) := by
    rw [← hw, ← ht, ← hk]; rfl
  cases hall : (wh && tb && ky) with
  | false =>
    simp +contextual (maxSteps := 1000000) only [go_sem, ints, intRows, reduceAdd, Nat.reduceBEq, reduceEqDiff, reduceLeDiff, Nat.reduceLT, reduceIte, reduceLE, Int.reduceLT, reduceEq, reduceNeg, reduceToNat, ops, vals, dots]
    rw [hr]
    cases wh <;> cases tb <;> cases ky <;> simp_all
  | true =>
    obtain ⟨⟨rfl, rfl⟩, rfl⟩ : (wh = true ∧ tb = true) ∧ ky = true := by simpa using hall
    have ht' : 0 ≤ x.table ∧ x.table < f.length := by simpa using ht
    have hcl : (gN f x.table.toNat).length ≤ 4 := hc _ (gN_mem (by omega))
    simp only [Bool.true_and] at hr
    simp +contextual (maxSteps := 1000000) only [go_sem, ints, intRows, reduceAdd, Nat.reduceBEq, reduceEqDiff, reduceLeDiff, Nat.reduceLT, reduceIte, reduceLE, Int.reduceLT, reduceEq, reduceNeg, reduceToNat, ops, vals, dots, tbs, ia_h]
    generalize hcols : gN f x.table.toNat = cols at *
    clear hgd hbd hall wf wn hf
    refine ⟨ht', ⟨fun h1 => ?_, fun h1 => ?_⟩⟩
    · have h1 : x.kind = 1 := by simpa using h1
      rw [if_pos h1] at hr
      simp +contextual (maxSteps := 1000000) only [go_sem, ints, intRows, reduceAdd, Nat.reduceBEq, reduceEqDiff, reduceLeDiff, Nat.reduceLT, reduceIte, reduceLE, Int.reduceLT, reduceEq, reduceNeg, reduceToNat, ops, vals, dots, ia_h]
      refine ⟨fun hb => ?_, fun hb => ?_⟩
      · simp +contextual (maxSteps := 1000000) only [go_sem, ints, intRows, reduceAdd, Nat.reduceBEq, reduceEqDiff, reduceLeDiff, Nat.reduceLT, reduceIte, reduceLE, Int.reduceLT, reduceEq, reduceNeg, reduceToNat, ops, vals, dots]
        rw [hr, smallBs, allG]
        by_cases hl : x.vals.length = cols.length
        · have : (decide (x.col = 0) && decide (x.dots.length = 0)) = false := by
            rw [ite_or'] at hb; simp only [Bool.or_eq_true, Bool.not_eq_true', decide_eq_true_eq, decide_eq_false_iff_not, Bool.and_eq_false_iff] at hb ⊢; omega
          rw [Bool.and_assoc, this, Bool.and_false]
        · rw [decide_eq_false (fun h => hl h.1)]; simp
      obtain ⟨hl, hcol, hds⟩ : x.vals.length = cols.length ∧ x.col = 0 ∧ x.dots.length = 0 := by
        rw [ite_or'] at hb; simp only [Bool.or_eq_false_iff, Bool.not_eq_false', decide_eq_true_eq, decide_eq_false_iff_not] at hb; omega
      have hr2 : rightX n f x = smallBs x.vals cols := by rw [hr, hcol, hds]; simp
      clear hr hb
      simp +contextual (maxSteps := 1000000) only [go_sem, ints, intRows, reduceAdd, Nat.reduceBEq, reduceEqDiff, reduceLeDiff, Nat.reduceLT, reduceIte, reduceLE, Int.reduceLT, reduceEq, reduceNeg, reduceToNat, ops, vals, dots]
      refine wpC_lp (fun env ob nn => env 5 = .pt 0 0 0 ∧ ob 0 = some ⟨12, [opV x], none⟩ ∧ env 7 = ints .b cols ∧ ∃ i : Nat, env 8 = vi i ∧ i ≤ cols.length ∧ ∀ j, j < i → smallV (gN x.vals j) = true ∧ fitsV (gN x.vals j) (gN cols j) = true) (fun env ob nn => (cols.length - iv (env 8)).toNat) ?_ ?_
      · simp +contextual (maxSteps := 1000000) only [go_sem, ints, intRows, reduceAdd, Nat.reduceBEq, reduceEqDiff, reduceLeDiff, Nat.reduceLT, reduceIte, reduceLE, Int.reduceLT, reduceEq, reduceNeg, reduceToNat, ops, vals, dots]
        exact ⟨0, rfl, Nat.zero_le _, fun j hj => by omega⟩
      rintro env ob nn ⟨h5, o0, h7, i, h8, hi, he⟩
      have w1 : IntKind.i64.wrap ((i : Int) + 1) = ((i + 1 : Nat) : Int) := by rw [w64 (by omega)]; omega
      simp +contextual (maxSteps := 1000000) only [go_sem, ints, intRows, reduceAdd, Nat.reduceBEq, reduceEqDiff, reduceLeDiff, Nat.reduceLT, reduceIte, reduceLE, Int.reduceLT, reduceEq, reduceNeg, reduceToNat, ops, vals, dots, h5, o0, h7, h8]
      refine ⟨fun hlt => ?_, fun hge => ?_⟩
      · simp at hlt
        simp +contextual (maxSteps := 1000000) only [go_sem, ints, intRows, reduceAdd, Nat.reduceBEq, reduceEqDiff, reduceLeDiff, Nat.reduceLT, reduceIte, reduceLE, Int.reduceLT, reduceEq, reduceNeg, reduceToNat, ops, vals, dots, h5, o0, h7, h8]
        refine ⟨by omega, ?_⟩
        first | refine caS_i (RSmall_ok (gN x.vals i)) trivial ?_ | refine caD_i (RSmall_ok (gN x.vals i)) trivial ?_ | refine gC_i (fun _ => RSmall_ok (gN x.vals i)) trivial ?_ | refine gCD_i (fun _ => RSmall_ok (gN x.vals i)) trivial ?_ | refine caE_i (RSmall_ok (gN x.vals i)) trivial ?_
        simp +contextual (maxSteps := 1000000) only [go_sem, ints, intRows, reduceAdd, Nat.reduceBEq, reduceEqDiff, reduceLeDiff, Nat.reduceLT, reduceIte, reduceLE, Int.reduceLT, reduceEq, reduceNeg, reduceToNat, ops, vals, dots, h5, o0, h7, h8]
        refine ⟨fun _ => by omega, fun _ => by omega, ?_⟩
        first | refine caS_i (RFits_ok (gN x.vals i) (gN cols i)) trivial ?_ | refine caD_i (RFits_ok (gN x.vals i) (gN cols i)) trivial ?_ | refine gC_i (fun _ => RFits_ok (gN x.vals i) (gN cols i)) trivial ?_ | refine gCD_i (fun _ => RFits_ok (gN x.vals i) (gN cols i)) trivial ?_ | refine caE_i (RFits_ok (gN x.vals i) (gN cols i)) trivial ?_
        simp +contextual (maxSteps := 1000000) only [go_sem, ints, intRows, reduceAdd, Nat.reduceBEq, reduceEqDiff, reduceLeDiff, Nat.reduceLT, reduceIte, reduceLE, Int.reduceLT, reduceEq, reduceNeg, reduceToNat, ops, vals, dots, h5, o0, h7, h8, w1]
        refine ⟨fun hb => ?_, fun hb => ?_⟩
        · simp +contextual (maxSteps := 1000000) only [go_sem, ints, intRows, reduceAdd, Nat.reduceBEq, reduceEqDiff, reduceLeDiff, Nat.reduceLT, reduceIte, reduceLE, Int.reduceLT, reduceEq, reduceNeg, reduceToNat, ops, vals, dots]
          rw [hr2, smallBs]
          cases hs : smallV (gN x.vals i) with
          | false =>
            rw [List.any_eq_true.2 ⟨gN x.vals i, gN_mem (by omega), by rw [hs]; rfl⟩]; simp
          | true =>
            rw [hs] at hb
            have : fitsV (gN x.vals i) (gN cols i) = false := by simpa using hb
            rw [allG, decide_eq_false (fun h => by have := h.2 i (by omega); simp_all)]; simp
        · simp +contextual (maxSteps := 1000000) only [go_sem, ints, intRows, reduceAdd, Nat.reduceBEq, reduceEqDiff, reduceLeDiff, Nat.reduceLT, reduceIte, reduceLE, Int.reduceLT, reduceEq, reduceNeg, reduceToNat, ops, vals, dots, h5, o0, h7, h8, w1]
          refine ⟨⟨i + 1, rfl, by omega, fun j hj => ?_⟩, by omega⟩
          by_cases hji : j = i
          · subst hji
            cases hs : smallV (gN x.vals j) with
            | false => rw [hs] at hb; simp at hb
            | true => rw [hs] at hb; exact ⟨rfl, by simpa using hb⟩
          · exact he j (by omega)
      · simp at hge
        simp +contextual (maxSteps := 1000000) only [go_sem, ints, intRows, reduceAdd, Nat.reduceBEq, reduceEqDiff, reduceLeDiff, Nat.reduceLT, reduceIte, reduceLE, Int.reduceLT, reduceEq, reduceNeg, reduceToNat, ops, vals, dots]
        have : i = cols.length := by omega
        subst this
        rw [hr2, smallBs, allG, decide_eq_true ⟨hl, fun j hj => (he j (by omega)).2⟩, any_no fun j hj => by rw [(he j (by omega)).1]; rfl]
        rfl
    have h1 : ¬ x.kind = 1 := by simpa using h1
    rw [if_neg h1] at hr
    simp +contextual (maxSteps := 1000000) only [go_sem, ints, intRows, reduceAdd, Nat.reduceBEq, reduceEqDiff, reduceLeDiff, Nat.reduceLT, reduceIte, reduceLE, Int.reduceLT, reduceEq, reduceNeg, reduceToNat, ops, vals, dots]
    refine ⟨fun h2 => ?_, fun h2 => ?_⟩
    · have h2 : x.kind = 2 := by simpa using h2
      rw [if_pos h2] at hr
      have wc : IntKind.i64.wrap ((cols.length : Int) - 1) = cols.length - 1 := w64 (by omega)
      simp +contextual (maxSteps := 1000000) only [go_sem, ints, intRows, reduceAdd, Nat.reduceBEq, reduceEqDiff, reduceLeDiff, Nat.reduceLT, reduceIte, reduceLE, Int.reduceLT, reduceEq, reduceNeg, reduceToNat, ops, vals, dots, wc]
      first | refine caS_i (inRef_ok x.col 0 ((cols.length : Int) - 1)) trivial ?_ | refine caD_i (inRef_ok x.col 0 ((cols.length : Int) - 1)) trivial ?_ | refine gC_i (fun _ => inRef_ok x.col 0 ((cols.length : Int) - 1)) trivial ?_ | refine gCD_i (fun _ => inRef_ok x.col 0 ((cols.length : Int) - 1)) trivial ?_ | refine caE_i (inRef_ok x.col 0 ((cols.length : Int) - 1)) trivial ?_
      simp +contextual (maxSteps := 1000000) only [go_sem, ints, intRows, reduceAdd, Nat.reduceBEq, reduceEqDiff, reduceLeDiff, Nat.reduceLT, reduceIte, reduceLE, Int.reduceLT, reduceEq, reduceNeg, reduceToNat, ops, vals, dots, ia_h]
      refine ⟨fun h => by simp only [Bool.and_eq_true, decide_eq_true_eq] at h; omega, ?_⟩
      first | refine caS_i (RSmall_ok (gN x.vals 0)) trivial ?_ | refine caD_i (RSmall_ok (gN x.vals 0)) trivial ?_ | refine gC_i (fun _ => RSmall_ok (gN x.vals 0)) trivial ?_ | refine gCD_i (fun _ => RSmall_ok (gN x.vals 0)) trivial ?_ | refine caE_i (RSmall_ok (gN x.vals 0)) trivial ?_
      simp +contextual (maxSteps := 1000000) only [go_sem, ints, intRows, reduceAdd, Nat.reduceBEq, reduceEqDiff, reduceLeDiff, Nat.reduceLT, reduceIte, reduceLE, Int.reduceLT, reduceEq, reduceNeg, reduceToNat, ops, vals, dots, ia_h]
      refine ⟨fun h => by simp only [Bool.and_eq_true, decide_eq_true_eq] at h; omega, fun h => by simp only [Bool.and_eq_true, decide_eq_true_eq] at h; omega, ?_⟩
      first | refine caS_i (RFits_ok (gN x.vals 0) (gN cols x.col.toNat)) trivial ?_ | refine caD_i (RFits_ok (gN x.vals 0) (gN cols x.col.toNat)) trivial ?_ | refine gC_i (fun _ => RFits_ok (gN x.vals 0) (gN cols x.col.toNat)) trivial ?_ | refine gCD_i (fun _ => RFits_ok (gN x.vals 0) (gN cols x.col.toNat)) trivial ?_ | refine caE_i (RFits_ok (gN x.vals 0) (gN cols x.col.toNat)) trivial ?_
      simp +contextual (maxSteps := 1000000) only [go_sem, ints, intRows, reduceAdd, Nat.reduceBEq, reduceEqDiff, reduceLeDiff, Nat.reduceLT, reduceIte, reduceLE, Int.reduceLT, reduceEq, reduceNeg, reduceToNat, ops, vals, dots]
      rw [hr]
      have e1 : decide (0 ≤ x.col ∧ x.col ≤ (cols.length : Int) - 1) = decide (0 ≤ x.col ∧ x.col < (cols.length : Int)) := by rw [decide_eq_decide]; omega
      rw [e1]
      have e2 : smallBs x.vals [gN cols x.col.toNat] = (decide ((x.vals.length : Int) = 1) && smallV (gN x.vals 0) && fitsV (gN x.vals 0) (gN cols x.col.toNat)) := by
        unfold smallBs allG
        match x.vals with
        | [] => simp
        | [v] => 
          have : decide ([v].length = [gN cols x.col.toNat].length ∧ ∀ i, i < [v].length → fitsV (gN [v] i) (gN [gN cols x.col.toNat] i) = true) = fitsV v (gN cols x.col.toNat) := by
            rw [Bool.eq_iff_iff, decide_eq_true_eq]
            exact ⟨fun h => h.2 0 (by simp), fun h => ⟨rfl, fun i hi => by have : i = 0 := by simp at hi; omega
                                                                           subst this; exact h⟩⟩
          rw [this]
          show (fitsV v (gN cols x.col.toNat) && !(!smallV v || false)) = (true && smallV v && fitsV v (gN cols x.col.toNat))
          generalize fitsV v (gN cols x.col.toNat) = a
          generalize smallV v = b
          cases a <;> cases b <;> rfl
        | v :: w :: l => 
          have : ¬ ((v :: w :: l).length = [gN cols x.col.toNat].length) := by simp
          rw [decide_eq_false (fun h => this h.1)]
          have : ¬ (((v :: w :: l).length : Int) = 1) := by simp; omega
          rw [decide_eq_false this]; rfl
      rw [e2]
      have e3 : decide ((x.dots.length : Int) = 0) = decide (x.dots.length = 0) := by rw [decide_eq_decide]; omega
      rw [e3]
      simp only [ite_and', Bool.and_assoc]
    have h2 : ¬ x.kind = 2 := by simpa using h2
    rw [if_neg h2] at hr
    simp +contextual (maxSteps := 1000000) only [go_sem, ints, intRows, reduceAdd, Nat.reduceBEq, reduceEqDiff, reduceLeDiff, Nat.reduceLT, reduceIte, reduceLE, Int.reduceLT, reduceEq, reduceNeg, reduceToNat, ops, vals, dots]
    refine ⟨fun h3 => ?_, fun h3 => ?_⟩
    · have h3 : x.kind = 3 := by simpa using h3
      rw [if_pos h3] at hr
      simp +contextual (maxSteps := 1000000) only [go_sem, ints, intRows, reduceAdd, Nat.reduceBEq, reduceEqDiff, reduceLeDiff, Nat.reduceLT, reduceIte, reduceLE, Int.reduceLT, reduceEq, reduceNeg, reduceToNat, ops, vals, dots]
      first | refine caS_i (inRef_ok (x.dots.length : Int) 1 64) trivial ?_ | refine caD_i (inRef_ok (x.dots.length : Int) 1 64) trivial ?_ | refine gC_i (fun _ => inRef_ok (x.dots.length : Int) 1 64) trivial ?_ | refine gCD_i (fun _ => inRef_ok (x.dots.length : Int) 1 64) trivial ?_ | refine caE_i (inRef_ok (x.dots.length : Int) 1 64) trivial ?_
      simp +contextual (maxSteps := 1000000) only [go_sem, ints, intRows, reduceAdd, Nat.reduceBEq, reduceEqDiff, reduceLeDiff, Nat.reduceLT, reduceIte, reduceLE, Int.reduceLT, reduceEq, reduceNeg, reduceToNat, ops, vals, dots]
      have hdl : x.deps.length ≤ maxLen := by
        unfold wholeB at hw; simp only [Bool.and_eq_true, decide_eq_true_eq] at hw; unfold maxLen; omega
      refine ⟨fun hb => ?_, fun hb => ?_⟩
      · simp +contextual (maxSteps := 1000000) only [go_sem, ints, intRows, reduceAdd, Nat.reduceBEq, reduceEqDiff, reduceLeDiff, Nat.reduceLT, reduceIte, reduceLE, Int.reduceLT, reduceEq, reduceNeg, reduceToNat, ops, vals, dots]
        rw [hr]
        have : (decide (1 ≤ x.dots.length ∧ x.dots.length ≤ 64) && (decide (x.col = 0) && decide (x.vals.length = 0))) = false := by
          rw [ite_or'] at hb
          simp only [Bool.or_eq_true, Bool.not_eq_true', decide_eq_true_eq, decide_eq_false_iff_not, Bool.and_eq_false_iff] at hb ⊢; omega
        rw [Bool.and_assoc, Bool.and_right_comm, this, Bool.false_and]
      obtain ⟨hl, hcol, hvl⟩ : (1 ≤ x.dots.length ∧ x.dots.length ≤ 64) ∧ x.col = 0 ∧ x.vals.length = 0 := by
        rw [ite_or'] at hb
        simp only [Bool.or_eq_false_iff, Bool.not_eq_false', decide_eq_true_eq, decide_eq_false_iff_not] at hb; omega
      have hr2 : rightX n f x = hadB x.deps x.dots := by rw [hr, decide_eq_true hl, hcol, hvl]; simp
      clear hr hb
      simp +contextual (maxSteps := 1000000) only [go_sem, ints, intRows, reduceAdd, Nat.reduceBEq, reduceEqDiff, reduceLeDiff, Nat.reduceLT, reduceIte, reduceLE, Int.reduceLT, reduceEq, reduceNeg, reduceToNat, ops, vals, dots]
      refine wpC_lp (fun env ob nn => env 5 = .pt 0 0 0 ∧ ob 0 = some ⟨12, [opV x], none⟩ ∧ ∃ i : Nat, env 9 = vi i ∧ i ≤ x.dots.length ∧ ∀ j, j < i → hasB x.deps (gN x.dots j) = true ∧ (0 < j → lessD (gN x.dots (j - 1)) (gN x.dots j) = true)) (fun env ob nn => (x.dots.length - iv (env 9)).toNat) ?_ ?_
      · simp +contextual (maxSteps := 1000000) only [go_sem, ints, intRows, reduceAdd, Nat.reduceBEq, reduceEqDiff, reduceLeDiff, Nat.reduceLT, reduceIte, reduceLE, Int.reduceLT, reduceEq, reduceNeg, reduceToNat, ops, vals, dots]
        exact ⟨0, rfl, Nat.zero_le _, fun j hj => by omega⟩
      rintro env ob nn ⟨h5, o0, i, h9, hi, he⟩
      have w1 : IntKind.i64.wrap ((i : Int) + 1) = ((i + 1 : Nat) : Int) := by rw [w64 (by omega)]; omega
      simp +contextual (maxSteps := 1000000) only [go_sem, ints, intRows, reduceAdd, Nat.reduceBEq, reduceEqDiff, reduceLeDiff, Nat.reduceLT, reduceIte, reduceLE, Int.reduceLT, reduceEq, reduceNeg, reduceToNat, ops, vals, dots, h5, o0, h9]
      refine ⟨fun hlt => ?_, fun hge => ?_⟩
      · simp at hlt
        simp +contextual (maxSteps := 1000000) only [go_sem, ints, intRows, reduceAdd, Nat.reduceBEq, reduceEqDiff, reduceLeDiff, Nat.reduceLT, reduceIte, reduceLE, Int.reduceLT, reduceEq, reduceNeg, reduceToNat, ops, vals, dots, h5, o0, h9]
        refine ⟨by omega, ?_⟩
        first | refine caS_i (RHas_ok x.deps (gN x.dots i) hdl) trivial ?_ | refine caD_i (RHas_ok x.deps (gN x.dots i) hdl) trivial ?_ | refine gC_i (fun _ => RHas_ok x.deps (gN x.dots i) hdl) trivial ?_ | refine gCD_i (fun _ => RHas_ok x.deps (gN x.dots i) hdl) trivial ?_ | refine caE_i (RHas_ok x.deps (gN x.dots i) hdl) trivial ?_
        simp +contextual (maxSteps := 1000000) only [go_sem, ints, intRows, reduceAdd, Nat.reduceBEq, reduceEqDiff, reduceLeDiff, Nat.reduceLT, reduceIte, reduceLE, Int.reduceLT, reduceEq, reduceNeg, reduceToNat, ops, vals, dots, h5, o0, h9]
        have hw0 : 0 < i → IntKind.i64.wrap ((i : Int) - 1) = ((i - 1 : Nat) : Int) := fun h => by rw [w64 (by omega)]; omega
        refine ⟨fun h => ?_, fun _ => by omega, ?_⟩
        · simp only [Bool.and_eq_true, decide_eq_true_eq] at h
          rw [hw0 (by omega)]; omega
        first | refine caS_i (RLess_ok (gN x.dots (IntKind.i64.wrap ((i : Int) - 1)).toNat) (gN x.dots i)) trivial ?_ | refine caD_i (RLess_ok (gN x.dots (IntKind.i64.wrap ((i : Int) - 1)).toNat) (gN x.dots i)) trivial ?_ | refine gC_i (fun _ => RLess_ok (gN x.dots (IntKind.i64.wrap ((i : Int) - 1)).toNat) (gN x.dots i)) trivial ?_ | refine gCD_i (fun _ => RLess_ok (gN x.dots (IntKind.i64.wrap ((i : Int) - 1)).toNat) (gN x.dots i)) trivial ?_ | refine caE_i (RLess_ok (gN x.dots (IntKind.i64.wrap ((i : Int) - 1)).toNat) (gN x.dots i)) trivial ?_
        simp +contextual (maxSteps := 1000000) only [go_sem, ints, intRows, reduceAdd, Nat.reduceBEq, reduceEqDiff, reduceLeDiff, Nat.reduceLT, reduceIte, reduceLE, Int.reduceLT, reduceEq, reduceNeg, reduceToNat, ops, vals, dots, h5, o0, h9]
        have hcond : (if hasB x.deps (gN x.dots i) = true then decide (0 < (i : Int)) && !lessD (gN x.dots (IntKind.i64.wrap ((i : Int) - 1)).toNat) (gN x.dots i) else true) = !decide (hasB x.deps (gN x.dots i) = true ∧ (0 < i → lessD (gN x.dots (i - 1)) (gN x.dots i) = true)) := by
          by_cases h0 : 0 < i
          · rw [hw0 h0, Int.toNat_natCast]
            cases hasB x.deps (gN x.dots i) <;> cases lessD (gN x.dots (i - 1)) (gN x.dots i) <;> simp [h0]
          · cases hasB x.deps (gN x.dots i) <;> simp [h0]
        rw [hcond]
        refine ⟨fun hb => ?_, fun hb => ?_⟩
        · simp +contextual (maxSteps := 1000000) only [go_sem, ints, intRows, reduceAdd, Nat.reduceBEq, reduceEqDiff, reduceLeDiff, Nat.reduceLT, reduceIte, reduceLE, Int.reduceLT, reduceEq, reduceNeg, reduceToNat, ops, vals, dots]
          rw [hr2, hadB, decide_eq_false fun h => by rw [decide_eq_true (h i hlt)] at hb; cases hb]
        · simp +contextual (maxSteps := 1000000) only [go_sem, ints, intRows, reduceAdd, Nat.reduceBEq, reduceEqDiff, reduceLeDiff, Nat.reduceLT, reduceIte, reduceLE, Int.reduceLT, reduceEq, reduceNeg, reduceToNat, ops, vals, dots, h5, o0, h9, w1]
          refine ⟨⟨i + 1, rfl, by omega, fun j hj => ?_⟩, by omega⟩
          by_cases hji : j = i
          · subst hji; simpa using hb
          · exact he j (by omega)
      · simp at hge
        simp +contextual (maxSteps := 1000000) only [go_sem, ints, intRows, reduceAdd, Nat.reduceBEq, reduceEqDiff, reduceLeDiff, Nat.reduceLT, reduceIte, reduceLE, Int.reduceLT, reduceEq, reduceNeg, reduceToNat, ops, vals, dots]
        have : i = x.dots.length := by omega
        subst this
        rw [hr2, hadB, decide_eq_true he]
    · have h3 : ¬ x.kind = 3 := by simpa using h3
      rw [if_neg h3] at hr
      simp +contextual (maxSteps := 1000000) only [go_sem, ints, intRows, reduceAdd, Nat.reduceBEq, reduceEqDiff, reduceLeDiff, Nat.reduceLT, reduceIte, reduceLE, Int.reduceLT, reduceEq, reduceNeg, reduceToNat, ops, vals, dots]
      rw [hr]
end Go.Proofs.YtbojpedklnmidaaGreat.D
end
section
set_option linter.unusedVariables false
set_option linter.unusedSimpArgs false
set_option linter.constructorNameAsVariable false
set_option maxRecDepth 100000

/- Tables that came about by operations. No condition. -/
namespace Go.Proofs.YtbojpedklnmidaaGreat.D
open Go Go.Proofs
open Nat (reduceAdd reduceEqDiff reduceLeDiff)
open Int (reduceLE reduceEq reduceNeg reduceToNat)
end Go.Proofs.YtbojpedklnmidaaGreat.D
end
section
set_option linter.unusedVariables false
set_option linter.unusedSimpArgs false
set_option linter.constructorNameAsVariable false
set_option maxRecDepth 100000

/- Tables that came about by operations: the walk. No condition. -/
namespace Go.Proofs.YtbojpedklnmidaaGreat.D
open Go Go.Proofs
open Nat (reduceAdd reduceEqDiff reduceLeDiff)
open Int (reduceLE reduceEq reduceNeg reduceToNat)
def livS (cols : List Int) (s : Option (List Rwx)) (x : Opx) : Option (List Rwx) := if (applyT cols (s.getD []) (oz x)).2.2.2 = 0 then some (applyT cols (s.getD []) (oz x)).1 else s
def ovO : Option (List Rwx) → V
  | none => rws .o []
  | some l => rws .b l
@[go_sem] theorem frz_ovO (s : Option (List Rwx)) : frz1 (ovO s) = rws .b (s.getD []) := by cases s <;> rfl
@[go_sem] theorem res_rwsb (ob : OB) (l : List Rwx) : resV ob 6 (rws .b l) = rws .b l := RZ.res (.inl rfl) ob 2
@[go_sem] theorem frz1_rws (f : Fl) (l : List Rwx) : frz1 (rws .o l) = rws .b l := rfl
@[go_sem] theorem frz1_rwsb (f : Fl) (l : List Rwx) : frz1 (rws .b l) = rws .b l := rfl
def LivI (cols : List Int) (i : Nat) (s : Option (List Rwx)) : Prop := (formE cols ≠ 0 → s = none) ∧ (formE cols = 0 → ∃ D, D.length ≤ i ∧ ThI cols D (s.getD []))
theorem LivI.step {cols : List Int} {i : Nat} {s : Option (List Rwx)} (h : LivI cols i s) (x : Opx) : LivI cols (i + 1) (livS cols s x) := by
  refine ⟨fun hf => ?_, fun hf => ?_⟩
  · have hs := h.1 hf
    subst hs
    unfold livS
    have : (applyT cols (Option.getD none []) (oz x)).2.2.2 = 10 := by
      have hk : checkT cols [] = 10 := by rw [checkT, if_pos hf]
      show (applyT cols [] (oz x)).2.2.2 = 10
      rw [applyT, if_pos (by rw [hk]; decide)]
      exact hk
    rw [if_neg (by rw [this]; decide)]
  · obtain ⟨D, hD, hT⟩ := h.2 hf
    unfold livS
    rcases apply_code hT.chk (x := oz x) with ⟨q1, q2⟩ | ⟨q1, q2⟩
    · rw [if_pos q2]
      exact ⟨D ++ [x], by simp; omega, hT.step q1⟩
    · rw [q2, if_neg (by decide)]
      exact ⟨D, by omega, hT⟩
theorem LivI.nil (cols : List Int) : LivI cols 0 none := ⟨fun _ => rfl, fun hf => ⟨[], Nat.le_refl _, .nil hf⟩⟩
theorem LivI.apply {cols : List Int} {i : Nat} {s : Option (List Rwx)} {x : Opx} (h : LivI cols i s) (hi : i ≤ 300) (hc : cols.length ≤ maxLen) (hv : x.vals.length ≤ maxLen) (hd : x.dots.length ≤ maxLen) : FnB Tryz.prog 12 [.ag (tbV cols), rws .b (s.getD []), .ag (opV x)] (.tp [rws .o (applyT cols (s.getD []) (oz x)).1, vals .b (applyT cols (s.getD []) (oz x)).2.1, vals .b (applyT cols (s.getD []) (oz x)).2.2.1, vi (applyT cols (s.getD []) (oz x)).2.2.2]) := by
  by_cases hf : formE cols = 0
  · obtain ⟨D, hD, hT⟩ := h.2 hf
    exact StepO_ok hT (by omega) hv hd hc
  · rw [h.1 hf]
    exact Apply_ok (fl := .b) cols [] (oz x) (by simp [maxLen]) (fun r hr => nomatch hr) (fun r hr => nomatch hr) hv hd
end Go.Proofs.YtbojpedklnmidaaGreat.D
end
section
set_option linter.unusedVariables false
set_option linter.unusedSimpArgs false
set_option linter.constructorNameAsVariable false
set_option maxRecDepth 100000

/- What tables are, row by row. No condition. -/
namespace Go.Proofs.YtbojpedklnmidaaGreat.D
open Go Go.Proofs
open Nat (reduceAdd reduceEqDiff reduceLeDiff)
open Int (reduceLE reduceEq reduceNeg reduceToNat)
theorem pw_ext {α : Type} {lt : α → α → Bool} (irr : ∀ a, lt a a = false) (tr : ∀ a b c, lt a b = true → lt b c = true → lt a c = true) : ∀ {l m : List α}, l.Pairwise (fun a b => lt a b = true) → m.Pairwise (fun a b => lt a b = true) → (∀ a, a ∈ l ↔ a ∈ m) → l = m
  | [], [], _, _, _ => rfl
  | [], b :: m, _, _, h => by have := (h b).2 (List.mem_cons_self ..); cases this
  | a :: l, [], _, _, h => by have := (h a).1 (List.mem_cons_self ..); cases this
  | a :: l, b :: m, hl, hm, h => by
    obtain ⟨l1, l2⟩ := List.pairwise_cons.1 hl
    obtain ⟨m1, m2⟩ := List.pairwise_cons.1 hm
    have hab : a = b := by
      rcases List.mem_cons.1 ((h a).1 (List.mem_cons_self ..)) with e | e
      · exact e
      · rcases List.mem_cons.1 ((h b).2 (List.mem_cons_self ..)) with e2 | e2
        · exact e2.symm
        · have := tr _ _ _ (l1 _ e2) (m1 _ e)
          rw [irr] at this; cases this
    subst hab
    rw [pw_ext irr tr l2 m2 fun c => ⟨fun hc => ?_, fun hc => ?_⟩]
    · rcases List.mem_cons.1 ((h c).1 (List.mem_cons_of_mem _ hc)) with e | e
      · subst e; have := l1 _ hc; rw [irr] at this; cases this
      · exact e
    · rcases List.mem_cons.1 ((h c).2 (List.mem_cons_of_mem _ hc)) with e | e
      · subst e; have := m1 _ hc; rw [irr] at this; cases this
      · exact e
def lookT (l : List Rwx) (k : ByteArray) : Option Rwx := l.find? fun r => decide (r.key = k)
theorem rows_one {cols : List Int} {l : List Rwx} (h : rowsB cols l = true) {r s : Rwx} (hr : r ∈ l) (hs : s ∈ l) (e : r.key = s.key) : r = s := by
  obtain ⟨i, hi, rfl⟩ := gN_mem_iff.1 hr
  obtain ⟨j, hj, rfl⟩ := gN_mem_iff.1 hs
  rw [keys_inj h hi hj e]
theorem look_iff {cols : List Int} {l : List Rwx} (h : rowsB cols l = true) {k : ByteArray} {r : Rwx} : lookT l k = some r ↔ r ∈ l ∧ r.key = k := by
  unfold lookT
  constructor
  · intro e
    exact ⟨List.mem_of_find?_eq_some e, by simpa using List.find?_some e⟩
  · rintro ⟨h1, h2⟩
    cases e : l.find? fun r => decide (r.key = k) with
    | none =>
      have := List.find?_eq_none.1 e r h1
      simp [h2] at this
    | some s =>
      have s1 := List.mem_of_find?_eq_some e
      have s2 : s.key = k := by simpa using List.find?_some e
      rw [rows_one h s1 h1 (s2.trans h2.symm)]
def freshR (cols : List Int) (k : ByteArray) : Rwx := ⟨k, [], List.replicate cols.length zCel⟩
def rowT (cols : List Int) (l : List Rwx) (k : ByteArray) : Rwx := (lookT l k).getD (freshR cols k)
theorem look_apply {cols : List Int} {l : List Rwx} {x : Opz} (hck : checkT cols l = 0) (ho : opE cols (tab0 x) = 0) (k : ByteArray) : lookT (applyT cols l x).1 k = if k = x.key then some (chgT (rowT cols l k) x) else lookT l k := by
  have hr := (chk_0 hck).2
  have hr' := (chk_0 (apply_right hck ho)).2
  have hrow := apply_row hck ho
  obtain ⟨⟨r', h1, h2⟩, hk⟩ := apply_keep hck ho
  split
  · rename_i e
    subst e
    rw [look_iff hr']
    rcases hrow r' h1 with ⟨_, h⟩ | ⟨R, h3, h4, h5, _⟩
    · exact (h h2).elim
    · have : R = rowT cols l x.key := by
        unfold rowT
        rcases h5 with h5 | ⟨h5, h6⟩
        · rw [(look_iff hr).2 ⟨h5, h4⟩]; rfl
        · have : lookT l x.key = none := List.find?_eq_none.2 fun s hs => by simpa using h6 s hs
          rw [this]; exact h5
      rw [← this, ← h3]
      exact ⟨h1, h2⟩
  · rename_i e
    have key : ∀ r, lookT (applyT cols l x).1 k = some r ↔ lookT l k = some r := fun r => by
      rw [look_iff hr', look_iff hr]
      constructor
      · rintro ⟨a1, a2⟩
        rcases hrow r a1 with ⟨h, _⟩ | ⟨R, h3, h4, _⟩
        · exact ⟨h, a2⟩
        · rw [h3, chgT_key, h4] at a2; exact (e a2.symm).elim
      · rintro ⟨a1, a2⟩
        obtain ⟨s, s1, s2⟩ := hk r a1
        rcases hrow s s1 with ⟨h, _⟩ | ⟨R, h3, h4, _⟩
        · rw [rows_one hr a1 h s2.symm]
          exact ⟨s1, by rw [s2]; exact a2⟩
        · rw [h3, chgT_key, h4] at s2; exact (e (a2.symm.trans s2.symm)).elim
    cases h : lookT l k with
    | none =>
      cases h' : lookT (applyT cols l x).1 k with
      | none => rfl
      | some r => rw [(key r).1 h'] at h; cases h
    | some r => exact (key r).2 h
def wv (x : Opz) (i : Nat) : Option Vl := if x.kind = 1 then (if i < x.vals.length then some (gN x.vals i) else none) else if x.kind = 2 then (if i = x.col.toNat then some (gN x.vals 0) else none) else none
def wrO (c : Cel) (o : Option Vl) (x : Opz) : Cel := match o with
  | some v => wrCel c v x
  | none => c
theorem chg_len (r : Rwx) (x : Opz) : (chgT r x).cells.length = r.cells.length := by
  unfold chgT; repeat' split
  · exact wrs_len _ _ _
  · simp
  · rfl
  · rfl
theorem chg_cell (r : Rwx) (x : Opz) {i : Nat} (hi : i < r.cells.length) : gN (chgT r x).cells i = wrO (gN r.cells i) (wv x i) x := by
  unfold chgT wv
  split
  · show gN (wrs r.cells x.vals x) i = _
    rw [wrs_at hi]
    split
    · rfl
    · rfl
  · split
    · show gN (r.cells.set x.col.toNat _) i = _
      split
      · rename_i e
        rw [← e, gN_set hi]; rfl
      · rename_i e
        rw [gN_set2 e]; rfl
    · split <;> rfl
def dotsR (r : Rwx) : Prop := r.dots.Pairwise fun a b => lessD a b = true
theorem inD_iff {l : List Dt} {d : Dt} : inD l d = true ↔ d ∈ l := by
  unfold inD
  rw [List.any_eq_true]
  constructor
  · rintro ⟨e, h1, h2⟩
    unfold eqD at h2
    simp only [Bool.and_eq_true, decide_eq_true_eq] at h2
    have : d = e := by cases d; cases e; simp at h2; simp [h2]
    rw [this]; exact h1
  · intro h; exact ⟨d, h, by simp [eqD]⟩
theorem chg_dots (r : Rwx) (x : Opz) (h : dotsR r) : dotsR (chgT r x) ∧ ∀ d, d ∈ (chgT r x).dots ↔ if x.kind = 1 then d = x.dot ∨ d ∈ r.dots else if x.kind = 3 then d ∈ r.dots ∧ d ∉ x.dots else d ∈ r.dots := by
  unfold chgT
  by_cases k1 : x.kind = 1
  · simp only [if_pos k1]
    exact ⟨(insD_spec h).1, (insD_spec h).2⟩
  · simp only [if_neg k1]
    by_cases k2 : x.kind = 2
    · simp only [if_pos k2, if_neg (show ¬ x.kind = 3 by omega)]
      exact ⟨h, fun d => by trivial⟩
    · simp only [if_neg k2]
      by_cases k3 : x.kind = 3
      · simp only [if_pos k3]
        refine ⟨List.Pairwise.filter _ h, fun d => ?_⟩
        show d ∈ List.filter _ r.dots ↔ _
        rw [List.mem_filter]
        have : (!inD x.dots d) = true ↔ d ∉ x.dots := by
          rw [← inD_iff]; cases inD x.dots d <;> simp
        rw [this]
      · simp only [if_neg k3]
        exact ⟨h, fun d => by trivial⟩
end Go.Proofs.YtbojpedklnmidaaGreat.D
end
section
set_option linter.unusedVariables false
set_option linter.unusedSimpArgs false
set_option linter.constructorNameAsVariable false
set_option maxRecDepth 100000

/- Two operations may be applied in either order: plain law. No condition. -/
namespace Go.Proofs.YtbojpedklnmidaaGreat.D
open Go Go.Proofs
open Nat (reduceAdd reduceEqDiff reduceLeDiff)
open Int (reduceLE reduceEq reduceNeg reduceToNat)
instance ltTd (a b : St3) : Decidable (ltT a b) := by unfold ltT; infer_instance
theorem wr_at {c : Cel} {v : Vl} {x : Opz} : wrCel c v x = if writ c = false ∨ ltT c.st x.st then ⟨v, x.st, x.dot⟩ else c := by
  unfold wrCel wrB
  by_cases h : writ c = false ∨ ltT c.st x.st
  · rw [if_pos h, if_pos]
    rcases h with h | h
    · rw [h]; rfl
    · rw [decide_eq_true (cmpT_neg.2 h)]; simp
  · rw [if_neg h, if_neg]
    intro h2
    apply h
    rw [Bool.or_eq_true] at h2
    rcases h2 with h2 | h2
    · exact .inl (by simpa using h2)
    · exact .inr (cmpT_neg.1 (by simpa using h2))
theorem op_name {cols : List Int} {x : Opz} (ho : opE cols (tab0 x) = 0) : nameB x.dot = true ∧ okS x.st = true := by
  obtain ⟨n, hn, o⟩ := opR ho
  exact whole_name o.whole hn
end Go.Proofs.YtbojpedklnmidaaGreat.D
end
section
set_option linter.unusedVariables false
set_option linter.unusedSimpArgs false
set_option linter.constructorNameAsVariable false
set_option maxRecDepth 100000

/- Dots in a map; whether operations are closed. No condition. -/
namespace Go.Proofs.YtbojpedklnmidaaGreat.D
open Go Go.Proofs
open Nat (reduceAdd reduceEqDiff reduceLeDiff)
open Int (reduceLE reduceEq reduceNeg reduceToNat)
def drV (d : Dt) : List V := [.ag (dotV d), .c (.bool true)]
theorem keyEq_dot (d e : Dt) : keyEq true [0, 0] (.ag (dotV d)) (.ag (dotV e)) = some (eqD d e) := by
  simp [keyEq, keyC, dotV, eqCells, eqS, eqD]
theorem keyOk_dot (d : Dt) : keyOk true [0, 0] (.ag (dotV d)) = true := rfl
theorem posM_dots (d : Dt) : ∀ D : List Dt, ∃ q, posM true [0, 0] (.ag (dotV d)) (D.map drV) = some q ∧ valM (.c (.bool false)) (D.map drV) q = .c (.bool (inD D d)) ∧ (inD D d = false → q = none)
  | [] => ⟨none, rfl, rfl, fun _ => rfl⟩
  | e :: D => by
    obtain ⟨q, h1, h2, h3⟩ := posM_dots d D
    simp only [List.map_cons, drV, posM, keyEq_dot, Option.bind_some]
    cases h : eqD d e with
    | true => exact ⟨some 0, by simp, by simp [valM, inD, h], by simp [inD, h]⟩
    | false =>
      refine ⟨q.map (· + 1), by simp [h1], ?_, fun hn => ?_⟩
      · cases q with
        | none => simp [valM, inD, h] at h2 ⊢; exact h2
        | some i => simp [valM, inD, h] at h2 ⊢; exact h2
      · have : inD D d = false := by simpa [inD, h] using hn
        rw [h3 this]; rfl
def allD (D : List Dt) (p m : Int) : Bool := (List.range m.toNat).all fun k => inD D ⟨p, (k + 1 : Nat)⟩
theorem allD_bad {D : List Dt} {p m : Int} {k : Nat} (h1 : (k : Int) < m) (h : inD D ⟨p, (k + 1 : Nat)⟩ = false) : allD D p m = false := by
  cases ha : allD D p m with
  | false => rfl
  | true =>
    unfold allD at ha
    have := List.all_eq_true.1 ha k (List.mem_range.2 (by omega))
    rw [h] at this; cases this
theorem allD_ok {D : List Dt} {p m : Int} (h : ∀ k : Nat, (k : Int) < m → inD D ⟨p, (k + 1 : Nat)⟩ = true) : allD D p m = true := by
  unfold allD
  rw [List.all_eq_true]
  intro k hk
  exact h k (by have := List.mem_range.1 hk; omega)
@[go_sem] theorem bld_dot (a b : Int) (ob : OB) (i : Nat) : opF (.bld [.c (.int .i64 0), .c (.int .i64 0)] [(0, 1), (1, 1)]) [vi a, vi b] ob i = some (.ag (dotV ⟨a, b⟩), []) := by
  simp [opF, fill, cellsV, leaf, dotV, Value.oneCell']
theorem all_ok {D : List Dt} {M nid : Nat} {cap : Option Nat} {p m : Int} {ob : OB} {C : V → OB → Nat → Prop} (hM : ob M = some ⟨0, D.map drV, cap⟩) (hm : m ≤ 1073741824)
    (hC : ∀ n', nid ≤ n' → C (vb (allD D p m)) ob n') : FnS Tryz.prog 49 [.mp M, vi p, vi m] ob nid C := by
  refine fnS_intro cf49 (by simp) ?_
  simp +contextual (maxSteps := 1000000) only [go_sem, ints, intRows, reduceAdd, Nat.reduceBEq, reduceEqDiff, reduceLeDiff, Nat.reduceLT, reduceIte, reduceLE, Int.reduceLT, reduceEq, reduceNeg, reduceToNat, ops, vals, dots, c49]
  refine wpC_lp (fun env ob' n' => ob' = ob ∧ nid ≤ n' ∧ env 0 = .mp M ∧ env 1 = vi p ∧ env 2 = vi m ∧ ∃ k : Nat, env 7 = vi (k + 1 : Nat) ∧ (k : Int) ≤ max m 0 ∧ ∀ j : Nat, j < k → inD D ⟨p, (j + 1 : Nat)⟩ = true) (fun env ob n => (m + 1 - iv (env 7)).toNat) ?_ ?_
  · simp +contextual (maxSteps := 1000000) only [go_sem, ints, intRows, reduceAdd, Nat.reduceBEq, reduceEqDiff, reduceLeDiff, Nat.reduceLT, reduceIte, reduceLE, Int.reduceLT, reduceEq, reduceNeg, reduceToNat, ops, vals, dots]
    exact ⟨by omega, 0, rfl, by omega, fun j hj => by omega⟩
  rintro env ob' n' ⟨rfl, hn, e0, e1, e2, k, e7, hk, he⟩
  obtain ⟨q, q1, q2, q3⟩ := posM_dots ⟨p, (k + 1 : Nat)⟩ D
  have q1' : posM true [0, 0] (.ag [.c (.int .i64 p), .c (.int .i64 (k + 1 : Nat))]) (D.map drV) = some q := q1
  simp +contextual (maxSteps := 1000000) only [go_sem, ints, intRows, reduceAdd, Nat.reduceBEq, reduceEqDiff, reduceLeDiff, Nat.reduceLT, reduceIte, reduceLE, Int.reduceLT, reduceEq, reduceNeg, reduceToNat, ops, vals, dots, e0, e1, e2, e7]
  refine ⟨fun hlt => ?_, fun hge => ?_⟩
  · simp at hlt
    have w1 : IntKind.i64.wrap (((k + 1 : Nat) : Int) + 1) = ((k + 1 + 1 : Nat) : Int) := by rw [w64 (by omega)]; omega
    simp +contextual (maxSteps := 1000000) only [go_sem, ints, intRows, reduceAdd, Nat.reduceBEq, reduceEqDiff, reduceLeDiff, Nat.reduceLT, reduceIte, reduceLE, Int.reduceLT, reduceEq, reduceNeg, reduceToNat, ops, vals, dots, e0, e1, e2, e7, hM, q1', q2, w1]
    refine ⟨rfl, ?_⟩
    refine ⟨fun hb => ?_, fun hb => ⟨⟨by omega, k + 1, rfl, by omega, fun j hj => ?_⟩, by omega⟩⟩
    · rw [← allD_bad (D := D) (p := p) (m := m) (k := k) (by omega) hb]
      exact hC _ (by omega)
    · by_cases hjk : j = k
      · subst hjk; simpa using hb
      · exact he j (by omega)
  · simp at hge
    rw [← allD_ok (D := D) (p := p) (m := m) fun j hj => he j (by omega)]
    exact hC _ (by omega)
def okHead (n : Int) (l : List Opx) : Bool := decide (∀ i, i < l.length → inD ((l.take i).map (·.dot)) (gN l i).dot = false ∧ 0 ≤ (gN l i).dot.p ∧ (gN l i).dot.p < n ∧ ((gN l i).deps.length : Int) = n ∧ vecE (gN l i).deps = 0)
def okTail (D : List Dt) (x : Opx) : Bool := (decide (x.dot.n ≤ 1) || inD D ⟨x.dot.p, x.dot.n - 1⟩) && decide (∀ p, p < x.deps.length → allD D p (gN x.deps p) = true)
def closedB (n : Int) (l : List Opx) : Bool := decide (1 ≤ n ∧ n ≤ 5) && okHead n l && decide (∀ i, i < l.length → okTail (l.map (·.dot)) (gN l i) = true)
theorem vec_most {v : List Int} (h : vecE v = 0) : ∀ p, p < v.length → gN v p ≤ 1073741824 := fun p hp => by
  unfold vecE at h
  split at h
  · split at h
    · rename_i h2; exact (h2 _ (gN_mem hp)).2
    · cases h
  · cases h
set_option maxHeartbeats 2000000 in
theorem Closed_ok {fl : Fl} (n : Int) (l : List Opx) (hl : l.length ≤ maxLen) (hn : ∀ x ∈ l, inI x.dot.n) : FnB Tryz.prog 16 [vi n, ops fl l] (vb (closedB n l)) := by
  unfold maxLen at hl
  refine fnB_intro cf16 (by simp) ?_
  simp +contextual (maxSteps := 1000000) only [go_sem, ints, intRows, reduceAdd, Nat.reduceBEq, reduceEqDiff, reduceLeDiff, Nat.reduceLT, reduceIte, reduceLE, Int.reduceLT, reduceEq, reduceNeg, reduceToNat, ops, vals, dots, c16]
  refine ⟨fun hb => ?_, fun hb => ?_⟩
  · have : decide (1 ≤ n ∧ n ≤ 5) = false := by
      rw [decide_eq_false_iff_not]; intro h
      have h1 : decide (n < 1) = false := by simp; omega
      have h2 : decide (5 < n) = false := by simp; omega
      rw [h1, h2] at hb; cases hb
    unfold closedB; rw [this]; rfl
  have hn5 : 1 ≤ n ∧ n ≤ 5 := by
    simp at hb; omega
  refine wpC_lp (fun env ob nn => env 0 = vi n ∧ env 1 = ops fl l ∧ env 5 = .mp 7 ∧ env 19 = ops fl l ∧ env 20 = vi l.length ∧ 7 < nn ∧ ∃ (i : Nat) (D : List Dt), env 21 = vi i ∧ i ≤ l.length ∧ ob 7 = some ⟨0, D.map drV, none⟩ ∧ D = (l.take i).map (·.dot) ∧ ∀ j, j < i → inD ((l.take j).map (·.dot)) (gN l j).dot = false ∧ 0 ≤ (gN l j).dot.p ∧ (gN l j).dot.p < n ∧ ((gN l j).deps.length : Int) = n ∧ vecE (gN l j).deps = 0) (fun env ob _ => (l.length - iv (env 21)).toNat) ?_ ?_
  · simp +contextual (maxSteps := 1000000) only [go_sem, ints, intRows, reduceAdd, Nat.reduceBEq, reduceEqDiff, reduceLeDiff, Nat.reduceLT, reduceIte, reduceLE, Int.reduceLT, reduceEq, reduceNeg, reduceToNat, ops, vals, dots]
    exact ⟨0, [], rfl, Nat.zero_le _, rfl, rfl, fun j hj => by omega⟩
  rintro env ob nn ⟨h0, h1, h5, h19, h20, hnn, i, D, h21, hi, oM, hD, he⟩
  have w1 : IntKind.i64.wrap ((i : Int) + 1) = ((i + 1 : Nat) : Int) := by rw [w64 (by omega)]; omega
  simp +contextual (maxSteps := 1000000) only [go_sem, ints, intRows, reduceAdd, Nat.reduceBEq, reduceEqDiff, reduceLeDiff, Nat.reduceLT, reduceIte, reduceLE, Int.reduceLT, reduceEq, reduceNeg, reduceToNat, ops, vals, dots, h0, h1, h5, h19, h20, h21]
  refine ⟨fun hlt => ?_, fun hge => ?_⟩
  · simp at hlt
    obtain ⟨q, q1, q2, q3⟩ := posM_dots (gN l i).dot D
    have h4 : (7 == nn + 1 + 1 + 1) = false := by simp; omega
    have q1' : posM true [0, 0] (.ag [vi (gN l i).dot.p, vi (gN l i).dot.n]) (D.map drV) = some q := q1
    have qk : keyOk true [0, 0] (.ag [vi (gN l i).dot.p, vi (gN l i).dot.n]) = true := rfl
    repeat (refine And.intro (by omega) ?_)
    simp +contextual (maxSteps := 1000000) only [go_sem, ints, intRows, reduceAdd, Nat.reduceBEq, reduceEqDiff, reduceLeDiff, Nat.reduceLT, reduceIte, reduceLE, Int.reduceLT, reduceEq, reduceNeg, reduceToNat, ops, vals, dots, h0, h1, h5, h19, h20, h21, h4, oM, qk, q1', q2, w1]
    first | refine caS_i (Check_ok (fl := .b) (gN l i).deps) trivial ?_ | refine caD_i (Check_ok (fl := .b) (gN l i).deps) trivial ?_ | refine gC_i (fun _ => Check_ok (fl := .b) (gN l i).deps) trivial ?_ | refine gCD_i (fun _ => Check_ok (fl := .b) (gN l i).deps) trivial ?_ | refine caE_i (Check_ok (fl := .b) (gN l i).deps) trivial ?_
    simp +contextual (maxSteps := 1000000) only [go_sem, ints, intRows, reduceAdd, Nat.reduceBEq, reduceEqDiff, reduceLeDiff, Nat.reduceLT, reduceIte, reduceLE, Int.reduceLT, reduceEq, reduceNeg, reduceToNat, ops, vals, dots, h0, h1, h5, h19, h20, h21, h4, oM, qk, q1', q2, w1]
    subst hD
    refine ⟨fun hb => ?_, fun hb => ⟨⟨by omega, i + 1, ((l.take i).map (·.dot)) ++ [(gN l i).dot], rfl, by omega, ?_, ?_, fun j hj => ?_⟩, by omega⟩⟩
    · have hno : okHead n l = false := by
        unfold okHead; rw [decide_eq_false_iff_not]; intro h
        obtain ⟨a1, a2, a3, a4, a5⟩ := h i hlt
        have b2 : decide ((gN l i).dot.p < 0) = false := by simp; omega
        have b3 : decide (n ≤ (gN l i).dot.p) = false := by simp; omega
        rw [a1, b2, b3, decide_eq_true a4, decide_eq_true a5] at hb
        cases hb
      unfold closedB; rw [hno, Bool.and_false]; rfl
    · have hin : inD ((l.take i).map (·.dot)) (gN l i).dot = false := by
        cases h : inD ((l.take i).map (·.dot)) (gN l i).dot with
        | false => rfl
        | true => rw [h] at hb; simp at hb
      rw [q3 hin, List.map_append]; rfl
    · rw [take_gN hlt, List.map_append]; rfl
    · by_cases hji : j = i
      · subst hji
        simp only [Bool.or_eq_false_iff, Bool.not_eq_false', decide_eq_false_iff_not, decide_eq_true_eq] at hb
        exact ⟨hb.1.1.1.1, by omega, by omega, hb.1.2, hb.2⟩
      · exact he j (by omega)
  have hi' : i = l.length := by simp at hge; omega
  subst hi'
  rw [List.take_length] at hD
  have hhead : okHead n l = true := by unfold okHead; rw [decide_eq_true he]
  have hcl : closedB n l = decide (∀ i, i < l.length → okTail D (gN l i) = true) := by unfold closedB; rw [decide_eq_true hn5, hhead, hD]; rfl
  clear hge w1 h21 hb hhead
  refine wpC_lp (fun env' ob' n' => env' 0 = vi n ∧ env' 5 = .mp 7 ∧ env' 59 = ops fl l ∧ env' 60 = vi l.length ∧ 7 < n' ∧ ob' 7 = some ⟨0, D.map drV, none⟩ ∧ ∃ i : Nat, env' 61 = vi i ∧ i ≤ l.length ∧ ∀ j, j < i → okTail D (gN l j) = true) (fun env ob _ => (l.length - iv (env 61)).toNat) ?_ ?_
  · simp +contextual (maxSteps := 1000000) only [go_sem, ints, intRows, reduceAdd, Nat.reduceBEq, reduceEqDiff, reduceLeDiff, Nat.reduceLT, reduceIte, reduceLE, Int.reduceLT, reduceEq, reduceNeg, reduceToNat, ops, vals, dots, h0, h1, h5, h19, h20, oM]
    exact ⟨by omega, 0, rfl, Nat.zero_le _, fun j hj => by omega⟩
  clear h0 h1 h5 h19 h20 oM
  rintro env ob nn ⟨h0, h5, h59, h60, hnn, oM, i, h61, hi, ht⟩
  have w1 : IntKind.i64.wrap ((i : Int) + 1) = ((i + 1 : Nat) : Int) := by rw [w64 (by omega)]; omega
  simp +contextual (maxSteps := 1000000) only [go_sem, ints, intRows, reduceAdd, Nat.reduceBEq, reduceEqDiff, reduceLeDiff, Nat.reduceLT, reduceIte, reduceLE, Int.reduceLT, reduceEq, reduceNeg, reduceToNat, ops, vals, dots, h0, h5, h59, h60, h61]
  refine ⟨fun hlt => ?_, fun hge => ?_⟩
  · simp at hlt
    have hve := he i hlt
    have hnx := hn _ (gN_mem hlt)
    generalize hx : gN l i = x at *
    obtain ⟨q, q1, q2, q3⟩ := posM_dots ⟨x.dot.p, IntKind.i64.wrap (x.dot.n - 1)⟩ D
    have h4 : (7 == nn + 1 + 1 + 1) = false := by simp; omega
    have q1' : posM true [0, 0] (.ag [.c (.int .i64 x.dot.p), .c (.int .i64 (IntKind.i64.wrap (x.dot.n - 1)))]) (D.map drV) = some q := q1
    have qk : keyOk true [0, 0] (.ag [.c (.int .i64 x.dot.p), .c (.int .i64 (IntKind.i64.wrap (x.dot.n - 1)))]) = true := rfl
    have q1'' : posM true [0, 0] (.ag (dotV ⟨x.dot.p, IntKind.i64.wrap (x.dot.n - 1)⟩)) (D.map drV) = some q := q1
    repeat (refine And.intro (by omega) ?_)
    simp +contextual (maxSteps := 1000000) only [go_sem, ints, intRows, reduceAdd, Nat.reduceBEq, reduceEqDiff, reduceLeDiff, Nat.reduceLT, reduceIte, reduceLE, Int.reduceLT, reduceEq, reduceNeg, reduceToNat, ops, vals, dots, h0, h5, h59, h60, h61, h4, oM, qk, q1', q1'', q2, w1, hx, keyOk_dot]
    have hbad : okTail D x = false → vb false = vb (closedB n l) := fun h => by
      rw [hcl, decide_eq_false]; intro h2; have := h2 i hlt; rw [hx, h] at this; cases this
    have hfst : (decide (1 < x.dot.n) && !inD D ⟨x.dot.p, IntKind.i64.wrap (x.dot.n - 1)⟩) = !(decide (x.dot.n ≤ 1) || inD D ⟨x.dot.p, x.dot.n - 1⟩) := by
      by_cases h1 : 1 < x.dot.n
      · have hw : IntKind.i64.wrap (x.dot.n - 1) = x.dot.n - 1 := by unfold inI at hnx; exact w64 (by omega)
        have h2 : decide (x.dot.n ≤ 1) = false := by simp; omega
        rw [hw, h2, decide_eq_true h1]; simp
      · have h2 : decide (x.dot.n ≤ 1) = true := by simp; omega
        rw [h2, decide_eq_false h1]; rfl
    rw [hfst]
    refine ⟨fun hb => ?_, fun hb => ?_⟩
    · refine hbad ?_
      unfold okTail
      have : (decide (x.dot.n ≤ 1) || inD D ⟨x.dot.p, x.dot.n - 1⟩) = false := by simpa using hb
      rw [this]; rfl
    have hb1 : (decide (x.dot.n ≤ 1) || inD D ⟨x.dot.p, x.dot.n - 1⟩) = true := by
      cases h : (decide (x.dot.n ≤ 1) || inD D ⟨x.dot.p, x.dot.n - 1⟩) with
      | true => rfl
      | false => rw [h] at hb; cases hb
    have hdl : x.deps.length ≤ 5 := by
      have := hve.2.2.2.1; omega
    refine wpC_lp (fun env' ob' n' => env' 0 = vi n ∧ env' 5 = .mp 7 ∧ env' 59 = ops fl l ∧ env' 60 = vi l.length ∧ env' 61 = vi i ∧ 7 < n' ∧ ob' 7 = some ⟨0, D.map drV, none⟩ ∧ env' 83 = ints .b x.deps ∧ env' 84 = vi x.deps.length ∧ ∃ p : Nat, env' 85 = vi p ∧ p ≤ x.deps.length ∧ ∀ j, j < p → allD D j (gN x.deps j) = true) (fun env ob _ => (x.deps.length - iv (env 85)).toNat) ?_ ?_
    · simp +contextual (maxSteps := 1000000) only [go_sem, ints, intRows, reduceAdd, Nat.reduceBEq, reduceEqDiff, reduceLeDiff, Nat.reduceLT, reduceIte, reduceLE, Int.reduceLT, reduceEq, reduceNeg, reduceToNat, ops, vals, dots, h0, h5, h59, h60, h61, h4, oM]
      exact ⟨by omega, 0, rfl, Nat.zero_le _, fun j hj => by omega⟩
    clear h0 h5 h59 h60 h61 oM h4
    rintro env ob2 n2 ⟨h0, h5, h59, h60, h61, hn2, oM, h83, h84, p, h85, hp, hap⟩
    have w2 : IntKind.i64.wrap ((p : Int) + 1) = ((p + 1 : Nat) : Int) := by rw [w64 (by omega)]; omega
    simp +contextual (maxSteps := 1000000) only [go_sem, ints, intRows, reduceAdd, Nat.reduceBEq, reduceEqDiff, reduceLeDiff, Nat.reduceLT, reduceIte, reduceLE, Int.reduceLT, reduceEq, reduceNeg, reduceToNat, ops, vals, dots, h0, h5, h59, h60, h61, h83, h84, h85]
    refine ⟨fun hlp => ?_, fun hgp => ?_⟩
    · simp at hlp
      repeat (refine And.intro (by omega) ?_)
      have hmost := vec_most hve.2.2.2.2 p hlp
      refine rcS_i (all_ok oM hmost fun n' hn' => ?_)
      simp +contextual (maxSteps := 1000000) only [go_sem, ints, intRows, reduceAdd, Nat.reduceBEq, reduceEqDiff, reduceLeDiff, Nat.reduceLT, reduceIte, reduceLE, Int.reduceLT, reduceEq, reduceNeg, reduceToNat, ops, vals, dots, h0, h5, h59, h60, h61, h83, h84, h85, w2]
      refine ⟨fun hb => ?_, fun hb => ⟨⟨by omega, oM, p + 1, rfl, by omega, fun j hj => ?_⟩, by omega⟩⟩
      · refine hbad ?_
        unfold okTail
        have : decide (∀ p : Nat, p < x.deps.length → allD D p (gN x.deps p) = true) = false := decide_eq_false fun h => by have := h p hlp; rw [hb] at this; cases this
        rw [this, Bool.and_false]
      · by_cases hjp : j = p
        · subst hjp; simpa using hb
        · exact hap j (by omega)
    · have hp' : p = x.deps.length := by simp at hgp; omega
      subst hp'
      simp +contextual (maxSteps := 1000000) only [go_sem, ints, intRows, reduceAdd, Nat.reduceBEq, reduceEqDiff, reduceLeDiff, Nat.reduceLT, reduceIte, reduceLE, Int.reduceLT, reduceEq, reduceNeg, reduceToNat, ops, vals, dots, h0, h5, h59, h60, h61, w1]
      refine ⟨⟨by omega, oM, i + 1, rfl, by omega, fun j hj => ?_⟩, by omega⟩
      by_cases hji : j = i
      · subst hji
        rw [hx]; unfold okTail; rw [hb1, decide_eq_true hap]; rfl
      · exact ht j (by omega)
  · have hi' : i = l.length := by simp at hge; omega
    subst hi'
    rw [hcl, decide_eq_true ht]
end Go.Proofs.YtbojpedklnmidaaGreat.D
end
section
set_option linter.unusedVariables false
set_option linter.unusedSimpArgs false
set_option linter.constructorNameAsVariable false
set_option maxRecDepth 100000

/- What is read only and not handed back: a call's arguments taken so. No condition. -/
namespace Go.Proofs.YtbojpedklnmidaaGreat.D
open Go Go.Proofs
open Nat (reduceAdd reduceEqDiff reduceLeDiff)
open Int (reduceLE reduceEq reduceNeg reduceToNat)
def toN1 : V → V
  | .im .b l => .im .n l
  | v => v
def toB1 : V → V
  | .im .n l => .im .b l
  | v => v
section
variable {w : World} {ok : Fl → Nat → Prop} {loc : Loc}
theorem RV_fl {f f' : Fl} {l : List (List V)} {x : Value} (hok : ∀ b, ok f b → ok f' b) (ho : f' = .o → f = .o) (h : RV w ok loc (.im f l) x) : RV w ok loc (.im f' l) x := by
  cases h with
  | e _ a cap h => exact .e f' a cap fun e => h (ho e)
  | im _ _ k b off n cap ys hn hk hc ho h0 h => exact .im f' l k b off n cap ys hn hk hc (hok _ ho) h0 h
theorem RV_toN {v : V} {x : Value} (hok : ∀ b, ok .b b → ok .n b) (h : RV w ok loc v x) : RV w ok loc (toN1 v) x := by
  unfold toN1; split
  · exact RV_fl hok (fun e => by cases e) h
  · exact h
theorem RV_toB {v : V} {x : Value} (hok : ∀ b, ok .n b → ok .b b) (h : RV w ok loc v x) : RV w ok loc (toB1 v) x := by
  unfold toB1; split
  · exact RV_fl hok (fun e => by cases e) h
  · exact h
theorem el_mapG {l : List (List V)} {g : V → V} {i j : Nat} {v : V} (h : el (l.map fun r => r.map g) i j = some v) : ∃ v0, el l i j = some v0 ∧ v = g v0 := by
  unfold el at h ⊢
  rw [List.getElem?_map] at h
  cases hl : l[i]? with
  | none => rw [hl] at h; cases h
  | some r =>
    rw [hl] at h
    simp only [Option.map_some, Option.bind_some, List.getElem?_map] at h ⊢
    obtain ⟨v0, h1, rfl⟩ := Option.map_eq_some_iff.1 h
    exact ⟨v0, h1, rfl⟩
theorem RV_rows {g : V → V} (hg : ∀ v x, RV w ok loc v x → RV w ok loc (g v) x) {f : Fl} {l : List (List V)} {x : Value} (h : RV w ok loc (.im f l) x) : RV w ok loc (.im f (l.map fun r => r.map g)) x := by
  cases h with
  | e _ a cap h => exact .e f a cap h
  | im _ _ k b off n cap ys hn hk hc ho h0 h =>
    refine .im f _ k b off n cap ys (by simpa using hn) (fun ch hch => ?_) hc ho (fun i j v hv => ?_) fun i j v hv => ?_
    · obtain ⟨r, hr, rfl⟩ := List.mem_map.1 hch
      rw [List.length_map]; exact hk r hr
    · obtain ⟨v0, h1, _⟩ := el_mapG hv
      exact h0 i j v0 h1
    · obtain ⟨v0, h1, rfl⟩ := el_mapG hv
      exact hg _ _ (h i j v0 h1)
theorem RV_ag {g : V → V} (hg : ∀ v x, RV w ok loc v x → RV w ok loc (g v) x) {l : List V} {x : Value} (h : RV w ok loc (.ag l) x) : RV w ok loc (.ag (l.map g)) x := by
  cases h with
  | ag _ xs hn h =>
    refine .ag _ xs (by simpa using hn) fun i v x hv hx => ?_
    rw [List.getElem?_map] at hv
    obtain ⟨v0, h1, rfl⟩ := Option.map_eq_some_iff.1 hv
    exact hg _ _ (h i v0 x h1 hx)
end
inductive FArg (g : V → V) : V → V → Prop
  | r (v : V) : FArg g v v
  | i (f : Fl) (l : List (List V)) : FArg g (.im f l) (.im f (l.map fun r => r.map g))
  | a (l : List V) : FArg g (.ag l) (.ag (l.map g))
def FArgs (g : V → V) : List V → List V → Prop
  | [], [] => True
  | a :: l, a' :: l' => FArg g a a' ∧ FArgs g l l'
  | _, _ => False
theorem FArgs.get {g : V → V} : ∀ {l l' : List V}, FArgs g l l' → l.length = l'.length ∧ ∀ (i : Nat) (v' : V), l'[i]? = some v' → ∃ v, l[i]? = some v ∧ FArg g v v'
  | [], [], _ => ⟨rfl, fun i v' h => by cases h⟩
  | a :: l, a' :: l', h => by
    obtain ⟨h1, h2⟩ := FArgs.get h.2
    refine ⟨by simp [h1], fun i v' hv => ?_⟩
    cases i with
    | zero =>
      simp only [List.getElem?_cons_zero, Option.some.injEq] at hv ⊢
      subst hv; exact ⟨a, rfl, h.1⟩
    | succ i => simpa using h2 i v' (by simpa using hv)
  | [], _ :: _, h => h.elim
  | _ :: _, [], h => h.elim
theorem RVs_args {w : World} {ok : Fl → Nat → Prop} {loc : Loc} {g : V → V} (hg : ∀ v x, RV w ok loc v x → RV w ok loc (g v) x) {l l' : List V} {xs : List Value} (ha : FArgs g l l') (h : RVs w ok loc l xs) : RVs w ok loc l' xs := by
  obtain ⟨h1, h2⟩ := ha.get
  refine ⟨h.1.trans h1, fun i v x hv hx => ?_⟩
  obtain ⟨v0, h3, h4⟩ := h2 i v hv
  have h5 := h.2 i v0 x h3 hx
  cases h4 with
  | r => exact h5
  | i f l => exact RV_rows hg h5
  | a l => exact RV_ag hg h5
theorem FnB_weak {P : Program} {f : FuncId} {args args' : List V} {r : V} (h : FnB P f args' r) (ha : FArgs toN1 args args') : FnB P f args r :=
  ⟨h.1, fun B w xs hx => h.2 B w xs (RVs_args (fun v x => RV_toN fun b hb => ⟨hb.1, hb.2.1, .inl rfl⟩) ha hx)⟩
theorem FnB_nb {P : Program} {f : FuncId} {args args' : List V} {c : Value} (h : FnB P f args (.c c)) (ha : FArgs toB1 args' args) : FnB P f args' (.c c) := by
  refine ⟨h.1, fun B w xs hx => ?_⟩
  have hx2 : RVs w (@okf ⟨fun _ => True⟩ (fun _ => none) w.heap.size w.heap.size) (fun _ => none) args' xs :=
    ⟨hx.1, fun i v x hv hxx => (hx.2 i v x hv hxx).mono (fun _ _ _ _ _ h => h) (fun f b hb => ⟨hb.1, hb.2.1, by
      rcases hb.2.2 with h | h | h
      · exact .inl h
      · exact .inr (.inl ⟨h.1, trivial⟩)
      · exact .inr (.inr h)⟩) fun id h => .inl rfl⟩
  have hx3 := RVs_args (fun v x => RV_toB fun b hb => ⟨hb.1, hb.2.1, .inr (.inl ⟨rfl, trivial⟩)⟩) ha hx2
  refine (h.2 ⟨fun _ => True⟩ w xs hx3).mono ?_
  rintro e w' ⟨x, h1, h2, h3⟩
  refine ⟨x, h1, ?_, h3⟩
  obtain ⟨bo, g1, g2, g3⟩ := h2
  refine ⟨bo, g1, fun i r x hr hx => ?_, g3⟩
  have hr2 := g2 i r x hr hx
  have : r = .c c := by
    cases i with
    | zero => simpa using hr.symm
    | succ i => simp at hr
  subst this
  obtain ⟨k1, k2⟩ := hr2
  cases k2
  exact ⟨k1, .c _⟩
def opN (x : Opx) : List V := [vi x.dot.p, vi x.dot.n, ints .n x.deps, vi x.st.p, vi x.st.l, vi x.st.q, vi x.kind, vi x.table, .c (.string x.key), vi x.col, vals .n x.vals, dots .n x.dots]
def opsN (f : Fl) (l : List Opx) : V := .im f (l.map opN)
@[go_sem] theorem opsN_d (f : Fl) (l : List Opx) : opsN f l = .im f (l.map opN) := (rfl)
@[go_sem] theorem opN_d1 (x : Opx) : (opN x).drop 1 = [vi x.dot.n, ints .n x.deps, vi x.st.p, vi x.st.l, vi x.st.q, vi x.kind, vi x.table, .c (.string x.key), vi x.col, vals .n x.vals, dots .n x.dots] := (rfl)
@[go_sem] theorem opN_d2 (x : Opx) : (opN x).drop 2 = [ints .n x.deps, vi x.st.p, vi x.st.l, vi x.st.q, vi x.kind, vi x.table, .c (.string x.key), vi x.col, vals .n x.vals, dots .n x.dots] := (rfl)
@[go_sem] theorem opN_d3 (x : Opx) : (opN x).drop 3 = [vi x.st.p, vi x.st.l, vi x.st.q, vi x.kind, vi x.table, .c (.string x.key), vi x.col, vals .n x.vals, dots .n x.dots] := (rfl)
@[go_sem] theorem opN_d4 (x : Opx) : (opN x).drop 4 = [vi x.st.l, vi x.st.q, vi x.kind, vi x.table, .c (.string x.key), vi x.col, vals .n x.vals, dots .n x.dots] := (rfl)
@[go_sem] theorem opN_d5 (x : Opx) : (opN x).drop 5 = [vi x.st.q, vi x.kind, vi x.table, .c (.string x.key), vi x.col, vals .n x.vals, dots .n x.dots] := (rfl)
@[go_sem] theorem opN_d6 (x : Opx) : (opN x).drop 6 = [vi x.kind, vi x.table, .c (.string x.key), vi x.col, vals .n x.vals, dots .n x.dots] := (rfl)
@[go_sem] theorem opN_d7 (x : Opx) : (opN x).drop 7 = [vi x.table, .c (.string x.key), vi x.col, vals .n x.vals, dots .n x.dots] := (rfl)
@[go_sem] theorem opN_d8 (x : Opx) : (opN x).drop 8 = [.c (.string x.key), vi x.col, vals .n x.vals, dots .n x.dots] := (rfl)
@[go_sem] theorem opN_d9 (x : Opx) : (opN x).drop 9 = [vi x.col, vals .n x.vals, dots .n x.dots] := (rfl)
@[go_sem] theorem opN_d10 (x : Opx) : (opN x).drop 10 = [vals .n x.vals, dots .n x.dots] := (rfl)
@[go_sem] theorem opN_d11 (x : Opx) : (opN x).drop 11 = [dots .n x.dots] := (rfl)
@[go_sem] theorem opN_t1 (x : Opx) : (opN x).take 1 = [vi x.dot.p] := (rfl)
@[go_sem] theorem opN_t2 (x : Opx) : (opN x).take 2 = [vi x.dot.p, vi x.dot.n] := (rfl)
@[go_sem] theorem opN_t3 (x : Opx) : (opN x).take 3 = [vi x.dot.p, vi x.dot.n, ints .n x.deps] := (rfl)
@[go_sem] theorem opN_t4 (x : Opx) : (opN x).take 4 = [vi x.dot.p, vi x.dot.n, ints .n x.deps, vi x.st.p] := (rfl)
@[go_sem] theorem opN_t5 (x : Opx) : (opN x).take 5 = [vi x.dot.p, vi x.dot.n, ints .n x.deps, vi x.st.p, vi x.st.l] := (rfl)
@[go_sem] theorem opN_t6 (x : Opx) : (opN x).take 6 = [vi x.dot.p, vi x.dot.n, ints .n x.deps, vi x.st.p, vi x.st.l, vi x.st.q] := (rfl)
@[go_sem] theorem opN_t7 (x : Opx) : (opN x).take 7 = [vi x.dot.p, vi x.dot.n, ints .n x.deps, vi x.st.p, vi x.st.l, vi x.st.q, vi x.kind] := (rfl)
@[go_sem] theorem opN_t8 (x : Opx) : (opN x).take 8 = [vi x.dot.p, vi x.dot.n, ints .n x.deps, vi x.st.p, vi x.st.l, vi x.st.q, vi x.kind, vi x.table] := (rfl)
@[go_sem] theorem opN_t9 (x : Opx) : (opN x).take 9 = [vi x.dot.p, vi x.dot.n, ints .n x.deps, vi x.st.p, vi x.st.l, vi x.st.q, vi x.kind, vi x.table, .c (.string x.key)] := (rfl)
@[go_sem] theorem opN_t10 (x : Opx) : (opN x).take 10 = [vi x.dot.p, vi x.dot.n, ints .n x.deps, vi x.st.p, vi x.st.l, vi x.st.q, vi x.kind, vi x.table, .c (.string x.key), vi x.col] := (rfl)
@[go_sem] theorem opN_t11 (x : Opx) : (opN x).take 11 = [vi x.dot.p, vi x.dot.n, ints .n x.deps, vi x.st.p, vi x.st.l, vi x.st.q, vi x.kind, vi x.table, .c (.string x.key), vi x.col, vals .n x.vals] := (rfl)
@[go_sem] theorem opN_t12 (x : Opx) : (opN x).take 12 = opN x := (rfl)
@[go_sem] theorem opN_d12 (x : Opx) : (opN x).drop 12 = [] := (rfl)
@[go_sem] theorem opN_len (x : Opx) : (opN x).length = 12 := (rfl)
@[go_sem] theorem opN_leaf (x : Opx) : (opN x).all leaf = true := (rfl)
@[go_sem] theorem opN_row (x : Opx) : okRow 12 (opN x) = true := (rfl)
@[go_sem] theorem res_opN (ob : OB) (n : Nat) (x : Opx) : (opN x).map (resV ob (n + 3)) = opN x := by
  simp [opN, resV, ints, vals, dots, resFl, vlV, dotV, Function.comp_def]
theorem ops_toN (f : Fl) (l : List Opx) : FArg toN1 (ops f l) (opsN f l) := by
  have : opsN f l = .im f ((l.map opV).map fun r => r.map toN1) := by
    unfold opsN; rw [List.map_map]; rfl
  rw [this]; exact .i f _
theorem op_toB (x : Opx) : FArg toB1 (.ag (opN x)) (.ag (opV x)) := .a (opN x)
end Go.Proofs.YtbojpedklnmidaaGreat.D
end
section
set_option linter.unusedVariables false
set_option linter.unusedSimpArgs false
set_option linter.constructorNameAsVariable false
set_option maxRecDepth 100000

/- What operations make of a key: an operation noted. No condition. -/
namespace Go.Proofs.YtbojpedklnmidaaGreat.D
open Go Go.Proofs
open Nat (reduceAdd reduceEqDiff reduceLeDiff)
open Int (reduceLE reduceEq reduceNeg reduceToNat)
section
variable {ob : OB} {nid k : Nat} {v x : V} {rows xs : List (List V)}
theorem app_new (h : (rows = [] ∧ v = .z) ∨ (∃ id cap, v = .sl id 0 rows.length ∧ ob id = some ⟨k, rows, cap⟩)) (h0 : xs ≠ []) (hx : rowsOf ob x = some xs) (hk : xs.all (okRow k) = true) (hlen : rows.length + xs.length ≤ maxLen) :
    ∃ us, opF (.app k) [v, x] ob nid = some (.sl nid 0 (rows.length + xs.length), us) ∧ apps ob us nid = some ⟨k, rows ++ xs, none⟩ ∧ ∀ id, id ≠ nid → (∀ len, v ≠ .sl id 0 len) → apps ob us id = ob id := by
  have hx0 : xs.length ≠ 0 := fun e => h0 (List.eq_nil_of_length_eq_zero e)
  rcases h with ⟨rfl, rfl⟩ | ⟨id, cap, rfl, hob⟩
  · refine ⟨[(nid, some ⟨k, xs, none⟩)], ?_, by simp [apps], fun j hj _ => by simp [apps, hj]⟩
    simp only [opF, hx, hk, Option.bind_some, if_true, hx0, if_false]; rw [if_pos (by simpa using hlen)]; simp
  · refine ⟨grown cap id (rows.length + xs.length) ++ [(nid, some ⟨k, rows ++ xs, none⟩)], ?_, ?_, fun j hj hs => ?_⟩
    · simp only [opF, hx, hk, Option.bind_some, if_true, hob]
      rw [if_pos ⟨trivial, by omega, hlen⟩, if_neg (by omega)]
      simp
    · rw [apps_append]; simp [apps]
    · rw [apps_append]
      have hji : j ≠ id := fun e => hs rows.length (by rw [e])
      have : apps ob (grown cap id (rows.length + xs.length)) j = ob j := by
        unfold grown; split
        · split <;> simp [apps, hji]
        · simp [apps, hji]
      simp [apps, hj, this]
end
def atX (x : Opx) (col : Int) : Int := if x.kind = 1 then col else if x.kind = 2 ∧ x.col = col then 0 else -1
theorem at_ok (x : Opx) (col : Int) : FnB Tryz.prog 90 [.ag (opV x), vi col] (vi (atX x col)) := by
  refine fnB_intro cf90 (by simp) ?_
  simp +contextual (maxSteps := 1000000) only [go_sem, ints, intRows, reduceAdd, Nat.reduceBEq, reduceEqDiff, reduceLeDiff, Nat.reduceLT, reduceIte, reduceLE, Int.reduceLT, reduceEq, reduceNeg, reduceToNat, ops, vals, dots, c90]
  unfold atX
  refine ⟨fun h1 => ?_, fun h1 => ⟨fun h2 => ?_, fun h2 => ?_⟩⟩
  · rw [if_pos (by simpa using h1)]
  · simp at h1 h2
    rw [if_neg h1, if_pos h2]
  · simp only [decide_eq_false_iff_not] at h1
    rw [if_neg h1, if_neg]
    rintro ⟨a, b⟩
    simp [a, b] at h2
theorem at_okN (x : Opx) (col : Int) : FnB Tryz.prog 90 [.ag (opN x), vi col] (vi (atX x col)) := FnB_nb (at_ok x col) ⟨op_toB x, .r _, trivial⟩
structure Mde where
  key : ByteArray
  ins : List Dt
  outs : List Dt
  last : List (Option Opx)
instance : Inhabited Mde := ⟨⟨⟨#[]⟩, [], [], []⟩⟩
def zOpV : List V := [vi 0, vi 0, .z, vi 0, vi 0, vi 0, vi 0, vi 0, .c (.string ⟨#[]⟩), vi 0, .z, .z]
def lastV : Option Opx → List V
  | none => zOpV
  | some x => opN x
def lateB (o : Option Opx) (x : Opx) : Bool := match o with
  | none => true
  | some y => decide (y.kind = 0) || decide (cmpT y.st x.st < 0)
def noteM (M : Mde) (x : Opx) : Mde := ⟨M.key, if x.kind = 1 then M.ins ++ [x.dot] else M.ins, if x.kind = 3 then M.outs ++ x.dots else M.outs, M.last.mapIdx fun c o => if 0 ≤ atX x c ∧ lateB o x = true then some x else o⟩
structure MadeO (ob : OB) (n mid : Nat) (M : Mde) (inV outV laV : V) : Prop where
  m : ob mid = some ⟨4, [[.c (.string M.key), inV, outV, laV]], none⟩
  i : Own n ob inV 2 (M.ins.map dotV)
  o : Own n ob outV 2 (M.outs.map dotV)
  l : OwnE n ob laV 12 (M.last.map lastV)
  d : ∀ id len len', inV = .sl id 0 len → outV ≠ .sl id 0 len'
  lt : mid < n
end Go.Proofs.YtbojpedklnmidaaGreat.D
end
section
set_option linter.constructorNameAsVariable false

/- The library's sort of texts, by its contract, at this program: written by the kit's tool. No condition. -/
namespace Go.Proofs.YtbojpedklnmidaaGreat.D
open Go Go.Proofs
open Nat (reduceAdd reduceEqDiff reduceLeDiff)
open Int (reduceLE reduceEq reduceNeg reduceToNat)
open Go.Shelf
def laysSort_ren : Go.Shelf.Ren := ⟨fun | 190 => 46 | 125 => 93 | 258 => 92 | 128 => 135 | 129 => 136 | 302 => 126 | 303 => 127 | 304 => 128 | 305 => 129 | 306 => 130 | 307 => 131 | 308 => 132 | 309 => 133 | 310 => 134 | 333 => 149 | 329 => 150 | 330 => 151 | 334 => 152 | 335 => 153 | 336 => 154 | 344 => 161 | n => n, fun | 31 => 91 | 9 => 9 | 3 => 3 | 46 => 119 | 0 => 0 | 51 => 166 | 53 => 168 | 4 => 4 | 183 => 159 | 182 => 158 | 131 => 74 | 5 => 5 | 218 => 173 | 222 => 177 | 228 => 184 | 229 => 185 | n => n, fun | n => n⟩
theorem laysSort : Go.Proofs.Lays.n190 Tryz.prog laysSort_ren := {
  mixed := by kernel_rfl
  f125 := Tryz.func93.trans (congrArg some (by kernel_rfl))
  f128 := Tryz.func135.trans (congrArg some (by kernel_rfl))
  f129 := Tryz.func136.trans (congrArg some (by kernel_rfl))
  f190 := Tryz.func46.trans (congrArg some (by kernel_rfl))
  f258 := Tryz.func92.trans (congrArg some (by kernel_rfl))
  f302 := Tryz.func126.trans (congrArg some (by kernel_rfl))
  f303 := Tryz.func127.trans (congrArg some (by kernel_rfl))
  f304 := Tryz.func128.trans (congrArg some (by kernel_rfl))
  f305 := Tryz.func129.trans (congrArg some (by kernel_rfl))
  f306 := Tryz.func130.trans (congrArg some (by kernel_rfl))
  f307 := Tryz.func131.trans (congrArg some (by kernel_rfl))
  f308 := Tryz.func132.trans (congrArg some (by kernel_rfl))
  f309 := Tryz.func133.trans (congrArg some (by kernel_rfl))
  f310 := Tryz.func134.trans (congrArg some (by kernel_rfl))
  f329 := Tryz.func150.trans (congrArg some (by kernel_rfl))
  f330 := Tryz.func151.trans (congrArg some (by kernel_rfl))
  f333 := Tryz.func149.trans (congrArg some (by kernel_rfl))
  f334 := Tryz.func152.trans (congrArg some (by kernel_rfl))
  f335 := Tryz.func153.trans (congrArg some (by kernel_rfl))
  f336 := Tryz.func154.trans (congrArg some (by kernel_rfl))
  f344 := Tryz.func161.trans (congrArg some (by kernel_rfl))
  t0 := Tryz.underlying0
  a0 := Tryz.isAgg0
  z0 := Tryz.sizeOf0
  v0 := Tryz.zeroValue0
  t3 := Tryz.underlying3
  a3 := Tryz.isAgg3
  z3 := Tryz.sizeOf3
  v3 := Tryz.zeroValue3
  t4 := Tryz.underlying4
  a4 := Tryz.isAgg4
  z4 := Tryz.sizeOf4
  v4 := Tryz.zeroValue4
  t5 := Tryz.underlying5
  a5 := Tryz.isAgg5
  z5 := Tryz.sizeOf5
  v5 := Tryz.zeroValue5
  t9 := Tryz.underlying9
  a9 := Tryz.isAgg9
  z9 := Tryz.sizeOf9
  v9 := Tryz.zeroValue9
  t31 := Tryz.underlying91
  a31 := Tryz.isAgg91
  z31 := Tryz.sizeOf91
  v31 := Tryz.zeroValue91
  t46 := Tryz.underlying119
  a46 := Tryz.isAgg119
  z46 := Tryz.sizeOf119
  v46 := Tryz.zeroValue119
  t51 := Tryz.underlying166
  a51 := Tryz.isAgg166
  z51 := Tryz.sizeOf166
  v51 := Tryz.zeroValue166
  t53 := Tryz.underlying168
  a53 := Tryz.isAgg168
  z53 := Tryz.sizeOf168
  v53 := Tryz.zeroValue168
  t131 := Tryz.underlying74
  a131 := Tryz.isAgg74
  z131 := Tryz.sizeOf74
  v131 := Tryz.zeroValue74
  t182 := Tryz.underlying158
  a182 := Tryz.isAgg158
  z182 := Tryz.sizeOf158
  v182 := Tryz.zeroValue158
  t183 := Tryz.underlying159
  a183 := Tryz.isAgg159
  z183 := Tryz.sizeOf159
  v183 := Tryz.zeroValue159
  t218 := Tryz.underlying173
  a218 := Tryz.isAgg173
  z218 := Tryz.sizeOf173
  v218 := Tryz.zeroValue173
  t222 := Tryz.underlying177
  a222 := Tryz.isAgg177
  z222 := Tryz.sizeOf177
  v222 := Tryz.zeroValue177
  t228 := Tryz.underlying184
  a228 := Tryz.isAgg184
  z228 := Tryz.sizeOf184
  v228 := Tryz.zeroValue184
  t229 := Tryz.underlying185
  a229 := Tryz.isAgg185
  z229 := Tryz.sizeOf185
  v229 := Tryz.zeroValue185 }
open Go.Sort Go.RowKit in
theorem sort_calls (blk off cap : Nat) (ss : List (List UInt8)) (w : World) (hH : Holds encStr w blk off ss.toArray) (hblk : blk < w.heap.size) (hsz : ss.length < 4611686018427387904) :
    Calls Tryz.prog 46 #[.slice (some ⟨blk, off, none⟩) ss.length cap] w fun e w' =>
      e = .returned (.tuple #[]) ∧ ∃ n os, w' = grow (putRow encStr (Sort.ahead w n) blk off (ss.mergeSort fun x y => decide (x ≤ y)).toArray) os := Any.slices_Sort_string laysSort blk off cap ss w hH hblk hsz
theorem sort_calls_none (p : Option Addr) (cap : Nat) (w : World) :
    Calls Tryz.prog 46 #[.slice p 0 cap] w fun e w' => e = .returned (.tuple #[]) ∧ w' = w := Any.slices_Sort_string_none laysSort p cap w
end Go.Proofs.YtbojpedklnmidaaGreat.D
end
section
set_option linter.unusedVariables false
set_option linter.unusedSimpArgs false
set_option linter.constructorNameAsVariable false
set_option maxRecDepth 100000

/- Sorting texts of one's own. No condition. -/
namespace Go.Proofs.YtbojpedklnmidaaGreat.D
open Go Go.Proofs
open Nat (reduceAdd reduceEqDiff reduceLeDiff)
open Int (reduceLE reduceEq reduceNeg reduceToNat)
section
variable {n0 : Nat} {w : World} {own : Nat → Option Nat} {loc : Loc} {ob : OB} [Bk]
theorem ahead_ok (hwf : WF n0 w own loc ob) (n : Nat) : WF n0 (Sort.ahead w n) own loc ob ∧ Stp w own loc (Sort.ahead w n) own loc := by
  have hs : Stp w own loc (Sort.ahead w n) own loc := ⟨rfl, rfl, rfl, Nat.le_refl _, fun b hb ho => ⟨ho, rfl⟩, fun id hid => .inl rfl⟩
  refine ⟨⟨fun id o h => ?_, hwf.owns, hwf.lt⟩, hs⟩
  obtain ⟨p, h1, h2⟩ := hwf.has id o h
  exact ⟨p, h1, h2.stp hs rfl⟩
theorem grow_ok (hwf : WF n0 w own loc ob) (os : Array Obj) : WF n0 (Sort.grow w os) own loc ob ∧ Stp w own loc (Sort.grow w os) own loc := by
  have hh : ∀ b, b < w.heap.size → (Sort.grow w os).heap[b]? = w.heap[b]? := fun b hb => by
    show (w.heap ++ os)[b]? = _
    rw [Array.getElem?_append_left hb]
  have hsz : w.heap.size ≤ (Sort.grow w os).heap.size := by
    show w.heap.size ≤ (w.heap ++ os).size
    simp
  have hs : Stp w own loc (Sort.grow w os) own loc := ⟨rfl, rfl, rfl, hsz, fun b hb ho => ⟨ho, hh b hb⟩, fun id hid => .inl rfl⟩
  refine ⟨⟨fun id o h => ?_, fun id p h => ?_, fun b id h => ?_⟩, hs⟩
  · obtain ⟨p, h1, h2⟩ := hwf.has id o h
    exact ⟨p, h1, h2.stp hs (hh _ (hwf.owns id p h1).2)⟩
  · exact ⟨(hwf.owns id p h).1, Nat.lt_of_lt_of_le (hwf.owns id p h).2 hsz⟩
  · exact Nat.lt_of_lt_of_le (hwf.lt b id h) hsz
end
def sortB (l : List ByteArray) : List ByteArray := ((l.map fun s => s.data.toList).mergeSort fun x y => decide (x ≤ y)).map fun x => ⟨x.toArray⟩
theorem sortB_len (l : List ByteArray) : (sortB l).length = l.length := by simp [sortB]
@[reducible] def strV (s : ByteArray) : List V := [.c (.string s)]
theorem SortStr_ok {l : List ByteArray} {v : V} {n nid : Nat} {ob : OB} {C : V → OB → Nat → Prop} (h : Own n ob v 1 (l.map strV)) (hn : n ≤ nid) (hl : l.length ≤ maxLen)
    (hC : ∀ ob', Own n ob' v 1 ((sortB l).map strV) → (∀ id, (∀ len, v ≠ .sl id 0 len) → ob' id = ob id) → C (.tp []) ob' nid) : FnS Tryz.prog 46 [v] ob nid C := by
  unfold maxLen at hl
  refine ⟨by kernel_rfl, fun B n0 w own loc xs hwf hn0 hfree hv => ?_⟩
  obtain ⟨hv1, hv2⟩ := hv
  obtain ⟨x, rfl⟩ : ∃ x, xs = [x] := List.length_eq_one_iff.1 (by simpa using hv1)
  have hx := hv2 0 v x rfl rfl
  rcases h with ⟨hz, rfl⟩ | ⟨hne, id, cap, hid, rfl, hob⟩
  · have hl0 : l = [] := by simpa using hz
    subst hl0
    obtain ⟨a, rfl⟩ := hx.z_inv
    refine (sort_calls_none a 0 w).mono fun e w' ⟨he, hw⟩ => ?_
    subst hw
    exact ⟨_, .tp [], ob, nid, own, loc, he, .tp _ [] rfl (fun i v x h => by simp at h), hwf, .refl _ _ _, hfree, hC ob (.inl ⟨by simp [sortB], rfl⟩) fun _ _ => rfl⟩
  · obtain ⟨p, hp, hor, hcap, rfl⟩ := sl_at hwf hob hx
    have hmp := sl_mp hx hp
    obtain ⟨cs, t, hm1, hm2⟩ := hor.mem
    have hpk : p.k = 1 := hor.k.symm
    have hlen : (l.map strV).length = l.length := by simp
    have hcell : ∀ j, j < l.length → w.cell? ⟨p.b, p.base + j, none⟩ = some (.string (gN l j)) := fun j hj => by
      obtain ⟨y, h1, h2⟩ := hor.cells j 0 (.c (.string (gN l j))) (by
        simp only [el, List.getElem?_map]
        rw [List.getElem?_eq_getElem hj, gN_eq hj]; rfl)
      rw [h2.c_inv] at h1
      rw [← h1, hpk]; congr 2; omega
    have hH : Sort.Holds encStr w p.b p.base ((l.map fun s => s.data.toList).toArray) := fun j hj => by
      have hj' : j < l.length := by simpa using hj
      refine ⟨?_, by simp [World.frozen?, hm1]⟩
      rw [hcell j hj', getElem!_pos _ j (by simpa using hj')]
      simp [encStr, gN_eq hj']
    have hb := (hwf.owns id p hp).2
    have e0 : (⟨p.b, p.base + 0 * p.k, none⟩ : Addr) = ⟨p.b, p.base, none⟩ := by rw [Nat.zero_mul, Nat.add_zero]
    rw [e0]
    have hcall := sort_calls p.b p.base (p.cap - 0) (l.map fun s => s.data.toList) w hH hb (by simp; omega)
    rw [List.length_map] at hcall
    rw [hlen]
    refine hcall.mono fun e w' ⟨he, k, os, hw⟩ => ?_
    subst hw
    obtain ⟨a1, a2⟩ := ahead_ok hwf k
    have hss : ((l.map fun s => s.data.toList).mergeSort fun x y => decide (x ≤ y)) = (sortB l).map fun s => s.data.toList := by
      unfold sortB; rw [List.map_map]
      have : ((fun s : ByteArray => s.data.toList) ∘ fun x : List UInt8 => (⟨x.toArray⟩ : ByteArray)) = _root_.id := by funext x; simp
      rw [this, List.map_id]
    rw [hss]
    have hsl := sortB_len l
    have hm1' : (Sort.ahead w k).heap[p.b]? = some (.cells cs t (0, 0)) := hm1
    generalize hL : ((sortB l).map fun s => s.data.toList).toArray = L
    have hLs : L.size = l.length := by rw [← hL]; simp [hsl]
    have hLj : ∀ j, j < l.length → L[j]! = (gN (sortB l) j).data.toList := fun j hj => by
      rw [getElem!_pos _ j (by rw [hLs]; exact hj)]
      simp only [← hL, List.getElem_toArray, List.getElem_map]
      rw [gN_eq (by omega)]
    have hput : Sort.putRow encStr (Sort.ahead w k) p.b p.base L = { Sort.ahead w k with heap := (Sort.ahead w k).heap.setIfInBounds p.b (.cells (Sort.putCells encStr p.base L cs) t (0, 0)) } := by
      unfold Sort.putRow Sort.mapBlock
      congr 1
      apply Array.ext_getElem?
      intro i
      rw [Array.getElem?_modify, Array.getElem?_setIfInBounds]
      by_cases hi : p.b = i
      · subst hi
        rw [if_pos rfl, if_pos rfl, hm1', if_pos (show p.b < (Sort.ahead w k).heap.size from hb)]
        rfl
      · rw [if_neg hi, if_neg hi]
    rw [hput]
    have hcs : ∀ q, (Sort.putCells encStr p.base L cs)[q]? = (cs[q]?).map fun x => if p.base ≤ q ∧ q < p.base + L.size then encStr L[q - p.base]! else x := fun q => by
      unfold Sort.putCells
      rw [Array.getElem?_mapIdx]
    obtain ⟨b1, b2⟩ := set_xr a1 hp (.cells (Sort.putCells encStr p.base L cs) t (0, 0)) ⟨1, (sortB l).map strV, cap⟩ fun hs => .of hmp ⟨⟨_, t, by
        simp only [Array.getElem?_setIfInBounds_self]
        rw [if_pos (show p.b < (Sort.ahead w k).heap.size from hb)], by unfold Sort.putCells; simpa using hm2⟩, hor.k, by rw [List.length_map, hsl, ← hlen]; exact hor.len, fun ch hc => by
      obtain ⟨_, _, rfl⟩ := List.mem_map.1 hc; exact hor.k, fun i j v hv => by
      obtain ⟨r, h1, h2⟩ := el_some hv
      rw [List.getElem?_map] at h1
      obtain ⟨s, h3, rfl⟩ := Option.map_eq_some_iff.1 h1
      have hi : i < l.length := by rw [← hsl]; exact (List.getElem?_eq_some_iff.1 h3).1
      have hj : j = 0 := by
        have := (List.getElem?_eq_some_iff.1 h2).1; simpa using this
      subst hj
      simp at h2; subst h2
      refine ⟨.string s, ?_, .c _⟩
      have hold := hcell i hi
      simp only [World.cell?, hm1, Option.isSome_none, Bool.false_eq_true, if_false] at hold
      have hset : ((Sort.ahead w k).heap.setIfInBounds p.b (.cells (Sort.putCells encStr p.base L cs) t (0, 0)))[p.b]? = some (.cells (Sort.putCells encStr p.base L cs) t (0, 0)) := by
        rw [Array.getElem?_setIfInBounds_self, if_pos (show p.b < (Sort.ahead w k).heap.size from hb)]
      simp only [World.cell?, hset, Option.isSome_none, Bool.false_eq_true, if_false]
      have e1 : p.base + i * p.k + 0 = p.base + i := by rw [hpk]; omega
      rw [e1, hcs, hold]
      simp only [Option.map_some]
      rw [if_pos ⟨by omega, by omega⟩]
      have e2 : p.base + i - p.base = i := by omega
      rw [e2, hLj i hi]
      have : gN (sortB l) i = s := by
        rw [gN_eq (by omega)]
        have := List.getElem?_eq_some_iff.1 h3
        exact this.2
      rw [this], hor.cap⟩
    obtain ⟨c1, c2⟩ := grow_ok b1 os
    refine ⟨_, .tp [], _, nid, own, loc, he, .tp _ [] rfl (fun i v x h => by simp at h), c1, (a2.trans b2).trans c2, hfree, hC _ (.inr ⟨?_, id, cap, hid, ?_, ?_⟩) fun j hj => ?_⟩
    · intro e; apply hne
      have := congrArg List.length e
      rw [List.length_map, hsl] at this
      exact List.eq_nil_of_length_eq_zero (by simpa using this)
    · rw [List.length_map, List.length_map, hsl]
    · simp
    · have : j ≠ id := fun e => hj (l.map strV).length (by rw [e])
      simp [this]
end Go.Proofs.YtbojpedklnmidaaGreat.D
end
section
set_option linter.unusedVariables false
set_option linter.unusedSimpArgs false
set_option linter.constructorNameAsVariable false
set_option maxRecDepth 100000

/- What one insert makes: the waking call's. No condition. -/
namespace Go.Proofs.YtbojpedklnmidaaGreat.D
open Go Go.Proofs
open Nat (reduceAdd reduceEqDiff reduceLeDiff)
open Int (reduceLE reduceEq reduceNeg reduceToNat)
def runs (P : Program) (c : IC) (Q : Post) : Nat → Env → OB → Nat → Prop
  | 0, _, _, _ => False
  | k + 1, env, ob, n => wpC P c (thenQ (runs P c Q k) Q) env ob n
theorem least {p : Nat → Prop} (h : ∃ k, p k) : ∃ k, p k ∧ ∀ j, j < k → ¬ p j := by
  obtain ⟨k, hk⟩ := h
  induction k using Nat.strongRecOn with
  | _ k ih =>
    by_cases h : ∃ j, j < k ∧ p j
    · obtain ⟨j, hj, hp⟩ := h; exact ih j hj hp
    · exact ⟨k, hk, fun j hj hp => h ⟨j, hj, hp⟩⟩
open Classical in
theorem wpC_runs {P : Program} {c : IC} {Q : Post} {env : Env} {ob : OB} {n : Nat} (k : Nat) (h : runs P c Q k env ob n) : wpC P (.lp c) Q env ob n := by
  refine wpC_lp (fun env ob n => ∃ k, runs P c Q k env ob n) (fun env ob n => if h : ∃ k, runs P c Q k env ob n then Classical.choose (least h) else 0) ⟨k, h⟩ ?_
  intro env ob n hI
  rw [dif_pos hI]
  obtain ⟨h1, h2⟩ := Classical.choose_spec (least hI)
  generalize hm : Classical.choose (least hI) = m at *
  cases m with
  | zero => exact h1.elim
  | succ m =>
    refine wpC_mono (fun e env' ob' n' hq => ?_) h1
    cases e with
    | nrm =>
      have hI' : ∃ k, runs P c Q k env' ob' n' := ⟨m, hq⟩
      refine ⟨hI', ?_⟩
      show (if h : ∃ k, runs P c Q k env' ob' n' then Classical.choose (least h) else 0) < m + 1
      rw [dif_pos hI']
      obtain ⟨_, g2⟩ := Classical.choose_spec (least hI')
      exact Nat.lt_succ_of_le (Nat.le_of_not_lt fun hlt => g2 m hlt hq)
    | _ => exact hq
theorem runs_s {P : Program} {c : IC} {Q : Post} {env : Env} {ob : OB} {n k : Nat} : runs P c Q (k + 1) env ob n = wpC P c (thenQ (runs P c Q k) Q) env ob n := rfl
@[go_sem] theorem op_app0 (k : Nat) (f : Fl) (r : List V) (ob : OB) (i : Nat) (h : okRow k r = true) : opF (.app k) [.z, .im f [r]] ob i = some (.sl i 0 1, [(i, some ⟨k, [r], none⟩)]) := by
  obtain ⟨us, h1, _, _⟩ := app_new (ob := ob) (nid := i) (k := k) (v := .z) (x := .im f [r]) (rows := []) (xs := [r]) (.inl ⟨rfl, rfl⟩) (by simp) rfl (by simp [h]) (by simp [maxLen])
  simp [opF, rowsOf, h, maxLen]
theorem ContainsFDots_ok {fl : Fl} (l : List Dt) (f : Nat) (caps : List V) (p : Dt → Bool) (hl : l.length ≤ maxLen) (hc : ∀ ob, caps.map (resV ob 6) = caps) (hc' : ∀ ob, caps.map (resV ob 5) = caps) (hp : ∀ x ∈ l, FnB Tryz.prog f (.ag (dotV x) :: caps) (vb (p x))) :
    FnB Tryz.prog 94 [dots fl l, .fn f caps] (vb (l.any p)) := by
  refine fnB_intro cf94 (by simp) ?_
  simp +contextual (maxSteps := 1000000) only [go_sem, ints, intRows, reduceAdd, Nat.reduceBEq, reduceEqDiff, reduceLeDiff, Nat.reduceLT, reduceIte, reduceLE, Int.reduceLT, reduceEq, reduceNeg, reduceToNat, ops, vals, dots, c94, hc']
  first | refine caS_i (IndexDots_ok l f caps p hl hc hp) trivial ?_ | refine caD_i (IndexDots_ok l f caps p hl hc hp) trivial ?_ | refine gC_i (fun _ => IndexDots_ok l f caps p hl hc hp) trivial ?_ | refine gCD_i (fun _ => IndexDots_ok l f caps p hl hc hp) trivial ?_ | refine caE_i (IndexDots_ok l f caps p hl hc hp) trivial ?_
  simp +contextual (maxSteps := 1000000) only [go_sem, ints, intRows, reduceAdd, Nat.reduceBEq, reduceEqDiff, reduceLeDiff, Nat.reduceLT, reduceIte, reduceLE, Int.reduceLT, reduceEq, reduceNeg, reduceToNat, ops, vals, dots, idxI_ge]
theorem row1_ok (d : Dt) (a c : V) (o : List Dt) {fo : Fl} (ho : o.length ≤ maxLen) {i : List (List V)} {fi : Fl} : FnB Tryz.prog 95 [.ag (dotV d), .bp [.bp [a, .im fi i, dots fo o, c]]] (vb (!inD o d)) := by
  refine fnB_intro cf95 (by simp) ?_
  simp +contextual (maxSteps := 1000000) only [go_sem, ints, intRows, reduceAdd, Nat.reduceBEq, reduceEqDiff, reduceLeDiff, Nat.reduceLT, reduceIte, reduceLE, Int.reduceLT, reduceEq, reduceNeg, reduceToNat, ops, vals, dots, c95]
  first | refine caS_i (ContainsD_ok o d ho) trivial ?_ | refine caD_i (ContainsD_ok o d ho) trivial ?_ | refine gC_i (fun _ => ContainsD_ok o d ho) trivial ?_ | refine gCD_i (fun _ => ContainsD_ok o d ho) trivial ?_ | refine caE_i (ContainsD_ok o d ho) trivial ?_
  simp +contextual (maxSteps := 1000000) only [go_sem, ints, intRows, reduceAdd, Nat.reduceBEq, reduceEqDiff, reduceLeDiff, Nat.reduceLT, reduceIte, reduceLE, Int.reduceLT, reduceEq, reduceNeg, reduceToNat, ops, vals, dots]
@[reducible] def wkZ : List V := [vi 0, vi 0, .z, vi 0, vi 0, vi 0, vi 0, vi 0, .c (.string ⟨#[]⟩), vi 0, .z, .z]
set_option maxHeartbeats 4000000 in
theorem noteW_ok {mid laid nid : Nat} {cap : Option Nat} {ob : OB} {C : V → OB → Nat → Prop} (hm : ob mid = some ⟨4, [[.c (.string kK), .z, .z, .sl laid 0 1]], none⟩) (hl : ob laid = some ⟨12, [wkZ], cap⟩) (h1 : mid < nid) (h2 : laid < nid) (h12 : mid ≠ laid)
    (hC : ∀ ob' n' inid c1 c2, nid ≤ inid → inid < n' → ob' mid = some ⟨4, [[.c (.string kK), .sl inid 0 1, .z, .sl laid 0 1]], none⟩ → ob' inid = some ⟨2, [dotV ⟨0, 1⟩], c1⟩ → ob' laid = some ⟨12, [opV wk1.toOpx], c2⟩ → (∀ j, j < nid → j ≠ mid → j ≠ laid → ob' j = ob j) → C (.tp []) ob' n') :
    FnS Tryz.prog 45 [.pt mid 0 0, .ag (opV wk1.toOpx)] ob nid C := by
  refine fnS_intro cf45 (by simp) ?_
  have ha : ∀ k, (mid == nid + k) = false := fun k => by simp; omega
  have ha0 : (mid == nid) = false := by simp; omega
  have hb : ∀ k, (laid == nid + k) = false := fun k => by simp; omega
  have hb0 : (laid == nid) = false := by simp; omega
  have hml : (mid == laid) = false := by simp; omega
  have hlm : (laid == mid) = false := by simp; omega
  simp +contextual (maxSteps := 1000000) only [go_sem, ints, intRows, reduceAdd, Nat.reduceBEq, reduceEqDiff, reduceLeDiff, Nat.reduceLT, reduceIte, reduceLE, Int.reduceLT, reduceEq, reduceNeg, reduceToNat, ops, vals, dots, c45, hm, hl, ha, ha0, hb, hb0, hml, hlm, Nat.add_assoc, beq_add, Nat.zero_add, Nat.add_zero]
  refine wpC_runs 2 ?_
  have ha' : ∀ k, (nid + k == mid) = false := fun k => by simp; omega
  have hb' : ∀ k, (nid + k == laid) = false := fun k => by simp; omega
  have hat : atX wk1.toOpx 0 = 0 := rfl
  have nid13 : ∀ k, (nid == nid + (k + 1)) = false := fun k => by simp
  have w01 : IntKind.i64.wrap (0 + 1) = 1 := rfl
  have ha1 : (nid == mid) = false := by simp; omega
  have hb1 : (nid == laid) = false := by simp; omega
  simp +contextual (maxSteps := 1000000) only [go_sem, ints, intRows, reduceAdd, Nat.reduceBEq, reduceEqDiff, reduceLeDiff, Nat.reduceLT, reduceIte, reduceLE, Int.reduceLT, reduceEq, reduceNeg, reduceToNat, ops, vals, dots, runs_s, hm, hl, ha, ha0, ha1, hb1, nid13, w01, hb, hb0, hml, hlm, ha', hb', Nat.add_assoc, beq_add, Nat.zero_add, Nat.add_zero]
  first | refine caS_i (at_ok wk1.toOpx 0) trivial ?_ | refine caD_i (at_ok wk1.toOpx 0) trivial ?_ | refine gC_i (fun _ => at_ok wk1.toOpx 0) trivial ?_ | refine gCD_i (fun _ => at_ok wk1.toOpx 0) trivial ?_ | refine caE_i (at_ok wk1.toOpx 0) trivial ?_
  simp +contextual (maxSteps := 1000000) only [go_sem, ints, intRows, reduceAdd, Nat.reduceBEq, reduceEqDiff, reduceLeDiff, Nat.reduceLT, reduceIte, reduceLE, Int.reduceLT, reduceEq, reduceNeg, reduceToNat, ops, vals, dots, runs_s, hat, hm, hl, ha, ha0, ha1, hb1, nid13, w01, hb, hb0, hml, hlm, ha', hb', Nat.add_assoc, beq_add, Nat.zero_add, Nat.add_zero]
  refine hC _ _ (nid + 13) none cap (by omega) (by omega) ?_ ?_ ?_ (fun j h3 h4 h5 => ?_)
  · rw [updO_o _ _ _ _ hml, updO_s]
  · rw [updO_o _ _ _ _ (hb' _), updO_o _ _ _ _ (ha' _), updO_s]; rfl
  · rw [updO_s]
  · rw [updO, if_neg h5, updO, if_neg h4, updO, if_neg (by omega), updO, if_neg (by omega)]
set_option maxHeartbeats 4000000 in
theorem rowW_ok {mid laid inid nid : Nat} {c1 c2 : Option Nat} {ob : OB} {C : V → OB → Nat → Prop} (hm : ob mid = some ⟨4, [[.c (.string kK), .sl inid 0 1, .z, .sl laid 0 1]], none⟩) (hi : ob inid = some ⟨2, [dotV ⟨0, 1⟩], c1⟩) (hl : ob laid = some ⟨12, [opV wk1.toOpx], c2⟩) (h1 : mid < nid) (h2 : laid < nid) (h3 : inid < nid)
    (hC : ∀ ob' n' rid c3, nid ≤ rid → rid < n' → ob' rid = some ⟨3, [vlV ⟨4, 0, kK⟩, vlV ⟨3, 3, noS⟩], c3⟩ → (∀ j, j < nid → ob' j = ob j) → C (.sl rid 0 2) ob' n') :
    FnS Tryz.prog 47 [.pt mid 0 0] ob nid C := by
  refine fnS_intro cf47 (by simp) ?_
  have ha : ∀ k, (mid == nid + k) = false := fun k => by simp; omega
  have ha0 : (mid == nid) = false := by simp; omega
  have hb : ∀ k, (laid == nid + k) = false := fun k => by simp; omega
  have hb0 : (laid == nid) = false := by simp; omega
  have hc : ∀ k, (inid == nid + k) = false := fun k => by simp; omega
  have hc0 : (inid == nid) = false := by simp; omega
  have nid13 : ∀ k, (nid == nid + (k + 1)) = false := fun k => by simp
  have nid14 : ∀ k, (nid + (k + 1) == nid) = false := fun k => by simp
  have w01 : IntKind.i64.wrap (0 + 1) = 1 := rfl
  simp +contextual (maxSteps := 1000000) only [go_sem, ints, intRows, reduceAdd, Nat.reduceBEq, reduceEqDiff, reduceLeDiff, Nat.reduceLT, reduceIte, reduceLE, Int.reduceLT, reduceEq, reduceNeg, reduceToNat, ops, vals, dots, c47, hm, hl, hi, ha, ha0, hb, hb0, hc, hc0, nid13, nid14, w01, ia_h, vals, Nat.add_assoc, beq_add, Nat.zero_add, Nat.add_zero]
  refine ⟨rfl, ?_⟩
  first | refine caS_i (ContainsFDots_ok (fl := .n) [⟨0, 1⟩] 95 _ (fun d => !inD [] d) (by simp [maxLen]) (fun _ => rfl) (fun _ => rfl) (fun d _ => row1_ok d _ _ [] (fo := .b) (by simp))) trivial ?_ | refine caD_i (ContainsFDots_ok (fl := .n) [⟨0, 1⟩] 95 _ (fun d => !inD [] d) (by simp [maxLen]) (fun _ => rfl) (fun _ => rfl) (fun d _ => row1_ok d _ _ [] (fo := .b) (by simp))) trivial ?_ | refine gC_i (fun _ => ContainsFDots_ok (fl := .n) [⟨0, 1⟩] 95 _ (fun d => !inD [] d) (by simp [maxLen]) (fun _ => rfl) (fun _ => rfl) (fun d _ => row1_ok d _ _ [] (fo := .b) (by simp))) trivial ?_ | refine gCD_i (fun _ => ContainsFDots_ok (fl := .n) [⟨0, 1⟩] 95 _ (fun d => !inD [] d) (by simp [maxLen]) (fun _ => rfl) (fun _ => rfl) (fun d _ => row1_ok d _ _ [] (fo := .b) (by simp))) trivial ?_ | refine caE_i (ContainsFDots_ok (fl := .n) [⟨0, 1⟩] 95 _ (fun d => !inD [] d) (by simp [maxLen]) (fun _ => rfl) (fun _ => rfl) (fun d _ => row1_ok d _ _ [] (fo := .b) (by simp))) trivial ?_
  have hcd : (List.any [(⟨0, 1⟩ : Dt)] fun d => !inD [] d) = true := rfl
  simp +contextual (maxSteps := 1000000) only [go_sem, ints, intRows, reduceAdd, Nat.reduceBEq, reduceEqDiff, reduceLeDiff, Nat.reduceLT, reduceIte, reduceLE, Int.reduceLT, reduceEq, reduceNeg, reduceToNat, ops, vals, dots, hcd, hm, hl, hi, ha, ha0, hb, hb0, hc, hc0, nid13, nid14, w01, ia_h, vals, Nat.add_assoc, beq_add, Nat.zero_add, Nat.add_zero]
  refine wpC_runs 2 ?_
  have hat : atX wk1.toOpx 0 = 0 := rfl
  simp +contextual (maxSteps := 1000000) only [go_sem, ints, intRows, reduceAdd, Nat.reduceBEq, reduceEqDiff, reduceLeDiff, Nat.reduceLT, reduceIte, reduceLE, Int.reduceLT, reduceEq, reduceNeg, reduceToNat, ops, vals, dots, runs_s, hm, hl, hi, ha, ha0, hb, hb0, hc, hc0, nid13, nid14, w01, ia_h, vals, Nat.add_assoc, beq_add, Nat.zero_add, Nat.add_zero]
  first | refine caS_i (at_ok wk1.toOpx 0) trivial ?_ | refine caD_i (at_ok wk1.toOpx 0) trivial ?_ | refine gC_i (fun _ => at_ok wk1.toOpx 0) trivial ?_ | refine gCD_i (fun _ => at_ok wk1.toOpx 0) trivial ?_ | refine caE_i (at_ok wk1.toOpx 0) trivial ?_
  simp +contextual (maxSteps := 1000000) only [go_sem, ints, intRows, reduceAdd, Nat.reduceBEq, reduceEqDiff, reduceLeDiff, Nat.reduceLT, reduceIte, reduceLE, Int.reduceLT, reduceEq, reduceNeg, reduceToNat, ops, vals, dots, runs_s, hat, hm, hl, hi, ha, ha0, hb, hb0, hc, hc0, nid13, nid14, w01, ia_h, vals, Nat.add_assoc, beq_add, Nat.zero_add, Nat.add_zero]
  generalize hob : updO (updO (updO (updO ob nid _) _ _) _ _) _ _ = ob1
  have hrid : ob1 (nid + 14) = some ⟨3, [[vi 4, vi 0, .c (.string kK)]], none⟩ := by
    rw [← hob, updO, if_neg (by omega), updO, if_neg (by omega), updO_s]
  have hold : ∀ j, j < nid → ob1 j = ob j := fun j hj => by
    rw [← hob, updO, if_neg (by omega), updO, if_neg (by omega), updO, if_neg (by omega), updO, if_neg (by omega)]
  clear hob
  obtain ⟨us, u1, u2, u3⟩ := app_new (ob := ob1) (nid := nid + 38) (k := 3) (v := .sl (nid + 14) 0 1) (x := .im .b [vlV ⟨3, 3, noS⟩]) (rows := [[vi 4, vi 0, .c (.string kK)]]) (xs := [vlV ⟨3, 3, noS⟩]) (.inr ⟨_, _, rfl, hrid⟩) (by simp) rfl rfl (by simp [maxLen])
  have hold2 : ∀ j, j < nid → apps ob1 us j = ob j := fun j hj => by
    rw [u3 j (by omega) (fun len e => by injection e with e; omega), hold j hj]
  rw [u1, nxD_t]
  clear u1
  generalize apps ob1 us = ob2 at *
  simp +contextual (maxSteps := 1000000) only [go_sem, ints, intRows, reduceAdd, Nat.reduceBEq, reduceEqDiff, reduceLeDiff, Nat.reduceLT, reduceIte, reduceLE, Int.reduceLT, reduceEq, reduceNeg, reduceToNat, ops, vals, dots, runs_s, w01]
  refine hC _ _ (nid + 38) none (by omega) (by omega) u2 hold2
@[go_sem] theorem nil1_n (ob : OB) : isNil ob 1 (.c (.pointer none)) = some (.c (.bool true)) := (rfl)
@[go_sem] theorem nil1_p (ob : OB) (a b c : Nat) : isNil ob 1 (.pt a b c) = (ob a).map fun _ => .c (.bool false) := (rfl)
set_option maxHeartbeats 4000000 in
theorem MadeW_ok : FnB Tryz.prog 13 [vi 1, tbs .b [[3]], ops .b [wk1.toOpx]] (.tp [.im .o [[.im .b [[.im .b [vlV ⟨4, 0, kK⟩, vlV ⟨3, 3, noS⟩]]]]], vi 0]) := by
  refine fnB_intro cf13 (by simp) ?_
  have hf : formE [3] = 0 := form3
  have ho : opE [3] wk1 = 0 := wk1_o
  have hz : opZ wk1 = opV wk1.toOpx := rfl
  have ck := opCheck_ok [3] wk1 (by simp [maxLen]) (by simp [maxLen])
  rw [hz, ho] at ck
  have fk := Forms_ok [3]
  rw [hf] at fk
  simp +contextual (maxSteps := 1000000) only [go_sem, ints, intRows, reduceAdd, Nat.reduceBEq, reduceEqDiff, reduceLeDiff, Nat.reduceLT, reduceIte, reduceLE, Int.reduceLT, reduceEq, reduceNeg, reduceToNat, ops, vals, dots, c13]
  first | refine caS_i (fk) trivial ?_ | refine caD_i (fk) trivial ?_ | refine gC_i (fun _ => fk) trivial ?_ | refine gCD_i (fun _ => fk) trivial ?_ | refine caE_i (fk) trivial ?_
  simp +contextual (maxSteps := 1000000) only [go_sem, ints, intRows, reduceAdd, Nat.reduceBEq, reduceEqDiff, reduceLeDiff, Nat.reduceLT, reduceIte, reduceLE, Int.reduceLT, reduceEq, reduceNeg, reduceToNat, ops, vals, dots, tbs]
  refine ⟨by simp [maxLen], wpC_runs 2 ?_⟩
  have w01 : IntKind.i64.wrap (0 + 1) = 1 := rfl
  have hrep : List.replicate 1 [V.c (Value.map none)] = [[V.c (Value.map none)]] := rfl
  rw [hrep]
  simp +contextual (maxSteps := 1000000) only [go_sem, ints, intRows, reduceAdd, Nat.reduceBEq, reduceEqDiff, reduceLeDiff, Nat.reduceLT, reduceIte, reduceLE, Int.reduceLT, reduceEq, reduceNeg, reduceToNat, ops, vals, dots, runs_s, w01]
  refine ⟨⟨rfl, rfl⟩, wpC_runs 2 ?_⟩
  have hcm : ∀ i, cellsV (.mp i) = [.mp i] := fun _ => rfl
  have hpm : posM false [1] (.c (.string kK)) [] = some none := rfl
  have hkm : keyOk false [1] (.c (.string kK)) = true := rfl
  simp only [hcm]
  simp +contextual (maxSteps := 1000000) only [go_sem, ints, intRows, reduceAdd, Nat.reduceBEq, reduceEqDiff, reduceLeDiff, Nat.reduceLT, reduceIte, reduceLE, Int.reduceLT, reduceEq, reduceNeg, reduceToNat, ops, vals, dots, runs_s, w01, ops, ia_h, tbs]
  first | refine caS_i (ck) trivial ?_ | refine caD_i (ck) trivial ?_ | refine gC_i (fun _ => ck) trivial ?_ | refine gCD_i (fun _ => ck) trivial ?_ | refine caE_i (ck) trivial ?_
  simp +contextual (maxSteps := 1000000) only [go_sem, ints, intRows, reduceAdd, Nat.reduceBEq, reduceEqDiff, reduceLeDiff, Nat.reduceLT, reduceIte, reduceLE, Int.reduceLT, reduceEq, reduceNeg, reduceToNat, ops, vals, dots, runs_s, w01, ia_h, tbs, hpm, hkm]
  have hvm : ∀ d, valM d [] none = d := fun _ => rfl
  have hrep2 : List.replicate 1 wkZ = [wkZ] := rfl
  simp only [hvm]
  simp +contextual (maxSteps := 1000000) only [go_sem, ints, intRows, reduceAdd, Nat.reduceBEq, reduceEqDiff, reduceLeDiff, Nat.reduceLT, reduceIte, reduceLE, Int.reduceLT, reduceEq, reduceNeg, reduceToNat, ops, vals, dots, runs_s, w01, ia_h, tbs, hpm, hkm, hvm, hrep2]
  refine ⟨by simp [maxLen], rcS_i (noteW_ok (mid := 70) (laid := 68) (cap := none) ?_ ?_ (by omega) (by omega) (by omega) fun ob' n' inid c1 c2 hin hin2 o70 oin o68 hfr => ?_)⟩
  · rw [updO_o _ _ _ _ rfl, updO_s]
  · rw [updO_o _ _ _ _ rfl, updO_o _ _ _ _ rfl, updO_s]
  have hsm : setM (.c (.string kK)) (.pt 70 0 0) [] none = [[.c (.string kK), .pt 70 0 0]] := rfl
  have o17 : ob' 17 = some ⟨1, [[.mp 27]], none⟩ := by
    rw [hfr 17 (by omega) (by omega) (by omega)]
    repeat first | rw [updO_s] | rw [updO_o _ _ _ _ rfl]
  have o27 : ob' 27 = some ⟨0, [[.c (.string kK), .pt 70 0 0]], none⟩ := by
    rw [hfr 27 (by omega) (by omega) (by omega)]
    repeat first | rw [updO_s] | rw [updO_o _ _ _ _ rfl]
    rw [hsm]
  clear hfr
  have g17 : ∀ k, (17 == n' + k) = false := fun k => by simp; omega
  have g27 : ∀ k, (27 == n' + k) = false := fun k => by simp; omega
  have g68 : ∀ k, (68 == n' + k) = false := fun k => by simp; omega
  have g70 : ∀ k, (70 == n' + k) = false := fun k => by simp; omega
  have gin : ∀ k, (inid == n' + k) = false := fun k => by simp; omega
  have gz : ∀ k, (n' == n' + (k + 1)) = false := fun k => by simp
  simp +contextual (maxSteps := 1000000) only [go_sem, ints, intRows, reduceAdd, Nat.reduceBEq, reduceEqDiff, reduceLeDiff, Nat.reduceLT, reduceIte, reduceLE, Int.reduceLT, reduceEq, reduceNeg, reduceToNat, ops, vals, dots, runs_s, w01, o17]
  refine wpC_runs 2 ?_
  simp +contextual (maxSteps := 1000000) only [go_sem, ints, intRows, reduceAdd, Nat.reduceBEq, reduceEqDiff, reduceLeDiff, Nat.reduceLT, reduceIte, reduceLE, Int.reduceLT, reduceEq, reduceNeg, reduceToNat, ops, vals, dots, runs_s, w01, o17, o27, o68, o70, oin, g17, g27, g68, g70, gin, gz, Nat.add_assoc, beq_add, Nat.zero_add, Nat.add_zero]
  refine wpC_runs 2 ?_
  simp +contextual (maxSteps := 1000000) only [go_sem, ints, intRows, reduceAdd, Nat.reduceBEq, reduceEqDiff, reduceLeDiff, Nat.reduceLT, reduceIte, reduceLE, Int.reduceLT, reduceEq, reduceNeg, reduceToNat, ops, vals, dots, runs_s, w01, o17, o27, o68, o70, oin, g17, g27, g68, g70, gin, gz, Nat.add_assoc, beq_add, Nat.zero_add, Nat.add_zero]
  refine nxt_i (it := n' + 13) (id := 27) (seen := []) (rows := [[.c (.string kK), .pt 70 0 0]]) (cap := none) (cap' := none) (by rw [updO_s]; rfl) (by rw [updO_o _ _ _ _ (g27 _)]; exact o27) (fun h => absurd (h 0 (by simp)) (by simp)) (fun i kv vv hi hs hr => ?_)
  obtain rfl : i = 0 := by simp at hi; omega
  simp only [List.getElem?_cons_zero, Option.some.injEq, List.cons.injEq, and_true] at hr
  obtain ⟨rfl, rfl⟩ := hr
  generalize hX : updO (updO ob' (n' + 13) _) (n' + 13) _ = ob2
  have it2 : ob2 (n' + 13) = some ⟨0, itRows 27 1 [0], none⟩ := by rw [← hX, updO_s]; rfl
  have p17 : ob2 17 = some ⟨1, [[.mp 27]], none⟩ := by rw [← hX, updO_o _ _ _ _ (g17 _), updO_o _ _ _ _ (g17 _), o17]
  have p27 : ob2 27 = some ⟨0, [[.c (.string kK), .pt 70 0 0]], none⟩ := by rw [← hX, updO_o _ _ _ _ (g27 _), updO_o _ _ _ _ (g27 _), o27]
  have p68 : ob2 68 = some ⟨12, [opV wk1.toOpx], c2⟩ := by rw [← hX, updO_o _ _ _ _ (g68 _), updO_o _ _ _ _ (g68 _), o68]
  have p70 : ob2 70 = some ⟨4, [[.c (.string kK), .sl inid 0 1, .z, .sl 68 0 1]], none⟩ := by rw [← hX, updO_o _ _ _ _ (g70 _), updO_o _ _ _ _ (g70 _), o70]
  have pin : ob2 inid = some ⟨2, [dotV ⟨0, 1⟩], c1⟩ := by rw [← hX, updO_o _ _ _ _ (gin _), updO_o _ _ _ _ (gin _), oin]
  have he : ∀ nid, opF .ent [.mi (n' + 13)] ob2 nid = some (.tp [.c (.string kK), .pt 70 0 0], []) := fun _ => ent_i (seen := []) (i := 0) it2 p27 rfl
  clear hX o17 o27 o68 o70 oin
  simp +contextual (maxSteps := 1000000) only [go_sem, ints, intRows, reduceAdd, Nat.reduceBEq, reduceEqDiff, reduceLeDiff, Nat.reduceLT, reduceIte, reduceLE, Int.reduceLT, reduceEq, reduceNeg, reduceToNat, ops, vals, dots, runs_s, w01, he, p17, p27, p68, p70, pin, g17, g27, g68, g70, gin, gz, Nat.add_assoc, beq_add, Nat.zero_add, Nat.add_zero]
  have this1 : ∀ i, i < 1 → i ∈ [0] := fun i hi => List.mem_singleton.2 (by omega)
  have gy : ∀ a b, (n' + a == n' + b) = (a == b) := fun a b => by rw [Bool.eq_iff_iff, beq_iff_eq, beq_iff_eq]; omega
  refine nxt_i (it := n' + 13) (id := 27) (seen := [0]) (rows := [[.c (.string kK), .pt 70 0 0]]) (cap := none) (cap' := none) (by rw [updO_o _ _ _ _ (gy 13 21)]; exact it2) (by rw [updO_o _ _ _ _ (g27 _)]; exact p27) (fun _ => ?_) (fun i kv vv hi hs hr => absurd (this1 i hi) hs)
  simp +contextual (maxSteps := 1000000) only [go_sem, ints, intRows, reduceAdd, Nat.reduceBEq, reduceEqDiff, reduceLeDiff, Nat.reduceLT, reduceIte, reduceLE, Int.reduceLT, reduceEq, reduceNeg, reduceToNat, ops, vals, dots, runs_s, w01, p17, p27, p68, p70, pin, g17, g27, g68, g70, gin, gz, gy, Nat.add_assoc, beq_add, Nat.zero_add, Nat.add_zero]
  have hs1 : sortB [kK] = [kK] := by simp [sortB]
  refine rcS_i (SortStr_ok (l := [kK]) (n := n' + 22) (.inr ⟨by simp, n' + 21, none, by omega, rfl, updO_s _ _ _⟩) (by omega) (by simp [maxLen]) fun ob3 hown hfr3 => ?_)
  rw [hs1] at hown
  have q21 : ∃ c3, ob3 (n' + 21) = some ⟨1, [[.c (.string kK)]], c3⟩ := by
    rcases hown with ⟨h, _⟩ | ⟨_, sid, c3, _, e3, hsid⟩
    · simp at h
    · injection e3 with e3 _ _
      subst e3; exact ⟨c3, hsid⟩
  obtain ⟨c3, q21⟩ := q21
  have hold3 : ∀ j, j ≠ n' + 21 → ob3 j = ob2 j := fun j hj => by
    rw [hfr3 j fun len e => by injection e with e; omega]
    rw [updO, if_neg hj]
  have q17 := (hold3 17 (by omega)).trans p17
  have q27 := (hold3 27 (by omega)).trans p27
  have q68 := (hold3 68 (by omega)).trans p68
  have q70 := (hold3 70 (by omega)).trans p70
  have qin := (hold3 inid (by omega)).trans pin
  clear hfr3 hold3 hown p17 p27 p68 p70 pin he it2
  have hpm1 : posM false [1] (.c (.string kK)) [[.c (.string kK), .pt 70 0 0]] = some (some 0) := by simp [posM, keyEq, keyC, eqS, eqCells]
  have hvm1 : ∀ d, valM d [[.c (.string kK), .pt 70 0 0]] (some 0) = .pt 70 0 0 := fun _ => rfl
  simp +contextual (maxSteps := 1000000) only [go_sem, ints, intRows, reduceAdd, Nat.reduceBEq, reduceEqDiff, reduceLeDiff, Nat.reduceLT, reduceIte, reduceLE, Int.reduceLT, reduceEq, reduceNeg, reduceToNat, ops, vals, dots, runs_s, w01, q17, q21, q27, q68, q70, qin, g17, g27, g68, g70, gin, gz, gy, Nat.add_assoc, beq_add, Nat.zero_add, Nat.add_zero]
  refine wpC_runs 2 ?_
  simp +contextual (maxSteps := 1000000) only [go_sem, ints, intRows, reduceAdd, Nat.reduceBEq, reduceEqDiff, reduceLeDiff, Nat.reduceLT, reduceIte, reduceLE, Int.reduceLT, reduceEq, reduceNeg, reduceToNat, ops, vals, dots, runs_s, w01, hkm, hpm1, hvm1, q17, q21, q27, q68, q70, qin, g17, g27, g68, g70, gin, gz, gy, Nat.add_assoc, beq_add, Nat.zero_add, Nat.add_zero]
  refine rcS_i (rowW_ok (mid := 70) (laid := 68) (inid := inid) q70 qin q68 (by omega) (by omega) (by omega) fun ob4 n4 rid c4 hr1 hr2 orid hfr4 => ?_)
  have r17 := (hfr4 17 (by omega)).trans q17
  have r21 := (hfr4 (n' + 21) (by omega)).trans q21
  have r27 := (hfr4 27 (by omega)).trans q27
  clear hfr4 q17 q21 q27 q68 q70 qin
  have f17 : ∀ k, (17 == n4 + k) = false := fun k => by simp; omega
  have f27 : ∀ k, (27 == n4 + k) = false := fun k => by simp; omega
  have frid : ∀ k, (rid == n4 + k) = false := fun k => by simp; omega
  have f21 : ∀ k, (n' + 21 == n4 + k) = false := fun k => by simp; omega
  have fy : ∀ a b, (n4 + a == n4 + b) = (a == b) := fun a b => by rw [Bool.eq_iff_iff, beq_iff_eq, beq_iff_eq]; omega
  have hok : ∀ id len, okRow 1 [.sl id 0 len] = true := fun _ _ => rfl
  have hcs : ∀ id len, cellsV (.sl id 0 len) = [.sl id 0 len] := fun _ _ => rfl
  simp +contextual (maxSteps := 1000000) only [go_sem, ints, intRows, reduceAdd, Nat.reduceBEq, reduceEqDiff, reduceLeDiff, Nat.reduceLT, reduceIte, reduceLE, Int.reduceLT, reduceEq, reduceNeg, reduceToNat, ops, vals, dots, runs_s, w01, r17, r21, r27, orid, f17, f27, frid, f21, fy, hok, hcs, Nat.add_assoc, beq_add, Nat.zero_add, Nat.add_zero]
  have e1 : updO (updO ob4 (n4 + 7) (some ⟨1, [[V.sl rid 0 2]], none⟩)) (n4 + 15) (some ⟨1, [[V.sl (n4 + 7) 0 1]], none⟩) (n4 + 15) = some ⟨1, [[V.sl (n4 + 7) 0 1]], none⟩ := updO_s _ _ _
  have e2 : kill (updO (updO ob4 (n4 + 7) (some ⟨1, [[V.sl rid 0 2]], none⟩)) (n4 + 15) (some ⟨1, [[V.sl (n4 + 7) 0 1]], none⟩)) (n4 + 15) (n4 + 7) = some ⟨1, [[V.sl rid 0 2]], none⟩ := by
    rw [kill_o _ _ _ (fy 7 15), updO_o _ _ _ _ (fy 7 15), updO_s]
  have e3 : kill (updO (updO ob4 (n4 + 7) (some ⟨1, [[V.sl rid 0 2]], none⟩)) (n4 + 15) (some ⟨1, [[V.sl (n4 + 7) 0 1]], none⟩)) (n4 + 15) rid = some ⟨3, [vlV ⟨4, 0, kK⟩, vlV ⟨3, 3, noS⟩], c4⟩ := by
    rw [kill_o _ _ _ (frid 15), updO_o _ _ _ _ (frid 15), updO_o _ _ _ _ (frid 7), orid]
  simp [outL, retV, rowsOf, e1, gV, e2, e3, vlV]
end Go.Proofs.YtbojpedklnmidaaGreat.D
end
section
set_option linter.unusedVariables false
set_option linter.unusedSimpArgs false
set_option linter.constructorNameAsVariable false
set_option maxRecDepth 100000

/- What a vector has of operations; the greatest numbers of dots. No condition. -/
namespace Go.Proofs.YtbojpedklnmidaaGreat.D
open Go Go.Proofs
open Nat (reduceAdd reduceEqDiff reduceLeDiff)
open Int (reduceLE reduceEq reduceNeg reduceToNat)
theorem Twin1_ok (x : Opx) (h1 : x.deps.length ≤ maxLen) (h2 : x.vals.length ≤ maxLen) (h3 : x.dots.length ≤ maxLen) : FnB Tryz.prog 53 [.ag (opV x)] (.ag (opV x)) := by
  refine fnB_intro cf53 (by simp) ?_
  simp +contextual (maxSteps := 1000000) only [go_sem, ints, intRows, reduceAdd, Nat.reduceBEq, reduceEqDiff, reduceLeDiff, Nat.reduceLT, reduceIte, reduceLE, Int.reduceLT, reduceEq, reduceNeg, reduceToNat, ops, vals, dots, c53, vals, dots]
  first | refine caS_i (CloneInts_ok x.deps h1 .b) trivial ?_ | refine caD_i (CloneInts_ok x.deps h1 .b) trivial ?_ | refine gC_i (fun _ => CloneInts_ok x.deps h1 .b) trivial ?_ | refine gCD_i (fun _ => CloneInts_ok x.deps h1 .b) trivial ?_ | refine caE_i (CloneInts_ok x.deps h1 .b) trivial ?_
  simp +contextual (maxSteps := 1000000) only [go_sem, ints, intRows, reduceAdd, Nat.reduceBEq, reduceEqDiff, reduceLeDiff, Nat.reduceLT, reduceIte, reduceLE, Int.reduceLT, reduceEq, reduceNeg, reduceToNat, ops, vals, dots, vals, dots]
  first | refine caS_i (CloneVals_ok x.vals h2 .b) trivial ?_ | refine caD_i (CloneVals_ok x.vals h2 .b) trivial ?_ | refine gC_i (fun _ => CloneVals_ok x.vals h2 .b) trivial ?_ | refine gCD_i (fun _ => CloneVals_ok x.vals h2 .b) trivial ?_ | refine caE_i (CloneVals_ok x.vals h2 .b) trivial ?_
  simp +contextual (maxSteps := 1000000) only [go_sem, ints, intRows, reduceAdd, Nat.reduceBEq, reduceEqDiff, reduceLeDiff, Nat.reduceLT, reduceIte, reduceLE, Int.reduceLT, reduceEq, reduceNeg, reduceToNat, ops, vals, dots, vals, dots]
  first | refine caS_i (CloneDots_ok x.dots h3 .b) trivial ?_ | refine caD_i (CloneDots_ok x.dots h3 .b) trivial ?_ | refine gC_i (fun _ => CloneDots_ok x.dots h3 .b) trivial ?_ | refine gCD_i (fun _ => CloneDots_ok x.dots h3 .b) trivial ?_ | refine caE_i (CloneDots_ok x.dots h3 .b) trivial ?_
  simp +contextual (maxSteps := 1000000) only [go_sem, ints, intRows, reduceAdd, Nat.reduceBEq, reduceEqDiff, reduceLeDiff, Nat.reduceLT, reduceIte, reduceLE, Int.reduceLT, reduceEq, reduceNeg, reduceToNat, ops, vals, dots, vals, dots]
  rfl
@[go_sem] theorem op_bsl_op (z : List V) (x : Opx) (ob : OB) (i : Nat) (hz : (z.length == 12) = true) : opF (.bsl 12 z [0] 1 true) [.ag (opV x)] ob i = some (.im .b [opV x], []) := op_bsl_r ob i (by simpa using hz) (opV_row x)
def ofT (l : List Opx) (v : List Int) : List Opx := l.filter fun x => hasB v x.dot
theorem filter_take {p : Opx → Bool} {l : List Opx} {i : Nat} (h : i < l.length) : (l.take (i + 1)).filter p = (l.take i).filter p ++ if p (gN l i) then [gN l i] else [] := by
  rw [take_gN h, List.filter_append]
  cases hp : p (gN l i) <;> simp [hp]
theorem filter_len {p : Opx → Bool} {l : List Opx} : (l.filter p).length ≤ l.length := List.length_filter_le _ _
set_option maxHeartbeats 2000000 in
theorem AOf_ok {fl fm : Fl} (l : List Opx) (v : List Int) (hl : l.length ≤ maxLen) (h : ∀ x ∈ l, OkO x) : FnB Tryz.prog 20 [ops fl l, ints fm v] (ops .o (ofT l v)) := by
  unfold maxLen at hl
  refine fnB_intro cf20 (by simp) ?_
  simp +contextual (maxSteps := 1000000) only [go_sem, ints, intRows, reduceAdd, Nat.reduceBEq, reduceEqDiff, reduceLeDiff, Nat.reduceLT, reduceIte, reduceLE, Int.reduceLT, reduceEq, reduceNeg, reduceToNat, ops, vals, dots, c20, ops]
  refine wpC_lp (fun env ob n' => env 1 = ints fm v ∧ env 8 = ops fl l ∧ env 9 = vi l.length ∧ ∃ i : Nat, env 10 = vi i ∧ i ≤ l.length ∧ Own n' ob (env 5) 12 ((ofT (l.take i) v).map opV)) (fun env ob _ => (l.length - iv (env 10)).toNat) ?_ ?_
  · simp +contextual (maxSteps := 1000000) only [go_sem, ints, intRows, reduceAdd, Nat.reduceBEq, reduceEqDiff, reduceLeDiff, Nat.reduceLT, reduceIte, reduceLE, Int.reduceLT, reduceEq, reduceNeg, reduceToNat, ops, vals, dots, ops]
    exact ⟨0, rfl, by omega, Own.nil⟩
  rintro env ob n' ⟨h1, h8, h9, i, h10, hi, ho⟩
  have w1 : IntKind.i64.wrap ((i : Int) + 1) = ((i + 1 : Nat) : Int) := by rw [w64 (by omega)]; omega
  simp +contextual (maxSteps := 1000000) only [go_sem, ints, intRows, reduceAdd, Nat.reduceBEq, reduceEqDiff, reduceLeDiff, Nat.reduceLT, reduceIte, reduceLE, Int.reduceLT, reduceEq, reduceNeg, reduceToNat, ops, vals, dots, h1, h8, h9, h10, ops]
  refine ⟨fun hlt => ?_, fun hge => ?_⟩
  · simp at hlt
    have hx := h _ (gN_mem hlt)
    have hfl : (ofT (l.take i) v).length ≤ i := by
      have := filter_len (p := fun x => hasB v x.dot) (l := l.take i)
      rw [List.length_take] at this
      unfold ofT; omega
    repeat (refine And.intro (by omega) ?_)
    first | refine caS_i (Has_ok v (gN l i).dot) trivial ?_ | refine caD_i (Has_ok v (gN l i).dot) trivial ?_ | refine gC_i (fun _ => Has_ok v (gN l i).dot) trivial ?_ | refine gCD_i (fun _ => Has_ok v (gN l i).dot) trivial ?_ | refine caE_i (Has_ok v (gN l i).dot) trivial ?_
    simp +contextual (maxSteps := 1000000) only [go_sem, ints, intRows, reduceAdd, Nat.reduceBEq, reduceEqDiff, reduceLeDiff, Nat.reduceLT, reduceIte, reduceLE, Int.reduceLT, reduceEq, reduceNeg, reduceToNat, ops, vals, dots, h1, h8, h9, h10, ops, w1]
    refine ⟨fun hb => ?_, fun hb => ?_⟩
    · first | refine caS_i (Twin1_ok (gN l i) hx.d hx.v hx.s) trivial ?_ | refine caD_i (Twin1_ok (gN l i) hx.d hx.v hx.s) trivial ?_ | refine gC_i (fun _ => Twin1_ok (gN l i) hx.d hx.v hx.s) trivial ?_ | refine gCD_i (fun _ => Twin1_ok (gN l i) hx.d hx.v hx.s) trivial ?_ | refine caE_i (Twin1_ok (gN l i) hx.d hx.v hx.s) trivial ?_
      simp +contextual (maxSteps := 1000000) only [go_sem, ints, intRows, reduceAdd, Nat.reduceBEq, reduceEqDiff, reduceLeDiff, Nat.reduceLT, reduceIte, reduceLE, Int.reduceLT, reduceEq, reduceNeg, reduceToNat, ops, vals, dots, h1, h8, h9, h10]
      refine nxS_app (n := n') ((ho.upd (by omega)).upd (by omega)) (by omega) rfl (by simpa using allOps [gN l i]) (by simp [maxLen]; omega) fun v' ob' ho' _ => ?_
      simp +contextual (maxSteps := 1000000) only [go_sem, ints, intRows, reduceAdd, Nat.reduceBEq, reduceEqDiff, reduceLeDiff, Nat.reduceLT, reduceIte, reduceLE, Int.reduceLT, reduceEq, reduceNeg, reduceToNat, ops, vals, dots, h1, h8, h9, h10, w1]
      refine ⟨⟨i + 1, rfl, by omega, ?_⟩, by omega⟩
      unfold ofT
      rw [filter_take hlt, if_pos hb, List.map_append]; exact ho'.mono (by omega)
    · refine ⟨⟨i + 1, rfl, by omega, ?_⟩, by omega⟩
      unfold ofT
      rw [filter_take hlt, if_neg (by simpa using hb), List.append_nil]; exact ((ho.upd (by omega)).upd (by omega)).mono (by omega)
  · simp at hge
    rw [List.take_of_length_le (by omega)] at ho
    rw [out_own ho (fun ob' => gOps ob' _) _ (fun _ => rfl)]; rfl
def vecF (n : Int) (l : List Opx) : List Int := l.foldl (fun o x => o.set x.dot.p.toNat (max (gN o x.dot.p.toNat) x.dot.n)) (List.replicate n.toNat 0)
def vecOk (n : Int) (x : Opx) : Bool := decide (0 ≤ x.dot.p ∧ x.dot.p < n ∧ 1 ≤ x.dot.n ∧ x.dot.n ≤ 1073741824)
def vectorT (n : Int) (l : List Opx) : List Int × Int := if 1 ≤ n ∧ n ≤ 5 ∧ l.all (vecOk n) = true then (vecF n l, 0) else ([], 1)
theorem vecF_len (n : Int) (l : List Opx) : (vecF n l).length = n.toNat := by
  unfold vecF
  suffices ∀ o : List Int, (l.foldl (fun o x => o.set x.dot.p.toNat (max (gN o x.dot.p.toNat) x.dot.n)) o).length = o.length by rw [this]; simp
  induction l with
  | nil => intro o; rfl
  | cons x l ih => intro o; rw [List.foldl_cons, ih]; simp
theorem vecF_take {n : Int} {l : List Opx} {i : Nat} (h : i < l.length) : vecF n (l.take (i + 1)) = (vecF n (l.take i)).set (gN l i).dot.p.toNat (max (gN (vecF n (l.take i)) (gN l i).dot.p.toNat) (gN l i).dot.n) := by
  rw [take_gN h]; unfold vecF; rw [List.foldl_append]; rfl
set_option maxHeartbeats 2000000 in
theorem AVector_ok {fl : Fl} (n : Int) (l : List Opx) (hl : l.length ≤ maxLen) : FnB Tryz.prog 14 [vi n, ops fl l] (.tp [ints .o (vectorT n l).1, vi (vectorT n l).2]) := by
  unfold maxLen at hl
  refine fnB_intro cf14 (by simp) ?_
  simp +contextual (maxSteps := 1000000) only [go_sem, ints, intRows, reduceAdd, Nat.reduceBEq, reduceEqDiff, reduceLeDiff, Nat.reduceLT, reduceIte, reduceLE, Int.reduceLT, reduceEq, reduceNeg, reduceToNat, ops, vals, dots, c14]
  refine ⟨fun hb => ?_, fun hb => ?_⟩
  · have : vectorT n l = ([], 1) := by
      unfold vectorT; rw [if_neg]; rintro ⟨h1, h2, _⟩
      simp at hb; omega
    rw [this]; rfl
  have hn5 : 1 ≤ n ∧ n ≤ 5 := by
    simp at hb; omega
  refine ⟨⟨by omega, by unfold maxLen; omega⟩, ?_⟩
  refine wpC_lp (fun env ob n' => env 0 = vi n ∧ env 6 = .sl 9 0 n.toNat ∧ env 18 = ops fl l ∧ env 19 = vi l.length ∧ 9 < n' ∧ ∃ (i : Nat) (o : List Int), env 20 = vi i ∧ i ≤ l.length ∧ ob 9 = some ⟨1, o.map fun n => [vi n], none⟩ ∧ o = vecF n (l.take i) ∧ ∀ x ∈ l.take i, vecOk n x = true) (fun env ob _ => (l.length - iv (env 20)).toNat) ?_ ?_
  · simp +contextual (maxSteps := 1000000) only [go_sem, ints, intRows, reduceAdd, Nat.reduceBEq, reduceEqDiff, reduceLeDiff, Nat.reduceLT, reduceIte, reduceLE, Int.reduceLT, reduceEq, reduceNeg, reduceToNat, ops, vals, dots]
    exact ⟨0, _, rfl, by omega, rfl, rfl, fun x hx => by simp at hx⟩
  rintro env ob n' ⟨h0, h6, h18, h19, hn9, i, o, h20, hi, hob, hoe, he⟩
  have w1 : IntKind.i64.wrap ((i : Int) + 1) = ((i + 1 : Nat) : Int) := by rw [w64 (by omega)]; omega
  have hol : o.length = n.toNat := by rw [hoe, vecF_len]
  have g9 : ∀ k, (9 == n' + k) = false := fun k => by simp; omega
  have g90 : (9 == n') = false := by simp; omega
  have gy : ∀ a b, (n' + a == n' + b) = (a == b) := fun a b => by rw [Bool.eq_iff_iff, beq_iff_eq, beq_iff_eq]; omega
  simp +contextual (maxSteps := 1000000) only [go_sem, ints, intRows, reduceAdd, Nat.reduceBEq, reduceEqDiff, reduceLeDiff, Nat.reduceLT, reduceIte, reduceLE, Int.reduceLT, reduceEq, reduceNeg, reduceToNat, ops, vals, dots, h0, h6, h18, h19, h20, hob, hol]
  refine ⟨fun hlt => ?_, fun hge => ?_⟩
  · simp at hlt
    repeat (refine And.intro (by omega) ?_)
    generalize hx : gN l i = x at *
    simp +contextual (maxSteps := 1000000) only [go_sem, ints, intRows, reduceAdd, Nat.reduceBEq, reduceEqDiff, reduceLeDiff, Nat.reduceLT, reduceIte, reduceLE, Int.reduceLT, reduceEq, reduceNeg, reduceToNat, ops, vals, dots, h0, h6, h18, h19, h20, hob, hol, g9, g90, gy, w1, Nat.add_assoc, beq_add, Nat.zero_add, Nat.add_zero]
    refine ⟨fun hb => ?_, fun hb => ?_⟩
    · have : vectorT n l = ([], 1) := by
        unfold vectorT; rw [if_neg]; rintro ⟨_, _, h3⟩
        have := List.all_eq_true.1 h3 x (by rw [← hx]; exact gN_mem hlt)
        unfold vecOk at this
        simp at this hb
        omega
      rw [this]; rfl
    · have hv : 0 ≤ x.dot.p ∧ x.dot.p < n ∧ 1 ≤ x.dot.n ∧ x.dot.n ≤ 1073741824 := by simp at hb; omega
      refine ⟨by omega, by omega, by omega, by omega, ⟨by omega, i + 1, _, rfl, by omega, rfl, ?_, fun y hy => ?_⟩, by omega⟩
      · rw [vecF_take hlt, hx, ← hoe]
      · rw [take_gN hlt, List.mem_append, List.mem_singleton] at hy
        rcases hy with hy | hy
        · exact he y hy
        · subst hy; rw [hx]; unfold vecOk; exact decide_eq_true hv
  · simp at hge
    rw [List.take_of_length_le (by omega)] at hoe he
    have : vectorT n l = (o, 0) := by
      unfold vectorT; rw [if_pos ⟨hn5.1, hn5.2, List.all_eq_true.2 he⟩, hoe]
    rw [this, out_at _ (fun _ _ => rfl) hob hol.symm (by omega) _ (fun _ => rfl)]; rfl
end Go.Proofs.YtbojpedklnmidaaGreat.D
end
section
set_option linter.unusedVariables false
set_option linter.unusedSimpArgs false
set_option linter.constructorNameAsVariable false
set_option maxRecDepth 100000

/- What a vector has of operations: the statement. No condition. -/
namespace Go.Proofs.YtbojpedklnmidaaGreat.D
open Go Go.Proofs
open Nat (reduceAdd reduceEqDiff reduceLeDiff)
open Int (reduceLE reduceEq reduceNeg reduceToNat)
theorem wk_row : okRow 12 [.c (.int .i64 0), .c (.int .i64 1), .im .b [[.c (.int .i64 0)]], .c (.int .i64 0), .c (.int .i64 0), .c (.int .i64 0), .c (.int .i64 1), .c (.int .i64 0), .c (.string ⟨#[107]⟩), .c (.int .i64 0), .im .b [[.c (.int .i64 3), .c (.int .i64 3), .c (.string ⟨#[]⟩)]], .z] = true := rfl
set_option maxHeartbeats 2000000 in
theorem wakes26_ok : FnB Tryz.prog 21 [] (vb true) := by
  refine fnB_intro cf21 (by simp) ?_
  have hw : ∀ ob i, opF (.bsl 12 [.c (.int .i64 0), .c (.int .i64 0), .z, .c (.int .i64 0), .c (.int .i64 0), .c (.int .i64 0), .c (.int .i64 0), .c (.int .i64 0), .c (.string ⟨#[]⟩), .c (.int .i64 0), .z, .z] [0] 1 true) [.ag [.c (.int .i64 0), .c (.int .i64 1), .im .b [[.c (.int .i64 0)]], .c (.int .i64 0), .c (.int .i64 0), .c (.int .i64 0), .c (.int .i64 1), .c (.int .i64 0), .c (.string ⟨#[107]⟩), .c (.int .i64 0), .im .b [[.c (.int .i64 3), .c (.int .i64 3), .c (.string ⟨#[]⟩)]], .z]] ob i = some (.im .b [[.c (.int .i64 0), .c (.int .i64 1), .im .b [[.c (.int .i64 0)]], .c (.int .i64 0), .c (.int .i64 0), .c (.int .i64 0), .c (.int .i64 1), .c (.int .i64 0), .c (.string ⟨#[107]⟩), .c (.int .i64 0), .im .b [[.c (.int .i64 3), .c (.int .i64 3), .c (.string ⟨#[]⟩)]], .z]], []) := fun ob i => op_bsl_r ob i rfl wk_row
  simp +contextual (maxSteps := 1000000) only [go_sem, ints, intRows, reduceAdd, Nat.reduceBEq, reduceEqDiff, reduceLeDiff, Nat.reduceLT, reduceIte, reduceLE, Int.reduceLT, reduceEq, reduceNeg, reduceToNat, ops, vals, dots, c21, hw]
  have v1 := AVector_ok (fl := .b) 1 [wk1.toOpx] (by simp [maxLen])
  have hv : vectorT 1 [wk1.toOpx] = ([1], 0) := by rfl
  rw [hv] at v1
  have c1 := Closed_ok (fl := .b) 1 [wk1.toOpx] (by simp [maxLen]) (by intro x hx; simp at hx; subst hx; simp [inI])
  have hc : closedB 1 [wk1.toOpx] = true := by rfl
  rw [hc] at c1
  have o1 := AOf_ok (fl := .b) (fm := .b) [wk1.toOpx] [0] (by simp [maxLen]) (by intro x hx; simp at hx; subst hx; exact ⟨by simp [maxLen], by simp [maxLen], by simp [maxLen], by simp [inI]⟩)
  have ho : ofT [wk1.toOpx] [0] = [] := by rfl
  rw [ho] at o1
  first | refine caS_i (MadeW_ok) trivial ?_ | refine caD_i (MadeW_ok) trivial ?_ | refine gC_i (fun _ => MadeW_ok) trivial ?_ | refine gCD_i (fun _ => MadeW_ok) trivial ?_ | refine caE_i (MadeW_ok) trivial ?_
  simp +contextual (maxSteps := 1000000) only [go_sem, ints, intRows, reduceAdd, Nat.reduceBEq, reduceEqDiff, reduceLeDiff, Nat.reduceLT, reduceIte, reduceLE, Int.reduceLT, reduceEq, reduceNeg, reduceToNat, ops, vals, dots, hw]
  first | refine caS_i (v1) trivial ?_ | refine caD_i (v1) trivial ?_ | refine gC_i (fun _ => v1) trivial ?_ | refine gCD_i (fun _ => v1) trivial ?_ | refine caE_i (v1) trivial ?_
  simp +contextual (maxSteps := 1000000) only [go_sem, ints, intRows, reduceAdd, Nat.reduceBEq, reduceEqDiff, reduceLeDiff, Nat.reduceLT, reduceIte, reduceLE, Int.reduceLT, reduceEq, reduceNeg, reduceToNat, ops, vals, dots, hw, ia_h]
  first | refine caS_i (c1) trivial ?_ | refine caD_i (c1) trivial ?_ | refine gC_i (fun _ => c1) trivial ?_ | refine gCD_i (fun _ => c1) trivial ?_ | refine caE_i (c1) trivial ?_
  simp +contextual (maxSteps := 1000000) only [go_sem, ints, intRows, reduceAdd, Nat.reduceBEq, reduceEqDiff, reduceLeDiff, Nat.reduceLT, reduceIte, reduceLE, Int.reduceLT, reduceEq, reduceNeg, reduceToNat, ops, vals, dots, hw, ia_h]
  first | refine caS_i (o1) trivial ?_ | refine caD_i (o1) trivial ?_ | refine gC_i (fun _ => o1) trivial ?_ | refine gCD_i (fun _ => o1) trivial ?_ | refine caE_i (o1) trivial ?_
  simp +contextual (maxSteps := 1000000) only [go_sem, ints, intRows, reduceAdd, Nat.reduceBEq, reduceEqDiff, reduceLeDiff, Nat.reduceLT, reduceIte, reduceLE, Int.reduceLT, reduceEq, reduceNeg, reduceToNat, ops, vals, dots, ia_h]
theorem gN_setI (o : List Int) (k : Nat) (v : Int) (j : Nat) : gN (o.set k v) j = if k = j ∧ j < o.length then v else gN o j := by
  simp only [gN, List.getD_eq_getElem?_getD, List.getElem?_set]
  by_cases h1 : k = j
  · subst h1
    by_cases h2 : k < o.length
    · simp [h2]
    · simp [h2]
  · simp [h1]
theorem fold_ge : ∀ (l : List Opx) (o : List Int), (∀ j, gN o j ≤ gN (l.foldl (fun o x => o.set x.dot.p.toNat (max (gN o x.dot.p.toNat) x.dot.n)) o) j) ∧ ∀ x ∈ l, x.dot.p.toNat < o.length → x.dot.n ≤ gN (l.foldl (fun o x => o.set x.dot.p.toNat (max (gN o x.dot.p.toNat) x.dot.n)) o) x.dot.p.toNat
  | [], o => ⟨fun _ => Int.le_refl _, fun x hx => by cases hx⟩
  | y :: l, o => by
    obtain ⟨h1, h2⟩ := fold_ge l (o.set y.dot.p.toNat (max (gN o y.dot.p.toNat) y.dot.n))
    refine ⟨fun j => ?_, fun x hx hp => ?_⟩
    · refine Int.le_trans ?_ (h1 j)
      rw [gN_setI]; split
      · rename_i h; rw [h.1]; omega
      · omega
    · rcases List.mem_cons.1 hx with rfl | hx
      · refine Int.le_trans ?_ (h1 _)
        rw [gN_setI, if_pos ⟨rfl, hp⟩]; omega
      · exact h2 x hx (by simpa using hp)
theorem ofT_vec {n : Int} {l : List Opx} (h : (vectorT n l).2 = 0) : ofT l (vectorT n l).1 = l := by
  unfold vectorT at *
  split at h
  case isFalse => cases h
  rename_i hc
  rw [if_pos hc]
  obtain ⟨_, _, h3⟩ := hc
  unfold ofT
  rw [List.filter_eq_self]
  intro x hx
  have hv := List.all_eq_true.1 h3 x hx
  unfold vecOk at hv
  have hv := of_decide_eq_true hv
  unfold hasB
  refine decide_eq_true ⟨hv.1, ?_, hv.2.2.1, ?_⟩
  · rw [vecF_len]; omega
  · exact (fold_ge l (List.replicate n.toNat 0)).2 x hx (by rw [List.length_replicate]; omega)
end Go.Proofs.YtbojpedklnmidaaGreat.D
end
section
set_option linter.unusedVariables false
set_option linter.unusedSimpArgs false
set_option linter.constructorNameAsVariable false
set_option maxRecDepth 100000

/- Closed operations: plain facts. No condition. -/
namespace Go.Proofs.YtbojpedklnmidaaGreat.D
open Go Go.Proofs
open Nat (reduceAdd reduceEqDiff reduceLeDiff)
open Int (reduceLE reduceEq reduceNeg reduceToNat)
def hadV (n : Int) (l : List Opx) : List Int := l.foldl (fun o x => o.set x.dot.p.toNat x.dot.n) (List.replicate n.toNat 0)
theorem hadV_len (n : Int) (l : List Opx) : (hadV n l).length = n.toNat := by
  unfold hadV
  suffices ∀ o : List Int, (l.foldl (fun o x => o.set x.dot.p.toNat x.dot.n) o).length = o.length by rw [this]; simp
  induction l with
  | nil => intro o; rfl
  | cons x l ih => intro o; rw [List.foldl_cons, ih]; simp
theorem hadV_take {n : Int} {l : List Opx} {i : Nat} (h : i < l.length) : hadV n (l.take (i + 1)) = (hadV n (l.take i)).set (gN l i).dot.p.toNat (gN l i).dot.n := by
  rw [take_gN h]; unfold hadV; rw [List.foldl_append]; rfl
theorem hadV_in {n : Int} {l : List Opx} (h : ∀ x ∈ l, inI x.dot.n) : ∀ v ∈ hadV n l, inI v := by
  unfold hadV
  suffices ∀ o : List Int, (∀ v ∈ o, inI v) → ∀ v ∈ l.foldl (fun o x => o.set x.dot.p.toNat x.dot.n) o, inI v by
    refine this _ fun v hv => ?_
    rw [List.eq_of_mem_replicate hv]; simp [inI]
  induction l with
  | nil => intro o ho; exact ho
  | cons x l ih =>
    intro o ho
    rw [List.foldl_cons]
    refine ih (fun y hy => h y (List.mem_cons_of_mem _ hy)) _ fun v hv => ?_
    rcases List.mem_or_eq_of_mem_set hv with hv | rfl
    · exact ho v hv
    · exact h x (List.mem_cons_self ..)
def okAt (n : Int) (l : List Opx) (j : Nat) : Prop := ((gN l j).deps.length : Int) = n ∧ vecE (gN l j).deps = 0 ∧ nextB (hadV n (l.take j)) (gN l j).dot = true ∧ leB (gN l j).deps (hadV n (l.take j)) = true
def needB (d : Dt) (y : Opx) : Bool := hasB y.deps d || (decide (y.dot.p = d.p) && decide (d.n < y.dot.n))
theorem inD_mem {l : List Dt} {d : Dt} : inD l d = true ↔ d ∈ l := by
  unfold inD
  rw [List.any_eq_true]
  constructor
  · rintro ⟨e, h1, h2⟩
    simp [eqD] at h2
    obtain ⟨p, m⟩ := d; obtain ⟨p', m'⟩ := e
    simp at h2; rw [h2.1, h2.2]; exact h1
  · intro h; exact ⟨d, h, by simp [eqD]⟩
theorem inD_no {l : List Dt} {d : Dt} : inD l d = false ↔ d ∉ l := by
  rw [← Bool.not_eq_true, inD_mem]
section
variable {n : Int} {l : List Opx}
theorem okAt_next (j : Nat) (h : okAt n l j) : 0 ≤ (gN l j).dot.p ∧ (gN l j).dot.p < n ∧ (gN l j).dot.n = gN (hadV n (l.take j)) (gN l j).dot.p.toNat + 1 := by
  have h1 := of_decide_eq_true (show decide _ = true from h.2.2.1)
  rw [hadV_len] at h1
  exact ⟨h1.1, by omega, h1.2.2⟩
theorem had_pos (ho : ∀ j, j < l.length → okAt n l j) : ∀ i, i ≤ l.length → ∀ p, 0 ≤ gN (hadV n (l.take i)) p
  | 0, _, p => by simp [hadV, gN, List.getD_eq_getElem?_getD, List.getElem?_replicate]; split <;> simp
  | i + 1, hi, p => by
    have ih := had_pos ho i (by omega)
    rw [hadV_take (by omega), gN_setI]
    split
    · have := (okAt_next i (ho i (by omega))).2.2
      have := ih (gN l i).dot.p.toNat; omega
    · exact ih p
theorem had_mono (ho : ∀ j, j < l.length → okAt n l j) (i : Nat) (hi : i < l.length) (p : Nat) : gN (hadV n (l.take i)) p ≤ gN (hadV n (l.take (i + 1))) p := by
  rw [hadV_take hi, gN_setI]
  split
  · rename_i h
    have := (okAt_next i (ho i hi)).2.2
    rw [h.1] at this; omega
  · omega
theorem had_le (ho : ∀ j, j < l.length → okAt n l j) (i : Nat) : ∀ k, i + k ≤ l.length → ∀ p, gN (hadV n (l.take i)) p ≤ gN (hadV n (l.take (i + k))) p
  | 0, _, p => Int.le_refl _
  | k + 1, hk, p => Int.le_trans (had_le ho i k (by omega) p) (had_mono ho (i + k) (by omega) p)
theorem had_set (ho : ∀ j, j < l.length → okAt n l j) : ∀ i, i ≤ l.length → ∀ d : Dt, d ∈ (l.take i).map (·.dot) ↔ 0 ≤ d.p ∧ d.p < n ∧ 1 ≤ d.n ∧ d.n ≤ gN (hadV n (l.take i)) d.p.toNat
  | 0, _, d => by
    have h0 : gN (hadV n (l.take 0)) d.p.toNat = 0 := by simp [hadV, gN, List.getD_eq_getElem?_getD, List.getElem?_replicate]; split <;> simp
    rw [h0]; simp; omega
  | i + 1, hi, d => by
    have ih := had_set ho i (by omega) d
    have hx := okAt_next i (ho i (by omega))
    have hp := had_pos ho i (by omega) (gN l i).dot.p.toNat
    rw [take_gN (by omega), List.map_append, List.mem_append, ih]
    rw [← take_gN (by omega), hadV_take (by omega), gN_setI, hadV_len]
    simp only [List.map_cons, List.map_nil, List.mem_singleton]
    obtain ⟨dp, dn⟩ := d
    generalize hxd : (gN l i).dot = y at *
    obtain ⟨yp, yn⟩ := y
    simp only [Dt.mk.injEq] at *
    by_cases hpe : dp = yp
    · subst hpe
      by_cases hr : 0 ≤ dp ∧ dp < n
      · rw [if_pos ⟨rfl, by omega⟩]; omega
      · omega
    · by_cases hr : 0 ≤ dp ∧ dp < n
      · rw [if_neg (by omega)]; omega
      · omega
theorem dots_nodup (ho : ∀ j, j < l.length → okAt n l j) : ∀ i, i ≤ l.length → ((l.take i).map (·.dot)).Nodup
  | 0, _ => by simp
  | i + 1, hi => by
    have ih := dots_nodup ho i (by omega)
    rw [take_gN (by omega), List.map_append, List.nodup_append]
    refine ⟨ih, by simp, fun a ha b hb => ?_⟩
    simp at hb
    subst hb
    intro e
    subst e
    have := ((had_set ho i (by omega) _).1 ha).2.2.2
    have := (okAt_next i (ho i (by omega))).2.2
    omega
def goodO (n : Int) (x : Opx) : Prop := 0 ≤ x.dot.p ∧ x.dot.p < n ∧ (x.deps.length : Int) = n ∧ vecE x.deps = 0
theorem good_at (ho : ∀ j, j < l.length → okAt n l j) : ∀ x ∈ l, goodO n x := fun x hx => by
  obtain ⟨j, hj, rfl⟩ := List.getElem_of_mem hx
  have := ho j hj
  have h2 := okAt_next j this
  rw [gN_eq hj] at h2
  unfold okAt at this
  rw [gN_eq hj] at this
  exact ⟨h2.1, h2.2.1, this.1, this.2.1⟩
theorem okHead_of {m : List Opx} (h1 : (m.map (·.dot)).Nodup) (h2 : ∀ x ∈ m, goodO n x) : okHead n m = true := by
  unfold okHead
  refine decide_eq_true fun i hi => ?_
  have hg := h2 _ (gN_mem hi)
  refine ⟨?_, hg.1, hg.2.1, hg.2.2.1, hg.2.2.2⟩
  rw [inD_no]
  intro hm
  have e : m.map (·.dot) = (m.take i).map (·.dot) ++ (gN m i).dot :: (m.drop (i + 1)).map (·.dot) := by
    have e1 : m = m.take i ++ (gN m i :: m.drop (i + 1)) := by
      rw [gN_eq hi, List.getElem_cons_drop, List.take_append_drop]
    conv => lhs; rw [e1]
    simp
  rw [e, List.nodup_append] at h1
  exact h1.2.2 _ hm _ (List.mem_cons_self ..) rfl
theorem allD_iff {D : List Dt} {p m : Int} : allD D p m = true ↔ ∀ q : Int, 1 ≤ q → q ≤ m → (⟨p, q⟩ : Dt) ∈ D := by
  unfold allD
  rw [List.all_eq_true]
  constructor
  · intro h q h1 h2
    have := h (q.toNat - 1) (List.mem_range.2 (by omega))
    rw [inD_mem] at this
    have e : ((q.toNat - 1 + 1 : Nat) : Int) = q := by omega
    rw [e] at this; exact this
  · intro h k hk
    rw [inD_mem]
    have := List.mem_range.1 hk
    exact h _ (by omega) (by omega)
theorem okTail_iff {D : List Dt} {x : Opx} : okTail D x = true ↔ (1 < x.dot.n → (⟨x.dot.p, x.dot.n - 1⟩ : Dt) ∈ D) ∧ ∀ p : Nat, p < x.deps.length → ∀ q : Int, 1 ≤ q → q ≤ gN x.deps p → (⟨p, q⟩ : Dt) ∈ D := by
  unfold okTail
  rw [Bool.and_eq_true, Bool.or_eq_true, decide_eq_true_eq, decide_eq_true_eq, inD_mem]
  constructor
  · rintro ⟨h1, h2⟩
    exact ⟨fun h => h1.resolve_left (by omega), fun p hp => allD_iff.1 (h2 p hp)⟩
  · rintro ⟨h1, h2⟩
    refine ⟨?_, fun p hp => allD_iff.2 (h2 p hp)⟩
    by_cases h : x.dot.n ≤ 1
    · exact .inl h
    · exact .inr (h1 (by omega))
theorem tail_at (ho : ∀ j, j < l.length → okAt n l j) {i j : Nat} (hi : i ≤ l.length) (hj : j < i) : okTail ((l.take i).map (·.dot)) (gN l j) = true := by
  have h := ho j (by omega)
  have hx := okAt_next j h
  have hle : ∀ p, gN (hadV n (l.take j)) p ≤ gN (hadV n (l.take i)) p := fun p => by
    have := had_le ho j (i - j) (by omega) p
    rwa [Nat.add_sub_cancel' (by omega)] at this
  rw [okTail_iff]
  refine ⟨fun h1 => (had_set ho i hi _).2 ⟨hx.1, hx.2.1, by show 1 ≤ (gN l j).dot.n - 1; omega, ?_⟩, fun p hp q h1 h2 => (had_set ho i hi _).2 ⟨by show 0 ≤ (p : Int); omega, ?_, h1, ?_⟩⟩
  · have := hle (gN l j).dot.p.toNat
    show (gN l j).dot.n - 1 ≤ gN (hadV n (l.take i)) (gN l j).dot.p.toNat
    omega
  · have := h.1; show (p : Int) < n; omega
  · have h3 := (leB_iff.1 h.2.2.2).2 p hp
    have := hle p
    show q ≤ gN (hadV n (l.take i)) ((p : Int)).toNat
    rw [Int.toNat_natCast]; omega
theorem cl_of {m : List Opx} (hn : 1 ≤ n ∧ n ≤ 5) (h1 : okHead n m = true) : closedB n m = true ↔ ∀ y ∈ m, okTail (m.map (·.dot)) y = true := by
  unfold closedB
  rw [decide_eq_true hn, h1, Bool.true_and, Bool.true_and, decide_eq_true_eq]
  constructor
  · intro h y hy
    obtain ⟨j, hj, rfl⟩ := List.getElem_of_mem hy
    have := h j hj
    rwa [gN_eq hj] at this
  · intro h i hi; exact h _ (gN_mem hi)
theorem cl_take (hn : 1 ≤ n ∧ n ≤ 5) (ho : ∀ j, j < l.length → okAt n l j) (i : Nat) : closedB n (l.take i) = true := by
  suffices ∀ i, i ≤ l.length → closedB n (l.take i) = true by
    by_cases h : i ≤ l.length
    · exact this i h
    · have := this l.length (Nat.le_refl _)
      rwa [List.take_length, ← List.take_of_length_le (show l.length ≤ i by omega)] at this
  intro i hi
  rw [cl_of hn (okHead_of (dots_nodup ho i hi) fun x hx => good_at ho x (List.mem_of_mem_take hx))]
  intro y hy
  obtain ⟨j, hj, rfl⟩ := List.getElem_of_mem hy
  rw [List.length_take] at hj
  have := tail_at ho hi (show j < i by omega)
  rw [gN_eq (by omega)] at this
  rw [List.getElem_take]; exact this
end
end Go.Proofs.YtbojpedklnmidaaGreat.D
end
section
set_option linter.unusedVariables false
set_option linter.unusedSimpArgs false
set_option linter.constructorNameAsVariable false
set_option maxRecDepth 100000

/- Closed operations: the walk of the statement. No condition. -/
namespace Go.Proofs.YtbojpedklnmidaaGreat.D
open Go Go.Proofs
open Nat (reduceAdd reduceEqDiff reduceLeDiff)
open Int (reduceLE reduceEq reduceNeg reduceToNat)
section
variable {P : Program} {nid : Nat} {env : Env} {ob : OB} {K : Env → OB → Prop} {l : List RO} {d : Option Nat} {n k : Nat} {v x : V} {rows xs : List (List V)} {nps : List (List Nat)} {past : List (List Nat × Option (List Nat))} {np : List Nat} {lk : Option (List Nat)}
end
theorem own_fr {n n' k : Nat} {ob ob' : OB} {v : V} {rows : List (List V)} (h : Own n ob v k rows) (hn : n ≤ n') (hf : ∀ id, id < n → v = .sl id 0 rows.length → ob' id = ob id) : Own n' ob' v k rows :=
  h.imp id fun ⟨h1, i, c, h2, h3, h4⟩ => ⟨h1, i, c, by omega, h3, (hf i h2 h3).trans h4⟩
end Go.Proofs.YtbojpedklnmidaaGreat.D
end
section
set_option linter.unusedVariables false
set_option linter.unusedSimpArgs false
set_option linter.constructorNameAsVariable false
set_option maxRecDepth 100000

/- What operations make of a key: an operation noted; a row. No condition. -/
namespace Go.Proofs.YtbojpedklnmidaaGreat.D
open Go Go.Proofs
open Nat (reduceAdd reduceEqDiff reduceLeDiff)
open Int (reduceLE reduceEq reduceNeg reduceToNat)
theorem app_any {ob : OB} {n nid k : Nat} {v x : V} {rows xs : List (List V)} (h : Own n ob v k rows) (hn : n ≤ nid) (hx : rowsOf ob x = some xs) (hk : xs.all (okRow k) = true) (hlen : rows.length + xs.length ≤ maxLen) :
    ∃ v' us, opF (.app k) [v, x] ob nid = some (v', us) ∧ Own (nid + 1) (apps ob us) v' k (rows ++ xs) ∧ (∀ id, id ≠ nid → (∀ len, v ≠ .sl id 0 len) → apps ob us id = ob id) ∧ (v' = v ∨ ∃ len, v' = .sl nid 0 len) ∧ cellsV v' = [v'] ∧ leaf v' = true := by
  by_cases h0 : xs = []
  · subst h0
    rcases h with ⟨rfl, rfl⟩ | ⟨h1, id, cap, h2, rfl, h4⟩
    · exact ⟨.z, [], by simp [opF, hx], .inl ⟨rfl, rfl⟩, fun _ _ _ => rfl, .inl rfl, rfl, rfl⟩
    · refine ⟨.sl id 0 rows.length, [(id, some ⟨k, rows, cap⟩)], ?_, ?_, fun j hj hs => ?_, .inl rfl, rfl, rfl⟩
      · simp only [opF, hx, Option.bind_some, h4]
        simp at hlen
        simp [hlen, over]
      · refine .inr ⟨by simpa using h1, id, cap, by omega, by simp, ?_⟩
        simp [apps]
      · have : j ≠ id := fun e => hs rows.length (by rw [e])
        simp [apps, this]
  · have h1 : (rows = [] ∧ v = .z) ∨ (∃ id cap, v = .sl id 0 rows.length ∧ ob id = some ⟨k, rows, cap⟩) := h.imp id fun ⟨_, i, c, _, h3, h4⟩ => ⟨i, c, h3, h4⟩
    obtain ⟨us, u1, u2, u3⟩ := app_new (nid := nid) h1 h0 hx hk hlen
    exact ⟨_, us, u1, .inr ⟨by simp [h0], nid, none, by omega, by simp, u2⟩, u3, .inr ⟨_, rfl⟩, rfl, rfl⟩
theorem own_up {n m k : Nat} {ob : OB} {v : V} {rows : List (List V)} {o : Option Ob} (h : Own n ob v k rows) (hm : ∀ len, v ≠ .sl m 0 len) : Own n (updO ob m o) v k rows :=
  own_fr h (Nat.le_refl _) fun id _ e => by rw [updO, if_neg fun e2 => hm rows.length (by rw [e, e2])]
theorem ownE_up {n m k : Nat} {ob : OB} {v : V} {rows : List (List V)} {o : Option Ob} (h : OwnE n ob v k rows) (hm : ∀ len, v ≠ .sl m 0 len) : OwnE n (updO ob m o) v k rows :=
  h.fr (Nat.le_refl _) fun id len e _ => by rw [updO, if_neg fun e2 => hm len (by rw [e, e2])]
set_option maxHeartbeats 4000000 in
attribute [-go_sem] wpC_bl in
theorem note_ok {M : Mde} {x : Opx} {inV outV laV : V} {mid n nid : Nat} {ob : OB} {C : V → OB → Nat → Prop} (h : MadeO ob n mid M inV outV laV) (hn : n ≤ nid) (hil : M.ins.length + 1 ≤ maxLen) (hol : M.outs.length + x.dots.length ≤ maxLen) (hll : M.last.length ≤ maxLen)
    (hC : ∀ inV' outV' ob' n', nid ≤ n' → MadeO ob' n' mid (noteM M x) inV' outV' laV → (∀ j, j < nid → j ≠ mid → (∀ len, inV ≠ .sl j 0 len) → (∀ len, outV ≠ .sl j 0 len) → (∀ len, laV ≠ .sl j 0 len) → ob' j = ob j) →
      (∀ id len, inV' = .sl id 0 len → (∃ len', inV = .sl id 0 len') ∨ nid ≤ id) → (∀ id len, outV' = .sl id 0 len → (∃ len', outV = .sl id 0 len') ∨ nid ≤ id) → C (.tp []) ob' n') :
    FnS Tryz.prog 45 [.pt mid 0 0, .ag (opN x)] ob nid C := by
  have hmn := h.lt
  refine fnS_intro cf45 (by simp) ?_
  have ha : ∀ k, (mid == nid + k) = false := fun k => by simp; omega
  have ha0 : (mid == nid) = false := by simp; omega
  have ha' : ∀ k, (nid + k == mid) = false := fun k => by simp; omega
  have ha1 : (nid == mid) = false := by simp; omega
  have nid13 : ∀ k, (nid == nid + (k + 1)) = false := fun k => by simp
  have hm := h.m
  simp +contextual (maxSteps := 1000000) only [go_sem, ints, intRows, reduceAdd, Nat.reduceBEq, reduceEqDiff, reduceLeDiff, Nat.reduceLT, reduceIte, reduceLE, Int.reduceLT, reduceEq, reduceNeg, reduceToNat, ops, vals, dots, c45, hm, ha, ha0, Nat.add_assoc, beq_add, Nat.zero_add, Nat.add_zero]
  have hb1 := updO_s ob nid (some ⟨12, [opN x], none⟩)
  have hfr1 : ∀ j, j < nid → updO ob nid (some ⟨12, [opN x], none⟩) j = ob j := fun j hj => by rw [updO, if_neg (by omega)]
  have hi1 : Own n (updO ob nid (some ⟨12, [opN x], none⟩)) inV 2 (M.ins.map dotV) := h.i.upd hn
  have ho1 : Own n (updO ob nid (some ⟨12, [opN x], none⟩)) outV 2 (M.outs.map dotV) := h.o.upd hn
  have hl1 : OwnE n (updO ob nid (some ⟨12, [opN x], none⟩)) laV 12 (M.last.map lastV) := h.l.upd hn
  have hm1 := (hfr1 mid (by omega)).trans hm
  generalize updO ob nid (some ⟨12, [opN x], none⟩) = ob1 at *
  have him : ∀ len, inV ≠ .sl mid 0 len := fun len => h.i.e.ne hm (by omega)
  have hom : ∀ len, outV ≠ .sl mid 0 len := fun len => h.o.e.ne hm (by omega)
  have hlm : ∀ len, laV ≠ .sl mid 0 len := fun len => h.l.ne hm (by omega)
  refine cut_C (fun env ob' n' => env 0 = .pt mid 0 0 ∧ env 3 = .pt nid 0 0 ∧ nid < n' ∧ ob' nid = some ⟨12, [opN x], none⟩ ∧ ∃ inV' outV', MadeO ob' n' mid ⟨M.key, if x.kind = 1 then M.ins ++ [x.dot] else M.ins, if x.kind = 3 then M.outs ++ x.dots else M.outs, M.last⟩ inV' outV' laV ∧
      (∀ j, j < nid → j ≠ mid → (∀ len, inV ≠ .sl j 0 len) → (∀ len, outV ≠ .sl j 0 len) → ob' j = ob j) ∧ (∀ id len, inV' = .sl id 0 len → (∃ len', inV = .sl id 0 len') ∨ nid ≤ id) ∧ (∀ id len, outV' = .sl id 0 len → (∃ len', outV = .sl id 0 len') ∨ nid ≤ id)) ?_ ?_
  · simp +contextual (maxSteps := 1000000) only [go_sem, ints, intRows, reduceAdd, Nat.reduceBEq, reduceEqDiff, reduceLeDiff, Nat.reduceLT, reduceIte, reduceLE, Int.reduceLT, reduceEq, reduceNeg, reduceToNat, ops, vals, dots, wpC_bl, hb1, hm1, ha, ha0, ha', ha1, nid13, Nat.add_assoc, beq_add, Nat.zero_add, Nat.add_zero]
    refine ⟨fun h1 => ?_, fun h1 => ⟨fun h3 => ?_, fun h3 => ?_⟩⟩
    · simp only [decide_eq_true_eq] at h1
      obtain ⟨v', us, u1, u2, u3, u4, u5, u6⟩ := app_any (x := .im .b [dotV x.dot]) (xs := [dotV x.dot]) (nid := nid + 13) hi1 (by omega) rfl rfl (by simpa using hil)
      have u1' : opF (.app 2) [inV, .im .b [[vi x.dot.p, vi x.dot.n]]] ob1 (nid + 13) = some (v', us) := u1
      rw [u1', nxD_t]
      have um : apps ob1 us mid = some ⟨4, [[.c (.string M.key), inV, outV, laV]], none⟩ := (u3 mid (by omega) him).trans hm1
      have un : apps ob1 us nid = some ⟨12, [opN x], none⟩ := (u3 nid (by omega) fun len e => h.i.e.lt hn e).trans hb1
      simp +contextual (maxSteps := 1000000) only [go_sem, ints, intRows, reduceAdd, Nat.reduceBEq, reduceEqDiff, reduceLeDiff, Nat.reduceLT, reduceIte, reduceLE, Int.reduceLT, reduceEq, reduceNeg, reduceToNat, ops, vals, dots, wpC_bl, um, u5, u6, ha, ha0, ha', ha1, nid13, Nat.add_assoc, beq_add, Nat.zero_add, Nat.add_zero]
      have hv' : ∀ id len, v' = .sl id 0 len → (∃ len', inV = .sl id 0 len') ∨ nid ≤ id := fun id len e => by
        rcases u4 with rfl | ⟨len', rfl⟩
        · exact .inl ⟨_, e⟩
        · injection e with e _ _; exact .inr (by omega)
      have hvm : ∀ len, v' ≠ .sl mid 0 len := fun len e => by
        rcases hv' _ _ e with ⟨len', e⟩ | e
        · exact him _ e
        · omega
      refine ⟨by omega, un, v', outV, ⟨updO_s _ _ _, ?_, ?_, ?_, fun id len len' e => ?_, by omega⟩, fun j h2 h3 h4 h5 => ?_, hv', fun id len e => .inl ⟨_, e⟩⟩
      · rw [if_pos h1, List.map_append]
        exact own_up (n := nid + 17) (u2.mono (by omega)) hvm
      · rw [if_neg (show ¬ x.kind = 3 by omega)]
        exact own_up (own_fr (n' := nid + 17) ho1 (by omega) fun id h2 h3 => u3 id (by omega) fun len h4 => h.d id len _ h4 h3) hom
      · exact ownE_up (n := nid + 17) (hl1.fr (by omega) fun id len h2 h3 => u3 id (by omega) fun len' h4 => by
          rcases hi1 with ⟨_, h5⟩ | ⟨_, i, c, _, h5, h6⟩
          · rw [h5] at h4; cases h4
          · rw [h4] at h5; injection h5 with h5
            exact hl1.ne (h5 ▸ h6) (by omega) h2) hlm
      · rcases u4 with rfl | ⟨len2, rfl⟩
        · exact h.d _ _ _ e
        · injection e with e _ _
          exact fun e2 => by have := ho1.e.lt (A := nid + 13) (by omega) (len := len'); rw [← e] at e2; exact this e2
      · rw [updO, if_neg h3, u3 j (by omega) h4, hfr1 j h2]
    · simp only [decide_eq_true_eq] at h3
      obtain ⟨v', us, u1, u2, u3, u4, u5, u6⟩ := app_any (x := dots .n x.dots) (xs := x.dots.map dotV) (nid := nid + 14) ho1 (by omega) rfl (allDots _) (by simpa using hol)
      have u1' : opF (.app 2) [outV, .im .n (x.dots.map dotV)] ob1 (nid + 14) = some (v', us) := u1
      rw [u1', nxD_t]
      have um : apps ob1 us mid = some ⟨4, [[.c (.string M.key), inV, outV, laV]], none⟩ := (u3 mid (by omega) hom).trans hm1
      have un : apps ob1 us nid = some ⟨12, [opN x], none⟩ := (u3 nid (by omega) fun len e => h.o.e.lt hn e).trans hb1
      simp +contextual (maxSteps := 1000000) only [go_sem, ints, intRows, reduceAdd, Nat.reduceBEq, reduceEqDiff, reduceLeDiff, Nat.reduceLT, reduceIte, reduceLE, Int.reduceLT, reduceEq, reduceNeg, reduceToNat, ops, vals, dots, wpC_bl, um, u5, u6, ha, ha0, ha', ha1, nid13, Nat.add_assoc, beq_add, Nat.zero_add, Nat.add_zero]
      have hv' : ∀ id len, v' = .sl id 0 len → (∃ len', outV = .sl id 0 len') ∨ nid ≤ id := fun id len e => by
        rcases u4 with rfl | ⟨len', rfl⟩
        · exact .inl ⟨_, e⟩
        · injection e with e _ _; exact .inr (by omega)
      have hvm : ∀ len, v' ≠ .sl mid 0 len := fun len e => by
        rcases hv' _ _ e with ⟨len', e⟩ | e
        · exact hom _ e
        · omega
      refine ⟨by omega, un, inV, v', ⟨updO_s _ _ _, ?_, ?_, ?_, fun id len len' e => ?_, by omega⟩, fun j h2 h3 h4 h5 => ?_, fun id len e => .inl ⟨_, e⟩, hv'⟩
      · rw [if_neg (show ¬ x.kind = 1 by omega)]
        exact own_up (own_fr (n' := nid + 18) hi1 (by omega) fun id h2 h3 => u3 id (by omega) fun len h4 => h.d id _ _ h3 h4) him
      · rw [if_pos h3, List.map_append]
        exact own_up (n := nid + 18) (u2.mono (by omega)) hvm
      · exact ownE_up (n := nid + 18) (hl1.fr (by omega) fun id len h2 h3 => u3 id (by omega) fun len' h4 => by
          rcases ho1 with ⟨_, h5⟩ | ⟨_, i, c, _, h5, h6⟩
          · rw [h5] at h4; cases h4
          · rw [h4] at h5; injection h5 with h5
            exact hl1.ne (h5 ▸ h6) (by omega) h2) hlm
      · rcases u4 with rfl | ⟨len2, rfl⟩
        · exact h.d _ _ _ e
        · intro e2; injection e2 with e2 _ _
          have := hi1.e.lt (A := nid + 14) (by omega) (len := len); rw [← e2] at e; exact this e
      · rw [updO, if_neg h3, u3 j (by omega) h5, hfr1 j h2]
    · simp only [decide_eq_false_iff_not] at h1 h3
      refine ⟨by omega, inV, outV, ⟨hm1, ?_, ?_, hl1.mono (by omega), h.d, by omega⟩, fun j h2 _ _ _ => hfr1 j h2, fun id len e => .inl ⟨_, e⟩, fun id len e => .inl ⟨_, e⟩⟩
      · rw [if_neg h1]; exact hi1.mono (by omega)
      · rw [if_neg h3]; exact ho1.mono (by omega)
  clear hb1 hi1 ho1 hl1 hm1 him hom hlm hm ha ha0 ha' ha1 nid13 hfr1 ob1
  rintro env ob2 n2 ⟨e0, e3, hn2, obx, inV', outV', hM, hfr2, hin, hout⟩
  have hm2 := hM.m
  have hlL : lenOf laV = some M.last.length := by
    rcases hM.l with ⟨h3, h4⟩ | ⟨id, c, _, h4, _⟩
    · have : M.last = [] := by simpa using h3
      rw [this, h4]; rfl
    · rw [h4]; simp [lenOf]
  simp +contextual (maxSteps := 1000000) only [go_sem, ints, intRows, reduceAdd, Nat.reduceBEq, reduceEqDiff, reduceLeDiff, Nat.reduceLT, reduceIte, reduceLE, Int.reduceLT, reduceEq, reduceNeg, reduceToNat, ops, vals, dots, e0, e3, hm2, hlL]
  generalize hNL : (noteM M x).last = NL
  have hNLl : NL.length = M.last.length := by rw [← hNL]; simp [noteM]
  have hNLi : ∀ i : Nat, i < M.last.length → gN NL i = if 0 ≤ atX x i ∧ lateB (gN M.last i) x = true then some x else gN M.last i := fun i hi => by
    rw [← hNL]; unfold noteM
    rw [gN_eq (by simpa using hi), gN_eq hi]
    simp
  refine wpC_lp (fun env ob' n' => env 0 = .pt mid 0 0 ∧ env 3 = .pt nid 0 0 ∧ env 36 = vi M.last.length ∧ n2 ≤ n' ∧ ∃ i : Nat, env 37 = vi i ∧ i ≤ M.last.length ∧ OwnE n2 ob' laV 12 ((NL.take i ++ M.last.drop i).map lastV) ∧ ∀ j, j < n2 → (∀ len, laV ≠ .sl j 0 len) → ob' j = ob2 j) (fun env ob _ => (M.last.length - iv (env 37)).toNat) ?_ ?_
  · simp +contextual (maxSteps := 1000000) only [go_sem, ints, intRows, reduceAdd, Nat.reduceBEq, reduceEqDiff, reduceLeDiff, Nat.reduceLT, reduceIte, reduceLE, Int.reduceLT, reduceEq, reduceNeg, reduceToNat, ops, vals, dots, e0, e3]
    exact ⟨by omega, 0, rfl, by omega, by simpa using hM.l⟩
  clear e0 e3
  rintro env ob' n' ⟨e0, e3, e36, hn', i, e37, hi, hla, hfr3⟩
  simp +contextual (maxSteps := 1000000) only [go_sem, ints, intRows, reduceAdd, Nat.reduceBEq, reduceEqDiff, reduceLeDiff, Nat.reduceLT, reduceIte, reduceLE, Int.reduceLT, reduceEq, reduceNeg, reduceToNat, ops, vals, dots, e0, e3, e36, e37]
  refine ⟨fun hlt => ?_, fun hge => ?_⟩
  · simp only [decide_eq_true_eq] at hlt
    have hmo := (hfr3 mid hM.lt fun len => hM.l.ne hm2 (by omega)).trans hm2
    have hxo := (hfr3 nid hn2 fun len e => by
      rcases hM.l with ⟨_, h4⟩ | ⟨id, c, _, h4, h5⟩
      · rw [h4] at e; cases e
      · exact h.l.lt hn e).trans obx
    have hLl : (NL.take i ++ M.last.drop i).length = M.last.length := by simp; omega
    obtain ⟨id, c, hid, hle, hob⟩ : ∃ id c, id < n2 ∧ laV = .sl id 0 M.last.length ∧ ob' id = some ⟨12, (NL.take i ++ M.last.drop i).map lastV, c⟩ := by
      rcases hla with ⟨h3, _⟩ | ⟨id, c, h4, h5, h6⟩
      · have := congrArg List.length h3
        rw [List.length_map, hLl, List.length_nil] at this; omega
      · rw [List.length_map, hLl] at h5; exact ⟨id, c, h4, h5, h6⟩
    have hgi : gN (NL.take i ++ M.last.drop i) i = gN M.last i := by
      rw [gN_eq (by rw [hLl]; omega), gN_eq (by omega), List.getElem_append_right (by simp; omega)]
      simp; congr 1; omega
    have hrow : ((NL.take i ++ M.last.drop i).map lastV)[i]? = some (lastV (gN M.last i)) := by
      rw [List.getElem?_map, List.getElem?_eq_getElem (by rw [hLl]; omega), ← gN_eq (by rw [hLl]; omega), hgi]; rfl
    generalize hLi : NL.take i ++ M.last.drop i = Li at *
    subst hle
    simp +contextual (maxSteps := 1000000) only [go_sem, ints, intRows, reduceAdd, Nat.reduceBEq, reduceEqDiff, reduceLeDiff, Nat.reduceLT, reduceIte, reduceLE, Int.reduceLT, reduceEq, reduceNeg, reduceToNat, ops, vals, dots, wpC_bl, e0, e3, e36, e37, hmo, hxo, hob]
    first | refine caS_i (at_okN x i) trivial ?_ | refine caD_i (at_okN x i) trivial ?_ | refine gC_i (fun _ => at_okN x i) trivial ?_ | refine gCD_i (fun _ => at_okN x i) trivial ?_ | refine caE_i (at_okN x i) trivial ?_
    have hset : Li.set i (gN NL i) = NL.take (i + 1) ++ M.last.drop (i + 1) := by
      have e1 : M.last.drop i = gN M.last i :: M.last.drop (i + 1) := by rw [gN_eq (by omega), List.getElem_cons_drop]
      rw [← hLi, take_gN (by omega), e1, List.set_append_right _ _ (by simp; omega)]
      have e2 : i - (NL.take i).length = 0 := by simp; omega
      rw [e2]; simp
    have hsetn : gN NL i = gN M.last i → Li.set i (gN NL i) = Li := fun e => by
      rw [e, ← hgi]
      refine List.ext_getElem (by simp) fun j h1 h2 => ?_
      rw [List.getElem_set]; split
      · rename_i h3; subst h3; rw [gN_eq h2]
      · rfl
    have hNi := hNLi i (by omega)
    have w1 : IntKind.i64.wrap ((i : Int) + 1) = ((i + 1 : Nat) : Int) := by have := hll; unfold maxLen at this; rw [w64 (by omega)]; omega
    have hyes : gN NL i = some x → OwnE n2 (updO ob' id (some ⟨12, (Li.map lastV).set i (opN x), c⟩)) (.sl id 0 M.last.length) 12 ((NL.take (i + 1) ++ M.last.drop (i + 1)).map lastV) := fun e => by
      have e1 : (Li.map lastV).set i (opN x) = (NL.take (i + 1) ++ M.last.drop (i + 1)).map lastV := by rw [← hset, e, List.map_set]; rfl
      rw [e1]; exact .inr ⟨id, c, hid, by rw [List.length_map, ← hset, List.length_set, hLl], updO_s _ _ _⟩
    have hno : gN NL i = gN M.last i → OwnE n2 ob' (.sl id 0 M.last.length) 12 ((NL.take (i + 1) ++ M.last.drop (i + 1)).map lastV) := fun e => by
      rw [← hset, hsetn e]; exact hla
    cases hy : gN M.last i with
    | none =>
      have el : lastV (gN Li i) = [vi 0, vi 0, .z, vi 0, vi 0, vi 0, vi 0, vi 0, .c (.string ⟨#[]⟩), vi 0, .z, .z] := by rw [hgi, hy]; rfl
      simp +contextual (maxSteps := 1000000) only [go_sem, ints, intRows, reduceAdd, Nat.reduceBEq, reduceEqDiff, reduceLeDiff, Nat.reduceLT, reduceIte, reduceLE, Int.reduceLT, reduceEq, reduceNeg, reduceToNat, ops, vals, dots, wpC_bl, e0, e3, e36, e37, hmo, hxo, hob, el]
      refine ⟨fun _ => by omega, fun _ => by omega, fun _ => by omega, fun _ => by omega, ?_⟩
      first | refine caS_i (cmpT_ok ⟨0, 0, 0⟩ x.st) trivial ?_ | refine caD_i (cmpT_ok ⟨0, 0, 0⟩ x.st) trivial ?_ | refine gC_i (fun _ => cmpT_ok ⟨0, 0, 0⟩ x.st) trivial ?_ | refine gCD_i (fun _ => cmpT_ok ⟨0, 0, 0⟩ x.st) trivial ?_ | refine caE_i (cmpT_ok ⟨0, 0, 0⟩ x.st) trivial ?_
      simp +contextual (maxSteps := 1000000) only [go_sem, ints, intRows, reduceAdd, Nat.reduceBEq, reduceEqDiff, reduceLeDiff, Nat.reduceLT, reduceIte, reduceLE, Int.reduceLT, reduceEq, reduceNeg, reduceToNat, ops, vals, dots, wpC_bl, e0, e3, e36, e37, hmo, hxo, hob, el, w1]
      rw [hy] at hNi
      refine ⟨fun hb => ⟨by omega, by omega, ⟨by omega, i + 1, rfl, by omega, hyes ?_, fun j h1 h2 => by rw [updO, if_neg (fun e => h2 _ (by rw [e])), hfr3 j h1 h2]⟩, by omega⟩, fun hb => ⟨⟨by omega, i + 1, rfl, by omega, hno ?_, fun j h1 h2 => hfr3 j h1 h2⟩, by omega⟩⟩
      · rw [hNi, if_pos ⟨of_decide_eq_true hb, rfl⟩]
      · rw [hNi, hy, if_neg fun h => by rw [decide_eq_true h.1] at hb; cases hb]
    | some y =>
      have el : lastV (gN Li i) = opN y := by rw [hgi, hy]; rfl
      simp +contextual (maxSteps := 1000000) only [go_sem, ints, intRows, reduceAdd, Nat.reduceBEq, reduceEqDiff, reduceLeDiff, Nat.reduceLT, reduceIte, reduceLE, Int.reduceLT, reduceEq, reduceNeg, reduceToNat, ops, vals, dots, wpC_bl, e0, e3, e36, e37, hmo, hxo, hob, el]
      refine ⟨fun _ => by omega, fun _ => by omega, fun _ => by omega, fun _ => by omega, ?_⟩
      first | refine caS_i (cmpT_ok y.st x.st) trivial ?_ | refine caD_i (cmpT_ok y.st x.st) trivial ?_ | refine gC_i (fun _ => cmpT_ok y.st x.st) trivial ?_ | refine gCD_i (fun _ => cmpT_ok y.st x.st) trivial ?_ | refine caE_i (cmpT_ok y.st x.st) trivial ?_
      simp +contextual (maxSteps := 1000000) only [go_sem, ints, intRows, reduceAdd, Nat.reduceBEq, reduceEqDiff, reduceLeDiff, Nat.reduceLT, reduceIte, reduceLE, Int.reduceLT, reduceEq, reduceNeg, reduceToNat, ops, vals, dots, wpC_bl, e0, e3, e36, e37, hmo, hxo, hob, el, w1]
      rw [hy] at hNi
      refine ⟨fun hb => ⟨by omega, by omega, ⟨by omega, i + 1, rfl, by omega, hyes ?_, fun j h1 h2 => by rw [updO, if_neg (fun e => h2 _ (by rw [e])), hfr3 j h1 h2]⟩, by omega⟩, fun hb => ⟨⟨by omega, i + 1, rfl, by omega, hno ?_, fun j h1 h2 => hfr3 j h1 h2⟩, by omega⟩⟩
      · rw [Bool.and_eq_true] at hb
        rw [hNi, if_pos ⟨of_decide_eq_true hb.1, hb.2⟩]
      · rw [hNi, hy, if_neg fun h => by
          rw [decide_eq_true h.1, Bool.true_and] at hb
          have h2 : (decide (y.kind = 0) || decide (cmpT y.st x.st < 0)) = true := h.2
          rw [hb] at h2; cases h2]
  · simp only [decide_eq_false_iff_not] at hge
    obtain rfl : i = M.last.length := by omega
    rw [List.drop_length, List.append_nil, List.take_of_length_le (by omega)] at hla
    have hdf : ∀ {id len len' : Nat} {v : V} {rows : List (List V)}, Own n2 ob2 v 2 rows → v = .sl id 0 len → laV ≠ .sl id 0 len' := fun {id len len' v rows} ho e => by
      rcases ho with ⟨_, h5⟩ | ⟨_, i, c, _, h5, h6⟩
      · rw [h5] at e; cases e
      · rw [e] at h5; injection h5 with h5
        exact hM.l.ne (h5 ▸ h6) (by omega)
    refine hC inV' outV' ob' _ (by omega) ⟨(hfr3 mid hM.lt fun len => hM.l.ne hm2 (by omega)).trans hm2, ?_, ?_, ?_, hM.d, by have := hM.lt; omega⟩ (fun j h1 h2 h3 h4 h5 => (hfr3 j (by omega) h5).trans (hfr2 j h1 h2 h3 h4)) hin hout
    · exact own_fr hM.i (by omega) fun id h1 h2 => hfr3 id h1 fun len => hdf hM.i h2
    · exact own_fr hM.o (by omega) fun id h1 h2 => hfr3 id h1 fun len => hdf hM.o h2
    · rw [hNL]; exact hla.mono (by omega)
end Go.Proofs.YtbojpedklnmidaaGreat.D
end
