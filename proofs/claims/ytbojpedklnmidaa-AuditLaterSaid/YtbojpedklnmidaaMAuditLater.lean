/- AuditLater, packed. No condition beyond the statement's own. -/
import Derived.Test.YtbojpedklnmidaaMAuditLaterf
import Derived.Test.YtbojpedklnmidaaRows
import Derived.WalkKit
import Derived.ProofKit
import Derived.OpenShut
import Derived.ShutString
import Derived.ChangeOld
import Derived.Below
import Derived.SizedLaws
section
set_option linter.unusedVariables false
set_option linter.unusedSimpArgs false
set_option linter.constructorNameAsVariable false
set_option maxRecDepth 100000

/- An operation behind all others: the walk of the statement. No condition. -/
namespace Go.Proofs.Ytbojpedklnmidaa.D
open Go Go.Proofs

theorem heavyF_len {f : List (List Int)} (hf1 : heavyF f = false) : f.length ≤ 1000 ∧ ∀ c ∈ f, c.length ≤ 1000 := by
  unfold heavyF at hf1
  rw [Bool.or_eq_false_iff] at hf1
  refine ⟨by have := of_decide_eq_false hf1.1; omega, fun c hc => ?_⟩
  have := List.any_eq_false.1 hf1.2 c hc
  simp at this; omega
theorem imp_seen (k : ByteArray) (A : List (List Vl)) (r : List Vl) (nid : Nat) : imp .fz nid (vals (seenF k A) r) = (vals .b r, []) := by
  rcases seenF_bo k A with e | e <;> rw [e] <;> rfl
theorem AMadeX_ok {fl fm : Fl} (n : Int) (f : List (List Int)) (l : List Opx) (rows : List (List V)) (hr : rows.map (fun r => r.map toN1) = l.map opN) (hl : l.length ≤ 200) (hx : ∀ x ∈ l, OkO x ∧ x.dots.length ≤ 100) :
    FnB Try.prog 19 [vi n, tbs fl f, .im fm rows] (.tp [.im .o ((madeT n f l).map fun rows => [.im .b (rows.map fun r => [vals .b r])]), vi (madeE n f l)]) :=
  FnB_weak (AMadeN_ok (fl := fl) (fm := fm) n f l hl hx) ⟨.r _, .r _, by
    have h : FArg toN1 (.im fm rows) (.im fm (rows.map fun r => r.map toN1)) := .i fm rows
    rw [hr] at h; exact h, trivial⟩
theorem res_own {ob : OB} {id m k : Nat} {rows : List (List V)} {c : Option Nat} (h : ob id = some ⟨k, rows, c⟩) : resV ob (m + 1) (.sl id 0 rows.length) = .im .n (rows.map fun r => r.map (resV ob m)) := by
  simp only [resV, rowsOf, h, Option.bind_some]
  rw [if_pos (by simp), List.drop_zero, List.take_of_length_le (by simp)]
theorem map_res_op (ob : OB) (m : Nat) (l : List Opx) : (l.map opV).map (fun r => r.map (resV ob (m + 3))) = l.map opV := by
  rw [List.map_map]; exact List.map_congr_left fun x _ => res_op ob m x
theorem map_toN_op (l : List Opx) : (l.map opV).map (fun r => r.map toN1) = l.map opN := by
  rw [List.map_map]; rfl
theorem app_z {k : Nat} {x : V} {xs : List (List V)} {ob : OB} {i : Nat} (h0 : xs ≠ []) (hx : rowsOf ob x = some xs) (hk : xs.all (okRow k) = true) (hlen : xs.length ≤ maxLen) : opF (.app k) [.z, x] ob i = some (.sl i 0 xs.length, [(i, some ⟨k, xs, none⟩)]) := by
  have hx0 : xs.length ≠ 0 := fun e => h0 (List.eq_nil_of_length_eq_zero e)
  simp only [opF, hx, hk, Option.bind_some, if_true, hx0, if_false]
  rw [if_pos (by simpa using hlen)]
def rowU (t : Int) (k : ByteArray) (dv : V) : List V := [vi 0, vi 1073741824, dv, vi 1099511627776, vi 0, vi 0, vi 2, vi t, .c (.string k), vi 0, .im .b [[vi 1, vi 0, .c (.string ⟨#[]⟩)]], .z]
def rowD (t : Int) (k : ByteArray) (dv : V) : List V := [vi 0, vi 1073741824, dv, vi 1099511627776, vi 0, vi 0, vi 3, vi t, .c (.string k), vi 0, .z, .z]
/-- A row of an operation whose dependencies are told apart. -/
def rowE (y : Opx) (dv : V) : List V := [vi y.dot.p, vi y.dot.n, dv, vi y.st.p, vi y.st.l, vi y.st.q, vi y.kind, vi y.table, .c (.string y.key), vi y.col, vals .b y.vals, dots .b y.dots]
/-- Operations of one's own, their dependencies as well. -/
def OwnY (n : Nat) (ob : OB) (v : V) (D : List Opx) : Prop :=
  ∃ rows, Own n ob v 12 rows ∧ rows.length = D.length ∧ ∀ k, k < D.length → ∃ dv, rows[k]? = some (rowE (gN D k) dv) ∧ Own n ob dv 1 ((gN D k).deps.map fun x => [vi x])
theorem own_res1 {n : Nat} {ob : OB} {v : V} {l : List Int} (h : Own n ob v 1 (l.map fun x => [vi x])) (m : Nat) : toN1 (resV ob (m + 2) v) = ints .n l := by
  rcases h with ⟨h1, rfl⟩ | ⟨_, id, c, _, rfl, h4⟩
  · have : l = [] := by simpa using h1
    subst this; rfl
  · rw [res_own h4, List.map_map]; rfl
theorem OwnY.res {n : Nat} {ob : OB} {v : V} {D : List Opx} (h : OwnY n ob v D) : ∃ rows, rowsOf ob v = some rows ∧ rows.all (okRow 12) = true ∧ rows.length = D.length ∧ ∀ m ob', (∀ id, id < n → ob' id = ob id) → (rows.map (fun r => r.map (resV ob' (m + 2)))).map (fun r => r.map toN1) = D.map opN := by
  obtain ⟨rows, h1, h2, h3⟩ := h
  refine ⟨rows, own_rows h1, ?_, h2, fun m ob' hob => ?_⟩
  · rw [List.all_eq_true]
    intro r hr
    obtain ⟨k, hk, rfl⟩ := List.getElem_of_mem hr
    obtain ⟨dv, q1, q2⟩ := h3 k (by omega)
    rw [List.getElem?_eq_getElem hk] at q1
    rw [Option.some.inj q1]
    have hlf : leaf dv = true := by
      rcases q2 with ⟨_, rfl⟩ | ⟨_, _, _, _, rfl, _⟩ <;> rfl
    unfold rowE okRow
    simp only [List.all_cons, List.all_nil, hlf]; rfl
  · refine List.ext_getElem (by simp [h2]) fun k j1 j2 => ?_
    have hk : k < D.length := by simpa using j2
    obtain ⟨dv, q1, q2⟩ := h3 k hk
    have e := q1
    rw [List.getElem?_eq_getElem (by omega)] at e
    simp only [List.getElem_map]
    rw [Option.some.inj e, ← gN_eq hk]
    have := own_res1 (own_fr (ob' := ob') q2 (Nat.le_refl _) fun id h1 _ => hob id h1) m
    simp only [rowE, List.map_cons, List.map_nil, this]
    simp [opN, toN1, resV, resFl, vals, dots, ints, vlV, dotV, Function.comp_def]
theorem OwnY.fr {n n' : Nat} {ob ob' : OB} {v : V} {D : List Opx} (h : OwnY n ob v D) (hn : n ≤ n') (hf : ∀ j, j < n → ob' j = ob j) : OwnY n' ob' v D := by
  obtain ⟨rows, h1, h2, h3⟩ := h
  refine ⟨rows, own_fr h1 hn fun j hj _ => hf j hj, h2, fun k hk => ?_⟩
  obtain ⟨dv, r1, r2⟩ := h3 k hk
  exact ⟨dv, r1, own_fr r2 hn fun j hj _ => hf j hj⟩
theorem OwnY.app {n n' : Nat} {ob ob' : OB} {v v' dv : V} {D : List Opx} {rows : List (List V)} {y : Opx} (h2 : rows.length = D.length) (h3 : ∀ k, k < D.length → ∃ dv, rows[k]? = some (rowE (gN D k) dv) ∧ Own n ob dv 1 ((gN D k).deps.map fun x => [vi x])) (h1 : Own n ob v 12 rows) (hn : n ≤ n') (hv : Own n' ob' v' 12 (rows ++ [rowE y dv])) (hd : Own n' ob' dv 1 (y.deps.map fun x => [vi x])) (hf : ∀ id, id < n → (∀ len, v ≠ .sl id 0 len) → ob' id = ob id) : OwnY n' ob' v' (D ++ [y]) := by
  refine ⟨_, hv, by simp [h2], fun k hk => ?_⟩
  by_cases hkl : k < D.length
  · obtain ⟨dv, r1, r2⟩ := h3 k hkl
    have e : gN (D ++ [y]) k = gN D k := by rw [gN_eq hk, gN_eq hkl, List.getElem_append_left hkl]
    rw [e]
    refine ⟨dv, by rw [List.getElem?_append_left (by omega), r1], own_fr r2 hn fun id hid e => hf id hid fun len e2 => ?_⟩
    rcases r2 with ⟨q1, q2⟩ | ⟨q1, id2, c, q2, q3, q4⟩
    · rw [e] at q2; cases q2
    · rw [e] at q3; injection q3 with q3
      rcases h1 with ⟨p1, p2⟩ | ⟨p1, id3, c3, p2, p3, p4⟩
      · rw [e2] at p2; cases p2
      · rw [e2] at p3; injection p3 with p3
        rw [← p3, q3, q4] at p4
        simp at p4
  · have hk2 : k = D.length := by simp at hk; omega
    subst hk2
    have e : gN (D ++ [y]) D.length = y := by rw [gN_eq hk]; simp
    rw [e]
    exact ⟨dv, by rw [List.getElem?_append_right (by omega), h2, Nat.sub_self]; rfl, hd⟩
theorem LCheckX_ok (n : Int) (f : List (List Int)) (y : Opx) (row : List V) (hr : row.map toB1 = opV y) (hfl : f.length ≤ 1000) (hcl : ∀ c ∈ f, c.length ≤ 1000) (hv : y.vals.length ≤ maxLen) (hd : y.dots.length ≤ maxLen) : FnB Try.prog 17 [vi n, tbs .b f, .ag row] (vi (checkG n f y)) :=
  FnB_nb (LCheck_ok n f y hfl hcl hv hd) ⟨.r _, .r _, by
    have h : FArg toB1 (.ag row) (.ag (row.map toB1)) := .a row
    rw [hr] at h; exact h, trivial⟩
def depD (n : Int) (p : Nat) : List Int := (List.range n.toNat).map fun q => if 0 < q ∧ q < p then 1073741824 else gN (depU n) q
theorem depD_0 (n : Int) : depD n 0 = depU n := by
  unfold depD
  refine List.ext_getElem (by simp [depU]) fun i h1 h2 => ?_
  rw [List.getElem_map, List.getElem_range, if_neg (by omega), gN_eq h2]
theorem depD_1 (n : Int) : depD n 1 = depU n := by
  unfold depD
  refine List.ext_getElem (by simp [depU]) fun i h1 h2 => ?_
  rw [List.getElem_map, List.getElem_range, if_neg (by omega), gN_eq h2]
theorem depD_s {n : Int} {p : Nat} (h : 0 < p) (hp : p < n.toNat) : (depD n p).set p 1073741824 = depD n (p + 1) := by
  unfold depD
  refine List.ext_getElem (by simp) fun i h1 h2 => ?_
  rw [List.getElem_set]
  simp only [List.getElem_map, List.getElem_range]
  by_cases e : p = i
  · subst e; rw [if_pos rfl, if_pos (by omega)]
  · rw [if_neg e]
    by_cases h3 : 0 < i ∧ i < p
    · rw [if_pos h3, if_pos (by omega)]
    · rw [if_neg h3, if_neg (by omega)]
def delU (n t : Int) (k : ByteArray) (d : Dt) : Opx := ⟨⟨0, 1073741824⟩, depD n n.toNat, ⟨1099511627776, 0, 0⟩, 3, t, k, 0, [], [d]⟩
set_option maxHeartbeats 4000000 in
theorem AuditLater_ok (n : Int) (f : List (List Int)) (l : List Opx) (turn : Int) (hn : ∀ x ∈ l, inI x.dot.n) : FnB Try.prog 7 [vi n, tbs .b f, ops .b l, vi turn] (vb true) := by
  refine fnB_intro cf7 (by simp) ?_
  simp (config := {contextual := true, maxSteps := 1000000}) only [go_sem, ints, intRows, iv_c, Nat.reduceAdd, Nat.reduceBEq, Nat.reduceEqDiff, Nat.reduceLeDiff, Nat.reduceLT, reduceIte, Nat.le_refl, true_or, or_true, and_self, Int.reduceLE, Int.reduceLT, Int.reduceEq, Int.reduceNeg, Int.natCast_nonneg, Int.reduceToNat, ops, vals, dots, c7, tbs]
  first | refine caS_i (HeavyForms_ok f) trivial ?_ | refine caD_i (HeavyForms_ok f) trivial ?_ | refine gC_i (fun _ => HeavyForms_ok f) trivial ?_ | refine gCD_i (fun _ => HeavyForms_ok f) trivial ?_ | refine caE_i (HeavyForms_ok f) trivial ?_
  simp (config := {contextual := true, maxSteps := 1000000}) only [go_sem, ints, intRows, iv_c, Nat.reduceAdd, Nat.reduceBEq, Nat.reduceEqDiff, Nat.reduceLeDiff, Nat.reduceLT, reduceIte, Nat.le_refl, true_or, or_true, and_self, Int.reduceLE, Int.reduceLT, Int.reduceEq, Int.reduceNeg, Int.natCast_nonneg, Int.reduceToNat, ops, vals, dots, tbs]
  first | refine caS_i (HeavyOs_ok l) trivial ?_ | refine caD_i (HeavyOs_ok l) trivial ?_ | refine gC_i (fun _ => HeavyOs_ok l) trivial ?_ | refine gCD_i (fun _ => HeavyOs_ok l) trivial ?_ | refine caE_i (HeavyOs_ok l) trivial ?_
  simp (config := {contextual := true, maxSteps := 1000000}) only [go_sem, ints, intRows, iv_c, Nat.reduceAdd, Nat.reduceBEq, Nat.reduceEqDiff, Nat.reduceLeDiff, Nat.reduceLT, reduceIte, Nat.le_refl, true_or, or_true, and_self, Int.reduceLE, Int.reduceLT, Int.reduceEq, Int.reduceNeg, Int.natCast_nonneg, Int.reduceToNat, ops, vals, dots, tbs]
  refine gC_i (fun h => by
    simp only [Bool.or_eq_false_iff] at h
    exact RForms_ok (fl := .b) f (heavyF_len h.1.1.1.1.1).1 (heavyF_len h.1.1.1.1.1).2) trivial ?_
  simp (config := {contextual := true, maxSteps := 1000000}) only [go_sem, ints, intRows, iv_c, Nat.reduceAdd, Nat.reduceBEq, Nat.reduceEqDiff, Nat.reduceLeDiff, Nat.reduceLT, reduceIte, Nat.le_refl, true_or, or_true, and_self, Int.reduceLE, Int.reduceLT, Int.reduceEq, Int.reduceNeg, Int.natCast_nonneg, Int.reduceToNat, ops, vals, dots, tbs]
  refine fun hb => ?_
  simp only [Bool.or_eq_false_iff, decide_eq_false_iff_not, Bool.not_eq_false', decide_eq_true_eq] at hb
  obtain ⟨⟨⟨⟨⟨⟨hf1, hh1⟩, hl⟩, hl0⟩, hn1⟩, hn5⟩, hf0⟩ := hb
  have hok := heavyOs_ok hh1 hn
  have hfl := heavyF_len hf1
  have hl : l.length ≤ 40 := by omega
  have hl0 : l.length ≠ 0 := by omega
  have hn5 : 1 ≤ n ∧ n ≤ 5 := by omega
  clear hn1
  refine wpC_lp (fun env ob n' => env 0 = vi n ∧ env 1 = tbs .b f ∧ env 2 = ops .b l ∧ env 3 = vi turn ∧ ∃ i : Nat, env 9 = vi i ∧ i ≤ l.length ∧ ∀ j, j < i → checkG n f (gN l j) = 0 ∧ (gN l j).st.p < 1099511627776) (fun env ob _ => (l.length - iv (env 9)).toNat) ?_ ?_
  · simp (config := {contextual := true, maxSteps := 1000000}) only [go_sem, ints, intRows, iv_c, Nat.reduceAdd, Nat.reduceBEq, Nat.reduceEqDiff, Nat.reduceLeDiff, Nat.reduceLT, reduceIte, Nat.le_refl, true_or, or_true, and_self, Int.reduceLE, Int.reduceLT, Int.reduceEq, Int.reduceNeg, Int.natCast_nonneg, Int.reduceToNat, ops, vals, dots, tbs]
    exact ⟨0, rfl, by omega, fun j hj => by omega⟩
  rintro env ob n' ⟨h0, h1, h2, h3, i, h9, hi, he⟩
  have w1 : IntKind.i64.wrap ((i : Int) + 1) = ((i + 1 : Nat) : Int) := by rw [w64 (by omega)]; omega
  simp (config := {contextual := true, maxSteps := 1000000}) only [go_sem, ints, intRows, iv_c, Nat.reduceAdd, Nat.reduceBEq, Nat.reduceEqDiff, Nat.reduceLeDiff, Nat.reduceLT, reduceIte, Nat.le_refl, true_or, or_true, and_self, Int.reduceLE, Int.reduceLT, Int.reduceEq, Int.reduceNeg, Int.natCast_nonneg, Int.reduceToNat, ops, vals, dots, h0, h1, h2, h3, h9, tbs, w1]
  refine ⟨fun hlt => ?_, fun hge => ?_⟩
  · simp only [decide_eq_true_eq] at hlt
    have hxo := hok _ (gN_mem (show i < l.length by omega))
    refine ⟨by omega, ?_⟩
    first | refine caS_i (LCheck_ok n f (gN l i) hfl.1 hfl.2 hxo.v hxo.s) trivial ?_ | refine caD_i (LCheck_ok n f (gN l i) hfl.1 hfl.2 hxo.v hxo.s) trivial ?_ | refine gC_i (fun _ => LCheck_ok n f (gN l i) hfl.1 hfl.2 hxo.v hxo.s) trivial ?_ | refine gCD_i (fun _ => LCheck_ok n f (gN l i) hfl.1 hfl.2 hxo.v hxo.s) trivial ?_ | refine caE_i (LCheck_ok n f (gN l i) hfl.1 hfl.2 hxo.v hxo.s) trivial ?_
    simp (config := {contextual := true, maxSteps := 1000000}) only [go_sem, ints, intRows, iv_c, Nat.reduceAdd, Nat.reduceBEq, Nat.reduceEqDiff, Nat.reduceLeDiff, Nat.reduceLT, reduceIte, Nat.le_refl, true_or, or_true, and_self, Int.reduceLE, Int.reduceLT, Int.reduceEq, Int.reduceNeg, Int.natCast_nonneg, Int.reduceToNat, ops, vals, dots, h0, h1, h2, h3, h9, tbs, w1]
    refine ⟨fun _ => by omega, fun hc => ⟨⟨i + 1, rfl, by omega, fun j hj => ?_⟩, by omega⟩⟩
    have hc0 : checkG n f (gN l i) = 0 ∧ (gN l i).st.p < 1099511627776 := by
      by_cases h : checkG n f (gN l i) = 0
      · rw [decide_eq_true h, if_pos rfl, decide_eq_false_iff_not] at hc
        exact ⟨h, by omega⟩
      · rw [decide_eq_false h] at hc; simp at hc
    by_cases hji : j = i
    · subst hji; exact hc0
    · exact he j (by omega)
  simp only [decide_eq_false_iff_not] at hge
  obtain rfl : i = l.length := by omega
  clear w1 h9 hi
  have hch : ∀ x ∈ l, checkG n f x = 0 ∧ x.st.p < 1099511627776 := fun x hx => by
    obtain ⟨j, hj, rfl⟩ := gN_mem_iff.1 hx
    exact he j hj
  obtain ⟨T, qT1, qT2⟩ := modU turn (k := (l.length : Int)) (by omega)
  have hul : IntKind.u64.wrap (l.length : Int) = (l.length : Int) := u64 (by omega)
  have hm0 : ((l.length : Int) = 0) = False := eq_false (by omega)
  simp (config := {contextual := true, maxSteps := 1000000}) only [go_sem, ints, intRows, iv_c, Nat.reduceAdd, Nat.reduceBEq, Nat.reduceEqDiff, Nat.reduceLeDiff, Nat.reduceLT, reduceIte, Nat.le_refl, true_or, or_true, and_self, Int.reduceLE, Int.reduceLT, Int.reduceEq, Int.reduceNeg, Int.natCast_nonneg, Int.reduceToNat, ops, vals, dots, h0, h1, h2, h3, tbs, hul, hm0, qT1, Nat.add_assoc, beq_add, Nat.zero_add, Nat.add_zero]
  refine ⟨by omega, ?_⟩
  generalize hob1 : updO (updO ob _ _) _ _ = ob1
  have hX : ob1 (n' + 14) = some ⟨12, [opV (gN l T)], none⟩ := by rw [← hob1, updO_s]
  clear hob1
  have hxl := gN_mem (show T < l.length by omega)
  have hxr := (checkG_0 (hch _ hxl).1).2.2
  have htb : 0 ≤ (gN l T).table ∧ (gN l T).table < f.length := by
    unfold rightX at hxr
    rw [Bool.and_eq_true] at hxr
    exact of_decide_eq_true hxr.1
  obtain ⟨t, ht⟩ := Int.eq_ofNat_of_zero_le htb.1
  have htf : t < f.length := by omega
  have htn : (gN l T).table.toNat = t := by omega
  have hxs : ∀ x ∈ l, OkO x ∧ x.dots.length ≤ 100 := fun x hx => ⟨hok x hx, heavyOs_dots hh1 x hx⟩
  have e1 : madeE n f l = 0 := made_0e hf0 hn5 fun x hx => (hch x hx).1
  obtain ⟨g1, g2⟩ := made_at e1
  have hsm := made_small (n := n) (f := f) (l := l) hfl (by omega) fun x hx => (hxs x hx).2
  have hxe : gN l T = gN l T := rfl
  generalize hx : gN l T = x at *
  first | refine caS_i (AMade_ok (fl := .b) (fm := .b) n f l (by omega) hxs) trivial ?_ | refine caD_i (AMade_ok (fl := .b) (fm := .b) n f l (by omega) hxs) trivial ?_ | refine gC_i (fun _ => AMade_ok (fl := .b) (fm := .b) n f l (by omega) hxs) trivial ?_ | refine gCD_i (fun _ => AMade_ok (fl := .b) (fm := .b) n f l (by omega) hxs) trivial ?_ | refine caE_i (AMade_ok (fl := .b) (fm := .b) n f l (by omega) hxs) trivial ?_
  simp (config := {contextual := true, maxSteps := 1000000}) only [go_sem, ints, intRows, iv_c, Nat.reduceAdd, Nat.reduceBEq, Nat.reduceEqDiff, Nat.reduceLeDiff, Nat.reduceLT, reduceIte, Nat.le_refl, true_or, or_true, and_self, Int.reduceLE, Int.reduceLT, Int.reduceEq, Int.reduceNeg, Int.natCast_nonneg, Int.reduceToNat, ops, vals, dots, h0, h1, h2, h3, tbs, e1, g1, hX, Nat.add_assoc, beq_add, Nat.zero_add, Nat.add_zero, ht]
  have hAl : (gN (madeT n f l) t).length ≤ maxLen := (hsm.2 _ (gN_mem (by omega))).1
  refine ⟨by omega, ?_⟩
  refine caD_i (Seen26_ok (fl := .b) (gN (madeT n f l) t) x.key hAl) trivial ?_
  rw [imp_seen]
  generalize hr0 : seenR x.key (gN (madeT n f l) t) = r0
  simp (config := {contextual := true, maxSteps := 1000000}) only [go_sem, ints, intRows, iv_c, Nat.reduceAdd, Nat.reduceBEq, Nat.reduceEqDiff, Nat.reduceLeDiff, Nat.reduceLT, reduceIte, Nat.le_refl, true_or, or_true, and_self, Int.reduceLE, Int.reduceLT, Int.reduceEq, Int.reduceNeg, Int.natCast_nonneg, Int.reduceToNat, ops, vals, dots, h0, h1, h2, h3, tbs, e1, g1, hX, Nat.add_assoc, beq_add, Nat.zero_add, Nat.add_zero, ht]
  have hrep : (List.replicate n.toNat (0 : Int)).set 0 1073741823 = depU n := rfl
  refine ⟨⟨by omega, by unfold maxLen; omega⟩, by omega, by simp; omega, ?_⟩
  generalize hob2 : updO (updO (updO (updO ob1 _ _) _ _) _ _) _ _ = ob2
  have hX2 : ob2 (n' + 14) = some ⟨12, [opV x], none⟩ := by rw [← hob2, updO, if_neg (by omega), updO, if_neg (by omega), updO, if_neg (by omega), updO, if_neg (by omega), hX]
  have hU2 : ob2 (n' + 54) = some ⟨12, [rowU t x.key (.sl (n' + 45) 0 n.toNat)], none⟩ := by
    rw [← hob2, updO, if_neg (by omega), updO_s]; simp [rowU]
  have hD2 : ob2 (n' + 45) = some ⟨1, (depU n).map fun x => [vi x], none⟩ := by rw [← hob2, updO_s, hrep]
  clear hob2
  rw [app_z (xs := l.map opV) (by simpa using fun h => hl0 (by rw [h]; rfl)) rfl (allOps l) (by simp [maxLen]; omega), nxE_s]
  refine ⟨by simp [sepL, sepAt, sepE], ?_⟩
  generalize hob3 : apps ob2 [_] = ob3
  have hO3 : ob3 (n' + 77) = some ⟨12, l.map opV, none⟩ := by rw [← hob3]; exact updO_s _ _ _
  have hX3 : ob3 (n' + 14) = some ⟨12, [opV x], none⟩ := by rw [← hob3]; exact (if_neg (by omega)).trans hX2
  have hU3 : ob3 (n' + 54) = some ⟨12, [rowU t x.key (.sl (n' + 45) 0 n.toNat)], none⟩ := by rw [← hob3]; exact (if_neg (by omega)).trans hU2
  have hD3 : ob3 (n' + 45) = some ⟨1, (depU n).map fun x => [vi x], none⟩ := by rw [← hob3]; exact (if_neg (by omega)).trans hD2
  clear hob3 hX2 hU2 hD2
  simp (config := {contextual := true, maxSteps := 1000000}) only [go_sem, ints, intRows, iv_c, Nat.reduceAdd, Nat.reduceBEq, Nat.reduceEqDiff, Nat.reduceLeDiff, Nat.reduceLT, reduceIte, Nat.le_refl, true_or, or_true, and_self, Int.reduceLE, Int.reduceLT, Int.reduceEq, Int.reduceNeg, Int.natCast_nonneg, Int.reduceToNat, ops, vals, dots, h0, h1, h2, h3, tbs, hU3, rowU, Nat.add_assoc, beq_add, Nat.zero_add, Nat.add_zero, ht, tch]
  have h77 : n' + 77 ≠ n' + 54 := by omega
  refine ⟨?sep, ?_⟩
  case sep => exact h77
  rw [op_bsl_r (k := 12) _ _ ?hz ?hk]
  case hz => rfl
  case hk => rfl
  simp (config := {contextual := true, maxSteps := 1000000}) only [go_sem, ints, intRows, iv_c, Nat.reduceAdd, Nat.reduceBEq, Nat.reduceEqDiff, Nat.reduceLeDiff, Nat.reduceLT, reduceIte, Nat.le_refl, true_or, or_true, and_self, Int.reduceLE, Int.reduceLT, Int.reduceEq, Int.reduceNeg, Int.natCast_nonneg, Int.reduceToNat, ops, vals, dots, h0, h1, h2, h3, tbs, hU3, rowU, Nat.add_assoc, beq_add, Nat.zero_add, Nat.add_zero, ht]
  rw [show ([[vi 0, vi 1073741824, V.sl (n' + 45) 0 n.toNat, vi 1099511627776, vi 0, vi 0, vi 2, vi t, .c (.string x.key), vi 0, .im .b [[vi 1, vi 0, .c (.string ⟨#[]⟩)]], .z]] : List (List V)) = [rowU t x.key (.sl (n' + 45) 0 n.toNat)] from rfl]
  obtain ⟨us, u1, u2, u3⟩ := app_new (k := 12) (nid := n' + 80) (x := .im .b [rowU t x.key (.sl (n' + 45) 0 n.toNat)]) (.inr ⟨n' + 77, none, by rw [List.length_map], hO3⟩) (by simp) rfl rfl (by simp [maxLen]; omega)
  rw [u1, nxE_s]
  refine ⟨by simp [sepL, sepAt, sepE], ?_⟩
  generalize apps ob3 us = ob4 at *
  have hX4 := (u3 (n' + 14) (by omega) fun len e => by injection e; omega).trans hX3
  have hU4 := (u3 (n' + 54) (by omega) fun len e => by injection e; omega).trans hU3
  have hD4 := (u3 (n' + 45) (by omega) fun len e => by injection e; omega).trans hD3
  clear u1 u3 hX3 hU3 hD3 hO3
  have hdl : (depU n).length = n.toNat := by simp [depU]
  have rD : ∀ m, resV ob4 (m + 2) (.sl (n' + 45) 0 n.toNat) = ints .n (depU n) := fun m => by
    have := res_own (m := m + 1) hD4
    rw [List.length_map, hdl] at this
    rw [this, List.map_map]; rfl
  have r4 : resV ob4 6 (.sl (n' + 80) 0 ((l.map opV).length + [rowU t x.key (.sl (n' + 45) 0 n.toNat)].length)) = .im .n (l.map opV ++ [[vi 0, vi 1073741824, ints .n (depU n), vi 1099511627776, vi 0, vi 0, vi 2, vi t, .c (.string x.key), vi 0, .im .b [[vi 1, vi 0, .c (.string ⟨#[]⟩)]], .im .b []]]) := by
    rw [← List.length_append, res_own u2, List.map_append, map_res_op]
    simp only [rowU, List.map_cons, List.map_nil, rD 3]
    rfl
  have r4' := r4
  simp only [go_sem, List.length_map, List.length_cons, List.length_nil, Nat.zero_add, List.drop_zero] at r4'
  have hxs2 : ∀ y ∈ l ++ [updU n t x.key], OkO y ∧ y.dots.length ≤ 100 := fun y hy => by
    rcases List.mem_append.1 hy with h | h
    · exact hxs y h
    · rw [List.mem_singleton.1 h]
      refine ⟨⟨?_, ?_, ?_, ?_⟩, ?_⟩
      · show (depU n).length ≤ maxLen; rw [hdl]; unfold maxLen; omega
      · simp [updU, maxLen]
      · simp [updU, maxLen]
      · simp [updU, inI]
      · simp [updU]
  have e2 : madeE n f (l ++ [updU n t x.key]) = 0 := by
    unfold madeE
    rw [if_neg (by rw [hf0]; simp), if_neg (by omega), if_pos]
    rw [List.all_eq_true]
    intro y hy
    rcases List.mem_append.1 hy with h | h
    · exact (checkG_0 (hch y h).1).2.2
    · rw [List.mem_singleton.1 h, ← ht]; exact updU_right hn5 hxr hf0
  have hsm2 := made_small (n := n) (f := f) (l := l ++ [updU n t x.key]) hfl (by simp; omega) fun x hx => (hxs2 x hx).2
  obtain ⟨g3, g4⟩ := made_at e2
  simp (config := {contextual := true, maxSteps := 1000000}) only [go_sem, ints, intRows, iv_c, Nat.reduceAdd, Nat.reduceBEq, Nat.reduceEqDiff, Nat.reduceLeDiff, Nat.reduceLT, reduceIte, Nat.le_refl, true_or, or_true, and_self, Int.reduceLE, Int.reduceLT, Int.reduceEq, Int.reduceNeg, Int.natCast_nonneg, Int.reduceToNat, ops, vals, dots, h0, h1, h2, h3, tbs]
  rw [r4']
  first | refine caS_i (AMadeX_ok (fl := .b) (fm := .n) n f (l ++ [updU n t x.key]) _ (by rw [List.map_append, map_toN_op, List.map_append]; rfl) (by simp; omega) hxs2) trivial ?_ | refine caD_i (AMadeX_ok (fl := .b) (fm := .n) n f (l ++ [updU n t x.key]) _ (by rw [List.map_append, map_toN_op, List.map_append]; rfl) (by simp; omega) hxs2) trivial ?_ | refine gC_i (fun _ => AMadeX_ok (fl := .b) (fm := .n) n f (l ++ [updU n t x.key]) _ (by rw [List.map_append, map_toN_op, List.map_append]; rfl) (by simp; omega) hxs2) trivial ?_ | refine gCD_i (fun _ => AMadeX_ok (fl := .b) (fm := .n) n f (l ++ [updU n t x.key]) _ (by rw [List.map_append, map_toN_op, List.map_append]; rfl) (by simp; omega) hxs2) trivial ?_ | refine caE_i (AMadeX_ok (fl := .b) (fm := .n) n f (l ++ [updU n t x.key]) _ (by rw [List.map_append, map_toN_op, List.map_append]; rfl) (by simp; omega) hxs2) trivial ?_
  simp (config := {contextual := true, maxSteps := 1000000}) only [go_sem, ints, intRows, iv_c, Nat.reduceAdd, Nat.reduceBEq, Nat.reduceEqDiff, Nat.reduceLeDiff, Nat.reduceLT, reduceIte, Nat.le_refl, true_or, or_true, and_self, Int.reduceLE, Int.reduceLT, Int.reduceEq, Int.reduceNeg, Int.natCast_nonneg, Int.reduceToNat, ops, vals, dots, h0, h1, h2, h3, tbs, e2, g3, hX4, ht, Nat.add_assoc, beq_add, Nat.zero_add, Nat.add_zero]
  have hAl2 : (gN (madeT n f (l ++ [updU n t x.key])) t).length ≤ maxLen := (hsm2.2 _ (gN_mem (by omega))).1
  refine ⟨by omega, ?_⟩
  refine caD_i (Seen26_ok (fl := .b) (gN (madeT n f (l ++ [updU n t x.key])) t) x.key hAl2) trivial ?_
  rw [imp_seen]
  generalize hr1 : seenR x.key (gN (madeT n f (l ++ [updU n t x.key])) t) = r1
  have hcase : (r0 = [] ∧ r1 = []) ∨ (seeK (mdesS f l t) x.key = some r0 ∧ r1.length = r0.length ∧ 2 ≤ r1.length ∧ (gN r1 1).k = 1 ∧ r1.drop 2 = r0.drop 2) := by
    rw [g2 t htf, seenR_at (mdes_keys f l t).1] at hr0
    rw [g4 t htf, seenR_at (mdes_keys f _ t).1] at hr1
    have hx0 : ofK l t x.key ≠ [] := List.ne_nil_of_mem (mem_ofK.2 ⟨hxl, ht, rfl⟩)
    rcases later_upd (n := n) hx0 ((formsG_cols hf0).2 _ (gN_mem htf)).1 (fun y hy => (hch y hy).2) with ⟨s1, s2⟩ | ⟨r, r', s1, s2, s3, s4, s5, s6⟩
    · rw [s1] at hr0; rw [s2] at hr1
      exact .inl ⟨hr0.symm, hr1.symm⟩
    · rw [s1] at hr0; rw [s2] at hr1
      have q0 : r = r0 := hr0
      have q1 : r' = r1 := hr1
      subst q0; subst q1
      exact .inr ⟨s1, s3, s4, s5, s6⟩
  have hr0l : r0.length ≤ maxLen := by
    rcases hcase with ⟨q, _⟩ | ⟨q, _⟩
    · rw [q]; exact Nat.zero_le _
    · obtain ⟨M, hM, _, _, q3⟩ := (seek_head q).2.2
      have q4 : r0 ∈ seenM (mdesS f l t) := by
        have := seen_filter (mdes_keys f l t).1 x.key
        rw [q] at this
        exact (List.mem_filter.1 (by rw [this]; simp : r0 ∈ (seenM (mdesS f l t)).filter (headK x.key))).1
      rw [← g2 t htf] at q4
      exact (hsm.2 _ (gN_mem (by omega))).2 _ q4
  clear g4 hAl2 hsm2 e2 hxs2 r4 r4' u2 hr1
  simp (config := {contextual := true, maxSteps := 1000000}) only [go_sem, ints, intRows, iv_c, Nat.reduceAdd, Nat.reduceBEq, Nat.reduceEqDiff, Nat.reduceLeDiff, Nat.reduceLT, reduceIte, Nat.le_refl, true_or, or_true, and_self, Int.reduceLE, Int.reduceLT, Int.reduceEq, Int.reduceNeg, Int.natCast_nonneg, Int.reduceToNat, ops, vals, dots, h0, h1, h2, h3, tbs, hX4, ht, Nat.add_assoc, beq_add, Nat.zero_add, Nat.add_zero]
  refine ⟨fun hz => ?_, fun hz => ?_⟩
  · have h00 : r1.length = 0 := by
      rcases hcase with ⟨_, q⟩ | ⟨_, q1, q2, _⟩
      · rw [q]; rfl
      · simp at hz; rw [hz] at q1; simp at q1; rw [q1] at q2; simp at q2
    simp (config := {contextual := true, maxSteps := 1000000}) only [go_sem, ints, intRows, iv_c, Nat.reduceAdd, Nat.reduceBEq, Nat.reduceEqDiff, Nat.reduceLeDiff, Nat.reduceLT, reduceIte, Nat.le_refl, true_or, or_true, and_self, Int.reduceLE, Int.reduceLT, Int.reduceEq, Int.reduceNeg, Int.natCast_nonneg, Int.reduceToNat, ops, vals, dots, h00]
    first | refine caS_i (wakes26_ok) trivial ?_ | refine caD_i (wakes26_ok) trivial ?_ | refine gC_i (fun _ => wakes26_ok) trivial ?_ | refine gCD_i (fun _ => wakes26_ok) trivial ?_ | refine caE_i (wakes26_ok) trivial ?_
    simp (config := {contextual := true, maxSteps := 1000000}) only [go_sem, ints, intRows, iv_c, Nat.reduceAdd, Nat.reduceBEq, Nat.reduceEqDiff, Nat.reduceLeDiff, Nat.reduceLT, reduceIte, Nat.le_refl, true_or, or_true, and_self, Int.reduceLE, Int.reduceLT, Int.reduceEq, Int.reduceNeg, Int.natCast_nonneg, Int.reduceToNat, ops, vals, dots]
  have hcase := hcase.resolve_left fun ⟨q, _⟩ => by rw [q] at hz; simp at hz
  obtain ⟨s1, s2, s3, s4, s5⟩ := hcase
  have s6 : ((r0.length : Int) < 2) = False := eq_false (by omega)
  simp (config := {contextual := true, maxSteps := 1000000}) only [go_sem, ints, intRows, iv_c, Nat.reduceAdd, Nat.reduceBEq, Nat.reduceEqDiff, Nat.reduceLeDiff, Nat.reduceLT, reduceIte, Nat.le_refl, true_or, or_true, and_self, Int.reduceLE, Int.reduceLT, Int.reduceEq, Int.reduceNeg, Int.natCast_nonneg, Int.reduceToNat, ops, vals, dots, s2, s4, s5, s6]
  have hv2 : ∀ (r : List Vl), List.map (fun r => List.map (resV ob4 5) r) (List.drop 2 (List.map vlV r)) = (r.drop 2).map vlV := fun r => by
    rw [← List.map_drop, List.map_map]; rfl
  have hvl : ∀ (r : List Vl), ∀ ch ∈ List.map vlV r, ch.length = 3 := fun r ch hch => by obtain ⟨_, _, rfl⟩ := List.mem_map.1 hch; rfl
  refine ⟨by omega, fun _ => ⟨by simp, hvl r1, by omega, by omega⟩, fun _ => ⟨by simp, hvl r0, by omega, by omega⟩, ?_⟩
  rw [hv2, hv2, s5]
  refine gCD_i (fun _ => KRow_ok (fl := .b) (fm := .b) (r0.drop 2) (r0.drop 2) (by rw [List.length_drop]; omega)) trivial ?_
  have hse : sameL eqV (r0.drop 2) (r0.drop 2) = true := sameL_refl (fun x => by simp [eqV]) _
  rw [hse]
  simp (config := {contextual := true, maxSteps := 1000000}) only [go_sem, ints, intRows, iv_c, Nat.reduceAdd, Nat.reduceBEq, Nat.reduceEqDiff, Nat.reduceLeDiff, Nat.reduceLT, reduceIte, Nat.le_refl, true_or, or_true, and_self, Int.reduceLE, Int.reduceLT, Int.reduceEq, Int.reduceNeg, Int.natCast_nonneg, Int.reduceToNat, ops, vals, dots, h0, h1, h2, h3, tbs, hX4, hU4, rowU, ht, Nat.add_assoc, beq_add, Nat.zero_add, Nat.add_zero]
  refine ⟨fun h => by simp at h, fun _ => ?_⟩
  generalize hob5 : updO (updO ob4 _ _) _ _ = ob5
  have hX5 : ob5 (n' + 14) = some ⟨12, [opV x], none⟩ := by rw [← hob5, updO, if_neg (by omega), updO, if_neg (by omega), hX4]
  have hD5 : ob5 (n' + 45) = some ⟨1, (depU n).map fun x => [vi x], none⟩ := by rw [← hob5, updO, if_neg (by omega), updO, if_neg (by omega), hD4]
  have hQ5 : ob5 (n' + 144) = some ⟨12, [rowD t x.key (.sl (n' + 45) 0 n.toNat)], none⟩ := by rw [← hob5, updO_s]; rfl
  clear hob5 hX4 hU4 hD4 rD hv2 hcase
  refine wpC_lp (fun env ob n2 => env 0 = vi n ∧ env 1 = tbs .b f ∧ env 2 = ops .b l ∧ env 10 = .pt (n' + 14) 0 0 ∧ env 17 = .pt (n' + 144) 0 0 ∧ env 11 = valTabs .b (madeT n f l) ∧ n' + 148 ≤ n2 ∧ ob (n' + 14) = some ⟨12, [opV x], none⟩ ∧ ob (n' + 45) = some ⟨1, (depU n).map fun x => [vi x], none⟩ ∧ ob (n' + 144) = some ⟨12, [rowD t x.key (.sl (n' + 45) 0 n.toNat)], none⟩ ∧ ∃ (i : Nat) (D : List Opx), env 19 = vi i ∧ i ≤ l.length ∧ OwnY n2 ob (env 18) D ∧ (∀ id len, env 18 = .sl id 0 len → n' + 148 ≤ id) ∧ D.length ≤ i ∧ (∀ y ∈ D, (∃ d, y = delU n t x.key d) ∧ checkG n f y = 0) ∧ ∀ j, j < i → (gN l j).kind = 1 → (gN l j).table = t → (gN l j).key = x.key → ∃ y ∈ D, (gN l j).dot ∈ y.dots) (fun env ob _ => (l.length - iv (env 19)).toNat) ?_ ?_
  · simp (config := {contextual := true, maxSteps := 1000000}) only [go_sem, ints, intRows, iv_c, Nat.reduceAdd, Nat.reduceBEq, Nat.reduceEqDiff, Nat.reduceLeDiff, Nat.reduceLT, reduceIte, Nat.le_refl, true_or, or_true, and_self, Int.reduceLE, Int.reduceLT, Int.reduceEq, Int.reduceNeg, Int.natCast_nonneg, Int.reduceToNat, ops, vals, dots, h0, h1, h2, h3, tbs, valTabs, valRows]
    exact ⟨hX5, hD5, hQ5, 0, [], rfl, by omega, ⟨[], Own.nil, rfl, fun k hk => by simp at hk⟩, fun id len e => (by cases e), by simp, fun y hy => (by cases hy), fun j hj => by omega⟩
  clear h0 h1 h2 h3 env
  rintro env ob n2 ⟨h0, h1, h2, h10, h17, h11, hn2, hX, hD, hQ, i, D, h19, hi, hO, hid, hDl, hDa, he⟩
  have w1 : IntKind.i64.wrap ((i : Int) + 1) = ((i + 1 : Nat) : Int) := by rw [w64 (by omega)]; omega
  simp (config := {contextual := true, maxSteps := 1000000}) only [go_sem, ints, intRows, iv_c, Nat.reduceAdd, Nat.reduceBEq, Nat.reduceEqDiff, Nat.reduceLeDiff, Nat.reduceLT, reduceIte, Nat.le_refl, true_or, or_true, and_self, Int.reduceLE, Int.reduceLT, Int.reduceEq, Int.reduceNeg, Int.natCast_nonneg, Int.reduceToNat, ops, vals, dots, h0, h1, h2, h10, h17, h11, h19, hX, hQ, tbs, valTabs, valRows, w1, eqStr, ht, rowD, Nat.add_assoc, beq_add, Nat.zero_add, Nat.add_zero]
  refine ⟨fun hlt => ?_, fun hge => ?_⟩
  · simp only [decide_eq_true_eq] at hlt
    refine ⟨by omega, fun _ => by omega, fun _ => by omega, fun hc => ?_, fun hc => ?_⟩
    · have hdn : depU n ≠ [] := fun e => by rw [e] at hdl; simp at hdl; omega
      refine rcS_i (TwinOp0_ok (deps := depU n) (fl := .n) (by rw [hdl]; unfold maxLen; omega) hdn rfl (fun ob' h => ?_) fun v' ob6 n3 hn3 hov hvid hfr => ?_)
      · have := res_own (m := 5) ((h (n' + 45) (by omega)).trans hD)
        rw [List.length_map, hdl] at this
        rw [this, List.map_map]; rfl
      obtain ⟨W, cW, hW1, rfl, hW2⟩ : ∃ W c, W < n3 ∧ v' = .sl W 0 n.toNat ∧ ob6 W = some ⟨1, (depU n).map fun x => [vi x], c⟩ := by
        rcases hov with ⟨h, _⟩ | ⟨_, W, c, q1, q2, q3⟩
        · exact (hdn (by simpa using h)).elim
        · rw [List.length_map, hdl] at q2; exact ⟨W, c, q1, q2, q3⟩
      have hW3 := hvid _ _ rfl
      have hX6 := (hfr (n' + 14) (by omega)).trans hX
      have hD6 := (hfr (n' + 45) (by omega)).trans hD
      have hQ6 := (hfr (n' + 144) (by omega)).trans hQ
      simp (config := {contextual := true, maxSteps := 1000000}) only [go_sem, ints, intRows, iv_c, Nat.reduceAdd, Nat.reduceBEq, Nat.reduceEqDiff, Nat.reduceLeDiff, Nat.reduceLT, reduceIte, Nat.le_refl, true_or, or_true, and_self, Int.reduceLE, Int.reduceLT, Int.reduceEq, Int.reduceNeg, Int.natCast_nonneg, Int.reduceToNat, ops, vals, dots, h0, h1, h2, h10, h17, h11, h19, hX6, hQ6, tbs, w1, Nat.add_assoc, beq_add, Nat.zero_add, Nat.add_zero]
      refine ⟨by omega, ?_⟩
      generalize hob7 : updO (updO (updO ob6 _ _) _ _) _ _ = ob7
      have hY7 : ob7 n3 = some ⟨12, [rowE (delU n t x.key (gN l i).dot) (.sl W 0 n.toNat)], none⟩ := by rw [← hob7, updO_s]; rfl
      have hW7 : ob7 W = some ⟨1, (depD n 0).map fun x => [vi x], cW⟩ := by rw [← hob7, updO, if_neg (by omega), updO, if_neg (by omega), updO, if_neg (by omega), hW2, depD_0]
      have hfr7 : ∀ j, j < n2 → ob7 j = ob j := fun j hj => by rw [← hob7, updO, if_neg (by omega), updO, if_neg (by omega), updO, if_neg (by omega), hfr j (by omega)]
      clear hob7 hX6 hD6 hQ6 hfr hW2
      refine wpC_lp (fun env' ob' n4 => env' 0 = vi n ∧ env' 1 = tbs .b f ∧ env' 2 = ops .b l ∧ env' 10 = .pt (n' + 14) 0 0 ∧ env' 17 = .pt (n' + 144) 0 0 ∧ env' 11 = valTabs .b (madeT n f l) ∧ env' 18 = env 18 ∧ env' 19 = vi i ∧ env' 20 = .pt n3 0 0 ∧ n3 + 11 ≤ n4 ∧ (∀ j, j < n2 → ob' j = ob j) ∧ ob' n3 = some ⟨12, [rowE (delU n t x.key (gN l i).dot) (.sl W 0 n.toNat)], none⟩ ∧ ∃ p : Nat, env' 21 = vi p ∧ p ≤ n.toNat ∧ ob' W = some ⟨1, (depD n p).map fun x => [vi x], cW⟩) (fun env' _ _ => (n.toNat - iv (env' 21)).toNat) ?_ ?_
      · simp (config := {contextual := true, maxSteps := 1000000}) only [go_sem, ints, intRows, iv_c, Nat.reduceAdd, Nat.reduceBEq, Nat.reduceEqDiff, Nat.reduceLeDiff, Nat.reduceLT, reduceIte, Nat.le_refl, true_or, or_true, and_self, Int.reduceLE, Int.reduceLT, Int.reduceEq, Int.reduceNeg, Int.natCast_nonneg, Int.reduceToNat, ops, vals, dots, h0, h1, h2, h10, h17, h11, h19, tbs, valTabs, valRows]
        exact ⟨hfr7, hY7, 0, rfl, by omega, hW7⟩
      clear hY7 hW7 hfr7 ob7
      rintro env' ob7 n4 ⟨k0, k1, k2, k10, k17, k11, k18, k19, k20, hn4, hfr7, hY7, p, k21, hp, hW7⟩
      have w2 : IntKind.i64.wrap ((p : Int) + 1) = ((p + 1 : Nat) : Int) := by rw [w64 (by omega)]; omega
      have hX7 := (hfr7 (n' + 14) (by omega)).trans hX
      have hdpl : (depD n p).length = n.toNat := by simp [depD]
      simp (config := {contextual := true, maxSteps := 1000000}) only [go_sem, ints, intRows, iv_c, Nat.reduceAdd, Nat.reduceBEq, Nat.reduceEqDiff, Nat.reduceLeDiff, Nat.reduceLT, reduceIte, Nat.le_refl, true_or, or_true, and_self, Int.reduceLE, Int.reduceLT, Int.reduceEq, Int.reduceNeg, Int.natCast_nonneg, Int.reduceToNat, ops, vals, dots, k0, k1, k2, k10, k17, k11, k18, k19, k20, k21, hX7, hY7, hW7, hdpl, tbs, w1, w2, rowE, Nat.add_assoc, beq_add, Nat.zero_add, Nat.add_zero]
      refine ⟨fun hpl => ⟨fun hp0 => ⟨by simp at hpl; omega, by simp at hpl; omega, ⟨by omega, fun j hj => by rw [updO, if_neg (by omega)]; exact hfr7 j hj, ?_, p + 1, rfl, by simp at hpl; omega, ?_⟩, by simp at hpl; omega⟩, fun hp0 => ⟨⟨by omega, hfr7, p + 1, rfl, by simp at hpl; omega, ?_⟩, by simp at hpl; omega⟩⟩, fun hpl => ?_⟩
      · rw [updO, if_neg (by omega), hY7]; rfl
      · simp at hpl hp0
        rw [depD_s hp0 (by omega)]
      · simp at hp0
        subst hp0
        rw [depD_0, depD_1]
      simp only [decide_eq_false_iff_not] at hpl
      obtain rfl : p = n.toNat := by omega
      have hrow : List.map (fun r => List.map (resV ob7 4) r) (List.take n.toNat (List.map (fun x => [vi x]) (depD n n.toNat))) = (depD n n.toNat).map fun x => [vi x] := by
        rw [List.take_of_length_le (by simp [hdpl]), List.map_map]; rfl
      rw [hrow]
      generalize hy : delU n t x.key (gN l i).dot = y at *
      refine caS_i (LCheckX_ok n f y _ (by rw [← hy]; rfl) hfl.1 hfl.2 (by rw [← hy]; simp [delU, maxLen]) (by rw [← hy]; simp [delU, maxLen])) trivial ?_
      simp (config := {contextual := true, maxSteps := 1000000}) only [go_sem, ints, intRows, iv_c, Nat.reduceAdd, Nat.reduceBEq, Nat.reduceEqDiff, Nat.reduceLeDiff, Nat.reduceLT, reduceIte, Nat.le_refl, true_or, or_true, and_self, Int.reduceLE, Int.reduceLT, Int.reduceEq, Int.reduceNeg, Int.natCast_nonneg, Int.reduceToNat, ops, vals, dots, k0, k1, k2, k10, k17, k11, k18, k19, k20, k21, hX7, hY7, hW7, hdpl, tbs, w1, w2, rowE, Nat.add_assoc, beq_add, Nat.zero_add, Nat.add_zero]
      refine ⟨fun hne => ?_, fun hck => ?_⟩
      · first | refine caS_i (wakes26_ok) trivial ?_ | refine caD_i (wakes26_ok) trivial ?_ | refine gC_i (fun _ => wakes26_ok) trivial ?_ | refine gCD_i (fun _ => wakes26_ok) trivial ?_ | refine caE_i (wakes26_ok) trivial ?_
        simp (config := {contextual := true, maxSteps := 1000000}) only [go_sem, ints, intRows, iv_c, Nat.reduceAdd, Nat.reduceBEq, Nat.reduceEqDiff, Nat.reduceLeDiff, Nat.reduceLT, reduceIte, Nat.le_refl, true_or, or_true, and_self, Int.reduceLE, Int.reduceLT, Int.reduceEq, Int.reduceNeg, Int.natCast_nonneg, Int.reduceToNat, ops, vals, dots]
      have hck0 : checkG n f y = 0 := by simpa using hck
      rw [op_bsl_r (k := 12) _ _ ?hz ?hk]
      case hz => rfl
      case hk => rfl
      obtain ⟨rows, ho1, ho2, ho3⟩ := hO
      have ho1' : Own n2 ob7 (env 18) 12 rows := own_fr ho1 (Nat.le_refl _) fun j hj _ => hfr7 j hj
      have hlt18 : ∀ id len, env 18 = .sl id 0 len → id < n2 := fun id len e => by
        rcases ho1 with ⟨_, q⟩ | ⟨_, id2, c, q1, q2, _⟩
        · rw [e] at q; cases q
        · rw [e] at q2; injection q2 with q2; omega
      simp (config := {contextual := true, maxSteps := 1000000}) only [go_sem, ints, intRows, iv_c, Nat.reduceAdd, Nat.reduceBEq, Nat.reduceEqDiff, Nat.reduceLeDiff, Nat.reduceLT, reduceIte, Nat.le_refl, true_or, or_true, and_self, Int.reduceLE, Int.reduceLT, Int.reduceEq, Int.reduceNeg, Int.natCast_nonneg, Int.reduceToNat, ops, vals, dots, k18]
      refine nxS_any (xs := [rowE y (.sl W 0 n.toNat)]) ho1' (by omega) rfl rfl (by rw [ho2]; simp; unfold maxLen; omega) fun v8 ob8 u2 u3 u4 => ?_
      have hX8 := (u3 (n' + 14) (by omega) fun len e => by have := hid _ _ e; omega).trans hX7
      have hD8 := (u3 (n' + 45) (by omega) fun len e => by have := hid _ _ e; omega).trans ((hfr7 (n' + 45) (by omega)).trans hD)
      have hQ8 := (u3 (n' + 144) (by omega) fun len e => by have := hid _ _ e; omega).trans ((hfr7 (n' + 144) (by omega)).trans hQ)
      have hW8 := (u3 W (by omega) fun len e => by have := hlt18 _ _ e; omega).trans hW7
      simp (config := {contextual := true, maxSteps := 1000000}) only [go_sem, ints, intRows, iv_c, Nat.reduceAdd, Nat.reduceBEq, Nat.reduceEqDiff, Nat.reduceLeDiff, Nat.reduceLT, reduceIte, Nat.le_refl, true_or, or_true, and_self, Int.reduceLE, Int.reduceLT, Int.reduceEq, Int.reduceNeg, Int.natCast_nonneg, Int.reduceToNat, ops, vals, dots, k0, k1, k2, k10, k17, k11, k18, k19, k20, k21, hX8, hQ8, hD8, tbs, w1, w2, rowE, rowD, valTabs, valRows, Nat.add_assoc, beq_add, Nat.zero_add, Nat.add_zero]
      have hyd : y.dots = [(gN l i).dot] := by rw [← hy]; rfl
      have hydep : y.deps = depD n n.toNat := by rw [← hy]; rfl
      have hWn : Own (n4 + 16) ob8 (.sl W 0 n.toNat) 1 (y.deps.map fun x => [vi x]) := by
        rw [hydep]
        exact .inr ⟨fun e => by have := congrArg List.length e; rw [List.length_map, hdpl] at this; simp at this; omega, W, cW, by omega, by rw [List.length_map, hdpl], hW8⟩
      refine ⟨⟨by omega, i + 1, D ++ [y], rfl, by omega, OwnY.app (n := n2) (ob := ob7) ho2 (fun k hk => ?_) ho1' (by omega) (u2.mono (by omega)) hWn (fun id hid hne => u3 id (by omega) hne), fun id len e => ?_, by simp; omega, fun z hz => ?_, fun j hj a1 a2 a3 => ?_⟩, by omega⟩
      · obtain ⟨dv, q1, q2⟩ := ho3 k hk
        exact ⟨dv, q1, own_fr q2 (Nat.le_refl _) fun j hj _ => hfr7 j hj⟩
      · rcases u4 with rfl | ⟨len', rfl⟩
        · exact hid _ _ e
        · injection e; omega
      · rcases List.mem_append.1 hz with h | h
        · exact hDa z h
        · rw [List.mem_singleton.1 h]; exact ⟨⟨_, hy.symm⟩, hck0⟩
      · by_cases hji : j = i
        · subst hji
          exact ⟨y, by simp, by rw [hyd]; simp⟩
        · obtain ⟨z, q1, q2⟩ := he j (by omega) a1 a2 a3
          exact ⟨z, List.mem_append_left _ q1, q2⟩
    · refine ⟨⟨by omega, hD, i + 1, D, rfl, by omega, hO.fr (by omega) fun _ _ => rfl, hid, by omega, hDa, fun j hj a1 a2 a3 => ?_⟩, by omega⟩
      by_cases hji : j = i
      · subst hji
        rw [a1, a2, a3] at hc; simp at hc
      · exact he j (by omega) a1 a2 a3
  · simp only [decide_eq_false_iff_not] at hge
    obtain rfl : i = l.length := by omega
    rw [app_z (xs := l.map opV) (by simpa using fun h => hl0 (by rw [h]; rfl)) rfl (allOps l) (by simp [maxLen]; omega), nxS_s]
    generalize hob9 : apps ob [_] = ob9
    have hO9 : ob9 (n2 + 8) = some ⟨12, l.map opV, none⟩ := by rw [← hob9]; exact updO_s _ _ _
    have hfr9 : ∀ j, j < n2 + 8 → ob9 j = ob j := fun j hj => by rw [← hob9]; exact if_neg (by omega)
    clear hob9
    have hOw : Own (n2 + 8 + 1) ob9 (.sl (n2 + 8) 0 l.length) 12 (l.map opV) := .inr ⟨by simpa using fun h => hl0 (by rw [h]; rfl), n2 + 8, none, by omega, by rw [List.length_map], hO9⟩
    obtain ⟨rows, q1, q2, q3, q4⟩ := (hO.fr (Nat.le_refl _) (fun j hj => hfr9 j (by omega))).res
    simp (config := {contextual := true, maxSteps := 1000000}) only [go_sem, ints, intRows, iv_c, Nat.reduceAdd, Nat.reduceBEq, Nat.reduceEqDiff, Nat.reduceLeDiff, Nat.reduceLT, reduceIte, Nat.le_refl, true_or, or_true, and_self, Int.reduceLE, Int.reduceLT, Int.reduceEq, Int.reduceNeg, Int.natCast_nonneg, Int.reduceToNat, ops, vals, dots, h0, h1, h2]
    refine nxS_any (xs := rows) hOw (by omega) q1 q2 (by rw [q3]; simp; unfold maxLen; omega) fun v10 ob10 u2 u3 u4 => ?_
    have hfr10 : ∀ j, j < n2 → ob10 j = ob j := fun j hj => (u3 j (by omega) (fun len e => by injection e; omega)).trans (hfr9 j (by omega))
    have hX10 := (hfr10 (n' + 14) (by omega)).trans hX
    have r10 : resV ob10 6 v10 = .im .n ((l.map opV ++ rows).map fun r => r.map (resV ob10 5)) := by
      rcases u2 with ⟨h, _⟩ | ⟨_, Z, c, z1, z2, z3⟩
      · exact (hl0 (by simpa using congrArg List.length (List.append_eq_nil_iff.1 h).1)).elim
      · rw [z2, res_own z3]
    have hmap : ((l.map opV ++ rows).map fun r => r.map (resV ob10 5)).map (fun r => r.map toN1) = (l ++ D).map opN := by
      rw [List.map_append, List.map_append, map_res_op, map_toN_op, q4 3 ob10 fun j hj => (hfr10 j (by omega)).trans (hfr9 j (by omega)).symm, List.map_append]
    have hDk : ∀ y ∈ D, y.table = (t : Int) ∧ y.key = x.key ∧ y.kind = 3 := fun y hy => by
      obtain ⟨⟨d, rfl⟩, _⟩ := hDa y hy
      exact ⟨rfl, rfl, rfl⟩
    obtain ⟨z1, z2⟩ := later_del s1 hDk fun y hy b1 b2 b3 => by
      obtain ⟨j, hj, rfl⟩ := gN_mem_iff.1 hy
      exact he j hj b1 b2 b3
    have e3 : madeE n f (l ++ D) = 0 := made_0e hf0 hn5 fun y hy => by
      rcases List.mem_append.1 hy with h | h
      · exact (hch y h).1
      · exact (hDa y h).2
    have hxs3 : ∀ y ∈ l ++ D, OkO y ∧ y.dots.length ≤ 100 := fun y hy => by
      rcases List.mem_append.1 hy with h | h
      · exact hxs y h
      · obtain ⟨⟨d, rfl⟩, _⟩ := hDa y h
        refine ⟨⟨?_, ?_, ?_, ?_⟩, ?_⟩
        · simp [delU, depD, maxLen]; omega
        · simp [delU, maxLen]
        · simp [delU, maxLen]
        · simp [delU, inI]
        · simp [delU]
    obtain ⟨g5, g6⟩ := made_at e3
    have hsm3 := made_small (n := n) (f := f) (l := l ++ D) hfl (by simp; omega) fun x hx => (hxs3 x hx).2
    rw [← g2 t htf, ← g6 t htf] at z2
    simp (config := {contextual := true, maxSteps := 1000000}) only [go_sem, ints, intRows, iv_c, Nat.reduceAdd, Nat.reduceBEq, Nat.reduceEqDiff, Nat.reduceLeDiff, Nat.reduceLT, reduceIte, Nat.le_refl, true_or, or_true, and_self, Int.reduceLE, Int.reduceLT, Int.reduceEq, Int.reduceNeg, Int.natCast_nonneg, Int.reduceToNat, ops, vals, dots, h0, h1, h2]
    rw [r10]
    first | refine caS_i (AMadeX_ok (fl := .b) (fm := .n) n f (l ++ D) _ hmap (by simp; omega) hxs3) trivial ?_ | refine caD_i (AMadeX_ok (fl := .b) (fm := .n) n f (l ++ D) _ hmap (by simp; omega) hxs3) trivial ?_ | refine gC_i (fun _ => AMadeX_ok (fl := .b) (fm := .n) n f (l ++ D) _ hmap (by simp; omega) hxs3) trivial ?_ | refine gCD_i (fun _ => AMadeX_ok (fl := .b) (fm := .n) n f (l ++ D) _ hmap (by simp; omega) hxs3) trivial ?_ | refine caE_i (AMadeX_ok (fl := .b) (fm := .n) n f (l ++ D) _ hmap (by simp; omega) hxs3) trivial ?_
    simp (config := {contextual := true, maxSteps := 1000000}) only [go_sem, ints, intRows, iv_c, Nat.reduceAdd, Nat.reduceBEq, Nat.reduceEqDiff, Nat.reduceLeDiff, Nat.reduceLT, reduceIte, Nat.le_refl, true_or, or_true, and_self, Int.reduceLE, Int.reduceLT, Int.reduceEq, Int.reduceNeg, Int.natCast_nonneg, Int.reduceToNat, ops, vals, dots, h0, h1, h2, h10, h11, tbs, valTabs, valRows, e3, g5, g1, hX10, ht, Nat.add_assoc, beq_add, Nat.zero_add, Nat.add_zero]
    refine ⟨by omega, ?_⟩
    refine caD_i (Seen26_ok (fl := .b) (gN (madeT n f (l ++ D)) t) x.key (hsm3.2 _ (gN_mem (by omega))).1) trivial ?_
    rw [imp_seen]
    have hr3 : seenR x.key (gN (madeT n f (l ++ D)) t) = [] := by
      rw [g6 t htf, seenR_at (mdes_keys f _ t).1, z1]; rfl
    rw [hr3]
    have hAm := hAl
    unfold maxLen at hAm
    have w3 : IntKind.i64.wrap (((gN (madeT n f l) t).length : Int) - 1) = ((gN (madeT n f (l ++ D)) t).length : Int) := by rw [w64 (by omega)]; omega
    simp (config := {contextual := true, maxSteps := 1000000}) only [go_sem, ints, intRows, iv_c, Nat.reduceAdd, Nat.reduceBEq, Nat.reduceEqDiff, Nat.reduceLeDiff, Nat.reduceLT, reduceIte, Nat.le_refl, true_or, or_true, and_self, Int.reduceLE, Int.reduceLT, Int.reduceEq, Int.reduceNeg, Int.natCast_nonneg, Int.reduceToNat, ops, vals, dots, h0, h1, h2, h10, h11, tbs, valTabs, valRows, e3, g5, g1, hX10, ht, w3, Nat.add_assoc, beq_add, Nat.zero_add, Nat.add_zero]
    refine ⟨by omega, by omega, ?_⟩
    refine caD_i wakes26_ok trivial ?_
    simp (config := {contextual := true, maxSteps := 1000000}) only [go_sem, ints, intRows, iv_c, Nat.reduceAdd, Nat.reduceBEq, Nat.reduceEqDiff, Nat.reduceLeDiff, Nat.reduceLT, reduceIte, Nat.le_refl, true_or, or_true, and_self, Int.reduceLE, Int.reduceLT, Int.reduceEq, Int.reduceNeg, Int.natCast_nonneg, Int.reduceToNat, ops, vals, dots, h0, h1, h2]
theorem AuditLater_law (n : Int) (f : List (List Int)) (l : List Opx) (turn : Int) (_ : gInt .i64 n) (_ : gList gTb f) (hl : gList gOpx l) (_ : gInt .i64 turn) : FnB Try.prog 7 [vi n, tbs .b f, ops .b l, vi turn] (vb true) := AuditLater_ok n f l turn fun x hx => gi (hl.2 x hx).1.2
end Go.Proofs.Ytbojpedklnmidaa.D
end
section
set_option linter.unusedVariables false
set_option linter.unusedSimpArgs false
set_option linter.constructorNameAsVariable false
/- The row of AuditLater, out of what the law answers to plain values. No condition beyond the statement's own. -/
namespace Go.Proofs.Ytbojpedklnmidaa.auditLater
open Go.ChangeShapes Go.WideShapes Go.ChangeAt Go.RowKit Go.Proofs.Ytbojpedklnmidaa.D
open Go.ChangeMaps (open_string shut_string)
theorem own : ownKnob Try.prog.godebug = none := by kernel_rfl
theorem laidOut : laidOutB Try.prog = true := by kernel_rfl
theorem opn73 {H : Type} {enc : TypeId × Value → H} : Opn enc Try.prog 73 tbV gTb := by
  intro W base sp held fuel cs x h
  obtain ⟨xs, n, rfl, rfl, hl, hxl, hf⟩ := DataW.trod_struct Try.underlying73 h
  obtain ⟨a0, K0, G0⟩ := opn_field (sz := 1) hxl hf 0 _ rfl (opn_slice (sz := 1) Try.underlying23 (opn_int Try.underlying3) (by kernel_rfl) (by decide) (fun _ => rfl)) (by kernel_rfl)
  have hc : Try.prog.cellsOf 73 = 1 := by kernel_rfl
  rw [hc] at hl
  exact ⟨a0, (rv_last K0 hl), G0⟩
theorem opn28 {H : Type} {enc : TypeId × Value → H} : Opn enc Try.prog 28 dotV gDt := by
  intro W base sp held fuel cs x h
  obtain ⟨xs, n, rfl, rfl, hl, hxl, hf⟩ := DataW.trod_struct Try.underlying28 h
  obtain ⟨a0, K0, G0⟩ := opn_field (sz := 1) hxl hf 0 _ rfl (opn_int Try.underlying3) (by kernel_rfl)
  obtain ⟨a1, K1, G1⟩ := opn_field (sz := 1) hxl hf 1 _ rfl (opn_int Try.underlying3) (by kernel_rfl)
  have hc : Try.prog.cellsOf 28 = 2 := by kernel_rfl
  rw [hc] at hl
  exact ⟨⟨a0, a1⟩, (rv_fields K0 (rv_last K1 hl)), ⟨G0, G1⟩⟩
theorem opn30 {H : Type} {enc : TypeId × Value → H} : Opn enc Try.prog 30 stV gSt3 := by
  intro W base sp held fuel cs x h
  obtain ⟨xs, n, rfl, rfl, hl, hxl, hf⟩ := DataW.trod_struct Try.underlying30 h
  obtain ⟨a0, K0, G0⟩ := opn_field (sz := 1) hxl hf 0 _ rfl (opn_int Try.underlying3) (by kernel_rfl)
  obtain ⟨a1, K1, G1⟩ := opn_field (sz := 1) hxl hf 1 _ rfl (opn_int Try.underlying3) (by kernel_rfl)
  obtain ⟨a2, K2, G2⟩ := opn_field (sz := 1) hxl hf 2 _ rfl (opn_int Try.underlying3) (by kernel_rfl)
  have hc : Try.prog.cellsOf 30 = 3 := by kernel_rfl
  rw [hc] at hl
  exact ⟨⟨a0, a1, a2⟩, (rv_fields K0 (rv_fields K1 (rv_last K2 hl))), ⟨G0, G1, G2⟩⟩
theorem opn60 {H : Type} {enc : TypeId × Value → H} : Opn enc Try.prog 60 vlV gVl := by
  intro W base sp held fuel cs x h
  obtain ⟨xs, n, rfl, rfl, hl, hxl, hf⟩ := DataW.trod_struct Try.underlying60 h
  obtain ⟨a0, K0, G0⟩ := opn_field (sz := 1) hxl hf 0 _ rfl (opn_int Try.underlying3) (by kernel_rfl)
  obtain ⟨a1, K1, G1⟩ := opn_field (sz := 1) hxl hf 1 _ rfl (opn_int Try.underlying3) (by kernel_rfl)
  obtain ⟨a2, K2, G2⟩ := opn_field (sz := 1) hxl hf 2 _ rfl (opn_string Try.underlying9) (by kernel_rfl)
  have hc : Try.prog.cellsOf 60 = 3 := by kernel_rfl
  rw [hc] at hl
  exact ⟨⟨a0, a1, a2⟩, (rv_fields K0 (rv_fields K1 (rv_last K2 hl))), ⟨G0, G1, G2⟩⟩
theorem opn34 {H : Type} {enc : TypeId × Value → H} : Opn enc Try.prog 34 opV gOpx := by
  intro W base sp held fuel cs x h
  obtain ⟨xs, n, rfl, rfl, hl, hxl, hf⟩ := DataW.trod_struct Try.underlying34 h
  obtain ⟨a0, K0, G0⟩ := opn_field (sz := 2) hxl hf 0 _ rfl opn28 (by kernel_rfl)
  obtain ⟨a1, K1, G1⟩ := opn_field (sz := 1) hxl hf 1 _ rfl (opn_slice (sz := 1) Try.underlying23 (opn_int Try.underlying3) (by kernel_rfl) (by decide) (fun _ => rfl)) (by kernel_rfl)
  obtain ⟨a2, K2, G2⟩ := opn_field (sz := 3) hxl hf 2 _ rfl opn30 (by kernel_rfl)
  obtain ⟨a3, K3, G3⟩ := opn_field (sz := 1) hxl hf 3 _ rfl (opn_int Try.underlying3) (by kernel_rfl)
  obtain ⟨a4, K4, G4⟩ := opn_field (sz := 1) hxl hf 4 _ rfl (opn_int Try.underlying3) (by kernel_rfl)
  obtain ⟨a5, K5, G5⟩ := opn_field (sz := 1) hxl hf 5 _ rfl (opn_string Try.underlying9) (by kernel_rfl)
  obtain ⟨a6, K6, G6⟩ := opn_field (sz := 1) hxl hf 6 _ rfl (opn_int Try.underlying3) (by kernel_rfl)
  obtain ⟨a7, K7, G7⟩ := opn_field (sz := 1) hxl hf 7 _ rfl (opn_slice (sz := 3) Try.underlying31 opn60 (by kernel_rfl) (by decide) (fun _ => rfl)) (by kernel_rfl)
  obtain ⟨a8, K8, G8⟩ := opn_field (sz := 1) hxl hf 8 _ rfl (opn_slice (sz := 2) Try.underlying32 opn28 (by kernel_rfl) (by decide) (fun _ => rfl)) (by kernel_rfl)
  have hc : Try.prog.cellsOf 34 = 12 := by kernel_rfl
  rw [hc] at hl
  exact ⟨⟨a0, a1, a2, a3, a4, a5, a6, a7, a8⟩, (rv_fields K0 (rv_fields K1 (rv_fields K2 (rv_fields K3 (rv_fields K4 (rv_fields K5 (rv_fields K6 (rv_fields K7 (rv_last K8 hl))))))))), ⟨G0, G1, G2, G3, G4, G5, G6, G7, G8⟩⟩
set_option maxRecDepth 100000 in
set_option maxHeartbeats 2000000 in
theorem lifted (os : Os) (started : os.Started) (H : Type) (enc : TypeId × Value → H) :
    ReturnsInHanded {} Try.checked os 7 .any (Rows.auditLaterSpec.pre6 enc Try.prog Try.f7 Rows.auditLaterRow.domain false) (Rows.auditLaterSpec.post enc Try.prog Try.f7 false true false false) := by
  refine returnsInHanded_of_change_sized (C := Try.checked) own started (by kernel_rfl) Try.func7
    (ChangeSpec.witness6 (enc := enc) (C := Try.checked) false ⟨#[], #[.int .i64 0, .slice none 0 0, .slice none 0 0, .int .i64 0], []⟩ 8 (by kernel_rfl) (by kernel_rfl) (by kernel_rfl) (by kernel_rfl)) ?_
  intro W base args ds gs before hval0 hW hcnd hsz0 _
  have hval : ∀ (j : Nat) t v, Try.f7.params[j]? = some t → args[j]? = some v → Value.okWide Try.prog W .any base t v := hval0
  have hW' := hW
  obtain ⟨p, q, hA0, hV, rfl, hfz, hnd⟩ := hW
  have hA : DataW.TrodAll enc Try.prog W 0 (fun _ => true) true Try.f7.params.toList args.toList ds p := hA0
  rw [Try.params7] at hA hval
  obtain ⟨v0, vs0, d0, ds0, p0, q0, hargs, rfl, rfl, h0, r0⟩ := trodAll_cons hA
  obtain ⟨v1, vs1, d1, ds1, p1, q1, rfl, rfl, rfl, h1, r1⟩ := trodAll_cons r0
  obtain ⟨v2, vs2, d2, ds2, p2, q2, rfl, rfl, rfl, h2, r2⟩ := trodAll_cons r1
  obtain ⟨v3, vs3, d3, ds3, p3, q3, rfl, rfl, rfl, h3, r3⟩ := trodAll_cons r2
  obtain ⟨rfl, rfl, rfl⟩ := trodAll_nil r3
  obtain rfl : args = #[v0, v1, v2, v3] := by cases args; simp_all
  obtain ⟨rfl, rfl⟩ := trodVars_none hV
  have k0 := h0
  have lt0 : ∀ x ∈ p0, x.block < W.heap.size := by obtain ⟨m, hm⟩ := k0; exact DataW.trod_lt m _ _ _ hm
  obtain ⟨_, e0⟩ := okWide_int Try.underlying3 (hval 0 3 v0 rfl rfl)
  obtain ⟨a0, R0, G0⟩ := arg_one (opn_int Try.underlying3) (by rw [e0]; rfl) h0
  have k1 := h1
  have lt1 : ∀ x ∈ p1, x.block < W.heap.size := by obtain ⟨m, hm⟩ := k1; exact DataW.trod_lt m _ _ _ hm
  obtain ⟨_, _, _, e1⟩ := okWide_slice Try.underlying43 (hval 1 43 v1 rfl rfl)
  obtain ⟨a1, R1, G1⟩ := arg_one (opn_slice (sz := 1) Try.underlying43 opn73 (by kernel_rfl) (by decide) (fun _ => rfl)) (by rw [e1]; rfl) h1
  have k2 := h2
  have lt2 : ∀ x ∈ p2, x.block < W.heap.size := by obtain ⟨m, hm⟩ := k2; exact DataW.trod_lt m _ _ _ hm
  obtain ⟨_, _, _, e2⟩ := okWide_slice Try.underlying22 (hval 2 22 v2 rfl rfl)
  obtain ⟨a2, R2, G2⟩ := arg_one (opn_slice (sz := 12) Try.underlying22 opn34 (by kernel_rfl) (by decide) (fun _ => rfl)) (by rw [e2]; rfl) h2
  have k3 := h3
  have lt3 : ∀ x ∈ p3, x.block < W.heap.size := by obtain ⟨m, hm⟩ := k3; exact DataW.trod_lt m _ _ _ hm
  obtain ⟨_, e3⟩ := okWide_int Try.underlying3 (hval 3 3 v3 rfl rfl)
  obtain ⟨a3, R3, G3⟩ := arg_one (opn_int Try.underlying3) (by rw [e3]; rfl) h3
  clear hA0 hval0 hsz0
  have hfn := AuditLater_law a0 a1 a2 a3 G0 G1 G2 G3
  refine (hfn.2 bkA W [v0, v1, v2, v3] (RVs_cons R0 (RVs_cons R1 (RVs_cons R2 (RVs_cons R3 RVs_nil))))).mono fun e W' ⟨x, he, hr, bel⟩ => ?_
  subst he
  obtain rfl := res_true hr
  exact ⟨_, rfl, _, _, _, [], _, [], hW', trodAll_mk1 (shut_bool Try.underlying4 _), (trodAll_cons_mk (Below.trod laidOut (by kernel_rfl) (of_decide_eq_true (by kernel_rfl)) k0 bel lt0) (trodAll_cons_mk (Below.trod laidOut (by kernel_rfl) (of_decide_eq_true (by kernel_rfl)) k1 bel lt1) (trodAll_cons_mk (Below.trod laidOut (by kernel_rfl) (of_decide_eq_true (by kernel_rfl)) k2 bel lt2) (trodAll_cons_mk (Below.trod laidOut (by kernel_rfl) (of_decide_eq_true (by kernel_rfl)) k3 bel lt3) trodAll_mk0)))), rfl, bel.frame _, fun h => by cases h⟩
theorem over : Rows.auditLaterRow.holds Try.pinned (OpenSpec.ofChange Rows.auditLaterSpec) :=
  OpenClaim.holds_of_wide 7 Try.f7 rfl rfl rfl rfl rfl rfl rfl ⟨rfl, rfl, rfl, rfl, rfl⟩ rfl rfl rfl rfl rfl (by kernel_rfl) Try.func7 (by kernel_rfl)
    (of_decide_eq_true (by kernel_rfl)) (by unfold Func.isWrapper; first | (rw [if_pos (by decide +kernel)]; kernel_rfl) | (rw [if_neg (by decide +kernel)]; exact ⟨rfl, rfl⟩))
    (fun os started H enc _ => lifted os started H enc)
theorem proved : Rows.AuditLaterSaid := over
#print axioms proved
end Go.Proofs.Ytbojpedklnmidaa.auditLater
namespace Go.Proofs.Ytbojpedklnmidaa
/-- The row, under a short name, for the claim. -/
theorem auditLater_holds : Rows.AuditLaterSaid := auditLater.proved
end Go.Proofs.Ytbojpedklnmidaa
end
