/- AuditClosed, packed. No condition beyond the statement's own. -/
import Derived.Test.YtbojpedklnmidaaMAuditClosedd
import Derived.Test.YtbojpedklnmidaaRows
import Derived.WalkKit
import Derived.ProofKit
import Derived.OpenShut
import Derived.ShutString
import Derived.ChangeOld
import Derived.Below
import Derived.SizedLaws
section
set_option linter.unusedVariables false
set_option linter.unusedSimpArgs false
set_option linter.constructorNameAsVariable false
set_option maxRecDepth 100000

/- Closed operations: the walk of the statement. No condition. -/
namespace Go.Proofs.Ytbojpedklnmidaa.D
open Go Go.Proofs

theorem own_fr {n n' k : Nat} {ob ob' : OB} {v : V} {rows : List (List V)} (h : Own n ob v k rows) (hn : n ≤ n') (hf : ∀ id, id < n → v = .sl id 0 rows.length → ob' id = ob id) : Own n' ob' v k rows :=
  h.imp id fun ⟨h1, i, c, h2, h3, h4⟩ => ⟨h1, i, c, by omega, h3, (hf i h2 h3).trans h4⟩
theorem own_other {n k len id : Nat} {ob : OB} {v w : V} {rows rows' : List (List V)} {m : Nat} (h : Own n ob v k rows) (h' : Own m ob w k rows') (hl : rows.length ≠ rows'.length) (h1 : v = .sl id 0 rows.length) : w ≠ .sl id 0 len := by
  intro e
  rcases h with ⟨_, h2⟩ | ⟨_, i, c, _, h3, h4⟩
  · rw [h2] at h1; cases h1
  rcases h' with ⟨_, h5⟩ | ⟨_, i', c', _, h6, h7⟩
  · rw [h5] at e; cases e
  rw [h1] at h3; injection h3 with h3
  rw [e] at h6; injection h6 with h6
  subst h3; subst h6
  rw [h4] at h7
  injection h7 with h7
  injection h7 with _ h7 _
  exact hl (by rw [h7])
theorem resO {n : Nat} {ob : OB} {s : V} {l : List Opx} (h : Own n ob s 12 (l.map opV)) : ∃ f, ∀ m, resV ob (m + 4) s = ops f l := by
  rcases h with ⟨h1, rfl⟩ | ⟨_, id, cap, hid, rfl, hob⟩
  · refine ⟨.b, fun m => ?_⟩
    rw [res_z, ops, h1]
  · refine ⟨.n, fun m => ?_⟩
    simp only [resV, rowsOf, hob, Option.bind_some, List.length_map]
    rw [if_pos (by simp), ops, List.drop_zero, List.take_of_length_le (by simp)]
    show V.im Fl.n (List.map (fun r => List.map (resV ob (m + 3)) r) (l.map opV)) = _
    rw [List.map_map]
    congr 1
    exact List.map_congr_left fun x _ => res_op _ _ x
set_option maxHeartbeats 4000000 in
theorem AuditClosed_ok (n : Int) (l : List Opx) (k : Int) (hn : ∀ x ∈ l, inI x.dot.n) : FnB Try.prog 5 [vi n, ops .b l, vi k] (vb true) := by
  refine fnB_intro cf5 (by simp) ?_
  simp (config := {contextual := true, maxSteps := 1000000}) only [go_sem, ints, intRows, iv_c, Nat.reduceAdd, Nat.reduceBEq, Nat.reduceEqDiff, Nat.reduceLeDiff, Nat.reduceLT, reduceIte, Nat.le_refl, true_or, or_true, and_self, Int.reduceLE, Int.reduceLT, Int.reduceEq, Int.reduceNeg, Int.natCast_nonneg, Int.reduceToNat, ops, vals, dots, c5]
  first | refine caS_i (HeavyOs_ok l) trivial ?_ | refine caD_i (HeavyOs_ok l) trivial ?_ | refine gC_i (fun _ => HeavyOs_ok l) trivial ?_ | refine gCD_i (fun _ => HeavyOs_ok l) trivial ?_ | refine caE_i (HeavyOs_ok l) trivial ?_
  simp (config := {contextual := true, maxSteps := 1000000}) only [go_sem, ints, intRows, iv_c, Nat.reduceAdd, Nat.reduceBEq, Nat.reduceEqDiff, Nat.reduceLeDiff, Nat.reduceLT, reduceIte, Nat.le_refl, true_or, or_true, and_self, Int.reduceLE, Int.reduceLT, Int.reduceEq, Int.reduceNeg, Int.natCast_nonneg, Int.reduceToNat, ops, vals, dots]
  refine fun hb => ?_
  have hh : heavyOs l = false ∧ l.length ≤ 40 ∧ 1 ≤ n ∧ n ≤ 5 := by
    simp at hb; exact ⟨hb.1.1.1, by omega, by omega, by omega⟩
  obtain ⟨hh1, hl, hn1, hn5⟩ := hh
  clear hb
  have hok := heavyOs_ok hh1 hn
  have hl2 : l.length ≤ maxLen := by unfold maxLen; omega
  refine ⟨⟨by omega, by unfold maxLen; omega⟩, ?_⟩
  refine wpC_lp (fun env ob n' => env 0 = vi n ∧ env 1 = ops .b l ∧ env 2 = vi k ∧ env 7 = .sl 17 0 n.toNat ∧ 17 < n' ∧ ∃ (i : Nat) (o : List Int), env 8 = vi i ∧ i ≤ l.length ∧ ob 17 = some ⟨1, o.map fun n => [vi n], none⟩ ∧ o = hadV n (l.take i) ∧ ∀ j, j < i → okAt n l j) (fun env ob _ => (l.length - iv (env 8)).toNat) ?_ ?_
  · simp (config := {contextual := true, maxSteps := 1000000}) only [go_sem, ints, intRows, iv_c, Nat.reduceAdd, Nat.reduceBEq, Nat.reduceEqDiff, Nat.reduceLeDiff, Nat.reduceLT, reduceIte, Nat.le_refl, true_or, or_true, and_self, Int.reduceLE, Int.reduceLT, Int.reduceEq, Int.reduceNeg, Int.natCast_nonneg, Int.reduceToNat, ops, vals, dots]
    exact ⟨0, _, rfl, by omega, rfl, rfl, fun x hx => by omega⟩
  rintro env ob n' ⟨h0, h1, h2, h7, hn', i, o, h8, hi, hob, hoe, he⟩
  have w1 : IntKind.i64.wrap ((i : Int) + 1) = ((i + 1 : Nat) : Int) := by rw [w64 (by omega)]; omega
  have hol : o.length = n.toNat := by rw [hoe, hadV_len]
  have hoi : ∀ v ∈ o, inI v := by rw [hoe]; exact hadV_in fun x hx => hn x (List.mem_of_mem_take hx)
  simp (config := {contextual := true, maxSteps := 1000000}) only [go_sem, ints, intRows, iv_c, Nat.reduceAdd, Nat.reduceBEq, Nat.reduceEqDiff, Nat.reduceLeDiff, Nat.reduceLT, reduceIte, Nat.le_refl, true_or, or_true, and_self, Int.reduceLE, Int.reduceLT, Int.reduceEq, Int.reduceNeg, Int.natCast_nonneg, Int.reduceToNat, ops, vals, dots, h0, h1, h2, h7, h8, hob, hol]
  refine ⟨fun hlt => ?_, fun hge => ?_⟩
  · simp at hlt
    have htk : List.take n.toNat (o.map fun n => [vi n]) = o.map fun n => [vi n] := List.take_of_length_le (by rw [List.length_map, hol]; omega)
    have hrs : ∀ (ob : OB), List.map (fun r => List.map (resV ob 5) r) (o.map fun n => [vi n]) = o.map fun n => [vi n] := fun ob => by rw [List.map_map]; rfl
    have hxo := hok _ (gN_mem hlt)
    have hon : o.length ≤ maxLen := by rw [hol]; unfold maxLen; omega
    repeat (refine And.intro (by omega) ?_)
    first | refine caS_i (Vector_ok (gN l i).deps) trivial ?_ | refine caD_i (Vector_ok (gN l i).deps) trivial ?_ | refine gC_i (fun _ => Vector_ok (gN l i).deps) trivial ?_ | refine gCD_i (fun _ => Vector_ok (gN l i).deps) trivial ?_ | refine caE_i (Vector_ok (gN l i).deps) trivial ?_
    simp (config := {contextual := true, maxSteps := 1000000}) only [go_sem, ints, intRows, iv_c, Nat.reduceAdd, Nat.reduceBEq, Nat.reduceEqDiff, Nat.reduceLeDiff, Nat.reduceLT, reduceIte, Nat.le_refl, true_or, or_true, and_self, Int.reduceLE, Int.reduceLT, Int.reduceEq, Int.reduceNeg, Int.natCast_nonneg, Int.reduceToNat, ops, vals, dots, h0, h1, h2, h7, h8, hob, hol]
    refine ⟨fun _ => by omega, ?_⟩
    rw [htk, hrs]
    first | refine caS_i (RNext_ok (fl := .n) o (gN l i).dot hon hxo.n hoi) trivial ?_ | refine caD_i (RNext_ok (fl := .n) o (gN l i).dot hon hxo.n hoi) trivial ?_ | refine gC_i (fun _ => RNext_ok (fl := .n) o (gN l i).dot hon hxo.n hoi) trivial ?_ | refine gCD_i (fun _ => RNext_ok (fl := .n) o (gN l i).dot hon hxo.n hoi) trivial ?_ | refine caE_i (RNext_ok (fl := .n) o (gN l i).dot hon hxo.n hoi) trivial ?_
    simp (config := {contextual := true, maxSteps := 1000000}) only [go_sem, ints, intRows, iv_c, Nat.reduceAdd, Nat.reduceBEq, Nat.reduceEqDiff, Nat.reduceLeDiff, Nat.reduceLT, reduceIte, Nat.le_refl, true_or, or_true, and_self, Int.reduceLE, Int.reduceLT, Int.reduceEq, Int.reduceNeg, Int.natCast_nonneg, Int.reduceToNat, ops, vals, dots, h0, h1, h2, h7, h8, hob, hol]
    refine ⟨fun _ => by omega, ?_⟩
    rw [htk, hrs]
    first | refine caS_i (RLe_ok (fm := .n) (gN l i).deps o hxo.d) trivial ?_ | refine caD_i (RLe_ok (fm := .n) (gN l i).deps o hxo.d) trivial ?_ | refine gC_i (fun _ => RLe_ok (fm := .n) (gN l i).deps o hxo.d) trivial ?_ | refine gCD_i (fun _ => RLe_ok (fm := .n) (gN l i).deps o hxo.d) trivial ?_ | refine caE_i (RLe_ok (fm := .n) (gN l i).deps o hxo.d) trivial ?_
    simp (config := {contextual := true, maxSteps := 1000000}) only [go_sem, ints, intRows, iv_c, Nat.reduceAdd, Nat.reduceBEq, Nat.reduceEqDiff, Nat.reduceLeDiff, Nat.reduceLT, reduceIte, Nat.le_refl, true_or, or_true, and_self, Int.reduceLE, Int.reduceLT, Int.reduceEq, Int.reduceNeg, Int.natCast_nonneg, Int.reduceToNat, ops, vals, dots, h0, h1, h2, h7, h8, hob, hol, w1]
    intro hc
    have hx : okAt n l i := by
      rw [Bool.or_eq_false_iff, Bool.or_eq_false_iff] at hc
      obtain ⟨⟨c1, c2⟩, c3⟩ := hc
      have d1 : ((gN l i).deps.length : Int) = n := by
        by_cases h : ((gN l i).deps.length : Int) = n
        · exact h
        · rw [if_neg (by simpa using h)] at c1; cases c1
      rw [if_pos (decide_eq_true d1)] at c1
      refine ⟨d1, by simpa using c1, ?_, ?_⟩
      · rw [← hoe]; simpa using c2
      · rw [← hoe]; simpa using c3
    have hp : 0 ≤ (gN l i).dot.p ∧ (gN l i).dot.p < n := by
      have := hx.2.2.1
      unfold nextB at this
      have := of_decide_eq_true this
      rw [hadV_len] at this; omega
    refine ⟨by omega, by omega, by omega, by omega, ⟨by omega, i + 1, _, rfl, by omega, rfl, ?_, fun j hj => ?_⟩, by omega⟩
    · rw [hadV_take hlt, ← hoe]
    · by_cases hji : j = i
      · subst hji; exact hx
      · exact he j (by omega)
  simp only [decide_eq_false_iff_not] at hge
  obtain rfl : i = l.length := by omega
  clear hob hoe hol hoi w1 h8 h7 hge
  refine wpC_lp (fun env ob n' => env 0 = vi n ∧ env 1 = ops .b l ∧ env 2 = vi k ∧ ∃ i : Nat, env 9 = vi i ∧ i ≤ l.length + 1) (fun env ob _ => (l.length + 1 - iv (env 9)).toNat) ?_ ?_
  · simp (config := {contextual := true, maxSteps := 1000000}) only [go_sem, ints, intRows, iv_c, Nat.reduceAdd, Nat.reduceBEq, Nat.reduceEqDiff, Nat.reduceLeDiff, Nat.reduceLT, reduceIte, Nat.le_refl, true_or, or_true, and_self, Int.reduceLE, Int.reduceLT, Int.reduceEq, Int.reduceNeg, Int.natCast_nonneg, Int.reduceToNat, ops, vals, dots, h0, h1, h2]
    exact ⟨0, rfl, by omega⟩
  clear h0 h1 h2 hi hn' env ob n'
  rintro env ob n' ⟨h0, h1, h2, i, h9, hi⟩
  have w1 : IntKind.i64.wrap ((i : Int) + 1) = ((i + 1 : Nat) : Int) := by rw [w64 (by omega)]; omega
  simp (config := {contextual := true, maxSteps := 1000000}) only [go_sem, ints, intRows, iv_c, Nat.reduceAdd, Nat.reduceBEq, Nat.reduceEqDiff, Nat.reduceLeDiff, Nat.reduceLT, reduceIte, Nat.le_refl, true_or, or_true, and_self, Int.reduceLE, Int.reduceLT, Int.reduceEq, Int.reduceNeg, Int.natCast_nonneg, Int.reduceToNat, ops, vals, dots, h0, h1, h2, h9]
  have hres : ∀ (ob : OB) (m : List Opx), List.map (fun r => List.map (resV ob 5) r) (m.map opV) = m.map opV := fun ob m => by
    rw [List.map_map]; exact List.map_congr_left fun x _ => res_op _ _ x
  refine ⟨fun hle => ?_, fun hgt => ?_⟩
  · simp only [decide_eq_true_eq] at hle
    refine ⟨⟨by simp, fun ch hch => by obtain ⟨_, _, rfl⟩ := List.mem_map.1 hch; rfl, hle⟩, ?_⟩
    rw [← List.map_take, hres]
    have c1 := Closed_ok (fl := .b) n (l.take i) (by rw [List.length_take]; omega) (fun x hx => hn x (List.mem_of_mem_take hx))
    rw [cl_take ⟨hn1, hn5⟩ he] at c1
    first | refine caS_i (c1) trivial ?_ | refine caD_i (c1) trivial ?_ | refine gC_i (fun _ => c1) trivial ?_ | refine gCD_i (fun _ => c1) trivial ?_ | refine caE_i (c1) trivial ?_
    simp (config := {contextual := true, maxSteps := 1000000}) only [go_sem, ints, intRows, iv_c, Nat.reduceAdd, Nat.reduceBEq, Nat.reduceEqDiff, Nat.reduceLeDiff, Nat.reduceLT, reduceIte, Nat.le_refl, true_or, or_true, and_self, Int.reduceLE, Int.reduceLT, Int.reduceEq, Int.reduceNeg, Int.natCast_nonneg, Int.reduceToNat, ops, vals, dots, h0, h1, h2, h9, w1]
    exact ⟨⟨i + 1, rfl, by omega⟩, by omega⟩
  refine ⟨fun hz => ?_, fun hz => ?_⟩
  · first | refine caS_i (wakes26_ok) trivial ?_ | refine caD_i (wakes26_ok) trivial ?_ | refine gC_i (fun _ => wakes26_ok) trivial ?_ | refine gCD_i (fun _ => wakes26_ok) trivial ?_ | refine caE_i (wakes26_ok) trivial ?_
    simp (config := {contextual := true, maxSteps := 1000000}) only [go_sem, ints, intRows, iv_c, Nat.reduceAdd, Nat.reduceBEq, Nat.reduceEqDiff, Nat.reduceLeDiff, Nat.reduceLT, reduceIte, Nat.le_refl, true_or, or_true, and_self, Int.reduceLE, Int.reduceLT, Int.reduceEq, Int.reduceNeg, Int.natCast_nonneg, Int.reduceToNat, ops, vals, dots]
  have hl0 : 0 < l.length := by have := of_decide_eq_false hz; omega
  obtain ⟨T, qT1, qT2⟩ := modU k (k := (l.length : Int)) (by omega)
  have hTl : T < l.length := by omega
  have hul : IntKind.u64.wrap (l.length : Int) = (l.length : Int) := u64 (by omega)
  have hm0 : ((l.length : Int) = 0) = False := eq_false (by omega)
  simp (config := {contextual := true, maxSteps := 1000000}) only [go_sem, ints, intRows, iv_c, Nat.reduceAdd, Nat.reduceBEq, Nat.reduceEqDiff, Nat.reduceLeDiff, Nat.reduceLT, reduceIte, Nat.le_refl, true_or, or_true, and_self, Int.reduceLE, Int.reduceLT, Int.reduceEq, Int.reduceNeg, Int.natCast_nonneg, Int.reduceToNat, ops, vals, dots, hul, qT1, hm0, h0, h1, h2]
  obtain ⟨A, hA⟩ : ∃ A, A = n' + 1 + 1 + 1 + 1 + 1 + 1 + 1 + 1 + 1 + 1 + 1 + 1 + 1 + 1 + 1 + 1 + 1 := ⟨_, rfl⟩
  rw [← hA]
  refine nxE_app (n := A) Own.nil (Nat.le_refl _) rfl (allOps l) (by simp [maxLen]; omega) fun v1 ob1 T1 ho1 hfr1 hT1 => ⟨?_, ?_⟩
  · simp [sepL, sepAt, sepE]
  rw [List.nil_append] at ho1
  simp (config := {contextual := true, maxSteps := 1000000}) only [go_sem, ints, intRows, iv_c, Nat.reduceAdd, Nat.reduceBEq, Nat.reduceEqDiff, Nat.reduceLeDiff, Nat.reduceLT, reduceIte, Nat.le_refl, true_or, or_true, and_self, Int.reduceLE, Int.reduceLT, Int.reduceEq, Int.reduceNeg, Int.natCast_nonneg, Int.reduceToNat, ops, vals, dots, hul, qT1, hm0, h0, h1, h2]
  have hap : ∀ T : List Nat, apL T [] := fun T => apL_iff.2 fun z hz => by simp
  refine ⟨by omega, hap _, hap _, hap _, ?_⟩
  refine nxE_app (n := A + 1) ho1 (by omega) rfl (by simpa using allOps [gN l T]) (by simp [maxLen]; omega) fun v2 ob2 T2 ho2 hfr2 hT2 => ⟨?_, ?_⟩
  · simp [sepL, sepAt, sepE]
  have e2 : l.map opV ++ [opV (gN l T)] = (l ++ [gN l T]).map opV := by simp
  rw [e2] at ho2
  simp (config := {contextual := true, maxSteps := 1000000}) only [go_sem, ints, intRows, iv_c, Nat.reduceAdd, Nat.reduceBEq, Nat.reduceEqDiff, Nat.reduceLeDiff, Nat.reduceLT, reduceIte, Nat.le_refl, true_or, or_true, and_self, Int.reduceLE, Int.reduceLT, Int.reduceEq, Int.reduceNeg, Int.natCast_nonneg, Int.reduceToNat, ops, vals, dots, hul, qT1, hm0, h0, h1, h2]
  obtain ⟨B, hB⟩ : ∃ B, B = n' + 1 + 1 + 1 + 1 + 1 + 1 + 1 + 1 + 1 + 1 + 1 + 1 + 1 + 1 + 1 + 10 + 1 + 1 + 1 + 1 := ⟨_, rfl⟩
  rw [← hB]
  refine ⟨⟨by simp, fun ch hch => by obtain ⟨_, _, rfl⟩ := List.mem_map.1 hch; rfl, by omega⟩, ?_⟩
  rw [← List.map_take]
  refine nxE_app (n := B) Own.nil (Nat.le_refl _) rfl (allOps _) (by simp [maxLen]; omega) fun v3 ob3 T3 ho3 hfr3 hT3 => ⟨?_, ?_⟩
  · simp [sepL, sepAt, sepE]
  rw [List.nil_append] at ho3
  have ho2b : Own B ob3 v2 12 ((l ++ [gN l T]).map opV) := own_fr ho2 (by omega) fun id h _ => hfr3 id (by omega) (by simp)
  have wT : IntKind.i64.wrap ((T : Int) + 1) = ((T + 1 : Nat) : Int) := by rw [w64 (by omega)]; omega
  simp (config := {contextual := true, maxSteps := 1000000}) only [go_sem, ints, intRows, iv_c, Nat.reduceAdd, Nat.reduceBEq, Nat.reduceEqDiff, Nat.reduceLeDiff, Nat.reduceLT, reduceIte, Nat.le_refl, true_or, or_true, and_self, Int.reduceLE, Int.reduceLT, Int.reduceEq, Int.reduceNeg, Int.natCast_nonneg, Int.reduceToNat, ops, vals, dots, wT, h0, h1, h2]
  refine ⟨⟨by simp, fun ch hch => by obtain ⟨_, _, rfl⟩ := List.mem_map.1 hch; rfl, by omega, by omega⟩, hap _, ?_⟩
  rw [← List.map_drop]
  refine nxE_app (n := B + 1) ho3 (by omega) rfl (allOps _) (by simp [maxLen]; omega) fun v4 ob4 T4 ho4 hfr4 hT4 => ⟨?_, ?_⟩
  · simp [sepL, sepAt, sepE]
  rw [← List.map_append] at ho4
  have ho2c : Own B ob4 v2 12 ((l ++ [gN l T]).map opV) := own_fr ho2b (Nat.le_refl _) fun id h he => hfr4 id (by omega) (own_other ho2b ho3 (by simp; omega) he)
  have hfl : (l.take T ++ l.drop (T + 1)).length ≤ 40 := by simp; omega
  have hfm : ∀ x ∈ l.take T ++ l.drop (T + 1), x ∈ l := fun x hx => by
    rcases List.mem_append.1 hx with h | h
    · exact List.mem_of_mem_take h
    · exact List.mem_of_mem_drop h
  have hcf := cl_few ⟨hn1, hn5⟩ he hTl
  generalize l.take T ++ l.drop (T + 1) = F at *
  simp (config := {contextual := true, maxSteps := 1000000}) only [go_sem, ints, intRows, iv_c, Nat.reduceAdd, Nat.reduceBEq, Nat.reduceEqDiff, Nat.reduceLeDiff, Nat.reduceLT, reduceIte, Nat.le_refl, true_or, or_true, and_self, Int.reduceLE, Int.reduceLT, Int.reduceEq, Int.reduceNeg, Int.natCast_nonneg, Int.reduceToNat, ops, vals, dots, h0, h1, h2]
  have hlen4 : lenOf v4 = some F.length := by
    rcases ho4 with ⟨h3, rfl⟩ | ⟨_, id, c, _, rfl, _⟩
    · have : F = [] := by simpa using h3
      subst this; rfl
    · simp [lenOf]
  refine wpC_lp (fun env ob' n' => ob' = ob4 ∧ env 0 = vi n ∧ env 1 = ops .b l ∧ env 2 = vi T ∧ env 10 = v2 ∧ env 11 = v4 ∧ ∃ i : Nat, env 13 = vi i ∧ i ≤ F.length ∧ env 12 = vb ((F.take i).any (needB (gN l T).dot))) (fun env ob _ => (F.length - iv (env 13)).toNat) ?_ ?_
  · simp (config := {contextual := true, maxSteps := 1000000}) only [go_sem, ints, intRows, iv_c, Nat.reduceAdd, Nat.reduceBEq, Nat.reduceEqDiff, Nat.reduceLeDiff, Nat.reduceLT, reduceIte, Nat.le_refl, true_or, or_true, and_self, Int.reduceLE, Int.reduceLT, Int.reduceEq, Int.reduceNeg, Int.natCast_nonneg, Int.reduceToNat, ops, vals, dots, h0, h1, h2]
    exact ⟨0, rfl, by omega, rfl⟩
  clear h0 h1 h2 h9 w1 hi hgt hA hB ho1 hfr1 hT1 ho2 hfr2 hT2 ho3 hfr3 hT3 ho2b hfr4 hT4 env
  rintro env ob' n'' ⟨rfl, h0, h1, h2, h10, h11, i', h13, hi', h12⟩
  have w1 : IntKind.i64.wrap ((i' : Int) + 1) = ((i' + 1 : Nat) : Int) := by rw [w64 (by omega)]; omega
  simp (config := {contextual := true, maxSteps := 1000000}) only [go_sem, ints, intRows, iv_c, Nat.reduceAdd, Nat.reduceBEq, Nat.reduceEqDiff, Nat.reduceLeDiff, Nat.reduceLT, reduceIte, Nat.le_refl, true_or, or_true, and_self, Int.reduceLE, Int.reduceLT, Int.reduceEq, Int.reduceNeg, Int.natCast_nonneg, Int.reduceToNat, ops, vals, dots, h0, h1, h2, h10, h11, h12, h13, hlen4]
  refine ⟨fun hlt => ?_, fun hge => ?_⟩
  · simp only [decide_eq_true_eq] at hlt
    obtain ⟨id, c, hid, rfl, hob4⟩ : ∃ id c, id < B + 1 + 1 + 1 + 1 + 1 + 1 ∧ v4 = .sl id 0 (F.map opV).length ∧ ob' id = some ⟨12, F.map opV, c⟩ := by
      rcases ho4 with ⟨h3, _⟩ | ⟨_, id, c, h4, h5, h6⟩
      · have : F = [] := by simpa using h3
        subst this; simp at hlt; omega
      · exact ⟨id, c, h4, h5, h6⟩
    simp (config := {contextual := true, maxSteps := 1000000}) only [go_sem, ints, intRows, iv_c, Nat.reduceAdd, Nat.reduceBEq, Nat.reduceEqDiff, Nat.reduceLeDiff, Nat.reduceLT, reduceIte, Nat.le_refl, true_or, or_true, and_self, Int.reduceLE, Int.reduceLT, Int.reduceEq, Int.reduceNeg, Int.natCast_nonneg, Int.reduceToNat, ops, vals, dots, h0, h1, h2, h10, h11, h12, h13, hlen4, hob4]
    refine ⟨fun _ => by omega, fun _ => by omega, fun _ => by omega, ?_⟩
    first | refine caS_i (Has_ok (fl := .b) (gN F i').deps (gN l T).dot) trivial ?_ | refine caD_i (Has_ok (fl := .b) (gN F i').deps (gN l T).dot) trivial ?_ | refine gC_i (fun _ => Has_ok (fl := .b) (gN F i').deps (gN l T).dot) trivial ?_ | refine gCD_i (fun _ => Has_ok (fl := .b) (gN F i').deps (gN l T).dot) trivial ?_ | refine caE_i (Has_ok (fl := .b) (gN F i').deps (gN l T).dot) trivial ?_
    simp (config := {contextual := true, maxSteps := 1000000}) only [go_sem, ints, intRows, iv_c, Nat.reduceAdd, Nat.reduceBEq, Nat.reduceEqDiff, Nat.reduceLeDiff, Nat.reduceLT, reduceIte, Nat.le_refl, true_or, or_true, and_self, Int.reduceLE, Int.reduceLT, Int.reduceEq, Int.reduceNeg, Int.natCast_nonneg, Int.reduceToNat, ops, vals, dots, h0, h1, h2, h10, h11, h12, h13, hlen4, hob4, w1]
    have hat : (F.take (i' + 1)).any (needB (gN l T).dot) = ((F.take i').any (needB (gN l T).dot) || needB (gN l T).dot (gN F i')) := by
      rw [take_gN (by omega), List.any_append]; simp
    refine ⟨fun _ => by omega, fun _ => by omega, fun _ => by omega, fun _ => by omega, fun _ => by omega, fun _ => by omega, ⟨i' + 1, rfl, by omega, ?_⟩, by omega⟩
    rw [hat]; unfold needB; rw [Bool.or_assoc]
  · simp only [decide_eq_false_iff_not] at hge
    obtain rfl : i' = F.length := by omega
    rw [List.take_length] at h12
    obtain ⟨f2, hf2⟩ := resO ho2c
    obtain ⟨f4, hf4⟩ := resO ho4
    have g2 : resV ob' 6 v2 = ops f2 (l ++ [gN l T]) := hf2 2
    have g4 : resV ob' 6 v4 = ops f4 F := hf4 2
    have c2 := Closed_ok (fl := f2) n (l ++ [gN l T]) (by simp [maxLen]; omega) (fun x hx => by
      rcases List.mem_append.1 hx with h | h
      · exact hn x h
      · rw [List.mem_singleton.1 h]; exact hn _ (gN_mem hTl))
    rw [cl_twice hTl] at c2
    have c4 := Closed_ok (fl := f4) n F (by unfold maxLen; omega) (fun x hx => hn x (hfm x hx))
    rw [hcf] at c4
    rw [g2]
    first | refine caS_i (c2) trivial ?_ | refine caD_i (c2) trivial ?_ | refine gC_i (fun _ => c2) trivial ?_ | refine gCD_i (fun _ => c2) trivial ?_ | refine caE_i (c2) trivial ?_
    simp (config := {contextual := true, maxSteps := 1000000}) only [go_sem, ints, intRows, iv_c, Nat.reduceAdd, Nat.reduceBEq, Nat.reduceEqDiff, Nat.reduceLeDiff, Nat.reduceLT, reduceIte, Nat.le_refl, true_or, or_true, and_self, Int.reduceLE, Int.reduceLT, Int.reduceEq, Int.reduceNeg, Int.natCast_nonneg, Int.reduceToNat, ops, vals, dots, h0, h1, h2, h10, h11, h12, h13]
    rw [g4]
    first | refine caS_i (c4) trivial ?_ | refine caD_i (c4) trivial ?_ | refine gC_i (fun _ => c4) trivial ?_ | refine gCD_i (fun _ => c4) trivial ?_ | refine caE_i (c4) trivial ?_
    simp (config := {contextual := true, maxSteps := 1000000}) only [go_sem, ints, intRows, iv_c, Nat.reduceAdd, Nat.reduceBEq, Nat.reduceEqDiff, Nat.reduceLeDiff, Nat.reduceLT, reduceIte, Nat.le_refl, true_or, or_true, and_self, Int.reduceLE, Int.reduceLT, Int.reduceEq, Int.reduceNeg, Int.natCast_nonneg, Int.reduceToNat, ops, vals, dots, h0, h1, h2, h10, h11, h12, h13]
    first | refine caS_i (wakes26_ok) trivial ?_ | refine caD_i (wakes26_ok) trivial ?_ | refine gC_i (fun _ => wakes26_ok) trivial ?_ | refine gCD_i (fun _ => wakes26_ok) trivial ?_ | refine caE_i (wakes26_ok) trivial ?_
    simp (config := {contextual := true, maxSteps := 1000000}) only [go_sem, ints, intRows, iv_c, Nat.reduceAdd, Nat.reduceBEq, Nat.reduceEqDiff, Nat.reduceLeDiff, Nat.reduceLT, reduceIte, Nat.le_refl, true_or, or_true, and_self, Int.reduceLE, Int.reduceLT, Int.reduceEq, Int.reduceNeg, Int.natCast_nonneg, Int.reduceToNat, ops, vals, dots]
theorem AuditClosed_law (n : Int) (l : List Opx) (k : Int) (_ : gInt .i64 n) (hl : gList gOpx l) (_ : gInt .i64 k) : FnB Try.prog 5 [vi n, ops .b l, vi k] (vb true) := AuditClosed_ok n l k fun x hx => gi (hl.2 x hx).1.2
end Go.Proofs.Ytbojpedklnmidaa.D
end
section
set_option linter.unusedVariables false
set_option linter.unusedSimpArgs false
set_option linter.constructorNameAsVariable false
/- The row of AuditClosed, out of what the law answers to plain values. No condition beyond the statement's own. -/
namespace Go.Proofs.Ytbojpedklnmidaa.auditClosed
open Go.ChangeShapes Go.WideShapes Go.ChangeAt Go.RowKit Go.Proofs.Ytbojpedklnmidaa.D
open Go.ChangeMaps (open_string shut_string)
theorem own : ownKnob Try.prog.godebug = none := by kernel_rfl
theorem laidOut : laidOutB Try.prog = true := by kernel_rfl
theorem opn28 {H : Type} {enc : TypeId × Value → H} : Opn enc Try.prog 28 dotV gDt := by
  intro W base sp held fuel cs x h
  obtain ⟨xs, n, rfl, rfl, hl, hxl, hf⟩ := DataW.trod_struct Try.underlying28 h
  obtain ⟨a0, K0, G0⟩ := opn_field (sz := 1) hxl hf 0 _ rfl (opn_int Try.underlying3) (by kernel_rfl)
  obtain ⟨a1, K1, G1⟩ := opn_field (sz := 1) hxl hf 1 _ rfl (opn_int Try.underlying3) (by kernel_rfl)
  have hc : Try.prog.cellsOf 28 = 2 := by kernel_rfl
  rw [hc] at hl
  exact ⟨⟨a0, a1⟩, (rv_fields K0 (rv_last K1 hl)), ⟨G0, G1⟩⟩
theorem opn30 {H : Type} {enc : TypeId × Value → H} : Opn enc Try.prog 30 stV gSt3 := by
  intro W base sp held fuel cs x h
  obtain ⟨xs, n, rfl, rfl, hl, hxl, hf⟩ := DataW.trod_struct Try.underlying30 h
  obtain ⟨a0, K0, G0⟩ := opn_field (sz := 1) hxl hf 0 _ rfl (opn_int Try.underlying3) (by kernel_rfl)
  obtain ⟨a1, K1, G1⟩ := opn_field (sz := 1) hxl hf 1 _ rfl (opn_int Try.underlying3) (by kernel_rfl)
  obtain ⟨a2, K2, G2⟩ := opn_field (sz := 1) hxl hf 2 _ rfl (opn_int Try.underlying3) (by kernel_rfl)
  have hc : Try.prog.cellsOf 30 = 3 := by kernel_rfl
  rw [hc] at hl
  exact ⟨⟨a0, a1, a2⟩, (rv_fields K0 (rv_fields K1 (rv_last K2 hl))), ⟨G0, G1, G2⟩⟩
theorem opn60 {H : Type} {enc : TypeId × Value → H} : Opn enc Try.prog 60 vlV gVl := by
  intro W base sp held fuel cs x h
  obtain ⟨xs, n, rfl, rfl, hl, hxl, hf⟩ := DataW.trod_struct Try.underlying60 h
  obtain ⟨a0, K0, G0⟩ := opn_field (sz := 1) hxl hf 0 _ rfl (opn_int Try.underlying3) (by kernel_rfl)
  obtain ⟨a1, K1, G1⟩ := opn_field (sz := 1) hxl hf 1 _ rfl (opn_int Try.underlying3) (by kernel_rfl)
  obtain ⟨a2, K2, G2⟩ := opn_field (sz := 1) hxl hf 2 _ rfl (opn_string Try.underlying9) (by kernel_rfl)
  have hc : Try.prog.cellsOf 60 = 3 := by kernel_rfl
  rw [hc] at hl
  exact ⟨⟨a0, a1, a2⟩, (rv_fields K0 (rv_fields K1 (rv_last K2 hl))), ⟨G0, G1, G2⟩⟩
theorem opn34 {H : Type} {enc : TypeId × Value → H} : Opn enc Try.prog 34 opV gOpx := by
  intro W base sp held fuel cs x h
  obtain ⟨xs, n, rfl, rfl, hl, hxl, hf⟩ := DataW.trod_struct Try.underlying34 h
  obtain ⟨a0, K0, G0⟩ := opn_field (sz := 2) hxl hf 0 _ rfl opn28 (by kernel_rfl)
  obtain ⟨a1, K1, G1⟩ := opn_field (sz := 1) hxl hf 1 _ rfl (opn_slice (sz := 1) Try.underlying23 (opn_int Try.underlying3) (by kernel_rfl) (by decide) (fun _ => rfl)) (by kernel_rfl)
  obtain ⟨a2, K2, G2⟩ := opn_field (sz := 3) hxl hf 2 _ rfl opn30 (by kernel_rfl)
  obtain ⟨a3, K3, G3⟩ := opn_field (sz := 1) hxl hf 3 _ rfl (opn_int Try.underlying3) (by kernel_rfl)
  obtain ⟨a4, K4, G4⟩ := opn_field (sz := 1) hxl hf 4 _ rfl (opn_int Try.underlying3) (by kernel_rfl)
  obtain ⟨a5, K5, G5⟩ := opn_field (sz := 1) hxl hf 5 _ rfl (opn_string Try.underlying9) (by kernel_rfl)
  obtain ⟨a6, K6, G6⟩ := opn_field (sz := 1) hxl hf 6 _ rfl (opn_int Try.underlying3) (by kernel_rfl)
  obtain ⟨a7, K7, G7⟩ := opn_field (sz := 1) hxl hf 7 _ rfl (opn_slice (sz := 3) Try.underlying31 opn60 (by kernel_rfl) (by decide) (fun _ => rfl)) (by kernel_rfl)
  obtain ⟨a8, K8, G8⟩ := opn_field (sz := 1) hxl hf 8 _ rfl (opn_slice (sz := 2) Try.underlying32 opn28 (by kernel_rfl) (by decide) (fun _ => rfl)) (by kernel_rfl)
  have hc : Try.prog.cellsOf 34 = 12 := by kernel_rfl
  rw [hc] at hl
  exact ⟨⟨a0, a1, a2, a3, a4, a5, a6, a7, a8⟩, (rv_fields K0 (rv_fields K1 (rv_fields K2 (rv_fields K3 (rv_fields K4 (rv_fields K5 (rv_fields K6 (rv_fields K7 (rv_last K8 hl))))))))), ⟨G0, G1, G2, G3, G4, G5, G6, G7, G8⟩⟩
set_option maxRecDepth 100000 in
set_option maxHeartbeats 2000000 in
theorem lifted (os : Os) (started : os.Started) (H : Type) (enc : TypeId × Value → H) :
    ReturnsInHanded {} Try.checked os 5 .any (Rows.auditClosedSpec.pre6 enc Try.prog Try.f5 Rows.auditClosedRow.domain false) (Rows.auditClosedSpec.post enc Try.prog Try.f5 false true false false) := by
  refine returnsInHanded_of_change_sized (C := Try.checked) own started (by kernel_rfl) Try.func5
    (ChangeSpec.witness6 (enc := enc) (C := Try.checked) false ⟨#[], #[.int .i64 0, .slice none 0 0, .int .i64 0], []⟩ 8 (by kernel_rfl) (by kernel_rfl) (by kernel_rfl) (by kernel_rfl)) ?_
  intro W base args ds gs before hval0 hW hcnd hsz0 _
  have hval : ∀ (j : Nat) t v, Try.f5.params[j]? = some t → args[j]? = some v → Value.okWide Try.prog W .any base t v := hval0
  have hW' := hW
  obtain ⟨p, q, hA0, hV, rfl, hfz, hnd⟩ := hW
  have hA : DataW.TrodAll enc Try.prog W 0 (fun _ => true) true Try.f5.params.toList args.toList ds p := hA0
  rw [Try.params5] at hA hval
  obtain ⟨v0, vs0, d0, ds0, p0, q0, hargs, rfl, rfl, h0, r0⟩ := trodAll_cons hA
  obtain ⟨v1, vs1, d1, ds1, p1, q1, rfl, rfl, rfl, h1, r1⟩ := trodAll_cons r0
  obtain ⟨v2, vs2, d2, ds2, p2, q2, rfl, rfl, rfl, h2, r2⟩ := trodAll_cons r1
  obtain ⟨rfl, rfl, rfl⟩ := trodAll_nil r2
  obtain rfl : args = #[v0, v1, v2] := by cases args; simp_all
  obtain ⟨rfl, rfl⟩ := trodVars_none hV
  have k0 := h0
  have lt0 : ∀ x ∈ p0, x.block < W.heap.size := by obtain ⟨m, hm⟩ := k0; exact DataW.trod_lt m _ _ _ hm
  obtain ⟨_, e0⟩ := okWide_int Try.underlying3 (hval 0 3 v0 rfl rfl)
  obtain ⟨a0, R0, G0⟩ := arg_one (opn_int Try.underlying3) (by rw [e0]; rfl) h0
  have k1 := h1
  have lt1 : ∀ x ∈ p1, x.block < W.heap.size := by obtain ⟨m, hm⟩ := k1; exact DataW.trod_lt m _ _ _ hm
  obtain ⟨_, _, _, e1⟩ := okWide_slice Try.underlying22 (hval 1 22 v1 rfl rfl)
  obtain ⟨a1, R1, G1⟩ := arg_one (opn_slice (sz := 12) Try.underlying22 opn34 (by kernel_rfl) (by decide) (fun _ => rfl)) (by rw [e1]; rfl) h1
  have k2 := h2
  have lt2 : ∀ x ∈ p2, x.block < W.heap.size := by obtain ⟨m, hm⟩ := k2; exact DataW.trod_lt m _ _ _ hm
  obtain ⟨_, e2⟩ := okWide_int Try.underlying3 (hval 2 3 v2 rfl rfl)
  obtain ⟨a2, R2, G2⟩ := arg_one (opn_int Try.underlying3) (by rw [e2]; rfl) h2
  clear hA0 hval0 hsz0
  have hfn := AuditClosed_law a0 a1 a2 G0 G1 G2
  refine (hfn.2 bkA W [v0, v1, v2] (RVs_cons R0 (RVs_cons R1 (RVs_cons R2 RVs_nil)))).mono fun e W' ⟨x, he, hr, bel⟩ => ?_
  subst he
  obtain rfl := res_true hr
  exact ⟨_, rfl, _, _, _, [], _, [], hW', trodAll_mk1 (shut_bool Try.underlying4 _), (trodAll_cons_mk (Below.trod laidOut (by kernel_rfl) (of_decide_eq_true (by kernel_rfl)) k0 bel lt0) (trodAll_cons_mk (Below.trod laidOut (by kernel_rfl) (of_decide_eq_true (by kernel_rfl)) k1 bel lt1) (trodAll_cons_mk (Below.trod laidOut (by kernel_rfl) (of_decide_eq_true (by kernel_rfl)) k2 bel lt2) trodAll_mk0))), rfl, bel.frame _, fun h => by cases h⟩
theorem over : Rows.auditClosedRow.holds Try.pinned (OpenSpec.ofChange Rows.auditClosedSpec) :=
  OpenClaim.holds_of_wide 5 Try.f5 rfl rfl rfl rfl rfl rfl rfl ⟨rfl, rfl, rfl, rfl, rfl⟩ rfl rfl rfl rfl rfl (by kernel_rfl) Try.func5 (by kernel_rfl)
    (of_decide_eq_true (by kernel_rfl)) (by unfold Func.isWrapper; first | (rw [if_pos (by decide +kernel)]; kernel_rfl) | (rw [if_neg (by decide +kernel)]; exact ⟨rfl, rfl⟩))
    (fun os started H enc _ => lifted os started H enc)
theorem proved : Rows.AuditClosedSaid := over
#print axioms proved
end Go.Proofs.Ytbojpedklnmidaa.auditClosed
namespace Go.Proofs.Ytbojpedklnmidaa
/-- The row, under a short name, for the claim. -/
theorem auditClosed_holds : Rows.AuditClosedSaid := auditClosed.proved
end Go.Proofs.Ytbojpedklnmidaa
end
