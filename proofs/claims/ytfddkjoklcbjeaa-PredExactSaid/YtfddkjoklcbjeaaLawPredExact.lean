/- The row of PredExact, out of its pure statement and the walk. No condition beyond the statement's own. -/
import Derived.Test.YtfddkjoklcbjeaaRows
import Derived.Test.YtfddkjoklcbjeaaB10
import Derived.Test.YtfddkjoklcbjeaaSayPredExact
import Derived.Test.YtfddkjoklcbjeaaPurePredExact
import Derived.WalkKit
import Derived.ProofKit
import Derived.OpenShut
import Derived.ShutString
import Derived.ChangeOld
import Derived.Below
import Derived.SizedLaws
namespace Go.Proofs.Ytfddkjoklcbjeaa.predExact
open Go.ChangeShapes Go.WideShapes Go.ChangeAt Go.RowKit Go.Proofs.Ytfddkjoklcbjeaa.Open Go.Proofs.Ytfddkjoklcbjeaa.B Go.Proofs.YtfddkjoklcbjeaaW.PrintWords Go.Proofs.YtfddkjoklcbjeaaW.PrintLast
open Go.ChangeMaps (open_string shut_string)
set_option linter.unusedVariables false
set_option linter.unusedSimpArgs false
theorem own : ownKnob Try.prog.godebug = none := by kernel_rfl
theorem laidOut : laidOutB Try.prog = true := by kernel_rfl
set_option maxRecDepth 100000 in
theorem lifted (os : Os) (started : os.Started) (H : Type) (enc : TypeId × Value → H) :
    ReturnsInHanded {} Try.checked os 3 .any (Rows.predExactSpec.pre6 enc Try.prog Try.f3 Rows.predExactRow.domain false) (Rows.predExactSpec.post enc Try.prog Try.f3 false true false false) := by
  refine returnsInHanded_of_change_sized (C := Try.checked) own started (by kernel_rfl) Try.func3
    (ChangeSpec.witness6 (enc := enc) (C := Try.checked) false ⟨#[], #[.agg #[(.int .i64 0), (.int .i64 0), (.int .i64 0), (.int .i64 0), (.int .i64 0), (.string ⟨#[]⟩)], .slice none 0 0, .slice none 0 0], []⟩ 8 (by kernel_rfl) (by kernel_rfl) (by kernel_rfl) (by kernel_rfl)) ?_
  intro W base args ds gs before hval0 hW hcnd hsz0 _
  have hval : ∀ (j : Nat) t v, Try.f3.params[j]? = some t → args[j]? = some v → Value.okWide Try.prog W .any base t v := hval0
  have hW' := hW
  obtain ⟨p, q, hA0, hV, rfl, hfz, hnd⟩ := hW
  have hA : DataW.TrodAll enc Try.prog W 0 (fun _ => true) true Try.f3.params.toList args.toList ds p := hA0
  rw [Try.params3] at hA hval
  obtain ⟨v0, vs0, d0, ds0, p0, q0, hargs, rfl, rfl, h0, r0⟩ := trodAll_cons hA
  obtain ⟨v1, vs1, d1, ds1, p1, q1, rfl, rfl, rfl, h1, r1⟩ := trodAll_cons r0
  obtain ⟨v2, vs2, d2, ds2, p2, q2, rfl, rfl, rfl, h2, r2⟩ := trodAll_cons r1
  obtain ⟨rfl, rfl, rfl⟩ := trodAll_nil r2
  obtain rfl : args = #[v0, v1, v2] := by cases args; simp_all
  obtain ⟨rfl, rfl⟩ := trodVars_none hV
  have k0 := h0
  have lt0 : ∀ x ∈ p0, x.block < W.heap.size := by obtain ⟨m, hm⟩ := k0; exact DataW.trod_lt m _ _ _ hm
  obtain ⟨cs0, hagg0, hsz0, _⟩ : ∃ cs, v0 = .agg cs ∧ cs.size = _ ∧ _ := by have z := (hval 0 25 v0 rfl rfl); unfold Value.okWide at z; rw [Try.underlying25] at z; exact z
  subst hagg0
  obtain ⟨fuel0, hf0⟩ := h0
  obtain ⟨x0, K0, G0⟩ := opens25 hf0
  have hcs0 := k25_open K0
  obtain rfl : cs0 = #[(.int .i64 x0.f0), (.int .i64 x0.f1), (.int .i64 x0.f2), (.int .i64 x0.f3.f0), (.int .i64 x0.f3.f1), (.string x0.f3.f2)] := by have z := congrArg List.toArray hcs0; simpa [Value.cells] using z
  have k1 := h1
  have lt1 : ∀ x ∈ p1, x.block < W.heap.size := by obtain ⟨m, hm⟩ := k1; exact DataW.trod_lt m _ _ _ hm
  obtain ⟨A1, len1, c1, rfl⟩ := okWide_slice Try.underlying26 (hval 1 26 v1 rfl rfl)
  obtain ⟨fuel1, hf1⟩ := h1
  obtain ⟨l1, ⟨A', c', hcs1, hc1, hC1⟩, G1⟩ := (Open.opens_slice Try.underlying26 (Open.opens_int Try.underlying3) (by kernel_rfl) 3) hf1
  simp [Value.cells] at hcs1
  obtain ⟨rfl, rfl, rfl⟩ := hcs1
  have k2 := h2
  have lt2 : ∀ x ∈ p2, x.block < W.heap.size := by obtain ⟨m, hm⟩ := k2; exact DataW.trod_lt m _ _ _ hm
  obtain ⟨A2, len2, c2, rfl⟩ := okWide_slice Try.underlying27 (hval 2 27 v2 rfl rfl)
  obtain ⟨fuel2, hf2⟩ := h2
  obtain ⟨l2, ⟨A', c', hcs2, hc2, hC2⟩, G2⟩ := (Open.opens_slice Try.underlying27 opens23 (by kernel_rfl) 23) hf2
  simp [Value.cells] at hcs2
  obtain ⟨rfl, rfl, rfl⟩ := hcs2
  clear hA0 hval0 hsz0
  obtain ⟨k, h⟩ := Pure.PredExact x0.f0 x0.f1 x0.f2 x0.f3.f0 x0.f3.f1 x0.f3.f2 l1 l2 G0.1 G0.2.1 G0.2.2.1 G0.2.2.2.1 G0.2.2.2.2.1 G0.2.2.2.2.2 G1 G2
  refine (L15_PredExact.calls (k := k) (r := true) (w := W) (hr1 := hC1) (hc1 := hc1) (hr2 := hC2) (hc2 := hc2) (hlaw := rfl) (h := h)).mono fun e W' ⟨he, bel0⟩ => ?_
  have bel : Below W.heap.size W W' := bel0
  subst he
  exact ⟨_, rfl, _, _, _, [], _, [], hW', trodAll_mk1 (shut_bool Try.underlying4 _), (trodAll_cons_mk (Below.trod laidOut (by kernel_rfl) (of_decide_eq_true (by kernel_rfl)) k0 bel lt0) (trodAll_cons_mk (Below.trod laidOut (by kernel_rfl) (of_decide_eq_true (by kernel_rfl)) k1 bel lt1) (trodAll_cons_mk (Below.trod laidOut (by kernel_rfl) (of_decide_eq_true (by kernel_rfl)) k2 bel lt2) trodAll_mk0))), rfl, bel.frame _, fun h => by cases h⟩
theorem over : Rows.predExactRow.holds Try.pinned (OpenSpec.ofChange Rows.predExactSpec) :=
  OpenClaim.holds_of_wide 3 Try.f3 rfl rfl rfl rfl rfl rfl rfl ⟨rfl, rfl, rfl, rfl, rfl⟩ rfl rfl rfl rfl rfl (by kernel_rfl) Try.func3 (by kernel_rfl)
    (of_decide_eq_true (by kernel_rfl)) (by unfold Func.isWrapper; first | (rw [if_pos (by decide +kernel)]; kernel_rfl) | (rw [if_neg (by decide +kernel)]; exact ⟨rfl, rfl⟩))
    (fun os started H enc _ => lifted os started H enc)
theorem proved : Rows.PredExactSaid := over
#print axioms proved
end Go.Proofs.Ytfddkjoklcbjeaa.predExact
namespace Go.Proofs.Ytfddkjoklcbjeaa
/-- The row, under a short name, for the claim. -/
theorem predExact_holds : Rows.PredExactSaid := predExact.proved
end Go.Proofs.Ytfddkjoklcbjeaa
