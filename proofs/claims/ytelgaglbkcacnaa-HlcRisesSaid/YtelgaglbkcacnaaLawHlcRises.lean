/- The row of HlcRises, out of its pure statement and the walk. No condition beyond the statement's own. -/
import Derived.Test.YtelgaglbkcacnaaRows
import Derived.Test.YtelgaglbkcacnaaB8
import Derived.Test.YtelgaglbkcacnaaSayHlcRises
import Derived.Test.YtelgaglbkcacnaaPureHlcRises
import Derived.WalkKit
import Derived.ProofKit
import Derived.OpenShut
import Derived.ShutString
import Derived.ChangeOld
import Derived.Below
import Derived.SizedLaws
namespace Go.Proofs.Ytelgaglbkcacnaa.hlcRises
open Go.ChangeShapes Go.WideShapes Go.ChangeAt Go.RowKit Go.Proofs.Ytelgaglbkcacnaa.Open Go.Proofs.Ytelgaglbkcacnaa.B Go.Proofs.YtelgaglbkcacnaaW.PrintWords Go.Proofs.YtelgaglbkcacnaaW.PrintLast
open Go.ChangeMaps (open_string shut_string)
set_option linter.unusedVariables false
set_option linter.unusedSimpArgs false
theorem own : ownKnob Try.prog.godebug = none := by kernel_rfl
theorem laidOut : laidOutB Try.prog = true := by kernel_rfl
set_option maxRecDepth 100000 in
theorem lifted (os : Os) (started : os.Started) (H : Type) (enc : TypeId × Value → H) :
    ReturnsInHanded {} Try.checked os 6 .any (Rows.hlcRisesSpec.pre6 enc Try.prog Try.f6 Rows.hlcRisesRow.domain false) (Rows.hlcRisesSpec.post enc Try.prog Try.f6 false true false false) := by
  refine returnsInHanded_of_change_sized (C := Try.checked) own started (by kernel_rfl) Try.func6
    (ChangeSpec.witness6 (enc := enc) (C := Try.checked) false ⟨#[], #[.agg #[(.int .i64 0), (.int .i64 0), (.int .i64 0)], .agg #[(.int .i64 0), (.int .i64 0), (.int .i64 0)], .agg #[(.int .i64 0), (.int .i64 0), (.int .i64 0)], .int .i64 0, .int .i64 0], []⟩ 8 (by kernel_rfl) (by kernel_rfl) (by kernel_rfl) (by kernel_rfl)) ?_
  intro W base args ds gs before hval0 hW hcnd hsz0 _
  have hval : ∀ (j : Nat) t v, Try.f6.params[j]? = some t → args[j]? = some v → Value.okWide Try.prog W .any base t v := hval0
  have hW' := hW
  obtain ⟨p, q, hA0, hV, rfl, hfz, hnd⟩ := hW
  have hA : DataW.TrodAll enc Try.prog W 0 (fun _ => true) true Try.f6.params.toList args.toList ds p := hA0
  rw [Try.params6] at hA hval
  obtain ⟨v0, vs0, d0, ds0, p0, q0, hargs, rfl, rfl, h0, r0⟩ := trodAll_cons hA
  obtain ⟨v1, vs1, d1, ds1, p1, q1, rfl, rfl, rfl, h1, r1⟩ := trodAll_cons r0
  obtain ⟨v2, vs2, d2, ds2, p2, q2, rfl, rfl, rfl, h2, r2⟩ := trodAll_cons r1
  obtain ⟨v3, vs3, d3, ds3, p3, q3, rfl, rfl, rfl, h3, r3⟩ := trodAll_cons r2
  obtain ⟨v4, vs4, d4, ds4, p4, q4, rfl, rfl, rfl, h4, r4⟩ := trodAll_cons r3
  obtain ⟨rfl, rfl, rfl⟩ := trodAll_nil r4
  obtain rfl : args = #[v0, v1, v2, v3, v4] := by cases args; simp_all
  obtain ⟨rfl, rfl⟩ := trodVars_none hV
  have k0 := h0
  have lt0 : ∀ x ∈ p0, x.block < W.heap.size := by obtain ⟨m, hm⟩ := k0; exact DataW.trod_lt m _ _ _ hm
  obtain ⟨cs0, hagg0, hsz0, _⟩ : ∃ cs, v0 = .agg cs ∧ cs.size = _ ∧ _ := by have z := (hval 0 24 v0 rfl rfl); unfold Value.okWide at z; rw [Try.underlying24] at z; exact z
  subst hagg0
  obtain ⟨fuel0, hf0⟩ := h0
  obtain ⟨x0, K0, G0⟩ := opens24 hf0
  have hcs0 := k24_open K0
  obtain rfl : cs0 = #[(.int .i64 x0.f0), (.int .i64 x0.f1), (.int .i64 x0.f2)] := by have z := congrArg List.toArray hcs0; simpa [Value.cells] using z
  have k1 := h1
  have lt1 : ∀ x ∈ p1, x.block < W.heap.size := by obtain ⟨m, hm⟩ := k1; exact DataW.trod_lt m _ _ _ hm
  obtain ⟨cs1, hagg1, hsz1, _⟩ : ∃ cs, v1 = .agg cs ∧ cs.size = _ ∧ _ := by have z := (hval 1 24 v1 rfl rfl); unfold Value.okWide at z; rw [Try.underlying24] at z; exact z
  subst hagg1
  obtain ⟨fuel1, hf1⟩ := h1
  obtain ⟨x1, K1, G1⟩ := opens24 hf1
  have hcs1 := k24_open K1
  obtain rfl : cs1 = #[(.int .i64 x1.f0), (.int .i64 x1.f1), (.int .i64 x1.f2)] := by have z := congrArg List.toArray hcs1; simpa [Value.cells] using z
  have k2 := h2
  have lt2 : ∀ x ∈ p2, x.block < W.heap.size := by obtain ⟨m, hm⟩ := k2; exact DataW.trod_lt m _ _ _ hm
  obtain ⟨cs2, hagg2, hsz2, _⟩ : ∃ cs, v2 = .agg cs ∧ cs.size = _ ∧ _ := by have z := (hval 2 24 v2 rfl rfl); unfold Value.okWide at z; rw [Try.underlying24] at z; exact z
  subst hagg2
  obtain ⟨fuel2, hf2⟩ := h2
  obtain ⟨x2, K2, G2⟩ := opens24 hf2
  have hcs2 := k24_open K2
  obtain rfl : cs2 = #[(.int .i64 x2.f0), (.int .i64 x2.f1), (.int .i64 x2.f2)] := by have z := congrArg List.toArray hcs2; simpa [Value.cells] using z
  have k3 := h3
  have lt3 : ∀ x ∈ p3, x.block < W.heap.size := by obtain ⟨m, hm⟩ := k3; exact DataW.trod_lt m _ _ _ hm
  obtain ⟨a3, rfl, rfl, rfl, w3⟩ := open_int Try.underlying3 (hval 3 3 v3 rfl rfl) h3
  have k4 := h4
  have lt4 : ∀ x ∈ p4, x.block < W.heap.size := by obtain ⟨m, hm⟩ := k4; exact DataW.trod_lt m _ _ _ hm
  obtain ⟨a4, rfl, rfl, rfl, w4⟩ := open_int Try.underlying3 (hval 4 3 v4 rfl rfl) h4
  clear hA0 hval0 hsz0
  obtain ⟨k, h⟩ := Pure.HlcRises x0.f0 x0.f1 x0.f2 x1.f0 x1.f1 x1.f2 x2.f0 x2.f1 x2.f2 a3 a4 G0.1 G0.2.1 G0.2.2 G1.1 G1.2.1 G1.2.2 G2.1 G2.2.1 G2.2.2 w3 w4
  refine (L06_HlcRises.calls (k := k) (r := true) (w := W)  (hlaw := rfl) (h := h)).mono fun e W' ⟨he, bel0⟩ => ?_
  have bel : Below W.heap.size W W' := bel0
  subst he
  exact ⟨_, rfl, _, _, _, [], _, [], hW', trodAll_mk1 (shut_bool Try.underlying4 _), (trodAll_cons_mk (Below.trod laidOut (by kernel_rfl) (of_decide_eq_true (by kernel_rfl)) k0 bel lt0) (trodAll_cons_mk (Below.trod laidOut (by kernel_rfl) (of_decide_eq_true (by kernel_rfl)) k1 bel lt1) (trodAll_cons_mk (Below.trod laidOut (by kernel_rfl) (of_decide_eq_true (by kernel_rfl)) k2 bel lt2) (trodAll_cons_mk (Below.trod laidOut (by kernel_rfl) (of_decide_eq_true (by kernel_rfl)) k3 bel lt3) (trodAll_cons_mk (Below.trod laidOut (by kernel_rfl) (of_decide_eq_true (by kernel_rfl)) k4 bel lt4) trodAll_mk0))))), rfl, bel.frame _, fun h => by cases h⟩
theorem over : Rows.hlcRisesRow.holds Try.pinned (OpenSpec.ofChange Rows.hlcRisesSpec) :=
  OpenClaim.holds_of_wide 6 Try.f6 rfl rfl rfl rfl rfl rfl rfl ⟨rfl, rfl, rfl, rfl, rfl⟩ rfl rfl rfl rfl rfl (by kernel_rfl) Try.func6 (by kernel_rfl)
    (of_decide_eq_true (by kernel_rfl)) (by unfold Func.isWrapper; first | (rw [if_pos (by decide +kernel)]; kernel_rfl) | (rw [if_neg (by decide +kernel)]; exact ⟨rfl, rfl⟩))
    (fun os started H enc _ => lifted os started H enc)
theorem proved : Rows.HlcRisesSaid := over
#print axioms proved
end Go.Proofs.Ytelgaglbkcacnaa.hlcRises
namespace Go.Proofs.Ytelgaglbkcacnaa
/-- The row, under a short name, for the claim. -/
theorem hlcRises_holds : Rows.HlcRisesSaid := hlcRises.proved
end Go.Proofs.Ytelgaglbkcacnaa
