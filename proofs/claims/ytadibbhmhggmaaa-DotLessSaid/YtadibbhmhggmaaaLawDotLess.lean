/- The row of DotLess, out of its pure statement and the walk. No condition beyond the statement's own. -/
import Derived.Test.YtadibbhmhggmaaaRows
import Derived.Test.YtadibbhmhggmaaaB11
import Derived.Test.YtadibbhmhggmaaaSayDotLess
import Derived.Test.YtadibbhmhggmaaaPureDotLess
import Derived.WalkKit
import Derived.ProofKit
import Derived.OpenShut
import Derived.ShutString
import Derived.ChangeOld
import Derived.Below
import Derived.SizedLaws
namespace Go.Proofs.Ytadibbhmhggmaaa.dotLess
open Go.ChangeShapes Go.WideShapes Go.ChangeAt Go.RowKit Go.Proofs.Ytadibbhmhggmaaa.Open Go.Proofs.Ytadibbhmhggmaaa.B Go.Proofs.YtadibbhmhggmaaaW.PrintWords Go.Proofs.YtadibbhmhggmaaaW.PrintLast
open Go.ChangeMaps (open_string shut_string)
set_option linter.unusedVariables false
set_option linter.unusedSimpArgs false
theorem own : ownKnob Try.prog.godebug = none := by kernel_rfl
theorem laidOut : laidOutB Try.prog = true := by kernel_rfl
set_option maxRecDepth 100000 in
theorem lifted (os : Os) (started : os.Started) (H : Type) (enc : TypeId × Value → H) :
    ReturnsInHanded {} Try.checked os 6 .any (Rows.dotLessSpec.pre6 enc Try.prog Try.f6 Rows.dotLessRow.domain false) (Rows.dotLessSpec.post enc Try.prog Try.f6 false true false false) := by
  refine returnsInHanded_of_change_sized (C := Try.checked) own started (by kernel_rfl) Try.func6
    (ChangeSpec.witness6 (enc := enc) (C := Try.checked) false ⟨#[], #[.agg #[(.int .i64 0), (.int .i64 0)], .agg #[(.int .i64 0), (.int .i64 0)], .agg #[(.int .i64 0), (.int .i64 0)]], []⟩ 8 (by kernel_rfl) (by kernel_rfl) (by kernel_rfl) (by kernel_rfl)) ?_
  intro W base args ds gs before hval0 hW hcnd hsz0 _
  have hval : ∀ (j : Nat) t v, Try.f6.params[j]? = some t → args[j]? = some v → Value.okWide Try.prog W .any base t v := hval0
  have hW' := hW
  obtain ⟨p, q, hA0, hV, rfl, hfz, hnd⟩ := hW
  have hA : DataW.TrodAll enc Try.prog W 0 (fun _ => true) true Try.f6.params.toList args.toList ds p := hA0
  rw [Try.params6] at hA hval
  obtain ⟨v0, vs0, d0, ds0, p0, q0, hargs, rfl, rfl, h0, r0⟩ := trodAll_cons hA
  obtain ⟨v1, vs1, d1, ds1, p1, q1, rfl, rfl, rfl, h1, r1⟩ := trodAll_cons r0
  obtain ⟨v2, vs2, d2, ds2, p2, q2, rfl, rfl, rfl, h2, r2⟩ := trodAll_cons r1
  obtain ⟨rfl, rfl, rfl⟩ := trodAll_nil r2
  obtain rfl : args = #[v0, v1, v2] := by cases args; simp_all
  obtain ⟨rfl, rfl⟩ := trodVars_none hV
  have k0 := h0
  have lt0 : ∀ x ∈ p0, x.block < W.heap.size := by obtain ⟨m, hm⟩ := k0; exact DataW.trod_lt m _ _ _ hm
  obtain ⟨cs0, hagg0, hsz0, _⟩ : ∃ cs, v0 = .agg cs ∧ cs.size = _ ∧ _ := by have z := (hval 0 24 v0 rfl rfl); unfold Value.okWide at z; rw [Try.underlying24] at z; exact z
  subst hagg0
  obtain ⟨fuel0, hf0⟩ := h0
  obtain ⟨x0, FT0, G0⟩ := opens24 hf0
  have K0 := Foot.now FT0
  have hcs0 := k24_open K0
  obtain rfl : cs0 = #[(.int .i64 x0.f0), (.int .i64 x0.f1)] := by have z := congrArg List.toArray hcs0; simpa [Value.cells] using z
  have k1 := h1
  have lt1 : ∀ x ∈ p1, x.block < W.heap.size := by obtain ⟨m, hm⟩ := k1; exact DataW.trod_lt m _ _ _ hm
  obtain ⟨cs1, hagg1, hsz1, _⟩ : ∃ cs, v1 = .agg cs ∧ cs.size = _ ∧ _ := by have z := (hval 1 24 v1 rfl rfl); unfold Value.okWide at z; rw [Try.underlying24] at z; exact z
  subst hagg1
  obtain ⟨fuel1, hf1⟩ := h1
  obtain ⟨x1, FT1, G1⟩ := opens24 hf1
  have K1 := Foot.now FT1
  have hcs1 := k24_open K1
  obtain rfl : cs1 = #[(.int .i64 x1.f0), (.int .i64 x1.f1)] := by have z := congrArg List.toArray hcs1; simpa [Value.cells] using z
  have k2 := h2
  have lt2 : ∀ x ∈ p2, x.block < W.heap.size := by obtain ⟨m, hm⟩ := k2; exact DataW.trod_lt m _ _ _ hm
  obtain ⟨cs2, hagg2, hsz2, _⟩ : ∃ cs, v2 = .agg cs ∧ cs.size = _ ∧ _ := by have z := (hval 2 24 v2 rfl rfl); unfold Value.okWide at z; rw [Try.underlying24] at z; exact z
  subst hagg2
  obtain ⟨fuel2, hf2⟩ := h2
  obtain ⟨x2, FT2, G2⟩ := opens24 hf2
  have K2 := Foot.now FT2
  have hcs2 := k24_open K2
  obtain rfl : cs2 = #[(.int .i64 x2.f0), (.int .i64 x2.f1)] := by have z := congrArg List.toArray hcs2; simpa [Value.cells] using z
  clear hA0 hval0 hsz0
  obtain ⟨k, h⟩ := Pure.DotLess x0.f0 x0.f1 x1.f0 x1.f1 x2.f0 x2.f1 G0.1 G0.2 G1.1 G1.2 G2.1 G2.2
  refine (L05_DotLess.calls (k := k) (r := true) (w := W)  (hlaw := rfl) (h := h)).mono fun e W' ⟨he, bel0⟩ => ?_
  have bel : Below W.heap.size W W' := bel0
  subst he
  exact ⟨_, rfl, _, _, _, [], _, [], hW', trodAll_mk1 (shut_bool Try.underlying4 _), (trodAll_cons_mk (Below.trod laidOut (by kernel_rfl) (of_decide_eq_true (by kernel_rfl)) k0 bel lt0) (trodAll_cons_mk (Below.trod laidOut (by kernel_rfl) (of_decide_eq_true (by kernel_rfl)) k1 bel lt1) (trodAll_cons_mk (Below.trod laidOut (by kernel_rfl) (of_decide_eq_true (by kernel_rfl)) k2 bel lt2) trodAll_mk0))), rfl, bel.frame _, fun h => by cases h⟩
theorem over : Rows.dotLessRow.holds Try.pinned (OpenSpec.ofChange Rows.dotLessSpec) :=
  OpenClaim.holds_of_wide 6 Try.f6 rfl rfl rfl rfl rfl rfl rfl ⟨rfl, rfl, rfl, rfl, rfl⟩ rfl rfl rfl rfl rfl (by kernel_rfl) Try.func6 (by kernel_rfl)
    (of_decide_eq_true (by kernel_rfl)) (by unfold Func.isWrapper; first | (rw [if_pos (by decide +kernel)]; kernel_rfl) | (rw [if_neg (by decide +kernel)]; exact ⟨rfl, rfl⟩))
    (fun os started H enc _ => lifted os started H enc)
theorem proved : Rows.DotLessSaid := over
#print axioms proved
end Go.Proofs.Ytadibbhmhggmaaa.dotLess
namespace Go.Proofs.Ytadibbhmhggmaaa
/-- The row, under a short name, for the claim. -/
theorem dotLess_holds : Rows.DotLessSaid := dotLess.proved
end Go.Proofs.Ytadibbhmhggmaaa
