/- The statement BeamTrueSaid of the given program holds; no conditions but the statement's own. -/
import Derived.Test.YtlolfijadcflaaaRows
import Derived.Test.YtlolfijadcflaaaBtPxVolutelaw12Beamtrue
import Derived.Test.YtlolfijadcflaaaBtFourFacts
import Derived.WalkKit
import Derived.ProofKit
import Derived.OpenShut
import Derived.ShutString
import Derived.ChangeOld
import Derived.Below
import Derived.SizedLaws
import Derived.Test.YtlolfijadcflaaaBtV
namespace Go.Proofs.Ytlolfijadcflaaa.beamTrue
open Go.ChangeShapes Go.WideShapes Go.ChangeAt Go.RowKit Go.Proofs.Ytlolfijadcflaaa.P Go.Proofs.YtlolfijadcflaaaW.PrintWords Go.Proofs.YtlolfijadcflaaaW.PrintLast Go.Proofs.YtlolfijadcflaaaW.PrintMore
open Go.ChangeMaps (open_string shut_string)
set_option linter.unusedVariables false
set_option linter.unusedSimpArgs false
theorem own : ownKnob Try.prog.godebug = none := by kernel_rfl
theorem laidOut : laidOutB Try.prog = true := by kernel_rfl
set_option maxRecDepth 100000 in
theorem lifted (os : Os) (started : os.Started) (H : Type) (enc : TypeId × Value → H) :
    ReturnsInHanded {} Try.checked os 13 .any (Rows.beamTrueSpec.pre6 enc Try.prog Try.f13 Rows.beamTrueRow.domain false) (Rows.beamTrueSpec.post enc Try.prog Try.f13 false true false false) := by
  refine returnsInHanded_of_change_sized (C := Try.checked) own started (by kernel_rfl) Try.func13
    (ChangeSpec.witness6 (enc := enc) (C := Try.checked) false ⟨#[], #[.slice none 0 0, .int .i64 0, .int .i64 0, .slice none 0 0, .int .i64 0, .int .i64 0], []⟩ 8 (by kernel_rfl) (by kernel_rfl) (by kernel_rfl) (by kernel_rfl)) ?_
  intro W base args ds gs before hval0 hW hcnd hsz0 _
  have hsz : (DataW.weightsEach Try.prog (Try.f13.params.toList ++ Rows.beamTrueSpec.plain.varTypes Try.prog) (ds ++ gs)).all (· ≤ reachBytes) = true := hsz0
  have hval : ∀ (j : Nat) t v, Try.f13.params[j]? = some t → args[j]? = some v → Value.okWide Try.prog W .any base t v := hval0
  have hW' := hW
  obtain ⟨p, q, hA0, hV, rfl, hfz, hnd⟩ := hW
  have hA : DataW.TrodAll enc Try.prog W 0 (fun _ => true) true Try.f13.params.toList args.toList ds p := hA0
  rw [Try.params13] at hA hval hsz
  obtain ⟨v0, vs0, d0, ds0, p0, q0, hargs, rfl, rfl, h0, r0⟩ := trodAll_cons hA
  obtain ⟨v1, vs1, d1, ds1, p1, q1, rfl, rfl, rfl, h1, r1⟩ := trodAll_cons r0
  obtain ⟨v2, vs2, d2, ds2, p2, q2, rfl, rfl, rfl, h2, r2⟩ := trodAll_cons r1
  obtain ⟨v3, vs3, d3, ds3, p3, q3, rfl, rfl, rfl, h3, r3⟩ := trodAll_cons r2
  obtain ⟨v4, vs4, d4, ds4, p4, q4, rfl, rfl, rfl, h4, r4⟩ := trodAll_cons r3
  obtain ⟨v5, vs5, d5, ds5, p5, q5, rfl, rfl, rfl, h5, r5⟩ := trodAll_cons r4
  obtain ⟨rfl, rfl, rfl⟩ := trodAll_nil r5
  obtain rfl : args = #[v0, v1, v2, v3, v4, v5] := by cases args; simp_all
  obtain ⟨rfl, rfl⟩ := trodVars_none hV
  have k0 := h0
  have lt0 : ∀ x ∈ p0, x.block < W.heap.size := by obtain ⟨m, hm⟩ := k0; exact DataW.trod_lt m _ _ _ hm
  have op0 : ∃ x, (Kd.slice 5 (Kd.int .u8)).K W x v0.cells.toList ∧ _ := Opens.trod (enc := enc) (Opens.slice Try.underlying24 (by kernel_rfl) (Opens.int Try.underlying5)) h0
  obtain ⟨a0, len0, cap0, rfl⟩ := okWide_slice Try.underlying24 (hval 0 24 v0 rfl rfl)
  have y0 := sized_ints (B := 1) hsz (j := 0) (t := 24) rfl rfl Try.underlying24 Try.underlying5 (by kernel_rfl) (by kernel_rfl) h0
  obtain ⟨x0, ⟨A0, c0, he0, hl0, hC0⟩, ok0⟩ := op0
  have he0' : [Value.slice a0 len0 cap0] = [.slice A0 x0.length c0] := he0
  clear he0
  injection he0' with he0 _
  injection he0 with f1_0 f2_0 f3_0
  subst f1_0; subst f2_0; subst f3_0
  have k1 := h1
  have lt1 : ∀ x ∈ p1, x.block < W.heap.size := by obtain ⟨m, hm⟩ := k1; exact DataW.trod_lt m _ _ _ hm
  have op1 : ∃ x, (Kd.int .i64).K W x v1.cells.toList ∧ _ := Opens.trod (enc := enc) (Opens.int Try.underlying3) h1
  obtain ⟨x1, hK1, ok1⟩ := op1
  obtain ⟨z1, rfl⟩ := okWide_int Try.underlying3 (hval 1 3 v1 rfl rfl)
  have hK1' : [Value.int .i64 z1] = [.int .i64 x1] := hK1
  clear hK1
  injection hK1' with hK1 _
  injection hK1 with _ f1_1
  replace f1_1 := f1_1.symm
  subst f1_1
  have k2 := h2
  have lt2 : ∀ x ∈ p2, x.block < W.heap.size := by obtain ⟨m, hm⟩ := k2; exact DataW.trod_lt m _ _ _ hm
  have op2 : ∃ x, (Kd.int .i64).K W x v2.cells.toList ∧ _ := Opens.trod (enc := enc) (Opens.int Try.underlying3) h2
  obtain ⟨x2, hK2, ok2⟩ := op2
  obtain ⟨z2, rfl⟩ := okWide_int Try.underlying3 (hval 2 3 v2 rfl rfl)
  have hK2' : [Value.int .i64 z2] = [.int .i64 x2] := hK2
  clear hK2
  injection hK2' with hK2 _
  injection hK2 with _ f1_2
  replace f1_2 := f1_2.symm
  subst f1_2
  have k3 := h3
  have lt3 : ∀ x ∈ p3, x.block < W.heap.size := by obtain ⟨m, hm⟩ := k3; exact DataW.trod_lt m _ _ _ hm
  have op3 : ∃ x, (Kd.slice 4 Kd.bool).K W x v3.cells.toList ∧ _ := Opens.trod (enc := enc) (Opens.slice Try.underlying93 (by kernel_rfl) (Opens.bool Try.underlying4)) h3
  obtain ⟨a3, len3, cap3, rfl⟩ := okWide_slice Try.underlying93 (hval 3 93 v3 rfl rfl)
  obtain ⟨x3, ⟨A3, c3, he3, hl3, hC3⟩, ok3⟩ := op3
  have he3' : [Value.slice a3 len3 cap3] = [.slice A3 x3.length c3] := he3
  clear he3
  injection he3' with he3 _
  injection he3 with f1_3 f2_3 f3_3
  subst f1_3; subst f2_3; subst f3_3
  have k4 := h4
  have lt4 : ∀ x ∈ p4, x.block < W.heap.size := by obtain ⟨m, hm⟩ := k4; exact DataW.trod_lt m _ _ _ hm
  have op4 : ∃ x, (Kd.int .i64).K W x v4.cells.toList ∧ _ := Opens.trod (enc := enc) (Opens.int Try.underlying3) h4
  obtain ⟨x4, hK4, ok4⟩ := op4
  obtain ⟨z4, rfl⟩ := okWide_int Try.underlying3 (hval 4 3 v4 rfl rfl)
  have hK4' : [Value.int .i64 z4] = [.int .i64 x4] := hK4
  clear hK4
  injection hK4' with hK4 _
  injection hK4 with _ f1_4
  replace f1_4 := f1_4.symm
  subst f1_4
  have k5 := h5
  have lt5 : ∀ x ∈ p5, x.block < W.heap.size := by obtain ⟨m, hm⟩ := k5; exact DataW.trod_lt m _ _ _ hm
  have op5 : ∃ x, (Kd.int .i64).K W x v5.cells.toList ∧ _ := Opens.trod (enc := enc) (Opens.int Try.underlying3) h5
  obtain ⟨x5, hK5, ok5⟩ := op5
  obtain ⟨z5, rfl⟩ := okWide_int Try.underlying3 (hval 5 3 v5 rfl rfl)
  have hK5' : [Value.int .i64 z5] = [.int .i64 x5] := hK5
  clear hK5
  injection hK5' with hK5 _
  injection hK5 with _ f1_5
  replace f1_5 := f1_5.symm
  subst f1_5
  clear hA0 hval0 hsz0 hsz
  obtain ⟨k_, hf_⟩ := Pure.BeamTrue x0 x1 x2 x3 x4 x5 ok0 y0 ok1 ok2 ok3 ok4 ok5
  have hcalls := P.volutelaw12_BeamTrue.calls (w := W) (h := hf_) (hr0 := hC0) (hc0 := hl0) (hr3 := hC3) (hc3 := hl3)
  refine hcalls.mono fun e W' ⟨he, bel⟩ => ?_
  subst he
  exact ⟨_, rfl, _, _, _, [], _, [], hW', trodAll_mk1 (shut_bool Try.underlying4 _), (trodAll_cons_mk (Below.trod laidOut (by kernel_rfl) (of_decide_eq_true (by kernel_rfl)) k0 bel lt0) (trodAll_cons_mk (Below.trod laidOut (by kernel_rfl) (of_decide_eq_true (by kernel_rfl)) k1 bel lt1) (trodAll_cons_mk (Below.trod laidOut (by kernel_rfl) (of_decide_eq_true (by kernel_rfl)) k2 bel lt2) (trodAll_cons_mk (Below.trod laidOut (by kernel_rfl) (of_decide_eq_true (by kernel_rfl)) k3 bel lt3) (trodAll_cons_mk (Below.trod laidOut (by kernel_rfl) (of_decide_eq_true (by kernel_rfl)) k4 bel lt4) (trodAll_cons_mk (Below.trod laidOut (by kernel_rfl) (of_decide_eq_true (by kernel_rfl)) k5 bel lt5) trodAll_mk0)))))), rfl, bel.frame _, fun h => by cases h⟩
theorem over : Rows.beamTrueRow.holds Try.pinned (OpenSpec.ofChange Rows.beamTrueSpec) :=
  OpenClaim.holds_of_wide 13 Try.f13 rfl rfl rfl rfl rfl rfl rfl ⟨rfl, rfl, rfl, rfl, rfl⟩ rfl rfl rfl rfl rfl (by kernel_rfl) Try.func13 (by kernel_rfl)
    (of_decide_eq_true (by kernel_rfl)) (by unfold Func.isWrapper; first | (rw [if_pos (by decide +kernel)]; kernel_rfl) | (rw [if_neg (by decide +kernel)]; exact ⟨rfl, rfl⟩))
    (fun os started H enc _ => lifted os started H enc)
theorem proved : Rows.BeamTrueSaid := over
end Go.Proofs.Ytlolfijadcflaaa.beamTrue
namespace Go.Proofs.Ytlolfijadcflaaa
theorem beamTrue_holds : Rows.BeamTrueSaid := beamTrue.proved
end Go.Proofs.Ytlolfijadcflaaa
