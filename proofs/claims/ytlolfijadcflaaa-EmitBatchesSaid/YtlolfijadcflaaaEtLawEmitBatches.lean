/- The statement EmitBatchesSaid of the given program holds; no conditions but the statement's own. -/
import Derived.Test.YtlolfijadcflaaaRows
import Derived.Test.YtlolfijadcflaaaEtPxVolutelaw18Emitbatches
import Derived.Test.YtlolfijadcflaaaEtPureEmitBatches
import Derived.Test.YtlolfijadcflaaaEtOpens
import Derived.WalkKit
import Derived.ProofKit
import Derived.OpenShut
import Derived.ShutString
import Derived.ChangeOld
import Derived.Below
import Derived.SizedLaws
import Derived.Test.YtlolfijadcflaaaEtV
namespace Go.Proofs.Ytlolfijadcflaaa.emitBatches
open Go.ChangeShapes Go.WideShapes Go.ChangeAt Go.RowKit Go.Proofs.Ytlolfijadcflaaa.P Go.Proofs.YtlolfijadcflaaaW.PrintWords Go.Proofs.YtlolfijadcflaaaW.PrintLast Go.Proofs.YtlolfijadcflaaaW.PrintMore
open Go.ChangeMaps (open_string shut_string)
set_option linter.unusedVariables false
set_option linter.unusedSimpArgs false
theorem own : ownKnob Try.prog.godebug = none := by kernel_rfl
theorem laidOut : laidOutB Try.prog = true := by kernel_rfl
set_option maxRecDepth 100000 in
theorem lifted (os : Os) (started : os.Started) (H : Type) (enc : TypeId × Value → H) :
    ReturnsInHanded {} Try.checked os 3 .any (Rows.emitBatchesSpec.pre6 enc Try.prog Try.f3 Rows.emitBatchesRow.domain false) (Rows.emitBatchesSpec.post enc Try.prog Try.f3 false true false false) := by
  refine returnsInHanded_of_change_sized (C := Try.checked) own started (by kernel_rfl) Try.func3
    (ChangeSpec.witness6 (enc := enc) (C := Try.checked) false ⟨#[], #[.agg #[.int .i64 0, .int .i64 0, .int .i64 0, .int .i64 0, .int .i64 0, .int .i64 0, .int .i64 0, .int .i64 0, .int .i64 0, .int .i64 0], .int .i64 0, .slice none 0 0], []⟩ 8 (by kernel_rfl) (by kernel_rfl) (by kernel_rfl) (by kernel_rfl)) ?_
  intro W base args ds gs before hval0 hW hcnd hsz0 _
  have hsz : (DataW.weightsEach Try.prog (Try.f3.params.toList ++ Rows.emitBatchesSpec.plain.varTypes Try.prog) (ds ++ gs)).all (· ≤ reachBytes) = true := hsz0
  have hval : ∀ (j : Nat) t v, Try.f3.params[j]? = some t → args[j]? = some v → Value.okWide Try.prog W .any base t v := hval0
  have hW' := hW
  obtain ⟨p, q, hA0, hV, rfl, hfz, hnd⟩ := hW
  have hA : DataW.TrodAll enc Try.prog W 0 (fun _ => true) true Try.f3.params.toList args.toList ds p := hA0
  rw [Try.params3] at hA hval hsz
  obtain ⟨v0, vs0, d0, ds0, p0, q0, hargs, rfl, rfl, h0, r0⟩ := trodAll_cons hA
  obtain ⟨v1, vs1, d1, ds1, p1, q1, rfl, rfl, rfl, h1, r1⟩ := trodAll_cons r0
  obtain ⟨v2, vs2, d2, ds2, p2, q2, rfl, rfl, rfl, h2, r2⟩ := trodAll_cons r1
  obtain ⟨rfl, rfl, rfl⟩ := trodAll_nil r2
  obtain rfl : args = #[v0, v1, v2] := by cases args; simp_all
  obtain ⟨rfl, rfl⟩ := trodVars_none hV
  have k0 := h0
  have lt0 : ∀ x ∈ p0, x.block < W.heap.size := by obtain ⟨m, hm⟩ := k0; exact DataW.trod_lt m _ _ _ hm
  have op0 : ∃ x, (Kd.pair (Kd.int .i64) (Kd.pair (Kd.int .i64) (Kd.pair (Kd.int .i64) (Kd.pair (Kd.int .i64) (Kd.pair (Kd.int .i64) (Kd.pair (Kd.int .i64) (Kd.pair (Kd.int .i64) (Kd.pair (Kd.int .i64) (Kd.pair (Kd.int .i64) (Kd.int .i64)))))))))).K W x v0.cells.toList ∧ _ := Opens.trod (enc := enc) (Opens.tuple (fs := _) Try.underlying23 (by kernel_rfl) (OpensF.cons (by kernel_rfl) (by kernel_rfl) (Opens.int Try.underlying3) (OpensF.cons (by kernel_rfl) (by kernel_rfl) (Opens.int Try.underlying3) (OpensF.cons (by kernel_rfl) (by kernel_rfl) (Opens.int Try.underlying3) (OpensF.cons (by kernel_rfl) (by kernel_rfl) (Opens.int Try.underlying3) (OpensF.cons (by kernel_rfl) (by kernel_rfl) (Opens.int Try.underlying3) (OpensF.cons (by kernel_rfl) (by kernel_rfl) (Opens.int Try.underlying3) (OpensF.cons (by kernel_rfl) (by kernel_rfl) (Opens.int Try.underlying3) (OpensF.cons (by kernel_rfl) (by kernel_rfl) (Opens.int Try.underlying3) (OpensF.cons (by kernel_rfl) (by kernel_rfl) (Opens.int Try.underlying3) (OpensF.last (by kernel_rfl) (by kernel_rfl) (Opens.int Try.underlying3)))))))))))) h0
  obtain ⟨e0, rfl, _⟩ := okWide_struct Try.underlying23 (hval 0 23 v0 rfl rfl)
  obtain ⟨l0⟩ := e0
  obtain ⟨⟨x0_0, x0_1, x0_2, x0_3, x0_4, x0_5, x0_6, x0_7, x0_8, x0_9⟩, hK0, ⟨ok0_0, ok0_1, ok0_2, ok0_3, ok0_4, ok0_5, ok0_6, ok0_7, ok0_8, ok0_9⟩⟩ := op0
  have hK0' : ((Kd.pair (Kd.int .i64) (Kd.pair (Kd.int .i64) (Kd.pair (Kd.int .i64) (Kd.pair (Kd.int .i64) (Kd.pair (Kd.int .i64) (Kd.pair (Kd.int .i64) (Kd.pair (Kd.int .i64) (Kd.pair (Kd.int .i64) (Kd.pair (Kd.int .i64) (Kd.int .i64))))))))))).K W _ l0 := hK0
  clear hK0
  obtain ⟨_, _, rfl, rfl, ⟨_, _, rfl, rfl, ⟨_, _, rfl, rfl, ⟨_, _, rfl, rfl, ⟨_, _, rfl, rfl, ⟨_, _, rfl, rfl, ⟨_, _, rfl, rfl, ⟨_, _, rfl, rfl, ⟨_, _, rfl, rfl, rfl⟩⟩⟩⟩⟩⟩⟩⟩⟩ := hK0'
  have k1 := h1
  have lt1 : ∀ x ∈ p1, x.block < W.heap.size := by obtain ⟨m, hm⟩ := k1; exact DataW.trod_lt m _ _ _ hm
  have op1 : ∃ x, (Kd.int .i64).K W x v1.cells.toList ∧ _ := Opens.trod (enc := enc) (Opens.int Try.underlying3) h1
  obtain ⟨x1, hK1, ok1⟩ := op1
  obtain ⟨z1, rfl⟩ := okWide_int Try.underlying3 (hval 1 3 v1 rfl rfl)
  have hK1' : [Value.int .i64 z1] = [.int .i64 x1] := hK1
  clear hK1
  injection hK1' with hK1 _
  injection hK1 with _ f1_1
  replace f1_1 := f1_1.symm
  subst f1_1
  have k2 := h2
  have lt2 : ∀ x ∈ p2, x.block < W.heap.size := by obtain ⟨m, hm⟩ := k2; exact DataW.trod_lt m _ _ _ hm
  have op2 : ∃ x, (Kd.slice 5 (Kd.int .u8)).K W x v2.cells.toList ∧ _ := Opens.trod (enc := enc) (Opens.slice Try.underlying24 (by kernel_rfl) (Opens.int Try.underlying5)) h2
  obtain ⟨a2, len2, cap2, rfl⟩ := okWide_slice Try.underlying24 (hval 2 24 v2 rfl rfl)
  have y2 := sized_ints (B := 1) hsz (j := 2) (t := 24) rfl rfl Try.underlying24 Try.underlying5 (by kernel_rfl) (by kernel_rfl) h2
  obtain ⟨x2, ⟨A2, c2, he2, hl2, hC2⟩, ok2⟩ := op2
  have he2' : [Value.slice a2 len2 cap2] = [.slice A2 x2.length c2] := he2
  clear he2
  injection he2' with he2 _
  injection he2 with f1_2 f2_2 f3_2
  subst f1_2; subst f2_2; subst f3_2
  clear hA0 hval0 hsz0 hsz
  obtain ⟨k_, hf_⟩ := Pure.EmitBatches x0_0 x0_1 x0_2 x0_3 x0_4 x0_5 x0_6 x0_7 x0_8 x0_9 x1 x2 ok0_0 ok0_1 ok0_2 ok0_3 ok0_4 ok0_5 ok0_6 ok0_7 ok0_8 ok0_9 ok1 ok2 y2
  have hcalls := P.volutelaw18_EmitBatches.calls (w := W) (h := hf_) (hr2 := hC2) (hc2 := hl2)
  refine hcalls.mono fun e W' ⟨he, bel⟩ => ?_
  subst he
  exact ⟨_, rfl, _, _, _, [], _, [], hW', trodAll_mk1 (shut_bool Try.underlying4 _), (trodAll_cons_mk (Below.trod laidOut (by kernel_rfl) (of_decide_eq_true (by kernel_rfl)) k0 bel lt0) (trodAll_cons_mk (Below.trod laidOut (by kernel_rfl) (of_decide_eq_true (by kernel_rfl)) k1 bel lt1) (trodAll_cons_mk (Below.trod laidOut (by kernel_rfl) (of_decide_eq_true (by kernel_rfl)) k2 bel lt2) trodAll_mk0))), rfl, bel.frame _, fun h => by cases h⟩
theorem over : Rows.emitBatchesRow.holds Try.pinned (OpenSpec.ofChange Rows.emitBatchesSpec) :=
  OpenClaim.holds_of_wide 3 Try.f3 rfl rfl rfl rfl rfl rfl rfl ⟨rfl, rfl, rfl, rfl, rfl⟩ rfl rfl rfl rfl rfl (by kernel_rfl) Try.func3 (by kernel_rfl)
    (of_decide_eq_true (by kernel_rfl)) (by unfold Func.isWrapper; first | (rw [if_pos (by decide +kernel)]; kernel_rfl) | (rw [if_neg (by decide +kernel)]; exact ⟨rfl, rfl⟩))
    (fun os started H enc _ => lifted os started H enc)
theorem proved : Rows.EmitBatchesSaid := over
end Go.Proofs.Ytlolfijadcflaaa.emitBatches
namespace Go.Proofs.Ytlolfijadcflaaa
theorem emitBatches_holds : Rows.EmitBatchesSaid := emitBatches.proved
end Go.Proofs.Ytlolfijadcflaaa
