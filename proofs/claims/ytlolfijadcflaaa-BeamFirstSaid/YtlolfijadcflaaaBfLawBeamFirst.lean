/- The statement BeamFirstSaid of the given program holds; no conditions but the statement's own. -/
import Derived.Test.YtlolfijadcflaaaRows
import Derived.Test.YtlolfijadcflaaaBfPxVolutelaw12Beamfirst
import Derived.Test.YtlolfijadcflaaaBfNodeFacts
import Derived.WalkKit
import Derived.ProofKit
import Derived.OpenShut
import Derived.ShutString
import Derived.ChangeOld
import Derived.Below
import Derived.SizedLaws
import Derived.Test.YtlolfijadcflaaaBfV
namespace Go.Proofs.Ytlolfijadcflaaa.beamFirst
open Go.ChangeShapes Go.WideShapes Go.ChangeAt Go.RowKit Go.Proofs.Ytlolfijadcflaaa.P Go.Proofs.YtlolfijadcflaaaW.PrintWords Go.Proofs.YtlolfijadcflaaaW.PrintLast Go.Proofs.YtlolfijadcflaaaW.PrintMore
open Go.ChangeMaps (open_string shut_string)
set_option linter.unusedVariables false
set_option linter.unusedSimpArgs false
theorem own : ownKnob Try.prog.godebug = none := by kernel_rfl
theorem laidOut : laidOutB Try.prog = true := by kernel_rfl
set_option maxRecDepth 100000 in
theorem lifted (os : Os) (started : os.Started) (H : Type) (enc : TypeId × Value → H) :
    ReturnsInHanded {} Try.checked os 8 .any (Rows.beamFirstSpec.pre6 enc Try.prog Try.f8 Rows.beamFirstRow.domain false) (Rows.beamFirstSpec.post enc Try.prog Try.f8 false true false false) := by
  refine returnsInHanded_of_change_sized (C := Try.checked) own started (by kernel_rfl) Try.func8
    (ChangeSpec.witness6 (enc := enc) (C := Try.checked) false ⟨#[], #[.agg #[.int .i64 0, .int .i64 0, .slice none 0 0], .int .i64 0, .int .i64 0], []⟩ 8 (by kernel_rfl) (by kernel_rfl) (by kernel_rfl) (by kernel_rfl)) ?_
  intro W base args ds gs before hval0 hW hcnd hsz0 _
  have hsz : (DataW.weightsEach Try.prog (Try.f8.params.toList ++ Rows.beamFirstSpec.plain.varTypes Try.prog) (ds ++ gs)).all (· ≤ reachBytes) = true := hsz0
  have hval : ∀ (j : Nat) t v, Try.f8.params[j]? = some t → args[j]? = some v → Value.okWide Try.prog W .any base t v := hval0
  have hW' := hW
  obtain ⟨p, q, hA0, hV, rfl, hfz, hnd⟩ := hW
  have hA : DataW.TrodAll enc Try.prog W 0 (fun _ => true) true Try.f8.params.toList args.toList ds p := hA0
  rw [Try.params8] at hA hval hsz
  obtain ⟨v0, vs0, d0, ds0, p0, q0, hargs, rfl, rfl, h0, r0⟩ := trodAll_cons hA
  obtain ⟨v1, vs1, d1, ds1, p1, q1, rfl, rfl, rfl, h1, r1⟩ := trodAll_cons r0
  obtain ⟨v2, vs2, d2, ds2, p2, q2, rfl, rfl, rfl, h2, r2⟩ := trodAll_cons r1
  obtain ⟨rfl, rfl, rfl⟩ := trodAll_nil r2
  obtain rfl : args = #[v0, v1, v2] := by cases args; simp_all
  obtain ⟨rfl, rfl⟩ := trodVars_none hV
  have k0 := h0
  have lt0 : ∀ x ∈ p0, x.block < W.heap.size := by obtain ⟨m, hm⟩ := k0; exact DataW.trod_lt m _ _ _ hm
  have op0 : ∃ x, (Kd.pair (Kd.int .i64) (Kd.pair (Kd.int .i64) (Kd.slice 132 k132))).K W x v0.cells.toList ∧ _ := Opens.trod (enc := enc) (Opens.tuple (fs := _) Try.underlying49 (by kernel_rfl) (OpensF.cons (by kernel_rfl) (by kernel_rfl) (Opens.int Try.underlying3) (OpensF.cons (by kernel_rfl) (by kernel_rfl) (Opens.int Try.underlying3) (OpensF.last (by kernel_rfl) (by kernel_rfl) (Opens.slice Try.underlying47 (by kernel_rfl) (Opens.struct (fun x : S132 => (x.f0, x.f1)) (fun p => ⟨p.1, p.2⟩) (fun _ => rfl) (fs := _) Try.underlying132 (by kernel_rfl) (OpensF.cons (by kernel_rfl) (by kernel_rfl) (Opens.int Try.underlying3) (OpensF.last (by kernel_rfl) (by kernel_rfl) (Opens.int Try.underlying3))))))))) h0
  obtain ⟨e0, rfl, _⟩ := okWide_struct Try.underlying49 (hval 0 49 v0 rfl rfl)
  obtain ⟨l0⟩ := e0
  obtain ⟨⟨x0_0, x0_1, x0_2⟩, hK0, ⟨ok0_0, ok0_1, ok0_2⟩⟩ := op0
  have hK0' : ((Kd.pair (Kd.int .i64) (Kd.pair (Kd.int .i64) (Kd.slice 132 k132)))).K W _ l0 := hK0
  clear hK0
  obtain ⟨_, _, rfl, rfl, ⟨_, _, rfl, rfl, ⟨A0_2, c0_2, rfl, hl0_2, hC0_2⟩⟩⟩ := hK0'
  have k1 := h1
  have lt1 : ∀ x ∈ p1, x.block < W.heap.size := by obtain ⟨m, hm⟩ := k1; exact DataW.trod_lt m _ _ _ hm
  have op1 : ∃ x, (Kd.int .i64).K W x v1.cells.toList ∧ _ := Opens.trod (enc := enc) (Opens.int Try.underlying3) h1
  obtain ⟨x1, hK1, ok1⟩ := op1
  obtain ⟨z1, rfl⟩ := okWide_int Try.underlying3 (hval 1 3 v1 rfl rfl)
  have hK1' : [Value.int .i64 z1] = [.int .i64 x1] := hK1
  clear hK1
  injection hK1' with hK1 _
  injection hK1 with _ f1_1
  replace f1_1 := f1_1.symm
  subst f1_1
  have k2 := h2
  have lt2 : ∀ x ∈ p2, x.block < W.heap.size := by obtain ⟨m, hm⟩ := k2; exact DataW.trod_lt m _ _ _ hm
  have op2 : ∃ x, (Kd.int .i64).K W x v2.cells.toList ∧ _ := Opens.trod (enc := enc) (Opens.int Try.underlying3) h2
  obtain ⟨x2, hK2, ok2⟩ := op2
  obtain ⟨z2, rfl⟩ := okWide_int Try.underlying3 (hval 2 3 v2 rfl rfl)
  have hK2' : [Value.int .i64 z2] = [.int .i64 x2] := hK2
  clear hK2
  injection hK2' with hK2 _
  injection hK2 with _ f1_2
  replace f1_2 := f1_2.symm
  subst f1_2
  clear hA0 hval0 hsz0 hsz
  obtain ⟨k_, hf_⟩ := Pure.BeamFirst x0_0 x0_1 x0_2 x1 x2 ok0_0 ok0_1 ok0_2 ok1 ok2
  have hcalls := P.volutelaw12_BeamFirst.calls (w := W) (h := hf_) (hr0_2 := hC0_2) (hc0_2 := hl0_2)
  refine hcalls.mono fun e W' ⟨he, bel⟩ => ?_
  subst he
  exact ⟨_, rfl, _, _, _, [], _, [], hW', trodAll_mk1 (shut_bool Try.underlying4 _), (trodAll_cons_mk (Below.trod laidOut (by kernel_rfl) (of_decide_eq_true (by kernel_rfl)) k0 bel lt0) (trodAll_cons_mk (Below.trod laidOut (by kernel_rfl) (of_decide_eq_true (by kernel_rfl)) k1 bel lt1) (trodAll_cons_mk (Below.trod laidOut (by kernel_rfl) (of_decide_eq_true (by kernel_rfl)) k2 bel lt2) trodAll_mk0))), rfl, bel.frame _, fun h => by cases h⟩
theorem over : Rows.beamFirstRow.holds Try.pinned (OpenSpec.ofChange Rows.beamFirstSpec) :=
  OpenClaim.holds_of_wide 8 Try.f8 rfl rfl rfl rfl rfl rfl rfl ⟨rfl, rfl, rfl, rfl, rfl⟩ rfl rfl rfl rfl rfl (by kernel_rfl) Try.func8 (by kernel_rfl)
    (of_decide_eq_true (by kernel_rfl)) (by unfold Func.isWrapper; first | (rw [if_pos (by decide +kernel)]; kernel_rfl) | (rw [if_neg (by decide +kernel)]; exact ⟨rfl, rfl⟩))
    (fun os started H enc _ => lifted os started H enc)
theorem proved : Rows.BeamFirstSaid := over
end Go.Proofs.Ytlolfijadcflaaa.beamFirst
namespace Go.Proofs.Ytlolfijadcflaaa
theorem beamFirst_holds : Rows.BeamFirstSaid := beamFirst.proved
end Go.Proofs.Ytlolfijadcflaaa
