/- The statement SendBlocksSaid of the given program holds; no conditions but the statement's own. -/
import Derived.Test.YtekojicaeadepaaRows
import Derived.Test.YtekojicaeadepaaZca85c76422
import Derived.WalkKit
import Derived.ProofKit
import Derived.OpenShut
import Derived.ShutString
import Derived.ChangeOld
import Derived.Below
import Derived.SizedLaws
set_option linter.unusedVariables false
set_option linter.unusedSimpArgs false
namespace Go.Proofs.Ytekojicaeadepaa.sendBlocks
open Go.ChangeShapes Go.WideShapes Go.ChangeAt Go.RowKit
open Go.Vm (OpA OpF Cells ints rowsA)
open Go.Proofs.Ytekojicaeadepaa.Vm
set_option linter.unusedVariables false
set_option linter.unusedSimpArgs false
theorem own : ownKnob Try.prog.godebug = none := by kernel_rfl
theorem laidOut : laidOutB Try.prog = true := by kernel_rfl
theorem ints_of {l : List (List Vm.A)} (h : ∀ c ∈ l, ∃ n, c = [Vm.A.int .u8 n] ∧ (Lit.int .u8 n).wf = true) : ∃ r, l = ints .u8 r ∧ byteL r := by
  induction l with
  | nil => exact ⟨[], rfl, fun x h => by simp at h⟩
  | cons x xs ih =>
    obtain ⟨n, rfl, hw⟩ := h x (by simp)
    obtain ⟨r, rfl, hr⟩ := ih fun c hc => h c (by simp [hc])
    refine ⟨n :: r, rfl, fun y hy => ?_⟩
    rcases List.mem_cons.1 hy with rfl | hy
    · simp only [Lit.wf, IntKind.min, IntKind.max, IntKind.signed, IntKind.bits, Bool.and_eq_true, decide_eq_true_eq, if_true, Bool.false_eq_true, if_false] at hw
      omega
    · exact hr y hy
theorem rows_of {l : List (List Vm.A)} (h : ∀ c ∈ l, ∃ l', c = [Vm.A.sl l'] ∧ l'.length ≤ maxLen ∧ ∀ c ∈ l', ∃ n, c = [Vm.A.int .u8 n] ∧ (Lit.int .u8 n).wf = true) : ∃ r, l = rowsA r ∧ ∀ x ∈ r, byteL x := by
  induction l with
  | nil => exact ⟨[], rfl, fun x h => by simp at h⟩
  | cons x xs ih =>
    obtain ⟨l', rfl, _, h3⟩ := h x (by simp)
    obtain ⟨r0, rfl, h0⟩ := ints_of h3
    obtain ⟨r, rfl, hr⟩ := ih fun c hc => h c (by simp [hc])
    refine ⟨r0 :: r, rfl, fun y hy => ?_⟩
    rcases List.mem_cons.1 hy with rfl | hy
    · exact h0
    · exact hr y hy
set_option maxRecDepth 100000 in
theorem lifted (os : Os) (started : os.Started) (H : Type) (enc : TypeId × Value → H) :
    ReturnsInHanded {} Try.checked os 6 .any (Rows.sendBlocksSpec.pre6 enc Try.prog Try.f6 Rows.sendBlocksRow.domain false) (Rows.sendBlocksSpec.post enc Try.prog Try.f6 false true false false) := by
  refine returnsInHanded_of_change_sized (C := Try.checked) own started (by kernel_rfl) Try.func6
    (ChangeSpec.witness6 (enc := enc) (C := Try.checked) false ⟨#[], #[.agg #[.int .i64 0, .int .i64 0, .int .i64 0, .int .i64 0, .int .i64 0, .int .i64 0, .int .i64 0, .int .i64 0, .int .i64 0, .int .i64 0], .slice none 0 0], []⟩ 16 (by kernel_rfl) (by kernel_rfl) (by kernel_rfl) (by kernel_rfl)) ?_
  intro W base args ds gs before hval0 hW hcnd hsz0 _
  have hval : ∀ (j : Nat) t v, Try.f6.params[j]? = some t → args[j]? = some v → Value.okWide Try.prog W .any base t v := hval0
  have hW' := hW
  obtain ⟨p, q, hA0, hV, rfl, hfz, hnd⟩ := hW
  have hA : DataW.TrodAll enc Try.prog W 0 (fun _ => true) true Try.f6.params.toList args.toList ds p := hA0
  rw [Try.params6] at hA hval
  obtain ⟨v0, vs0, d0, ds0, p0, q0, hargs, rfl, rfl, h0, r0⟩ := trodAll_cons hA
  obtain ⟨v1, vs1, d1, ds1, p1, q1, rfl, rfl, rfl, h1, r1⟩ := trodAll_cons r0
  obtain ⟨rfl, rfl, rfl⟩ := trodAll_nil r1
  obtain rfl : args = #[v0, v1] := by cases args; simp_all
  obtain ⟨rfl, rfl⟩ := trodVars_none hV
  have k0 := h0
  have lt0 : ∀ x ∈ p0, x.block < W.heap.size := by obtain ⟨m, hm⟩ := k0; exact DataW.trod_lt m _ _ _ hm
  have k1 := h1
  have lt1 : ∀ x ∈ p1, x.block < W.heap.size := by obtain ⟨m, hm⟩ := k1; exact DataW.trod_lt m _ _ _ hm
  have oI : OpA enc Try.prog W 3 1 _ := .int Try.underlying3
  have oC : OpA enc Try.prog W 23 (1 + (1 + (1 + (1 + (1 + (1 + (1 + (1 + (1 + 1))))))))) _ := .struct (fs := _) Try.underlying23 (by kernel_rfl) (.cons (by kernel_rfl) (by kernel_rfl) oI (.cons (by kernel_rfl) (by kernel_rfl) oI (.cons (by kernel_rfl) (by kernel_rfl) oI (.cons (by kernel_rfl) (by kernel_rfl) oI (.cons (by kernel_rfl) (by kernel_rfl) oI (.cons (by kernel_rfl) (by kernel_rfl) oI (.cons (by kernel_rfl) (by kernel_rfl) oI (.cons (by kernel_rfl) (by kernel_rfl) oI (.cons (by kernel_rfl) (by kernel_rfl) oI (.last (by kernel_rfl) (by kernel_rfl) oI))))))))))
  have oB : OpA enc Try.prog W 24 1 _ := .slice Try.underlying24 (by kernel_rfl) (by decide) (.int Try.underlying5)
  have oR : OpA enc Try.prog W 43 1 _ := .slice Try.underlying43 (by kernel_rfl) (by decide) oB
  obtain ⟨e0, rfl, _⟩ := okWide_struct Try.underlying23 (hval 0 23 v0 rfl rfl)
  obtain ⟨x0, _, c0, _, _, rfl, ⟨n0_0, rfl, _⟩, _, _, rfl, ⟨n0_1, rfl, _⟩, _, _, rfl, ⟨n0_2, rfl, _⟩, _, _, rfl, ⟨n0_3, rfl, _⟩, _, _, rfl, ⟨n0_4, rfl, _⟩, _, _, rfl, ⟨n0_5, rfl, _⟩, _, _, rfl, ⟨n0_6, rfl, _⟩, _, _, rfl, ⟨n0_7, rfl, _⟩, _, _, rfl, ⟨n0_8, rfl, _⟩, ⟨n0_9, rfl, _⟩⟩ := oC.trod h0
  obtain ⟨a1, len1, cap1, rfl⟩ := okWide_slice Try.underlying43 (hval 1 43 v1 rfl rfl)
  obtain ⟨x1, _, c1, l1, rfl, m1, t1⟩ := oR.trod h1
  obtain ⟨B1, rfl, g1⟩ := rows_of t1
  have m1 : B1.length ≤ 9223372036854775807 := by simpa [maxLen] using m1
  clear hA0 hval0 hsz0
  have hdo : Vm.Does Try.prog 6 [.agg (Cfg.mk n0_0 n0_1 n0_2 n0_3 n0_4 n0_5 n0_6 n0_7 n0_8 n0_9).A, .sl (rowsA B1)] (.bool true) [] := Blocks_law _ _  g1 m1
  have hcalls := hdo.row (w := W) (vs := #[.agg e0, .slice a1 len1 cap1]) rfl (by
    intro j x hj
    match j, hj with
    | 0, hj => cases hj; exact ⟨_, rfl, Cells.agg c0⟩
    | 1, hj => cases hj; exact ⟨_, rfl, Cells.tr1 c1 rfl⟩
    | j + 2, hj => simp at hj)
  refine hcalls.mono fun e W' ⟨he, bel⟩ => ?_
  subst he
  exact ⟨_, rfl, _, _, _, [], _, [], hW', trodAll_mk1 (shut_bool Try.underlying4 _), (trodAll_cons_mk (Below.trod laidOut (by kernel_rfl) (of_decide_eq_true (by kernel_rfl)) k0 bel lt0) (trodAll_cons_mk (Below.trod laidOut (by kernel_rfl) (of_decide_eq_true (by kernel_rfl)) k1 bel lt1) trodAll_mk0)), rfl, bel.frame _, fun h => by cases h⟩
theorem over : Rows.sendBlocksRow.holds Try.pinned (OpenSpec.ofChange Rows.sendBlocksSpec) :=
  OpenClaim.holds_of_wide 6 Try.f6 rfl rfl rfl rfl rfl rfl rfl ⟨rfl, rfl, rfl, rfl, rfl⟩ rfl rfl rfl rfl rfl (by kernel_rfl) Try.func6 (by kernel_rfl)
    (of_decide_eq_true (by kernel_rfl)) (by unfold Func.isWrapper; first | (rw [if_pos (by decide +kernel)]; kernel_rfl) | (rw [if_neg (by decide +kernel)]; exact ⟨rfl, rfl⟩))
    (fun os started H enc _ => lifted os started H enc)
theorem proved : Rows.SendBlocksSaid := over
end Go.Proofs.Ytekojicaeadepaa.sendBlocks
namespace Go.Proofs.Ytekojicaeadepaa
/-- The row, under a short name, for the claim. -/
theorem sendBlocks_holds : Rows.SendBlocksSaid := sendBlocks.proved
end Go.Proofs.Ytekojicaeadepaa
