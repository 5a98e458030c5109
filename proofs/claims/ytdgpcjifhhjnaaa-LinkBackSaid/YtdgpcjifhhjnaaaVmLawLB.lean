/- The statement LinkBackSaid of the given program holds; no conditions but the statement's own. -/
import Derived.Test.YtdgpcjifhhjnaaaRows
import Derived.Test.YtdgpcjifhhjnaaaVmR8n
import Derived.Test.YtdgpcjifhhjnaaaVmR
import Derived.WalkKit
import Derived.ProofKit
import Derived.OpenShut
import Derived.ShutString
import Derived.ChangeOld
import Derived.Below
import Derived.SizedLaws
namespace Go.Proofs.Ytdgpcjifhhjnaaa.linkBack
open Go.ChangeShapes Go.WideShapes Go.ChangeAt Go.RowKit
open Go.Vm (OpA OpF Cells)
open Go.Proofs.Ytdgpcjifhhjnaaa.Vm
set_option linter.unusedVariables false
set_option linter.unusedSimpArgs false
theorem own : ownKnob Try.prog.godebug = none := by kernel_rfl
theorem laidOut : laidOutB Try.prog = true := by kernel_rfl
theorem ints_of {l : List (List Vm.A)} (h : ∀ c ∈ l, ∃ n, c = [Vm.A.int .u8 n] ∧ (Lit.int .u8 n).wf = true) : ∃ r, l = ints .u8 r := by
  induction l with
  | nil => exact ⟨[], rfl⟩
  | cons x xs ih =>
    obtain ⟨n, rfl, _⟩ := h x (by simp)
    obtain ⟨r, rfl⟩ := ih fun c hc => h c (by simp [hc])
    exact ⟨n :: r, rfl⟩
theorem rows_of {l : List (List Vm.A)} (h : ∀ c ∈ l, ∃ l', c = [Vm.A.sl l'] ∧ l'.length ≤ maxLen ∧ ∀ c ∈ l', ∃ n, c = [Vm.A.int .u8 n] ∧ (Lit.int .u8 n).wf = true) : ∃ r, l = rowsA r := by
  induction l with
  | nil => exact ⟨[], rfl⟩
  | cons x xs ih =>
    obtain ⟨l', rfl, _, h3⟩ := h x (by simp)
    obtain ⟨r0, rfl⟩ := ints_of h3
    obtain ⟨r, rfl⟩ := ih fun c hc => h c (by simp [hc])
    exact ⟨r0 :: r, rfl⟩
set_option maxRecDepth 100000 in
theorem lifted (os : Os) (started : os.Started) (H : Type) (enc : TypeId × Value → H) :
    ReturnsInHanded {} Try.checked os 3 .any (Rows.linkBackSpec.pre6 enc Try.prog Try.f3 Rows.linkBackRow.domain false) (Rows.linkBackSpec.post enc Try.prog Try.f3 false true false false) := by
  refine returnsInHanded_of_change_sized (C := Try.checked) own started (by kernel_rfl) Try.func3
    (ChangeSpec.witness6 (enc := enc) (C := Try.checked) false ⟨#[], #[.agg #[.slice none 0 0, .slice none 0 0], .bool false, .slice none 0 0, .int .i64 0], []⟩ 8 (by kernel_rfl) (by kernel_rfl) (by kernel_rfl) (by kernel_rfl)) ?_
  intro W base args ds gs before hval0 hW hcnd hsz0 _
  have hval : ∀ (j : Nat) t v, Try.f3.params[j]? = some t → args[j]? = some v → Value.okWide Try.prog W .any base t v := hval0
  have hW' := hW
  obtain ⟨p, q, hA0, hV, rfl, hfz, hnd⟩ := hW
  have hA : DataW.TrodAll enc Try.prog W 0 (fun _ => true) true Try.f3.params.toList args.toList ds p := hA0
  rw [Try.params3] at hA hval
  obtain ⟨v0, vs0, d0, ds0, p0, q0, hargs, rfl, rfl, h0, r0⟩ := trodAll_cons hA
  obtain ⟨v1, vs1, d1, ds1, p1, q1, rfl, rfl, rfl, h1, r1⟩ := trodAll_cons r0
  obtain ⟨v2, vs2, d2, ds2, p2, q2, rfl, rfl, rfl, h2, r2⟩ := trodAll_cons r1
  obtain ⟨v3, vs3, d3, ds3, p3, q3, rfl, rfl, rfl, h3, r3⟩ := trodAll_cons r2
  obtain ⟨rfl, rfl, rfl⟩ := trodAll_nil r3
  obtain rfl : args = #[v0, v1, v2, v3] := by cases args; simp_all
  obtain ⟨rfl, rfl⟩ := trodVars_none hV
  have k0 := h0
  have lt0 : ∀ x ∈ p0, x.block < W.heap.size := by obtain ⟨m, hm⟩ := k0; exact DataW.trod_lt m _ _ _ hm
  have k1 := h1
  have lt1 : ∀ x ∈ p1, x.block < W.heap.size := by obtain ⟨m, hm⟩ := k1; exact DataW.trod_lt m _ _ _ hm
  have k2 := h2
  have lt2 : ∀ x ∈ p2, x.block < W.heap.size := by obtain ⟨m, hm⟩ := k2; exact DataW.trod_lt m _ _ _ hm
  have k3 := h3
  have lt3 : ∀ x ∈ p3, x.block < W.heap.size := by obtain ⟨m, hm⟩ := k3; exact DataW.trod_lt m _ _ _ hm
  have oB : OpA enc Try.prog W 25 1 _ := .slice Try.underlying25 (by kernel_rfl) (by decide) (.int Try.underlying5)
  have oR : OpA enc Try.prog W 22 1 _ := .slice Try.underlying22 (by kernel_rfl) (by decide) oB
  have oL : OpA enc Try.prog W 24 (1 + 1) _ := .struct (fs := _) Try.underlying24 (by kernel_rfl) (.cons (by kernel_rfl) (by kernel_rfl) oR (.last (by kernel_rfl) (by kernel_rfl) oR))
  obtain ⟨e0, rfl, _⟩ := okWide_struct Try.underlying24 (hval 0 24 v0 rfl rfl)
  obtain ⟨x0, _, c0, y0, z0, rfl, ⟨l0, rfl, m0, t0⟩, ⟨l1, rfl, m1, t1⟩⟩ := oL.trod h0
  obtain ⟨z1, rfl⟩ := okWide_bool Try.underlying4 (hval 1 4 v1 rfl rfl)
  obtain ⟨x1, _, c1, b1, rfl⟩ := (OpA.bool Try.underlying4 : OpA enc Try.prog W 4 1 _).trod h1
  obtain ⟨a2, len2, cap2, rfl⟩ := okWide_slice Try.underlying25 (hval 2 25 v2 rfl rfl)
  obtain ⟨x2, _, c2, l2, rfl, m2, t2⟩ := oB.trod h2
  obtain ⟨z3, rfl⟩ := okWide_int Try.underlying3 (hval 3 3 v3 rfl rfl)
  obtain ⟨x3, _, c3, n3, rfl, w3⟩ := (OpA.int Try.underlying3 : OpA enc Try.prog W 3 1 _).trod h3
  obtain ⟨D, rfl⟩ := rows_of t0
  obtain ⟨A, rfl⟩ := rows_of t1
  obtain ⟨B, rfl⟩ := ints_of t2
  clear hA0 hval0 hsz0
  have hdo : Vm.Does Try.prog 3 [lk D A, .bool b1, .sl (ints .u8 B), .int .i64 n3] (.bool true) [] := by
    have hD : D.length ≤ 9223372036854775807 := by simpa [maxLen] using m0
    have hA : A.length ≤ 9223372036854775807 := by simpa [maxLen] using m1
    have hB : B.length ≤ 9223372036854775807 := by simpa [maxLen] using m2
    cases b1 with
    | true => exact LinkBack_t hD hA hB
    | false => exact LinkBack_f hD hA hB
  have hcalls := hdo.row (w := W) (vs := #[.agg e0, .bool z1, .slice a2 len2 cap2, .int .i64 z3]) rfl (by
    intro j x hj
    match j, hj with
    | 0, hj => cases hj; exact ⟨_, rfl, Cells.agg c0⟩
    | 1, hj => cases hj; exact ⟨_, rfl, Cells.tr1 c1 rfl⟩
    | 2, hj => cases hj; exact ⟨_, rfl, Cells.tr1 c2 rfl⟩
    | 3, hj => cases hj; exact ⟨_, rfl, Cells.tr1 c3 rfl⟩
    | j + 4, hj => simp at hj)
  refine hcalls.mono fun e W' ⟨he, bel⟩ => ?_
  subst he
  exact ⟨_, rfl, _, _, _, [], _, [], hW', trodAll_mk1 (shut_bool Try.underlying4 _), (trodAll_cons_mk (Below.trod laidOut (by kernel_rfl) (of_decide_eq_true (by kernel_rfl)) k0 bel lt0) (trodAll_cons_mk (Below.trod laidOut (by kernel_rfl) (of_decide_eq_true (by kernel_rfl)) k1 bel lt1) (trodAll_cons_mk (Below.trod laidOut (by kernel_rfl) (of_decide_eq_true (by kernel_rfl)) k2 bel lt2) (trodAll_cons_mk (Below.trod laidOut (by kernel_rfl) (of_decide_eq_true (by kernel_rfl)) k3 bel lt3) trodAll_mk0)))), rfl, bel.frame _, fun h => by cases h⟩
theorem over : Rows.linkBackRow.holds Try.pinned (OpenSpec.ofChange Rows.linkBackSpec) :=
  OpenClaim.holds_of_wide 3 Try.f3 rfl rfl rfl rfl rfl rfl rfl ⟨rfl, rfl, rfl, rfl, rfl⟩ rfl rfl rfl rfl rfl (by kernel_rfl) Try.func3 (by kernel_rfl)
    (of_decide_eq_true (by kernel_rfl)) (by unfold Func.isWrapper; first | (rw [if_pos (by decide +kernel)]; kernel_rfl) | (rw [if_neg (by decide +kernel)]; exact ⟨rfl, rfl⟩))
    (fun os started H enc _ => lifted os started H enc)
theorem proved : Rows.LinkBackSaid := over
end Go.Proofs.Ytdgpcjifhhjnaaa.linkBack
namespace Go.Proofs.Ytdgpcjifhhjnaaa
/-- The row, under a short name, for the claim. -/
theorem linkBack_holds : Rows.LinkBackSaid := linkBack.proved
end Go.Proofs.Ytdgpcjifhhjnaaa
