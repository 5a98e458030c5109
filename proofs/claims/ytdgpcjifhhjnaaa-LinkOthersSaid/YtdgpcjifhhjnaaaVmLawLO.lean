/- The statement LinkOthersSaid of the given program holds; no conditions but the statement's own. -/
import Derived.Test.YtdgpcjifhhjnaaaRows
import Derived.Test.YtdgpcjifhhjnaaaVmR8r
import Derived.Test.YtdgpcjifhhjnaaaVmR
import Derived.WalkKit
import Derived.ProofKit
import Derived.OpenShut
import Derived.ShutString
import Derived.ChangeOld
import Derived.Below
import Derived.SizedLaws
namespace Go.Proofs.Ytdgpcjifhhjnaaa.linkOthers
open Go.ChangeShapes Go.WideShapes Go.ChangeAt Go.RowKit
open Go.Vm (OpA OpF Cells)
open Go.Proofs.Ytdgpcjifhhjnaaa.Vm
set_option linter.unusedVariables false
set_option linter.unusedSimpArgs false
theorem own : ownKnob Try.prog.godebug = none := by kernel_rfl
theorem laidOut : laidOutB Try.prog = true := by kernel_rfl
theorem u8_of {n : Int} (h : (Lit.int .u8 n).wf = true) : 0 ≤ n ∧ n < 256 := by
  simp [Lit.wf, IntKind.min, IntKind.max, IntKind.wrap, IntKind.bits, IntKind.signed] at h
  omega
theorem ints_of {l : List (List Vm.A)} (h : ∀ c ∈ l, ∃ n, c = [Vm.A.int .u8 n] ∧ (Lit.int .u8 n).wf = true) : ∃ r, l = ints .u8 r ∧ ∀ n ∈ r, 0 ≤ n ∧ n < 256 := by
  induction l with
  | nil => exact ⟨[], rfl, by simp⟩
  | cons x xs ih =>
    obtain ⟨n, rfl, hw⟩ := h x (by simp)
    obtain ⟨r, rfl, hr⟩ := ih fun c hc => h c (by simp [hc])
    refine ⟨n :: r, rfl, fun k hk => ?_⟩
    rcases List.mem_cons.1 hk with rfl | hk
    · exact u8_of hw
    · exact hr k hk
theorem rows_of {l : List (List Vm.A)} (h : ∀ c ∈ l, ∃ l', c = [Vm.A.sl l'] ∧ l'.length ≤ maxLen ∧ ∀ c ∈ l', ∃ n, c = [Vm.A.int .u8 n] ∧ (Lit.int .u8 n).wf = true) : ∃ r, l = rowsA r ∧ ∀ x ∈ r, ∀ n ∈ x, 0 ≤ n ∧ n < 256 := by
  induction l with
  | nil => exact ⟨[], rfl, by simp⟩
  | cons x xs ih =>
    obtain ⟨l', rfl, _, h3⟩ := h x (by simp)
    obtain ⟨r0, rfl, hr0⟩ := ints_of h3
    obtain ⟨r, rfl, hr⟩ := ih fun c hc => h c (by simp [hc])
    refine ⟨r0 :: r, rfl, fun k hk => ?_⟩
    rcases List.mem_cons.1 hk with rfl | hk
    · exact hr0
    · exact hr k hk
theorem law {D A : List (List Int)} {m : List Int} {b : Bool} {i cut : Int} (hD : D.length ≤ 9223372036854775807) (hA : A.length ≤ 9223372036854775807) (hm : m.length ≤ 9223372036854775807)
    (bD : ∀ x ∈ D, ∀ n ∈ x, 0 ≤ n ∧ n < 256) (bA : ∀ x ∈ A, ∀ n ∈ x, 0 ≤ n ∧ n < 256) : Vm.Does Try.prog 5 [lk D A, .bool b, .int .i64 i, .int .i64 cut, .sl (ints .u8 m)] (.bool true) [] := by
  have mem : ∀ (l : List (List Int)) (k : Nat), k < l.length → l.getD k [] ∈ l := fun l k hk => by
    simp only [List.getD_eq_getElem?_getD, List.getElem?_eq_getElem hk, Option.getD_some]
    exact List.getElem_mem _
  cases b with
  | true =>
    by_cases h : Out_ i A.length
    · exact OthersNone_t hD hA hm h
    · unfold Out_ at h
      obtain ⟨k, rfl⟩ : ∃ k : Nat, i = (k : Int) := ⟨i.toNat, by omega⟩
      have hk : k < A.length := by omega
      exact OthersSome_t hD hA hm hk (bA _ (mem A k hk))
  | false =>
    by_cases h : Out_ i D.length
    · exact OthersNone_f hD hA hm h
    · unfold Out_ at h
      obtain ⟨k, rfl⟩ : ∃ k : Nat, i = (k : Int) := ⟨i.toNat, by omega⟩
      have hk : k < D.length := by omega
      exact OthersSome_f hD hA hm hk (bD _ (mem D k hk))
set_option maxRecDepth 100000 in
theorem lifted (os : Os) (started : os.Started) (H : Type) (enc : TypeId × Value → H) :
    ReturnsInHanded {} Try.checked os 5 .any (Rows.linkOthersSpec.pre6 enc Try.prog Try.f5 Rows.linkOthersRow.domain false) (Rows.linkOthersSpec.post enc Try.prog Try.f5 false true false false) := by
  refine returnsInHanded_of_change_sized (C := Try.checked) own started (by kernel_rfl) Try.func5
    (ChangeSpec.witness6 (enc := enc) (C := Try.checked) false ⟨#[], #[.agg #[.slice none 0 0, .slice none 0 0], .bool false, .int .i64 0, .int .i64 0, .slice none 0 0], []⟩ 8 (by kernel_rfl) (by kernel_rfl) (by kernel_rfl) (by kernel_rfl)) ?_
  intro W base args ds gs before hval0 hW hcnd hsz0 _
  have hval : ∀ (j : Nat) t v, Try.f5.params[j]? = some t → args[j]? = some v → Value.okWide Try.prog W .any base t v := hval0
  have hW' := hW
  obtain ⟨p, q, hA0, hV, rfl, hfz, hnd⟩ := hW
  have hA : DataW.TrodAll enc Try.prog W 0 (fun _ => true) true Try.f5.params.toList args.toList ds p := hA0
  rw [Try.params5] at hA hval
  obtain ⟨v0, vs0, d0, ds0, p0, q0, hargs, rfl, rfl, h0, r0⟩ := trodAll_cons hA
  obtain ⟨v1, vs1, d1, ds1, p1, q1, rfl, rfl, rfl, h1, r1⟩ := trodAll_cons r0
  obtain ⟨v2, vs2, d2, ds2, p2, q2, rfl, rfl, rfl, h2, r2⟩ := trodAll_cons r1
  obtain ⟨v3, vs3, d3, ds3, p3, q3, rfl, rfl, rfl, h3, r3⟩ := trodAll_cons r2
  obtain ⟨v4, vs4, d4, ds4, p4, q4, rfl, rfl, rfl, h4, r4⟩ := trodAll_cons r3
  obtain ⟨rfl, rfl, rfl⟩ := trodAll_nil r4
  obtain rfl : args = #[v0, v1, v2, v3, v4] := by cases args; simp_all
  obtain ⟨rfl, rfl⟩ := trodVars_none hV
  have k0 := h0
  have lt0 : ∀ x ∈ p0, x.block < W.heap.size := by obtain ⟨m, hm⟩ := k0; exact DataW.trod_lt m _ _ _ hm
  have k1 := h1
  have lt1 : ∀ x ∈ p1, x.block < W.heap.size := by obtain ⟨m, hm⟩ := k1; exact DataW.trod_lt m _ _ _ hm
  have k2 := h2
  have lt2 : ∀ x ∈ p2, x.block < W.heap.size := by obtain ⟨m, hm⟩ := k2; exact DataW.trod_lt m _ _ _ hm
  have k3 := h3
  have lt3 : ∀ x ∈ p3, x.block < W.heap.size := by obtain ⟨m, hm⟩ := k3; exact DataW.trod_lt m _ _ _ hm
  have k4 := h4
  have lt4 : ∀ x ∈ p4, x.block < W.heap.size := by obtain ⟨m, hm⟩ := k4; exact DataW.trod_lt m _ _ _ hm
  have oB : OpA enc Try.prog W 25 1 _ := .slice Try.underlying25 (by kernel_rfl) (by decide) (.int Try.underlying5)
  have oR : OpA enc Try.prog W 22 1 _ := .slice Try.underlying22 (by kernel_rfl) (by decide) oB
  have oL : OpA enc Try.prog W 24 (1 + 1) _ := .struct (fs := _) Try.underlying24 (by kernel_rfl) (.cons (by kernel_rfl) (by kernel_rfl) oR (.last (by kernel_rfl) (by kernel_rfl) oR))
  obtain ⟨e0, rfl, _⟩ := okWide_struct Try.underlying24 (hval 0 24 v0 rfl rfl)
  obtain ⟨x0, _, c0, y0, z0, rfl, ⟨l0, rfl, m0, t0⟩, ⟨l1, rfl, m1, t1⟩⟩ := oL.trod h0
  obtain ⟨z1, rfl⟩ := okWide_bool Try.underlying4 (hval 1 4 v1 rfl rfl)
  obtain ⟨x1, _, c1, b1, rfl⟩ := (OpA.bool Try.underlying4 : OpA enc Try.prog W 4 1 _).trod h1
  obtain ⟨z2, rfl⟩ := okWide_int Try.underlying3 (hval 2 3 v2 rfl rfl)
  obtain ⟨x2, _, c2, n2, rfl, w2⟩ := (OpA.int Try.underlying3 : OpA enc Try.prog W 3 1 _).trod h2
  obtain ⟨z3, rfl⟩ := okWide_int Try.underlying3 (hval 3 3 v3 rfl rfl)
  obtain ⟨x3, _, c3, n3, rfl, w3⟩ := (OpA.int Try.underlying3 : OpA enc Try.prog W 3 1 _).trod h3
  obtain ⟨a4, len4, cap4, rfl⟩ := okWide_slice Try.underlying25 (hval 4 25 v4 rfl rfl)
  obtain ⟨x4, _, c4, l4, rfl, m4, t4⟩ := oB.trod h4
  obtain ⟨D, rfl, bD⟩ := rows_of t0
  obtain ⟨A, rfl, bA⟩ := rows_of t1
  obtain ⟨B, rfl, _⟩ := ints_of t4
  clear hA0 hval0 hsz0
  have hdo : Vm.Does Try.prog 5 [lk D A, .bool b1, .int .i64 n2, .int .i64 n3, .sl (ints .u8 B)] (.bool true) [] :=
    law (by simpa [maxLen] using m0) (by simpa [maxLen] using m1) (by simpa [maxLen] using m4) bD bA
  have hcalls := hdo.row (w := W) (vs := #[.agg e0, .bool z1, .int .i64 z2, .int .i64 z3, .slice a4 len4 cap4]) rfl (by
    intro j x hj
    match j, hj with
    | 0, hj => cases hj; exact ⟨_, rfl, Cells.agg c0⟩
    | 1, hj => cases hj; exact ⟨_, rfl, Cells.tr1 c1 rfl⟩
    | 2, hj => cases hj; exact ⟨_, rfl, Cells.tr1 c2 rfl⟩
    | 3, hj => cases hj; exact ⟨_, rfl, Cells.tr1 c3 rfl⟩
    | 4, hj => cases hj; exact ⟨_, rfl, Cells.tr1 c4 rfl⟩
    | j + 5, hj => simp at hj)
  refine hcalls.mono fun e W' ⟨he, bel⟩ => ?_
  subst he
  exact ⟨_, rfl, _, _, _, [], _, [], hW', trodAll_mk1 (shut_bool Try.underlying4 _), (trodAll_cons_mk (Below.trod laidOut (by kernel_rfl) (of_decide_eq_true (by kernel_rfl)) k0 bel lt0) (trodAll_cons_mk (Below.trod laidOut (by kernel_rfl) (of_decide_eq_true (by kernel_rfl)) k1 bel lt1) (trodAll_cons_mk (Below.trod laidOut (by kernel_rfl) (of_decide_eq_true (by kernel_rfl)) k2 bel lt2) (trodAll_cons_mk (Below.trod laidOut (by kernel_rfl) (of_decide_eq_true (by kernel_rfl)) k3 bel lt3) (trodAll_cons_mk (Below.trod laidOut (by kernel_rfl) (of_decide_eq_true (by kernel_rfl)) k4 bel lt4) trodAll_mk0))))), rfl, bel.frame _, fun h => by cases h⟩
theorem over : Rows.linkOthersRow.holds Try.pinned (OpenSpec.ofChange Rows.linkOthersSpec) :=
  OpenClaim.holds_of_wide 5 Try.f5 rfl rfl rfl rfl rfl rfl rfl ⟨rfl, rfl, rfl, rfl, rfl⟩ rfl rfl rfl rfl rfl (by kernel_rfl) Try.func5 (by kernel_rfl)
    (of_decide_eq_true (by kernel_rfl)) (by unfold Func.isWrapper; first | (rw [if_pos (by decide +kernel)]; kernel_rfl) | (rw [if_neg (by decide +kernel)]; exact ⟨rfl, rfl⟩))
    (fun os started H enc _ => lifted os started H enc)
theorem proved : Rows.LinkOthersSaid := over
end Go.Proofs.Ytdgpcjifhhjnaaa.linkOthers
namespace Go.Proofs.Ytdgpcjifhhjnaaa
/-- The row, under a short name, for the claim. -/
theorem linkOthers_holds : Rows.LinkOthersSaid := linkOthers.proved
end Go.Proofs.Ytdgpcjifhhjnaaa
